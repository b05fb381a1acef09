/- Walks and plain laws for the law FnHomomorphismMonotonicity, part 4 of 7: the texts HG8, HL10, HG16, HG17, HD5, HJ8, HRegH in one. No condition. -/
import Derived.Test.YtngjhblbpapjeaaZFnHomomorphismMonotonicity3
/- Walks: the draw of any instance. What is told: sizes and ranges. No condition. -/
namespace Go.Proofs.Ytngjhblbpapjeaa.H
open Go Go.RowKit Go.Proofs.YtngjhblbpapjeaaW.PrintWords Go.Proofs.YtngjhblbpapjeaaW.PrintLast
open Go.Proofs.Ytngjhblbpapjeaa.Reg (On on_draw)
set_option maxHeartbeats 4000000
set_option maxRecDepth 100000
set_option linter.unusedVariables false
set_option linter.unusedSimpArgs false

theorem l5Any_calls (w0 w : World) (q : Nat) (hC : Cu w0 w q) :
    Calls Try.prog 126 #[.pointer (some ⟨q, 0, none⟩)] w (Dr w0 w q (AnyI w.heap.size)) := by
  have hC' := Aside0.mk hC
  have hqw := Aside0.mk hC.lt
  have hq0 := Aside0.mk hC.lo
  have hb0 := Aside0.mk (On.alloc (On.refl w) (.cells #[.slice none 0 0, .slice none 0 0] 32 (0, 0)))
  have hl0 := Aside0.mk (loc_new w #[.slice none 0 0, .slice none 0 0] 32)
  clear hC
  go_enter Try.func126, Try.ntmps126
  go_wp2_with (go_at_call 142; refine Stop.out ?_)
  refine ⟨(l5Target_calls w0 _ q (hC'.out.next hb0.out) 5 (by omega) (by omega) 3 (by omega) (by omega)).mono ?_⟩
  rintro e w1 ⟨v, rfl, ⟨fs, hI, ha, hl, hm⟩, hC1, hE1⟩
  obtain ⟨vr, vf, hs, rfl, hIW⟩ := IW.of (g := w1.heap.size) (lo := w.heap.size + 1) hI (by simp) (.inl (Nat.le_refl _))
  obtain ⟨A0, d0, rfl⟩ := own_slice hIW.r
  obtain ⟨A1, d1, rfl⟩ := own_slice hIW.f
  have hla := Aside0.mk hIW.s.len
  rw [hla.out] at hIW
  have hI1 := Aside0.mk hIW
  have hfa := Aside0.mk ha
  have hfl := Aside0.mk (show fs.length ≤ 5 ∧ ∀ f ∈ fs, f.2.length ≤ 2 from ⟨by omega, hm⟩)
  have hC1' := Aside0.mk hC1
  have hE1' := Aside0.mk ((Ex.of_on (S := fun b => b = q) hb0.out).trans hE1 fun _ _ h => h)
  have hr1 := Aside0.mk (blk_ex hE1 hl0.out (by have := hqw.out; omega))
  rw [hla.out]
  clear hC1 hE1 hI hIW ha hl hm
  have hfill := alloc_fill w1
  go_wp2_with (go_at_call 143; refine Stop.out ?_)
  refine ⟨?_⟩
  clear hfill
  obtain ⟨wa, hwa⟩ : ∃ wa, w1.alloc (.cells #[.slice A0 sigs.length d0, .slice A1 fs.length d1] 32 (0, 0)) = wa := ⟨_, rfl⟩
  have hl3 := Aside0.mk (show wa.heap[w1.heap.size]? = some (.cells #[.slice A0 sigs.length d0, .slice A1 fs.length d1] 32 (0, 0)) from hwa ▸ loc_new w1 _ _)
  have hba := Aside0.mk (show On w1 wa from hwa ▸ On.alloc (On.refl _) _)
  rw [hwa]
  clear hwa
  have hgg := Aside0.mk (show w.heap.size < w1.heap.size from blk_lt hr1.out)
  obtain ⟨g3, hg3⟩ : ∃ g3, w1.heap.size = g3 := ⟨_, rfl⟩
  rw [hg3] at hl3 hgg hI1 ⊢
  clear hg3
  refine (l1Once_calls w0 _ q (hC1'.out.next hba.out) 2 (by omega) (by omega)).mono ?_
  rintro e w2 ⟨v, rfl, ⟨b, rfl⟩, hC2, hE2⟩
  have hC2' := Aside0.mk hC2
  have hE2a := Aside0.mk ((Ex.of_on (S := fun b => b = q) hba.out).trans hE2 fun _ _ h => h)
  have hr2 := Aside0.mk (blk_ex hE2a.out hr1.out (by have := hqw.out; omega))
  have hb2 := Aside0.mk (blk_ex hE2 hl3.out (by have := hqw.out; have := hgg.out; omega))
  have hE2' := Aside0.mk (hE1'.out.trans hE2a.out fun _ _ h => h)
  have hI2 := Aside0.mk (hI1.out.ex hE2a.out fun b hb => .inl (by have := hqw.out; omega))
  clear hC2 hE2
  cases b with
  | false =>
    go_wp2_with (go_at_call 147; refine Stop.out ?_)
    refine ⟨?_⟩
    have hCx := Aside0.mk hC2'.out
    have hIW := Aside0.mk hI2.out
    have hbx := Aside0.mk hb2.out
    have hrx := Aside0.mk hr2.out
    have hEx := Aside0.mk hE2'.out
    have hfl0 := hfl.out
    clear hfl
    have hfl := Aside0.mk (show fs.length ≤ 100 ∧ ∀ f ∈ fs, f.2.length ≤ 3 from ⟨by omega, fun f hf => by have := hfl0.2 f hf; omega⟩)
    clear hfl0
    as_aux_lemma =>
      refine (l1Below_calls w0 _ q hCx.out 14 (by omega) (by omega)).mono ?_
      rintro e w8 ⟨v, rfl, ⟨x, rfl, hx⟩, hC8, hE8⟩
      have hC8' := Aside0.mk hC8
      have hq1 := Aside0.mk (show q < w.heap.size + 1 by have := hqw.out; omega)
      have hI8 := Aside0.mk (hIW.out.ex hE8 fun b hb => .inl (by have := hq1.out; omega))
      have hb8 := Aside0.mk (blk_ex hE8 hbx.out (by have := hqw.out; have := hgg.out; omega))
      have hr8 := Aside0.mk (blk_ex hE8 hrx.out (by have := hqw.out; omega))
      have hE8' := Aside0.mk (hEx.out.trans hE8 fun _ _ h => h)
      have hS3 := Aside0.mk (show ∀ b, (b ≤ w.heap.size ∨ b = g3) → b < w.heap.size + 1 ∨ b = g3 from fun b hb => by have := hqw.out; omega)
      clear hC8 hE8 hx
      have hd0 := blk_cell hb8.out
      have hf0 := blk_frozen hb8.out
      by_cases hx0 : x = 0
      · subst hx0
        go_wp2
        refine Reg.regionG (fun w' => w'.heap[g3]? = some (.cells #[.slice A0 sigs.length d0, .slice A1 fs.length d1] 32 (0, 0))) [0,1,2] [3,4,5,6,7] 7 (by kernel_rfl) (by kernel_rfl) hb8.out ?_
        repeat refine Reg.sG ?_
        refine Reg.startG ?_
        obtain ⟨w9, hw9⟩ : ∃ w9, ({ w8 with drawn := w8.drawn + 1 } : World) = w9 := ⟨_, rfl⟩
        have hS9 := Aside0.mk (show On w8 w9 from (hw9 ▸ on_draw w8))
        rw [hw9]
        clear hw9 hd0 hf0
        refine Reg.tG ?_
        go_wp2_with (go_at_call 148; refine Stop.out ?_)
        refine ⟨(l4Any_calls w0 _ q (hC8'.out.next hS9.out)).mono ?_⟩
        rintro e wa ⟨v, rfl, ⟨f, hO, hf3⟩, hCa, hEa⟩
        obtain ⟨va, rfl, hO, hIr⟩ := hO.out
        obtain ⟨Aa, ca, rfl⟩ := own_slice hO
        have hlo9 := Aside0.mk (show w.heap.size + 1 ≤ w9.heap.size ∧ g3 < w9.heap.size ∧ q < w9.heap.size from ⟨blk_lt (blk_below hr8.out hS9.out), blk_lt (blk_below hb8.out hS9.out), (hC8'.out.next hS9.out).lt⟩)
        have hOa := Aside0.mk hO
        have hIr' := Aside0.mk hIr
        have hf3' := Aside0.mk hf3
        have hCa' := Aside0.mk hCa
        have hEa' := Aside0.mk ((Ex.of_on (S := fun b => b = q) hS9.out).trans hEa fun _ _ h => h)
        have hba := Aside0.mk (blk_ex hEa'.out hb8.out (by have := hqw.out; have := hgg.out; omega))
        have hra := Aside0.mk (blk_ex hEa'.out hr8.out (by have := hqw.out; omega))
        have hIa := Aside0.mk (hI8.out.ex hEa'.out fun b hb => .inl (by have := hq1.out; omega))
        clear hCa hEa hO hIr hf3
        go_wp2
        refine ⟨hba.out, ?_⟩
        refine Reg.tG ?_
        go_wp2
        obtain ⟨wb, hwb⟩ : ∃ wb, wa.alloc (.cells #[.int .i64 f.1, .slice Aa f.2.length ca] 55 (0, 0)) = wb := ⟨_, rfl⟩
        have hSb := Aside0.mk (show On wa wb from hwb ▸ On.alloc (On.refl _) _)
        have hRb := Aside0.mk (show RH wb (some ⟨wa.heap.size, 0, none⟩) 1 [(f.1, Aa, f.2.length, ca)] from lit_RH (hwb ▸ On.refl _))
        have hIb := Aside0.mk (hIa.out.on hSb.out)
        have hbb := Aside0.mk (blk_below hba.out hSb.out)
        have hrb := Aside0.mk (blk_below hra.out hSb.out)
        try rw [hwb]
        clear hwb
        refine ⟨hbb.out, ?_⟩
        refine Reg.tG ?_
        obtain ⟨zs, hzs⟩ : ∃ zs, hs ++ [((f.1, Aa, f.2.length, ca) : Hdr)] = zs := ⟨_, rfl⟩
        have hhl := Aside0.mk hIb.out.s.len
        refine apH 37 hzs hIb.out.f hRb.out (by have := blk_lt hrb.out; omega) (by have := hhl.out; have := hfl.out.1; simp; omega) (fun v11 w11 hO11 hg11 => ?_)
        have hO11' := Aside0.mk hO11
        have hGr := Aside0.mk (Ex.of_grown hg11)
        have hb11 := Aside0.mk (blk_ex hGr.out hbb.out (fun e => hIb.out.nf _ e.symm rfl))
        have hr11 := Aside0.mk (blk_ex hGr.out hrb.out (fun e => by have := own_base hIb.out.f _ e.symm; omega))
        clear hO11 hg11
        obtain ⟨A11, c11, rfl⟩ := own_slice hO11'.out
        refine ⟨hb11.out, ?_⟩
        have hd6 := blk_cell hb11.out
        have hf6 := blk_frozen hb11.out
        simp only [Act.put, List.setIfInBounds_toArray, List.set_cons_zero, List.set_cons_succ]
        refine Reg.tG ?_
        go_wp2
        refine ⟨hb11.out, ?_⟩
        refine Reg.tE ?_
        have hx11 := Aside0.mk (show (w11.setCell ⟨g3, 1, none⟩ (.slice A11 zs.length c11)).heap[w.heap.size]? = _ from blk_far hr11.out (by show ¬ _; simp; have := hgg.out; omega) _)
        have hy11 := Aside0.mk (blk_set hb11.out 1 (.slice A11 zs.length c11))
        have hd1 := blk_cell hx11.out
        have hf1 := blk_frozen hx11.out
        go_wp2
        refine bodyPost_ret (retI rfl rfl (g := w.heap.size) (blk_set (blk_set hx11.out 0 _) 1 _) rfl) rfl ?_
        have EX := Ex.set w11 ⟨g3, 1, none⟩ (.slice A11 zs.length c11)
        have hb1 := hgg.out
        have hb2 := hqw.out
        have hb3 := hq0.out
        have hb4 := hlo9.out
        have hzl : zs.length = (fs ++ [f]).length := by rw [← hzs]; simp; exact hhl.out
        have hRS : RS (fun b => b ≤ w.heap.size ∨ b = g3) w11 (.agg #[.slice A0 sigs.length d0, .slice A11 zs.length c11]) sigs (fs ++ [f]) := by
          have hIo := own_ex (pw_own_below hOa.out hSb.out) hGr.out (fun i hi e => own_ne_blk (pw_own_below hOa.out hSb.out) hIb.out.f (by decide) hi e.symm)
          refine ⟨A0, d0, A11, c11, zs, by rw [hzl], fun w' k => ⟨?_, ?_, ?_⟩⟩
          · have h1 := own_ex hIb.out.r hGr.out (fun i hi e => own_ne_blk hIb.out.r hIb.out.f (by decide) hi e.symm)
            exact (OR.same (own_ex h1 k (fun i hi e => by have := own_base h1 i hi; have := hIb.out.nr i hi; have := hS3.out i e; omega))).2
          · exact (OH.rh (own_ex hO11'.out k (fun i hi e => by have := own_base hO11'.out i hi; have := own_off hO11'.out hb11.out (by decide) i hi; have := hS3.out i e; omega))).2
          · rw [← hzs]
            refine Reads.append ?_ (Reads.one rfl rfl (OI.same (own_ex hIo k (fun i hi e => by have := own_base hOa.out i hi; omega)) hIr'.out).2)
            have h1 : Sep w11 (w.heap.size + 1) hs fs := hIb.out.s.ex hGr.out (fun i a b ha hb e => by
              have hi : i < fs.length := by rw [← hIb.out.s.len]; exact (List.getElem?_eq_some_iff.1 ha).1
              exact own_ne_blk (hIb.out.s.at_ i a fs[i] ha (List.getElem?_eq_getElem hi)).2.1 hIb.out.f (by decide) hb e.symm)
            exact (h1.ex k (fun i a b ha hb e => by have := (h1.lt ha hb).1; have := hIb.out.ns i a b ha hb; have := hS3.out b e; omega)).reads
        have hCE := ((hCa'.out.next hSb.out).ex hGr.out (fun b hb => by have := own_base hIb.out.f b hb.symm; omega)).ex EX (fun b hb => by have e' : b = g3 := hb; omega)
        have hEE := (((hE8'.out.trans hEa'.out fun _ _ h => h).then_on hSb.out).trans hGr.out (fun i hi h => by have := own_base hIb.out.f i h.symm; omega)).trans EX (fun i hi h => by have e' : i = g3 := h; omega)
        exact inst_end hqw.out hq0.out ((hRS.ex (EX.mono fun _ h => .inr h)).mono fun b h => .inl h) (by show 5 ≤ 5; omega) (by have := hfl.out.1; simp; omega) (fun g hg => (List.mem_append.1 hg).elim (fun h => hfl.out.2 g h) (fun h => by rw [List.mem_singleton.1 h]; exact hf3'.out)) hCE hEE
      · by_cases hx1 : x = 1
        · subst hx1
          obtain ⟨hcA, hRA⟩ := OR.same hI8.out.r
          have hcap := Aside0.mk hRA.1
          go_wp2_with (refine gate 43 ?_)
          refine ⟨slR 43 (k := 1) (A := A0) (n := sigs.length) (c := d0) (by show 1 ≤ 5; omega) hcap.out ?_⟩
          obtain ⟨Ac, hAc⟩ : ∃ Ac, (if d0 = 1 then A0 else A0.map (·.add (1 * 3))) = Ac := ⟨_, rfl⟩
          obtain ⟨dc, hdc⟩ : ∃ dc, d0 - 1 = dc := ⟨_, rfl⟩
          have hRS := Aside0.mk (show RS (fun b => b ≤ w.heap.size ∨ b = g3) w8 (.agg #[.slice Ac (sigs.length - 1) dc, .slice A1 fs.length d1]) (sigs.drop 1) fs from by
            refine ⟨Ac, dc, A1, d1, hs, rfl, fun w' k => ?_⟩
            have h' := hI8.out.ex k hS3.out
            refine ⟨?_, (OH.rh h'.f).2, h'.s.reads⟩
            rw [← hAc, ← hdc]
            exact drop1 (OR.same h'.r).2 (by show 1 ≤ 5; omega))
          rw [hAc, hdc]
          clear hAc hdc hcA hRA
          obtain ⟨m4, hm4⟩ : ∃ m4, sigs.length - 1 = m4 := ⟨_, rfl⟩
          rw [hm4] at hRS ⊢
          clear hm4
          simp only [Act.put, List.setIfInBounds_toArray, List.set_cons_zero, List.set_cons_succ]
          have hx8 := Aside0.mk (show (w8.setCell ⟨g3, 0, none⟩ (.slice Ac m4 dc)).heap[w.heap.size]? = _ from blk_far hr8.out (by show ¬ _; simp; have := hgg.out; omega) _)
          have hd1 := blk_cell hx8.out
          have hf1 := blk_frozen hx8.out
          go_wp2
          refine bodyPost_ret (retI rfl rfl (g := w.heap.size) (blk_set (blk_set hx8.out 0 _) 1 _) rfl) rfl ?_
          have EX := Ex.set w8 ⟨g3, 0, none⟩ (.slice Ac m4 dc)
          have hb1 := hgg.out
          have hb2 := hqw.out
          have hb3 := hq0.out
          exact inst_end hqw.out hq0.out ((hRS.out.ex (EX.mono fun _ h => .inr h)).mono fun b h => .inl h) (by show 4 ≤ 5; omega) (by have := hfl.out.1; omega) hfl.out.2 (hC8'.out.ex EX (fun b hb => by have e' : b = g3 := hb; omega)) (hE8'.out.trans EX (fun i hi h => by have e' : i = g3 := h; omega))
        · by_cases hx2 : x = 2
          · subst hx2
            go_wp2
            refine Reg.regionG (fun w' => w'.heap[g3]? = some (.cells #[.slice A0 sigs.length d0, .slice A1 fs.length d1] 32 (0, 0))) [0,1,2,4] [3,5,6,7] 7 (by kernel_rfl) (by kernel_rfl) hb8.out ?_
            repeat refine Reg.sG ?_
            refine Reg.startG ?_
            obtain ⟨w9, hw9⟩ : ∃ w9, ({ w8 with drawn := w8.drawn + 1 } : World) = w9 := ⟨_, rfl⟩
            have hS9 := Aside0.mk (show On w8 w9 from (hw9 ▸ on_draw w8))
            rw [hw9]
            clear hw9 hd0 hf0
            refine Reg.tG ?_
            go_wp2_with (go_at_call 147; refine Stop.out ?_)
            refine ⟨(l1Below_calls w0 _ q (hC8'.out.next hS9.out) 5 (by omega) (by omega)).mono ?_⟩
            rintro e wa ⟨v, rfl, ⟨y, rfl, hy⟩, hCa, hEa⟩
            obtain ⟨k, rfl⟩ := Int.eq_ofNat_of_zero_le hy.1
            have hk := Aside0.mk (show k < sigs.length by show k < 5; omega)
            have hCa' := Aside0.mk hCa
            have hEa' := Aside0.mk ((Ex.of_on (S := fun b => b = q) hS9.out).trans hEa fun _ _ h => h)
            have hba := Aside0.mk (blk_ex hEa'.out hb8.out (by have := hqw.out; have := hgg.out; omega))
            clear hCa hEa hy
            go_wp2
            refine ⟨hba.out, ?_⟩
            refine Reg.tG ?_
            go_wp2_with (go_at_call 149; refine Stop.out ?_)
            refine ⟨(l3One_calls w0 _ q hCa'.out).mono ?_⟩
            rintro e wb ⟨v, rfl, ⟨r, rfl⟩, hCb, hEb⟩
            have hCb' := Aside0.mk hCb
            have hEb' := Aside0.mk (hEa'.out.trans hEb fun _ _ h => h)
            have hbb := Aside0.mk (blk_ex hEb'.out hb8.out (by have := hqw.out; have := hgg.out; omega))
            have hrb := Aside0.mk (blk_ex hEb'.out hr8.out (by have := hqw.out; omega))
            have hIb := Aside0.mk (hI8.out.ex hEb'.out fun b hb => .inl (by have := hq1.out; omega))
            clear hCb hEb
            obtain ⟨gr, hgA, hgo, ⟨z0, hz0⟩, ⟨z1, hz1⟩, ⟨z2, hz2⟩, hfz, hset⟩ := hIb.out.r.setAt hk.out
            have hset' := Aside0.mk (hset r)
            have hgo' := Aside0.mk hgo
            have hgr := Aside0.mk (show w.heap.size + 1 ≤ gr ∧ gr ≠ g3 from ⟨own_base hIb.out.r gr hgo, hIb.out.nr gr hgo⟩)
            have hkb := hk.out
            clear hset hgo
            subst hgA
            go_wp2
            refine ⟨hbb.out, ?_⟩
            refine Reg.tG ?_
            go_wp2
            refine ⟨hbb.out, ?_⟩
            refine Reg.tE ?_
            obtain ⟨X, hX⟩ : ∃ X, ((wb.setCell ⟨gr, k * 3, none⟩ (.string r.1)).setCell ⟨gr, k * 3 + 1, none⟩ (.int .i64 r.2.1)).setCell ⟨gr, k * 3 + 2, none⟩ (.bool r.2.2) = X := ⟨_, rfl⟩
            have hX' := Aside0.mk hX
            have n1 : ¬ gr = g3 := hgr.out.2
            have n2 : ¬ gr = w.heap.size := by have := hgr.out.1; omega
            have hy11 := Aside0.mk (show (((wb.setCell ⟨gr, k * 3, none⟩ (.string r.1)).setCell ⟨gr, k * 3 + 1, none⟩ (.int .i64 r.2.1)).setCell ⟨gr, k * 3 + 2, none⟩ (.bool r.2.2)).heap[g3]? = _ from blk_far (blk_far (blk_far hbb.out (fun e => n1 e.symm) _) (fun e => n1 e.symm) _) (fun e => n1 e.symm) _)
            have hx11 := Aside0.mk (show (((wb.setCell ⟨gr, k * 3, none⟩ (.string r.1)).setCell ⟨gr, k * 3 + 1, none⟩ (.int .i64 r.2.1)).setCell ⟨gr, k * 3 + 2, none⟩ (.bool r.2.2)).heap[w.heap.size]? = _ from blk_far (blk_far (blk_far hrb.out (fun e => n2 e.symm) _) (fun e => n2 e.symm) _) (fun e => n2 e.symm) _)
            have hd0 := blk_cell hy11.out
            have hd1 := blk_cell hx11.out
            have hf1 := blk_frozen hx11.out
            clear hX n1 n2
            go_wp2
            refine bodyPost_ret (retI rfl rfl (g := w.heap.size) (blk_set (blk_set hx11.out 0 _) 1 _) rfl) rfl ?_
            have EX := ((Ex.set wb ⟨gr, k * 3, none⟩ (.string r.1)).trans (Ex.set _ ⟨gr, k * 3 + 1, none⟩ (.int .i64 r.2.1)) (fun _ _ h => h)).trans (Ex.set _ ⟨gr, k * 3 + 2, none⟩ (.bool r.2.2)) (fun _ _ h => h)
            have hb1 := hgr.out.1
            have hb2 := hqw.out
            have hb3 := hq0.out
            have hRS : RS (fun b => b ≤ w.heap.size ∨ b = g3) (((wb.setCell ⟨gr, k * 3, none⟩ (.string r.1)).setCell ⟨gr, k * 3 + 1, none⟩ (.int .i64 r.2.1)).setCell ⟨gr, k * 3 + 2, none⟩ (.bool r.2.2)) (.agg #[.slice (some ⟨gr, 0, none⟩) sigs.length d0, .slice A1 fs.length d1]) (sigs.set k r) fs := by
              have hf := own_ex hIb.out.f EX (fun i hi e => own_ne_blk hIb.out.f hIb.out.r (by decide) hi (e ▸ hgo'.out))
              have hs' : Sep (((wb.setCell ⟨gr, k * 3, none⟩ (.string r.1)).setCell ⟨gr, k * 3 + 1, none⟩ (.int .i64 r.2.1)).setCell ⟨gr, k * 3 + 2, none⟩ (.bool r.2.2)) (w.heap.size + 1) hs fs := hIb.out.s.ex EX (fun i a b ha hb e => by
                have hi : i < fs.length := by rw [← hIb.out.s.len]; exact (List.getElem?_eq_some_iff.1 ha).1
                exact own_ne_blk (hIb.out.s.at_ i a fs[i] ha (List.getElem?_eq_getElem hi)).2.1 hIb.out.r (by decide) hb (e ▸ hgo'.out))
              refine ⟨some ⟨gr, 0, none⟩, d0, A1, d1, hs, by rw [List.length_set], fun w' kk => ⟨?_, ?_, ?_⟩⟩
              · exact (OR.same (own_ex hset'.out kk (fun i hi e => by have := own_base hset'.out i hi; have := hIb.out.nr i hi; have := hS3.out i e; omega))).2
              · exact (OH.rh (own_ex hf kk (fun i hi e => by have := own_base hf i hi; have := hIb.out.nf i hi; have := hS3.out i e; omega))).2
              · exact (hs'.ex kk (fun i a b ha hb e => by have := (hs'.lt ha hb).1; have := hIb.out.ns i a b ha hb; have := hS3.out b e; omega)).reads
            exact inst_end hqw.out hq0.out (hRS.mono fun b h => .inl h) (by rw [List.length_set]; show 5 ≤ 5; omega) (by have := hfl.out.1; omega) hfl.out.2 (hCb'.out.ex EX (fun b hb => by have e' : b = gr := hb; omega)) ((hE8'.out.trans hEb'.out fun _ _ h => h).trans EX (fun i hi h => by have e' : i = gr := h; omega))
          · have b0 : (x == 0) = false := by simpa using hx0
            have b1 : (x == 1) = false := by simpa using hx1
            have b2 : (x == 2) = false := by simpa using hx2
            have hd1 := blk_cell hr8.out
            have hf1 := blk_frozen hr8.out
            clear hx0 hx1 hx2
            go_wp2
            refine bodyPost_ret (retI rfl rfl (g := w.heap.size) (blk_set (blk_set hr8.out 0 _) 1 _) rfl) rfl ?_
            exact inst_end hqw.out hq0.out ((hI8.out.rs hS3.out).mono fun b h => .inl h) (by show 5 ≤ 5; omega) (by have := hfl.out.1; omega) hfl.out.2 hC8'.out hE8'.out
  | true =>
    go_wp2_with (go_at_call 146; refine Stop.out ?_)
    refine ⟨(l5Source_calls w0 _ q hC2'.out 3 (by omega) (by omega)).mono ?_⟩
    rintro e w3 ⟨v, rfl, ⟨gs, hG, -, hgl, hgm⟩, hC3, hE3⟩
    have hg3w := Aside0.mk (show w.heap.size < w2.heap.size ∧ g3 < w2.heap.size from ⟨blk_lt hr2.out, blk_lt hb2.out⟩)
    obtain ⟨ur, uf, us, rfl, hIG⟩ := IW.of (g := g3) (lo := w.heap.size + 1) hG hg3w.out.1 (.inr hg3w.out.2)
    obtain ⟨B0, e0, rfl⟩ := own_slice hIG.r
    obtain ⟨B1, e1, rfl⟩ := own_slice hIG.f
    have hlb := Aside0.mk hIG.s.len
    rw [hlb.out] at hIG
    have hI3 := Aside0.mk hIG
    have hgf := Aside0.mk (show gs.length ≤ 3 ∧ ∀ f ∈ gs, f.2.length ≤ 2 from ⟨by omega, hgm⟩)
    have hC3' := Aside0.mk hC3
    have hr3 := Aside0.mk (blk_ex hE3 hr2.out (by have := hqw.out; omega))
    have hb3 := Aside0.mk (blk_ex hE3 hb2.out (by have := hqw.out; have := hgg.out; omega))
    have hE3' := Aside0.mk (hE2'.out.trans hE3 fun _ _ h => h)
    have hF3 := Aside0.mk (hI2.out.ex hE3 fun b hb => .inl (by have := hqw.out; omega))
    rw [hlb.out]
    clear hC3 hE3 hG hIG hgl hgm
    have hfill := alloc_fill w3
    go_wp2
    clear hfill
    obtain ⟨wc, hwc⟩ : ∃ wc, w3.alloc (.cells #[.slice B0 sigs.length e0, .slice B1 gs.length e1] 32 (0, 0)) = wc := ⟨_, rfl⟩
    have hl4 := Aside0.mk (show wc.heap[w3.heap.size]? = some (.cells #[.slice B0 sigs.length e0, .slice B1 gs.length e1] 32 (0, 0)) from hwc ▸ loc_new w3 _ _)
    have hbc := Aside0.mk (show On w3 wc from hwc ▸ On.alloc (On.refl _) _)
    rw [hwc]
    clear hwc
    have hg34 := Aside0.mk (show g3 < w3.heap.size ∧ q < w3.heap.size from ⟨blk_lt hb3.out, hC3'.out.lt⟩)
    obtain ⟨g4, hg4⟩ : ∃ g4, w3.heap.size = g4 := ⟨_, rfl⟩
    rw [hg4] at hl4 hg34 ⊢
    clear hg4
    have hS2 := Aside0.mk (show ∀ b, (b = q ∨ b = g3) → b < w.heap.size + 1 ∨ b = g3 from fun b hb => by have := hqw.out; omega)
    have hsrc := Aside0.mk ((hI3.out.on hbc.out).rs hS2.out)
    have htgt := Aside0.mk ((hF3.out.on hbc.out).rs hS2.out)
    have hbc3 := Aside0.mk (blk_below hb3.out hbc.out)
    go_loopw [5] (fun v5 wr => ∃ (k : Nat) (fs : List Fct) (A0 : Option Addr) (d0 : Nat) (A1 : Option Addr) (d1 : Nat), k ≤ gs.length ∧ v5 = .int .i64 k ∧ wr.heap[g3]? = some (.cells #[.slice A0 sigs.length d0, .slice A1 fs.length d1] 32 (0, 0)) ∧ RS (fun b => b = q ∨ b = g3) wr (.agg #[.slice A0 sigs.length d0, .slice A1 fs.length d1]) sigs fs ∧ Asc fs ∧ fs.length ≤ 5 + k ∧ (∀ f ∈ fs, f.2.length ≤ 2) ∧ Ex (fun b => b = g3) wc wr) (fun v5 _ => gs.length - (intOf v5).toNat)
    case atStart => exact ⟨0, fs, A0, d0, A1, d1, Nat.zero_le _, rfl, hbc3.out, htgt.out, hfa.out, by have := hfl.out.1; omega, hfl.out.2, Ex.refl _ _⟩
    case round =>
      obtain ⟨k, fs, A0, d0, A1, d1, hk, rfl, hbr, hR, ha, hl, hm, hE⟩ := hrel
      have hbr' := Aside0.mk hbr
      have hRr := Aside0.mk hR
      have ha' := Aside0.mk ha
      have hl' := Aside0.mk hl
      have hm' := Aside0.mk hm
      have hEr := Aside0.mk hE
      have hb4 := Aside0.mk (blk_ex hE hl4.out (by have := hg34.out; omega))
      have hd0 := blk_cell hbr 0
      have hd1 := blk_cell hbr 1
      have hd2 := blk_cell hb4.out 0
      have hd3 := blk_cell hb4.out 1
      have hCr := Aside0.mk ((hC3'.out.next hbc.out).ex hE (fun b hb => by have := hgg.out; have := hqw.out; have := hq0.out; omega))
      clear hbr hR ha hl hm hE
      by_cases hlt : k < gs.length
      · obtain ⟨_, _, us', hall⟩ := (hsrc.out.ex (hEr.out.mono fun _ h => .inr h)).parts
        obtain ⟨h1, h2, h3⟩ := hall wr (Ex.refl _ _)
        obtain ⟨ad, A3, c3, hA1, x0, x1, x2⟩ := (h2.fcts h3).at k hlt
        subst hA1
        have x2' := Aside0.mk x2
        have hkk := Aside0.mk hlt
        have hfk := Aside0.mk (show gs[k].2.length ≤ 2 from hgf.out.2 _ (List.getElem_mem hlt))
        obtain ⟨_, _, hs', hall'⟩ := hRr.out.parts
        have hall2 := Aside0.mk hall'
        clear x2 h1 h2 h3 hall hall'
        go_wp2
        refine Reg.region [(0,.L),(1,.L),(2,.L),(3,.L),(4,.L),(5,.L),(6,.N)] [7] (by kernel_rfl) (by kernel_rfl) ?_
        repeat first | refine sP ?_ | refine sS ?_ | refine sA ?_ | refine sL ?_ | refine sQ ?_ | refine sO ?_
        clear hd0 hd1 hd2 hd3 x0 x1
        refine callN Try.func96 (fun w4 hS4 => ?_)
        refine (l5PutS_calls (fun b => b = q ∨ b = g3) w4 A0 d0 A1 d1 hs' sigs fs (fun w' kk => hall2.out w' ((Ex.of_on hS4).trans kk fun _ _ h => h)) (fun b hb => by have := blk_lt (blk_below hbr'.out hS4); have := (hCr.out.next hS4).lt; rcases hb with h | h <;> omega) A3 c3 gs[k] (x2'.out.on hS4) (by have := hl'.out; have := hgf.out.1; omega) (by have := hfk.out; omega) ha'.out).mono ?_
        rintro e w5 ⟨v5, rfl, hR5, hb5⟩
        obtain ⟨fs', hfs⟩ : ∃ fs', putF fs gs[k] = fs' := ⟨_, rfl⟩
        rw [hfs] at hR5
        have hR5' := Aside0.mk hR5
        obtain ⟨C0, i0, C1, i1, hs'', rfl, -⟩ := hR5.out
        have ha6 := Aside0.mk (show Asc fs' from hfs ▸ putF_asc gs[k] fs ha'.out)
        have hl6 := Aside0.mk (show fs'.length ≤ fs.length + 1 from hfs ▸ putF_le fs gs[k])
        have hm6 := Aside0.mk (show ∀ g ∈ fs', g.2.length ≤ 2 by
          rw [← hfs]; intro g hg; rcases (mem_putF gs[k] g fs).1 hg with rfl | h
          · exact hfk.out
          · exact hm'.out g h)
        have hB5 := Aside0.mk (hS4.trans hb5)
        refine ⟨_, rfl, hb5, fun a' ha'' => ?_⟩
        simp only [Act.put, List.setIfInBounds_toArray, List.set_cons_zero, List.set_cons_succ] at ha''
        subst ha''
        clear hR5 hfs
        refine Reg.tail_ fun w6 hS6 => ?_
        have hb6 := Aside0.mk (blk_below hbr'.out (hB5.out.trans hS6))
        have hR6 := Aside0.mk (hR5'.out.on hS6)
        have hB6 := Aside0.mk (hB5.out.trans hS6)
        have hcr := blk_cell hb6.out
        have hfr := blk_frozen hb6.out
        clear hS6
        go_wp2
        have EE := (Ex.set w6 ⟨g3, 0, none⟩ (.slice C0 sigs.length i0)).trans (Ex.set _ ⟨g3, 1, none⟩ (.slice C1 fs'.length i1)) (fun _ _ h => h)
        have hk1 := hkk.out
        have hwk : wrap64 ((k : Int) + 1) = ((k + 1 : Nat) : Int) := by rw [IntWalk.wrap64_in _ (by have := hgf.out.1; omega)]; omega
        refine ⟨⟨k + 1, fs', C0, i0, C1, i1, by omega, by rw [hwk], blk_set (blk_set hb6.out 0 _) 1 _, hR6.out.ex (EE.mono fun _ h => .inr h), ha6.out, by have := hl'.out; have := hl6.out; omega, hm6.out, (hEr.out.then_on hB6.out).trans EE fun _ _ h => h⟩, by rw [hwk]; simp [intOf]; omega⟩
      · have hge : ¬ k < gs.length := hlt
        go_wp2_with (go_at_call 86; refine Stop.out ?_)
        obtain ⟨_, _, hs', hall⟩ := hRr.out.parts
        obtain ⟨h1, h2, h3⟩ := hall wr (Ex.refl _ _)
        refine ⟨(l5Copy_calls _ A0 d0 A1 d1 sigs fs h1 (h2.fcts h3) (by show (5 : Nat) ≤ _; omega) (by have := hl'.out; have := hgf.out.1; omega) (fun f hf => by have := hm'.out f hf; omega)).mono ?_⟩
        rintro e w7 ⟨v7, rfl, hI7, hb7⟩
        have hgl := Aside0.mk (blk_lt hbr'.out)
        obtain ⟨vr, vf, hs, rfl, hIW0⟩ := IW.of (g := g3) (lo := w.heap.size + 1) hI7 (by have := hgl.out; have := hgg.out; omega) (.inr hgl.out)
        obtain ⟨A0, d0, rfl⟩ := own_slice hIW0.r
        obtain ⟨A1, d1, rfl⟩ := own_slice hIW0.f
        have hlz := Aside0.mk hIW0.s.len
        rw [hlz.out] at hIW0 ⊢
        have hIW1 := Aside0.mk hIW0
        have hb7' := Aside0.mk hb7
        have hbx7 := Aside0.mk (blk_below hbr'.out hb7)
        have hrx7 := Aside0.mk (blk_below (blk_ex hEr.out (blk_below hr3.out hbc.out) (by have := hgg.out; omega)) hb7)
        have hfx := Aside0.mk (show fs.length ≤ 100 ∧ ∀ f ∈ fs, f.2.length ≤ 3 from ⟨by have := hl'.out; have := hgf.out.1; omega, fun f hf => by have := hm'.out f hf; omega⟩)
        have hcr := blk_cell hbx7.out
        have hfr := blk_frozen hbx7.out
        clear hIW0 hb7 hI7 hfl h1 h2 h3 hall hd0 hd1 hd2 hd3 hge hlt
        go_wp2_with (go_at_call 147; refine Stop.out ?_)
        refine ⟨?_⟩
        have hq5 := hqw.out
        have hq6 := hgg.out
        have hq7 := hq0.out
        have EE := (Ex.set w7 ⟨g3, 0, none⟩ (.slice A0 sigs.length d0)).trans (Ex.set _ ⟨g3, 1, none⟩ (.slice A1 fs.length d1)) (fun _ _ h => h)
        have hIW := Aside0.mk (hIW1.out.ex EE fun b hb => .inr hb)
        have hbx := Aside0.mk (blk_set (blk_set hbx7.out 0 (.slice A0 sigs.length d0)) 1 (.slice A1 fs.length d1))
        have hrx := Aside0.mk (blk_ex EE hrx7.out (fun e => by have e' : w.heap.size = g3 := e; omega))
        have hCx := Aside0.mk ((hCr.out.next hb7'.out).ex EE (fun b hb => by have e' : b = g3 := hb; omega))
        have hEx := Aside0.mk ((((hE3'.out.then_on hbc.out).trans hEr.out (fun i hi h => by have e' : i = g3 := h; omega)).then_on hb7'.out).trans EE (fun i hi h => by have e' : i = g3 := h; omega))
        have hfl := hfx
        clear hcr hfr EE hq5 hq6 hq7
        obtain ⟨wx, hwx⟩ : ∃ wx, (w7.setCell ⟨g3, 0, none⟩ (.slice A0 sigs.length d0)).setCell ⟨g3, 1, none⟩ (.slice A1 fs.length d1) = wx := ⟨_, rfl⟩
        rw [hwx] at hIW hbx hrx hCx hEx ⊢
        clear hwx
        as_aux_lemma =>
          refine (l1Below_calls w0 _ q hCx.out 14 (by omega) (by omega)).mono ?_
          rintro e w8 ⟨v, rfl, ⟨x, rfl, hx⟩, hC8, hE8⟩
          have hC8' := Aside0.mk hC8
          have hq1 := Aside0.mk (show q < w.heap.size + 1 by have := hqw.out; omega)
          have hI8 := Aside0.mk (hIW.out.ex hE8 fun b hb => .inl (by have := hq1.out; omega))
          have hb8 := Aside0.mk (blk_ex hE8 hbx.out (by have := hqw.out; have := hgg.out; omega))
          have hr8 := Aside0.mk (blk_ex hE8 hrx.out (by have := hqw.out; omega))
          have hE8' := Aside0.mk (hEx.out.trans hE8 fun _ _ h => h)
          have hS3 := Aside0.mk (show ∀ b, (b ≤ w.heap.size ∨ b = g3) → b < w.heap.size + 1 ∨ b = g3 from fun b hb => by have := hqw.out; omega)
          clear hC8 hE8 hx
          have hd0 := blk_cell hb8.out
          have hf0 := blk_frozen hb8.out
          by_cases hx0 : x = 0
          · subst hx0
            go_wp2
            refine Reg.regionG (fun w' => w'.heap[g3]? = some (.cells #[.slice A0 sigs.length d0, .slice A1 fs.length d1] 32 (0, 0))) [0,1,2] [3,4,5,6,7] 7 (by kernel_rfl) (by kernel_rfl) hb8.out ?_
            repeat refine Reg.sG ?_
            refine Reg.startG ?_
            obtain ⟨w9, hw9⟩ : ∃ w9, ({ w8 with drawn := w8.drawn + 1 } : World) = w9 := ⟨_, rfl⟩
            have hS9 := Aside0.mk (show On w8 w9 from (hw9 ▸ on_draw w8))
            rw [hw9]
            clear hw9 hd0 hf0
            refine Reg.tG ?_
            go_wp2_with (go_at_call 148; refine Stop.out ?_)
            refine ⟨(l4Any_calls w0 _ q (hC8'.out.next hS9.out)).mono ?_⟩
            rintro e wa ⟨v, rfl, ⟨f, hO, hf3⟩, hCa, hEa⟩
            obtain ⟨va, rfl, hO, hIr⟩ := hO.out
            obtain ⟨Aa, ca, rfl⟩ := own_slice hO
            have hlo9 := Aside0.mk (show w.heap.size + 1 ≤ w9.heap.size ∧ g3 < w9.heap.size ∧ q < w9.heap.size from ⟨blk_lt (blk_below hr8.out hS9.out), blk_lt (blk_below hb8.out hS9.out), (hC8'.out.next hS9.out).lt⟩)
            have hOa := Aside0.mk hO
            have hIr' := Aside0.mk hIr
            have hf3' := Aside0.mk hf3
            have hCa' := Aside0.mk hCa
            have hEa' := Aside0.mk ((Ex.of_on (S := fun b => b = q) hS9.out).trans hEa fun _ _ h => h)
            have hba := Aside0.mk (blk_ex hEa'.out hb8.out (by have := hqw.out; have := hgg.out; omega))
            have hra := Aside0.mk (blk_ex hEa'.out hr8.out (by have := hqw.out; omega))
            have hIa := Aside0.mk (hI8.out.ex hEa'.out fun b hb => .inl (by have := hq1.out; omega))
            clear hCa hEa hO hIr hf3
            go_wp2
            refine ⟨hba.out, ?_⟩
            refine Reg.tG ?_
            go_wp2
            obtain ⟨wb, hwb⟩ : ∃ wb, wa.alloc (.cells #[.int .i64 f.1, .slice Aa f.2.length ca] 55 (0, 0)) = wb := ⟨_, rfl⟩
            have hSb := Aside0.mk (show On wa wb from hwb ▸ On.alloc (On.refl _) _)
            have hRb := Aside0.mk (show RH wb (some ⟨wa.heap.size, 0, none⟩) 1 [(f.1, Aa, f.2.length, ca)] from lit_RH (hwb ▸ On.refl _))
            have hIb := Aside0.mk (hIa.out.on hSb.out)
            have hbb := Aside0.mk (blk_below hba.out hSb.out)
            have hrb := Aside0.mk (blk_below hra.out hSb.out)
            try rw [hwb]
            clear hwb
            refine ⟨hbb.out, ?_⟩
            refine Reg.tG ?_
            obtain ⟨zs, hzs⟩ : ∃ zs, hs ++ [((f.1, Aa, f.2.length, ca) : Hdr)] = zs := ⟨_, rfl⟩
            have hhl := Aside0.mk hIb.out.s.len
            refine apH 37 hzs hIb.out.f hRb.out (by have := blk_lt hrb.out; omega) (by have := hhl.out; have := hfl.out.1; simp; omega) (fun v11 w11 hO11 hg11 => ?_)
            have hO11' := Aside0.mk hO11
            have hGr := Aside0.mk (Ex.of_grown hg11)
            have hb11 := Aside0.mk (blk_ex hGr.out hbb.out (fun e => hIb.out.nf _ e.symm rfl))
            have hr11 := Aside0.mk (blk_ex hGr.out hrb.out (fun e => by have := own_base hIb.out.f _ e.symm; omega))
            clear hO11 hg11
            obtain ⟨A11, c11, rfl⟩ := own_slice hO11'.out
            refine ⟨hb11.out, ?_⟩
            have hd6 := blk_cell hb11.out
            have hf6 := blk_frozen hb11.out
            simp only [Act.put, List.setIfInBounds_toArray, List.set_cons_zero, List.set_cons_succ]
            refine Reg.tG ?_
            go_wp2
            refine ⟨hb11.out, ?_⟩
            refine Reg.tE ?_
            have hx11 := Aside0.mk (show (w11.setCell ⟨g3, 1, none⟩ (.slice A11 zs.length c11)).heap[w.heap.size]? = _ from blk_far hr11.out (by show ¬ _; simp; have := hgg.out; omega) _)
            have hy11 := Aside0.mk (blk_set hb11.out 1 (.slice A11 zs.length c11))
            have hd1 := blk_cell hx11.out
            have hf1 := blk_frozen hx11.out
            go_wp2
            refine bodyPost_ret (retI rfl rfl (g := w.heap.size) (blk_set (blk_set hx11.out 0 _) 1 _) rfl) rfl ?_
            have EX := Ex.set w11 ⟨g3, 1, none⟩ (.slice A11 zs.length c11)
            have hb1 := hgg.out
            have hb2 := hqw.out
            have hb3 := hq0.out
            have hb4 := hlo9.out
            have hzl : zs.length = (fs ++ [f]).length := by rw [← hzs]; simp; exact hhl.out
            have hRS : RS (fun b => b ≤ w.heap.size ∨ b = g3) w11 (.agg #[.slice A0 sigs.length d0, .slice A11 zs.length c11]) sigs (fs ++ [f]) := by
              have hIo := own_ex (pw_own_below hOa.out hSb.out) hGr.out (fun i hi e => own_ne_blk (pw_own_below hOa.out hSb.out) hIb.out.f (by decide) hi e.symm)
              refine ⟨A0, d0, A11, c11, zs, by rw [hzl], fun w' k => ⟨?_, ?_, ?_⟩⟩
              · have h1 := own_ex hIb.out.r hGr.out (fun i hi e => own_ne_blk hIb.out.r hIb.out.f (by decide) hi e.symm)
                exact (OR.same (own_ex h1 k (fun i hi e => by have := own_base h1 i hi; have := hIb.out.nr i hi; have := hS3.out i e; omega))).2
              · exact (OH.rh (own_ex hO11'.out k (fun i hi e => by have := own_base hO11'.out i hi; have := own_off hO11'.out hb11.out (by decide) i hi; have := hS3.out i e; omega))).2
              · rw [← hzs]
                refine Reads.append ?_ (Reads.one rfl rfl (OI.same (own_ex hIo k (fun i hi e => by have := own_base hOa.out i hi; omega)) hIr'.out).2)
                have h1 : Sep w11 (w.heap.size + 1) hs fs := hIb.out.s.ex hGr.out (fun i a b ha hb e => by
                  have hi : i < fs.length := by rw [← hIb.out.s.len]; exact (List.getElem?_eq_some_iff.1 ha).1
                  exact own_ne_blk (hIb.out.s.at_ i a fs[i] ha (List.getElem?_eq_getElem hi)).2.1 hIb.out.f (by decide) hb e.symm)
                exact (h1.ex k (fun i a b ha hb e => by have := (h1.lt ha hb).1; have := hIb.out.ns i a b ha hb; have := hS3.out b e; omega)).reads
            have hCE := ((hCa'.out.next hSb.out).ex hGr.out (fun b hb => by have := own_base hIb.out.f b hb.symm; omega)).ex EX (fun b hb => by have e' : b = g3 := hb; omega)
            have hEE := (((hE8'.out.trans hEa'.out fun _ _ h => h).then_on hSb.out).trans hGr.out (fun i hi h => by have := own_base hIb.out.f i h.symm; omega)).trans EX (fun i hi h => by have e' : i = g3 := h; omega)
            exact inst_end hqw.out hq0.out ((hRS.ex (EX.mono fun _ h => .inr h)).mono fun b h => .inl h) (by show 5 ≤ 5; omega) (by have := hfl.out.1; simp; omega) (fun g hg => (List.mem_append.1 hg).elim (fun h => hfl.out.2 g h) (fun h => by rw [List.mem_singleton.1 h]; exact hf3'.out)) hCE hEE
          · by_cases hx1 : x = 1
            · subst hx1
              obtain ⟨hcA, hRA⟩ := OR.same hI8.out.r
              have hcap := Aside0.mk hRA.1
              go_wp2_with (refine gate 43 ?_)
              refine ⟨slR 43 (k := 1) (A := A0) (n := sigs.length) (c := d0) (by show 1 ≤ 5; omega) hcap.out ?_⟩
              obtain ⟨Ac, hAc⟩ : ∃ Ac, (if d0 = 1 then A0 else A0.map (·.add (1 * 3))) = Ac := ⟨_, rfl⟩
              obtain ⟨dc, hdc⟩ : ∃ dc, d0 - 1 = dc := ⟨_, rfl⟩
              have hRS := Aside0.mk (show RS (fun b => b ≤ w.heap.size ∨ b = g3) w8 (.agg #[.slice Ac (sigs.length - 1) dc, .slice A1 fs.length d1]) (sigs.drop 1) fs from by
                refine ⟨Ac, dc, A1, d1, hs, rfl, fun w' k => ?_⟩
                have h' := hI8.out.ex k hS3.out
                refine ⟨?_, (OH.rh h'.f).2, h'.s.reads⟩
                rw [← hAc, ← hdc]
                exact drop1 (OR.same h'.r).2 (by show 1 ≤ 5; omega))
              rw [hAc, hdc]
              clear hAc hdc hcA hRA
              obtain ⟨m4, hm4⟩ : ∃ m4, sigs.length - 1 = m4 := ⟨_, rfl⟩
              rw [hm4] at hRS ⊢
              clear hm4
              simp only [Act.put, List.setIfInBounds_toArray, List.set_cons_zero, List.set_cons_succ]
              have hx8 := Aside0.mk (show (w8.setCell ⟨g3, 0, none⟩ (.slice Ac m4 dc)).heap[w.heap.size]? = _ from blk_far hr8.out (by show ¬ _; simp; have := hgg.out; omega) _)
              have hd1 := blk_cell hx8.out
              have hf1 := blk_frozen hx8.out
              go_wp2
              refine bodyPost_ret (retI rfl rfl (g := w.heap.size) (blk_set (blk_set hx8.out 0 _) 1 _) rfl) rfl ?_
              have EX := Ex.set w8 ⟨g3, 0, none⟩ (.slice Ac m4 dc)
              have hb1 := hgg.out
              have hb2 := hqw.out
              have hb3 := hq0.out
              exact inst_end hqw.out hq0.out ((hRS.out.ex (EX.mono fun _ h => .inr h)).mono fun b h => .inl h) (by show 4 ≤ 5; omega) (by have := hfl.out.1; omega) hfl.out.2 (hC8'.out.ex EX (fun b hb => by have e' : b = g3 := hb; omega)) (hE8'.out.trans EX (fun i hi h => by have e' : i = g3 := h; omega))
            · by_cases hx2 : x = 2
              · subst hx2
                go_wp2
                refine Reg.regionG (fun w' => w'.heap[g3]? = some (.cells #[.slice A0 sigs.length d0, .slice A1 fs.length d1] 32 (0, 0))) [0,1,2,4] [3,5,6,7] 7 (by kernel_rfl) (by kernel_rfl) hb8.out ?_
                repeat refine Reg.sG ?_
                refine Reg.startG ?_
                obtain ⟨w9, hw9⟩ : ∃ w9, ({ w8 with drawn := w8.drawn + 1 } : World) = w9 := ⟨_, rfl⟩
                have hS9 := Aside0.mk (show On w8 w9 from (hw9 ▸ on_draw w8))
                rw [hw9]
                clear hw9 hd0 hf0
                refine Reg.tG ?_
                go_wp2_with (go_at_call 147; refine Stop.out ?_)
                refine ⟨(l1Below_calls w0 _ q (hC8'.out.next hS9.out) 5 (by omega) (by omega)).mono ?_⟩
                rintro e wa ⟨v, rfl, ⟨y, rfl, hy⟩, hCa, hEa⟩
                obtain ⟨k, rfl⟩ := Int.eq_ofNat_of_zero_le hy.1
                have hk := Aside0.mk (show k < sigs.length by show k < 5; omega)
                have hCa' := Aside0.mk hCa
                have hEa' := Aside0.mk ((Ex.of_on (S := fun b => b = q) hS9.out).trans hEa fun _ _ h => h)
                have hba := Aside0.mk (blk_ex hEa'.out hb8.out (by have := hqw.out; have := hgg.out; omega))
                clear hCa hEa hy
                go_wp2
                refine ⟨hba.out, ?_⟩
                refine Reg.tG ?_
                go_wp2_with (go_at_call 149; refine Stop.out ?_)
                refine ⟨(l3One_calls w0 _ q hCa'.out).mono ?_⟩
                rintro e wb ⟨v, rfl, ⟨r, rfl⟩, hCb, hEb⟩
                have hCb' := Aside0.mk hCb
                have hEb' := Aside0.mk (hEa'.out.trans hEb fun _ _ h => h)
                have hbb := Aside0.mk (blk_ex hEb'.out hb8.out (by have := hqw.out; have := hgg.out; omega))
                have hrb := Aside0.mk (blk_ex hEb'.out hr8.out (by have := hqw.out; omega))
                have hIb := Aside0.mk (hI8.out.ex hEb'.out fun b hb => .inl (by have := hq1.out; omega))
                clear hCb hEb
                obtain ⟨gr, hgA, hgo, ⟨z0, hz0⟩, ⟨z1, hz1⟩, ⟨z2, hz2⟩, hfz, hset⟩ := hIb.out.r.setAt hk.out
                have hset' := Aside0.mk (hset r)
                have hgo' := Aside0.mk hgo
                have hgr := Aside0.mk (show w.heap.size + 1 ≤ gr ∧ gr ≠ g3 from ⟨own_base hIb.out.r gr hgo, hIb.out.nr gr hgo⟩)
                have hkb := hk.out
                clear hset hgo
                subst hgA
                go_wp2
                refine ⟨hbb.out, ?_⟩
                refine Reg.tG ?_
                go_wp2
                refine ⟨hbb.out, ?_⟩
                refine Reg.tE ?_
                obtain ⟨X, hX⟩ : ∃ X, ((wb.setCell ⟨gr, k * 3, none⟩ (.string r.1)).setCell ⟨gr, k * 3 + 1, none⟩ (.int .i64 r.2.1)).setCell ⟨gr, k * 3 + 2, none⟩ (.bool r.2.2) = X := ⟨_, rfl⟩
                have hX' := Aside0.mk hX
                have n1 : ¬ gr = g3 := hgr.out.2
                have n2 : ¬ gr = w.heap.size := by have := hgr.out.1; omega
                have hy11 := Aside0.mk (show (((wb.setCell ⟨gr, k * 3, none⟩ (.string r.1)).setCell ⟨gr, k * 3 + 1, none⟩ (.int .i64 r.2.1)).setCell ⟨gr, k * 3 + 2, none⟩ (.bool r.2.2)).heap[g3]? = _ from blk_far (blk_far (blk_far hbb.out (fun e => n1 e.symm) _) (fun e => n1 e.symm) _) (fun e => n1 e.symm) _)
                have hx11 := Aside0.mk (show (((wb.setCell ⟨gr, k * 3, none⟩ (.string r.1)).setCell ⟨gr, k * 3 + 1, none⟩ (.int .i64 r.2.1)).setCell ⟨gr, k * 3 + 2, none⟩ (.bool r.2.2)).heap[w.heap.size]? = _ from blk_far (blk_far (blk_far hrb.out (fun e => n2 e.symm) _) (fun e => n2 e.symm) _) (fun e => n2 e.symm) _)
                have hd0 := blk_cell hy11.out
                have hd1 := blk_cell hx11.out
                have hf1 := blk_frozen hx11.out
                clear hX n1 n2
                go_wp2
                refine bodyPost_ret (retI rfl rfl (g := w.heap.size) (blk_set (blk_set hx11.out 0 _) 1 _) rfl) rfl ?_
                have EX := ((Ex.set wb ⟨gr, k * 3, none⟩ (.string r.1)).trans (Ex.set _ ⟨gr, k * 3 + 1, none⟩ (.int .i64 r.2.1)) (fun _ _ h => h)).trans (Ex.set _ ⟨gr, k * 3 + 2, none⟩ (.bool r.2.2)) (fun _ _ h => h)
                have hb1 := hgr.out.1
                have hb2 := hqw.out
                have hb3 := hq0.out
                have hRS : RS (fun b => b ≤ w.heap.size ∨ b = g3) (((wb.setCell ⟨gr, k * 3, none⟩ (.string r.1)).setCell ⟨gr, k * 3 + 1, none⟩ (.int .i64 r.2.1)).setCell ⟨gr, k * 3 + 2, none⟩ (.bool r.2.2)) (.agg #[.slice (some ⟨gr, 0, none⟩) sigs.length d0, .slice A1 fs.length d1]) (sigs.set k r) fs := by
                  have hf := own_ex hIb.out.f EX (fun i hi e => own_ne_blk hIb.out.f hIb.out.r (by decide) hi (e ▸ hgo'.out))
                  have hs' : Sep (((wb.setCell ⟨gr, k * 3, none⟩ (.string r.1)).setCell ⟨gr, k * 3 + 1, none⟩ (.int .i64 r.2.1)).setCell ⟨gr, k * 3 + 2, none⟩ (.bool r.2.2)) (w.heap.size + 1) hs fs := hIb.out.s.ex EX (fun i a b ha hb e => by
                    have hi : i < fs.length := by rw [← hIb.out.s.len]; exact (List.getElem?_eq_some_iff.1 ha).1
                    exact own_ne_blk (hIb.out.s.at_ i a fs[i] ha (List.getElem?_eq_getElem hi)).2.1 hIb.out.r (by decide) hb (e ▸ hgo'.out))
                  refine ⟨some ⟨gr, 0, none⟩, d0, A1, d1, hs, by rw [List.length_set], fun w' kk => ⟨?_, ?_, ?_⟩⟩
                  · exact (OR.same (own_ex hset'.out kk (fun i hi e => by have := own_base hset'.out i hi; have := hIb.out.nr i hi; have := hS3.out i e; omega))).2
                  · exact (OH.rh (own_ex hf kk (fun i hi e => by have := own_base hf i hi; have := hIb.out.nf i hi; have := hS3.out i e; omega))).2
                  · exact (hs'.ex kk (fun i a b ha hb e => by have := (hs'.lt ha hb).1; have := hIb.out.ns i a b ha hb; have := hS3.out b e; omega)).reads
                exact inst_end hqw.out hq0.out (hRS.mono fun b h => .inl h) (by rw [List.length_set]; show 5 ≤ 5; omega) (by have := hfl.out.1; omega) hfl.out.2 (hCb'.out.ex EX (fun b hb => by have e' : b = gr := hb; omega)) ((hE8'.out.trans hEb'.out fun _ _ h => h).trans EX (fun i hi h => by have e' : i = gr := h; omega))
              · have b0 : (x == 0) = false := by simpa using hx0
                have b1 : (x == 1) = false := by simpa using hx1
                have b2 : (x == 2) = false := by simpa using hx2
                have hd1 := blk_cell hr8.out
                have hf1 := blk_frozen hr8.out
                clear hx0 hx1 hx2
                go_wp2
                refine bodyPost_ret (retI rfl rfl (g := w.heap.size) (blk_set (blk_set hr8.out 0 _) 1 _) rfl) rfl ?_
                exact inst_end hqw.out hq0.out ((hI8.out.rs hS3.out).mono fun b h => .inl h) (by show 5 ≤ 5; omega) (by have := hfl.out.1; omega) hfl.out.2 hC8'.out hE8'.out
end Go.Proofs.Ytngjhblbpapjeaa.H
/- Walks: the laws' own substitutions: size, copy, comparison. No condition. -/
namespace Go.Proofs.Ytngjhblbpapjeaa.H
open Go Go.RowKit Go.Proofs.YtngjhblbpapjeaaW.PrintWords Go.Proofs.YtngjhblbpapjeaaW.PrintLast
open Go.Proofs.Ytngjhblbpapjeaa.Reg (On on_draw)
set_option maxHeartbeats 4000000
set_option maxRecDepth 100000
set_option linter.unusedVariables false
set_option linter.unusedSimpArgs false

section
variable {fn : Func} {p : Tmp} {tmps : Array Value} {w : World} {g : Nat} {t : TypeId} {cs : Array Value} {fr : Nat × Nat}
theorem retSu (h : fn.results = #[.cell p 45]) (hp : tmps.getD p undef = .pointer (some ⟨g, 0, none⟩)) (hg : w.heap[g]? = some (.cells cs t fr)) (hs : cs.size = 2) : (results fn tmps).run Try.prog w = .ok (.agg cs) w :=
  results_cell_row h tmps w g t cs fr _ hp hg Try.underlying45 rfl (by rw [hs]; kernel_rfl)
end
/-! In values. -/
structure RSu (w : World) (v : Value) (ns vs : List Int) : Prop where mk :: (out : ∃ A c B d, v = .agg #[.slice A ns.length c, .slice B vs.length d] ∧ Ints w A c ns ∧ Ints w B d vs)
structure OSb (w : World) (lo hi : Nat) (v : Value) (ns vs : List Int) : Prop where mk :: (out : ∃ v1 v2, v = .agg #[v1, v2] ∧ OI w lo v1 ns ∧ OI w lo v2 vs ∧ InR ns ∧ InR vs ∧ (∀ b, v1.ownBlock = some b → b < hi) ∧ ∀ b, v2.ownBlock = some b → b < hi)
structure OSu (w : World) (lo : Nat) (v : Value) (ns vs : List Int) : Prop where mk :: (out : ∃ v1 v2, v = .agg #[v1, v2] ∧ OI w lo v1 ns ∧ OI w lo v2 vs ∧ InR ns ∧ InR vs)
theorem OSu.b {w : World} {lo : Nat} {v : Value} {ns vs : List Int} (h : OSu w lo v ns vs) : OSb w lo w.heap.size v ns vs := by
  obtain ⟨v1, v2, e, h0, h1, h2, h3⟩ := h.out
  exact ⟨v1, v2, e, h0, h1, h2, h3, fun b hb => own_lt h0 b hb, fun b hb => own_lt h1 b hb⟩
theorem OSb.read {w : World} {lo hi : Nat} {v : Value} {ns vs : List Int} (h : OSb w lo hi v ns vs) : RSu w v ns vs := by
  obtain ⟨v1, v2, e, h0, h1, h2, h3, _⟩ := h.out
  obtain ⟨A, c, rfl, k0⟩ := OI.rd h0 h2
  obtain ⟨B, d, rfl, k1⟩ := OI.rd h1 h3
  exact ⟨A, c, B, d, e, k0, k1⟩
theorem OSu.read {w : World} {lo : Nat} {v : Value} {ns vs : List Int} (h : OSu w lo v ns vs) : RSu w v ns vs := h.b.read
theorem OSb.on {W w : World} {lo hi : Nat} {v : Value} {ns vs : List Int} (h : OSb W lo hi v ns vs) (hb : On W w) : OSb w lo hi v ns vs := by
  obtain ⟨v1, v2, e, h0, h1, h2, h3, h4, h5⟩ := h.out
  exact ⟨v1, v2, e, pw_own_below h0 hb, pw_own_below h1 hb, h2, h3, h4, h5⟩
theorem OSb.ex {S : Nat → Prop} {W w : World} {lo hi : Nat} {v : Value} {ns vs : List Int} (h : OSb W lo hi v ns vs) (k : Ex S W w) (hS : ∀ b, lo ≤ b → b < hi → ¬ S b) : OSb w lo hi v ns vs := by
  obtain ⟨v1, v2, e, h0, h1, h2, h3, h4, h5⟩ := h.out
  exact ⟨v1, v2, e, own_ex h0 k (fun i hi h => hS i (own_base h0 i hi) (h4 i hi) h), own_ex h1 k (fun i hi h => hS i (own_base h1 i hi) (h5 i hi) h), h2, h3, h4, h5⟩
theorem RSu.on {W w : World} {v : Value} {ns vs : List Int} (h : RSu W v ns vs) (hb : On W w) : RSu w v ns vs := by
  obtain ⟨A, c, B, d, e, h0, h1⟩ := h.out
  exact ⟨A, c, B, d, e, h0.on hb, h1.on hb⟩
theorem RSu.shape {w : World} {v : Value} {ns vs : List Int} (h : RSu w v ns vs) : ∃ A n c B m d, v = .agg #[.slice A n c, .slice B m d] := by
  obtain ⟨A, c, B, d, e, _⟩ := h.out
  exact ⟨_, _, _, _, _, _, e⟩
end Go.Proofs.Ytngjhblbpapjeaa.H
/- Walks: the draw of a substitution. What is told: sizes and ranges. No condition. -/
namespace Go.Proofs.Ytngjhblbpapjeaa.H
open Go Go.RowKit Go.Proofs.YtngjhblbpapjeaaW.PrintWords Go.Proofs.YtngjhblbpapjeaaW.PrintLast
open Go.Proofs.Ytngjhblbpapjeaa.Reg (On on_draw)
set_option maxHeartbeats 4000000
set_option maxRecDepth 100000
set_option linter.unusedVariables false
set_option linter.unusedSimpArgs false

/-- Two own rows of numbers apart from block g and from one another. -/
structure TW (g lo : Nat) (w : World) (v0 v1 : Value) (ns vs : List Int) : Prop where
  r0 : OI w lo v0 ns
  r1 : OI w lo v1 vs
  n0 : ∀ b, v0.ownBlock = some b → b ≠ g
  n1 : ∀ b, v1.ownBlock = some b → b ≠ g
  ap : ∀ b, v0.ownBlock = some b → v1.ownBlock ≠ some b
theorem TW.ex {g lo : Nat} {S : Nat → Prop} {W w : World} {v0 v1 : Value} {ns vs : List Int} (h : TW g lo W v0 v1 ns vs) (k : Ex S W w) (hS : ∀ b, S b → b < lo ∨ b = g) : TW g lo w v0 v1 ns vs :=
  ⟨own_ex h.r0 k (fun i hi e => by have := own_base h.r0 i hi; have := h.n0 i hi; have := hS i e; omega),
   own_ex h.r1 k (fun i hi e => by have := own_base h.r1 i hi; have := h.n1 i hi; have := hS i e; omega), h.n0, h.n1, h.ap⟩
theorem TW.on {g lo : Nat} {W w : World} {v0 v1 : Value} {ns vs : List Int} (h : TW g lo W v0 v1 ns vs) (k : On W w) : TW g lo w v0 v1 ns vs := h.ex (Ex.of_on (S := fun _ => False) k) fun _ h => h.elim
/-- The first row grew. -/
theorem TW.app0 {g lo : Nat} {W w : World} {v0 v1 u0 : Value} {ns vs ms : List Int} (h : TW g lo W v0 v1 ns vs) (hg : g < W.heap.size) (hO : OI w lo u0 ms) (hgr : W.grownBy w v0.ownBlock) (hat : u0.ownBlock = v0.ownBlock ∨ ∃ b, u0.ownBlock = some b ∧ W.heap.size ≤ b) : TW g lo w u0 v1 ms vs := by
  have h1 := own_ex h.r1 (Ex.of_grown hgr) (fun i hi e => h.ap i e.symm hi)
  refine ⟨hO, h1, fun b hb => ?_, h.n1, fun b hb => ?_⟩
  · rcases hat with e | ⟨b', e, hb'⟩
    · exact h.n0 b (e ▸ hb)
    · rw [e] at hb; cases hb; omega
  · rcases hat with e | ⟨b', e, hb'⟩
    · exact h.ap b (e ▸ hb)
    · rw [e] at hb; cases hb; intro hv; have := own_lt h.r1 _ hv; omega
theorem TW.app1 {g lo : Nat} {W w : World} {v0 v1 u1 : Value} {ns vs ms : List Int} (h : TW g lo W v0 v1 ns vs) (hg : g < W.heap.size) (hO : OI w lo u1 ms) (hgr : W.grownBy w v1.ownBlock) (hat : u1.ownBlock = v1.ownBlock ∨ ∃ b, u1.ownBlock = some b ∧ W.heap.size ≤ b) : TW g lo w v0 u1 ns ms := by
  have h0 := own_ex h.r0 (Ex.of_grown hgr) (fun i hi e => h.ap i hi e.symm)
  refine ⟨h0, hO, h.n0, fun b hb => ?_, fun b hb hv => ?_⟩
  · rcases hat with e | ⟨b', e, hb'⟩
    · exact h.n1 b (e ▸ hb)
    · rw [e] at hb; cases hb; omega
  · rcases hat with e | ⟨b', e, hb'⟩
    · exact h.ap b hb (e ▸ hv)
    · rw [e] at hv; cases hv; have := own_lt h.r0 _ hb; omega
end Go.Proofs.Ytngjhblbpapjeaa.H
/- Walks: the draw of a substitution. What is told: sizes and ranges. No condition. -/
namespace Go.Proofs.Ytngjhblbpapjeaa.H
open Go Go.RowKit Go.Proofs.YtngjhblbpapjeaaW.PrintWords Go.Proofs.YtngjhblbpapjeaaW.PrintLast
open Go.Proofs.Ytngjhblbpapjeaa.Reg (On on_draw)
set_option maxHeartbeats 4000000
set_option maxRecDepth 100000
set_option linter.unusedVariables false
set_option linter.unusedSimpArgs false

theorem TW.nil (g lo : Nat) (w : World) : TW g lo w (.slice none 0 0) (.slice none 0 0) [] [] :=
  ⟨World.ownsRow_nil _ _ _ _, World.ownsRow_nil _ _ _ _, by intro b h; simp [Value.ownBlock] at h, by intro b h; simp [Value.ownBlock] at h, by intro b h; simp [Value.ownBlock] at h⟩
abbrev AnyS (lo m : Nat) (v : Value) (w : World) : Prop := ∃ A0 c0 A1 c1 ns vs, v = .agg #[.slice A0 ns.length c0, .slice A1 vs.length c1] ∧ OI w lo (.slice A0 ns.length c0) ns ∧ OI w lo (.slice A1 vs.length c1) vs ∧ InR ns ∧ InR vs ∧ ns.length ≤ m ∧ vs.length = ns.length
theorem sub_end {w0 w wz : World} {q m : Nat} {A0 A1 : Option Addr} {d0 d1 : Nat} {ns vs : List Int} (hqw : q < w.heap.size) (hq0 : w0.heap.size ≤ q) (h0 : OI wz (w.heap.size + 1) (.slice A0 ns.length d0) ns) (h1 : OI wz (w.heap.size + 1) (.slice A1 vs.length d1) vs) (hi0 : InR ns) (hi1 : InR vs) (hm : ns.length ≤ m) (hl : vs.length = ns.length) (hC : Cu w0 wz q) (hE : Ex (fun b => b = q) w wz) :
    Dr w0 w q (AnyS w.heap.size m) (.returned (.agg #[.slice A0 ns.length d0, .slice A1 vs.length d1])) ((wz.setCell ⟨w.heap.size, 0, none⟩ (.slice A0 ns.length d0)).setCell ⟨w.heap.size, 1, none⟩ (.slice A1 vs.length d1)) := by
  have EE := (Ex.set wz ⟨w.heap.size, 0, none⟩ (.slice A0 ns.length d0)).trans (Ex.set _ ⟨w.heap.size, 1, none⟩ (.slice A1 vs.length d1)) (fun _ _ h => h)
  exact ⟨_, rfl, ⟨A0, d0, A1, d1, ns, vs, rfl, own_lower (own_ex h0 EE (fun i hi e => by have := own_base h0 i hi; have e' : i = w.heap.size := e; omega)) (by omega), own_lower (own_ex h1 EE (fun i hi e => by have := own_base h1 i hi; have e' : i = w.heap.size := e; omega)) (by omega), hi0, hi1, hm, hl⟩,
    hC.ex EE (fun b hb => by have e' : b = w.heap.size := hb; omega), hE.trans EE (fun i hi h => by have e' : i = w.heap.size := h; omega)⟩
theorem l6Sub_calls (w0 w : World) (q : Nat) (hC : Cu w0 w q) (m : Nat) (hm : m ≤ 100) :
    Calls Try.prog 145 #[.pointer (some ⟨q, 0, none⟩), .int .i64 m] w (Dr w0 w q (AnyS w.heap.size m)) := by
  have hC' := Aside0.mk hC
  have hqw := Aside0.mk hC.lt
  have hq0 := Aside0.mk hC.lo
  have hm' := Aside0.mk hm
  have hL := Aside0.mk (loc2 w #[.slice none 0 0, .slice none 0 0] #[.slice none 0 0, .slice none 0 0] 45 45)
  have hb0 := Aside0.mk (On.alloc (On.alloc (On.refl w) (.cells #[.slice none 0 0, .slice none 0 0] 45 (0, 0))) (.cells #[.slice none 0 0, .slice none 0 0] 45 (0, 0)))
  have hfill := alloc_fill (w.alloc (.cells #[.slice none 0 0, .slice none 0 0] 45 (0, 0)))
  clear hC hm
  go_enter Try.func145, Try.ntmps145
  go_wp2
  clear hfill
  obtain ⟨wa, hwa⟩ : ∃ wa, (w.alloc (.cells #[.slice none 0 0, .slice none 0 0] 45 (0, 0))).alloc (.cells #[.slice none 0 0, .slice none 0 0] 45 (0, 0)) = wa := ⟨_, rfl⟩
  rw [hwa] at hL hb0 ⊢
  clear hwa
  obtain ⟨g5, hg5⟩ : ∃ g5, w.heap.size + 1 = g5 := ⟨_, rfl⟩
  have hg := Aside0.mk hg5
  rw [hg5] at hL ⊢
  clear hg5
  go_loopw [6] (fun v6 wr => ∃ (k : Nat) (ns vs : List Int) (A0 : Option Addr) (d0 : Nat) (A1 : Option Addr) (d1 : Nat), v6 = .int .i64 k ∧ k ≤ m ∧ wr.heap[g5]? = some (.cells #[.slice A0 ns.length d0, .slice A1 vs.length d1] 45 (0, 0)) ∧ wr.heap[w.heap.size]? = some (.cells #[.slice none 0 0, .slice none 0 0] 45 (0, 0)) ∧ TW g5 (w.heap.size + 1) wr (.slice A0 ns.length d0) (.slice A1 vs.length d1) ns vs ∧ InR ns ∧ InR vs ∧ vs.length = ns.length ∧ ns.length ≤ k ∧ Cu w0 wr q ∧ Ex (fun b => b = q) w wr) (fun v6 _ => m - (intOf v6).toNat)
  case atStart => exact ⟨0, [], [], none, 0, none, 0, rfl, Nat.zero_le _, hL.out.2.1, hL.out.1, TW.nil _ _ _, fun _ h => absurd h (by simp), fun _ h => absurd h (by simp), rfl, Nat.le_refl _, hC'.out.next hb0.out, Ex.of_on hb0.out⟩
  case round =>
    obtain ⟨k, ns, vs, A0, d0, A1, d1, rfl, hk, hb5, hbr, hT, hi0, hi1, hll, hlk, hC, hE⟩ := hrel
    have hk' := Aside0.mk hk
    have hb5' := Aside0.mk hb5
    have hbr' := Aside0.mk hbr
    have hT' := Aside0.mk hT
    have hi0' := Aside0.mk hi0
    have hi1' := Aside0.mk hi1
    have hll' := Aside0.mk hll
    have hlk' := Aside0.mk hlk
    have hC1 := Aside0.mk hC
    have hE1 := Aside0.mk hE
    clear hk hb5 hbr hT hi0 hi1 hll hlk hC hE
    by_cases hlt : k < m
    · have hlt' := Aside0.mk hlt
      have hwk := Aside0.mk (show wrap64 ((k : Int) + 1) = ((k + 1 : Nat) : Int) by have := hm'.out; rw [IntWalk.wrap64_in _ (by omega)]; omega)
      have hcb : decide ((k : Int) < (m : Int)) = true := decide_eq_true (by omega)
      have hcn : decide (k < m) = true := decide_eq_true hlt
      clear hlt
      go_wp2_with (go_at_call 143; refine Stop.out ?_)
      refine ⟨(l1Once_calls w0 _ q hC1.out 2 (by omega) (by omega)).mono ?_⟩
      rintro e w2 ⟨v, rfl, ⟨b, rfl⟩, hC2, hE2⟩
      have hC2' := Aside0.mk hC2
      have hE2' := Aside0.mk (hE1.out.trans hE2 fun _ _ h => h)
      have hb52 := Aside0.mk (blk_ex hE2 hb5'.out (by have := hqw.out; have := hg.out; omega))
      have hbr2 := Aside0.mk (blk_ex hE2 hbr'.out (by have := hqw.out; omega))
      have hT2 := Aside0.mk (hT'.out.ex hE2 fun b hb => .inl (by have := hqw.out; omega))
      clear hC2 hE2
      cases b with
      | false =>
        go_wp2
        refine ⟨⟨k + 1, ns, vs, A0, d0, A1, d1, by rw [hwk.out], by have := hlt'.out; omega, hb52.out, hbr2.out, hT2.out, hi0'.out, hi1'.out, hll'.out, by have := hlk'.out; omega, hC2'.out, hE2'.out⟩, ?_⟩
        rw [hwk.out]
        have := hlt'.out
        simp [intOf]
        omega
      | true =>
        have hd0 := blk_cell hb52.out
        have hf0 := blk_frozen hb52.out
        go_wp2_with (refine gate 19 ?_)
        have hI5 := Aside0.mk (lit_I w2 k (by have := hlt'.out; have := hm'.out; omega))
        have hS5 := Aside0.mk (On.alloc (On.refl w2) (.cells #[.int .i64 k] 3 (0, 0)))
        have hT5 := Aside0.mk (hT2.out.on hS5.out)
        have hlt5 := Aside0.mk (blk_lt (blk_below hb52.out hS5.out))
        obtain ⟨ms, hms⟩ : ∃ ms, ns ++ [(k : Int)] = ms := ⟨_, rfl⟩
        refine ⟨apI 19 hms (OI.to hT5.out.r0) hI5.out.2.1 (by have := hlt5.out; have := hg.out; omega) (by have := hlk'.out; have := hlt'.out; have := hm'.out; simp; omega) fun v6 w6 hO6 hg6 hat6 => ?_⟩
        have hO6' := Aside0.mk (OI.of hO6)
        have hT6 := Aside0.mk (hT5.out.app0 hlt5.out (OI.of hO6) hg6 (hat6.imp id fun ⟨b, e, h⟩ => ⟨b, e, h⟩))
        have hS6 := Aside0.mk (Ex.of_grown hg6)
        have hb56 := Aside0.mk (blk_ex hS6.out (blk_below hb52.out hS5.out) (fun e => hT5.out.n0 _ e.symm rfl))
        have hbr6 := Aside0.mk (blk_ex hS6.out (blk_below hbr2.out hS5.out) (fun e => by have := own_base hT5.out.r0 _ e.symm; omega))
        have hml := Aside0.mk (show ms.length = ns.length + 1 by rw [← hms]; simp)
        have hmi := Aside0.mk (show InR ms by rw [← hms]; intro z hz; exact (List.mem_append.1 hz).elim (hi0'.out z) (fun h => by rw [List.mem_singleton.1 h]; have := hlt'.out; have := hm'.out; omega))
        clear hO6 hg6 hat6 hms hd0 hf0
        obtain ⟨A6, c6, rfl⟩ := own_slice hO6'.out
        have hd6 := blk_cell hb56.out
        have hf6 := blk_frozen hb56.out
        have EX := Aside0.mk (Ex.set w6 ⟨g5, 0, none⟩ (.slice A6 ms.length c6))
        obtain ⟨X, hX⟩ : ∃ X, w6.setCell ⟨g5, 0, none⟩ (.slice A6 ms.length c6) = X := ⟨_, rfl⟩
        have hbX := Aside0.mk (show X.heap[g5]? = some (.cells #[.slice A6 ms.length c6, .slice A1 vs.length d1] 45 (0, 0)) from hX ▸ blk_set hb56.out 0 _)
        have hbXs := Aside0.mk (show (w6.setCell ⟨g5, 0, none⟩ (.slice A6 ms.length c6)).heap[g5]? = some (.cells #[.slice A6 ms.length c6, .slice A1 vs.length d1] 45 (0, 0)) from blk_set hb56.out 0 _)
        have hX' := Aside0.mk hX
        clear hX
        go_wp2
        rw [hX'.out]
        have EX' := Aside0.mk (show Ex (fun b => b = g5) w6 X from hX'.out ▸ EX.out)
        have hq1 := Aside0.mk (show q < w.heap.size ∧ w.heap.size + 1 = g5 ∧ w0.heap.size ≤ q from ⟨hqw.out, hg.out, hq0.out⟩)
        have hbrX := Aside0.mk (blk_ex EX'.out hbr6.out (by have := hg.out; omega))
        have hTX := Aside0.mk (hT6.out.ex EX'.out fun b hb => .inr hb)
        have hCX := Aside0.mk (((hC2'.out.next hS5.out).ex hS6.out (fun b hb => by have := own_base hT5.out.r0 b hb.symm; have := hq1.out; omega)).ex EX'.out (fun b hb => by have := hq1.out; omega))
        have hEX := Aside0.mk (((hE2'.out.then_on hS5.out).trans hS6.out (fun i hi h => by have := own_base hT5.out.r0 i h.symm; omega)).trans EX'.out (fun i hi h => by have := hq1.out; omega))
        clear hd6 hf6
        refine Reg.regionG (fun w' => w'.heap[g5]? = some (.cells #[.slice A6 ms.length c6, .slice A1 vs.length d1] 45 (0, 0))) [0,1,2,3] [4,5,6,7,8] 8 (by kernel_rfl) (by kernel_rfl) hbX.out ?_
        repeat refine Reg.sG ?_
        refine Reg.startG ?_
        obtain ⟨w7, hw7⟩ : ∃ w7, ({ X with drawn := X.drawn + 1 } : World) = w7 := ⟨_, rfl⟩
        have hS7 := Aside0.mk (show On X w7 from (hw7 ▸ on_draw X))
        rw [hw7]
        clear hw7
        refine Reg.tG ?_
        go_wp2_with (go_at_call 169; refine Stop.out ?_)
        refine ⟨(l4Value_calls w0 _ q (hCX.out.next hS7.out) m (by omega) (by have := hm'.out; omega)).mono ?_⟩
        rintro e w8 ⟨v, rfl, ⟨x, rfl, hx⟩, hC8, hE8⟩
        have hx' := Aside0.mk hx
        have hC8' := Aside0.mk hC8
        have hE8x := Aside0.mk ((Ex.of_on (S := fun b => b = q) hS7.out).trans hE8 fun _ _ h => h)
        have hE8' := Aside0.mk (hEX.out.trans hE8x.out fun _ _ h => h)
        have hb8 := Aside0.mk (blk_ex hE8x.out hbX.out (by have := hq1.out; omega))
        have hbr8 := Aside0.mk (blk_ex hE8x.out hbrX.out (by have := hq1.out; omega))
        have hT8 := Aside0.mk (hTX.out.ex hE8x.out fun b hb => .inl (by have := hq1.out; omega))
        clear hC8 hE8 hx
        go_wp2
        refine ⟨hb8.out, ?_⟩
        refine Reg.tG ?_
        go_wp2
        have hI9 := Aside0.mk (lit_I w8 x (by have := hx'.out; omega))
        have hS9 := Aside0.mk (On.alloc (On.refl w8) (.cells #[.int .i64 x] 3 (0, 0)))
        have hT9 := Aside0.mk (hT8.out.on hS9.out)
        have hlt9 := Aside0.mk (blk_lt (blk_below hb8.out hS9.out))
        refine ⟨blk_below hb8.out hS9.out, ?_⟩
        refine Reg.tG ?_
        obtain ⟨us, hus⟩ : ∃ us, vs ++ [x] = us := ⟨_, rfl⟩
        refine apI 27 hus (OI.to hT9.out.r1) hI9.out.2.1 (by have := hlt9.out; have := hq1.out; omega) (by have := hll'.out; have := hlk'.out; have := hlt'.out; have := hm'.out; simp; omega) fun v10 w10 hO10 hg10 hat10 => ?_
        have hO10' := Aside0.mk (OI.of hO10)
        have hT10 := Aside0.mk (hT9.out.app1 hlt9.out (OI.of hO10) hg10 (hat10.imp id fun ⟨b, e, h⟩ => ⟨b, e, h⟩))
        have hS10 := Aside0.mk (Ex.of_grown hg10)
        have hb10 := Aside0.mk (blk_ex hS10.out (blk_below hb8.out hS9.out) (fun e => hT9.out.n1 _ e.symm rfl))
        have hbr10 := Aside0.mk (blk_ex hS10.out (blk_below hbr8.out hS9.out) (fun e => by have := own_base hT9.out.r1 _ e.symm; omega))
        have hul := Aside0.mk (show us.length = vs.length + 1 by rw [← hus]; simp)
        have hui := Aside0.mk (show InR us by rw [← hus]; intro z hz; exact (List.mem_append.1 hz).elim (hi1'.out z) (fun h => by rw [List.mem_singleton.1 h]; have := hx'.out; omega))
        clear hO10 hg10 hat10 hus
        obtain ⟨A10, c10, rfl⟩ := own_slice hO10'.out
        refine ⟨hb10.out, ?_⟩
        have hd6 := blk_cell hb10.out
        have hf6 := blk_frozen hb10.out
        simp only [Act.put, List.setIfInBounds_toArray, List.set_cons_zero, List.set_cons_succ]
        refine Reg.tG ?_
        go_wp2
        refine ⟨hb10.out, ?_⟩
        refine Reg.tE ?_
        go_wp2
        have EY := Ex.set w10 ⟨g5, 1, none⟩ (.slice A10 us.length c10)
        have hq2 := hq1.out
        refine ⟨⟨k + 1, ms, us, A6, c6, A10, c10, by rw [hwk.out], by have := hlt'.out; omega, blk_set hb10.out 1 _, blk_ex EY hbr10.out (fun e => by have e' : w.heap.size = g5 := e; omega), hT10.out.ex EY (fun b hb => .inr hb), hmi.out, hui.out, by have := hml.out; have := hul.out; have := hll'.out; omega, by have := hml.out; have := hlk'.out; omega,
          ((hC8'.out.next hS9.out).ex hS10.out (fun b hb => by have := own_base hT9.out.r1 b hb.symm; omega)).ex EY (fun b hb => by have e' : b = g5 := hb; omega),
          ((hE8'.out.then_on hS9.out).trans hS10.out (fun i hi h => by have := own_base hT9.out.r1 i h.symm; omega)).trans EY (fun i hi h => by have e' : i = g5 := h; omega)⟩, ?_⟩
        rw [hwk.out]
        have := hlt'.out
        simp [intOf]
        omega
    · have hcb : decide ((k : Int) < (m : Int)) = false := decide_eq_false (by omega)
      have hcn : decide (k < m) = false := decide_eq_false hlt
      have hlm := Aside0.mk (show ns.length ≤ m by have := hlk'.out; have := hk'.out; omega)
      clear hlt
      by_cases hv : 0 < vs.length
      · have hv' := Aside0.mk hv
        have hvb : decide ((0 : Int) < (vs.length : Int)) = true := decide_eq_true (by omega)
        have hvn : decide (0 < vs.length) = true := decide_eq_true hv
        clear hv
        have hd0 := blk_cell hb5'.out
        go_wp2_with (go_at_call 143; refine Stop.out ?_)
        refine ⟨(l1Once_calls w0 _ q hC1.out 14 (by omega) (by omega)).mono ?_⟩
        rintro e w2 ⟨v, rfl, ⟨b, rfl⟩, hC2, hE2⟩
        have hC2' := Aside0.mk hC2
        have hE2' := Aside0.mk (hE1.out.trans hE2 fun _ _ h => h)
        have hb2 := Aside0.mk (blk_ex hE2 hb5'.out (by have := hqw.out; have := hg.out; omega))
        have hr2 := Aside0.mk (blk_ex hE2 hbr'.out (by have := hqw.out; omega))
        have hT2 := Aside0.mk (hT'.out.ex hE2 fun b hb => .inl (by have := hqw.out; omega))
        clear hC2 hE2 hd0
        have hd0 := blk_cell hb2.out
        cases b with
        | false =>
          have hd1 := blk_cell hr2.out
          have hf1 := blk_frozen hr2.out
          go_wp2
          refine bodyPost_ret (retSu rfl rfl (g := w.heap.size) (blk_set (blk_set hr2.out 0 _) 1 _) rfl) rfl ?_
          exact sub_end hqw.out hq0.out hT2.out.r0 hT2.out.r1 hi0'.out hi1'.out hlm.out hll'.out hC2'.out hE2'.out
        | true =>
          obtain ⟨y0, ys, rfl⟩ : ∃ y0 ys, vs = y0 :: ys := by
            cases vs with
            | nil => have := hv'.out; simp at this
            | cons a b => exact ⟨a, b, rfl⟩
          obtain ⟨gr, rfl, hgr1, hgr2, -⟩ := OI.set0 hT2.out.r1
          have hgr := Aside0.mk (show w.heap.size + 1 ≤ gr ∧ gr ≠ g5 from ⟨hgr1, hT2.out.n1 gr rfl⟩)
          clear hgr1 hgr2
          go_wp2
          refine Reg.regionG (fun w' => w'.heap[g5]? = some (.cells #[.slice A0 ns.length d0, .slice (some ⟨gr, 0, none⟩) (y0 :: ys).length d1] 45 (0, 0))) [0,1,2] [3,4,5,6] 6 (by kernel_rfl) (by kernel_rfl) hb2.out ?_
          repeat refine Reg.sG ?_
          refine Reg.startG ?_
          obtain ⟨w4, hw4⟩ : ∃ w4, ({ w2 with drawn := w2.drawn + 1 } : World) = w4 := ⟨_, rfl⟩
          have hS4 := Aside0.mk (show On w2 w4 from (hw4 ▸ on_draw w2))
          rw [hw4]
          clear hw4 hd0
          refine Reg.tG ?_
          go_wp2
          have hlt := Aside0.mk (show OI (w4.alloc (.cells #[.int .i64 10, .int .i64 (-41)] 3 (0, 0))) w4.heap.size (.slice (some ⟨w4.heap.size, 0, none⟩) 2 2) [10, -41] from lit_own w4 #[.int .i64 10, .int .i64 (-41)] 3 1 2 w4.heap.size (Nat.le_refl _) (by omega) rfl)
          have hS5 := Aside0.mk (hS4.out.trans (On.alloc (On.refl w4) (.cells #[.int .i64 10, .int .i64 (-41)] 3 (0, 0))))
          have hqs := Aside0.mk (show q < w4.heap.size from (hC2'.out.next hS4.out).lt)
          refine ⟨blk_below hb2.out hS5.out, ?_⟩
          refine Reg.tG ?_
          go_wp2_with (go_at_call 170; refine Stop.out ?_)
          refine ⟨(l1PickInt_calls w0 _ q (hC2'.out.next hS5.out) (some ⟨w4.heap.size, 0, none⟩) 2 [10, -41] (fun w' k => (OI.same (own_ex hlt.out k (fun i hi e => by have := own_base hlt.out i hi; have := hqs.out; omega)) (fun z hz => by simp at hz; omega)).2) (by simp) (by simp)).mono ?_⟩
          rintro e w6 ⟨v, rfl, ⟨x, rfl, hx⟩, hC6, hE6⟩
          have hx' := Aside0.mk (show -41 ≤ x ∧ x ≤ 10 by simp at hx; omega)
          have hC6' := Aside0.mk hC6
          have hE6' := Aside0.mk ((Ex.of_on (S := fun b => b = q) hS5.out).trans hE6 fun _ _ h => h)
          have hg6 := Aside0.mk (blk_ex hE6'.out hb2.out (by have := hqw.out; have := hg.out; omega))
          have hr6 := Aside0.mk (blk_ex hE6'.out hr2.out (by have := hqw.out; omega))
          have hT6 := Aside0.mk (hT2.out.ex hE6'.out fun b hb => .inl (by have := hqw.out; omega))
          clear hC6 hE6 hx
          obtain ⟨gr', hgr', -, -, ⟨z, hz⟩, hfz, hset⟩ := OI.set0 hT6.out.r1
          obtain rfl : gr = gr' := by injection hgr' with e; injection e
          clear hgr'
          have hset' := Aside0.mk (hset x)
          clear hset
          go_wp2
          refine ⟨hg6.out, ?_⟩
          refine Reg.tG ?_
          go_wp2
          refine ⟨hg6.out, ?_⟩
          refine Reg.tE ?_
          have hx6 := Aside0.mk (show (w6.setCell ⟨gr, 0, none⟩ (.int .i64 x)).heap[w.heap.size]? = _ from blk_far hr6.out (by show ¬ _; simp; have := hgr.out; omega) _)
          have hy6 := Aside0.mk (show (w6.setCell ⟨gr, 0, none⟩ (.int .i64 x)).heap[g5]? = _ from blk_far hg6.out (by show ¬ _; simp; have := hgr.out; omega) _)
          have hd0 := blk_cell hy6.out
          have hd1 := blk_cell hx6.out
          have hf1 := blk_frozen hx6.out
          go_wp2
          refine bodyPost_ret (retSu rfl rfl (g := w.heap.size) (blk_set (blk_set hx6.out 0 _) 1 _) rfl) rfl ?_
          have EX := Ex.set w6 ⟨gr, 0, none⟩ (.int .i64 x)
          have hb1 := hgr.out
          have hb3 := hqw.out
          have hb4 := hq0.out
          exact sub_end (vs := x :: ys) hqw.out hq0.out (own_ex hT6.out.r0 EX (fun i hi e => by have e' : i = gr := e; exact hT6.out.ap i hi (by rw [e']; rfl))) hset'.out hi0'.out (fun z hz => (List.mem_cons.1 hz).elim (fun e => by have := hx'.out; omega) (fun h => hi1'.out z (List.mem_cons_of_mem _ h))) hlm.out (by have := hll'.out; simp at this ⊢; omega) (hC6'.out.ex EX (fun b hb => by have e' : b = gr := hb; omega)) ((hE2'.out.trans hE6'.out fun _ _ h => h).trans EX (fun i hi h => by have e' : i = gr := h; omega))
      · have hvb : decide ((0 : Int) < (vs.length : Int)) = false := decide_eq_false (by omega)
        have hvn : decide (0 < vs.length) = false := decide_eq_false hv
        clear hv
        have hd0 := blk_cell hb5'.out
        have hd1 := blk_cell hbr'.out
        have hf1 := blk_frozen hbr'.out
        go_wp2
        refine bodyPost_ret (retSu rfl rfl (g := w.heap.size) (blk_set (blk_set hbr'.out 0 _) 1 _) rfl) rfl ?_
        exact sub_end hqw.out hq0.out hT'.out.r0 hT'.out.r1 hi0'.out hi1'.out hlm.out hll'.out hC1.out hE1.out
end Go.Proofs.Ytngjhblbpapjeaa.H
/- Facts sorted, then the repeated ones taken out: the facts in order, each once. Plain. No condition. -/
namespace Go.Proofs.Ytngjhblbpapjeaa.H
open Go Go.RowKit Go.Proofs.YtngjhblbpapjeaaW.PrintWords Go.Proofs.YtngjhblbpapjeaaW.PrintLast
set_option linter.unusedVariables false
set_option linter.unusedSimpArgs false

instance : DecidableEq Fct := inferInstance
end Go.Proofs.Ytngjhblbpapjeaa.H
/- Walks: the reference applies a substitution to an instance. No condition. -/
namespace Go.Proofs.Ytngjhblbpapjeaa.H
open Go Go.RowKit Go.Proofs.YtngjhblbpapjeaaW.PrintWords Go.Proofs.YtngjhblbpapjeaaW.PrintLast
open Go.Proofs.Ytngjhblbpapjeaa.Reg (On on_draw)
set_option maxHeartbeats 4000000
set_option maxRecDepth 100000
set_option linter.unusedVariables false
set_option linter.unusedSimpArgs false

def appOk (rs : List Rel) (fs : List Fct) (ns vs : List Int) : Bool := okSub ns vs && okInst rs fs
def appR (rs : List Rel) (fs : List Fct) (ns vs : List Int) : List Rel := if appOk rs fs ns vs then rs else []
def appI (rs : List Rel) (fs : List Fct) (ns vs : List Int) : List Fct := if appOk rs fs ns vs then setF (fs.map (appF ns vs)) else []
theorem setF_len (l : List Fct) : (setF l).length ≤ l.length := by
  have : ∀ (l out : List Fct), (l.foldl putF out).length ≤ out.length + l.length := by
    intro l
    induction l with
    | nil => intro out; simp
    | cons f l ih =>
      intro out
      rw [List.foldl_cons]
      have h1 := ih (putF out f)
      have h2 : (putF out f).length ≤ out.length + 1 := by
        clear h1 ih
        induction out with
        | nil => simp [putF]
        | cons y r ih => unfold putF; split <;> (try split) <;> simp <;> omega
      simp; omega
  simpa [setF] using this l []
theorem sApplyToInstance_calls (w : World) (A0 c0 A1 c1) (ns vs : List Int) (h0 : Ints w A0 c0 ns) (h1 : Ints w A1 c1 vs) (A2 c2 A3 c3) (rs : List Rel) (fs : List Fct) (h2 : Rels w A2 c2 rs) (h3 : Fcts w A3 c3 fs) :
    Calls Try.prog 144 #[.agg #[.slice A0 ns.length c0, .slice A1 vs.length c1], .agg #[.slice A2 rs.length c2, .slice A3 fs.length c3]] w (Got fun v w' => ∃ v1, v = .tuple #[v1, .bool (appOk rs fs ns vs)] ∧ OIn w' w.heap.size v1 (appR rs fs ns vs) (appI rs fs ns vs) ∧ On w w') := by
  have hb := Aside0.mk (On.alloc (On.alloc (On.alloc (On.refl w) (.cells #[.slice A0 ns.length c0, .slice A1 vs.length c1] 45)) (.cells #[.slice A2 rs.length c2, .slice A3 fs.length c3] 32)) (.cells #[.slice none 0 0, .slice none 0 0] 32))
  have hL := Aside0.mk (loc3 w #[.slice A0 ns.length c0, .slice A1 vs.length c1] #[.slice A2 rs.length c2, .slice A3 fs.length c3] #[.slice none 0 0, .slice none 0 0] 45 32 32)
  cases hs : okSub ns vs with
  | false =>
    have hno := Aside0.mk (show appOk rs fs ns vs = false by unfold appOk; rw [hs]; rfl)
    have hs' := Aside0.mk hs
    clear hs
    go_enter Try.func144, Try.ntmps144
    go_wp2_with (go_at_call 73; refine (sIsValidSub_calls _ A0 c0 A1 c1 ns vs (h0.on hb.out) (h1.on hb.out)).mono ?_; rintro e w1 ⟨rfl, hb1⟩; rw [hs'.out]; have hBx := Aside0.mk (hb.out.trans hb1); have hRx := Aside0.mk (Loc.on hb1 hL.out).2.2.1; have hcr : ∀ i, w1.cell? ⟨w.heap.size + 1 + 1, i, none⟩ = _ := blk_cell hRx.out; have hfr : ∀ i, w1.frozen? ⟨w.heap.size + 1 + 1, i, none⟩ = _ := blk_frozen hRx.out)
    go_wp2
    refine bodyPost_ret (retIB rfl rfl (g := w.heap.size + 2) (blk_set (blk_set hRx.out 0 _) 1 _) rfl) rfl ?_
    have hlt := blk_lt hRx.out
    refine ⟨_, rfl, _, by rw [hno.out]; rfl, ?_, Reg.On.set (Reg.On.set hBx.out (by simp; omega) _) (by simp; omega) _⟩
    have e1 : appR rs fs ns vs = [] := by unfold appR; rw [hno.out]; rfl
    have e2 : appI rs fs ns vs = [] := by unfold appI; rw [hno.out]; rfl
    rw [e1, e2]
    exact ⟨_, _, [], rfl, World.ownsRow_nil _ _ _ _, World.ownsRow_nil _ _ _ _, Sep.nil _ _⟩
  | true =>
    have hs' := Aside0.mk hs
    cases ho : okInst rs fs with
    | false =>
      have hno := Aside0.mk (show appOk rs fs ns vs = false by unfold appOk; rw [hs, ho]; rfl)
      have ho' := Aside0.mk ho
      clear hs ho
      go_enter Try.func144, Try.ntmps144
      go_wp2_with (first
        | (go_at_call 41; refine (IsValidInstance_calls _ A2 c2 A3 c3 rs fs (h2.on (hb.out.trans hb1)) (h3.on (hb.out.trans hb1))).mono ?_; rintro e w2 ⟨rfl, hb2⟩; rw [ho'.out]; have hBx := Aside0.mk ((hb.out.trans hb1).trans hb2); have hRx := Aside0.mk (Loc.on (hb1.trans hb2) hL.out).2.2.1; have hcr : ∀ i, w2.cell? ⟨w.heap.size + 1 + 1, i, none⟩ = _ := blk_cell hRx.out; have hfr : ∀ i, w2.frozen? ⟨w.heap.size + 1 + 1, i, none⟩ = _ := blk_frozen hRx.out)
        | (go_at_call 73; refine (sIsValidSub_calls _ A0 c0 A1 c1 ns vs (h0.on hb.out) (h1.on hb.out)).mono ?_; rintro e w1 ⟨rfl, hb1⟩; rw [hs'.out]; have hd0 := blk_cell (Loc.on hb1 hL.out).2.1))
      go_wp2
      refine bodyPost_ret (retIB rfl rfl (g := w.heap.size + 2) (blk_set (blk_set hRx.out 0 _) 1 _) rfl) rfl ?_
      have hlt := blk_lt hRx.out
      refine ⟨_, rfl, _, by rw [hno.out]; rfl, ?_, Reg.On.set (Reg.On.set hBx.out (by simp; omega) _) (by simp; omega) _⟩
      have e1 : appR rs fs ns vs = [] := by unfold appR; rw [hno.out]; rfl
      have e2 : appI rs fs ns vs = [] := by unfold appI; rw [hno.out]; rfl
      rw [e1, e2]
      exact ⟨_, _, [], rfl, World.ownsRow_nil _ _ _ _, World.ownsRow_nil _ _ _ _, Sep.nil _ _⟩
    | true =>
      have hyes := Aside0.mk (show appOk rs fs ns vs = true by unfold appOk; rw [hs, ho]; rfl)
      have ho' := Aside0.mk ho
      have hle := Aside0.mk (okInst_len ho)
      have hle3 := Aside0.mk (fun f hf => okFact_len (okInst_mem ho f hf))
      have hmx := h3.max
      clear hs ho
      go_enter Try.func144, Try.ntmps144
      go_wp2_with (first
        | (go_at_call 41; refine (IsValidInstance_calls _ A2 c2 A3 c3 rs fs (h2.on (hb.out.trans hb1)) (h3.on (hb.out.trans hb1))).mono ?_; rintro e w2 ⟨rfl, hb2⟩; rw [ho'.out]; have hB2 := Aside0.mk ((hb.out.trans hb1).trans hb2); have hL2 := Aside0.mk (Loc.on (hb1.trans hb2) hL.out); have hd1 := blk_cell (blk_below hL2.out.2.1 (On.alloc (On.refl w2) (.cells #[] 87))))
        | (go_at_call 73; refine (sIsValidSub_calls _ A0 c0 A1 c1 ns vs (h0.on hb.out) (h1.on hb.out)).mono ?_; rintro e w1 ⟨rfl, hb1⟩; rw [hs'.out]; have hd0 := blk_cell (Loc.on hb1 hL.out).2.1)
        | (refine gate 20 ?_))
      clear hd0 hd1 hb1 hb2
      refine ⟨apRf 20 (List.nil_append _) (lit_own w2 #[] 87 3 0 w2.heap.size (Nat.le_refl _) (by omega) rfl) rfl (h2.on (hB2.out.trans (On.alloc (On.refl _) _))) (by simp) (by have := hle.out; omega) fun v3 w3 hO3 hb3 => ?_⟩
      obtain ⟨B0, d0, rfl⟩ := own_slice hO3
      have hO3' := Aside0.mk hO3
      have hB3 := Aside0.mk ((On.alloc (On.refl w2) (.cells #[] 87)).trans hb3)
      have hfill := alloc_fill w3
      clear hO3 hb3
      go_wp2
      clear hfill
      obtain ⟨q, hq⟩ : ∃ q, w3.heap.size = q := ⟨_, rfl⟩
      have hqY := Aside0.mk (show (w3.alloc (.cells #[.slice B0 rs.length d0, .slice none 0 0] 32)).heap[q]? = some (.cells #[.slice B0 rs.length d0, .slice none 0 0] 32 (0, 0)) from by rw [← hq]; exact loc_new w3 #[.slice B0 rs.length d0, .slice none 0 0] 32)
      have hB4 := Aside0.mk (hB3.out.trans (On.alloc (On.refl w3) (.cells #[.slice B0 rs.length d0, .slice none 0 0] 32)))
      have hq2 := Aside0.mk (show w2.heap.size ≤ q from by rw [← hq]; exact hB3.out.size)
      have hO4 := pw_own_below hO3'.out (On.alloc (On.refl w3) (.cells #[.slice B0 rs.length d0, .slice none 0 0] 32))
      have hlo : ∀ i, Value.ownBlock (.slice B0 rs.length d0) = some i → i < q := fun i hi => by rw [← hq]; exact own_lt hO3'.out i hi
      obtain ⟨w4, hw4⟩ : ∃ w4, w3.alloc (.cells #[.slice B0 rs.length d0, .slice none 0 0] 32) = w4 := ⟨_, rfl⟩
      rw [hw4] at hqY hB4 hO4 ⊢
      try rw [hq]
      clear hw4 hq
      have hR4 := Aside0.mk (show RS (fun b => b = q) w4 (.agg #[.slice B0 rs.length d0, .slice none ([] : List Fct).length 0]) rs [] from ⟨B0, d0, none, 0, [], rfl, fun w' k => by
        have h5 := own_ex hO4 k (fun i hi e => by have := hlo i hi; omega)
        obtain ⟨A', c', e, h6⟩ := OR.rd h5
        injection e with e1 e2 e3
        subst e1 e3
        exact ⟨h6, ⟨Nat.le_refl _, by simp, fun j u hu => by simp at hu⟩, Reads.nil _⟩⟩)
      clear hO4 hlo
      go_loopw [7] (fun v7 wr => ∃ (i : Nat) (C0 : Option Addr) (e0 : Nat) (C1 : Option Addr) (e1 : Nat) (cur : List Fct), v7 = .int .i64 i ∧ i ≤ fs.length ∧ Aside0 (cur = ((fs.map (appF ns vs)).take i).foldl putF []) ∧ Aside0 (RS (fun b => b = q) wr (.agg #[.slice C0 rs.length e0, .slice C1 cur.length e1]) rs cur) ∧ Aside0 (On w2 wr) ∧ wr.heap[q]? = some (.cells #[.slice C0 rs.length e0, .slice C1 cur.length e1] 32 (0, 0))) (fun v7 _ => fs.length - (intOf v7).toNat)
      case atStart => exact ⟨0, B0, d0, none, 0, [], rfl, Nat.zero_le _, ⟨rfl⟩, hR4, hB4, hqY.out⟩
      case round =>
        obtain ⟨i, C0, e0, C1, e1, cur, rfl, hi, hcur, hR, hB, hY⟩ := hrel
        have hBw := Aside0.mk (hB2.out.trans hB.out)
        have hLr := Aside0.mk (Loc.on hB.out hL2.out)
        have hY' := Aside0.mk hY
        have hyc := blk_cell hY
        have hyf := blk_frozen hY
        have hd0 := blk_cell hLr.out.1
        have hd1 := blk_cell hLr.out.2.1
        have hspec := Aside0.mk (show Asc cur ∧ ∀ x, x ∈ cur → x ∈ fs.map (appF ns vs) by
          have h := foldl_putF ((fs.map (appF ns vs)).take i) [] List.Pairwise.nil
          rw [hcur.out]
          refine ⟨h.1, fun x hx => ?_⟩
          rcases (h.2 x).1 hx with h | h
          · cases h
          · exact List.mem_of_mem_take h)
        have hcl := Aside0.mk (show cur.length ≤ 30 by
          have h := setF_len ((fs.map (appF ns vs)).take i)
          rw [hcur.out]
          have h2 : (setF ((fs.map (appF ns vs)).take i)).length ≤ 30 := by
            have := hle.out
            rw [List.length_take, List.length_map] at h
            omega
          exact h2)
        clear hY
        by_cases hlt : i < fs.length
        · obtain ⟨ad, A5, c5, rfl, x0, x1, x2⟩ := (h3.on hBw.out).at i hlt
          have x2' := Aside0.mk x2
          have hf3 := Aside0.mk (hle3.out fs[i] (List.getElem_mem hlt))
          clear x2
          go_wp2
          refine Reg.region [(0,.L),(1,.L),(2,.L),(3,.L),(4,.L),(5,.L),(6,.L),(7,.N),(8,.N)] [9] (by kernel_rfl) (by kernel_rfl) ?_
          repeat first | refine sP ?_ | refine sS ?_ | refine sA ?_ | refine sL ?_ | refine sQ ?_ | refine sO ?_
          refine callN Try.func77 (fun w5 hS5 => ?_)
          refine (sApplyToFact_calls w5 A0 c0 A1 c1 A5 c5 ns vs fs[i] (h0.on (hBw.out.trans hS5)) (h1.on (hBw.out.trans hS5)) (x2'.out.on hS5) (by have := hf3.out; omega)).mono ?_
          rintro e w6 ⟨v6, rfl, u6, rfl, hO6, hb6⟩
          obtain ⟨F, hF⟩ : ∃ F : Fct, appF ns vs fs[i] = F := ⟨_, rfl⟩
          have hF1 : fs[i].1 = F.1 := by rw [← hF]; rfl
          have hF2 : fs[i].2.map (appV ns vs) = F.2 := by rw [← hF]; rfl
          have hFl : F.2.length = fs[i].2.length := by rw [← hF2, List.length_map]
          rw [hF2] at hO6
          have hFR : InR F.2 := by
            rw [← hF2]
            intro x hx
            obtain ⟨y, hy, rfl⟩ := List.mem_map.1 hx
            exact appV_bd (x2'.out.2.2 y hy)
          obtain ⟨A6, c6, rfl, hI6⟩ := OI.rd hO6 hFR
          refine ⟨.agg #[.int .i64 F.1, .slice A6 F.2.length c6], by rw [hF1], hb6, fun a' ha => ?_⟩
          simp only [Act.put, List.setIfInBounds_toArray, List.set_cons_zero, List.set_cons_succ] at ha
          subst ha
          refine callN Try.func96 (fun w7 hS7 => ?_)
          have hB7 := hS5.trans (hb6.trans hS7)
          obtain ⟨D0, g0, D1, g1, hh, eR, hAR⟩ := (hR.out.on hB7).out
          injection eR with eR
          have eR1 := congrArg (fun x => x.toList) eR
          simp only [List.cons.injEq, Value.slice.injEq] at eR1
          obtain ⟨⟨p1, p2, p3⟩, ⟨p4, p5, p6⟩, _⟩ := eR1
          subst p1 p3 p4 p6
          have hq7 := blk_lt (blk_below hY'.out hB7)
          refine (l5PutS_calls (fun b => b = q) w7 C0 e0 C1 e1 hh rs cur hAR (fun b hb => by rw [hb]; exact hq7) A6 c6 F (hI6.on hS7) (by have := hcl.out; omega) (by have := hf3.out; omega) hspec.out.1).mono ?_
          rintro e w8 ⟨v8, rfl, hR8, hb8⟩
          have hR8' := Aside0.mk hR8
          obtain ⟨G0, k0, G1, k1, hh8, rfl, hAR8⟩ := hR8.out
          refine ⟨_, rfl, hb8, fun a' ha => ?_⟩
          simp only [Act.put, List.setIfInBounds_toArray, List.set_cons_zero, List.set_cons_succ] at ha
          subst ha
          refine Reg.tail_ fun w9 hS9 => ?_
          have hB9 := Aside0.mk (hB7.trans (hb8.trans hS9))
          have hY9 := Aside0.mk (blk_below hY'.out hB9.out)
          have hyc9 := blk_cell hY9.out
          have hyf9 := blk_frozen hY9.out
          have hF' := Aside0.mk hF
          have hS9' := Aside0.mk hS9
          clear eR p2 p5 hAR hAR8 hR8 hyc hyf hd0 hd1 x0 x1 hO6 hI6 hF hF1 hF2 hS9
          go_wp2
          refine ⟨⟨i + 1, G0, k0, G1, k1, putF cur F, by go_num, by omega, ⟨?_⟩, ⟨(hR8'.out.on hS9'.out).ex ((Ex.set w9 ⟨q, 0, none⟩ _).trans (Ex.set _ ⟨q, 1, none⟩ _) (fun i _ h => h))⟩, ⟨Reg.On.set (Reg.On.set (hB.out.trans hB9.out) hq2.out _) hq2.out _⟩, blk_set (blk_set hY9.out 0 _) 1 _⟩, by simp [intOf]; omega⟩
          rw [List.take_succ_eq_append_getElem (by rw [List.length_map]; exact hlt), List.foldl_append, ← hcur.out, List.getElem_map, hF'.out]
          rfl
        · have hend := Aside0.mk (show appI rs fs ns vs = cur by
            unfold appI
            rw [hyes.out, if_pos rfl, hcur.out, List.take_of_length_le (by rw [List.length_map]; omega)]
            rfl)
          obtain ⟨D0, g0, D1, g1, hh, eR, hAR⟩ := hR.out.out
          injection eR with eR
          have eR1 := congrArg (fun x => x.toList) eR
          simp only [List.cons.injEq, Value.slice.injEq] at eR1
          obtain ⟨⟨p1, p2, p3⟩, ⟨p4, p5, p6⟩, _⟩ := eR1
          subst p1 p3 p4 p6
          obtain ⟨r0, r1, r2⟩ := hAR wr (Ex.refl _ _)
          clear eR p2 p5
          go_wp2_with (refine gate 39 ?_)
          refine ⟨goesF 39 Try.func86 ((l5Copy_calls wr C0 e0 C1 e1 rs cur r0 (r1.fcts r2) (by have := hle.out; omega) (by have := hcl.out; omega) (fun f hf => ?_)).mono ?_)⟩
          · obtain ⟨f0, hf0, rfl⟩ := List.mem_map.1 (hspec.out.2 f hf)
            have := hle3.out f0 hf0
            show (f0.2.map (appV ns vs)).length ≤ _
            rw [List.length_map]; omega
          rintro e w5 ⟨v5, rfl, hI5, hb5⟩
          refine ⟨_, rfl, ?_⟩
          obtain ⟨a1, a2, a3, a4, a5, a6, rfl⟩ := hI5.read.shape
          have hI5' := Aside0.mk hI5
          have hRx := Aside0.mk (blk_below hLr.out.2.2.1 hb5)
          have hBx := Aside0.mk (hBw.out.trans hb5)
          have hcr : ∀ i, w5.cell? ⟨w.heap.size + 1 + 1, i, none⟩ = _ := blk_cell hRx.out
          have hfr : ∀ i, w5.frozen? ⟨w.heap.size + 1 + 1, i, none⟩ = _ := blk_frozen hRx.out
          clear hI5 r0 r1 r2 hAR hyc hyf hd0 hd1
          go_wp2
          refine bodyPost_ret (retIB rfl rfl (g := w.heap.size + 2) (blk_set (blk_set hRx.out 0 _) 1 _) rfl) rfl ?_
          have hlt1 := blk_lt hLr.out.2.2.1
          have hlt2 := hBw.out.size
          refine ⟨_, rfl, _, by rw [hyes.out]; rfl, ?_, Reg.On.set (Reg.On.set hBx.out (by simp; omega) _) (by simp; omega) _⟩
          have e1 : appR rs fs ns vs = rs := by unfold appR; rw [hyes.out]; rfl
          rw [e1, hend.out]
          exact OIn.lower (OIn.set (OIn.set hI5'.out (by simp; omega) _) (by simp; omega) _) hlt2
end Go.Proofs.Ytngjhblbpapjeaa.H
/- The rule for regions that draw their order where what is read is told by a predicate G, and two operations that make memory may come up at once. No condition. -/
namespace Go.Proofs.Ytngjhblbpapjeaa.Reg
open Go Go.RowKit
set_option linter.unusedVariables false
variable {P : Program} {ops : Array Oper} {Q : Exit → Act → World → Prop} {md : Region.Mode}
/-- leaf: in line; r: a read, whatever G tells; n: the one operation that may come up; two: two that may come up. -/
inductive Th where
  | leaf (l : List Nat)
  | r (i : Nat) (p : Th)
  | n (i : Nat) (p : Th)
  | two (i j : Nat) (p q : Th)
def Th.len : Th → Nat
  | .leaf l => l.length
  | .r _ p => p.len + 1
  | .n _ p => p.len + 1
  | .two _ _ p _ => p.len + 1
def chkH (md : Region.Mode) (ops : Array Oper) (k : Nat) : Th → Array Bool → Bool
  | .leaf l, listed => chkTail md ops l listed && l.getLast? == some k
  | .r i p, listed => (Region.ready md ops listed).contains i && freeC md ops false listed i && reach md ops k i && !(k == i) && chkH md ops k p (listed.setIfInBounds i true)
  | .n i p, listed => Region.ready md ops listed == [i] && chkH md ops k p (listed.setIfInBounds i true)
  | .two i j p q, listed => Region.ready md ops listed == [i, j] && p.len == q.len && chkH md ops k p (listed.setIfInBounds i true) && chkH md ops k q (listed.setIfInBounds j true)
def wpH (P : Program) (ops : Array Oper) (Q : Exit → Act → World → Prop) (G : World → Prop) : Th → Act → World → Prop
  | .leaf l, a, w => tailG P ops Q G l a w
  | .r i p, a, w => match ops[i]? with
    | none => False
    | some o => if Region.wanted o (yielded ops a.tmps) then ∃ v, (∀ w, G w → (execOp a.eval o).run P w = .ok (.value v) w) ∧ wpH P ops Q G p (a.put o.dst v) w else wpH P ops Q G p (a.put o.dst undef) w
  | .n i p, a, w => wpOp P ops Q i (fun a' w' => G w' ∧ wpH P ops Q G p a' w') a w
  | .two i j p q, a, w => wpOp P ops Q i (fun a' w' => G w' ∧ wpH P ops Q G p a' w') a w ∧ wpOp P ops Q j (fun a' w' => G w' ∧ wpH P ops Q G q a' w') a w
theorem stepT_of_op {G : World → Prop} {j : Nat} {o : Oper} (hi : ops[j]? = some o) {a : Act} {W : World} {X : Act → World → Prop} {T : Act → (World → Prop) → Prop} (h : wpOp P ops Q j (fun a' w' => G w' ∧ X a' w') a W) (hX : ∀ a' w', G w' → X a' w' → T a' (fun w => w = w')) :
    stepT P ops Q (fun _ => true) T j a (fun w => w = W) := by
  unfold stepT
  rw [hi]
  show (if _ then _ else _)
  split
  · refine .inr (.inr ⟨.inr rfl, fun w hS => ?_⟩)
    subst hS
    exact wpOp_mono (fun a' w' (hh : G w' ∧ X a' w') => ⟨fun w => w = w', rfl, fun h0 => (by cases h0), hX _ _ hh.1 hh.2⟩) h
  · rename_i hw
    unfold wpOp at h
    simp only [hi] at h
    rw [if_neg hw] at h
    exact hX _ _ h.1 h.2
theorem wpG_of_H {G : World → Prop} {k : Nat} {ok : Oper} (hok : ops[k]? = some ok) (hs : Region.noSelect ops = true) (hQ : Plain Q) : ∀ (t : Th) (listed : Array Bool) (a : Act) (W : World), k < listed.size → closed md ops listed → chkH md ops k t listed = true → G W → wpH P ops Q G t a W → wpG P md ops Q (fun _ => true) G k t.len listed a (fun w => w = W)
  | .leaf l, listed, a, W, hsz, hclosed, hc, hG, h => by
    simp only [chkH, Bool.and_eq_true, beq_iff_eq] at hc
    obtain ⟨hc, hlast⟩ := hc
    exact wpG_of_tail l listed a _ hsz (fun e => by rw [e] at hlast; cases hlast) (fun hn => by rw [List.getLast?_eq_some_getLast hn] at hlast; exact Option.some.inj hlast) (fun i hi => rfl) hc (fun _ w e => by subst e; exact hG) (fun w e => by subst e; exact h)
  | .r i p, listed, a, W, hsz, hclosed, hc, hG, h => by
    simp only [chkH, Bool.and_eq_true] at hc
    obtain ⟨⟨⟨⟨hr, hf⟩, hki⟩, hne⟩, hl⟩ := hc
    have hne' : k ≠ i := by intro e; subst e; simp at hne
    simp only [wpH] at h
    cases hi : ops[i]? with
    | none => simp only [hi] at h
    | some o =>
      simp only [hi] at h
      have hri : i ∈ Region.ready md ops listed := by simpa using hr
      have ih := fun a h => wpG_of_H hok hs hQ p (listed.setIfInBounds i true) a W (by rw [Array.size_setIfInBounds]; exact hsz) (hclosed.set hri) hl hG h
      have sel := Region.noSelect_spec hs
      by_cases hw : Region.wanted o (yielded ops a.tmps) = true
      · rw [if_pos hw] at h
        obtain ⟨v, h1, h2⟩ := h
        exact wpG_first hne' hok hki hQ hi sel _ listed a _ hclosed (fun j oj hj hne hun hno => (freeC_spec hi hf j oj hj hne hun hno).1) hri (.inl ⟨hw, fun w hS => by simpa using h1 w hS⟩) (ih _ h2)
      · rw [if_neg hw] at h
        exact wpG_first hne' hok hki hQ hi sel _ listed a _ hclosed (fun j oj hj hne hun hno => (freeC_spec hi hf j oj hj hne hun hno).1) hri (.inr ⟨by simpa using hw, rfl⟩) (ih _ h)
  | .n i p, listed, a, W, hsz, hclosed, hc, hG, h => by
    simp only [chkH, Bool.and_eq_true, beq_iff_eq] at hc
    obtain ⟨hr, hl⟩ := hc
    simp only [wpH] at h
    refine ⟨fun _ w e => by subst e; exact hG, fun h0 => (by rw [hr] at h0; cases h0), fun j hj => ?_⟩
    have hj' := hj
    rw [hr] at hj
    obtain rfl := List.mem_singleton.1 hj
    obtain ⟨_, oj, hoj, _⟩ := mem_ready.1 hj'
    exact stepT_of_op hoj h fun a' w' hG' hX => wpG_of_H hok hs hQ p _ a' w' (by rw [Array.size_setIfInBounds]; exact hsz) (hclosed.set hj') hl hG' hX
  | .two i j p q, listed, a, W, hsz, hclosed, hc, hG, h => by
    simp only [chkH, Bool.and_eq_true, beq_iff_eq] at hc
    obtain ⟨⟨⟨hr, hlen⟩, hp⟩, hq⟩ := hc
    simp only [wpH] at h
    obtain ⟨h1, h2⟩ := h
    refine ⟨fun _ w e => by subst e; exact hG, fun h0 => (by rw [hr] at h0; cases h0), fun x hx => ?_⟩
    have hx' := hx
    rw [hr] at hx
    obtain ⟨_, ox, hox, _⟩ := mem_ready.1 hx'
    rcases List.mem_cons.1 hx with rfl | hx
    · exact stepT_of_op hox h1 fun a' w' hG' hX => wpG_of_H hok hs hQ p _ a' w' (by rw [Array.size_setIfInBounds]; exact hsz) (hclosed.set hx') hp hG' hX
    · obtain rfl := List.mem_singleton.1 hx
      exact stepT_of_op hox h2 fun a' w' hG' hX => hlen ▸ wpG_of_H hok hs hQ q _ a' w' (by rw [Array.size_setIfInBounds]; exact hsz) (hclosed.set hx') hq hG' hX
/-- The rule, shut. -/
structure OrdH (P : Program) (ops : Array Oper) (Q : Exit → Act → World → Prop) (G : World → Prop) (t : Th) (a : Act) (w : World) : Prop where mk :: (out : wpH P ops Q G t a w)
/-- What the region comes to is told (M) with the state ahead of it; what follows stands behind it. -/
theorem regionH {id : Nat} {a : Act} {w : World} (G : World → Prop) (t : Th) (k : Nat) (M : Act → Act → World → Prop) (hm : P.follows .mixedOrders = true) (hc : (Region.noSelect ops && (t.len == ops.size) && decide (k < ops.size) && chkH .any ops k t (Array.replicate ops.size false)) = true)
    (hG : G { w with drawn := w.drawn + 1 }) (h : OrdH P ops (fun x a' w => x = .normal ∧ M a a' w) G t a { w with drawn := w.drawn + 1 }) (hk : ∀ a' w', M a a' w' → Q .normal a' w') : (Code.region id ops true).wp P Q a w := by
  simp only [Bool.and_eq_true, beq_iff_eq, decide_eq_true_eq] at hc
  obtain ⟨⟨⟨h1, h2⟩, h3⟩, h5⟩ := hc
  refine Code.wp_mono (Q := fun x a' w => x = .normal ∧ M a a' w) (fun e a w hx => by obtain ⟨rfl, hM⟩ := hx; exact hk _ _ hM) ?_
  refine wp_region_any hm (wpAny_of_wpG (cl := fun _ => true) (G := G) (k := k) _ _ _ (fun w' => w' = { w with drawn := w.drawn + 1 }) _ rfl ?_)
  rw [← h2]
  exact wpG_of_H (Array.getElem?_eq_getElem h3) h1 (fun c a d v w h => by obtain ⟨h, _⟩ := h; cases h) t _ a _ (by rw [h2, Array.size_replicate]; exact h3) (closed.start _) (by rw [h2]; exact h5) hG h.out
section
variable {G : World → Prop} {i j : Nat} {p q : Th} {l : List Nat} {a a' : Act} {w : World} {o o' : Oper} {N : Tmp}
theorem hR {v : Value} (h : OrdH P ops Q G p a' w) (hi : ops[i]? = some o := by rfl) (hN : o.dst = some N := by rfl) (hw : Region.wanted o (yielded ops a.tmps) = true := by rfl)
    (hy : ∀ w, G w → (execOp a.eval o).run P w = .ok (.value v) w := by intro w' hS; (first | (have hA := blk_cell hS; clear hS; go_simp; first | done | rfl) | (clear hS; go_simp; first | done | rfl)))
    (ha : a.put (some N) v = a' := by simp only [Act.put, List.setIfInBounds_toArray, List.set_cons_zero, List.set_cons_succ]; rfl) : OrdH P ops Q G (.r i p) a w := by
  refine ⟨?_⟩
  simp only [wpH, hi]
  rw [if_pos hw]
  exact ⟨v, hy, by rw [hN, ha]; exact h.out⟩
theorem hN (h : wpList P ops (Exit.then (fun a' w' => G w' ∧ OrdH P ops Q G p a' w') Q) [o] a w) (hi : ops[i]? = some o := by rfl) : OrdH P ops Q G (.n i p) a w := by
  refine ⟨?_⟩
  simp only [wpH]
  exact wpOp_mono (fun a' w' hh => ⟨hh.1, hh.2.out⟩) (wpOp_of_one hi h)
theorem hTwo (h : wpList P ops (Exit.then (fun a' w' => G w' ∧ OrdH P ops Q G p a' w') Q) [o] a w) (h' : wpList P ops (Exit.then (fun a' w' => G w' ∧ OrdH P ops Q G q a' w') Q) [o'] a w) (hi : ops[i]? = some o := by rfl) (hj : ops[j]? = some o' := by rfl) : OrdH P ops Q G (.two i j p q) a w := by
  refine ⟨?_⟩
  simp only [wpH]
  exact ⟨wpOp_mono (fun a' w' hh => ⟨hh.1, hh.2.out⟩) (wpOp_of_one hi h), wpOp_mono (fun a' w' hh => ⟨hh.1, hh.2.out⟩) (wpOp_of_one hj h')⟩
theorem hLeaf (h : TailG P ops Q G l a w) : OrdH P ops Q G (.leaf l) a w := ⟨h.out⟩
end
end Go.Proofs.Ytngjhblbpapjeaa.Reg
