/- Walks and plain laws for the law FnHomomorphismMonotonicity, part 5 of 7: the texts HG18, HG19, HG9, HG10, HG11, HG12, HC1, HC2, HC3, HE in one. No condition. -/
import Derived.Test.YtngjhblbpapjeaaShelf
import Derived.Test.YtngjhblbpapjeaaZFnHomomorphismMonotonicity4
/- Walks: the reference's draw of two instances. What is told: sizes and ranges. No condition. -/
namespace Go.Proofs.Ytngjhblbpapjeaa.H
open Go Go.RowKit Go.Proofs.YtngjhblbpapjeaaW.PrintWords Go.Proofs.YtngjhblbpapjeaaW.PrintLast
open Go.Proofs.Ytngjhblbpapjeaa.Reg (On on_draw)
set_option maxHeartbeats 4000000
set_option maxRecDepth 100000
set_option linter.unusedVariables false
set_option linter.unusedSimpArgs false

theorem appI_small {rs : List Rel} {fs : List Fct} (ns vs : List Int) (h1 : fs.length ≤ 4) (h2 : ∀ f ∈ fs, f.2.length ≤ 2) : (appI rs fs ns vs).length ≤ 4 ∧ ∀ f ∈ appI rs fs ns vs, f.2.length ≤ 2 := by
  unfold appI
  split
  · have h3 := setF_len (fs.map (appF ns vs))
    rw [List.length_map] at h3
    refine ⟨by omega, fun f hf => ?_⟩
    have h4 := (setF_spec (fs.map (appF ns vs))).2 f
    obtain ⟨g, hg, rfl⟩ := List.mem_map.1 (h4.1 hf)
    have := h2 g hg
    show (g.2.map (appV ns vs)).length ≤ 2
    rw [List.length_map]; exact this
  · simp
theorem OIn.rsW {S : Nat → Prop} {w : World} {lo : Nat} {v : Value} {rs : List Rel} {fs : List Fct} (h : OIn w lo v rs fs) (hS : ∀ b, S b → b < lo ∨ w.heap.size ≤ b) : RS S w v rs fs := by
  obtain ⟨vr, vf, hs, rfl, h0, h1, h2⟩ := h.out
  obtain ⟨A0, c0, rfl, _⟩ := OR.rd h0
  obtain ⟨A1, c1, rfl⟩ := own_slice h1
  refine ⟨A0, c0, A1, c1, hs, by rw [h2.len], fun w' k => ?_⟩
  have h3 := own_ex h0 k (fun i hi e => by have := own_base h0 i hi; have := own_lt h0 i hi; have := hS i e; omega)
  have h4 := own_ex h1 k (fun i hi e => by have := own_base h1 i hi; have := own_lt h1 i hi; have := hS i e; omega)
  have h5 := h2.ex k (fun i a b ha hb e => by have := h2.lt ha hb; have := hS b e; omega)
  obtain ⟨A', c', e, h6⟩ := OR.rd h3
  injection e with e1 e2 e3
  subst e1 e3
  exact ⟨h6, (OH.rh h4).2, h5.reads⟩
section
variable {fn : Func} {z p u : Tmp} {tmps : Array Value} {w : World} {g g' : Nat} {t t' : TypeId} {cs cs' : Array Value} {fr fr' : Nat × Nat}
theorem retTII (h : fn.results = #[.tmp z, .cell p 32, .cell u 32]) (hp : tmps.getD p undef = .pointer (some ⟨g, 0, none⟩)) (hp' : tmps.getD u undef = .pointer (some ⟨g', 0, none⟩)) (hg : w.heap[g]? = some (.cells cs t fr)) (hg' : w.heap[g']? = some (.cells cs' t' fr')) (hs : cs.size = 2) (hs' : cs'.size = 2) : (results fn tmps).run Try.prog w = .ok (.tuple #[tmps.getD z undef, .agg cs, .agg cs']) w :=
  results_list (rs := [.tmp z, .cell p 32, .cell u 32]) h (by simp) (.tmp (.cell g t cs fr _ hp hg Try.underlying32 rfl (by rw [hs]; kernel_rfl) (.cell g' t' cs' fr' _ hp' hg' Try.underlying32 rfl (by rw [hs']; kernel_rfl) .nil)))
end
/-- What the region that applies a drawn substitution comes to. -/
structure MTwo (w w4 : World) (q : Nat) (A0 : Option Addr) (d0 : Nat) (A1 : Option Addr) (nr d1 nf : Nat) (a a' : Act) (w' : World) : Prop where mk :: (out : ∃ (S0 : Value) (C0 : Option Addr) (m0 x0 : Nat) (C1 : Option Addr) (m1 x1 : Nat) (bk : Bool) (g : Nat), a' = (Act.put (Act.put (Act.put (Act.put (Act.put (Act.put (Act.put (Act.put (Act.put a (some 20) (.pointer (some ⟨q, 0, none⟩))) (some 22) (.agg #[.slice A0 nr d0, .slice A1 nf d1])) (some 21) S0) (some 23) (.tuple #[.agg #[.slice C0 m0 x0, .slice C1 m1 x1], .bool bk])) (some 19) (.tuple #[.agg #[.slice C0 m0 x0, .slice C1 m1 x1], .bool bk])) (some 24) (.agg #[.slice C0 m0 x0, .slice C1 m1 x1])) (some 25) (.bool bk)) (some 8) (.pointer (some ⟨g, 0, none⟩))) (some 9) (.bool bk)) ∧ w4.heap.size ≤ g ∧ w'.heap[g]? = some (.cells #[.slice C0 m0 x0, .slice C1 m1 x1] 32 (0, 0)) ∧ (∃ qs ys, RS (fun b => b < w4.heap.size ∨ b = g) w' (.agg #[.slice C0 m0 x0, .slice C1 m1 x1]) qs ys ∧ ys.length ≤ 4 ∧ ∀ f ∈ ys, f.2.length ≤ 2) ∧ Cu w w' q ∧ Ex (fun b => b = q) w4 w')
/-- What l7Two tells. -/
abbrev TwoI (w : World) (v : Value) (w' : World) : Prop := ∃ q v1 v2 rs fs qs gs, v = .tuple #[.pointer (some ⟨q, 0, none⟩), v1, v2] ∧ RS (fun b => b < w.heap.size ∨ b = q) w' v1 rs fs ∧ RS (fun b => b < w.heap.size ∨ b = q) w' v2 qs gs ∧ rs.length ≤ 5 ∧ fs.length ≤ 200 ∧ (∀ f ∈ fs, f.2.length ≤ 3) ∧ qs.length ≤ 5 ∧ gs.length ≤ 200 ∧ (∀ f ∈ gs, f.2.length ≤ 3) ∧ Cu w w' q ∧ On w w'
theorem l1NewW_calls (w0 w : World) (h0 : On w0 w) (A c) (xs : List Int) (hc : xs.length ≤ c) (hK : kBytes.C w0 A xs.length xs) :
    Calls Try.prog 125 #[.slice A xs.length c] w (Got fun v w' => ∃ q, v = .pointer (some ⟨q, 0, none⟩) ∧ w.heap.size ≤ q ∧ Cu w0 w' q ∧ On w w') := by
  have hu := Try.underlying139
  have hK0 := Aside0.mk hK
  have h0' := Aside0.mk h0
  have hK' := Aside0.mk (Kd.C_below hK h0)
  have hc' := Aside0.mk hc
  clear hK hc h0
  go_enter Try.func125, Try.ntmps125
  go_wp2
  go_loopw [3, 4] (fun v3 v4 wr => ∃ (x3 x4 : Int), v3 = .int .i64 x3 ∧ v4 = .int .i64 x4 ∧ 0 ≤ x4 ∧ x4 ≤ 4000 ∧ Aside0 (On w wr)) (fun v3 v4 _ => 4000 - (intOf v4).toNat)
  case atStart => exact ⟨_, 0, rfl, rfl, by omega, by omega, ⟨On.refl _⟩⟩
  case round =>
    obtain ⟨x3, x4, rfl, rfl, p0, p1, hB⟩ := hrel
    by_cases c2 : x4 < (xs.length : Int)
    · by_cases c3 : x4 < 4000
      · obtain ⟨ad, rfl, hx⟩ := Kd.at_int hK'.out x4 p0 c2
        replace hx := pw_cell_below hB.out hx
        have p0' := Aside0.mk p0
        have c3' := Aside0.mk c3
        have c2b := decide_eq_true c2
        have c3b := decide_eq_true c3
        replace p0 := eq_true p0
        replace c2 := eq_true c2
        clear c3 p1
        have hwr : wrap64 (x4 + 1) = x4 + 1 := IntWalk.wrap64_in _ (by have := p0'.out; have := c3'.out; omega)
        go_wp2
        go_roundw
        case rel => exact ⟨_, x4 + 1, rfl, by first | rfl | (rw [hwr]), by have := p0'.out; omega, by have := c3'.out; omega, hB⟩
        case measure => simp [intOf]; have := p0'.out; have := c3'.out; omega
      · have c2b := decide_eq_true c2
        have c3b := decide_eq_false c3
        clear c3 c2 p0 p1
        go_wp2_with ((with_reducible refine gate_dst (N := 31) rfl ?_); refine box_event ?hg (N := 31) ?hd (cs := #[.slice A xs.length c, .int .i64 0, .int .i64 x3]) (t := 139) ?hr ?_; (case hd => rfl); (case hg => rfl); (case hr => first | (go_simp; done) | (go_simp; rfl)); intro gb hg w5 hbox hb; have hbox' := Aside0.mk hbox; have hb' := Aside0.mk hb; have hg' := Aside0.mk hg; clear hbox hb hg)
        go_ret
        exact ⟨_, rfl, gb, rfl, by rw [hg'.out]; exact hB.out.size, ⟨h0'.out.trans (hB.out.trans hb'.out), by rw [hg'.out]; exact Nat.le_trans h0'.out.size hB.out.size, A, c, xs, 0, x3, hbox'.out, by omega, hc'.out, hK0.out⟩, hB.out.trans hb'.out⟩
    · have c2b := decide_eq_false c2
      clear c2 p0 p1
      go_wp2_with ((with_reducible refine gate_dst (N := 31) rfl ?_); refine box_event ?hg (N := 31) ?hd (cs := #[.slice A xs.length c, .int .i64 0, .int .i64 x3]) (t := 139) ?hr ?_; (case hd => rfl); (case hg => rfl); (case hr => first | (go_simp; done) | (go_simp; rfl)); intro gb hg w5 hbox hb; have hbox' := Aside0.mk hbox; have hb' := Aside0.mk hb; have hg' := Aside0.mk hg; clear hbox hb hg)
      go_ret
      exact ⟨_, rfl, gb, rfl, by rw [hg'.out]; exact hB.out.size, ⟨h0'.out.trans (hB.out.trans hb'.out), by rw [hg'.out]; exact Nat.le_trans h0'.out.size hB.out.size, A, c, xs, 0, x3, hbox'.out, by omega, hc'.out, hK0.out⟩, hB.out.trans hb'.out⟩
theorem l7Two_calls (w : World) (A c) (xs : List Int) (hc : xs.length ≤ c) (hK : kBytes.C w A xs.length xs) :
    Calls Try.prog 123 #[.slice A xs.length c] w (Got (TwoI w)) := by
  have hK' := Aside0.mk hK
  have hc' := Aside0.mk hc
  have hb0 := Aside0.mk (On.alloc (On.alloc (On.refl w) (.cells #[.slice none 0 0, .slice none 0 0] 32 (0, 0))) (.cells #[.slice none 0 0, .slice none 0 0] 32 (0, 0)))
  have hL := Aside0.mk (loc2 w #[.slice none 0 0, .slice none 0 0] #[.slice none 0 0, .slice none 0 0] 32 32)
  clear hK hc
  go_enter Try.func123, Try.ntmps123
  go_wp2_with (go_at_call 125; refine Stop.out ?_)
  obtain ⟨wz, hwz⟩ : ∃ wz, (w.alloc (.cells #[.slice none 0 0, .slice none 0 0] 32 (0, 0))).alloc (.cells #[.slice none 0 0, .slice none 0 0] 32 (0, 0)) = wz := ⟨_, rfl⟩
  have hzs := Aside0.mk (show wz.heap.size = w.heap.size + 2 by rw [← hwz]; simp)
  rw [hwz] at hb0 hL ⊢
  clear hwz
  refine ⟨(l1NewW_calls w wz hb0.out A c xs hc'.out hK'.out).mono ?_⟩
  rintro e w1 ⟨v, rfl, q, rfl, hqlo, hC1, hb1⟩
  have hC1' := Aside0.mk hC1
  have hq := Aside0.mk (show q < w1.heap.size ∧ w.heap.size + 2 ≤ q from ⟨hC1.lt, by have := hqlo; have := hzs.out; omega⟩)
  have hi1 := Aside0.mk (blk_below hL.out.1 hb1)
  have hr1 := Aside0.mk (blk_below hL.out.2.1 hb1)
  have hE1 := Aside0.mk (Ex.of_on (S := fun b => b = q) hb1)
  clear hC1 hb1 hqlo
  go_wp2_with (go_at_call 142; refine Stop.out ?_)
  refine ⟨(l5Target_calls _ w1 q hC1'.out 4 (by omega) (by omega) 3 (by omega) (by omega)).mono ?_⟩
  rintro e w2 ⟨v, rfl, ⟨fs0, hO, -, hl, hm⟩, hC2, hE2⟩
  have hfl0 := Aside0.mk (show fs0.length ≤ 4 ∧ ∀ f ∈ fs0, f.2.length ≤ 2 from ⟨by omega, hm⟩)
  have hA2 := Aside0.mk (OIn.rsW (S := fun b => b < w1.heap.size ∨ w2.heap.size ≤ b) hO fun b hb => hb)
  obtain ⟨A0, d0, A1, d1, hs0, rfl, -⟩ := hA2.out.out
  have hC2' := Aside0.mk hC2
  have hE2' := Aside0.mk (hE1.out.trans hE2 fun _ _ h => h)
  have hi2 := Aside0.mk (blk_ex hE2 hi1.out (by have := hq.out; omega))
  have hr2 := Aside0.mk (blk_ex hE2 hr1.out (by have := hq.out; omega))
  have hs2 := Aside0.mk (show w1.heap.size ≤ w2.heap.size from hE2.size)
  clear hO hl hm hC2 hE2 hi1 hr1
  have hfill := alloc_fill w2
  go_wp2_with (go_at_call 142; refine Stop.out ?_)
  refine ⟨?_⟩
  clear hfill
  obtain ⟨wa, hwa⟩ : ∃ wa, w2.alloc (.cells #[.slice A0 sigs.length d0, .slice A1 fs0.length d1] 32 (0, 0)) = wa := ⟨_, rfl⟩
  have hlA := Aside0.mk (show wa.heap[w2.heap.size]? = some (.cells #[.slice A0 sigs.length d0, .slice A1 fs0.length d1] 32 (0, 0)) from hwa ▸ loc_new w2 _ _)
  have hba := Aside0.mk (show On w2 wa from hwa ▸ On.alloc (On.refl _) _)
  rw [hwa]
  clear hwa
  obtain ⟨g6, hg6⟩ : ∃ g6, w2.heap.size = g6 := ⟨_, rfl⟩
  rw [hg6] at hlA hs2 hA2 ⊢
  clear hg6
  refine (l5Target_calls _ wa q (hC2'.out.next hba.out) 6 (by omega) (by omega) 2 (by omega) (by omega)).mono ?_
  rintro e w3 ⟨v, rfl, ⟨gs, hO, ha, hl, hm⟩, hC3, hE3⟩
  obtain ⟨vr, vf, hs, rfl, hIW⟩ := IW.of (g := w3.heap.size) (lo := w1.heap.size) hO (by have := blk_lt hlA.out; have := hs2.out; omega) (.inl (Nat.le_refl _))
  obtain ⟨B0, e0, rfl⟩ := own_slice hIW.r
  obtain ⟨B1, e1, rfl⟩ := own_slice hIW.f
  have hla := Aside0.mk hIW.s.len
  rw [hla.out] at hIW
  have hI3 := Aside0.mk hIW
  have hga := Aside0.mk ha
  have hgl := Aside0.mk (show gs.length ≤ 6 ∧ ∀ f ∈ gs, f.2.length ≤ 2 from ⟨by omega, hm⟩)
  have hC3' := Aside0.mk hC3
  have hE3a := Aside0.mk ((Ex.of_on (S := fun b => b = q) hba.out).trans hE3 fun _ _ h => h)
  have hE3' := Aside0.mk (hE2'.out.trans hE3a.out fun _ _ h => h)
  have hi3 := Aside0.mk (blk_ex hE3a.out hi2.out (by have := hq.out; omega))
  have hr3 := Aside0.mk (blk_ex hE3a.out hr2.out (by have := hq.out; omega))
  have hA3 := Aside0.mk (hA2.out.ex (hE3a.out.mono fun b hb => by have := hq.out; omega))
  have hlA3 := Aside0.mk (blk_ex hE3 hlA.out (by have := hq.out; have := hs2.out; omega))
  rw [hla.out]
  clear hO ha hl hm hC3 hE3 hIW hA2 hlA hi2 hr2
  have hfill := alloc_fill w3
  go_wp2_with (go_at_call 143; refine Stop.out ?_)
  refine ⟨?_⟩
  clear hfill
  obtain ⟨wb, hwb⟩ : ∃ wb, w3.alloc (.cells #[.slice B0 sigs.length e0, .slice B1 gs.length e1] 32 (0, 0)) = wb := ⟨_, rfl⟩
  have hlB := Aside0.mk (show wb.heap[w3.heap.size]? = some (.cells #[.slice B0 sigs.length e0, .slice B1 gs.length e1] 32 (0, 0)) from hwb ▸ loc_new w3 _ _)
  have hbb := Aside0.mk (show On w3 wb from hwb ▸ On.alloc (On.refl _) _)
  rw [hwb]
  clear hwb
  have hgg := Aside0.mk (show w1.heap.size ≤ g6 ∧ g6 < w3.heap.size from ⟨hs2.out, blk_lt hlA3.out⟩)
  obtain ⟨g7, hg7⟩ : ∃ g7, w3.heap.size = g7 := ⟨_, rfl⟩
  rw [hg7] at hlB hgg hI3 ⊢
  clear hg7
  refine (l1Once_calls _ _ q (hC3'.out.next hbb.out) 2 (by omega) (by omega)).mono ?_
  rintro e w4 ⟨v, rfl, ⟨b, rfl⟩, hC4, hE4⟩
  have hC4' := Aside0.mk hC4
  have hE4a := Aside0.mk ((Ex.of_on (S := fun b => b = q) hbb.out).trans hE4 fun _ _ h => h)
  have hE4' := Aside0.mk (hE3'.out.trans hE4a.out fun _ _ h => h)
  have hi4 := Aside0.mk (blk_ex hE4a.out hi3.out (by have := hq.out; omega))
  have hr4 := Aside0.mk (blk_ex hE4a.out hr3.out (by have := hq.out; omega))
  have hA4 := Aside0.mk (hA3.out.ex (hE4a.out.mono fun b hb => by have := hq.out; omega))
  have hgA4 := Aside0.mk (blk_ex hE4a.out hlA3.out (by have := hq.out; have := hgg.out; omega))
  have hgB4 := Aside0.mk (blk_ex hE4 hlB.out (by have := hq.out; have := hgg.out; omega))
  have hI4 := Aside0.mk (hI3.out.ex hE4a.out fun b hb => .inl (by have := hq.out; omega))
  clear hC4 hE4
  cases b with
  | false =>
    have hgA := hgA4
    have hgB := hgB4
    have hrx := hr4
    have hix := hi4
    have hAx := hA4
    have hBx := Aside0.mk (hI4.out.rs (S := fun b => b < w1.heap.size ∨ b = g7) fun b hb => hb)
    have hbl := Aside0.mk (show sigs.length ≤ 5 ∧ gs.length ≤ 200 ∧ ∀ f ∈ gs, f.2.length ≤ 3 from ⟨by show 5 ≤ 5; omega, by have := hgl.out.1; omega, fun f hf => by have := hgl.out.2 f hf; omega⟩)
    have hCx := hC4'
    have hEx := hE4'
    as_aux_lemma =>
      go_wp2_with (go_at_call 143; refine Stop.out ?_)
      refine ⟨?_⟩
      refine (l1Once_calls _ _ q hCx.out 20 (by omega) (by omega)).mono ?_
      rintro e w8 ⟨v, rfl, ⟨bb, rfl⟩, hC8, hE8⟩
      replace hgA := Aside0.mk (blk_ex hE8 hgA.out (by have := hq.out; have := hgg.out; omega))
      replace hgB := Aside0.mk (blk_ex hE8 hgB.out (by have := hq.out; have := hgg.out; omega))
      replace hrx := Aside0.mk (blk_ex hE8 hrx.out (by have := hq.out; have := hzs.out; omega))
      replace hix := Aside0.mk (blk_ex hE8 hix.out (by have := hq.out; have := hzs.out; omega))
      replace hAx := Aside0.mk (hAx.out.ex (hE8.mono fun b hb => by have := hq.out; omega))
      replace hBx := Aside0.mk (hBx.out.ex (hE8.mono fun b hb => by have := hq.out; omega))
      replace hCx := Aside0.mk hC8
      replace hEx := Aside0.mk (hEx.out.trans hE8 fun _ _ h => h)
      clear hC8 hE8
      cases bb with
      | false =>
        go_wp2
        as_aux_lemma =>
          refine Reg.regionG (fun w' => w'.heap[g6]? = some (.cells #[.slice A0 sigs.length d0, .slice A1 fs0.length d1] 32 (0, 0)) ∧ w'.heap[g7]? = some (.cells #[.slice B0 sigs.length e0, .slice B1 gs.length e1] 32 (0, 0))) [0,1,2] [3,4,5] 5 (by kernel_rfl) (by kernel_rfl) ⟨hgA.out, hgB.out⟩ ?_
          refine Reg.sG ?_
          refine Reg.sG (hy := by intro w' hS; have hA := blk_cell hS.1; clear hS; (go_simp; first | done | rfl)) ?_
          refine Reg.sG (hy := by intro w' hS; have hA := blk_cell hS.2; clear hS; (go_simp; first | done | rfl)) ?_
          refine Reg.startG ?_
          have hry0 := hrx.out
          have hiy0 := hix.out
          obtain ⟨wy, hwy⟩ : ∃ wy, ({ w8 with drawn := w8.drawn + 1 } : World) = wy := ⟨_, rfl⟩
          have hSy' := Aside0.mk (show On w8 wy from (hwy ▸ on_draw w8))
          rw [hwy]
          clear hwy hry0 hiy0
          have hry := Aside0.mk (blk_below hrx.out hSy'.out)
          have hiy := Aside0.mk (blk_below hix.out hSy'.out)
          have hgAy := Aside0.mk (blk_below hgA.out hSy'.out)
          have hgBy := Aside0.mk (blk_below hgB.out hSy'.out)
          refine Reg.tG ?_
          go_wp2
          refine ⟨⟨hgAy.out, hgBy.out⟩, ?_⟩
          refine Reg.tG ?_
          have hcr := blk_cell hiy.out
          have hfr := blk_frozen hiy.out
          obtain ⟨X, hX⟩ : ∃ X, (wy.setCell ⟨w.heap.size, 0, none⟩ (.slice A0 sigs.length d0)).setCell ⟨w.heap.size, 1, none⟩ (.slice A1 fs0.length d1) = X := ⟨_, rfl⟩
          have EX := Aside0.mk (show Ex (fun b => b = w.heap.size) wy X from hX ▸ (Ex.set wy ⟨w.heap.size, 0, none⟩ (.slice A0 sigs.length d0)).trans (Ex.set _ ⟨w.heap.size, 1, none⟩ (.slice A1 fs0.length d1)) (fun _ _ h => h))
          have hiX := Aside0.mk (show X.heap[w.heap.size]? = some (.cells #[.slice A0 sigs.length d0, .slice A1 fs0.length d1] 32 (0, 0)) from hX ▸ blk_set (blk_set hiy.out 0 _) 1 _)
          have hrX := Aside0.mk (blk_ex EX.out hry.out (by omega))
          have hqs := hq.out
          have hqt := hgg.out
          have hgAX := Aside0.mk (blk_ex EX.out hgAy.out (by omega))
          have hgBX := Aside0.mk (blk_ex EX.out hgBy.out (by omega))
          have hX' := Aside0.mk hX
          clear hX hqs hqt
          go_wp2
          rw [hX'.out]
          refine ⟨⟨hgAX.out, hgBX.out⟩, ?_⟩
          refine Reg.tE ?_
          have hcs := blk_cell hrX.out
          have hfs := blk_frozen hrX.out
          clear hcr hfr
          go_wp2
          have EY := (Ex.set X ⟨w.heap.size + 1, 0, none⟩ (.slice B0 sigs.length e0)).trans (Ex.set _ ⟨w.heap.size + 1, 1, none⟩ (.slice B1 gs.length e1)) (fun _ _ h => h)
          refine bodyPost_ret (retTII rfl rfl rfl (g := w.heap.size) (g' := w.heap.size + 1) (blk_ex EY hiX.out (fun e => by have e' : w.heap.size = w.heap.size + 1 := e; omega)) (blk_set (blk_set hrX.out 0 _) 1 _) rfl rfl) rfl ?_
          have EZ := (Ex.of_on (S := fun b => b = w.heap.size ∨ b = w.heap.size + 1) hSy'.out).trans ((EX.out.mono (S' := fun b => b = w.heap.size ∨ b = w.heap.size + 1) fun _ h => .inl h).trans EY (fun i hi h => .inr h)) (fun _ _ h => h)
          have hqs := hq.out
          have hzz := hzs.out
          refine ⟨_, rfl, q, _, _, sigs, fs0, sigs, gs, rfl, (hAx.out.ex (EZ.mono fun b h => by omega)).mono (fun b h => by omega), (hBx.out.ex (EZ.mono fun b h => by omega)).mono (fun b h => by omega), by show 5 ≤ 5; omega, by have := hfl0.out.1; omega, fun f hf => by have := hfl0.out.2 f hf; omega, hbl.out.1, hbl.out.2.1, hbl.out.2.2, hCx.out.ex EZ (fun b hb => by omega), ?_⟩
          exact Ex.on hb0.out ((hEx.out.mono (S' := fun b => b = q ∨ (b = w.heap.size ∨ b = w.heap.size + 1)) fun _ h => .inl h).trans EZ (fun i hi h => .inr h)) (fun i h => by omega)
      | true =>
        go_wp2_with (go_at_call 126; refine Stop.out ?_)
        refine ⟨(l5Any_calls _ w8 q hCx.out).mono ?_⟩
        clear hBx hbl
        rintro e w9 ⟨v, rfl, ⟨qs, zs, hR, hl0, hl, hl2⟩, hC9, hE9⟩
        have hsz := Aside0.mk (show g7 < w8.heap.size ∧ w1.heap.size ≤ w8.heap.size from ⟨blk_lt hgB.out, by have := blk_lt hgB.out; have := hgg.out; omega⟩)
        obtain ⟨F0, y0, F1, y1, hs', rfl, -⟩ := hR.out
        replace hgA := Aside0.mk (blk_ex hE9 hgA.out (by have := hq.out; have := hgg.out; omega))
        replace hgB := Aside0.mk (blk_ex hE9 hgB.out (by have := hq.out; have := hgg.out; omega))
        replace hrx := Aside0.mk (blk_ex hE9 hrx.out (by have := hq.out; have := hzs.out; omega))
        replace hix := Aside0.mk (blk_ex hE9 hix.out (by have := hq.out; have := hzs.out; omega))
        replace hAx := Aside0.mk (hAx.out.ex (hE9.mono fun b hb => by have := hq.out; omega))
        have hBx := Aside0.mk (hR.mono (S' := fun b => b < w1.heap.size ∨ b = g7) fun b hb => by have := hsz.out; omega)
        have hbl := Aside0.mk (And.intro hl0 (And.intro hl hl2))
        replace hCx := Aside0.mk hC9
        replace hEx := Aside0.mk (hEx.out.trans hE9 fun _ _ h => h)
        clear hC9 hE9 hR hl0 hl hl2
        have hcr := blk_cell hgB.out
        have hfr := blk_frozen hgB.out
        go_wp2
        clear hcr hfr
        have EE := (Ex.set w9 ⟨g7, 0, none⟩ (.slice F0 qs.length y0)).trans (Ex.set _ ⟨g7, 1, none⟩ (.slice F1 zs.length y1)) (fun _ _ h => h)
        have hq7 := hq.out
        have hq8 := hgg.out
        have hq9 := hzs.out
        replace hgA := Aside0.mk (blk_ex EE hgA.out (fun e => by have e' : g6 = g7 := e; omega))
        replace hgB := Aside0.mk (blk_set (blk_set hgB.out 0 (.slice F0 qs.length y0)) 1 (.slice F1 zs.length y1))
        replace hrx := Aside0.mk (blk_ex EE hrx.out (fun e => by have e' : w.heap.size + 1 = g7 := e; omega))
        replace hix := Aside0.mk (blk_ex EE hix.out (fun e => by have e' : w.heap.size = g7 := e; omega))
        replace hAx := Aside0.mk (hAx.out.ex (EE.mono fun b hb => .inr (by have e' : b = g7 := hb; omega)))
        replace hBx := Aside0.mk (hBx.out.ex (EE.mono fun b hb => .inr hb))
        replace hCx := Aside0.mk (hCx.out.ex EE (fun b hb => by have e' : b = g7 := hb; omega))
        replace hEx := Aside0.mk (hEx.out.trans EE (fun i hi h => by have e' : i = g7 := h; omega))
        obtain ⟨wx, hwx⟩ : ∃ wx, (w9.setCell ⟨g7, 0, none⟩ (.slice F0 qs.length y0)).setCell ⟨g7, 1, none⟩ (.slice F1 zs.length y1) = wx := ⟨_, rfl⟩
        rw [hwx] at hBx hgB hgA hix hrx hAx hCx hEx ⊢
        clear EE hq7 hq8 hq9 hwx
        as_aux_lemma =>
          refine Reg.regionG (fun w' => w'.heap[g6]? = some (.cells #[.slice A0 sigs.length d0, .slice A1 fs0.length d1] 32 (0, 0)) ∧ w'.heap[g7]? = some (.cells #[.slice F0 qs.length y0, .slice F1 zs.length y1] 32 (0, 0))) [0,1,2] [3,4,5] 5 (by kernel_rfl) (by kernel_rfl) ⟨hgA.out, hgB.out⟩ ?_
          refine Reg.sG ?_
          refine Reg.sG (hy := by intro w' hS; have hA := blk_cell hS.1; clear hS; (go_simp; first | done | rfl)) ?_
          refine Reg.sG (hy := by intro w' hS; have hA := blk_cell hS.2; clear hS; (go_simp; first | done | rfl)) ?_
          refine Reg.startG ?_
          have hry0 := hrx.out
          have hiy0 := hix.out
          obtain ⟨wy, hwy⟩ : ∃ wy, ({ wx with drawn := wx.drawn + 1 } : World) = wy := ⟨_, rfl⟩
          have hSy' := Aside0.mk (show On wx wy from (hwy ▸ on_draw wx))
          rw [hwy]
          clear hwy hry0 hiy0
          have hry := Aside0.mk (blk_below hrx.out hSy'.out)
          have hiy := Aside0.mk (blk_below hix.out hSy'.out)
          have hgAy := Aside0.mk (blk_below hgA.out hSy'.out)
          have hgBy := Aside0.mk (blk_below hgB.out hSy'.out)
          refine Reg.tG ?_
          go_wp2
          refine ⟨⟨hgAy.out, hgBy.out⟩, ?_⟩
          refine Reg.tG ?_
          have hcr := blk_cell hiy.out
          have hfr := blk_frozen hiy.out
          obtain ⟨X, hX⟩ : ∃ X, (wy.setCell ⟨w.heap.size, 0, none⟩ (.slice A0 sigs.length d0)).setCell ⟨w.heap.size, 1, none⟩ (.slice A1 fs0.length d1) = X := ⟨_, rfl⟩
          have EX := Aside0.mk (show Ex (fun b => b = w.heap.size) wy X from hX ▸ (Ex.set wy ⟨w.heap.size, 0, none⟩ (.slice A0 sigs.length d0)).trans (Ex.set _ ⟨w.heap.size, 1, none⟩ (.slice A1 fs0.length d1)) (fun _ _ h => h))
          have hiX := Aside0.mk (show X.heap[w.heap.size]? = some (.cells #[.slice A0 sigs.length d0, .slice A1 fs0.length d1] 32 (0, 0)) from hX ▸ blk_set (blk_set hiy.out 0 _) 1 _)
          have hrX := Aside0.mk (blk_ex EX.out hry.out (by omega))
          have hqs := hq.out
          have hqt := hgg.out
          have hgAX := Aside0.mk (blk_ex EX.out hgAy.out (by omega))
          have hgBX := Aside0.mk (blk_ex EX.out hgBy.out (by omega))
          have hX' := Aside0.mk hX
          clear hX hqs hqt
          go_wp2
          rw [hX'.out]
          refine ⟨⟨hgAX.out, hgBX.out⟩, ?_⟩
          refine Reg.tE ?_
          have hcs := blk_cell hrX.out
          have hfs := blk_frozen hrX.out
          clear hcr hfr
          go_wp2
          have EY := (Ex.set X ⟨w.heap.size + 1, 0, none⟩ (.slice F0 qs.length y0)).trans (Ex.set _ ⟨w.heap.size + 1, 1, none⟩ (.slice F1 zs.length y1)) (fun _ _ h => h)
          refine bodyPost_ret (retTII rfl rfl rfl (g := w.heap.size) (g' := w.heap.size + 1) (blk_ex EY hiX.out (fun e => by have e' : w.heap.size = w.heap.size + 1 := e; omega)) (blk_set (blk_set hrX.out 0 _) 1 _) rfl rfl) rfl ?_
          have EZ := (Ex.of_on (S := fun b => b = w.heap.size ∨ b = w.heap.size + 1) hSy'.out).trans ((EX.out.mono (S' := fun b => b = w.heap.size ∨ b = w.heap.size + 1) fun _ h => .inl h).trans EY (fun i hi h => .inr h)) (fun _ _ h => h)
          have hqs := hq.out
          have hzz := hzs.out
          refine ⟨_, rfl, q, _, _, sigs, fs0, qs, zs, rfl, (hAx.out.ex (EZ.mono fun b h => by omega)).mono (fun b h => by omega), (hBx.out.ex (EZ.mono fun b h => by omega)).mono (fun b h => by omega), by show 5 ≤ 5; omega, by have := hfl0.out.1; omega, fun f hf => by have := hfl0.out.2 f hf; omega, hbl.out.1, hbl.out.2.1, hbl.out.2.2, hCx.out.ex EZ (fun b hb => by omega), ?_⟩
          exact Ex.on hb0.out ((hEx.out.mono (S' := fun b => b = q ∨ (b = w.heap.size ∨ b = w.heap.size + 1)) fun _ h => .inl h).trans EZ (fun i hi h => .inr h)) (fun i h => by omega)
  | true =>
    go_wp2
    have hqg := Aside0.mk (show q < g6 ∧ q < w4.heap.size ∧ g6 < g7 ∧ g7 < w4.heap.size ∧ w1.heap.size ≤ g6 ∧ q < w1.heap.size from ⟨by have := hq.out; have := hgg.out; omega, by have := hq.out; have := hgg.out; have := blk_lt hgB4.out; omega, hgg.out.2, blk_lt hgB4.out, hgg.out.1, hq.out.1⟩)
    have hgg3 := Aside0.mk hgg.out
    clear hgg
    refine Reg.regionH (fun w' => w'.heap[g6]? = some (.cells #[.slice A0 sigs.length d0, .slice A1 fs0.length d1] 32 (0, 0))) (.r 0 (.r 2 (.two 1 7 (.two 3 7 (.r 4 (.r 5 (.r 6 (.n 7 (.leaf [8,9]))))) (.n 3 (.r 4 (.r 5 (.r 6 (.leaf [8,9])))))) (.n 1 (.n 3 (.r 4 (.r 5 (.r 6 (.leaf [8,9]))))))))) 9 (fun a a' w' => MTwo w w4 q A0 d0 A1 sigs.length d1 fs0.length a a' w') (by kernel_rfl) (by kernel_rfl) hgA4.out ?_ ?_
    · obtain ⟨u0, hu0⟩ : ∃ u0, ({ w4 with drawn := w4.drawn + 1 } : World) = u0 := ⟨_, rfl⟩
      have hS0 := Aside0.mk (show On w4 u0 from (hu0 ▸ on_draw w4))
      rw [hu0]
      clear hu0
      have hQ_u0 := Aside0.mk (Ex.of_on (S := fun b => b = q) hS0.out)
      have hC_u0 := Aside0.mk (hC4'.out.next hS0.out)
      have hG_u0 := Aside0.mk (blk_below hgA4.out hS0.out)
      refine Reg.hR ?_
      refine Reg.hR ?_
      · refine Reg.hTwo ?_ ?_
        · skip
          refine goesF 21 Try.func145 ((l6Sub_calls _ _ q hC_u0.out 3 (by omega)).mono ?_)
          rintro e u1 ⟨v, rfl, ⟨B0, e0, B1, e1, ns, vs, rfl, hN0, hN1, hi0, hi1, -, -⟩, hC, hE⟩
          have hN_u1 := Aside0.mk (And.intro hN0 hN1)
          have hi := Aside0.mk (And.intro hi0 hi1)
          have hC_u1 := Aside0.mk hC
          have hQ_u1 := Aside0.mk (hQ_u0.out.trans hE fun _ _ h => h)
          have hG_u1 := Aside0.mk (blk_ex hE hG_u0.out (by have := hqg.out; omega))
          clear hN0 hN1 hi0 hi1 hC hE
          refine ⟨_, rfl, hG_u1.out, ?_⟩
          simp only [Act.put, List.setIfInBounds_toArray, List.set_cons_zero, List.set_cons_succ]
          refine Reg.hTwo ?_ ?_
          · skip
            obtain ⟨-, hI0⟩ := OI.same hN_u1.out.1 hi.out.1
            obtain ⟨-, hI1⟩ := OI.same hN_u1.out.2 hi.out.2
            obtain ⟨-, -, hs', hall⟩ := (hA4.out.ex (hQ_u1.out.mono fun b hb => by have := hqg.out; omega)).parts
            obtain ⟨hRl, hRH, hRd⟩ := hall _ (Ex.refl _ _)
            refine goesF 23 Try.func144 ((sApplyToInstance_calls _ B0 e0 B1 e1 ns vs hI0 hI1 A0 d0 A1 d1 sigs fs0 hRl (hRH.fcts hRd)).mono ?_)
            rintro e u2 ⟨v, rfl, v1, rfl, hO, hb⟩
            clear hI0 hI1 hall hRl hRH hRd
            have hQ_u2 := Aside0.mk (hQ_u1.out.then_on hb)
            have hC_u2 := Aside0.mk (hC_u1.out.next hb)
            have hG_u2 := Aside0.mk (blk_below hG_u1.out hb)
            obtain ⟨vr, vf, hs, rfl, hY⟩ := IW.of (g := u2.heap.size) (lo := w4.heap.size) hO hQ_u1.out.size (.inl (Nat.le_refl _))
            obtain ⟨C0, x0, rfl⟩ := own_slice hY.r
            obtain ⟨C1, x1, rfl⟩ := own_slice hY.f
            have hY_u2 := Aside0.mk hY
            clear hO hb hY
            refine ⟨_, rfl, hG_u2.out, ?_⟩
            simp only [Act.put, List.setIfInBounds_toArray, List.set_cons_zero, List.set_cons_succ]
            refine Reg.hR ?_
            refine Reg.hR ?_
            refine Reg.hR ?_
            refine Reg.hN ?_
            go_wp2
            refine ⟨blk_below hG_u2.out (On.alloc (On.refl _) _), ?_⟩
            obtain ⟨u3, hu3⟩ : ∃ u, u2.alloc (.cells #[.slice none 0 0, .slice none 0 0] 32 (0, 0)) = u := ⟨_, rfl⟩
            have hS := Aside0.mk (show On u2 u3 from hu3 ▸ On.alloc (On.refl _) _)
            have hB_u3 := Aside0.mk (show u3.heap[u2.heap.size]? = some (.cells #[.slice none 0 0, .slice none 0 0] 32 (0, 0)) from hu3 ▸ loc_new _ _ _)
            have hgg := Aside0.mk (show w4.heap.size ≤ u2.heap.size from hQ_u2.out.size)
            have hgs := Aside0.mk (show u3.heap.size = u2.heap.size + 1 by rw [← hu3]; simp)
            rw [hu3]
            clear hu3
            have hQ_u3 := Aside0.mk (hQ_u2.out.then_on hS.out)
            have hC_u3 := Aside0.mk (hC_u2.out.next hS.out)
            have hG_u3 := Aside0.mk (blk_below hG_u2.out hS.out)
            have hsz := Aside0.mk (show u2.heap.size ≤ u2.heap.size from Nat.le_refl _)
            have hY_u3 := Aside0.mk (hY_u2.out.on hS.out)
            obtain ⟨g8, hg8⟩ : ∃ g8, u2.heap.size = g8 := ⟨_, rfl⟩
            rw [hg8] at hB_u3 hgg hgs hY_u3 ⊢
            clear hg8
            skip
            refine Reg.hLeaf ?_
            have hcr := blk_cell hB_u3.out
            have hfr := blk_frozen hB_u3.out
            refine Reg.tG ?_
            go_wp2
            clear hcr hfr
            have EX := (Ex.set u3 ⟨g8, 0, none⟩ (.slice C0 (appR sigs fs0 ns vs).length x0)).trans (Ex.set _ ⟨g8, 1, none⟩ (.slice C1 hs.length x1)) (fun _ _ h => h)
            refine ⟨blk_ex EX hG_u3.out (fun e => by have e' : g6 = g8 := e; have := hqg.out; have := hgg.out; omega), ?_⟩
            refine Reg.tE ?_
            go_wp2
            have hY2 := hY_u3.out.ex EX (fun b hb => .inr hb)
            have hgs2 := hgg.out
            have hqg2 := hqg.out
            have hqg3 := hq.out
            refine ⟨⟨.agg #[.slice B0 ns.length e0, .slice B1 vs.length e1], C0, (appR sigs fs0 ns vs).length, x0, C1, hs.length, x1, appOk sigs fs0 ns vs, g8, ?_, hgs2, blk_set (blk_set hB_u3.out 0 _) 1 _, ⟨_, _, hY2.rs (S := fun b => b < w4.heap.size ∨ b = g8) (fun b hb => hb), appI_small ns vs hfl0.out.1 hfl0.out.2⟩, hC_u3.out.ex EX (fun b hb => by have e' : b = g8 := hb; omega), hQ_u3.out.trans EX (fun i hi h => by have e' : i = g8 := h; omega)⟩⟩
            try simp only [Act.put, List.setIfInBounds_toArray, List.set_cons_zero, List.set_cons_succ]
            try simp
          · skip
            go_wp2
            refine ⟨blk_below hG_u1.out (On.alloc (On.refl _) _), ?_⟩
            obtain ⟨u4, hu4⟩ : ∃ u, u1.alloc (.cells #[.slice none 0 0, .slice none 0 0] 32 (0, 0)) = u := ⟨_, rfl⟩
            have hS := Aside0.mk (show On u1 u4 from hu4 ▸ On.alloc (On.refl _) _)
            have hB_u4 := Aside0.mk (show u4.heap[u1.heap.size]? = some (.cells #[.slice none 0 0, .slice none 0 0] 32 (0, 0)) from hu4 ▸ loc_new _ _ _)
            have hgg := Aside0.mk (show w4.heap.size ≤ u1.heap.size from hQ_u1.out.size)
            have hgs := Aside0.mk (show u4.heap.size = u1.heap.size + 1 by rw [← hu4]; simp)
            rw [hu4]
            clear hu4
            have hQ_u4 := Aside0.mk (hQ_u1.out.then_on hS.out)
            have hC_u4 := Aside0.mk (hC_u1.out.next hS.out)
            have hG_u4 := Aside0.mk (blk_below hG_u1.out hS.out)
            have hN_u4 := Aside0.mk (And.intro (pw_own_below hN_u1.out.1 hS.out) (pw_own_below hN_u1.out.2 hS.out))
            obtain ⟨g8, hg8⟩ : ∃ g8, u1.heap.size = g8 := ⟨_, rfl⟩
            rw [hg8] at hB_u4 hgg hgs ⊢
            clear hg8
            skip
            refine Reg.hN ?_
            obtain ⟨-, hI0⟩ := OI.same hN_u4.out.1 hi.out.1
            obtain ⟨-, hI1⟩ := OI.same hN_u4.out.2 hi.out.2
            obtain ⟨-, -, hs', hall⟩ := (hA4.out.ex (hQ_u4.out.mono fun b hb => by have := hqg.out; omega)).parts
            obtain ⟨hRl, hRH, hRd⟩ := hall _ (Ex.refl _ _)
            refine goesF 23 Try.func144 ((sApplyToInstance_calls _ B0 e0 B1 e1 ns vs hI0 hI1 A0 d0 A1 d1 sigs fs0 hRl (hRH.fcts hRd)).mono ?_)
            rintro e u5 ⟨v, rfl, v1, rfl, hO, hb⟩
            clear hI0 hI1 hall hRl hRH hRd
            have hQ_u5 := Aside0.mk (hQ_u4.out.then_on hb)
            have hC_u5 := Aside0.mk (hC_u4.out.next hb)
            have hG_u5 := Aside0.mk (blk_below hG_u4.out hb)
            have hB_u5 := Aside0.mk (blk_below hB_u4.out hb)
            obtain ⟨vr, vf, hs, rfl, hY⟩ := IW.of (g := g8) (lo := w4.heap.size) hO hQ_u4.out.size (.inr (blk_lt hB_u4.out))
            obtain ⟨C0, x0, rfl⟩ := own_slice hY.r
            obtain ⟨C1, x1, rfl⟩ := own_slice hY.f
            have hY_u5 := Aside0.mk hY
            clear hO hb hY
            refine ⟨_, rfl, hG_u5.out, ?_⟩
            simp only [Act.put, List.setIfInBounds_toArray, List.set_cons_zero, List.set_cons_succ]
            refine Reg.hR ?_
            refine Reg.hR ?_
            refine Reg.hR ?_
            refine Reg.hLeaf ?_
            have hcr := blk_cell hB_u5.out
            have hfr := blk_frozen hB_u5.out
            refine Reg.tG ?_
            go_wp2
            clear hcr hfr
            have EX := (Ex.set u5 ⟨g8, 0, none⟩ (.slice C0 (appR sigs fs0 ns vs).length x0)).trans (Ex.set _ ⟨g8, 1, none⟩ (.slice C1 hs.length x1)) (fun _ _ h => h)
            refine ⟨blk_ex EX hG_u5.out (fun e => by have e' : g6 = g8 := e; have := hqg.out; have := hgg.out; omega), ?_⟩
            refine Reg.tE ?_
            go_wp2
            have hY2 := hY_u5.out.ex EX (fun b hb => .inr hb)
            have hgs2 := hgg.out
            have hqg2 := hqg.out
            have hqg3 := hq.out
            refine ⟨⟨.agg #[.slice B0 ns.length e0, .slice B1 vs.length e1], C0, (appR sigs fs0 ns vs).length, x0, C1, hs.length, x1, appOk sigs fs0 ns vs, g8, ?_, hgs2, blk_set (blk_set hB_u5.out 0 _) 1 _, ⟨_, _, hY2.rs (S := fun b => b < w4.heap.size ∨ b = g8) (fun b hb => hb), appI_small ns vs hfl0.out.1 hfl0.out.2⟩, hC_u5.out.ex EX (fun b hb => by have e' : b = g8 := hb; omega), hQ_u5.out.trans EX (fun i hi h => by have e' : i = g8 := h; omega)⟩⟩
            try simp only [Act.put, List.setIfInBounds_toArray, List.set_cons_zero, List.set_cons_succ]
            try simp
        · skip
          go_wp2
          refine ⟨blk_below hG_u0.out (On.alloc (On.refl _) _), ?_⟩
          obtain ⟨u6, hu6⟩ : ∃ u, u0.alloc (.cells #[.slice none 0 0, .slice none 0 0] 32 (0, 0)) = u := ⟨_, rfl⟩
          have hS := Aside0.mk (show On u0 u6 from hu6 ▸ On.alloc (On.refl _) _)
          have hB_u6 := Aside0.mk (show u6.heap[u0.heap.size]? = some (.cells #[.slice none 0 0, .slice none 0 0] 32 (0, 0)) from hu6 ▸ loc_new _ _ _)
          have hgg := Aside0.mk (show w4.heap.size ≤ u0.heap.size from hQ_u0.out.size)
          have hgs := Aside0.mk (show u6.heap.size = u0.heap.size + 1 by rw [← hu6]; simp)
          rw [hu6]
          clear hu6
          have hQ_u6 := Aside0.mk (hQ_u0.out.then_on hS.out)
          have hC_u6 := Aside0.mk (hC_u0.out.next hS.out)
          have hG_u6 := Aside0.mk (blk_below hG_u0.out hS.out)
          obtain ⟨g8, hg8⟩ : ∃ g8, u0.heap.size = g8 := ⟨_, rfl⟩
          rw [hg8] at hB_u6 hgg hgs ⊢
          clear hg8
          skip
          refine Reg.hN ?_
          refine goesF 21 Try.func145 ((l6Sub_calls _ _ q hC_u6.out 3 (by omega)).mono ?_)
          rintro e u7 ⟨v, rfl, ⟨B0, e0, B1, e1, ns, vs, rfl, hN0, hN1, hi0, hi1, -, -⟩, hC, hE⟩
          have hN_u7 := Aside0.mk (And.intro hN0 hN1)
          have hi := Aside0.mk (And.intro hi0 hi1)
          have hC_u7 := Aside0.mk hC
          have hQ_u7 := Aside0.mk (hQ_u6.out.trans hE fun _ _ h => h)
          have hG_u7 := Aside0.mk (blk_ex hE hG_u6.out (by have := hqg.out; omega))
          have hB_u7 := Aside0.mk (blk_ex hE hB_u6.out (by have := hqg.out; have := hgg.out; omega))
          clear hN0 hN1 hi0 hi1 hC hE
          refine ⟨_, rfl, hG_u7.out, ?_⟩
          simp only [Act.put, List.setIfInBounds_toArray, List.set_cons_zero, List.set_cons_succ]
          refine Reg.hN ?_
          obtain ⟨-, hI0⟩ := OI.same hN_u7.out.1 hi.out.1
          obtain ⟨-, hI1⟩ := OI.same hN_u7.out.2 hi.out.2
          obtain ⟨-, -, hs', hall⟩ := (hA4.out.ex (hQ_u7.out.mono fun b hb => by have := hqg.out; omega)).parts
          obtain ⟨hRl, hRH, hRd⟩ := hall _ (Ex.refl _ _)
          refine goesF 23 Try.func144 ((sApplyToInstance_calls _ B0 e0 B1 e1 ns vs hI0 hI1 A0 d0 A1 d1 sigs fs0 hRl (hRH.fcts hRd)).mono ?_)
          rintro e u8 ⟨v, rfl, v1, rfl, hO, hb⟩
          clear hI0 hI1 hall hRl hRH hRd
          have hQ_u8 := Aside0.mk (hQ_u7.out.then_on hb)
          have hC_u8 := Aside0.mk (hC_u7.out.next hb)
          have hG_u8 := Aside0.mk (blk_below hG_u7.out hb)
          have hB_u8 := Aside0.mk (blk_below hB_u7.out hb)
          obtain ⟨vr, vf, hs, rfl, hY⟩ := IW.of (g := g8) (lo := w4.heap.size) hO hQ_u7.out.size (.inr (blk_lt hB_u7.out))
          obtain ⟨C0, x0, rfl⟩ := own_slice hY.r
          obtain ⟨C1, x1, rfl⟩ := own_slice hY.f
          have hY_u8 := Aside0.mk hY
          clear hO hb hY
          refine ⟨_, rfl, hG_u8.out, ?_⟩
          simp only [Act.put, List.setIfInBounds_toArray, List.set_cons_zero, List.set_cons_succ]
          refine Reg.hR ?_
          refine Reg.hR ?_
          refine Reg.hR ?_
          refine Reg.hLeaf ?_
          have hcr := blk_cell hB_u8.out
          have hfr := blk_frozen hB_u8.out
          refine Reg.tG ?_
          go_wp2
          clear hcr hfr
          have EX := (Ex.set u8 ⟨g8, 0, none⟩ (.slice C0 (appR sigs fs0 ns vs).length x0)).trans (Ex.set _ ⟨g8, 1, none⟩ (.slice C1 hs.length x1)) (fun _ _ h => h)
          refine ⟨blk_ex EX hG_u8.out (fun e => by have e' : g6 = g8 := e; have := hqg.out; have := hgg.out; omega), ?_⟩
          refine Reg.tE ?_
          go_wp2
          have hY2 := hY_u8.out.ex EX (fun b hb => .inr hb)
          have hgs2 := hgg.out
          have hqg2 := hqg.out
          have hqg3 := hq.out
          refine ⟨⟨.agg #[.slice B0 ns.length e0, .slice B1 vs.length e1], C0, (appR sigs fs0 ns vs).length, x0, C1, hs.length, x1, appOk sigs fs0 ns vs, g8, ?_, hgs2, blk_set (blk_set hB_u8.out 0 _) 1 _, ⟨_, _, hY2.rs (S := fun b => b < w4.heap.size ∨ b = g8) (fun b hb => hb), appI_small ns vs hfl0.out.1 hfl0.out.2⟩, hC_u8.out.ex EX (fun b hb => by have e' : b = g8 := hb; omega), hQ_u8.out.trans EX (fun i hi h => by have e' : i = g8 := h; omega)⟩⟩
          try simp only [Act.put, List.setIfInBounds_toArray, List.set_cons_zero, List.set_cons_succ]
          try simp
    rintro a' w5 ⟨S0, C0, m0, x0, C1, m1, x1, bk, g8, rfl, hg8, hB5, ⟨ps, ys, hY5, hyl, hym⟩, hC5, hE5⟩
    simp only [Act.put, List.setIfInBounds_toArray, List.set_cons_zero, List.set_cons_succ]
    have hB5' := Aside0.mk hB5
    have hY5' := Aside0.mk hY5
    have hyl' := Aside0.mk (And.intro hyl hym)
    have hC5' := Aside0.mk hC5
    have hE5' := Aside0.mk hE5
    have hg8' := Aside0.mk hg8
    clear hg8 hB5 hY5 hyl hym hC5 hE5
    have hA5 := Aside0.mk (hA4.out.ex (hE5'.out.mono fun b hb => by have := hqg.out; omega))
    have hgA5 := Aside0.mk (blk_ex hE5'.out hgA4.out (by have := hqg.out; omega))
    have hgB5 := Aside0.mk (blk_ex hE5'.out hgB4.out (by have := hqg.out; omega))
    have hi5 := Aside0.mk (blk_ex hE5'.out hi4.out (by have := hq.out; omega))
    have hr5 := Aside0.mk (blk_ex hE5'.out hr4.out (by have := hq.out; omega))
    have hI5 := Aside0.mk (hI4.out.ex hE5'.out fun b hb => .inl (by have := hqg.out; omega))
    have hEx5 := Aside0.mk (hE4'.out.trans hE5'.out fun _ _ h => h)
    cases bk with
    | false =>
      have hgg := hgg3
      have hgA := hgA5
      have hgB := hgB5
      have hrx := hr5
      have hix := hi5
      have hAx := hA5
      have hBx := Aside0.mk (hI5.out.rs (S := fun b => b < w1.heap.size ∨ b = g7) fun b hb => hb)
      have hbl := Aside0.mk (show sigs.length ≤ 5 ∧ gs.length ≤ 200 ∧ ∀ f ∈ gs, f.2.length ≤ 3 from ⟨by show 5 ≤ 5; omega, by have := hgl.out.1; omega, fun f hf => by have := hgl.out.2 f hf; omega⟩)
      have hCx := hC5'
      have hEx := hEx5
      as_aux_lemma =>
        go_wp2_with (go_at_call 143; refine Stop.out ?_)
        refine ⟨?_⟩
        refine (l1Once_calls _ _ q hCx.out 20 (by omega) (by omega)).mono ?_
        rintro e w8 ⟨v, rfl, ⟨bb, rfl⟩, hC8, hE8⟩
        replace hgA := Aside0.mk (blk_ex hE8 hgA.out (by have := hq.out; have := hgg.out; omega))
        replace hgB := Aside0.mk (blk_ex hE8 hgB.out (by have := hq.out; have := hgg.out; omega))
        replace hrx := Aside0.mk (blk_ex hE8 hrx.out (by have := hq.out; have := hzs.out; omega))
        replace hix := Aside0.mk (blk_ex hE8 hix.out (by have := hq.out; have := hzs.out; omega))
        replace hAx := Aside0.mk (hAx.out.ex (hE8.mono fun b hb => by have := hq.out; omega))
        replace hBx := Aside0.mk (hBx.out.ex (hE8.mono fun b hb => by have := hq.out; omega))
        replace hCx := Aside0.mk hC8
        replace hEx := Aside0.mk (hEx.out.trans hE8 fun _ _ h => h)
        clear hC8 hE8
        cases bb with
        | false =>
          go_wp2
          as_aux_lemma =>
            refine Reg.regionG (fun w' => w'.heap[g6]? = some (.cells #[.slice A0 sigs.length d0, .slice A1 fs0.length d1] 32 (0, 0)) ∧ w'.heap[g7]? = some (.cells #[.slice B0 sigs.length e0, .slice B1 gs.length e1] 32 (0, 0))) [0,1,2] [3,4,5] 5 (by kernel_rfl) (by kernel_rfl) ⟨hgA.out, hgB.out⟩ ?_
            refine Reg.sG ?_
            refine Reg.sG (hy := by intro w' hS; have hA := blk_cell hS.1; clear hS; (go_simp; first | done | rfl)) ?_
            refine Reg.sG (hy := by intro w' hS; have hA := blk_cell hS.2; clear hS; (go_simp; first | done | rfl)) ?_
            refine Reg.startG ?_
            have hry0 := hrx.out
            have hiy0 := hix.out
            obtain ⟨wy, hwy⟩ : ∃ wy, ({ w8 with drawn := w8.drawn + 1 } : World) = wy := ⟨_, rfl⟩
            have hSy' := Aside0.mk (show On w8 wy from (hwy ▸ on_draw w8))
            rw [hwy]
            clear hwy hry0 hiy0
            have hry := Aside0.mk (blk_below hrx.out hSy'.out)
            have hiy := Aside0.mk (blk_below hix.out hSy'.out)
            have hgAy := Aside0.mk (blk_below hgA.out hSy'.out)
            have hgBy := Aside0.mk (blk_below hgB.out hSy'.out)
            refine Reg.tG ?_
            go_wp2
            refine ⟨⟨hgAy.out, hgBy.out⟩, ?_⟩
            refine Reg.tG ?_
            have hcr := blk_cell hiy.out
            have hfr := blk_frozen hiy.out
            obtain ⟨X, hX⟩ : ∃ X, (wy.setCell ⟨w.heap.size, 0, none⟩ (.slice A0 sigs.length d0)).setCell ⟨w.heap.size, 1, none⟩ (.slice A1 fs0.length d1) = X := ⟨_, rfl⟩
            have EX := Aside0.mk (show Ex (fun b => b = w.heap.size) wy X from hX ▸ (Ex.set wy ⟨w.heap.size, 0, none⟩ (.slice A0 sigs.length d0)).trans (Ex.set _ ⟨w.heap.size, 1, none⟩ (.slice A1 fs0.length d1)) (fun _ _ h => h))
            have hiX := Aside0.mk (show X.heap[w.heap.size]? = some (.cells #[.slice A0 sigs.length d0, .slice A1 fs0.length d1] 32 (0, 0)) from hX ▸ blk_set (blk_set hiy.out 0 _) 1 _)
            have hrX := Aside0.mk (blk_ex EX.out hry.out (by omega))
            have hqs := hq.out
            have hqt := hgg.out
            have hgAX := Aside0.mk (blk_ex EX.out hgAy.out (by omega))
            have hgBX := Aside0.mk (blk_ex EX.out hgBy.out (by omega))
            have hX' := Aside0.mk hX
            clear hX hqs hqt
            go_wp2
            rw [hX'.out]
            refine ⟨⟨hgAX.out, hgBX.out⟩, ?_⟩
            refine Reg.tE ?_
            have hcs := blk_cell hrX.out
            have hfs := blk_frozen hrX.out
            clear hcr hfr
            go_wp2
            have EY := (Ex.set X ⟨w.heap.size + 1, 0, none⟩ (.slice B0 sigs.length e0)).trans (Ex.set _ ⟨w.heap.size + 1, 1, none⟩ (.slice B1 gs.length e1)) (fun _ _ h => h)
            refine bodyPost_ret (retTII rfl rfl rfl (g := w.heap.size) (g' := w.heap.size + 1) (blk_ex EY hiX.out (fun e => by have e' : w.heap.size = w.heap.size + 1 := e; omega)) (blk_set (blk_set hrX.out 0 _) 1 _) rfl rfl) rfl ?_
            have EZ := (Ex.of_on (S := fun b => b = w.heap.size ∨ b = w.heap.size + 1) hSy'.out).trans ((EX.out.mono (S' := fun b => b = w.heap.size ∨ b = w.heap.size + 1) fun _ h => .inl h).trans EY (fun i hi h => .inr h)) (fun _ _ h => h)
            have hqs := hq.out
            have hzz := hzs.out
            refine ⟨_, rfl, q, _, _, sigs, fs0, sigs, gs, rfl, (hAx.out.ex (EZ.mono fun b h => by omega)).mono (fun b h => by omega), (hBx.out.ex (EZ.mono fun b h => by omega)).mono (fun b h => by omega), by show 5 ≤ 5; omega, by have := hfl0.out.1; omega, fun f hf => by have := hfl0.out.2 f hf; omega, hbl.out.1, hbl.out.2.1, hbl.out.2.2, hCx.out.ex EZ (fun b hb => by omega), ?_⟩
            exact Ex.on hb0.out ((hEx.out.mono (S' := fun b => b = q ∨ (b = w.heap.size ∨ b = w.heap.size + 1)) fun _ h => .inl h).trans EZ (fun i hi h => .inr h)) (fun i h => by omega)
        | true =>
          go_wp2_with (go_at_call 126; refine Stop.out ?_)
          refine ⟨(l5Any_calls _ w8 q hCx.out).mono ?_⟩
          clear hBx hbl
          rintro e w9 ⟨v, rfl, ⟨qs, zs, hR, hl0, hl, hl2⟩, hC9, hE9⟩
          have hsz := Aside0.mk (show g7 < w8.heap.size ∧ w1.heap.size ≤ w8.heap.size from ⟨blk_lt hgB.out, by have := blk_lt hgB.out; have := hgg.out; omega⟩)
          obtain ⟨F0, y0, F1, y1, hs', rfl, -⟩ := hR.out
          replace hgA := Aside0.mk (blk_ex hE9 hgA.out (by have := hq.out; have := hgg.out; omega))
          replace hgB := Aside0.mk (blk_ex hE9 hgB.out (by have := hq.out; have := hgg.out; omega))
          replace hrx := Aside0.mk (blk_ex hE9 hrx.out (by have := hq.out; have := hzs.out; omega))
          replace hix := Aside0.mk (blk_ex hE9 hix.out (by have := hq.out; have := hzs.out; omega))
          replace hAx := Aside0.mk (hAx.out.ex (hE9.mono fun b hb => by have := hq.out; omega))
          have hBx := Aside0.mk (hR.mono (S' := fun b => b < w1.heap.size ∨ b = g7) fun b hb => by have := hsz.out; omega)
          have hbl := Aside0.mk (And.intro hl0 (And.intro hl hl2))
          replace hCx := Aside0.mk hC9
          replace hEx := Aside0.mk (hEx.out.trans hE9 fun _ _ h => h)
          clear hC9 hE9 hR hl0 hl hl2
          have hcr := blk_cell hgB.out
          have hfr := blk_frozen hgB.out
          go_wp2
          clear hcr hfr
          have EE := (Ex.set w9 ⟨g7, 0, none⟩ (.slice F0 qs.length y0)).trans (Ex.set _ ⟨g7, 1, none⟩ (.slice F1 zs.length y1)) (fun _ _ h => h)
          have hq7 := hq.out
          have hq8 := hgg.out
          have hq9 := hzs.out
          replace hgA := Aside0.mk (blk_ex EE hgA.out (fun e => by have e' : g6 = g7 := e; omega))
          replace hgB := Aside0.mk (blk_set (blk_set hgB.out 0 (.slice F0 qs.length y0)) 1 (.slice F1 zs.length y1))
          replace hrx := Aside0.mk (blk_ex EE hrx.out (fun e => by have e' : w.heap.size + 1 = g7 := e; omega))
          replace hix := Aside0.mk (blk_ex EE hix.out (fun e => by have e' : w.heap.size = g7 := e; omega))
          replace hAx := Aside0.mk (hAx.out.ex (EE.mono fun b hb => .inr (by have e' : b = g7 := hb; omega)))
          replace hBx := Aside0.mk (hBx.out.ex (EE.mono fun b hb => .inr hb))
          replace hCx := Aside0.mk (hCx.out.ex EE (fun b hb => by have e' : b = g7 := hb; omega))
          replace hEx := Aside0.mk (hEx.out.trans EE (fun i hi h => by have e' : i = g7 := h; omega))
          obtain ⟨wx, hwx⟩ : ∃ wx, (w9.setCell ⟨g7, 0, none⟩ (.slice F0 qs.length y0)).setCell ⟨g7, 1, none⟩ (.slice F1 zs.length y1) = wx := ⟨_, rfl⟩
          rw [hwx] at hBx hgB hgA hix hrx hAx hCx hEx ⊢
          clear EE hq7 hq8 hq9 hwx
          as_aux_lemma =>
            refine Reg.regionG (fun w' => w'.heap[g6]? = some (.cells #[.slice A0 sigs.length d0, .slice A1 fs0.length d1] 32 (0, 0)) ∧ w'.heap[g7]? = some (.cells #[.slice F0 qs.length y0, .slice F1 zs.length y1] 32 (0, 0))) [0,1,2] [3,4,5] 5 (by kernel_rfl) (by kernel_rfl) ⟨hgA.out, hgB.out⟩ ?_
            refine Reg.sG ?_
            refine Reg.sG (hy := by intro w' hS; have hA := blk_cell hS.1; clear hS; (go_simp; first | done | rfl)) ?_
            refine Reg.sG (hy := by intro w' hS; have hA := blk_cell hS.2; clear hS; (go_simp; first | done | rfl)) ?_
            refine Reg.startG ?_
            have hry0 := hrx.out
            have hiy0 := hix.out
            obtain ⟨wy, hwy⟩ : ∃ wy, ({ wx with drawn := wx.drawn + 1 } : World) = wy := ⟨_, rfl⟩
            have hSy' := Aside0.mk (show On wx wy from (hwy ▸ on_draw wx))
            rw [hwy]
            clear hwy hry0 hiy0
            have hry := Aside0.mk (blk_below hrx.out hSy'.out)
            have hiy := Aside0.mk (blk_below hix.out hSy'.out)
            have hgAy := Aside0.mk (blk_below hgA.out hSy'.out)
            have hgBy := Aside0.mk (blk_below hgB.out hSy'.out)
            refine Reg.tG ?_
            go_wp2
            refine ⟨⟨hgAy.out, hgBy.out⟩, ?_⟩
            refine Reg.tG ?_
            have hcr := blk_cell hiy.out
            have hfr := blk_frozen hiy.out
            obtain ⟨X, hX⟩ : ∃ X, (wy.setCell ⟨w.heap.size, 0, none⟩ (.slice A0 sigs.length d0)).setCell ⟨w.heap.size, 1, none⟩ (.slice A1 fs0.length d1) = X := ⟨_, rfl⟩
            have EX := Aside0.mk (show Ex (fun b => b = w.heap.size) wy X from hX ▸ (Ex.set wy ⟨w.heap.size, 0, none⟩ (.slice A0 sigs.length d0)).trans (Ex.set _ ⟨w.heap.size, 1, none⟩ (.slice A1 fs0.length d1)) (fun _ _ h => h))
            have hiX := Aside0.mk (show X.heap[w.heap.size]? = some (.cells #[.slice A0 sigs.length d0, .slice A1 fs0.length d1] 32 (0, 0)) from hX ▸ blk_set (blk_set hiy.out 0 _) 1 _)
            have hrX := Aside0.mk (blk_ex EX.out hry.out (by omega))
            have hqs := hq.out
            have hqt := hgg.out
            have hgAX := Aside0.mk (blk_ex EX.out hgAy.out (by omega))
            have hgBX := Aside0.mk (blk_ex EX.out hgBy.out (by omega))
            have hX' := Aside0.mk hX
            clear hX hqs hqt
            go_wp2
            rw [hX'.out]
            refine ⟨⟨hgAX.out, hgBX.out⟩, ?_⟩
            refine Reg.tE ?_
            have hcs := blk_cell hrX.out
            have hfs := blk_frozen hrX.out
            clear hcr hfr
            go_wp2
            have EY := (Ex.set X ⟨w.heap.size + 1, 0, none⟩ (.slice F0 qs.length y0)).trans (Ex.set _ ⟨w.heap.size + 1, 1, none⟩ (.slice F1 zs.length y1)) (fun _ _ h => h)
            refine bodyPost_ret (retTII rfl rfl rfl (g := w.heap.size) (g' := w.heap.size + 1) (blk_ex EY hiX.out (fun e => by have e' : w.heap.size = w.heap.size + 1 := e; omega)) (blk_set (blk_set hrX.out 0 _) 1 _) rfl rfl) rfl ?_
            have EZ := (Ex.of_on (S := fun b => b = w.heap.size ∨ b = w.heap.size + 1) hSy'.out).trans ((EX.out.mono (S' := fun b => b = w.heap.size ∨ b = w.heap.size + 1) fun _ h => .inl h).trans EY (fun i hi h => .inr h)) (fun _ _ h => h)
            have hqs := hq.out
            have hzz := hzs.out
            refine ⟨_, rfl, q, _, _, sigs, fs0, qs, zs, rfl, (hAx.out.ex (EZ.mono fun b h => by omega)).mono (fun b h => by omega), (hBx.out.ex (EZ.mono fun b h => by omega)).mono (fun b h => by omega), by show 5 ≤ 5; omega, by have := hfl0.out.1; omega, fun f hf => by have := hfl0.out.2 f hf; omega, hbl.out.1, hbl.out.2.1, hbl.out.2.2, hCx.out.ex EZ (fun b hb => by omega), ?_⟩
            exact Ex.on hb0.out ((hEx.out.mono (S' := fun b => b = q ∨ (b = w.heap.size ∨ b = w.heap.size + 1)) fun _ h => .inl h).trans EZ (fun i hi h => .inr h)) (fun i h => by omega)
    | true =>
      go_wp2
      obtain ⟨rfl, rfl, -⟩ := hY5'.out.parts
      have hbrx := Aside0.mk (hI5.out.rs (S := fun b => b = q ∨ b = g7) fun b hb => by have := hqg.out; omega)
      go_loopw [10] (fun v10 wr => ∃ (k : Nat) (fs : List Fct) (A0 : Option Addr) (d0 : Nat) (A1 : Option Addr) (d1 : Nat), k ≤ ys.length ∧ v10 = .int .i64 k ∧ wr.heap[g7]? = some (.cells #[.slice A0 sigs.length d0, .slice A1 fs.length d1] 32 (0, 0)) ∧ RS (fun b => b = q ∨ b = g7) wr (.agg #[.slice A0 sigs.length d0, .slice A1 fs.length d1]) sigs fs ∧ Asc fs ∧ fs.length ≤ 6 + k ∧ (∀ f ∈ fs, f.2.length ≤ 2) ∧ Ex (fun b => b = g7) w5 wr) (fun v10 _ => ys.length - (intOf v10).toNat)
      case atStart => exact ⟨0, gs, B0, e0, B1, e1, Nat.zero_le _, rfl, hgB5.out, hbrx.out, hga.out, by have := hgl.out.1; omega, hgl.out.2, Ex.refl _ _⟩
      case round =>
        obtain ⟨k, fs, D0, z0, D1, z1, hk, rfl, hbr, hR, ha, hl, hm, hE⟩ := hrel
        have hbr' := Aside0.mk hbr
        have hRr := Aside0.mk hR
        have ha' := Aside0.mk ha
        have hl' := Aside0.mk hl
        have hm' := Aside0.mk hm
        have hEr := Aside0.mk hE
        have hb4 := Aside0.mk (blk_ex hE hB5'.out (by have := hqg.out; have := hg8'.out; omega))
        have hd0 := blk_cell hbr 0
        have hd1 := blk_cell hbr 1
        have hd2 := blk_cell hb4.out 0
        have hd3 := blk_cell hb4.out 1
        have hCr := Aside0.mk (hC5'.out.ex hE (fun b hb => by have := hqg.out; have := hq.out; have := hzs.out; omega))
        clear hbr hR ha hl hm hE
        by_cases hlt : k < ys.length
        · obtain ⟨_, _, us', hall⟩ := (hY5'.out.ex (hEr.out.mono fun b hb => .inl (by have := hqg.out; omega))).parts
          obtain ⟨h1, h2, h3⟩ := hall wr (Ex.refl _ _)
          obtain ⟨ad, A3, c3, hA1, x0', x1', x2⟩ := (h2.fcts h3).at k hlt
          subst hA1
          have x2' := Aside0.mk x2
          have hkk := Aside0.mk hlt
          have hfk := Aside0.mk (show ys[k].2.length ≤ 2 from hyl'.out.2 _ (List.getElem_mem hlt))
          obtain ⟨_, _, hs', hall'⟩ := hRr.out.parts
          have hall2 := Aside0.mk hall'
          clear x2 h1 h2 h3 hall hall'
          go_wp2
          refine Reg.region [(0,.L),(1,.L),(2,.L),(3,.L),(4,.L),(5,.L),(6,.N)] [7] (by kernel_rfl) (by kernel_rfl) ?_
          repeat first | refine sP ?_ | refine sS ?_ | refine sA ?_ | refine sL ?_ | refine sQ ?_ | refine sO ?_
          clear hd0 hd1 hd2 hd3 x0' x1'
          refine callN Try.func96 (fun w6 hS6 => ?_)
          refine (l5PutS_calls (fun b => b = q ∨ b = g7) w6 D0 z0 D1 z1 hs' sigs fs (fun w' kk => hall2.out w' ((Ex.of_on hS6).trans kk fun _ _ h => h)) (fun b hb => by have := blk_lt (blk_below hbr'.out hS6); have := (hCr.out.next hS6).lt; rcases hb with h | h <;> omega) A3 c3 ys[k] (x2'.out.on hS6) (by have := hl'.out; have := hyl'.out.1; have := hkk.out; omega) (by have := hfk.out; omega) ha'.out).mono ?_
          rintro e w7 ⟨v5, rfl, hR5, hb5⟩
          obtain ⟨fs', hfs⟩ : ∃ fs', putF fs ys[k] = fs' := ⟨_, rfl⟩
          rw [hfs] at hR5
          have hR5' := Aside0.mk hR5
          obtain ⟨E0, i0, E1, i1, hs'', rfl, -⟩ := hR5.out
          have ha6 := Aside0.mk (show Asc fs' from hfs ▸ putF_asc ys[k] fs ha'.out)
          have hl6 := Aside0.mk (show fs'.length ≤ fs.length + 1 from hfs ▸ putF_le fs ys[k])
          have hm6 := Aside0.mk (show ∀ g ∈ fs', g.2.length ≤ 2 by
            rw [← hfs]; intro g hg; rcases (mem_putF ys[k] g fs).1 hg with rfl | h
            · exact hfk.out
            · exact hm'.out g h)
          have hB7 := Aside0.mk (hS6.trans hb5)
          refine ⟨_, rfl, hb5, fun a' ha'' => ?_⟩
          simp only [Act.put, List.setIfInBounds_toArray, List.set_cons_zero, List.set_cons_succ] at ha''
          subst ha''
          clear hR5 hfs
          refine Reg.tail_ fun w8 hS8 => ?_
          have hb6 := Aside0.mk (blk_below hbr'.out (hB7.out.trans hS8))
          have hR6 := Aside0.mk (hR5'.out.on hS8)
          have hB6 := Aside0.mk (hB7.out.trans hS8)
          have hcr := blk_cell hb6.out
          have hfr := blk_frozen hb6.out
          clear hS8
          go_wp2
          have EE := (Ex.set w8 ⟨g7, 0, none⟩ (.slice E0 sigs.length i0)).trans (Ex.set _ ⟨g7, 1, none⟩ (.slice E1 fs'.length i1)) (fun _ _ h => h)
          have hk1 := hkk.out
          have hwk : wrap64 ((k : Int) + 1) = ((k + 1 : Nat) : Int) := by rw [IntWalk.wrap64_in _ (by have := hyl'.out.1; omega)]; omega
          refine ⟨⟨k + 1, fs', E0, i0, E1, i1, by omega, by rw [hwk], blk_set (blk_set hb6.out 0 _) 1 _, hR6.out.ex (EE.mono fun _ h => .inr h), ha6.out, by have := hl'.out; have := hl6.out; omega, hm6.out, (hEr.out.then_on hB6.out).trans EE fun _ _ h => h⟩, by rw [hwk]; simp [intOf]; omega⟩
        · have hge : ¬ k < ys.length := hlt
          go_wp2_with (go_at_call 86; refine Stop.out ?_)
          obtain ⟨_, _, hs', hall⟩ := hRr.out.parts
          obtain ⟨h1, h2, h3⟩ := hall wr (Ex.refl _ _)
          refine ⟨(l5Copy_calls _ D0 z0 D1 z1 sigs fs h1 (h2.fcts h3) (by show (5 : Nat) ≤ _; omega) (by have := hl'.out; have := hyl'.out.1; omega) (fun f hf => by have := hm'.out f hf; omega)).mono ?_⟩
          rintro e w9 ⟨v7, rfl, hI7, hb7⟩
          have hgl7 := Aside0.mk (blk_lt hbr'.out)
          obtain ⟨vr, vf, hs, rfl, hIW0⟩ := IW.of (g := g7) (lo := w1.heap.size) hI7 (by have := hgl7.out; have := hgg3.out; omega) (.inr hgl7.out)
          obtain ⟨B0', e0', rfl⟩ := own_slice hIW0.r
          obtain ⟨B1', e1', rfl⟩ := own_slice hIW0.f
          have hlz := Aside0.mk hIW0.s.len
          rw [hlz.out] at hIW0 ⊢
          have hIW1 := Aside0.mk hIW0
          have hb7' := Aside0.mk hb7
          have hbx7 := Aside0.mk (blk_below hbr'.out hb7)
          have hix7 := Aside0.mk (blk_below (blk_ex hEr.out hi5.out (by have := hgg3.out; have := hq.out; omega)) hb7)
          have hrx7 := Aside0.mk (blk_below (blk_ex hEr.out hr5.out (by have := hgg3.out; have := hq.out; omega)) hb7)
          have hgA7 := Aside0.mk (blk_below (blk_ex hEr.out hgA5.out (by have := hqg.out; omega)) hb7)
          have hcr := blk_cell hbx7.out
          have hfr := blk_frozen hbx7.out
          have hfl := Aside0.mk (show fs.length ≤ 100 ∧ ∀ f ∈ fs, f.2.length ≤ 3 from ⟨by have := hl'.out; have := hyl'.out.1; omega, fun f hf => by have := hm'.out f hf; omega⟩)
          clear hIW0 hb7 hI7 h1 h2 h3 hall hd0 hd1 hd2 hd3 hge hlt
          go_wp2_with (go_at_call 143; refine Stop.out ?_)
          refine ⟨?_⟩
          have hq7 := hq.out
          have hq8 := hgg3.out
          have hq9 := hqg.out
          have EE := (Ex.set w9 ⟨g7, 0, none⟩ (.slice B0' sigs.length e0')).trans (Ex.set _ ⟨g7, 1, none⟩ (.slice B1' fs.length e1')) (fun _ _ h => h)
          have hBx := Aside0.mk ((hIW1.out.ex EE fun b hb => .inr hb).rs (S := fun b => b < w1.heap.size ∨ b = g7) fun b hb => hb)
          have hgB := Aside0.mk (blk_set (blk_set hbx7.out 0 (.slice B0' sigs.length e0')) 1 (.slice B1' fs.length e1'))
          have hgA := Aside0.mk (blk_ex EE hgA7.out (fun e => by have e' : g6 = g7 := e; omega))
          have hix := Aside0.mk (blk_ex EE hix7.out (fun e => by have e' : w.heap.size = g7 := e; omega))
          have hrx := Aside0.mk (blk_ex EE hrx7.out (fun e => by have e' : w.heap.size + 1 = g7 := e; omega))
          have hE59 := Aside0.mk ((hEr.out.then_on hb7'.out).trans EE (fun i hi h => h))
          have hAx := Aside0.mk (hA5.out.ex (hE59.out.mono fun b hb => .inr (by have e' : b = g7 := hb; omega)))
          have hCx := Aside0.mk ((hCr.out.next hb7'.out).ex EE (fun b hb => by have e' : b = g7 := hb; have := hzs.out; omega))
          have hEx := Aside0.mk (hEx5.out.trans hE59.out (fun i hi h => by have e' : i = g7 := h; have := hzs.out; omega))
          have hbl := Aside0.mk (show sigs.length ≤ 5 ∧ fs.length ≤ 200 ∧ ∀ f ∈ fs, f.2.length ≤ 3 from ⟨by show 5 ≤ 5; omega, by have := hfl.out.1; omega, hfl.out.2⟩)
          have hgg := hgg3
          obtain ⟨wx, hwx⟩ : ∃ wx, (w9.setCell ⟨g7, 0, none⟩ (.slice B0' sigs.length e0')).setCell ⟨g7, 1, none⟩ (.slice B1' fs.length e1') = wx := ⟨_, rfl⟩
          rw [hwx] at hBx hgB hgA hix hrx hAx hCx hEx ⊢
          clear hcr hfr EE hq7 hq8 hq9 hE59 hwx
          as_aux_lemma =>
            refine (l1Once_calls _ _ q hCx.out 20 (by omega) (by omega)).mono ?_
            rintro e w8 ⟨v, rfl, ⟨bb, rfl⟩, hC8, hE8⟩
            replace hgA := Aside0.mk (blk_ex hE8 hgA.out (by have := hq.out; have := hgg.out; omega))
            replace hgB := Aside0.mk (blk_ex hE8 hgB.out (by have := hq.out; have := hgg.out; omega))
            replace hrx := Aside0.mk (blk_ex hE8 hrx.out (by have := hq.out; have := hzs.out; omega))
            replace hix := Aside0.mk (blk_ex hE8 hix.out (by have := hq.out; have := hzs.out; omega))
            replace hAx := Aside0.mk (hAx.out.ex (hE8.mono fun b hb => by have := hq.out; omega))
            replace hBx := Aside0.mk (hBx.out.ex (hE8.mono fun b hb => by have := hq.out; omega))
            replace hCx := Aside0.mk hC8
            replace hEx := Aside0.mk (hEx.out.trans hE8 fun _ _ h => h)
            clear hC8 hE8
            cases bb with
            | false =>
              go_wp2
              as_aux_lemma =>
                refine Reg.regionG (fun w' => w'.heap[g6]? = some (.cells #[.slice A0 sigs.length d0, .slice A1 fs0.length d1] 32 (0, 0)) ∧ w'.heap[g7]? = some (.cells #[.slice B0' sigs.length e0', .slice B1' fs.length e1'] 32 (0, 0))) [0,1,2] [3,4,5] 5 (by kernel_rfl) (by kernel_rfl) ⟨hgA.out, hgB.out⟩ ?_
                refine Reg.sG ?_
                refine Reg.sG (hy := by intro w' hS; have hA := blk_cell hS.1; clear hS; (go_simp; first | done | rfl)) ?_
                refine Reg.sG (hy := by intro w' hS; have hA := blk_cell hS.2; clear hS; (go_simp; first | done | rfl)) ?_
                refine Reg.startG ?_
                have hry0 := hrx.out
                have hiy0 := hix.out
                obtain ⟨wy, hwy⟩ : ∃ wy, ({ w8 with drawn := w8.drawn + 1 } : World) = wy := ⟨_, rfl⟩
                have hSy' := Aside0.mk (show On w8 wy from (hwy ▸ on_draw w8))
                rw [hwy]
                clear hwy hry0 hiy0
                have hry := Aside0.mk (blk_below hrx.out hSy'.out)
                have hiy := Aside0.mk (blk_below hix.out hSy'.out)
                have hgAy := Aside0.mk (blk_below hgA.out hSy'.out)
                have hgBy := Aside0.mk (blk_below hgB.out hSy'.out)
                refine Reg.tG ?_
                go_wp2
                refine ⟨⟨hgAy.out, hgBy.out⟩, ?_⟩
                refine Reg.tG ?_
                have hcr := blk_cell hiy.out
                have hfr := blk_frozen hiy.out
                obtain ⟨X, hX⟩ : ∃ X, (wy.setCell ⟨w.heap.size, 0, none⟩ (.slice A0 sigs.length d0)).setCell ⟨w.heap.size, 1, none⟩ (.slice A1 fs0.length d1) = X := ⟨_, rfl⟩
                have EX := Aside0.mk (show Ex (fun b => b = w.heap.size) wy X from hX ▸ (Ex.set wy ⟨w.heap.size, 0, none⟩ (.slice A0 sigs.length d0)).trans (Ex.set _ ⟨w.heap.size, 1, none⟩ (.slice A1 fs0.length d1)) (fun _ _ h => h))
                have hiX := Aside0.mk (show X.heap[w.heap.size]? = some (.cells #[.slice A0 sigs.length d0, .slice A1 fs0.length d1] 32 (0, 0)) from hX ▸ blk_set (blk_set hiy.out 0 _) 1 _)
                have hrX := Aside0.mk (blk_ex EX.out hry.out (by omega))
                have hqs := hq.out
                have hqt := hgg.out
                have hgAX := Aside0.mk (blk_ex EX.out hgAy.out (by omega))
                have hgBX := Aside0.mk (blk_ex EX.out hgBy.out (by omega))
                have hX' := Aside0.mk hX
                clear hX hqs hqt
                go_wp2
                rw [hX'.out]
                refine ⟨⟨hgAX.out, hgBX.out⟩, ?_⟩
                refine Reg.tE ?_
                have hcs := blk_cell hrX.out
                have hfs := blk_frozen hrX.out
                clear hcr hfr
                go_wp2
                have EY := (Ex.set X ⟨w.heap.size + 1, 0, none⟩ (.slice B0' sigs.length e0')).trans (Ex.set _ ⟨w.heap.size + 1, 1, none⟩ (.slice B1' fs.length e1')) (fun _ _ h => h)
                refine bodyPost_ret (retTII rfl rfl rfl (g := w.heap.size) (g' := w.heap.size + 1) (blk_ex EY hiX.out (fun e => by have e' : w.heap.size = w.heap.size + 1 := e; omega)) (blk_set (blk_set hrX.out 0 _) 1 _) rfl rfl) rfl ?_
                have EZ := (Ex.of_on (S := fun b => b = w.heap.size ∨ b = w.heap.size + 1) hSy'.out).trans ((EX.out.mono (S' := fun b => b = w.heap.size ∨ b = w.heap.size + 1) fun _ h => .inl h).trans EY (fun i hi h => .inr h)) (fun _ _ h => h)
                have hqs := hq.out
                have hzz := hzs.out
                refine ⟨_, rfl, q, _, _, sigs, fs0, sigs, fs, rfl, (hAx.out.ex (EZ.mono fun b h => by omega)).mono (fun b h => by omega), (hBx.out.ex (EZ.mono fun b h => by omega)).mono (fun b h => by omega), by show 5 ≤ 5; omega, by have := hfl0.out.1; omega, fun f hf => by have := hfl0.out.2 f hf; omega, hbl.out.1, hbl.out.2.1, hbl.out.2.2, hCx.out.ex EZ (fun b hb => by omega), ?_⟩
                exact Ex.on hb0.out ((hEx.out.mono (S' := fun b => b = q ∨ (b = w.heap.size ∨ b = w.heap.size + 1)) fun _ h => .inl h).trans EZ (fun i hi h => .inr h)) (fun i h => by omega)
            | true =>
              go_wp2_with (go_at_call 126; refine Stop.out ?_)
              refine ⟨(l5Any_calls _ w8 q hCx.out).mono ?_⟩
              clear hBx hbl
              rintro e w9 ⟨v, rfl, ⟨qs, zs, hR, hl0, hl, hl2⟩, hC9, hE9⟩
              have hsz := Aside0.mk (show g7 < w8.heap.size ∧ w1.heap.size ≤ w8.heap.size from ⟨blk_lt hgB.out, by have := blk_lt hgB.out; have := hgg.out; omega⟩)
              obtain ⟨F0, y0, F1, y1, hs', rfl, -⟩ := hR.out
              replace hgA := Aside0.mk (blk_ex hE9 hgA.out (by have := hq.out; have := hgg.out; omega))
              replace hgB := Aside0.mk (blk_ex hE9 hgB.out (by have := hq.out; have := hgg.out; omega))
              replace hrx := Aside0.mk (blk_ex hE9 hrx.out (by have := hq.out; have := hzs.out; omega))
              replace hix := Aside0.mk (blk_ex hE9 hix.out (by have := hq.out; have := hzs.out; omega))
              replace hAx := Aside0.mk (hAx.out.ex (hE9.mono fun b hb => by have := hq.out; omega))
              have hBx := Aside0.mk (hR.mono (S' := fun b => b < w1.heap.size ∨ b = g7) fun b hb => by have := hsz.out; omega)
              have hbl := Aside0.mk (And.intro hl0 (And.intro hl hl2))
              replace hCx := Aside0.mk hC9
              replace hEx := Aside0.mk (hEx.out.trans hE9 fun _ _ h => h)
              clear hC9 hE9 hR hl0 hl hl2
              have hcr := blk_cell hgB.out
              have hfr := blk_frozen hgB.out
              go_wp2
              clear hcr hfr
              have EE := (Ex.set w9 ⟨g7, 0, none⟩ (.slice F0 qs.length y0)).trans (Ex.set _ ⟨g7, 1, none⟩ (.slice F1 zs.length y1)) (fun _ _ h => h)
              have hq7 := hq.out
              have hq8 := hgg.out
              have hq9 := hzs.out
              replace hgA := Aside0.mk (blk_ex EE hgA.out (fun e => by have e' : g6 = g7 := e; omega))
              replace hgB := Aside0.mk (blk_set (blk_set hgB.out 0 (.slice F0 qs.length y0)) 1 (.slice F1 zs.length y1))
              replace hrx := Aside0.mk (blk_ex EE hrx.out (fun e => by have e' : w.heap.size + 1 = g7 := e; omega))
              replace hix := Aside0.mk (blk_ex EE hix.out (fun e => by have e' : w.heap.size = g7 := e; omega))
              replace hAx := Aside0.mk (hAx.out.ex (EE.mono fun b hb => .inr (by have e' : b = g7 := hb; omega)))
              replace hBx := Aside0.mk (hBx.out.ex (EE.mono fun b hb => .inr hb))
              replace hCx := Aside0.mk (hCx.out.ex EE (fun b hb => by have e' : b = g7 := hb; omega))
              replace hEx := Aside0.mk (hEx.out.trans EE (fun i hi h => by have e' : i = g7 := h; omega))
              obtain ⟨wx, hwx⟩ : ∃ wx, (w9.setCell ⟨g7, 0, none⟩ (.slice F0 qs.length y0)).setCell ⟨g7, 1, none⟩ (.slice F1 zs.length y1) = wx := ⟨_, rfl⟩
              rw [hwx] at hBx hgB hgA hix hrx hAx hCx hEx ⊢
              clear EE hq7 hq8 hq9 hwx
              as_aux_lemma =>
                refine Reg.regionG (fun w' => w'.heap[g6]? = some (.cells #[.slice A0 sigs.length d0, .slice A1 fs0.length d1] 32 (0, 0)) ∧ w'.heap[g7]? = some (.cells #[.slice F0 qs.length y0, .slice F1 zs.length y1] 32 (0, 0))) [0,1,2] [3,4,5] 5 (by kernel_rfl) (by kernel_rfl) ⟨hgA.out, hgB.out⟩ ?_
                refine Reg.sG ?_
                refine Reg.sG (hy := by intro w' hS; have hA := blk_cell hS.1; clear hS; (go_simp; first | done | rfl)) ?_
                refine Reg.sG (hy := by intro w' hS; have hA := blk_cell hS.2; clear hS; (go_simp; first | done | rfl)) ?_
                refine Reg.startG ?_
                have hry0 := hrx.out
                have hiy0 := hix.out
                obtain ⟨wy, hwy⟩ : ∃ wy, ({ wx with drawn := wx.drawn + 1 } : World) = wy := ⟨_, rfl⟩
                have hSy' := Aside0.mk (show On wx wy from (hwy ▸ on_draw wx))
                rw [hwy]
                clear hwy hry0 hiy0
                have hry := Aside0.mk (blk_below hrx.out hSy'.out)
                have hiy := Aside0.mk (blk_below hix.out hSy'.out)
                have hgAy := Aside0.mk (blk_below hgA.out hSy'.out)
                have hgBy := Aside0.mk (blk_below hgB.out hSy'.out)
                refine Reg.tG ?_
                go_wp2
                refine ⟨⟨hgAy.out, hgBy.out⟩, ?_⟩
                refine Reg.tG ?_
                have hcr := blk_cell hiy.out
                have hfr := blk_frozen hiy.out
                obtain ⟨X, hX⟩ : ∃ X, (wy.setCell ⟨w.heap.size, 0, none⟩ (.slice A0 sigs.length d0)).setCell ⟨w.heap.size, 1, none⟩ (.slice A1 fs0.length d1) = X := ⟨_, rfl⟩
                have EX := Aside0.mk (show Ex (fun b => b = w.heap.size) wy X from hX ▸ (Ex.set wy ⟨w.heap.size, 0, none⟩ (.slice A0 sigs.length d0)).trans (Ex.set _ ⟨w.heap.size, 1, none⟩ (.slice A1 fs0.length d1)) (fun _ _ h => h))
                have hiX := Aside0.mk (show X.heap[w.heap.size]? = some (.cells #[.slice A0 sigs.length d0, .slice A1 fs0.length d1] 32 (0, 0)) from hX ▸ blk_set (blk_set hiy.out 0 _) 1 _)
                have hrX := Aside0.mk (blk_ex EX.out hry.out (by omega))
                have hqs := hq.out
                have hqt := hgg.out
                have hgAX := Aside0.mk (blk_ex EX.out hgAy.out (by omega))
                have hgBX := Aside0.mk (blk_ex EX.out hgBy.out (by omega))
                have hX' := Aside0.mk hX
                clear hX hqs hqt
                go_wp2
                rw [hX'.out]
                refine ⟨⟨hgAX.out, hgBX.out⟩, ?_⟩
                refine Reg.tE ?_
                have hcs := blk_cell hrX.out
                have hfs := blk_frozen hrX.out
                clear hcr hfr
                go_wp2
                have EY := (Ex.set X ⟨w.heap.size + 1, 0, none⟩ (.slice F0 qs.length y0)).trans (Ex.set _ ⟨w.heap.size + 1, 1, none⟩ (.slice F1 zs.length y1)) (fun _ _ h => h)
                refine bodyPost_ret (retTII rfl rfl rfl (g := w.heap.size) (g' := w.heap.size + 1) (blk_ex EY hiX.out (fun e => by have e' : w.heap.size = w.heap.size + 1 := e; omega)) (blk_set (blk_set hrX.out 0 _) 1 _) rfl rfl) rfl ?_
                have EZ := (Ex.of_on (S := fun b => b = w.heap.size ∨ b = w.heap.size + 1) hSy'.out).trans ((EX.out.mono (S' := fun b => b = w.heap.size ∨ b = w.heap.size + 1) fun _ h => .inl h).trans EY (fun i hi h => .inr h)) (fun _ _ h => h)
                have hqs := hq.out
                have hzz := hzs.out
                refine ⟨_, rfl, q, _, _, sigs, fs0, qs, zs, rfl, (hAx.out.ex (EZ.mono fun b h => by omega)).mono (fun b h => by omega), (hBx.out.ex (EZ.mono fun b h => by omega)).mono (fun b h => by omega), by show 5 ≤ 5; omega, by have := hfl0.out.1; omega, fun f hf => by have := hfl0.out.2 f hf; omega, hbl.out.1, hbl.out.2.1, hbl.out.2.2, hCx.out.ex EZ (fun b hb => by omega), ?_⟩
                exact Ex.on hb0.out ((hEx.out.mono (S' := fun b => b = q ∨ (b = w.heap.size ∨ b = w.heap.size + 1)) fun _ h => .inl h).trans EZ (fun i hi h => .inr h)) (fun i h => by omega)
end Go.Proofs.Ytngjhblbpapjeaa.H
/- Walks: the draws of two instances for homomorphisms; a byte of the code. What is told: sizes and ranges. No condition. -/
namespace Go.Proofs.Ytngjhblbpapjeaa.H
open Go Go.RowKit Go.Proofs.YtngjhblbpapjeaaW.PrintWords Go.Proofs.YtngjhblbpapjeaaW.PrintLast
open Go.Proofs.Ytngjhblbpapjeaa.Reg (On on_draw)
set_option maxHeartbeats 4000000
set_option maxRecDepth 100000
set_option linter.unusedVariables false
set_option linter.unusedSimpArgs false

section
variable {fn : Func} {p u : Tmp} {tmps : Array Value} {w : World} {g g' : Nat} {t t' : TypeId} {cs cs' : Array Value} {fr fr' : Nat × Nat}
theorem retII (h : fn.results = #[.cell p 32, .cell u 32]) (hp : tmps.getD p undef = .pointer (some ⟨g, 0, none⟩)) (hp' : tmps.getD u undef = .pointer (some ⟨g', 0, none⟩)) (hg : w.heap[g]? = some (.cells cs t fr)) (hg' : w.heap[g']? = some (.cells cs' t' fr')) (hs : cs.size = 2) (hs' : cs'.size = 2) : (results fn tmps).run Try.prog w = .ok (.tuple #[.agg cs, .agg cs']) w :=
  results_cc h tmps w g g' t t' cs cs' fr fr' _ _ hp hg Try.underlying32 rfl (by rw [hs]; kernel_rfl) hp' hg' Try.underlying32 rfl (by rw [hs']; kernel_rfl)
end
/-- Two instances drawn. -/
abbrev DrI (w : World) (v : Value) (w' : World) : Prop := ∃ v1 v2 rs fs qs gs, v = .tuple #[v1, v2] ∧ RS (fun b => b < w.heap.size) w' v1 rs fs ∧ RS (fun b => b < w.heap.size) w' v2 qs gs ∧ rs.length ≤ 5 ∧ fs.length ≤ 200 ∧ (∀ f ∈ fs, f.2.length ≤ 3) ∧ qs.length ≤ 5 ∧ gs.length ≤ 200 ∧ (∀ f ∈ gs, f.2.length ≤ 3) ∧ On w w'
theorem DrawFindHomomorphism_calls (w : World) (A c) (xs : List Int) (hc : xs.length ≤ c) (hK : kBytes.C w A xs.length xs) :
    Calls Try.prog 91 #[.slice A xs.length c] w (Got (DrI w)) := by
  have hb0 := Aside0.mk (On.alloc (On.alloc (On.refl w) (.cells #[.slice none 0 0, .slice none 0 0] 32 (0, 0))) (.cells #[.slice none 0 0, .slice none 0 0] 32 (0, 0)))
  have hL := Aside0.mk (loc2 w #[.slice none 0 0, .slice none 0 0] #[.slice none 0 0, .slice none 0 0] 32 32)
  have hK' := Aside0.mk hK
  have hc' := Aside0.mk hc
  clear hK hc
  go_enter Try.func91, Try.ntmps91
  go_wp2_with (go_at_call 123; refine Stop.out ?_)
  refine ⟨(l7Two_calls _ A c xs hc'.out (Kd.C_below hK'.out hb0.out)).mono ?_⟩
  rintro e w1 ⟨v, rfl, q, v1, v2, rs, fs, qs, gs, rfl, hR, hF, hl0, hl, hl2, hl3, hl4, hl5, -, hb1⟩
  obtain ⟨A0, n0, c0, A1, n1, c1, rfl⟩ := hR.read.shape
  obtain ⟨B0, m0, d0, B1, m1, d1, rfl⟩ := hF.read.shape
  have hR' := Aside0.mk hR
  have hF' := Aside0.mk hF
  have hl' := Aside0.mk (And.intro hl0 (And.intro hl (And.intro hl2 (And.intro hl3 (And.intro hl4 hl5)))))
  have hb1' := Aside0.mk (hb0.out.trans hb1)
  have hsz := Aside0.mk (show w.heap.size + 2 ≤ w1.heap.size by have := hb1.size; simpa using this)
  have hi := Aside0.mk (blk_below hL.out.1 hb1)
  have hr := Aside0.mk (blk_below hL.out.2.1 hb1)
  clear hR hF hl0 hl hl2 hl3 hl4 hl5 hb1
  have hL5 := Aside0.mk (loc2 w1 #[.slice none 0 0, .slice none 0 0] #[.slice none 0 0, .slice none 0 0] 32 32)
  have hd0 := blk_cell hL5.out.1
  have hd1 := blk_cell hL5.out.2.1
  have hf0 := blk_frozen hL5.out.1
  have hf1 := blk_frozen hL5.out.2.1
  go_wp2
  clear hd0 hd1 hf0 hf1 hL5
  obtain ⟨W3, hW3⟩ : ∃ W3, (w1.alloc (.cells #[.slice A0 n0 c0, .slice A1 n1 c1] 32 (0, 0))).alloc (.cells #[.slice B0 m0 d0, .slice B1 m1 d1] 32 (0, 0)) = W3 := ⟨_, rfl⟩
  have hS3 := Aside0.mk (show On w1 W3 from hW3 ▸ On.alloc (On.alloc (On.refl _) _) _)
  have hL3 := Aside0.mk (show Loc W3 [(w1.heap.size, #[.slice A0 n0 c0, .slice A1 n1 c1], 32), (w1.heap.size + 1, #[.slice B0 m0 d0, .slice B1 m1 d1], 32)] from hW3 ▸ loc2 w1 _ _ _ _)
  rw [hW3]
  clear hW3
  obtain ⟨g3, hg3⟩ : ∃ g3, w1.heap.size = g3 := ⟨_, rfl⟩
  rw [hg3] at hL3 hsz ⊢
  clear hg3
  refine Reg.regionG (fun w' => w'.heap[g3]? = some (.cells #[.slice A0 n0 c0, .slice A1 n1 c1] 32 (0, 0)) ∧ w'.heap[g3 + 1]? = some (.cells #[.slice B0 m0 d0, .slice B1 m1 d1] 32 (0, 0))) [0,1] [2,3] 3 (by kernel_rfl) (by kernel_rfl) ⟨hL3.out.1, hL3.out.2.1⟩ ?_
  refine Reg.sG (hy := by intro w' hS; have hA := blk_cell hS.1; clear hS; (go_simp; first | done | rfl)) ?_
  refine Reg.sG (hy := by intro w' hS; have hA := blk_cell hS.2; clear hS; (go_simp; first | done | rfl)) ?_
  refine Reg.startG ?_
  obtain ⟨wy, hwy⟩ : ∃ wy, ({ W3 with drawn := W3.drawn + 1 } : World) = wy := ⟨_, rfl⟩
  have hSy := Aside0.mk (show On w1 wy from hS3.out.trans (hwy ▸ on_draw W3))
  have hLy := Aside0.mk (show Loc wy _ from Loc.on (hwy ▸ on_draw W3) hL3.out)
  rw [hwy]
  clear hwy
  have hry := Aside0.mk (blk_below hr.out hSy.out)
  have hiy := Aside0.mk (blk_below hi.out hSy.out)
  refine Reg.tG ?_
  have hcr := blk_cell hiy.out
  have hfr := blk_frozen hiy.out
  obtain ⟨X, hX⟩ : ∃ X, (wy.setCell ⟨w.heap.size, 0, none⟩ (.slice A0 n0 c0)).setCell ⟨w.heap.size, 1, none⟩ (.slice A1 n1 c1) = X := ⟨_, rfl⟩
  have EX := Aside0.mk (show Ex (fun b => b = w.heap.size) wy X from hX ▸ (Ex.set wy ⟨w.heap.size, 0, none⟩ (.slice A0 n0 c0)).trans (Ex.set _ ⟨w.heap.size, 1, none⟩ (.slice A1 n1 c1)) (fun _ _ h => h))
  have hiX := Aside0.mk (show X.heap[w.heap.size]? = some (.cells #[.slice A0 n0 c0, .slice A1 n1 c1] 32 (0, 0)) from hX ▸ blk_set (blk_set hiy.out 0 _) 1 _)
  have hrX := Aside0.mk (blk_ex EX.out hry.out (by omega))
  have hqs := hsz.out
  have hgA := Aside0.mk (blk_ex EX.out hLy.out.1 (by omega))
  have hgB := Aside0.mk (blk_ex EX.out hLy.out.2.1 (by omega))
  have hX' := Aside0.mk hX
  clear hX hqs
  go_wp2
  rw [hX'.out]
  refine ⟨⟨hgA.out, hgB.out⟩, ?_⟩
  refine Reg.tE ?_
  have hcs := blk_cell hrX.out
  have hfs := blk_frozen hrX.out
  clear hcr hfr
  go_wp2
  have EY := (Ex.set X ⟨w.heap.size + 1, 0, none⟩ (.slice B0 m0 d0)).trans (Ex.set _ ⟨w.heap.size + 1, 1, none⟩ (.slice B1 m1 d1)) (fun _ _ h => h)
  refine bodyPost_ret (retII rfl rfl rfl (g := w.heap.size) (g' := w.heap.size + 1) (blk_ex EY hiX.out (fun e => by have e' : w.heap.size = w.heap.size + 1 := e; omega)) (blk_set (blk_set hrX.out 0 _) 1 _) rfl rfl) rfl ?_
  have EZ := (EX.out.mono (S' := fun b => b = w.heap.size ∨ b = w.heap.size + 1) fun _ h => .inl h).trans EY (fun i hi h => .inr h)
  exact ⟨_, rfl, _, _, rs, fs, qs, gs, rfl, ((hR'.out.on hSy.out).ex (EZ.mono fun b h => by simp; omega)).mono (fun b h => by simp; omega), ((hF'.out.on hSy.out).ex (EZ.mono fun b h => by simp; omega)).mono (fun b h => by simp; omega), hl'.out.1, hl'.out.2.1, hl'.out.2.2.1, hl'.out.2.2.2.1, hl'.out.2.2.2.2.1, hl'.out.2.2.2.2.2, Ex.on (hb1'.out.trans hSy.out) EZ (fun i e => by omega)⟩
theorem DrawHasHomomorphism_calls (w : World) (A c) (xs : List Int) (hc : xs.length ≤ c) (hK : kBytes.C w A xs.length xs) :
    Calls Try.prog 40 #[.slice A xs.length c] w (Got (DrI w)) := by
  have hb0 := Aside0.mk (On.alloc (On.alloc (On.refl w) (.cells #[.slice none 0 0, .slice none 0 0] 32 (0, 0))) (.cells #[.slice none 0 0, .slice none 0 0] 32 (0, 0)))
  have hL := Aside0.mk (loc2 w #[.slice none 0 0, .slice none 0 0] #[.slice none 0 0, .slice none 0 0] 32 32)
  have hK' := Aside0.mk hK
  have hc' := Aside0.mk hc
  clear hK hc
  go_enter Try.func40, Try.ntmps40
  go_wp2_with (go_at_call 91; refine Stop.out ?_)
  refine ⟨(DrawFindHomomorphism_calls _ A c xs hc'.out (Kd.C_below hK'.out hb0.out)).mono ?_⟩
  rintro e w1 ⟨v, rfl, v1, v2, rs, fs, qs, gs, rfl, hR, hF, hl0, hl, hl2, hl3, hl4, hl5, hb1⟩
  obtain ⟨A0, n0, c0, A1, n1, c1, rfl⟩ := hR.read.shape
  obtain ⟨B0, m0, d0, B1, m1, d1, rfl⟩ := hF.read.shape
  have hR' := Aside0.mk hR
  have hF' := Aside0.mk hF
  have hl' := Aside0.mk (And.intro hl0 (And.intro hl (And.intro hl2 (And.intro hl3 (And.intro hl4 hl5)))))
  have hb1' := Aside0.mk hb1
  have hi := Aside0.mk (blk_below hL.out.1 hb1)
  have hr := Aside0.mk (blk_below hL.out.2.1 hb1)
  clear hR hF hl0 hl hl2 hl3 hl4 hl5 hb1
  have hd0 := blk_cell hi.out
  have hf0 := blk_frozen hi.out
  obtain ⟨X, hX⟩ : ∃ X, (w1.setCell ⟨w.heap.size, 0, none⟩ (.slice A0 n0 c0)).setCell ⟨w.heap.size, 1, none⟩ (.slice A1 n1 c1) = X := ⟨_, rfl⟩
  have EX := Aside0.mk (show Ex (fun b => b = w.heap.size) w1 X from hX ▸ (Ex.set w1 ⟨w.heap.size, 0, none⟩ (.slice A0 n0 c0)).trans (Ex.set _ ⟨w.heap.size, 1, none⟩ (.slice A1 n1 c1)) (fun _ _ h => h))
  have hiX := Aside0.mk (show X.heap[w.heap.size]? = some (.cells #[.slice A0 n0 c0, .slice A1 n1 c1] 32 (0, 0)) from hX ▸ blk_set (blk_set hi.out 0 _) 1 _)
  have hrX := Aside0.mk (blk_ex EX.out hr.out (by omega))
  have hd1 := blk_cell hrX.out
  have hf1 := blk_frozen hrX.out
  rw [← hX] at hd1 hf1
  have hX' := Aside0.mk hX
  clear hX
  go_wp2
  rw [hX'.out]
  have EY := (Ex.set X ⟨w.heap.size + 1, 0, none⟩ (.slice B0 m0 d0)).trans (Ex.set _ ⟨w.heap.size + 1, 1, none⟩ (.slice B1 m1 d1)) (fun _ _ h => h)
  refine bodyPost_ret (retII rfl rfl rfl (g := w.heap.size) (g' := w.heap.size + 1) (blk_ex EY hiX.out (fun e => by have e' : w.heap.size = w.heap.size + 1 := e; omega)) (blk_set (blk_set hrX.out 0 _) 1 _) rfl rfl) rfl ?_
  have EZ := (EX.out.mono (S' := fun b => b = w.heap.size ∨ b = w.heap.size + 1) fun _ h => .inl h).trans EY (fun i hi h => .inr h)
  exact ⟨_, rfl, _, _, rs, fs, qs, gs, rfl, (hR'.out.ex (EZ.mono fun b h => by simp; omega)).mono (fun b h => by simp; omega), (hF'.out.ex (EZ.mono fun b h => by simp; omega)).mono (fun b h => by simp; omega), hl'.out.1, hl'.out.2.1, hl'.out.2.2.1, hl'.out.2.2.2.1, hl'.out.2.2.2.2.1, hl'.out.2.2.2.2.2, Ex.on (hb0.out.trans hb1'.out) EZ (fun i e => by omega)⟩
/-- A byte of the code, or a number made of its length. -/
theorem at_calls (w : World) (A c) (xs : List Int) (hK : kBytes.C w A xs.length xs) (hg : ∀ x ∈ xs, 0 ≤ x ∧ x ≤ 255) : Calls Try.prog 44 #[.slice A xs.length c, .int .i64 0] w (Got fun v w' => ∃ x : Int, v = .int .i64 x ∧ 0 ≤ x ∧ x ≤ 255 ∧ On w w') := by
  by_cases h : 0 < xs.length
  · obtain ⟨ad, rfl, hx⟩ := Kd.at_int hK 0 (by omega) (by omega)
    have hm : rd xs 0 ∈ xs := by simp [rd, List.getD_eq_getElem?_getD, h]
    have hb := hg _ hm
    obtain ⟨x, hxx⟩ : ∃ x, rd xs 0 = x := ⟨_, rfl⟩
    have hx' := hx
    simp only [Int.toNat_zero] at hx'
    rw [hxx] at hx hx' hb
    have hx2 : w.cell? ad = some (.int .u8 x) := by
      have e1 : ad.add 0 = ad := by unfold Addr.add; rw [if_pos rfl]
      rw [← e1]; exact hx'
    have hb' := Aside0.mk hb
    have hcb : decide ((0 : Int) < (xs.length : Int)) = true := decide_eq_true (by omega)
    have hcn : decide (0 < xs.length) = true := decide_eq_true h
    have hwr : IntKind.i64.wrap x = x := IntWalk.i64_in _ (by omega)
    have hwr2 : wrap64 x = x := IntWalk.wrap64_in _ (by omega)
    clear hm hb hxx
    go_enter Try.func44, Try.ntmps44
    go_wp2
    go_ret
    exact ⟨_, rfl, x, rfl, hb'.out.1, hb'.out.2, On.refl _⟩
  · obtain rfl : xs = [] := List.eq_nil_of_length_eq_zero (by omega)
    go_enter Try.func44, Try.ntmps44
    go_wp2
    go_ret
    exact ⟨_, rfl, 0, rfl, by omega, by omega, On.refl _⟩
end Go.Proofs.Ytngjhblbpapjeaa.H
/- Walks: the draws of one fact of an instance, of an instance with a fact. What is told: sizes and ranges. No condition. -/
namespace Go.Proofs.Ytngjhblbpapjeaa.H
open Go Go.RowKit Go.Proofs.YtngjhblbpapjeaaW.PrintWords Go.Proofs.YtngjhblbpapjeaaW.PrintLast
open Go.Proofs.Ytngjhblbpapjeaa.Reg (On on_draw)
set_option maxHeartbeats 4000000
set_option maxRecDepth 100000
set_option linter.unusedVariables false
set_option linter.unusedSimpArgs false

/-- A fact read whatever happens to blocks S. -/
def RSa (S : Nat → Prop) (w : World) (v : Value) (f : Fct) : Prop := ∀ w', Ex S w w' → RFa w' v f
theorem RSa.ex {S : Nat → Prop} {W w : World} {v : Value} {f : Fct} (h : RSa S W v f) (k : Ex S W w) : RSa S w v f := fun w' h' => h w' (k.trans h' fun _ _ h => h)
theorem OFa.rs {S : Nat → Prop} {w : World} {lo : Nat} {v : Value} {f : Fct} (h : OFa w lo v f) (hS : ∀ b, S b → b < lo) : RSa S w v f := fun w' k => (h.ex k hS).read
theorem RH.at {w : World} {A : Option Addr} {c : Nat} {hs : List Hdr} (h : RH w A c hs) (k : Nat) (hk : k < hs.length) : ∃ ad, A = some ad ∧ w.cell? (ad.add (k * 2)) = some (.int .i64 hs[k].1) ∧ w.cell? ⟨(ad.add (k * 2)).block, (ad.add (k * 2)).off + 1, none⟩ = some (hdV hs[k]) := by
  obtain ⟨ad, e, h0⟩ := h.cell (k * 2 + 0) _ ((flat_get (enc := encH) (sz := 2) (fun _ => rfl) hs k 0 hk (by omega)).trans rfl)
  obtain ⟨ad', e', h1⟩ := h.cell (k * 2 + 1) _ ((flat_get (enc := encH) (sz := 2) (fun _ => rfl) hs k 1 hk (by omega)).trans rfl)
  obtain rfl : ad = ad' := Option.some.inj (e.symm.trans e')
  exact ⟨ad, e, h0, by rw [← add_field _ _ 1 (by omega)]; exact h1⟩
theorem one_end {S : Nat → Prop} {w0 w wz : World} {q : Nat} {r : Int} {A : Option Addr} {n c : Nat} {f : Fct} (hqw : q < w.heap.size) (hq0 : w0.heap.size ≤ q) (hR : RSa (fun b => S b ∨ b = w.heap.size + 1) wz (.agg #[.int .i64 r, .slice A n c]) f) (hl : f.2.length ≤ 3) (hC : Cu w0 wz q) (hE : Ex (fun b => b = q) w wz) :
    Dr w0 w q (fun v w' => ∃ f, RSa S w' v f ∧ f.2.length ≤ 3) (.returned (.agg #[.int .i64 r, .slice A n c])) ((wz.setCell ⟨w.heap.size + 1, 0, none⟩ (.int .i64 r)).setCell ⟨w.heap.size + 1, 1, none⟩ (.slice A n c)) := by
  have EE := (Ex.set wz ⟨w.heap.size + 1, 0, none⟩ (.int .i64 r)).trans (Ex.set _ ⟨w.heap.size + 1, 1, none⟩ (.slice A n c)) (fun _ _ h => h)
  exact ⟨_, rfl, ⟨f, fun w' k => (hR.ex (EE.mono fun _ h => .inr h)) w' (k.mono fun _ h => .inl h), hl⟩,
    hC.ex EE (fun b hb => by have e' : b = w.heap.size + 1 := hb; omega), hE.trans EE (fun i hi h => by have e' : i = w.heap.size + 1 := h; omega)⟩
theorem l5One_calls (S : Nat → Prop) (w0 w : World) (q : Nat) (hC : Cu w0 w q) (hSq : S q) (hSb : ∀ b, S b → b < w.heap.size) (A0 c0 A1 c1) (rs : List Rel) (fs : List Fct) (hR : RS S w (.agg #[.slice A0 rs.length c0, .slice A1 fs.length c1]) rs fs) (hl : fs.length ≤ 200) (hl2 : ∀ f ∈ fs, f.2.length ≤ 3) :
    Calls Try.prog 127 #[.pointer (some ⟨q, 0, none⟩), .agg #[.slice A0 rs.length c0, .slice A1 fs.length c1]] w (Dr w0 w q fun v w' => ∃ f, RSa S w' v f ∧ f.2.length ≤ 3) := by
  have hC' := Aside0.mk hC
  have hqw := Aside0.mk hC.lt
  have hq0 := Aside0.mk hC.lo
  have hSq' := Aside0.mk hSq
  have hSb' := Aside0.mk hSb
  have hR' := Aside0.mk hR
  have hl' := Aside0.mk hl
  have hl2' := Aside0.mk hl2
  have hb0 := Aside0.mk (On.alloc (On.alloc (On.refl w) (.cells #[.slice A0 rs.length c0, .slice A1 fs.length c1] 32 (0, 0))) (.cells #[.int .i64 0, .slice none 0 0] 55 (0, 0)))
  have hL := Aside0.mk (loc2 w #[.slice A0 rs.length c0, .slice A1 fs.length c1] #[.int .i64 0, .slice none 0 0] 32 55)
  clear hC hSq hSb hR hl hl2
  obtain ⟨W, hW⟩ : ∃ W, (w.alloc (.cells #[.slice A0 rs.length c0, .slice A1 fs.length c1] 32 (0, 0))).alloc (.cells #[.int .i64 0, .slice none 0 0] 55 (0, 0)) = W := ⟨_, rfl⟩
  rw [hW] at hb0 hL
  have hWs := Aside0.mk (show W.heap.size = w.heap.size + 2 by rw [← hW]; simp)
  have hW' := Aside0.mk hW
  clear hW
  by_cases hn : 0 < fs.length
  · have hn' := Aside0.mk hn
    have hnb : decide ((0 : Int) < (fs.length : Int)) = true := decide_eq_true (by omega)
    have hnn : decide (0 < fs.length) = true := decide_eq_true hn
    clear hn
    go_enter Try.func127, Try.ntmps127
    go_wp2_with (go_at_call 143; refine Stop.out ?_)
    rw [hW'.out]
    refine ⟨(l1Once_calls w0 _ q (hC'.out.next hb0.out) 2 (by omega) (by omega)).mono ?_⟩
    rintro e w1 ⟨v, rfl, ⟨b, rfl⟩, hC1, hE1⟩
    have hC1' := Aside0.mk hC1
    have hE1' := Aside0.mk ((Ex.of_on (S := fun b => b = q) hb0.out).trans hE1 fun _ _ h => h)
    have hi1 := Aside0.mk (blk_ex hE1 hL.out.1 (by have := hqw.out; omega))
    have hr1 := Aside0.mk (blk_ex hE1 hL.out.2.1 (by have := hqw.out; omega))
    clear hC1 hE1
    cases b with
    | true =>
      have hd0 := blk_cell hi1.out
      go_wp2
      refine Reg.regionG (fun w' => w'.heap[w.heap.size]? = some (.cells #[.slice A0 rs.length c0, .slice A1 fs.length c1] 32 (0, 0))) [0,1,2,3,4,5] [6,7,8,9] 9 (by kernel_rfl) (by kernel_rfl) hi1.out ?_
      repeat refine Reg.sG ?_
      refine Reg.startG ?_
      obtain ⟨w2, hw2⟩ : ∃ w2, ({ w1 with drawn := w1.drawn + 1 } : World) = w2 := ⟨_, rfl⟩
      have hS2 := Aside0.mk (show On w1 w2 from (hw2 ▸ on_draw w1))
      rw [hw2]
      clear hw2 hd0
      refine Reg.tG ?_
      go_wp2_with (go_at_call 147; refine Stop.out ?_)
      refine ⟨(l1Below_calls w0 _ q (hC1'.out.next hS2.out) fs.length (by have := hn'.out; omega) (by have := hl'.out; omega)).mono ?_⟩
      rintro e w3 ⟨v, rfl, ⟨y, rfl, hy⟩, hC3, hE3⟩
      obtain ⟨k, rfl⟩ := Int.eq_ofNat_of_zero_le hy.1
      have hk := Aside0.mk (show k < fs.length by omega)
      have hC3' := Aside0.mk hC3
      have hE3' := Aside0.mk ((hE1'.out.then_on hS2.out).trans hE3 fun _ _ h => h)
      have hi3 := Aside0.mk (blk_ex hE3 (blk_below hi1.out hS2.out) (by have := hqw.out; omega))
      have hr3 := Aside0.mk (blk_ex hE3 (blk_below hr1.out hS2.out) (by have := hqw.out; omega))
      clear hC3 hE3 hy
      obtain ⟨_, _, hs, hall⟩ := hR'.out.parts
      obtain ⟨-, hH, hRd⟩ := hall w3 (hE3'.out.mono fun b hb => hb ▸ hSq'.out)
      have hlen := Aside0.mk hRd.len
      have hkh : k < hs.length := by have := hk.out; have := hlen.out; omega
      obtain ⟨ad, hA, x0, x1⟩ := hH.at k hkh
      have hkf : k < fs.length := hk.out
      obtain ⟨f1, f2, -⟩ := hRd.at_ k hs[k] fs[k] (List.getElem?_eq_getElem hkh) (List.getElem?_eq_getElem hk.out)
      have hallA := Aside0.mk hall
      subst hA
      obtain ⟨hd, hhd⟩ : ∃ hd : Hdr, hs[k] = hd := ⟨_, rfl⟩
      have hhd' := Aside0.mk (show hs[k]? = some hd by rw [List.getElem?_eq_getElem hkh, hhd])
      rw [hhd] at x0 x1 f1 f2
      obtain ⟨hr, hA, hn, hc⟩ := hd
      simp only at x0 x1 f1 f2
      have f1' := Aside0.mk f1
      have f2' := Aside0.mk f2
      clear hall hH hRd hhd hkh f1 f2
      go_wp2
      refine ⟨hi3.out, ?_⟩
      refine Reg.tG ?_
      go_wp2
      refine ⟨hi3.out, ?_⟩
      refine Reg.tG ?_
      go_wp2
      refine ⟨hi3.out, ?_⟩
      refine Reg.tE ?_
      have hd1 := blk_cell hr3.out
      have hf1 := blk_frozen hr3.out
      clear x0 x1
      go_wp2
      refine bodyPost_ret (retF rfl rfl (g := w.heap.size + 1) (blk_set (blk_set hr3.out 0 _) 1 _) rfl) rfl ?_
      refine one_end hqw.out hq0.out (f := fs[k]) (fun w' kk => ?_) (hl2'.out _ (List.getElem_mem hk.out)) hC3'.out hE3'.out
      have kw : Ex S w w' := (hE3'.out.mono fun b hb => (show S b from hb ▸ hSq'.out)).trans kk fun i hi h => h.elim id fun e => by omega
      obtain ⟨-, -, hRd⟩ := hallA.out w' kw
      obtain ⟨g1, g2, g3⟩ := hRd.at_ k (hr, hA, hn, hc) fs[k] hhd'.out (List.getElem?_eq_getElem hk.out)
      exact ⟨hA, hc, by rw [← f1'.out, ← f2'.out], g3⟩
    | false =>
      go_wp2_with (go_at_call 148; refine Stop.out ?_)
      try rw [hW'.out]
      refine ⟨(l4Any_calls w0 _ q hC1'.out).mono ?_⟩
      rintro e w2 ⟨v, rfl, ⟨f, hO, hf3⟩, hC2, hE2⟩
      obtain ⟨v2, rfl, hO, hI⟩ := hO.out
      obtain ⟨A2, c2, rfl⟩ := own_slice hO
      have hO2 := Aside0.mk (show OFa w2 (w.heap.size + 2) (.agg #[.int .i64 f.1, .slice A2 f.2.length c2]) f from ⟨_, rfl, own_lower hO (by have := blk_lt hr1.out; omega), hI⟩)
      have hf3' := Aside0.mk hf3
      have hC2' := Aside0.mk hC2
      have hE2' := Aside0.mk (hE1'.out.trans hE2 fun _ _ h => h)
      have hr2 := Aside0.mk (blk_ex hE2 hr1.out (by have := hqw.out; omega))
      have hd1 := blk_cell hr2.out
      have hf1 := blk_frozen hr2.out
      clear hC2 hE2 hO hI hf3
      go_wp2
      refine bodyPost_ret (retF rfl rfl (g := w.heap.size + 1) (blk_set (blk_set hr2.out 0 _) 1 _) rfl) rfl ?_
      exact one_end hqw.out hq0.out (hO2.out.rs fun b hb => hb.elim (fun h => by have := hSb'.out b h; omega) (fun h => by omega)) hf3'.out hC2'.out hE2'.out
  · have hnb : decide ((0 : Int) < (fs.length : Int)) = false := decide_eq_false (by omega)
    have hnn : decide (0 < fs.length) = false := decide_eq_false hn
    have hd0 := blk_cell hL.out.1
    clear hn
    have hC1' := Aside0.mk (hC'.out.next hb0.out)
    have hE1' := Aside0.mk (Ex.of_on (S := fun b => b = q) hb0.out)
    have hr1 := Aside0.mk hL.out.2.1
    go_enter Try.func127, Try.ntmps127
    go_wp2_with (go_at_call 148; refine Stop.out ?_)
    try rw [hW'.out]
    refine ⟨(l4Any_calls w0 _ q hC1'.out).mono ?_⟩
    rintro e w2 ⟨v, rfl, ⟨f, hO, hf3⟩, hC2, hE2⟩
    obtain ⟨v2, rfl, hO, hI⟩ := hO.out
    obtain ⟨A2, c2, rfl⟩ := own_slice hO
    have hO2 := Aside0.mk (show OFa w2 (w.heap.size + 2) (.agg #[.int .i64 f.1, .slice A2 f.2.length c2]) f from ⟨_, rfl, own_lower hO (by have := blk_lt hr1.out; omega), hI⟩)
    have hf3' := Aside0.mk hf3
    have hC2' := Aside0.mk hC2
    have hE2' := Aside0.mk (hE1'.out.trans hE2 fun _ _ h => h)
    have hr2 := Aside0.mk (blk_ex hE2 hr1.out (by have := hqw.out; omega))
    have hd1 := blk_cell hr2.out
    have hf1 := blk_frozen hr2.out
    clear hC2 hE2 hO hI hf3
    go_wp2
    refine bodyPost_ret (retF rfl rfl (g := w.heap.size + 1) (blk_set (blk_set hr2.out 0 _) 1 _) rfl) rfl ?_
    exact one_end hqw.out hq0.out (hO2.out.rs fun b hb => hb.elim (fun h => by have := hSb'.out b h; omega) (fun h => by omega)) hf3'.out hC2'.out hE2'.out
section
variable {fn : Func} {p u : Tmp} {tmps : Array Value} {w : World} {g g' : Nat} {t t' : TypeId} {cs cs' : Array Value} {fr fr' : Nat × Nat}
theorem retIF (h : fn.results = #[.cell p 32, .cell u 55]) (hp : tmps.getD p undef = .pointer (some ⟨g, 0, none⟩)) (hp' : tmps.getD u undef = .pointer (some ⟨g', 0, none⟩)) (hg : w.heap[g]? = some (.cells cs t fr)) (hg' : w.heap[g']? = some (.cells cs' t' fr')) (hs : cs.size = 2) (hs' : cs'.size = 2) : (results fn tmps).run Try.prog w = .ok (.tuple #[.agg cs, .agg cs']) w :=
  results_cc h tmps w g g' t t' cs cs' fr fr' _ _ hp hg Try.underlying32 rfl (by rw [hs]; kernel_rfl) hp' hg' Try.underlying55 rfl (by rw [hs']; kernel_rfl)
end
theorem DrawContainsFact_calls (w : World) (A c) (xs : List Int) (hc : xs.length ≤ c) (hK : kBytes.C w A xs.length xs) :
    Calls Try.prog 95 #[.slice A xs.length c] w (Got fun v w' => ∃ v1 v2 rs fs f, v = .tuple #[v1, v2] ∧ RS (fun b => b < w.heap.size) w' v1 rs fs ∧ RSa (fun b => b < w.heap.size) w' v2 f ∧ rs.length ≤ 5 ∧ fs.length ≤ 200 ∧ (∀ f ∈ fs, f.2.length ≤ 3) ∧ f.2.length ≤ 3 ∧ On w w') := by
  have hK' := Aside0.mk hK
  have hc' := Aside0.mk hc
  have hb0 := Aside0.mk (On.alloc (On.alloc (On.refl w) (.cells #[.slice none 0 0, .slice none 0 0] 32 (0, 0))) (.cells #[.int .i64 0, .slice none 0 0] 55 (0, 0)))
  have hL := Aside0.mk (loc2 w #[.slice none 0 0, .slice none 0 0] #[.int .i64 0, .slice none 0 0] 32 55)
  clear hK hc
  go_enter Try.func95, Try.ntmps95
  go_wp2_with (go_at_call 125; refine Stop.out ?_)
  refine ⟨(l1New_calls _ A c xs hc'.out (Kd.C_below hK'.out hb0.out)).mono ?_⟩
  rintro e w1 ⟨v, rfl, q, rfl, hC1, hb1⟩
  have hC1' := Aside0.mk hC1
  have hb1' := Aside0.mk (hb0.out.trans hb1)
  have hi1 := Aside0.mk (blk_below hL.out.1 hb1)
  have hr1 := Aside0.mk (blk_below hL.out.2.1 hb1)
  have hq := Aside0.mk (show w.heap.size + 2 ≤ q ∧ q < w1.heap.size from ⟨by have := hC1.lo; simpa using this, hC1.lt⟩)
  clear hC1 hb1
  go_wp2_with (go_at_call 126; refine Stop.out ?_)
  refine ⟨(l5Any_calls _ w1 q hC1'.out).mono ?_⟩
  rintro e w2 ⟨v, rfl, ⟨rs, fs, hR, hl0, hl, hl2⟩, hC2, hE2⟩
  obtain ⟨A0, c0, A1, c1, hs, rfl, -⟩ := hR.out
  have hR2 := Aside0.mk hR
  have hC2' := Aside0.mk hC2
  have hE2' := Aside0.mk hE2
  have hl' := Aside0.mk (And.intro hl0 (And.intro hl hl2))
  have hi2 := Aside0.mk (blk_ex hE2 hi1.out (by have := hq.out; omega))
  have hr2 := Aside0.mk (blk_ex hE2 hr1.out (by have := hq.out; omega))
  clear hR hl0 hl hl2 hC2 hE2
  have hfill := alloc_fill w2
  go_wp2
  clear hfill
  obtain ⟨wa, hwa⟩ : ∃ wa, w2.alloc (.cells #[.slice A0 rs.length c0, .slice A1 fs.length c1] 32 (0, 0)) = wa := ⟨_, rfl⟩
  have hl5 := Aside0.mk (show wa.heap[w2.heap.size]? = some (.cells #[.slice A0 rs.length c0, .slice A1 fs.length c1] 32 (0, 0)) from hwa ▸ loc_new w2 _ _)
  have hba := Aside0.mk (show On w2 wa from hwa ▸ On.alloc (On.refl _) _)
  try rw [hwa]
  clear hwa
  have hg5 := Aside0.mk (show w1.heap.size ≤ w2.heap.size from hE2'.out.size)
  obtain ⟨g5, hg5e⟩ : ∃ g5, w2.heap.size = g5 := ⟨_, rfl⟩
  rw [hg5e] at hl5 hg5 ⊢
  clear hg5e
  refine Reg.regionG (fun w' => w'.heap[g5]? = some (.cells #[.slice A0 rs.length c0, .slice A1 fs.length c1] 32 (0, 0))) [0,1,2] [3,4,5] 5 (by kernel_rfl) (by kernel_rfl) hl5.out ?_
  repeat refine Reg.sG ?_
  refine Reg.startG ?_
  obtain ⟨w3, hw3⟩ : ∃ w3, ({ wa with drawn := wa.drawn + 1 } : World) = w3 := ⟨_, rfl⟩
  have hS3 := Aside0.mk (show On w2 w3 from hba.out.trans (hw3 ▸ on_draw wa))
  have hl53 := Aside0.mk (show w3.heap[g5]? = _ from blk_below hl5.out (hw3 ▸ on_draw wa))
  rw [hw3]
  clear hw3
  refine Reg.tG ?_
  go_wp2_with (go_at_call 127; refine Stop.out ?_)
  refine ⟨(l5One_calls (fun b => b < w1.heap.size) _ w3 q (hC2'.out.next hS3.out) hq.out.2 (fun b hb => by have := hE2'.out.size; have := hS3.out.size; omega) A0 c0 A1 c1 rs fs (hR2.out.on hS3.out) hl'.out.2.1 hl'.out.2.2).mono ?_⟩
  rintro e w4 ⟨v, rfl, ⟨f, hF, hf3⟩, hC4, hE4⟩
  obtain ⟨A2, c2, rfl, -⟩ := hF w4 (Ex.refl _ _)
  have hF4 := Aside0.mk hF
  have hf3' := Aside0.mk hf3
  have hE4' := Aside0.mk ((Ex.of_on (S := fun b => b = q) hS3.out).trans hE4 fun _ _ h => h)
  have hR4 := Aside0.mk (hR2.out.ex (hE4'.out.mono fun b hb => by have := hq.out; omega))
  have hi4 := Aside0.mk (blk_ex hE4'.out hi2.out (by have := hq.out; omega))
  have hr4 := Aside0.mk (blk_ex hE4'.out hr2.out (by have := hq.out; omega))
  have hb5 := Aside0.mk (blk_ex hE4 hl53.out (by have := hq.out; have := hg5.out; omega))
  have hC4' := Aside0.mk hC4
  clear hC4 hE4 hF hf3
  go_wp2
  refine ⟨hb5.out, ?_⟩
  refine Reg.tG ?_
  have hd0 := blk_cell hi4.out
  have hf0 := blk_frozen hi4.out
  go_wp2
  have hq1 := hq.out
  have hq2 := hg5.out
  obtain ⟨X, hX⟩ : ∃ X, (w4.setCell ⟨w.heap.size, 0, none⟩ (.slice A0 rs.length c0)).setCell ⟨w.heap.size, 1, none⟩ (.slice A1 fs.length c1) = X := ⟨_, rfl⟩
  have EX := Aside0.mk (show Ex (fun b => b = w.heap.size) w4 X from hX ▸ (Ex.set w4 ⟨w.heap.size, 0, none⟩ (.slice A0 rs.length c0)).trans (Ex.set _ ⟨w.heap.size, 1, none⟩ (.slice A1 fs.length c1)) (fun _ _ h => h))
  have hiX := Aside0.mk (show X.heap[w.heap.size]? = some (.cells #[.slice A0 rs.length c0, .slice A1 fs.length c1] 32 (0, 0)) from hX ▸ blk_set (blk_set hi4.out 0 _) 1 _)
  have hrX := Aside0.mk (blk_ex EX.out hr4.out (by omega))
  have hbX := Aside0.mk (blk_ex EX.out hb5.out (by omega))
  rw [hX]
  clear hX hd0 hf0
  refine ⟨hbX.out, ?_⟩
  refine Reg.tE ?_
  have hd0 := blk_cell hrX.out
  have hf0 := blk_frozen hrX.out
  go_wp2
  have EY := (Ex.set X ⟨w.heap.size + 1, 0, none⟩ (.int .i64 f.1)).trans (Ex.set _ ⟨w.heap.size + 1, 1, none⟩ (.slice A2 f.2.length c2)) (fun _ _ h => h)
  refine bodyPost_ret (retIF rfl rfl rfl (g := w.heap.size) (g' := w.heap.size + 1) (blk_ex EY hiX.out (fun e => by have e' : w.heap.size = w.heap.size + 1 := e; omega)) (blk_set (blk_set hrX.out 0 _) 1 _) rfl rfl) rfl ?_
  have EZ := (EX.out.mono (S' := fun b => b = w.heap.size ∨ b = w.heap.size + 1) fun _ h => .inl h).trans EY (fun i hi h => .inr h)
  have hO4 : On w w4 := Ex.on hb1'.out (hE2'.out.trans hE4'.out fun _ _ h => h) (fun i e => by omega)
  exact ⟨_, rfl, _, _, rs, fs, f, rfl, (hR4.out.ex (EZ.mono fun b h => by omega)).mono (fun b h => by omega), fun w' k => hF4.out w' ((EZ.mono (fun b h => by omega)).trans (k.mono (S' := fun b => b < w1.heap.size) fun b h => by omega) fun _ _ h => h), hl'.out.1, hl'.out.2.1, hl'.out.2.2, hf3'.out, Ex.on hO4 EZ (fun i e => by omega)⟩
end Go.Proofs.Ytngjhblbpapjeaa.H
/- Walks: the reference's draws of an instance with a fact and of two facts. What is told: sizes and ranges. No condition. -/
namespace Go.Proofs.Ytngjhblbpapjeaa.H
open Go Go.RowKit Go.Proofs.YtngjhblbpapjeaaW.PrintWords Go.Proofs.YtngjhblbpapjeaaW.PrintLast
open Go.Proofs.Ytngjhblbpapjeaa.Reg (On on_draw)
set_option maxHeartbeats 4000000
set_option maxRecDepth 100000
set_option linter.unusedVariables false
set_option linter.unusedSimpArgs false

theorem DrawInsertFact_calls (w : World) (A c) (xs : List Int) (hc : xs.length ≤ c) (hK : kBytes.C w A xs.length xs) :
    Calls Try.prog 42 #[.slice A xs.length c] w (Got fun v w' => ∃ v1 v2 rs fs f, v = .tuple #[v1, v2] ∧ RS (fun b => b < w.heap.size) w' v1 rs fs ∧ RSa (fun b => b < w.heap.size) w' v2 f ∧ rs.length ≤ 5 ∧ fs.length ≤ 200 ∧ (∀ f ∈ fs, f.2.length ≤ 3) ∧ f.2.length ≤ 3 ∧ On w w') := by
  have hb0 := Aside0.mk (On.alloc (On.alloc (On.refl w) (.cells #[.slice none 0 0, .slice none 0 0] 32 (0, 0))) (.cells #[.int .i64 0, .slice none 0 0] 55 (0, 0)))
  have hL := Aside0.mk (loc2 w #[.slice none 0 0, .slice none 0 0] #[.int .i64 0, .slice none 0 0] 32 55)
  have hK' := Aside0.mk hK
  have hc' := Aside0.mk hc
  clear hK hc
  go_enter Try.func42, Try.ntmps42
  go_wp2_with (go_at_call 95; refine Stop.out ?_)
  refine ⟨(DrawContainsFact_calls _ A c xs hc'.out (Kd.C_below hK'.out hb0.out)).mono ?_⟩
  rintro e w1 ⟨v, rfl, v1, v2, rs, fs, f, rfl, hR, hF, hl0, hl, hl2, hl3, hb1⟩
  obtain ⟨A0, n0, c0, A1, n1, c1, rfl⟩ := hR.read.shape
  obtain ⟨r2, A2, n2, c2, rfl⟩ := (hF _ (Ex.refl _ _)).shape
  have hR' := Aside0.mk hR
  have hF' := Aside0.mk hF
  have hl' := Aside0.mk (And.intro hl0 (And.intro hl (And.intro hl2 hl3)))
  have hb1' := Aside0.mk hb1
  have hi := Aside0.mk (blk_below hL.out.1 hb1)
  have hr := Aside0.mk (blk_below hL.out.2.1 hb1)
  clear hR hF hl0 hl hl2 hl3 hb1
  have hd0 := blk_cell hi.out
  have hf0 := blk_frozen hi.out
  obtain ⟨X, hX⟩ : ∃ X, (w1.setCell ⟨w.heap.size, 0, none⟩ (.slice A0 n0 c0)).setCell ⟨w.heap.size, 1, none⟩ (.slice A1 n1 c1) = X := ⟨_, rfl⟩
  have EX := Aside0.mk (show Ex (fun b => b = w.heap.size) w1 X from hX ▸ (Ex.set w1 ⟨w.heap.size, 0, none⟩ (.slice A0 n0 c0)).trans (Ex.set _ ⟨w.heap.size, 1, none⟩ (.slice A1 n1 c1)) (fun _ _ h => h))
  have hiX := Aside0.mk (show X.heap[w.heap.size]? = some (.cells #[.slice A0 n0 c0, .slice A1 n1 c1] 32 (0, 0)) from hX ▸ blk_set (blk_set hi.out 0 _) 1 _)
  have hrX := Aside0.mk (blk_ex EX.out hr.out (by omega))
  have hd1 := blk_cell hrX.out
  have hf1 := blk_frozen hrX.out
  rw [← hX] at hd1 hf1
  have hX' := Aside0.mk hX
  clear hX
  go_wp2
  rw [hX'.out]
  have EY := (Ex.set X ⟨w.heap.size + 1, 0, none⟩ (.int .i64 r2)).trans (Ex.set _ ⟨w.heap.size + 1, 1, none⟩ (.slice A2 n2 c2)) (fun _ _ h => h)
  refine bodyPost_ret (retIF rfl rfl rfl (g := w.heap.size) (g' := w.heap.size + 1) (blk_ex EY hiX.out (fun e => by have e' : w.heap.size = w.heap.size + 1 := e; omega)) (blk_set (blk_set hrX.out 0 _) 1 _) rfl rfl) rfl ?_
  have EZ := (EX.out.mono (S' := fun b => b = w.heap.size ∨ b = w.heap.size + 1) fun _ h => .inl h).trans EY (fun i hi h => .inr h)
  exact ⟨_, rfl, _, _, rs, fs, f, rfl, (hR'.out.ex (EZ.mono fun b h => by simp; omega)).mono (fun b h => by simp; omega), fun w' k => hF'.out w' ((EZ.mono (fun b h => by simp; omega)).trans (k.mono (S' := fun b => b < ((w.alloc (.cells #[.slice none 0 0, .slice none 0 0] 32 (0, 0))).alloc (.cells #[.int .i64 0, .slice none 0 0] 55 (0, 0))).heap.size) fun b h => by simp; omega) fun _ _ h => h),
    hl'.out.1, hl'.out.2.1, hl'.out.2.2.1, hl'.out.2.2.2, Ex.on (hb0.out.trans hb1'.out) EZ (fun i e => by omega)⟩
end Go.Proofs.Ytngjhblbpapjeaa.H
/- Walks: the reference's draw of two facts. What is told: sizes and ranges. No condition. -/
namespace Go.Proofs.Ytngjhblbpapjeaa.H
open Go Go.RowKit Go.Proofs.YtngjhblbpapjeaaW.PrintWords Go.Proofs.YtngjhblbpapjeaaW.PrintLast
open Go.Proofs.Ytngjhblbpapjeaa.Reg (On on_draw)
set_option maxHeartbeats 4000000
set_option maxRecDepth 100000
set_option linter.unusedVariables false
set_option linter.unusedSimpArgs false

section
variable {fn : Func} {p u : Tmp} {tmps : Array Value} {w : World} {g g' : Nat} {t t' : TypeId} {cs cs' : Array Value} {fr fr' : Nat × Nat}
end
end Go.Proofs.Ytngjhblbpapjeaa.H
/- Walk: spec.EqualInstances. No condition. -/
namespace Go.Proofs.Ytngjhblbpapjeaa.H
open Go Go.RowKit Go.Proofs.YtngjhblbpapjeaaW.PrintWords Go.Proofs.YtngjhblbpapjeaaW.PrintLast
open Go.Proofs.Ytngjhblbpapjeaa.Reg (On on_draw)
set_option maxHeartbeats 4000000
set_option maxRecDepth 100000
set_option linter.unusedVariables false
set_option linter.unusedSimpArgs false

end Go.Proofs.Ytngjhblbpapjeaa.H
/- Walks: the program's own small functions on values and relations. No condition. -/
namespace Go.Proofs.Ytngjhblbpapjeaa.H
open Go Go.RowKit Go.Proofs.YtngjhblbpapjeaaW.PrintWords Go.Proofs.YtngjhblbpapjeaaW.PrintLast
open Go.Proofs.Ytngjhblbpapjeaa.Reg (On on_draw)
set_option maxHeartbeats 1000000
set_option maxRecDepth 100000
set_option linter.unusedVariables false
set_option linter.unusedSimpArgs false

theorem within_calls (w : World) (x a b : Int) : Calls Try.prog 118 #[.int .i64 x, .int .i64 a, .int .i64 b] w fun e w' => e = .returned (.bool (within x a b)) ∧ On w w' := by
  by_cases h1 : a ≤ x
  · have h1' : decide (a ≤ x) = true := by simpa using h1
    go_enter Try.func118, Try.ntmps118
    go_wp2
    go_ret
    exact ⟨by simp [within, h1], On.refl _⟩
  · have h1' : decide (a ≤ x) = false := by simpa using h1
    go_enter Try.func118, Try.ntmps118
    go_wp2
    go_ret
    exact ⟨by simp [within]; omega, On.refl _⟩
theorem iIsValidValue_calls (w : World) (v : Int) : Calls Try.prog 119 #[.int .i64 v] w fun e w' => e = .returned (.bool (okVal v)) ∧ On w w' := by
  go_enter Try.func119, Try.ntmps119
  go_wp2_with (go_at_call 118; refine (within_calls _ _ _ _).mono ?_; rintro e w1 ⟨rfl, hb1⟩)
  go_ret
  exact ⟨ret_bool (by simp only [okVal, within]), hb1⟩
theorem iNullNumber_calls (w : World) (v : Int) (hv : -9223372036854775808 ≤ v ∧ v ≤ 9223372036854775807) : Calls Try.prog 102 #[.int .i64 v] w fun e w' => e = .returned (.tuple #[.int .i64 (nulNum v), .bool (isNul v)]) ∧ On w w' := by
  have hwr : IntKind.i64.wrap (-1 - v) = -1 - v := IntWalk.i64_in _ (by omega)
  by_cases h : -40 ≤ v ∧ v ≤ -1
  · have hw : within (-1 - v) 0 39 = true := by simp only [within, decide_eq_true_eq]; omega
    have hi := Aside0.mk (show isNul v = true by simp [isNul, h])
    go_enter Try.func102, Try.ntmps102
    go_wp2_with (go_at_call 118; refine (within_calls _ _ _ _).mono ?_; rintro e w1 ⟨rfl, hb1⟩)
    go_ret2
    exact ⟨by rw [hi.out, show nulNum v = -1 - v by simp [nulNum, hi.out]]; rfl, hb1⟩
  · have hw : within (-1 - v) 0 39 = false := by simp only [within, decide_eq_false_iff_not]; omega
    have hi := Aside0.mk (show isNul v = false by simp [isNul]; omega)
    go_enter Try.func102, Try.ntmps102
    go_wp2_with (go_at_call 118; refine (within_calls _ _ _ _).mono ?_; rintro e w1 ⟨rfl, hb1⟩)
    go_ret2
    exact ⟨by rw [hi.out, show nulNum v = 0 by simp [nulNum, hi.out]]; rfl, hb1⟩
theorem str1_lt (s : ByteArray) (h : s.size = 1) (c : UInt8) : Op.bytesLess s.toList [c] = decide (bt s 0 < c.toNat) ∧ Op.bytesLess [c] s.toList = decide ((c.toNat : Int) < bt s 0) ∧ (s.toList == [c]) = decide (bt s 0 = c.toNat) := by
  have hl : s.data.toList.length = 1 := by simpa using h
  obtain ⟨x, hx⟩ := List.length_eq_one_iff.1 hl
  have e1 : s.toList = [x] := by rw [ByteArray.toList_eq]; exact hx
  have e2 : bt s 0 = x.toNat := by
    have h0 : (0 : Int).toNat < s.size := by simp [h]
    unfold bt
    rw [dif_pos h0]
    have : s[(0 : Int).toNat] = x := by
      show s.data[(0:Int).toNat] = x
      have h1 : 0 < s.data.size := by have : s.data.size = 1 := h; omega
      have := Array.getElem_toList (xs := s.data) (i := 0) h1
      simp only [Int.toNat_zero]
      rw [← this]
      simp [hx]
    rw [this]
  rw [e1, e2]
  refine ⟨?_, ?_, ?_⟩
  · simp [Op.bytesLess, UInt8.lt_iff_toNat_lt]
  · simp [Op.bytesLess, UInt8.lt_iff_toNat_lt]
  · rw [Bool.eq_iff_iff]; simp [← UInt8.toNat_inj]; omega
theorem iIsValidRelation_calls (w : World) (r : Rel) : Calls Try.prog 133 #[.agg #[.string r.1, .int .i64 r.2.1, .bool r.2.2]] w fun e w' => e = .returned (.bool (okRel r)) ∧ On w w' := by
  by_cases h1 : (r.1.size : Int) = 1
  · have h1b : ((r.1.size : Int) == 1) = true := beq_iff_eq.mpr h1
    have e1 : Op.bytesLess r.1.toList [97] = decide (bt r.1 0 < 97) := (str1_lt r.1 (by omega) 97).1
    have e2 : Op.bytesLess r.1.toList [122] = decide (bt r.1 0 < 122) := (str1_lt r.1 (by omega) 122).1
    have e3 : (r.1.toList == [122]) = decide (bt r.1 0 = 122) := (str1_lt r.1 (by omega) 122).2.2
    have e4 : (r.1.toList = [122]) = (bt r.1 0 = 122) := by
      apply propext; have := Bool.eq_iff_iff.1 e3; simpa using this
    go_enter Try.func133, Try.ntmps133
    go_wp2_with (go_at_call 118; refine (within_calls _ _ _ _).mono ?_; rintro e w2 ⟨rfl, hb2⟩)
    all_goals
      go_ret
      first | exact ⟨ret_bool (by rw [Bool.eq_iff_iff]; simp [okRel, within]; omega), (On.alloc (On.refl _) _).trans hb2⟩ | exact ⟨ret_bool (by simp [okRel]; omega), On.alloc (On.refl _) _⟩
  · have h1b : ((r.1.size : Int) == 1) = false := beq_eq_false_iff_ne.mpr h1
    go_enter Try.func133, Try.ntmps133
    go_wp2
    go_ret
    exact ⟨ret_bool (by simp [okRel]; omega), On.alloc (On.refl _) _⟩
theorem iAreValidRelations_calls (w : World) (A : Option Addr) (c : Nat) (l : List Rel) (h : Rels w A c l) : Calls Try.prog 107 #[.slice A l.length c] w fun e w' => e = .returned (.bool (okRels l)) ∧ On w w' := by
  have hmax := h.max
  go_enter Try.func107, Try.ntmps107
  go_wp2
  go_loopw [7] (fun v wr => ∃ k : Nat, k ≤ l.length ∧ v = .int .i64 k ∧ Hid (relsFrom (prevName l k) (l.drop k) = relsFrom none l) ∧ On w wr) (fun v _ => l.length - (intOf v).toNat)
  case atStart => exact ⟨0, Nat.zero_le _, rfl, rfl, On.refl _⟩
  case round =>
    obtain ⟨k, hk, rfl, hp, hB⟩ := hrel
    by_cases hlt : k < l.length
    · obtain ⟨ad, rfl, hx0, hx1, hx2⟩ := (h.on hB).at k hlt
      have hp' := Aside0.mk ((relsFrom_step l k hlt).symm.trans hp.out)
      have hfill := alloc_fill3 wr
      have hbx := Aside0.mk (On.alloc (On.refl wr) (.cells #[.string l[k].1, .int .i64 l[k].2.1, .bool l[k].2.2] 87))
      have hB2 := Aside0.mk (hB.trans hbx.out)
      have hcn := blk_cell (loc_new wr #[.string l[k].1, .int .i64 l[k].2.1, .bool l[k].2.2] 87)
      clear hp
      cases hok : okRel l[k] with
      | false =>
        have hok' := Aside0.mk hok
        clear hok
        go_wp2
        refine Reg.region [(0,.L),(1,.C),(2,.L),(3,.L),(4,.L),(5,.L),(6,.L),(7,.L),(8,.L),(9,.L),(10,.L),(11,.L),(12,.L),(13,.L),(14,.L),(15,.L),(16,.L),(17,.L)] [] (by kernel_rfl) (by kernel_rfl) ?_
        repeat first | refine sP ?_ | refine sS ?_ | refine sA ?_ | refine sL ?_ | refine sQ ?_ | refine sO ?_
        refine callC (.bool false) Try.func133 (fun w' hS => ?_) ?_
        focus exact (iIsValidRelation_calls w' l[k]).mono fun e w'' h => ⟨by rw [h.1, hok'.out], h.2⟩
        repeat first | refine sP ?_ | refine sS ?_ | refine sA ?_ | refine sL ?_ | refine sQ ?_ | refine sO ?_
        refine Reg.nil fun w2 hS => ?_
        go_wp2
        go_ret
        exact ⟨ret_bool (by have := hp'.out; rw [hok'.out] at this; simp at this; simp [okRels, this]), hB2.out.trans hS⟩
      | true =>
        have hok' := Aside0.mk hok
        clear hok
        by_cases hk0 : 0 < k
        · have hk0' : decide (0 < (k : Int)) = true := decide_eq_true (by omega)
          have hki : IntKind.i64.wrap ((k : Int) - 1) = ((k - 1 : Nat) : Int) := by rw [IntWalk.i64_in _ (by omega)]; omega
          have hk1 : k - 1 < l.length := by omega
          obtain ⟨ad', e', hy0, _, _⟩ := (h.on hB2.out).at (k - 1) hk1
          obtain rfl : ad = ad' := by simpa using e'
          have hpn : prevName l k = some l[k - 1].1 := by simp [prevName, show ¬ k = 0 by omega, show k - 1 < l.length by omega]
          rw [hpn] at hp'
          replace hp' : Aside0 ((okRel l[k] && strLt l[k - 1].1 l[k].1 && relsFrom (prevName l (k + 1)) (l.drop (k + 1))) = relsFrom none l) := hp'
          cases hs : strLt l[k - 1].1 l[k].1 with
          | true =>
            have hs1 : Op.bytesLess l[k - 1].1.toList l[k].1.toList = true := hs
            have hs2 := bl_asymm _ _ hs1
            have hs3 := bl_ne hs1
            have hs4 := bl_ne' hs1
            have hs' := Aside0.mk hs
            clear hs
            go_wp2
            refine Reg.region [(0,.L),(1,.C),(2,.L),(3,.L),(4,.L),(5,.L),(6,.L),(7,.L),(8,.L),(9,.L),(10,.L),(11,.L),(12,.L),(13,.L),(14,.L),(15,.L),(16,.L),(17,.L)] [] (by kernel_rfl) (by kernel_rfl) ?_
            repeat first | refine sP ?_ | refine sS ?_ | refine sA ?_ | refine sL ?_ | refine sQ ?_ | refine sO ?_
            refine callC (.bool true) Try.func133 (fun w' hS => ?_) ?_
            focus exact (iIsValidRelation_calls w' l[k]).mono fun e w'' h => ⟨by rw [h.1, hok'.out], h.2⟩
            repeat first | refine sP ?_ | refine sS ?_ | refine sA ?_ | refine sL ?_ | refine sQ ?_ | refine sO ?_
            refine Reg.nil fun w2 hS => ?_
            go_wp2
            go_roundw
            case rel => exact ⟨k + 1, by omega, by go_num, (by have := hp'.out; rw [hok'.out, hs'.out] at this; simpa using this : _ = _), hB2.out.trans hS⟩
            case measure => simp [intOf]; omega
          | false =>
            have hs1 : Op.bytesLess l[k - 1].1.toList l[k].1.toList = false := hs
            have hs2 := bl_total _ _ hs1
            have hs' := Aside0.mk hs
            clear hs
            go_wp2
            refine Reg.region [(0,.L),(1,.C),(2,.L),(3,.L),(4,.L),(5,.L),(6,.L),(7,.L),(8,.L),(9,.L),(10,.L),(11,.L),(12,.L),(13,.L),(14,.L),(15,.L),(16,.L),(17,.L)] [] (by kernel_rfl) (by kernel_rfl) ?_
            repeat first | refine sP ?_ | refine sS ?_ | refine sA ?_ | refine sL ?_ | refine sQ ?_ | refine sO ?_
            refine callC (.bool true) Try.func133 (fun w' hS => ?_) ?_
            focus exact (iIsValidRelation_calls w' l[k]).mono fun e w'' h => ⟨by rw [h.1, hok'.out], h.2⟩
            repeat first | refine sP ?_ | refine sS ?_ | refine sA ?_ | refine sL ?_ | refine sQ ?_ | refine sO ?_
            refine Reg.nil fun w2 hS => ?_
            go_wp2
            go_ret
            exact ⟨ret_bool (by have := hp'.out; rw [hok'.out, hs'.out] at this; simp at this; simp [okRels, this]), hB2.out.trans hS⟩
        · have hk0' : decide (0 < (k : Int)) = false := decide_eq_false (by omega)
          have hpn : prevName l k = none := by simp [prevName, show k = 0 by omega]
          rw [hpn] at hp'
          replace hp' : Aside0 ((okRel l[k] && true && relsFrom (prevName l (k + 1)) (l.drop (k + 1))) = relsFrom none l) := hp'
          go_wp2
          refine Reg.region [(0,.L),(1,.C),(2,.L),(3,.L),(4,.L),(5,.L),(6,.L),(7,.L),(8,.L),(9,.L),(10,.L),(11,.L),(12,.L),(13,.L),(14,.L),(15,.L),(16,.L),(17,.L)] [] (by kernel_rfl) (by kernel_rfl) ?_
          repeat first | refine sP ?_ | refine sS ?_ | refine sA ?_ | refine sL ?_ | refine sQ ?_ | refine sO ?_
          refine callC (.bool true) Try.func133 (fun w' hS => ?_) ?_
          focus exact (iIsValidRelation_calls w' l[k]).mono fun e w'' h => ⟨by rw [h.1, hok'.out], h.2⟩
          repeat first | refine sP ?_ | refine sS ?_ | refine sA ?_ | refine sL ?_ | refine sQ ?_ | refine sO ?_
          refine Reg.nil fun w2 hS => ?_
          go_wp2
          go_roundw
          case rel => exact ⟨k + 1, by omega, by go_num, (by have := hp'.out; rw [hok'.out] at this; simpa using this : _ = _), hB2.out.trans hS⟩
          case measure => simp [intOf]; omega
    · go_wp2
      go_ret
      have e1 : relsFrom none l = true := by rw [← hp.out, List.drop_of_length_le (by omega)]; cases prevName l k <;> rfl
      exact ⟨ret_bool (by simp [okRels, e1]; omega), hB⟩
end Go.Proofs.Ytngjhblbpapjeaa.H
/- Walks: the program's own valid facts and their order. No condition. -/
namespace Go.Proofs.Ytngjhblbpapjeaa.H
open Go Go.RowKit Go.Proofs.YtngjhblbpapjeaaW.PrintWords Go.Proofs.YtngjhblbpapjeaaW.PrintLast
open Go.Proofs.Ytngjhblbpapjeaa.Reg (On on_draw)
set_option maxHeartbeats 1000000
set_option maxRecDepth 100000
set_option linter.unusedVariables false
set_option linter.unusedSimpArgs false

theorem badValue_calls (w : World) (v : Int) : Calls Try.prog 135 #[.int .i64 v] w fun e w' => e = .returned (.bool (!okVal v)) ∧ On w w' := by
  go_enter Try.func135, Try.ntmps135
  go_wp2_with (go_at_call 119; refine (iIsValidValue_calls _ _).mono ?_; rintro e w1 ⟨rfl, hb1⟩)
  go_ret
  exact ⟨rfl, hb1⟩
theorem IndexFuncV_calls (w : World) (A c) (vs : List Int) (h : Ints w A c vs) : Calls Try.prog 165 #[.slice A vs.length c, .func (.func 135) #[] #[]] w fun e w' => e = .returned (.int .i64 (idxFrom (fun v => !okVal v) vs 0)) ∧ On w w' := by
  have hmax := h.max
  go_enter Try.func165, Try.ntmps165
  go_wp2
  go_loopw [8] (fun v wr => ∃ k : Nat, k ≤ vs.length ∧ v = .int .i64 k ∧ Hid (idxFrom (fun v => !okVal v) (vs.drop k) k = idxFrom (fun v => !okVal v) vs 0) ∧ On w wr) (fun v _ => vs.length - (intOf v).toNat)
  case atStart => exact ⟨0, Nat.zero_le _, rfl, rfl, On.refl _⟩
  case round =>
    obtain ⟨k, hk, rfl, hp, hB⟩ := hrel
    by_cases hlt : k < vs.length
    · obtain ⟨ad, rfl, hx⟩ := (h.on hB).at k hlt
      have hst := Aside0.mk ((idxFrom_step (fun v => !okVal v) vs k hlt).symm.trans hp.out)
      clear hp
      cases hv : okVal vs[k] with
      | false =>
        have hv' := Aside0.mk hv
        clear hv
        go_wp2_with (go_at_call 135; refine (badValue_calls _ _).mono ?_; rintro e w3 ⟨rfl, hb3⟩; rw [hv'.out])
        go_ret
        exact ⟨ret_int (by have := hst.out; rw [hv'.out, if_pos (by rfl)] at this; exact this), hB.trans hb3⟩
      | true =>
        have hv' := Aside0.mk hv
        clear hv
        go_wp2_with (go_at_call 135; refine (badValue_calls _ _).mono ?_; rintro e w3 ⟨rfl, hb3⟩; rw [hv'.out])
        go_roundw
        case rel => exact ⟨k + 1, by omega, by go_num, (by have := hst.out; rwa [hv'.out, if_neg (by simp)] at this : _ = _), hB.trans hb3⟩
        case measure => simp [intOf]; omega
    · go_wp2
      go_ret
      exact ⟨ret_int (by rw [← hp.out, List.drop_of_length_le (by omega)]; rfl), hB⟩
theorem ContainsFuncV_calls (w : World) (A c) (vs : List Int) (h : Ints w A c vs) : Calls Try.prog 134 #[.slice A vs.length c, .func (.func 135) #[] #[]] w fun e w' => e = .returned (.bool (vs.any fun v => !okVal v)) ∧ On w w' := by
  go_enter Try.func134, Try.ntmps134
  go_wp2_with (go_at_call 165; refine (IndexFuncV_calls w A c vs h).mono ?_; rintro e w3 ⟨rfl, hb3⟩)
  go_ret
  exact ⟨ret_bool (idxFrom_any _ vs 0), hb3⟩
theorem iIsValidFact_calls (w : World) (A c) (rs : List Rel) (B d) (f : Fct) (h0 : Rels w A c rs) (h1 : Ints w B d f.2) : Calls Try.prog 108 #[.slice A rs.length c, .agg #[.int .i64 f.1, .slice B f.2.length d]] w fun e w' => e = .returned (.bool (okFact rs f)) ∧ On w w' := by
  have hm0 := h0.max
  have hm1 := h1.max
  have hw1 : IntKind.i64.wrap ((rs.length : Int) - 1) = (rs.length : Int) - 1 := IntWalk.i64_in _ (by omega)
  cases hr : okRels rs with
  | false =>
    have hr' := Aside0.mk hr
    clear hr
    go_enter Try.func108, Try.ntmps108
    go_wp2
    refine Reg.region [(0,.L),(1,.C),(2,.L),(3,.L),(4,.L),(5,.L),(6,.L),(7,.L),(8,.L),(9,.C),(10,.L),(11,.L),(12,.L),(13,.L),(14,.L),(15,.L),(16,.L),(17,.L),(18,.L),(19,.L),(20,.L),(21,.L),(22,.L),(23,.L)] [] (by kernel_rfl) (by kernel_rfl) ?_
    repeat first | refine sP ?_ | refine sS ?_ | refine sA ?_ | refine sL ?_ | refine sQ ?_ | refine sO ?_
    refine callC (.bool false) Try.func107 (fun w' hS => ?_) ?_
    focus exact (iAreValidRelations_calls w' A c rs (h0.on ((On.alloc (On.refl _) _).trans hS))).mono fun e w'' h => ⟨by rw [h.1, hr'.out], h.2⟩
    repeat first | refine sP ?_ | refine sS ?_ | refine sA ?_ | refine sL ?_ | refine sQ ?_ | refine sO ?_
    refine Reg.nil fun w2 hS => ?_
    go_wp2
    go_ret
    exact ⟨ret_bool (by simp [okFact, hr'.out]), (On.alloc (On.refl _) _).trans hS⟩
  | true =>
    have hr' := Aside0.mk hr
    clear hr
    cases hi : within f.1 0 ((rs.length : Int) - 1) with
    | false =>
      have hi' := Aside0.mk hi
      clear hi
      go_enter Try.func108, Try.ntmps108
      go_wp2
      refine Reg.region [(0,.L),(1,.C),(2,.L),(3,.L),(4,.L),(5,.L),(6,.L),(7,.L),(8,.L),(9,.C),(10,.L),(11,.L),(12,.L),(13,.L),(14,.L),(15,.L),(16,.L),(17,.L),(18,.L),(19,.L),(20,.L),(21,.L),(22,.L),(23,.L)] [] (by kernel_rfl) (by kernel_rfl) ?_
      repeat first | refine sP ?_ | refine sS ?_ | refine sA ?_ | refine sL ?_ | refine sQ ?_ | refine sO ?_
      refine callC (.bool true) Try.func107 (fun w' hS => ?_) ?_
      focus exact (iAreValidRelations_calls w' A c rs (h0.on ((On.alloc (On.refl _) _).trans hS))).mono fun e w'' h => ⟨by rw [h.1, hr'.out], h.2⟩
      repeat first | refine sP ?_ | refine sS ?_ | refine sA ?_ | refine sL ?_ | refine sQ ?_ | refine sO ?_
      refine callC (.bool false) Try.func118 (fun w' hS => ?_) ?_
      focus exact (within_calls w' _ _ _).mono fun e w'' h => ⟨by rw [h.1, hi'.out], h.2⟩
      repeat first | refine sP ?_ | refine sS ?_ | refine sA ?_ | refine sL ?_ | refine sQ ?_ | refine sO ?_
      refine Reg.nil fun w2 hS => ?_
      go_wp2
      go_ret
      exact ⟨ret_bool (by have := hi'.out; simp [within] at this; simp [okFact]; intros; omega), (On.alloc (On.refl _) _).trans hS⟩
    | true =>
      have hi' := Aside0.mk hi
      have hi2 : 0 ≤ f.1 ∧ f.1 ≤ (rs.length : Int) - 1 := by simpa [within] using hi
      clear hi
      rcases f with ⟨r, vs⟩
      obtain ⟨m, rfl⟩ : ∃ m : Nat, r = m := ⟨r.toNat, by omega⟩
      have hm : m < rs.length := by omega
      have har : arity rs (m : Int) = rs[m].2.1 := by simp [arity, hm]
      clear hi2
      dsimp only at *
      obtain ⟨ad, rfl, hx0, hx1, hx2⟩ := h0.at m hm
      have hbx := Aside0.mk (On.alloc (On.refl w) (.cells #[.int .i64 m, .slice B vs.length d] 55))
      have hx1' := (hbx.out.eq _ (by rw [hx1]; rfl)).trans hx1
      clear hx0 hx1 hx2
      cases hl : decide ((vs.length : Int) = rs[m].2.1) with
      | false =>
        have hl1 : ((vs.length : Int) == rs[m].2.1) = false := hl
        have hl2 : ((vs.length : Int) != rs[m].2.1) = true := by simp [bne, hl1]
        have hl' := Aside0.mk hl
        clear hl
        go_enter Try.func108, Try.ntmps108
        go_wp2
        refine Reg.region [(0,.L),(1,.C),(2,.L),(3,.L),(4,.L),(5,.L),(6,.L),(7,.L),(8,.L),(9,.C),(10,.L),(11,.L),(12,.L),(13,.L),(14,.L),(15,.L),(16,.L),(17,.L),(18,.L),(19,.L),(20,.L),(21,.L),(22,.L),(23,.L)] [] (by kernel_rfl) (by kernel_rfl) ?_
        repeat first | refine sP ?_ | refine sS ?_ | refine sA ?_ | refine sL ?_ | refine sQ ?_ | refine sO ?_
        refine callC (.bool true) Try.func107 (fun w' hS => ?_) ?_
        focus exact (iAreValidRelations_calls w' (some ad) c rs (h0.on (hbx.out.trans hS))).mono fun e w'' h => ⟨by rw [h.1, hr'.out], h.2⟩
        repeat first | refine sP ?_ | refine sS ?_ | refine sA ?_ | refine sL ?_ | refine sQ ?_ | refine sO ?_
        refine callC (.bool true) Try.func118 (fun w' hS => ?_) ?_
        focus exact (within_calls w' _ _ _).mono fun e w'' h => ⟨by rw [h.1, hi'.out], h.2⟩
        repeat first | refine sP ?_ | refine sS ?_ | refine sA ?_ | refine sL ?_ | refine sQ ?_ | refine sO ?_
        refine Reg.nil fun w2 hS => ?_
        go_wp2
        go_ret
        have e1 : decide ((vs.length : Int) = arity rs (m : Int)) = false := by rw [har]; exact hl'.out
        exact ⟨ret_bool (by symm; unfold okFact; dsimp only; rw [e1, Bool.and_false, Bool.false_and]), hbx.out.trans hS⟩
      | true =>
        have hl0 : (vs.length : Int) = rs[m].2.1 := of_decide_eq_true hl
        have hl1 : ((vs.length : Int) == rs[m].2.1) = true := by simpa using hl0
        have hl2 : ((vs.length : Int) != rs[m].2.1) = false := by simp [bne, hl1]
        have hl' := Aside0.mk hl
        clear hl hl0
        go_enter Try.func108, Try.ntmps108
        go_wp2
        refine Reg.region [(0,.L),(1,.C),(2,.L),(3,.L),(4,.L),(5,.L),(6,.L),(7,.L),(8,.L),(9,.C),(10,.L),(11,.L),(12,.L),(13,.L),(14,.L),(15,.L),(16,.L),(17,.L),(18,.L),(19,.L),(20,.L),(21,.L),(22,.L),(23,.L)] [] (by kernel_rfl) (by kernel_rfl) ?_
        repeat first | refine sP ?_ | refine sS ?_ | refine sA ?_ | refine sL ?_ | refine sQ ?_ | refine sO ?_
        refine callC (.bool true) Try.func107 (fun w' hS => ?_) ?_
        focus exact (iAreValidRelations_calls w' (some ad) c rs (h0.on (hbx.out.trans hS))).mono fun e w'' h => ⟨by rw [h.1, hr'.out], h.2⟩
        repeat first | refine sP ?_ | refine sS ?_ | refine sA ?_ | refine sL ?_ | refine sQ ?_ | refine sO ?_
        refine callC (.bool true) Try.func118 (fun w' hS => ?_) ?_
        focus exact (within_calls w' _ _ _).mono fun e w'' h => ⟨by rw [h.1, hi'.out], h.2⟩
        repeat first | refine sP ?_ | refine sS ?_ | refine sA ?_ | refine sL ?_ | refine sQ ?_ | refine sO ?_
        refine Reg.nil fun w2 hS => ?_
        clear hx1'
        have hL2 := Loc.on hS (loc1 w #[.int .i64 m, .slice B vs.length d] 55)
        have hc0 := blk_cell hL2.1
        have hB2 := Aside0.mk (hbx.out.trans hS)
        cases hv : vs.any (fun v => !okVal v) with
        | true =>
          have hv' := Aside0.mk hv
          clear hv
          go_wp2_with (go_at_call 134; refine (ContainsFuncV_calls w2 B d vs (h1.on hB2.out)).mono ?_; rintro e w3 ⟨rfl, hb3⟩; rw [hv'.out])
          go_ret
          exact ⟨ret_bool (by have : vs.all okVal = false := by have := hv'.out; rw [List.any_eq_not_all_not] at this; simpa using this
                              simp only [okFact, this, Bool.and_false]), hB2.out.trans hb3⟩
        | false =>
          have hv' := Aside0.mk hv
          clear hv
          go_wp2_with (go_at_call 134; refine (ContainsFuncV_calls w2 B d vs (h1.on hB2.out)).mono ?_; rintro e w3 ⟨rfl, hb3⟩; rw [hv'.out])
          go_ret
          exact ⟨ret_bool (by have : vs.all okVal = true := by have := hv'.out; rw [List.any_eq_not_all_not] at this; simpa using this
                              have hl3 := beq_iff_eq.1 hl1; simp [okFact, this, hr'.out, har, hm, hl3]), hB2.out.trans hb3⟩
theorem isNaN_calls (w : World) (v : Int) : Calls Try.prog 166 #[.int .i64 v] w fun e w' => e = .returned (.bool false) ∧ On w w' := by
  go_enter Try.func166, Try.ntmps166
  go_wp2
  go_ret
  exact ⟨by simp, On.refl _⟩
theorem cmpCompare_calls (w : World) (a b : Int) : Calls Try.prog 137 #[.int .i64 a, .int .i64 b] w fun e w' => e = .returned (.int .i64 (cmpI a b)) ∧ On w w' := by
  by_cases h1 : a < b
  · have h1b : decide (a < b) = true := decide_eq_true h1
    go_enter Try.func137, Try.ntmps137
    go_wp2_with (first | (go_at_call 166; refine (isNaN_calls w _).mono ?_; rintro e w1 ⟨rfl, hb1⟩) | (go_at_call 166; refine (isNaN_calls w1 _).mono ?_; rintro e w2 ⟨rfl, hb2⟩))
    go_ret
    exact ⟨ret_int (by unfold cmpI; rw [if_pos (of_decide_eq_true h1b)]), hb1.trans hb2⟩
  · have h1b : decide (a < b) = false := decide_eq_false h1
    by_cases h2 : b < a
    · have h2b : decide (b < a) = true := decide_eq_true h2
      go_enter Try.func137, Try.ntmps137
      go_wp2_with (first | (go_at_call 166; refine (isNaN_calls w _).mono ?_; rintro e w1 ⟨rfl, hb1⟩) | (go_at_call 166; refine (isNaN_calls w1 _).mono ?_; rintro e w2 ⟨rfl, hb2⟩))
      go_ret
      exact ⟨ret_int (by unfold cmpI; rw [if_neg (of_decide_eq_false h1b), if_pos (of_decide_eq_true h2b)]), hb1.trans hb2⟩
    · have h2b : decide (b < a) = false := decide_eq_false h2
      go_enter Try.func137, Try.ntmps137
      go_wp2_with (first | (go_at_call 166; refine (isNaN_calls w _).mono ?_; rintro e w1 ⟨rfl, hb1⟩) | (go_at_call 166; refine (isNaN_calls w1 _).mono ?_; rintro e w2 ⟨rfl, hb2⟩))
      go_ret
      exact ⟨ret_int (by unfold cmpI; rw [if_neg (of_decide_eq_false h1b), if_neg (of_decide_eq_false h2b)]), hb1.trans hb2⟩
theorem cmpI_bd (a b : Int) : -1 ≤ cmpI a b ∧ cmpI a b ≤ 1 := by unfold cmpI; split <;> (try split) <;> omega
theorem ints_stepI (a b : List Int) (k : Nat) (h1 : k < a.length) (h2 : k < b.length) : ints (a.drop k) (b.drop k) = if cmpI a[k] b[k] = 0 then ints (a.drop (k + 1)) (b.drop (k + 1)) else cmpI a[k] b[k] := by
  rw [ints_step a b k h1 h2]; unfold cmpI; split
  · simp
  · split <;> simp
theorem slicesCompare_calls (w : World) (A B : Option Addr) (c d : Nat) (a b : List Int) (ha : Ints w A c a) (hb : Ints w B d b) : Calls Try.prog 138 #[.slice A a.length c, .slice B b.length d] w fun e w' => e = .returned (.int .i64 (ints a b)) ∧ On w w' := by
  have hma := ha.max
  have hmb := hb.max
  go_enter Try.func138, Try.ntmps138
  go_wp2
  go_loopw [11] (fun v wr => ∃ k : Nat, k ≤ a.length ∧ k ≤ b.length ∧ v = .int .i64 k ∧ Hid (ints (a.drop k) (b.drop k) = ints a b) ∧ On w wr) (fun v _ => a.length - (intOf v).toNat)
  case atStart => exact ⟨0, Nat.zero_le _, Nat.zero_le _, rfl, rfl, On.refl _⟩
  case round =>
    obtain ⟨k, hk1, hk2, rfl, hp, hB⟩ := hrel
    by_cases h1 : k < a.length
    · obtain ⟨ad, rfl, hx⟩ := (ha.on hB).at k h1
      by_cases h2 : k < b.length
      · obtain ⟨bd, rfl, hy⟩ := (hb.on hB).at k h2
        have h2n : decide (b.length ≤ k) = false := decide_eq_false (by omega)
        have hst := Aside0.mk ((ints_stepI a b k h1 h2).symm.trans hp.out)
        clear hp
        by_cases h3 : cmpI a[k] b[k] = 0
        · have h3' := Aside0.mk h3
          have h3b : (cmpI a[k] b[k] != 0) = false := by simp [h3]
          clear h3
          go_wp2_with (go_at_call 137; refine (cmpCompare_calls _ _ _).mono ?_; rintro e w3 ⟨rfl, hb3⟩)
          go_roundw
          case rel => exact ⟨k + 1, by omega, by omega, by go_num, (by have := hst.out; rwa [if_pos h3'.out] at this : _ = _), hB.trans hb3⟩
          case measure => simp [intOf]; omega
        · have h3' := Aside0.mk h3
          have h3b : (cmpI a[k] b[k] != 0) = true := by simp [h3]
          clear h3
          go_wp2_with (go_at_call 137; refine (cmpCompare_calls _ _ _).mono ?_; rintro e w3 ⟨rfl, hb3⟩)
          go_ret
          exact ⟨ret_int (by have := hst.out; rwa [if_neg h3'.out] at this), hB.trans hb3⟩
      · have hb0 : b.drop k = [] := List.drop_of_length_le (by omega)
        have h2n : decide (b.length ≤ k) = true := decide_eq_true (by omega)
        have hp' := Aside0.mk hp.out
        clear hp
        go_wp2
        go_ret
        exact ⟨ret_int (by rw [← hp'.out, hb0, List.drop_eq_getElem_cons h1]; rfl), hB⟩
    · have ha0 : a.drop k = [] := List.drop_of_length_le (by omega)
      have hp' := Aside0.mk hp.out
      clear hp
      by_cases h2 : k < b.length
      · have h4 : a.length < b.length := by omega
        go_wp2
        go_ret
        exact ⟨ret_int (by rw [← hp'.out, ha0, List.drop_eq_getElem_cons h2]; rfl), hB⟩
      · have hb0 : b.drop k = [] := List.drop_of_length_le (by omega)
        have h4 : ¬ a.length < b.length := by omega
        go_wp2
        go_ret
        exact ⟨ret_int (by rw [← hp'.out, ha0, hb0]; rfl), hB⟩
/-- The first that is not 0. -/
def orFrom : List Int → Int
  | [] => 0
  | x :: l => if x = 0 then orFrom l else x
theorem orFrom_step (l : List Int) (k : Nat) (h : k < l.length) : orFrom (l.drop k) = if l[k] = 0 then orFrom (l.drop (k + 1)) else l[k] := by
  rw [List.drop_eq_getElem_cons h]; rfl
theorem cmpOr_calls (w : World) (A c) (l : List Int) (h : Ints w A c l) : Calls Try.prog 136 #[.slice A l.length c] w fun e w' => e = .returned (.int .i64 (orFrom l)) ∧ On w w' := by
  have hmax := h.max
  go_enter Try.func136, Try.ntmps136
  go_wp2
  go_loop [8] (fun v => ∃ k : Nat, k ≤ l.length ∧ v = .int .i64 k ∧ Hid (orFrom (l.drop k) = orFrom l)) (fun v => l.length - (intOf v).toNat)
  case atStart => exact ⟨0, Nat.zero_le _, rfl, rfl⟩
  case round =>
    obtain ⟨k, hk, rfl, hp⟩ := hrel
    by_cases hlt : k < l.length
    · obtain ⟨ad, rfl, hx⟩ := h.at k hlt
      have hst := Aside0.mk ((orFrom_step l k hlt).symm.trans hp.out)
      clear hp
      by_cases h3 : l[k] = 0
      · have h3' := Aside0.mk h3
        have h3b : (l[k] != 0) = false := by simp [h3]
        clear h3
        go_wp2
        go_round
        case rel => exact ⟨k + 1, by omega, by go_num, (by have := hst.out; rwa [if_pos h3'.out] at this : _ = _)⟩
        case measure => simp [intOf]; omega
      · have h3' := Aside0.mk h3
        have h3b : (l[k] != 0) = true := by simp [h3]
        clear h3
        go_wp2
        go_ret
        exact ⟨ret_int (by have := hst.out; rwa [if_neg h3'.out] at this), On.refl _⟩
    · go_wp2
      go_ret
      exact ⟨ret_int (by rw [← hp.out, List.drop_of_length_le (by omega)]; rfl), On.refl _⟩
theorem ints2 (w : World) (a b : Int) : Ints (w.alloc (.cells #[.int .i64 a, .int .i64 b] 3)) (some ⟨w.heap.size, 0, none⟩) 2 [a, b] ↔ InR [a, b] := by
  refine ⟨fun h => h.2.2, fun h => ⟨Nat.le_refl _, ⟨rfl, by simp, fun _ => ⟨_, rfl, fun j p hj => ?_⟩⟩, h⟩⟩
  refine ⟨[.int .i64 p], rfl, rfl, fun i u hu => ?_⟩
  have hc := blk_cell (loc_new w #[.int .i64 a, .int .i64 b] 3)
  obtain ⟨rfl, rfl⟩ : i = 0 ∧ u = .int .i64 p := by
    cases i with
    | zero => simp at hu; exact ⟨rfl, hu.symm⟩
    | succ i => simp at hu
  rw [add_plain, show j * kInts.sz + 0 = j from by show j * 1 + 0 = j; omega, hc]
  match j, hj with
  | 0, hj => simp at hj; subst hj; rfl
  | 1, hj => simp at hj; subst hj; rfl
  | j + 2, hj => simp at hj
theorem ints_bd (a b : List Int) : -1 ≤ ints a b ∧ ints a b ≤ 1 := by
  induction a generalizing b with
  | nil => cases b <;> simp [ints]
  | cons x a ih =>
    cases b with
    | nil => simp [ints]
    | cons y b =>
      unfold ints
      split
      · omega
      · split
        · omega
        · exact ih b
theorem iCompareFacts_calls (w : World) (A0 c0 A1 c1) (f g : Fct) (h0 : Ints w A0 c0 f.2) (h1 : Ints w A1 c1 g.2) : Calls Try.prog 109 #[.agg #[.int .i64 f.1, .slice A0 f.2.length c0], .agg #[.int .i64 g.1, .slice A1 g.2.length c1]] w fun e w' => e = .returned (.int .i64 (cmpF f g)) ∧ On w w' := by
  have hb0 := Aside0.mk (On.alloc (On.alloc (On.refl w) (.cells #[.int .i64 f.1, .slice A0 f.2.length c0] 55)) (.cells #[.int .i64 g.1, .slice A1 g.2.length c1] 55))
  go_enter Try.func109, Try.ntmps109
  go_wp2
  refine Reg.region [(0,.L),(1,.L),(2,.L),(3,.L),(4,.C),(5,.L),(6,.L),(7,.L),(8,.L),(9,.C)] [10,11,12] (by kernel_rfl) (by kernel_rfl) ?_
  repeat first | refine sP ?_ | refine sS ?_ | refine sA ?_ | refine sL ?_ | refine sQ ?_ | refine sO ?_
  refine callC (.int .i64 (cmpI f.1 g.1)) Try.func137 (fun w' hS => ?_) ?_
  focus exact cmpCompare_calls w' _ _
  repeat first | refine sP ?_ | refine sS ?_ | refine sA ?_ | refine sL ?_ | refine sQ ?_ | refine sO ?_
  refine callC (.int .i64 (ints f.2 g.2)) Try.func138 (fun w' hS => ?_) ?_
  focus exact slicesCompare_calls w' _ _ _ _ f.2 g.2 (h0.on (hb0.out.trans hS)) (h1.on (hb0.out.trans hS))
  repeat first | refine sP ?_ | refine sS ?_ | refine sA ?_ | refine sL ?_ | refine sQ ?_ | refine sO ?_
  refine Reg.tail_ fun w2 hS => ?_
  have hc := cmpI_bd f.1 g.1
  have hi := ints_bd f.2 g.2
  have hr := Aside0.mk ((ints2 w2 (cmpI f.1 g.1) (ints f.2 g.2)).2 (fun x hx => by simp at hx; rcases hx with rfl | rfl <;> omega))
  clear hc hi
  go_wp2_with (go_at_call 136; refine (cmpOr_calls _ _ _ _ hr.out).mono ?_; rintro e w3 ⟨rfl, hb3⟩)
  go_ret
  refine ⟨ret_int ?_, (hb0.out.trans hS).trans ((On.alloc (On.refl _) _).trans hb3)⟩
  rw [cmpF_or]
  simp only [orFrom]
  by_cases h3 : cmpI f.1 g.1 = 0
  · simp only [h3, if_pos, ne_eq, not_true, if_false]
    by_cases h4 : ints f.2 g.2 = 0
    · rw [if_pos h4, h4]
    · rw [if_neg h4]
  · simp [h3]
end Go.Proofs.Ytngjhblbpapjeaa.H
/- Walks: the program's own search for facts. No condition. -/
namespace Go.Proofs.Ytngjhblbpapjeaa.H
open Go Go.RowKit Go.Proofs.YtngjhblbpapjeaaW.PrintWords Go.Proofs.YtngjhblbpapjeaaW.PrintLast
open Go.Proofs.Ytngjhblbpapjeaa.Reg (On on_draw)
set_option maxHeartbeats 1000000
set_option maxRecDepth 100000
set_option linter.unusedVariables false
set_option linter.unusedSimpArgs false

/-- A call of a closure. -/
theorem goesC {ops : Array Oper} {rest : List Oper} {o : Oper} {a : Act} {Q : Exit → Act → World → Prop} {w : World} (N : Tmp) {x : Operand} {f : FuncId} {fn : Func} {xs : Array Operand} {ts : Array TypeId} {caps args : Array Value} (hf : Try.prog.funcs[f]? = some fn) (hname : (fn.name == "runtime.NumGoroutine") = false) (hb : fn.body.isSome = true)
    (h : Calls Try.prog f args w fun e w' => ∃ v, e = .returned v ∧ wpList Try.prog ops Q rest (a.put (some N) v) w')
    (hop : o.op = .call { callee := .value x, args := xs, argTypes := ts } := by rfl) (hx : a.eval x = .func (.func f) #[] caps := by rfl) (hargs : xs.map a.eval ++ caps = args := by (try simp only [List.map_toArray, List.map_cons, List.map_nil]); rfl)
    (hd : o.dst = some N := by rfl) (hg : o.guard = none := by rfl) : wpList Try.prog ops Q (o :: rest) a w := by
  refine wpList_plain hg fun K hK => ?_
  have he := enters_ hf hname hb args w
  have hrun : (execOp a.eval o).run Try.prog w = .ok (.enter f args) w := by
    unfold execOp
    simp [hop, resolve, Deferred.ofValue, invoke, hx, hargs, he]
  unfold Oper.wp
  rw [hrun, Oper.upon_enter]
  refine h.mono fun e w'' hh => ?_
  obtain ⟨v, rfl, hk⟩ := hh
  rw [← hd] at hk
  exact hK _ _ hk
end Go.Proofs.Ytngjhblbpapjeaa.H
/- Sorted, each once: plain. No condition. -/
namespace Go.Proofs.Ytngjhblbpapjeaa.H
open Go Go.RowKit Go.Proofs.YtngjhblbpapjeaaW.PrintWords Go.Proofs.YtngjhblbpapjeaaW.PrintLast
open Go.Proofs.Ytngjhblbpapjeaa.Reg (On on_draw)
set_option maxHeartbeats 1000000
set_option linter.unusedVariables false
set_option linter.unusedSimpArgs false

theorem mem_put (x z : Int) : ∀ l : List Int, z ∈ put l x ↔ z = x ∨ z ∈ l
  | [] => by simp [put]
  | y :: l => by
    unfold put
    by_cases c : y < x
    · rw [if_pos c, List.mem_cons, List.mem_cons, mem_put x z l]
      constructor <;> rintro (h | h | h) <;> simp [h]
    · rw [if_neg c]
      by_cases c2 : y = x
      · rw [if_pos c2]; subst c2; simp
      · rw [if_neg c2]; simp
theorem put_up (x : Int) : ∀ l : List Int, l.Pairwise (· < ·) → (put l x).Pairwise (· < ·)
  | [], _ => by simp [put]
  | y :: l, h => by
    rw [List.pairwise_cons] at h
    unfold put
    by_cases c : y < x
    · rw [if_pos c, List.pairwise_cons]
      refine ⟨fun z hz => ?_, put_up x l h.2⟩
      rcases (mem_put x z l).1 hz with rfl | hz
      · exact c
      · exact h.1 z hz
    · rw [if_neg c]
      by_cases c2 : y = x
      · rw [if_pos c2, List.pairwise_cons]; exact h
      · rw [if_neg c2, List.pairwise_cons, List.pairwise_cons]
        refine ⟨fun z hz => ?_, h⟩
        rcases List.mem_cons.1 hz with rfl | hz
        · omega
        · have := h.1 z hz; omega
/-- Two ascending lists with the same elements are one. -/
theorem up_ext : ∀ a b : List Int, a.Pairwise (· < ·) → b.Pairwise (· < ·) → (∀ x, x ∈ a ↔ x ∈ b) → a = b
  | [], [], _, _, _ => rfl
  | [], y :: b, _, _, h => absurd ((h y).2 (by simp)) (by simp)
  | x :: a, [], _, _, h => absurd ((h x).1 (by simp)) (by simp)
  | x :: a, y :: b, ha, hb, h => by
    rw [List.pairwise_cons] at ha hb
    have e : x = y := by
      rcases List.mem_cons.1 ((h x).1 (by simp)) with e | hx
      · exact e
      · rcases List.mem_cons.1 ((h y).2 (by simp)) with e | hy
        · exact e.symm
        · have h1 := hb.1 x hx
          have h2 := ha.1 y hy
          omega
    subst e
    rw [up_ext a b ha.2 hb.2 (fun z => ?_)]
    constructor
    · intro hz
      rcases List.mem_cons.1 ((h z).1 (List.mem_cons_of_mem _ hz)) with e | hz'
      · have := ha.1 z hz; omega
      · exact hz'
    · intro hz
      rcases List.mem_cons.1 ((h z).2 (List.mem_cons_of_mem _ hz)) with e | hz'
      · have := hb.1 z hz; omega
      · exact hz'
/-- An array in order, of which neighbours that are equal go: ascending, each once. -/
theorem compactUpTo_up (d : Array Int) (hs : ∀ i j, i < j → j < d.size → d[i]! ≤ d[j]!) : ∀ m, m ≤ d.size → (Go.Lib.compactUpTo d m).Pairwise (· < ·) ∧ (∀ x, x ∈ Go.Lib.compactUpTo d m ↔ ∃ j, j < m ∧ d[j]! = x) := by
  intro m
  induction m with
  | zero => intro _; simp [Go.Lib.compactUpTo]
  | succ m ih =>
    intro hm
    obtain ⟨h1, h2⟩ := ih (by omega)
    rw [Go.Lib.compactUpTo_succ]
    by_cases c : Go.Lib.keeps d m = true
    · rw [if_pos c]
      have hk : m = 0 ∨ d[m]! ≠ d[m - 1]! := by simpa [Go.Lib.keeps] using c
      refine ⟨?_, fun x => ?_⟩
      · rw [List.pairwise_append]
        refine ⟨h1, by simp, fun x hx y hy => ?_⟩
        obtain rfl : y = d[m]! := by simpa using hy
        obtain ⟨j, hj, rfl⟩ := (h2 x).1 hx
        rcases hk with hk | hk
        · omega
        · have a1 : d[m - 1]! ≤ d[m]! := hs (m - 1) m (by omega) (by omega)
          have a2 : d[j]! ≤ d[m - 1]! := by
            by_cases e : j = m - 1
            · rw [e]; exact Int.le_refl _
            · exact hs j (m - 1) (by omega) (by omega)
          omega
      · rw [List.mem_append, h2]
        constructor
        · rintro (⟨j, hj, e⟩ | h)
          · exact ⟨j, by omega, e⟩
          · exact ⟨m, by omega, (List.mem_singleton.1 h).symm⟩
        · rintro ⟨j, hj, e⟩
          by_cases c2 : j = m
          · subst c2; exact .inr (by simp [e])
          · exact .inl ⟨j, by omega, e⟩
    · rw [if_neg c, List.append_nil]
      refine ⟨h1, fun x => ?_⟩
      have hk : ¬ (m = 0 ∨ d[m]! ≠ d[m - 1]!) := by simpa [Go.Lib.keeps] using c
      have hm0 : m ≠ 0 := fun e => hk (.inl e)
      have he : d[m]! = d[m - 1]! := by
        by_cases e : d[m]! = d[m - 1]!
        · exact e
        · exact absurd (.inr e) hk
      rw [h2]
      constructor
      · rintro ⟨j, hj, e⟩; exact ⟨j, by omega, e⟩
      · rintro ⟨j, hj, e⟩
        by_cases c2 : j = m
        · subst c2; exact ⟨j - 1, by omega, by rw [← he]; exact e⟩
        · exact ⟨j, by omega, e⟩
/-- Sorted, then made sparse: what the two library calls come to. -/
def sortU (l : List Int) : List Int := Go.Lib.compact (l.mergeSort fun x y => decide (x ≤ y))
theorem sortU_up (l : List Int) : (sortU l).Pairwise (· < ·) ∧ ∀ x, x ∈ sortU l ↔ x ∈ l := by
  have hp := List.mergeSort_perm l (fun x y : Int => decide (x ≤ y))
  have ho : (l.mergeSort fun x y : Int => decide (x ≤ y)).Pairwise (fun x y => decide (x ≤ y) = true) := List.pairwise_mergeSort (fun a b c h1 h2 => by simp at *; omega) (fun a b => by simp; omega) l
  unfold sortU
  generalize hs : (l.mergeSort fun x y : Int => decide (x ≤ y)) = s at hp ho
  have hg : ∀ j, (h : j < s.length) → (s.toArray)[j]! = s[j] := fun j h => by simp [h]
  have h := compactUpTo_up s.toArray (fun i j hij hj => by
    have hj' : j < s.length := by simpa using hj
    rw [hg i (by omega), hg j hj']
    have := (List.pairwise_iff_getElem.1 ho) i j (by omega) hj' hij
    simpa using this) s.length (by simp)
  refine ⟨h.1, fun x => ?_⟩
  unfold Go.Lib.compact
  rw [h.2]
  rw [← hp.mem_iff]
  constructor
  · rintro ⟨j, hj, e⟩
    rw [hg j hj] at e
    exact e ▸ List.getElem_mem hj
  · intro hx
    obtain ⟨j, hj, e⟩ := List.mem_iff_getElem.1 hx
    exact ⟨j, hj, by rw [hg j hj]; exact e⟩
/-- The numbers of the nulls, as they come. -/
def nulSeq (vs : List Int) : List Int := (vs.filter isNul).map nulNum
theorem nulSeq_cons (v : Int) (vs : List Int) : nulSeq (v :: vs) = (if isNul v then nulNum v :: nulSeq vs else nulSeq vs) := by
  unfold nulSeq; rw [List.filter_cons]; split <;> simp
theorem nulsFrom_up (vs out : List Int) (h : out.Pairwise (· < ·)) : (nulsFrom out vs).Pairwise (· < ·) ∧ ∀ x, x ∈ nulsFrom out vs ↔ x ∈ out ∨ x ∈ nulSeq vs := by
  induction vs generalizing out with
  | nil => exact ⟨h, fun x => by simp [nulsFrom, nulSeq]⟩
  | cons v vs ih =>
    rw [nulSeq_cons]
    unfold nulsFrom
    by_cases c : isNul v = true
    · rw [if_pos c, if_pos c]
      obtain ⟨h1, h2⟩ := ih _ (put_up (nulNum v) out h)
      refine ⟨h1, fun x => ?_⟩
      rw [h2, mem_put, List.mem_cons]
      constructor
      · rintro ((h | h) | h)
        · exact .inr (.inl h)
        · exact .inl h
        · exact .inr (.inr h)
      · rintro (h | h | h)
        · exact .inl (.inr h)
        · exact .inl (.inl h)
        · exact .inr h
    · rw [if_neg c, if_neg c]
      exact ih out h
theorem nuls_sort (vs : List Int) : sortU (nulSeq vs) = nuls vs := by
  obtain ⟨h1, h2⟩ := nulsFrom_up vs [] (by simp)
  obtain ⟨h3, h4⟩ := sortU_up (nulSeq vs)
  exact up_ext _ _ h3 h1 fun x => by rw [h4]; unfold nuls; rw [h2]; simp
theorem nulSeq_append (a b : List Int) : nulSeq (a ++ b) = nulSeq a ++ nulSeq b := by simp [nulSeq]
theorem nulSeq_ok (vs : List Int) : (∀ x ∈ nulSeq vs, 0 ≤ x ∧ x ≤ 39) ∧ (nulSeq vs).length ≤ vs.length := by
  refine ⟨fun x hx => ?_, ?_⟩
  · obtain ⟨v, _, rfl⟩ := List.mem_map.1 hx
    exact nulNum_bd v
  · unfold nulSeq; rw [List.length_map]; exact List.length_filter_le _ _
end Go.Proofs.Ytngjhblbpapjeaa.H
