/- Walks and plain laws for the law FnExactParseInstance, part 3 of 4: the texts HF6, HF14, HB4, HB5, HB6, HB7, HB8, HC3, HE, HK1, HC4, HF15, HF7, HF8, HL8, HF9 in one. No condition. -/
import Derived.Test.YtgemaohdlibboaaGreatDoorShelf
import Derived.Lib.IndexBytes
import Derived.Test.YtgemaohdlibboaaGreatDoorZFnExactParseInstance2
/- Walks: facts written, on both sides. No condition. -/
namespace Go.Proofs.YtgemaohdlibboaaGreatDoor.H
open Go Go.RowKit Go.Proofs.YtgemaohdlibboaaGreatDoorW.PrintWords Go.Proofs.YtgemaohdlibboaaGreatDoorW.PrintLast
open Go.Proofs.YtgemaohdlibboaaGreatDoor.Reg (On on_draw)
set_option maxHeartbeats 4000000
set_option maxRecDepth 100000
set_option linter.unusedVariables false
set_option linter.unusedSimpArgs false

def txtF (vs : List Int) (k : Nat) : List UInt8 := Lib.join ((vs.take k).map fvL) [44]
theorem txtF_succ (vs : List Int) (k : Nat) (h : k < vs.length) : txtF vs (k + 1) = (if k = 0 then [] else txtF vs k ++ [44]) ++ fvL vs[k] := by
  unfold txtF
  rw [List.take_succ_eq_append_getElem h, List.map_append, List.map_cons, List.map_nil, join_snoc, List.length_map, List.length_take, Nat.min_eq_left (by omega)]
  by_cases c : k = 0
  · rw [if_pos c, if_pos c]; rfl
  · rw [if_neg c, if_neg c]
theorem txtF_len (vs : List Int) (k : Nat) (h : vs.length ≤ 3) : (txtF vs k).length ≤ 20 := by
  have := join_len [44] 3 _ ((vs.take k).map fvL) rfl (fun x hx => by
    obtain ⟨v, hv, rfl⟩ := List.mem_map.1 hx
    exact fvL_len v)
  rw [List.length_map, List.length_take] at this
  unfold txtF
  simp at this ⊢
  omega
theorem txtF_all (vs : List Int) (k : Nat) (h : vs.length ≤ k) : txtF vs k = Lib.join (vs.map fvL) [44] := by unfold txtF; rw [List.take_of_length_le h]
theorem fmtF_cat {rs : List Rel} {f : Fct} {b : UInt8} (h : okFact rs f = true) (hb : nameL rs f.1 = [b]) : fmtF rs f = ([b, 40] ++ Lib.join (f.2.map fvL) [44]) ++ [41] := by
  unfold fmtF; rw [if_pos h, hb]; simp
theorem fvs_take (vs : List Int) (k : Nat) (h : k < vs.length) : (vs.take (k + 1)).map fvL = (vs.take k).map fvL ++ [fvL vs[k]] := by
  rw [List.take_succ_eq_append_getElem h, List.map_append]; rfl
theorem sFormatFact_calls (w : World) (A : Option Addr) (c : Nat) (rs : List Rel) (h : Rels w A c rs) (A1 c1) (f : Fct) (h1 : Ints w A1 c1 f.2) : Calls Tryz.prog 114 #[.slice A rs.length c, .agg #[.int .i64 f.1, .slice A1 f.2.length c1]] w fun e w' => e = .returned (.string (strB (fmtF rs f))) ∧ On w w' := by
  have h' := Aside0.mk h
  have h1' := Aside0.mk h1
  clear h h1
  cases ho : okFact rs f with
  | false =>
    have hb := Aside0.mk (On.alloc (On.refl w) (.cells #[.int .i64 f.1, .slice A1 f.2.length c1] 60 (0, 0)))
    have ho' := Aside0.mk ho
    clear ho
    go_enter Tryz.func114, Tryz.ntmps114
    go_wp2_with (go_at_call 47; refine (IsValidFact_calls _ A c rs A1 c1 f (h'.out.on hb.out) (h1'.out.on hb.out)).mono ?_; rintro e w1 ⟨rfl, hb1⟩; rw [ho'.out])
    go_ret
    exact ⟨by unfold fmtF; rw [if_neg (by rw [ho'.out]; simp)]; rfl, hb.out.trans hb1⟩
  | true =>
    have ho' := Aside0.mk ho
    obtain ⟨rn, hrn, e1, e2, ⟨b, e3, -, -⟩, -, hvs⟩ := okFact_parts ho
    have hcat := Aside0.mk (fmtF_cat ho (e2.trans e3))
    have hl3 := Aside0.mk (okFact_len ho)
    obtain ⟨i, vs⟩ := f
    simp only at e1 hvs hcat hl3
    subst e1
    have hrn' := Aside0.mk hrn
    have hnm := Aside0.mk (show rs[rn].1 = strB [b] by rw [← e3, strB_self])
    have hvs' := Aside0.mk hvs
    have hbx := Aside0.mk (loc1 w #[.int .i64 (rn : Int), .slice A1 vs.length c1] 60)
    have hB0 := Aside0.mk (On.alloc (On.refl w) (.cells #[.int .i64 (rn : Int), .slice A1 vs.length c1] 60 (0, 0)))
    obtain ⟨w0, hw0⟩ : ∃ w0, w.alloc (.cells #[.int .i64 (rn : Int), .slice A1 vs.length c1] 60 (0, 0)) = w0 := ⟨_, rfl⟩
    clear ho e2 e3 hvs hw0
    have hmx := h1'.out.max
    go_enter Tryz.func114, Tryz.ntmps114
    go_wp2_with (go_at_call 47; refine Stop.out ?_)
    refine ⟨(IsValidFact_calls _ A c rs A1 c1 ((rn : Int), vs) (h'.out.on hB0.out) (h1'.out.on hB0.out)).mono ?_⟩
    rintro e w1 ⟨rfl, hb1⟩
    rw [ho'.out]
    have hB1 := Aside0.mk (hB0.out.trans hb1)
    have hbx1 := Aside0.mk (blk_below hbx.out.1 hb1)
    have hq0 := blk_cell hbx1.out
    obtain ⟨ad, hA, x0, -, -⟩ := (h'.out.on hB1.out).at rn hrn'.out
    subst hA
    rw [hnm.out] at x0
    have hrb := hrn'.out
    have c1' := cat1 [b] 40
    have z1' := szOk1 (a := [b]) (by simp)
    clear hb1
    go_wp2
    clear hq0 x0 c1' z1' hrb
    go_loopw [5, 6] (fun v5 v6 wr => ∃ (k : Nat) (s : List UInt8), k ≤ vs.length ∧ v5 = .string (strB s) ∧ v6 = .int .i64 k ∧ Aside0 (s = [b, 40] ++ txtF vs k) ∧ On w1 wr) (fun _ v6 _ => vs.length - (intOf v6).toNat)
    case atStart => exact ⟨0, _, Nat.zero_le _, rfl, rfl, ⟨by unfold txtF; simp [join_nil']⟩, On.refl _⟩
    case round =>
      obtain ⟨k, s, hk, rfl, rfl, hs, hB⟩ := hrel
      have hB' := Aside0.mk hB
      have hsl := Aside0.mk (show s.length ≤ 30 by rw [hs.out]; have := txtF_len vs k hl3.out; simp; omega)
      have hbxr := Aside0.mk (blk_below hbx1.out hB)
      have hq0 := blk_cell hbxr.out
      clear hB
      by_cases hlt : k < vs.length
      · obtain ⟨ad2, rfl, x2⟩ := (h1'.out.on (hB1.out.trans hB'.out)).at k hlt
        have hk' := Aside0.mk hlt
        have hstep := Aside0.mk (txtF_succ vs k hlt)
        have hbd := Aside0.mk (h1'.out.bd k hlt)
        obtain ⟨v, hv⟩ : ∃ v, vs[k] = v := ⟨_, rfl⟩
        rw [hv] at x2 hstep hbd
        clear hv
        have hs' := Aside0.mk hs.out
        clear hs
        have hfl := Aside0.mk (fvL_len v)
        by_cases hk0 : 0 < k
        · have hkb : decide ((0 : Int) < (k : Int)) = true := decide_eq_true (by omega)
          have hkn : decide (0 < k) = true := decide_eq_true hk0
          have c2 := cat1 s 44
          have z2 := szOk1 (a := s) (by have := hsl.out; omega)
          obtain ⟨t, ht⟩ : ∃ t, s ++ [44] = t := ⟨_, rfl⟩
          have htl := Aside0.mk (show t.length ≤ 31 by rw [← ht]; have := hsl.out; simp; omega)
          have hfin := Aside0.mk (show t ++ fvL v = [b, 40] ++ txtF vs (k + 1) by rw [hstep.out, if_neg (by omega), ← ht, hs'.out]; simp)
          rw [ht] at c2
          clear ht hk0
          have c3 := strB_append t (fvL v)
          have z3 := szOk (a := t) (b := fvL v) (by have := htl.out; have := hfl.out; omega)
          go_wp2_with (go_at_call 96; refine (sFormatValue_calls _ v hbd.out).mono ?_; rintro e w3 ⟨rfl, hb3⟩)
          exact ⟨⟨k + 1, _, by have := hk'.out; omega, rfl, by go_num, ⟨hfin.out⟩, hB'.out.trans hb3⟩, by simp [intOf]; have := hk'.out; omega⟩
        · have hkb : decide ((0 : Int) < (k : Int)) = false := decide_eq_false (by omega)
          have hkn : decide (0 < k) = false := decide_eq_false hk0
          have hfin := Aside0.mk (show s ++ fvL v = [b, 40] ++ txtF vs (k + 1) by rw [hstep.out, if_pos (by omega), hs'.out, show k = 0 by omega]; simp [txtF, join_nil'])
          clear hk0
          have c3 := strB_append s (fvL v)
          have z3 := szOk (a := s) (b := fvL v) (by have := hsl.out; have := hfl.out; omega)
          go_wp2_with (go_at_call 96; refine (sFormatValue_calls _ v hbd.out).mono ?_; rintro e w3 ⟨rfl, hb3⟩)
          exact ⟨⟨k + 1, _, by have := hk'.out; omega, rfl, by go_num, ⟨hfin.out⟩, hB'.out.trans hb3⟩, by simp [intOf]; have := hk'.out; omega⟩
      · have c4 := cat1 s 41
        have z4 := szOk1 (a := s) (by have := hsl.out; omega)
        have hfin := Aside0.mk (show s ++ [41] = fmtF rs ((rn : Int), vs) by rw [hcat.out, hs.out, txtF_all vs k (by omega)])
        clear hs
        go_wp2
        go_ret
        exact ⟨by rw [← hfin.out]; rfl, hB1.out.trans hB'.out⟩
theorem iFormatFact_calls (w : World) (A : Option Addr) (c : Nat) (rs : List Rel) (h : Rels w A c rs) (A1 c1) (f : Fct) (h1 : Ints w A1 c1 f.2) : Calls Tryz.prog 44 #[.slice A rs.length c, .agg #[.int .i64 f.1, .slice A1 f.2.length c1]] w fun e w' => e = .returned (.string (strB (fmtF rs f))) ∧ On w w' := by
  have h' := Aside0.mk h
  have h1' := Aside0.mk h1
  clear h h1
  cases ho : okFact rs f with
  | false =>
    have hb := Aside0.mk (On.alloc (On.refl w) (.cells #[.int .i64 f.1, .slice A1 f.2.length c1] 60 (0, 0)))
    have ho' := Aside0.mk ho
    clear ho
    go_enter Tryz.func44, Tryz.ntmps44
    go_wp2_with (go_at_call 50; refine (iIsValidFact_calls _ A c rs A1 c1 f (h'.out.on hb.out) (h1'.out.on hb.out)).mono ?_; rintro e w1 ⟨rfl, hb1⟩; rw [ho'.out])
    go_ret
    exact ⟨by unfold fmtF; rw [if_neg (by rw [ho'.out]; simp)]; rfl, hb.out.trans hb1⟩
  | true =>
    have ho' := Aside0.mk ho
    obtain ⟨rn, hrn, e1, e2, ⟨b, e3, -, -⟩, -, hvs⟩ := okFact_parts ho
    have hcat := Aside0.mk (fmtF_cat ho (e2.trans e3))
    have hl3 := Aside0.mk (okFact_len ho)
    obtain ⟨i, vs⟩ := f
    simp only at e1 hvs hcat hl3
    subst e1
    have hrn' := Aside0.mk hrn
    have hnm := Aside0.mk (show rs[rn].1 = strB [b] by rw [← e3, strB_self])
    have hvs' := Aside0.mk hvs
    have hbx := Aside0.mk (loc1 w #[.int .i64 (rn : Int), .slice A1 vs.length c1] 60)
    have hB0 := Aside0.mk (On.alloc (On.refl w) (.cells #[.int .i64 (rn : Int), .slice A1 vs.length c1] 60 (0, 0)))
    obtain ⟨w0, hw0⟩ : ∃ w0, w.alloc (.cells #[.int .i64 (rn : Int), .slice A1 vs.length c1] 60 (0, 0)) = w0 := ⟨_, rfl⟩
    clear ho e2 e3 hvs hw0
    have hmx := h1'.out.max
    go_enter Tryz.func44, Tryz.ntmps44
    go_wp2_with (go_at_call 50; refine Stop.out ?_)
    refine ⟨(iIsValidFact_calls _ A c rs A1 c1 ((rn : Int), vs) (h'.out.on hB0.out) (h1'.out.on hB0.out)).mono ?_⟩
    rintro e w1 ⟨rfl, hb1⟩
    rw [ho'.out]
    have hB1 := Aside0.mk (hB0.out.trans hb1)
    have hbx1 := Aside0.mk (blk_below hbx.out.1 hb1)
    have hq0 := blk_cell (blk_below hbx1.out (On.alloc (On.refl w1) (.cells #[] 9 (0, 0))))
    clear hb1
    go_wp2
    clear hq0
    go_loopw [5, 16] (fun v5 v16 wr => ∃ k : Nat, k ≤ vs.length ∧ v16 = .int .i64 k ∧ OSt wr w1.heap.size v5 ((vs.take k).map fvL) ∧ On w1 wr) (fun _ v16 _ => vs.length - (intOf v16).toNat)
    case atStart => exact ⟨0, Nat.zero_le _, rfl, ownS0 rfl (Nat.le_refl _), On.alloc (On.refl _) _⟩
    case round =>
      obtain ⟨k, hk, rfl, hO, hB⟩ := hrel
      have hB' := Aside0.mk hB
      obtain ⟨ls, hls⟩ : ∃ ls, (vs.take k).map fvL = ls := ⟨_, rfl⟩
      rw [hls] at hO
      have hls' := Aside0.mk hls
      have hO' := Aside0.mk hO
      clear hB hO hls
      by_cases hlt : k < vs.length
      · obtain ⟨ad2, rfl, x2⟩ := (h1'.out.on (hB1.out.trans hB'.out)).at k hlt
        have hk' := Aside0.mk hlt
        have hstep := Aside0.mk (fvs_take vs k hlt)
        have hbd := Aside0.mk (h1'.out.bd k hlt)
        obtain ⟨v, hv⟩ : ∃ v, vs[k] = v := ⟨_, rfl⟩
        rw [hv] at x2 hstep hbd
        clear hv
        go_wp2_with (go_at_call 95; refine Stop.out ?_)
        refine ⟨(iFormatValue_calls _ v hbd.out).mono ?_⟩
        rintro e w2 ⟨rfl, hb3⟩
        have hb3' := Aside0.mk hb3
        clear hb3 x2
        go_wp2_with (refine gate 23 ?_)
        refine ⟨litS1 23 (y := fvL v) ?_⟩
        have hOA := Aside0.mk (own_ex hO'.out (Ex.of_on (S := fun _ => False) (hb3'.out.trans (On.alloc (On.refl w2) (.cells #[.string (strB (fvL v))] 9 (0, 0))))) (fun _ _ h => h))
        have hBA := Aside0.mk (hB'.out.trans (hb3'.out.trans (On.alloc (On.refl w2) (.cells #[.string (strB (fvL v))] 9 (0, 0)))))
        obtain ⟨ys, hys⟩ : ∃ ys, ls ++ [fvL v] = ys := ⟨_, rfl⟩
        have hys' := Aside0.mk hys
        refine apS1 24 hys hOA.out (lit_S w2 (fvL v)) hBA.out.size (by have := hl3.out; rw [← hls'.out]; simp; omega) fun v3 w3 hO3 hg3 => ?_
        have hO3' := Aside0.mk hO3
        have hB3 := Aside0.mk (Ex.on hBA.out (Ex.of_grown hg3) (fun i e => own_base hO'.out i e.symm))
        clear hys hO3 hg3
        go_wp2
        refine ⟨⟨k + 1, by have := hk'.out; omega, by go_num, ?_, hB3.out⟩, by simp [intOf]; have := hk'.out; omega⟩
        rw [hstep.out, hls'.out, hys'.out]; exact hO3'.out
      · have e1 : vs.take k = vs := List.take_of_length_le (by omega)
        have hls2 := Aside0.mk (show vs.map fvL = ls by rw [← hls'.out, e1])
        clear e1
        obtain ⟨Aq, cq, rfl⟩ := own_slice hO'.out
        have hSt' := Aside0.mk (OSt.same hO'.out).2
        have hjl := Aside0.mk (show (Lib.join ls [44]).length ≤ 20 by rw [← hls2.out]; have := txtF_len vs vs.length hl3.out; rwa [txtF_all vs _ (Nat.le_refl _)] at this)
        have hll := Aside0.mk (show ls.length ≤ 1000000 by rw [← hls2.out]; have := hl3.out; simp; omega)
        have hbxr := Aside0.mk (blk_below hbx1.out hB'.out)
        have hq0 := blk_cell hbxr.out
        obtain ⟨ad, hA, x0, -, -⟩ := (h'.out.on (hB1.out.trans hB'.out)).at rn hrn'.out
        subst hA
        rw [hnm.out] at x0
        have hrb := hrn'.out
        have c1' := cat1 [b] 40
        have z1' := szOk1 (a := [b]) (by simp)
        obtain ⟨j, hj⟩ : ∃ j, Lib.join ls [44] = j := ⟨_, rfl⟩
        have hj' := Aside0.mk hj
        rw [hj] at hjl
        have c5 := strB_append [b, 40] j
        have z5 := szOk (a := [b, 40]) (b := j) (by have := hjl.out; simp; omega)
        obtain ⟨x, hx⟩ : ∃ x, [b, 40] ++ j = x := ⟨_, rfl⟩
        have hxl := Aside0.mk (show x.length ≤ 30 by rw [← hx]; have := hjl.out; simp; omega)
        rw [hx] at c5
        have hfin := Aside0.mk (show x ++ [41] = fmtF rs ((rn : Int), vs) by rw [hcat.out, ← hx, ← hj, hls2.out])
        have c6 := cat1 x 41
        have z6 := szOk1 (a := x) (by have := hxl.out; omega)
        clear hj hx
        go_wp2
        refine Reg.region [(0,.L),(1,.L),(2,.L),(3,.L),(4,.L),(5,.L),(6,.L),(7,.L),(8,.C),(9,.L),(10,.L)] [11] (by kernel_rfl) (by kernel_rfl) ?_
        repeat first | refine sP ?_ | refine sS ?_ | refine sA ?_ | refine sL ?_ | refine sQ ?_ | refine sO ?_
        refine callC (.string (strB j)) Tryz.func65 (fun w' hS => ?_) ?_
        focus (have h := Join_calls w' Aq cq ls [44] (hSt'.out.on hS) hll.out (by rw [hj'.out]; have := hjl.out; omega); rw [hj'.out] at h; exact h)
        repeat first | refine sP ?_ | refine sS ?_ | refine sA ?_ | refine sL ?_ | refine sQ ?_ | refine sO ?_
        refine Reg.tail_ fun w2 hS => ?_
        go_wp2
        go_ret
        exact ⟨by rw [← hfin.out]; rfl, (hB1.out.trans hB'.out).trans hS⟩
end Go.Proofs.YtgemaohdlibboaaGreatDoor.H
/- What a reader of instances answers, plain. No condition. -/
namespace Go.Proofs.YtgemaohdlibboaaGreatDoor.H
open Go Go.RowKit Go.Proofs.YtgemaohdlibboaaGreatDoorW.PrintWords Go.Proofs.YtgemaohdlibboaaGreatDoorW.PrintLast
set_option maxRecDepth 100000
set_option linter.unusedVariables false
set_option linter.unusedSimpArgs false

theorem okInst_nil : okInst [] [] = true := by decide
theorem canI_nil : canI [] = ([], []) := by
  unfold canI
  rw [cut_none (by simp)]
  simp [parR]
theorem pi_ok {s : List UInt8} (h : fmtI (canI s).1 (canI s).2 = s) : okInst (canI s).1 (canI s).2 = true := by
  cases hb : okInst (canI s).1 (canI s).2 with
  | true => rfl
  | false =>
    have h2 : s = [] := by rw [← h]; unfold fmtI; rw [hb]; rfl
    subst h2
    rw [canI_nil, okInst_nil] at hb
    cases hb
/-- Whether the pieces of an instance's text can be read. -/
def okP (s : List UInt8) : Bool := (parR (Lib.cut s [59]).1).2 && (if (Lib.cut s [59]).2.1 = [] then true else (cutS 32 (Lib.cut s [59]).2.1).all fun w => (parF (parR (Lib.cut s [59]).1).1 w).2)
theorem pi_fs {rs : List Rel} {fs : List Fct} (h : okInst rs fs = true) (c : fs ≠ []) : Lib.join (fs.map (fmtF rs)) [32] ≠ [] ∧ cutS 32 (Lib.join (fs.map (fmtF rs)) [32]) = fs.map (fmtF rs) := by
  obtain ⟨hr, hfs⟩ := okInst_facts h
  exact ⟨join_ne (by simpa using c) (fun w hw => by obtain ⟨f, hf, rfl⟩ := List.mem_map.1 hw; exact (fmtF_bytes (hfs f hf)).2.2),
    cutS_join _ (by simpa using c) (fun w hw => by obtain ⟨f, hf, rfl⟩ := List.mem_map.1 hw; exact (fmtF_bytes (hfs f hf)).1)⟩
theorem okP_fmt {rs : List Rel} {fs : List Fct} (h : okInst rs fs = true) : okP (fmtI rs fs) = true := by
  obtain ⟨hr, hfs⟩ := okInst_facts h
  unfold okP
  rw [(fmtI_ok h).2]
  simp only
  rw [parR_fmt hr]
  simp only
  by_cases c : fs = []
  · subst c; simp [join_nil']
  · obtain ⟨h1, h2⟩ := pi_fs h c
    rw [if_neg h1, h2, List.all_map]
    simp only [Bool.true_and, List.all_eq_true]
    intro f hf
    show (parF rs (fmtF rs f)).2 = true
    rw [parF_fmt (hfs f hf)]
theorem pi_okP {s : List UInt8} (h : fmtI (canI s).1 (canI s).2 = s) : okP s = true := by
  have h1 := okP_fmt (pi_ok h)
  rwa [h] at h1
theorem join59 {rs : List Rel} {fs : List Fct} (h : ∀ f ∈ fs, okFact rs f = true) : 59 ∉ Lib.join (fs.map (fmtF rs)) [32] := by
  intro hm
  rcases join_mem hm with hm | ⟨w, hw, hm⟩
  · simp at hm
  · obtain ⟨f, hf, rfl⟩ := List.mem_map.1 hw
    exact (fmtF_bytes (h f hf)).2.1 hm
theorem pi_two {s : List UInt8} (h : fmtI (canI s).1 (canI s).2 = s) : (cutS 59 s).length = 2 := by
  have hok := pi_ok h
  have hf := (okInst_facts hok).2
  rw [← h, (fmtI_ok hok).1, cutS_app _ fmtR_bytes, cutS_none (join59 hf)]
  rfl
theorem cut_of_two {s a b : List UInt8} {c : UInt8} (h : cutS c s = [a, b]) : Lib.cut s [c] = (a, b, true) := by
  rcases cut_cases c s with hn | ⟨x, y, rfl, hx⟩
  · rw [cutS_none hn] at h; simp at h
  · rw [cutS_app _ hx] at h
    rw [cut_app _ hx]
    have h1 : x = a := by injection h
    have h2 : cutS c y = [b] := by injection h
    rcases cut_cases c y with hn | ⟨u, v, rfl, hu⟩
    · rw [cutS_none hn] at h2
      have h3 : y = b := by injection h2
      rw [h1, h3]
    · rw [cutS_app _ hu] at h2
      obtain ⟨p, r, hp⟩ := cutS_ne c v
      rw [hp] at h2
      simp at h2
theorem pi_F {s : List UInt8} (h : okP s = false ∨ fmtI (canI s).1 (canI s).2 ≠ s ∨ (cutS 59 s).length ≠ 2) : parI s = (([], []), false) := by
  unfold parI
  rw [if_neg]
  intro e
  rcases h with h | h | h
  · rw [pi_okP e] at h; cases h
  · exact h e
  · exact h (pi_two e)
theorem pi_T {s : List UInt8} (h : fmtI (canI s).1 (canI s).2 = s) : parI s = (canI s, true) := by
  unfold parI; rw [if_pos h]
end Go.Proofs.YtgemaohdlibboaaGreatDoor.H
/- Walks: nulls. No condition. -/
namespace Go.Proofs.YtgemaohdlibboaaGreatDoor.H
open Go Go.RowKit Go.Proofs.YtgemaohdlibboaaGreatDoorW.PrintWords Go.Proofs.YtgemaohdlibboaaGreatDoorW.PrintLast
open Go.Proofs.YtgemaohdlibboaaGreatDoor.Reg (On on_draw)
set_option maxHeartbeats 1000000
set_option maxRecDepth 100000
set_option linter.unusedVariables false
set_option linter.unusedSimpArgs false

theorem l4Put_calls (w : World) (lo : Nat) (hlo : lo ≤ w.heap.size) (v : Value) (l : List Int) (x : Int) (hO : OInts w lo v l) (hr : InR l) (hl : l.length ≤ 5000000000) :
    Calls Tryz.prog 104 #[v, .int .i64 x] w (Got fun v' w' => OInts w' lo v' (put l x) ∧ On w w') := by
  obtain ⟨A, c, rfl, hI⟩ := OInts.slice hO hr
  go_enter Tryz.func104, Tryz.ntmps104
  go_wp2
  go_loop [5] (fun v => ∃ k : Nat, k ≤ l.length ∧ v = .int .i64 k ∧ Hid (∀ j, (h : j < l.length) → j < k → l[j] < x)) (fun v => l.length - (intOf v).toNat)
  case atStart => exact ⟨0, Nat.zero_le _, rfl, fun j _ h => by omega⟩
  case round =>
    obtain ⟨k, hk, rfl, hp⟩ := hrel
    by_cases hlt : k < l.length
    · obtain ⟨ad, rfl, hx⟩ := hI.at k hlt
      by_cases h1 : l[k] < x
      · have h1b : decide (l[k] < x) = true := decide_eq_true h1
        have hp2 := Aside0.mk hp.out
        clear hp
        go_wp2
        go_round
        case rel => exact ⟨k + 1, by omega, by go_num, fun j hj h => by
          rcases Nat.lt_or_ge j k with h2 | h2
          · exact hp2.out j hj h2
          · obtain rfl : j = k := by omega
            exact of_decide_eq_true h1b⟩
        case measure => simp [intOf]; omega
      · have h1b : decide (l[k] < x) = false := decide_eq_false h1
        have hm := Aside0.mk (put_mid l x k hlt (fun j h => hp.out j (by omega) h) h1)
        clear hp
        by_cases h2 : l[k] = x
        · have h2b : (l[k] == x) = true := beq_iff_eq.mpr h2
          go_wp2
          go_ret
          exact ⟨_, rfl, by rw [hm.out, if_pos (beq_iff_eq.1 h2b)]; exact hO, On.refl _⟩
        · have h2b : (l[k] == x) = false := beq_eq_false_iff_ne.mpr h2
          go_wp2_with (refine gate 38 ?_)
          refine ⟨slF 38 (hI.on (On.alloc (On.refl _) _)) hk fun A1 c1 hI1 => ?_⟩
          obtain ⟨ys, hys⟩ : ∃ ys, [x] ++ l.drop k = ys := ⟨_, rfl⟩
          have hys' := Aside0.mk hys
          refine apI 39 hys (own1 w x) hI1.2.1 (by simp) (by simp; omega) fun v2 w2 hO2 hg2 hat2 => ?_
          clear hys
          have hB2 : On w w2 := grown_own (On.alloc (On.refl _) _) (own1 w x) hg2 (Nat.le_refl _)
          go_wp2_with (refine gate 43 ?_)
          refine ⟨slT 43 (hI.on (hB2.trans (On.alloc (On.refl _) _))) hk fun hI3 => ?_⟩
          refine apI 44 (List.nil_append _) (own0 w2) hI3.2.1 (by simp) (by simp; omega) fun v4 w4 hO4 hg4 hat4 => ?_
          have hB4 : On w2 w4 := grown_own (On.alloc (On.refl _) _) (own0 w2) hg4 (Nat.le_refl _)
          obtain ⟨A2, c2, rfl, _, hC2⟩ := Kd.R_reads (OInts.on hO2 hB4)
          go_wp2_with (refine gate 46 ?_)
          obtain ⟨zs, hzs⟩ : ∃ zs, l.take k ++ ys = zs := ⟨_, rfl⟩
          have hzs' := Aside0.mk hzs
          refine ⟨apI 46 hzs hO4 hC2 hB4.size (by have := congrArg List.length hys'.out; simp at this ⊢; omega) fun v6 w6 hO6 hg6 hat6 => ?_⟩
          clear hzs
          have hB6 : On w w6 := hB2.trans (grown_own hB4 hO4 hg6 (Nat.le_refl _))
          go_wp2
          go_ret
          exact ⟨_, rfl, by rw [hm.out, if_neg (beq_eq_false_iff_ne.1 h2b)]; have h9 := Kd.R_lower hO6 (base' := lo) (by have := hB2.size; omega); rw [← hzs'.out, ← hys'.out] at h9; simpa using h9, hB6⟩
    · obtain rfl : k = l.length := by omega
      have hm := Aside0.mk (put_end l x (fun j h => hp.out j h h))
      clear hp
      go_wp2_with (refine gate 38 ?_)
      refine ⟨slF 38 (hI.on (On.alloc (On.refl _) _)) hk fun A1 c1 hI1 => ?_⟩
      obtain ⟨ys, hys⟩ : ∃ ys, [x] ++ l.drop l.length = ys := ⟨_, rfl⟩
      have hys' := Aside0.mk hys
      refine apI 39 hys (own1 w x) hI1.2.1 (by simp) (by simp) fun v2 w2 hO2 hg2 hat2 => ?_
      clear hys
      have hB2 : On w w2 := grown_own (On.alloc (On.refl _) _) (own1 w x) hg2 (Nat.le_refl _)
      go_wp2_with (refine gate 43 ?_)
      refine ⟨slT 43 (hI.on (hB2.trans (On.alloc (On.refl _) _))) hk fun hI3 => ?_⟩
      refine apI 44 (List.nil_append _) (own0 w2) hI3.2.1 (by simp) (by simp; omega) fun v4 w4 hO4 hg4 hat4 => ?_
      have hB4 : On w2 w4 := grown_own (On.alloc (On.refl _) _) (own0 w2) hg4 (Nat.le_refl _)
      obtain ⟨A2, c2, rfl, _, hC2⟩ := Kd.R_reads (OInts.on hO2 hB4)
      go_wp2_with (refine gate 46 ?_)
      obtain ⟨zs, hzs⟩ : ∃ zs, l.take l.length ++ ys = zs := ⟨_, rfl⟩
      have hzs' := Aside0.mk hzs
      refine ⟨apI 46 hzs hO4 hC2 hB4.size (by have := congrArg List.length hys'.out; simp at this ⊢; omega) fun v6 w6 hO6 hg6 hat6 => ?_⟩
      clear hzs
      have hB6 : On w w6 := hB2.trans (grown_own hB4 hO4 hg6 (Nat.le_refl _))
      go_wp2
      go_ret
      exact ⟨_, rfl, by rw [hm.out]; have h9 := Kd.R_lower hO6 (base' := lo) (by have := hB2.size; omega); rw [← hzs'.out, ← hys'.out] at h9; simpa using h9, hB6⟩
theorem NullsOfFact_calls (w : World) (A : Option Addr) (c : Nat) (r : Int) (vs : List Int) (hI : Ints w A c vs) (hl : vs.length ≤ 1000000000) :
    Calls Tryz.prog 71 #[.agg #[.int .i64 r, .slice A vs.length c]] w (Got fun v' w' => OInts w' w.heap.size v' (nuls vs) ∧ On w w') := by
  go_enter Tryz.func71, Tryz.ntmps71
  go_wp2
  go_loopw [3, 4] (fun v3 v4 wr => ∃ (k : Nat) (out : List Int), k ≤ vs.length ∧ v4 = .int .i64 k ∧ Aside0 (OInts wr w.heap.size v3 out) ∧ Aside0 (nulsFrom out (vs.drop k) = nuls vs) ∧ out.length ≤ k ∧ Aside0 (InR out) ∧ On w wr ∧ Loc wr [(w.heap.size, #[.int .i64 r, .slice A vs.length c], 60)]) (fun _ v4 _ => vs.length - (intOf v4).toNat)
  case atStart => exact ⟨0, [], Nat.zero_le _, rfl, ⟨own0' (by simp) (by simp)⟩, ⟨rfl⟩, Nat.zero_le _, ⟨fun x hx => by cases hx⟩, On.alloc (On.alloc (On.refl _) _) _, Loc.on (On.alloc (On.refl _) _) (loc1 _ _ _)⟩
  case round =>
    obtain ⟨k, out, hk, rfl, hO, hp, hlen, hR, hB, hL⟩ := hrel
    have hc0 := blk_cell hL.1
    have hL' := Aside0.mk hL
    clear hL
    by_cases hlt : k < vs.length
    · obtain ⟨ad, rfl, hx⟩ := (hI.on hB).at k hlt
      have hbd := hI.bd k hlt
      have hst := Aside0.mk ((nulsFrom_step out vs k hlt).symm.trans hp.out)
      clear hp
      cases hn : isNul vs[k] with
      | false =>
        have hn' := Aside0.mk hn
        clear hn
        go_wp2_with (go_at_call 146; refine (NullNumber_calls _ _ hbd.1).mono ?_; rintro e w2 ⟨rfl, hb2⟩; rw [hn'.out])
        go_roundw
        case rel => exact ⟨k + 1, out, by omega, by go_num, ⟨OInts.on hO.out hb2⟩, ⟨by have := hst.out; rwa [hn'.out, if_neg (by simp)] at this⟩, by omega, hR, hB.trans hb2, Loc.on hb2 hL'.out⟩
        case measure => simp [intOf]; omega
      | true =>
        have hn' := Aside0.mk hn
        clear hn
        have hnb := nulNum_bd vs[k]
        go_wp2_with (first | (go_at_call 146; refine (NullNumber_calls _ _ hbd.1).mono ?_; rintro e w2 ⟨rfl, hb2⟩; rw [hn'.out]) | (go_at_call 104; refine (l4Put_calls w2 w.heap.size (hB.trans hb2).size _ out (nulNum vs[k]) (OInts.on hO.out hb2) hR.out (by omega)).mono ?_; rintro e w3 ⟨v3, rfl, hO3, hb3⟩))
        go_roundw
        case rel => exact ⟨k + 1, put out (nulNum vs[k]), by omega, by go_num, ⟨hO3⟩, ⟨by have := hst.out; rwa [hn'.out, if_pos rfl] at this⟩, by have := put_length out (nulNum vs[k]); omega, ⟨put_inR hR.out (by omega) (by omega)⟩, (hB.trans hb2).trans hb3, Loc.on (hb2.trans hb3) hL'.out⟩
        case measure => simp [intOf]; omega
    · have hp' := Aside0.mk hp.out
      clear hp
      go_wp2
      go_ret
      exact ⟨_, rfl, by have := hp'.out; rw [List.drop_of_length_le (by omega)] at this; rw [← this]; exact hO.out, hB⟩
end Go.Proofs.YtgemaohdlibboaaGreatDoor.H
/- Walks: valid instances. No condition. -/
namespace Go.Proofs.YtgemaohdlibboaaGreatDoor.H
open Go Go.RowKit Go.Proofs.YtgemaohdlibboaaGreatDoorW.PrintWords Go.Proofs.YtgemaohdlibboaaGreatDoorW.PrintLast
open Go.Proofs.YtgemaohdlibboaaGreatDoor.Reg (On on_draw)
set_option maxHeartbeats 8000000
set_option maxRecDepth 100000
set_option linter.unusedVariables false
set_option linter.unusedSimpArgs false

theorem IsValidInstance_calls (w : World) (A0 c0 A1 c1) (rs : List Rel) (fs : List Fct) (h0 : Rels w A0 c0 rs) (h1 : Fcts w A1 c1 fs) :
    Calls Tryz.prog 18 #[.agg #[.slice A0 rs.length c0, .slice A1 fs.length c1]] w fun e w' => e = .returned (.bool (okInst rs fs)) ∧ On w w' := by
  have hm0 := h0.max
  have hm1 := h1.max
  go_enter Tryz.func18, Tryz.ntmps18
  go_wp2
  go_loopw [3] (fun v wr => ∃ k : Nat, k ≤ fs.length ∧ v = .int .i64 k ∧ Hid (factsFrom rs (prevFct fs k) (fs.drop k) = factsFrom rs none fs) ∧ On w wr ∧ Loc wr [(w.heap.size, #[.slice A0 rs.length c0, .slice A1 fs.length c1], 25)]) (fun v _ => fs.length - (intOf v).toNat)
  case atStart => exact ⟨0, Nat.zero_le _, rfl, rfl, On.alloc (On.refl _) _, loc1 _ _ _⟩
  case round =>
    obtain ⟨k, hk, rfl, hp, hB, hL⟩ := hrel
    have hc0 := blk_cell hL.1
    have hL' := Aside0.mk hL
    clear hL
    by_cases hlt : k < fs.length
    · obtain ⟨ad, A3, c3, rfl, hx0, hx1, hx2'⟩ := (h1.on hB).at k hlt
      have hfill := alloc_fill wr
      have hst := Aside0.mk ((factsFrom_step rs fs k hlt).symm.trans hp.out)
      have hbx := Aside0.mk (On.alloc (On.refl wr) (.cells #[.int .i64 fs[k].1, .slice A3 fs[k].2.length c3] 60))
      have hB2 := Aside0.mk (hB.trans hbx.out)
      have hcn := blk_cell (loc_new wr #[.int .i64 fs[k].1, .slice A3 fs[k].2.length c3] 60)
      have hcm := blk_cell (Loc.on hbx.out hL'.out).1
      clear hp
      cases hok0 : okFact rs fs[k] with
      | false =>
        have hok := Aside0.mk hok0
        clear hok0
        go_wp2
        refine Reg.region [(0,.L),(1,.L),(2,.L),(3,.C),(4,.L),(5,.L),(6,.L),(7,.L),(8,.L),(9,.L),(10,.L),(11,.L),(12,.L),(13,.L),(14,.L),(15,.L),(16,.C),(17,.L),(18,.L),(19,.L),(20,.L),(21,.L),(22,.L),(23,.L),(24,.L),(25,.L),(26,.L),(27,.L),(28,.L),(29,.L),(30,.N),(31,.L),(32,.L),(33,.L),(34,.L)] [] (by kernel_rfl) (by kernel_rfl) ?_
        repeat first | refine sP ?_ | refine sS ?_ | refine sA ?_ | refine sL ?_ | refine sQ ?_ | refine sO ?_
        refine callC (.bool false) Tryz.func47 (fun w' hS => ?_) ?_
        focus exact (IsValidFact_calls w' _ c0 rs _ c3 fs[k] (h0.on (hB2.out.trans hS)) (hx2'.on (hbx.out.trans hS))).mono fun e w'' h => ⟨by rw [h.1, hok.out], h.2⟩
        repeat first | refine sP ?_ | refine sS ?_ | refine sA ?_ | refine sL ?_ | refine sQ ?_ | refine sO ?_
        refine Reg.nil fun w2 hS => ?_
        go_wp2
        go_ret
        exact ⟨ret_bool (by have := hst.out; unfold okNext at this; rw [hok.out] at this; simp at this; simp [okInst, this]), hB2.out.trans hS⟩
      | true =>
        have hok := Aside0.mk hok0
        have hat := okFact_at hok0
        clear hok0
        have hat1 : fs[k].1.toNat < rs.length := by omega
        have hat2 : 0 ≤ fs[k].1 := hat.1
        have hat3 : fs[k].1 < rs.length := hat.2
        obtain ⟨ad0, rfl, _, _, hxs0⟩ := (h0.on hB2.out).at fs[k].1.toNat hat1
        have hxs : (wr.alloc (.cells #[.int .i64 fs[k].1, .slice A3 fs[k].2.length c3] 60)).cell? ⟨(ad0.add (fs[k].1.toNat * 3)).block, (ad0.add (fs[k].1.toNat * 3)).off + 2, none⟩ = some (.bool (srcOf rs fs[k].1)) := by rw [hxs0]; simp [srcOf, hat1]
        clear hxs0 hat
        by_cases hk0 : 0 < k
        · have hk0' : decide (0 < (k : Int)) = true := decide_eq_true (by omega)
          have hki : IntKind.i64.wrap ((k : Int) - 1) = ((k - 1 : Nat) : Int) := by rw [IntWalk.i64_in _ (by omega)]; omega
          have hk1 : k - 1 < fs.length := by omega
          obtain ⟨ad', A4, c4, e', hy0, hy1, hy2⟩ := (h1.on hB2.out).at (k - 1) hk1
          obtain rfl : ad = ad' := by simpa using e'
          have hpn : prevFct fs k = some fs[k - 1] := by simp [prevFct, show ¬ k = 0 by omega, show k - 1 < fs.length by omega]
          by_cases hc : cmpF fs[k - 1] fs[k] < 0
          · have hcb : decide (0 ≤ cmpF fs[k - 1] fs[k]) = false := decide_eq_false (by omega)
            have hpv := Aside0.mk (show okPrev (prevFct fs k) fs[k] = true by rw [hpn]; exact decide_eq_true hc)
            clear hc hpn
            cases hs : srcOf rs fs[k].1 with
            | false =>
              rw [hs] at hxs
              have hs' := Aside0.mk hs
              clear hs
              go_wp2
              refine Reg.region [(0,.L),(1,.L),(2,.L),(3,.C),(4,.L),(5,.L),(6,.L),(7,.L),(8,.L),(9,.L),(10,.L),(11,.L),(12,.L),(13,.L),(14,.L),(15,.L),(16,.C),(17,.L),(18,.L),(19,.L),(20,.L),(21,.L),(22,.L),(23,.L),(24,.L),(25,.L),(26,.L),(27,.L),(28,.L),(29,.L),(30,.N),(31,.L),(32,.L),(33,.L),(34,.L)] [] (by kernel_rfl) (by kernel_rfl) ?_
              repeat first | refine sP ?_ | refine sS ?_ | refine sA ?_ | refine sL ?_ | refine sQ ?_ | refine sO ?_
              refine callC (.bool true) Tryz.func47 (fun w' hS => ?_) ?_
              focus exact (IsValidFact_calls w' _ c0 rs _ c3 fs[k] (h0.on (hB2.out.trans hS)) (hx2'.on (hbx.out.trans hS))).mono fun e w'' h => ⟨by rw [h.1, hok.out], h.2⟩
              repeat first | refine sP ?_ | refine sS ?_ | refine sA ?_ | refine sL ?_ | refine sQ ?_ | refine sO ?_
              refine callC (.int .i64 (cmpF fs[k - 1] fs[k])) Tryz.func70 (fun w' hS => ?_) ?_
              focus exact CompareFacts_calls w' A4 c4 A3 c3 fs[k - 1] fs[k] (hy2.on hS) (hx2'.on (hbx.out.trans hS))
              repeat first | refine sP ?_ | refine sS ?_ | refine sA ?_ | refine sL ?_ | refine sQ ?_ | refine sO ?_
              refine Reg.nil fun w2 hS => ?_
              go_wp2
              go_roundw
              case rel => exact ⟨k + 1, by omega, by go_num, (by have := hst.out; unfold okNext at this; rw [hok.out, hpv.out, hs'.out] at this; simpa using this : _ = _), hB2.out.trans hS, Loc.on (hbx.out.trans hS) hL'.out⟩
              case measure => simp [intOf]; omega
            | true =>
              rw [hs] at hxs
              have hs' := Aside0.mk hs
              clear hs
              by_cases hz : (nuls fs[k].2).length = 0
              · have hzb : decide (0 < ((nuls fs[k].2).length : Int)) = false := decide_eq_false (by omega)
                have hzc : decide (0 < (nuls fs[k].2).length) = false := decide_eq_false (by omega)
                have hz' := Aside0.mk hz
                clear hz
                go_wp2
                refine Reg.region [(0,.L),(1,.L),(2,.L),(3,.C),(4,.L),(5,.L),(6,.L),(7,.L),(8,.L),(9,.L),(10,.L),(11,.L),(12,.L),(13,.L),(14,.L),(15,.L),(16,.C),(17,.L),(18,.L),(19,.L),(20,.L),(21,.L),(22,.L),(23,.L),(24,.L),(25,.L),(26,.L),(27,.L),(28,.L),(29,.L),(30,.N),(31,.L),(32,.L),(33,.L),(34,.L)] [] (by kernel_rfl) (by kernel_rfl) ?_
                repeat first | refine sP ?_ | refine sS ?_ | refine sA ?_ | refine sL ?_ | refine sQ ?_ | refine sO ?_
                refine callC (.bool true) Tryz.func47 (fun w' hS => ?_) ?_
                focus exact (IsValidFact_calls w' _ c0 rs _ c3 fs[k] (h0.on (hB2.out.trans hS)) (hx2'.on (hbx.out.trans hS))).mono fun e w'' h => ⟨by rw [h.1, hok.out], h.2⟩
                repeat first | refine sP ?_ | refine sS ?_ | refine sA ?_ | refine sL ?_ | refine sQ ?_ | refine sO ?_
                refine callC (.int .i64 (cmpF fs[k - 1] fs[k])) Tryz.func70 (fun w' hS => ?_) ?_
                focus exact CompareFacts_calls w' A4 c4 A3 c3 fs[k - 1] fs[k] (hy2.on hS) (hx2'.on (hbx.out.trans hS))
                repeat first | refine sP ?_ | refine sS ?_ | refine sA ?_ | refine sL ?_ | refine sQ ?_ | refine sO ?_
                refine callN Tryz.func71 (fun w' hS => ?_)
                focus
                  refine (NullsOfFact_calls w' A3 c3 fs[k].1 fs[k].2 (hx2'.on (hbx.out.trans hS)) (Nat.le_trans (okFact_len hok.out) (by omega))).mono ?_
                  rintro e w2 ⟨v, rfl, hO, hb⟩
                  refine ⟨v, rfl, hb, fun a' ha => ?_⟩
                  simp only [Act.put, List.setIfInBounds_toArray, List.set_cons_zero, List.set_cons_succ] at ha
                  subst ha
                  obtain ⟨A5, c5, rfl⟩ := Kd.R_slice hO
                  have hS2 := Aside0.mk (hS.trans hb)
                  clear hO hb hS
                repeat first | refine sP ?_ | refine sS ?_ | refine sA ?_ | refine sL ?_ | refine sQ ?_ | refine sO ?_
                refine Reg.nil fun w3 hS3 => ?_
                go_wp2
                exact ⟨⟨k + 1, by omega, by go_num, (by have := hst.out; unfold okNext at this; rw [hok.out, hpv.out, hs'.out, hz'.out] at this; simpa using this : _ = _), (hB2.out.trans hS2.out).trans hS3, Loc.on ((hbx.out.trans hS2.out).trans hS3) hL'.out⟩, by simp [intOf]; omega⟩
              · have hzb : decide (0 < ((nuls fs[k].2).length : Int)) = true := decide_eq_true (by omega)
                have hzc : decide (0 < (nuls fs[k].2).length) = true := decide_eq_true (by omega)
                have hz' := Aside0.mk (decide_eq_false hz)
                clear hz
                go_wp2
                refine Reg.region [(0,.L),(1,.L),(2,.L),(3,.C),(4,.L),(5,.L),(6,.L),(7,.L),(8,.L),(9,.L),(10,.L),(11,.L),(12,.L),(13,.L),(14,.L),(15,.L),(16,.C),(17,.L),(18,.L),(19,.L),(20,.L),(21,.L),(22,.L),(23,.L),(24,.L),(25,.L),(26,.L),(27,.L),(28,.L),(29,.L),(30,.N),(31,.L),(32,.L),(33,.L),(34,.L)] [] (by kernel_rfl) (by kernel_rfl) ?_
                repeat first | refine sP ?_ | refine sS ?_ | refine sA ?_ | refine sL ?_ | refine sQ ?_ | refine sO ?_
                refine callC (.bool true) Tryz.func47 (fun w' hS => ?_) ?_
                focus exact (IsValidFact_calls w' _ c0 rs _ c3 fs[k] (h0.on (hB2.out.trans hS)) (hx2'.on (hbx.out.trans hS))).mono fun e w'' h => ⟨by rw [h.1, hok.out], h.2⟩
                repeat first | refine sP ?_ | refine sS ?_ | refine sA ?_ | refine sL ?_ | refine sQ ?_ | refine sO ?_
                refine callC (.int .i64 (cmpF fs[k - 1] fs[k])) Tryz.func70 (fun w' hS => ?_) ?_
                focus exact CompareFacts_calls w' A4 c4 A3 c3 fs[k - 1] fs[k] (hy2.on hS) (hx2'.on (hbx.out.trans hS))
                repeat first | refine sP ?_ | refine sS ?_ | refine sA ?_ | refine sL ?_ | refine sQ ?_ | refine sO ?_
                refine callN Tryz.func71 (fun w' hS => ?_)
                focus
                  refine (NullsOfFact_calls w' A3 c3 fs[k].1 fs[k].2 (hx2'.on (hbx.out.trans hS)) (Nat.le_trans (okFact_len hok.out) (by omega))).mono ?_
                  rintro e w2 ⟨v, rfl, hO, hb⟩
                  refine ⟨v, rfl, hb, fun a' ha => ?_⟩
                  simp only [Act.put, List.setIfInBounds_toArray, List.set_cons_zero, List.set_cons_succ] at ha
                  subst ha
                  obtain ⟨A5, c5, rfl⟩ := Kd.R_slice hO
                  have hS2 := Aside0.mk (hS.trans hb)
                  clear hO hb hS
                repeat first | refine sP ?_ | refine sS ?_ | refine sA ?_ | refine sL ?_ | refine sQ ?_ | refine sO ?_
                refine Reg.nil fun w3 hS3 => ?_
                go_wp2
                go_ret
                exact ⟨ret_bool (by have := hst.out; unfold okNext at this; rw [hok.out, hpv.out, hs'.out, hz'.out] at this; simp at this; simp [okInst, this]), (hB2.out.trans hS2.out).trans hS3⟩
          · have hcb : decide (0 ≤ cmpF fs[k - 1] fs[k]) = true := decide_eq_true (by omega)
            have hpv := Aside0.mk (show okPrev (prevFct fs k) fs[k] = false by rw [hpn]; exact decide_eq_false hc)
            clear hc hpn
            go_wp2
            refine Reg.region [(0,.L),(1,.L),(2,.L),(3,.C),(4,.L),(5,.L),(6,.L),(7,.L),(8,.L),(9,.L),(10,.L),(11,.L),(12,.L),(13,.L),(14,.L),(15,.L),(16,.C),(17,.L),(18,.L),(19,.L),(20,.L),(21,.L),(22,.L),(23,.L),(24,.L),(25,.L),(26,.L),(27,.L),(28,.L),(29,.L),(30,.N),(31,.L),(32,.L),(33,.L),(34,.L)] [] (by kernel_rfl) (by kernel_rfl) ?_
            repeat first | refine sP ?_ | refine sS ?_ | refine sA ?_ | refine sL ?_ | refine sQ ?_ | refine sO ?_
            refine callC (.bool true) Tryz.func47 (fun w' hS => ?_) ?_
            focus exact (IsValidFact_calls w' _ c0 rs _ c3 fs[k] (h0.on (hB2.out.trans hS)) (hx2'.on (hbx.out.trans hS))).mono fun e w'' h => ⟨by rw [h.1, hok.out], h.2⟩
            repeat first | refine sP ?_ | refine sS ?_ | refine sA ?_ | refine sL ?_ | refine sQ ?_ | refine sO ?_
            refine callC (.int .i64 (cmpF fs[k - 1] fs[k])) Tryz.func70 (fun w' hS => ?_) ?_
            focus exact CompareFacts_calls w' A4 c4 A3 c3 fs[k - 1] fs[k] (hy2.on hS) (hx2'.on (hbx.out.trans hS))
            repeat first | refine sP ?_ | refine sS ?_ | refine sA ?_ | refine sL ?_ | refine sQ ?_ | refine sO ?_
            refine Reg.nil fun w2 hS => ?_
            go_wp2
            go_ret
            exact ⟨ret_bool (by have := hst.out; unfold okNext at this; rw [hok.out, hpv.out] at this; simp at this; simp [okInst, this]), hB2.out.trans hS⟩
        · have hk0' : decide (0 < (k : Int)) = false := decide_eq_false (by omega)
          have hpv := Aside0.mk (show okPrev (prevFct fs k) fs[k] = true by simp [okPrev, prevFct, show k = 0 by omega])
          cases hs : srcOf rs fs[k].1 with
          | false =>
            rw [hs] at hxs
            have hs' := Aside0.mk hs
            clear hs
            go_wp2
            refine Reg.region [(0,.L),(1,.L),(2,.L),(3,.C),(4,.L),(5,.L),(6,.L),(7,.L),(8,.L),(9,.L),(10,.L),(11,.L),(12,.L),(13,.L),(14,.L),(15,.L),(16,.C),(17,.L),(18,.L),(19,.L),(20,.L),(21,.L),(22,.L),(23,.L),(24,.L),(25,.L),(26,.L),(27,.L),(28,.L),(29,.L),(30,.N),(31,.L),(32,.L),(33,.L),(34,.L)] [] (by kernel_rfl) (by kernel_rfl) ?_
            repeat first | refine sP ?_ | refine sS ?_ | refine sA ?_ | refine sL ?_ | refine sQ ?_ | refine sO ?_
            refine callC (.bool true) Tryz.func47 (fun w' hS => ?_) ?_
            focus exact (IsValidFact_calls w' _ c0 rs _ c3 fs[k] (h0.on (hB2.out.trans hS)) (hx2'.on (hbx.out.trans hS))).mono fun e w'' h => ⟨by rw [h.1, hok.out], h.2⟩
            repeat first | refine sP ?_ | refine sS ?_ | refine sA ?_ | refine sL ?_ | refine sQ ?_ | refine sO ?_
            refine Reg.nil fun w2 hS => ?_
            go_wp2
            go_roundw
            case rel => exact ⟨k + 1, by omega, by go_num, (by have := hst.out; unfold okNext at this; rw [hok.out, hpv.out, hs'.out] at this; simpa using this : _ = _), hB2.out.trans hS, Loc.on (hbx.out.trans hS) hL'.out⟩
            case measure => simp [intOf]; omega
          | true =>
            rw [hs] at hxs
            have hs' := Aside0.mk hs
            clear hs
            by_cases hz : (nuls fs[k].2).length = 0
            · have hzb : decide (0 < ((nuls fs[k].2).length : Int)) = false := decide_eq_false (by omega)
              have hzc : decide (0 < (nuls fs[k].2).length) = false := decide_eq_false (by omega)
              have hz' := Aside0.mk hz
              clear hz
              go_wp2
              refine Reg.region [(0,.L),(1,.L),(2,.L),(3,.C),(4,.L),(5,.L),(6,.L),(7,.L),(8,.L),(9,.L),(10,.L),(11,.L),(12,.L),(13,.L),(14,.L),(15,.L),(16,.C),(17,.L),(18,.L),(19,.L),(20,.L),(21,.L),(22,.L),(23,.L),(24,.L),(25,.L),(26,.L),(27,.L),(28,.L),(29,.L),(30,.N),(31,.L),(32,.L),(33,.L),(34,.L)] [] (by kernel_rfl) (by kernel_rfl) ?_
              repeat first | refine sP ?_ | refine sS ?_ | refine sA ?_ | refine sL ?_ | refine sQ ?_ | refine sO ?_
              refine callC (.bool true) Tryz.func47 (fun w' hS => ?_) ?_
              focus exact (IsValidFact_calls w' _ c0 rs _ c3 fs[k] (h0.on (hB2.out.trans hS)) (hx2'.on (hbx.out.trans hS))).mono fun e w'' h => ⟨by rw [h.1, hok.out], h.2⟩
              repeat first | refine sP ?_ | refine sS ?_ | refine sA ?_ | refine sL ?_ | refine sQ ?_ | refine sO ?_
              refine callN Tryz.func71 (fun w' hS => ?_)
              focus
                refine (NullsOfFact_calls w' A3 c3 fs[k].1 fs[k].2 (hx2'.on (hbx.out.trans hS)) (Nat.le_trans (okFact_len hok.out) (by omega))).mono ?_
                rintro e w2 ⟨v, rfl, hO, hb⟩
                refine ⟨v, rfl, hb, fun a' ha => ?_⟩
                simp only [Act.put, List.setIfInBounds_toArray, List.set_cons_zero, List.set_cons_succ] at ha
                subst ha
                obtain ⟨A5, c5, rfl⟩ := Kd.R_slice hO
                have hS2 := Aside0.mk (hS.trans hb)
                clear hO hb hS
              repeat first | refine sP ?_ | refine sS ?_ | refine sA ?_ | refine sL ?_ | refine sQ ?_ | refine sO ?_
              refine Reg.nil fun w3 hS3 => ?_
              go_wp2
              exact ⟨⟨k + 1, by omega, by go_num, (by have := hst.out; unfold okNext at this; rw [hok.out, hpv.out, hs'.out, hz'.out] at this; simpa using this : _ = _), (hB2.out.trans hS2.out).trans hS3, Loc.on ((hbx.out.trans hS2.out).trans hS3) hL'.out⟩, by simp [intOf]; omega⟩
            · have hzb : decide (0 < ((nuls fs[k].2).length : Int)) = true := decide_eq_true (by omega)
              have hzc : decide (0 < (nuls fs[k].2).length) = true := decide_eq_true (by omega)
              have hz' := Aside0.mk (decide_eq_false hz)
              clear hz
              go_wp2
              refine Reg.region [(0,.L),(1,.L),(2,.L),(3,.C),(4,.L),(5,.L),(6,.L),(7,.L),(8,.L),(9,.L),(10,.L),(11,.L),(12,.L),(13,.L),(14,.L),(15,.L),(16,.C),(17,.L),(18,.L),(19,.L),(20,.L),(21,.L),(22,.L),(23,.L),(24,.L),(25,.L),(26,.L),(27,.L),(28,.L),(29,.L),(30,.N),(31,.L),(32,.L),(33,.L),(34,.L)] [] (by kernel_rfl) (by kernel_rfl) ?_
              repeat first | refine sP ?_ | refine sS ?_ | refine sA ?_ | refine sL ?_ | refine sQ ?_ | refine sO ?_
              refine callC (.bool true) Tryz.func47 (fun w' hS => ?_) ?_
              focus exact (IsValidFact_calls w' _ c0 rs _ c3 fs[k] (h0.on (hB2.out.trans hS)) (hx2'.on (hbx.out.trans hS))).mono fun e w'' h => ⟨by rw [h.1, hok.out], h.2⟩
              repeat first | refine sP ?_ | refine sS ?_ | refine sA ?_ | refine sL ?_ | refine sQ ?_ | refine sO ?_
              refine callN Tryz.func71 (fun w' hS => ?_)
              focus
                refine (NullsOfFact_calls w' A3 c3 fs[k].1 fs[k].2 (hx2'.on (hbx.out.trans hS)) (Nat.le_trans (okFact_len hok.out) (by omega))).mono ?_
                rintro e w2 ⟨v, rfl, hO, hb⟩
                refine ⟨v, rfl, hb, fun a' ha => ?_⟩
                simp only [Act.put, List.setIfInBounds_toArray, List.set_cons_zero, List.set_cons_succ] at ha
                subst ha
                obtain ⟨A5, c5, rfl⟩ := Kd.R_slice hO
                have hS2 := Aside0.mk (hS.trans hb)
                clear hO hb hS
              repeat first | refine sP ?_ | refine sS ?_ | refine sA ?_ | refine sL ?_ | refine sQ ?_ | refine sO ?_
              refine Reg.nil fun w3 hS3 => ?_
              go_wp2
              go_ret
              exact ⟨ret_bool (by have := hst.out; unfold okNext at this; rw [hok.out, hpv.out, hs'.out, hz'.out] at this; simp at this; simp [okInst, this]), (hB2.out.trans hS2.out).trans hS3⟩
    · have hfl : factsFrom rs none fs = true := by rw [← hp.out, List.drop_of_length_le (by omega)]; cases prevFct fs k <;> rfl
      have hfl' := Aside0.mk hfl
      clear hp hfl
      cases hr : okRels rs with
      | false =>
        have hr' := Aside0.mk hr
        clear hr
        go_wp2_with (go_at_call 41; refine (AreValidRelations_calls wr A0 c0 rs (h0.on hB)).mono ?_; rintro e w3 ⟨rfl, hb3⟩; rw [hr'.out]; have hc3 := blk_cell (Loc.on hb3 hL'.out).1)
        go_ret
        exact ⟨ret_bool (by simp [okInst, hfl'.out, hr'.out]), hB.trans hb3⟩
      | true =>
        have hr' := Aside0.mk hr
        clear hr
        by_cases h30 : (fs.length : Int) ≤ 30
        · have h30b : decide ((fs.length : Int) ≤ 30) = true := decide_eq_true h30
          have h30c : decide (fs.length ≤ 30) = true := decide_eq_true (by omega)
          go_wp2_with (go_at_call 41; refine (AreValidRelations_calls wr A0 c0 rs (h0.on hB)).mono ?_; rintro e w3 ⟨rfl, hb3⟩; rw [hr'.out]; have hc3 := blk_cell (Loc.on hb3 hL'.out).1)
          go_ret
          exact ⟨ret_bool (by simp [okInst, hfl'.out, hr'.out]; omega), hB.trans hb3⟩
        · have h30b : decide ((fs.length : Int) ≤ 30) = false := decide_eq_false h30
          have h30c : decide (fs.length ≤ 30) = false := decide_eq_false (by omega)
          go_wp2_with (go_at_call 41; refine (AreValidRelations_calls wr A0 c0 rs (h0.on hB)).mono ?_; rintro e w3 ⟨rfl, hb3⟩; rw [hr'.out]; have hc3 := blk_cell (Loc.on hb3 hL'.out).1)
          go_ret
          exact ⟨ret_bool (by simp [okInst, hfl'.out, hr'.out]; omega), hB.trans hb3⟩
end Go.Proofs.YtgemaohdlibboaaGreatDoor.H
/- Walks: nulls of instances. No condition. -/
namespace Go.Proofs.YtgemaohdlibboaaGreatDoor.H
open Go Go.RowKit Go.Proofs.YtgemaohdlibboaaGreatDoorW.PrintWords Go.Proofs.YtgemaohdlibboaaGreatDoorW.PrintLast
open Go.Proofs.YtgemaohdlibboaaGreatDoor.Reg (On on_draw)
set_option maxHeartbeats 1000000
set_option maxRecDepth 100000
set_option linter.unusedVariables false
set_option linter.unusedSimpArgs false

theorem nulsFrom_ok (out vs : List Int) (h : ∀ x ∈ out, 0 ≤ x ∧ x ≤ 39) : (∀ x ∈ nulsFrom out vs, 0 ≤ x ∧ x ≤ 39) ∧ (nulsFrom out vs).length ≤ out.length + vs.length := by
  induction vs generalizing out with
  | nil => exact ⟨h, by simp [nulsFrom]⟩
  | cons v vs ih =>
    unfold nulsFrom
    split
    · have h2 := ih (put out (nulNum v)) (fun x hx => by
        rcases put_mem hx with hx | rfl
        · exact h x hx
        · exact nulNum_bd v)
      have := put_length out (nulNum v)
      exact ⟨h2.1, by simp only [List.length_cons]; omega⟩
    · have h2 := ih out h
      exact ⟨h2.1, by simp only [List.length_cons]; omega⟩
theorem nuls_ok (vs : List Int) : (∀ x ∈ nuls vs, 0 ≤ x ∧ x ≤ 39) ∧ (nuls vs).length ≤ vs.length := by
  have := nulsFrom_ok [] vs (fun x hx => by cases hx)
  exact ⟨this.1, Nat.le_trans this.2 (by simp)⟩
end Go.Proofs.YtgemaohdlibboaaGreatDoor.H
/- Walks: the reference's place of a fact, copies. No condition. -/
namespace Go.Proofs.YtgemaohdlibboaaGreatDoor.H
open Go Go.RowKit Go.Proofs.YtgemaohdlibboaaGreatDoorW.PrintWords Go.Proofs.YtgemaohdlibboaaGreatDoorW.PrintLast
open Go.Proofs.YtgemaohdlibboaaGreatDoor.Reg (On on_draw)
set_option maxHeartbeats 1000000
set_option maxRecDepth 100000
set_option linter.unusedVariables false
set_option linter.unusedSimpArgs false

section
variable {fn : Func} {p u : Tmp} {tmps : Array Value} {w : World} {g : Nat} {t : TypeId} {cs : Array Value} {fr : Nat × Nat}
theorem retIB (h : fn.results = #[.cell p 25, .tmp u]) (hp : tmps.getD p undef = .pointer (some ⟨g, 0, none⟩)) (hg : w.heap[g]? = some (.cells cs t fr)) (hs : cs.size = 2) : (results fn tmps).run Tryz.prog w = .ok (.tuple #[.agg cs, tmps.getD u undef]) w :=
  results_ct h tmps w g t cs fr _ hp hg Tryz.underlying25 rfl (by rw [hs]; kernel_rfl)
end
/-- A step that makes memory at most and hands back one value, nothing else coming up. -/
theorem stepM {P : Program} {ops : Array Oper} {Q : Exit → Act → World → Prop} {i : Nat} {tail : List Nat} {l : List (Nat × Reg.K)} {a : Act} {W : World} {o : Oper}
    (h : ∀ w, On W w → wpList P ops (Exit.then (fun a' w' => On W w' ∧ Reg.Ord P ops Q tail l a' w') Q) [o] a w) (hi : ops[i]? = some o := by rfl)
    (hw : Region.wanted o (yielded ops a.tmps) = true := by rfl) : Reg.Ord P ops Q tail ((i, .N) :: l) a W := Reg.stepN h hi hw
theorem blk_ex {S : Nat → Prop} {W w : World} {g : Nat} {o : Obj} (h : Ex S W w) (hg : W.heap[g]? = some o) (hn : ¬ S g) : w.heap[g]? = some o := (h.block g (blk_lt hg) hn).trans hg
theorem Fcts.ex {S : Nat → Prop} {w0 W w : World} {A : Option Addr} {c : Nat} {fs : List Fct} (h : Fcts w0 A c fs) (hb : On w0 W) (hE : Ex S W w) (hS : ∀ i, S i → w0.heap.size ≤ i) : Fcts w A c fs := h.on (Ex.on hb hE hS)
/-- The row of copies, one more. -/
theorem copy_more {lo : Nat} {hs : List Hdr} {fs : List Fct} {A' A2 : Option Addr} {c' c2 : Nat} {r : Int} {vs : List Int} {wr w2 w5 w6 : World} (hS : Sep wr lo hs fs) (hlo : lo ≤ wr.heap.size) (hO : OH wr lo (.slice A' hs.length c') hs) (h2 : OI w2 wr.heap.size (.slice A2 vs.length c2) vs) (hR : InR vs) (hb : On wr w2) (hb5 : On w2 w5)
    (hg : w5.grownBy w6 (Value.ownBlock (.slice A' hs.length c'))) : Sep w6 lo (hs ++ [(r, A2, vs.length, c2)]) (fs ++ [(r, vs)]) := by
  have h5 := Sep.snoc (a := (r, A2, vs.length, c2)) (f := (r, vs)) hS (hb.trans hb5) hlo rfl (pw_own_below h2 hb5) hR
  refine Sep.ex h5 (Ex.of_grown hg) (fun i a b ha hbk e => ?_)
  have hlt := own_lt hO b e.symm
  have hab := (h5.at_ i a _ ha (List.getElem?_eq_getElem (by rw [← h5.len]; exact (List.getElem?_eq_some_iff.1 ha).1))).2.1
  have := own_ne_blk hab (pw_own_below hO (hb.trans hb5)) (by decide) hbk
  exact this e.symm
end Go.Proofs.YtgemaohdlibboaaGreatDoor.H
/- Walks: the reference takes a fact out; restricts. No condition. -/
namespace Go.Proofs.YtgemaohdlibboaaGreatDoor.H
open Go Go.RowKit Go.Proofs.YtgemaohdlibboaaGreatDoorW.PrintWords Go.Proofs.YtgemaohdlibboaaGreatDoorW.PrintLast
open Go.Proofs.YtgemaohdlibboaaGreatDoor.Reg (On on_draw)
set_option maxHeartbeats 1000000
set_option maxRecDepth 100000
set_option linter.unusedVariables false
set_option linter.unusedSimpArgs false

/-- An instance that is read. -/
structure RIn (w : World) (v : Value) (rs : List Rel) (fs : List Fct) : Prop where mk :: (out : ∃ A0 c0 A1 c1, v = .agg #[.slice A0 rs.length c0, .slice A1 fs.length c1] ∧ Rels w A0 c0 rs ∧ Fcts w A1 c1 fs)
theorem RIn.on {W w : World} {v : Value} {rs : List Rel} {fs : List Fct} (h : RIn W v rs fs) (hb : On W w) : RIn w v rs fs := by
  obtain ⟨A0, c0, A1, c1, e, h0, h1⟩ := h.out
  exact ⟨A0, c0, A1, c1, e, h0.on hb, h1.on hb⟩
theorem OIn.read {w : World} {lo : Nat} {v : Value} {rs : List Rel} {fs : List Fct} (h : OIn w lo v rs fs) : RIn w v rs fs := by
  obtain ⟨vr, vf, hs, rfl, hR, hH, hS⟩ := h.out
  obtain ⟨A0, c0, rfl, h0⟩ := OR.rd hR
  obtain ⟨A1, c1, rfl, h1⟩ := OH.rd hH hS.reads
  exact ⟨A0, c0, A1, c1, rfl, h0, h1⟩
theorem RH.take {w : World} {A : Option Addr} {c : Nat} {hs : List Hdr} (h : RH w A c hs) (k : Nat) (hk : k ≤ hs.length) : RH w A c (hs.take k) := by
  have hl : (hs.take k).length = k := by rw [List.length_take]; omega
  refine ⟨by rw [hl]; have := h.cap; omega, by rw [hl]; have := h.max; omega, fun j u hu => h.cell j u ?_⟩
  have e : hs.flatMap encH = (hs.take k).flatMap encH ++ (hs.drop k).flatMap encH := by rw [← List.flatMap_append, List.take_append_drop]
  rw [e, List.getElem?_append_left (List.getElem?_eq_some_iff.1 hu).1]; exact hu
theorem RH.drop {w : World} {A : Option Addr} {c : Nat} {hs : List Hdr} (h : RH w A c hs) (k : Nat) (hk : k ≤ hs.length) : RH w (if c = k then A else A.map (·.add (k * 2))) (c - k) (hs.drop k) := by
  have hl : (hs.drop k).length = hs.length - k := List.length_drop
  have hcap := h.cap
  have e : hs.flatMap encH = (hs.take k).flatMap encH ++ (hs.drop k).flatMap encH := by rw [← List.flatMap_append, List.take_append_drop]
  have hl2 : ((hs.take k).flatMap encH).length = k * 2 := by rw [flat_len (enc := encH) (sz := 2) (fun _ => rfl), List.length_take]; congr 1; omega
  refine ⟨by rw [hl]; omega, by rw [hl]; have := h.max; omega, fun j u hu => ?_⟩
  obtain ⟨ad, e2, hc⟩ := h.cell (k * 2 + j) u (by rw [e, List.getElem?_append_right (by omega), hl2, show k * 2 + j - k * 2 = j by omega]; exact hu)
  subst e2
  have hlt : 0 < (hs.drop k).length := by
    have := (List.getElem?_eq_some_iff.1 hu).1
    rw [flat_len (enc := encH) (sz := 2) (fun _ => rfl)] at this
    omega
  rw [if_neg (by omega)]
  exact ⟨_, rfl, by rw [Addr.add_add]; exact hc⟩
section
variable {ops : Array Oper} {Q : Exit → Act → World → Prop} {i : Nat} {tail : List Nat} {l : List (Nat × Reg.K)} {a : Act} {W : World} {o : Oper} {N : Tmp}
end
theorem okInst_len {rs : List Rel} {fs : List Fct} (h : okInst rs fs = true) : rs.length ≤ 6 ∧ fs.length ≤ 30 := by
  simp only [okInst, okRels, Bool.and_eq_true, decide_eq_true_eq] at h; exact ⟨h.2.1.2, h.2.2⟩
theorem factsFrom_mem {rs : List Rel} : ∀ {p : Option Fct} {fs : List Fct}, factsFrom rs p fs = true → ∀ f ∈ fs, okFact rs f = true
  | _, [], _, f, hf => by cases hf
  | p, g :: fs, h, f, hf => by
    simp only [factsFrom, okNext, Bool.and_eq_true] at h
    rcases List.mem_cons.1 hf with rfl | hf
    · exact h.1.1.1
    · exact factsFrom_mem h.2 f hf
theorem okInst_mem {rs : List Rel} {fs : List Fct} (h : okInst rs fs = true) : ∀ f ∈ fs, okFact rs f = true := by
  simp only [okInst, Bool.and_eq_true] at h; exact factsFrom_mem h.1
end Go.Proofs.YtgemaohdlibboaaGreatDoor.H
/- Walks: the program's own search for facts. No condition. -/
namespace Go.Proofs.YtgemaohdlibboaaGreatDoor.H
open Go Go.RowKit Go.Proofs.YtgemaohdlibboaaGreatDoorW.PrintWords Go.Proofs.YtgemaohdlibboaaGreatDoorW.PrintLast
open Go.Proofs.YtgemaohdlibboaaGreatDoor.Reg (On on_draw)
set_option maxHeartbeats 1000000
set_option maxRecDepth 100000
set_option linter.unusedVariables false
set_option linter.unusedSimpArgs false

/-- A call of a closure. -/
theorem goesC {ops : Array Oper} {rest : List Oper} {o : Oper} {a : Act} {Q : Exit → Act → World → Prop} {w : World} (N : Tmp) {x : Operand} {f : FuncId} {fn : Func} {xs : Array Operand} {ts : Array TypeId} {caps args : Array Value} (hf : Tryz.prog.funcs[f]? = some fn) (hname : (fn.name == "runtime.NumGoroutine") = false) (hb : fn.body.isSome = true)
    (h : Calls Tryz.prog f args w fun e w' => ∃ v, e = .returned v ∧ wpList Tryz.prog ops Q rest (a.put (some N) v) w')
    (hop : o.op = .call { callee := .value x, args := xs, argTypes := ts } := by rfl) (hx : a.eval x = .func (.func f) #[] caps := by rfl) (hargs : xs.map a.eval ++ caps = args := by (try simp only [List.map_toArray, List.map_cons, List.map_nil]); rfl)
    (hd : o.dst = some N := by rfl) (hg : o.guard = none := by rfl) : wpList Tryz.prog ops Q (o :: rest) a w := by
  refine wpList_plain hg fun K hK => ?_
  have he := enters_ hf hname hb args w
  have hrun : (execOp a.eval o).run Tryz.prog w = .ok (.enter f args) w := by
    unfold execOp
    simp [hop, resolve, Deferred.ofValue, invoke, hx, hargs, he]
  unfold Oper.wp
  rw [hrun, Oper.upon_enter]
  refine h.mono fun e w'' hh => ?_
  obtain ⟨v, rfl, hk⟩ := hh
  rw [← hd] at hk
  exact hK _ _ hk
end Go.Proofs.YtgemaohdlibboaaGreatDoor.H
/- Sorted, each once: plain. No condition. -/
namespace Go.Proofs.YtgemaohdlibboaaGreatDoor.H
open Go Go.RowKit Go.Proofs.YtgemaohdlibboaaGreatDoorW.PrintWords Go.Proofs.YtgemaohdlibboaaGreatDoorW.PrintLast
open Go.Proofs.YtgemaohdlibboaaGreatDoor.Reg (On on_draw)
set_option maxHeartbeats 1000000
set_option linter.unusedVariables false
set_option linter.unusedSimpArgs false

theorem mem_put (x z : Int) : ∀ l : List Int, z ∈ put l x ↔ z = x ∨ z ∈ l
  | [] => by simp [put]
  | y :: l => by
    unfold put
    by_cases c : y < x
    · rw [if_pos c, List.mem_cons, List.mem_cons, mem_put x z l]
      constructor <;> rintro (h | h | h) <;> simp [h]
    · rw [if_neg c]
      by_cases c2 : y = x
      · rw [if_pos c2]; subst c2; simp
      · rw [if_neg c2]; simp
theorem put_up (x : Int) : ∀ l : List Int, l.Pairwise (· < ·) → (put l x).Pairwise (· < ·)
  | [], _ => by simp [put]
  | y :: l, h => by
    rw [List.pairwise_cons] at h
    unfold put
    by_cases c : y < x
    · rw [if_pos c, List.pairwise_cons]
      refine ⟨fun z hz => ?_, put_up x l h.2⟩
      rcases (mem_put x z l).1 hz with rfl | hz
      · exact c
      · exact h.1 z hz
    · rw [if_neg c]
      by_cases c2 : y = x
      · rw [if_pos c2, List.pairwise_cons]; exact h
      · rw [if_neg c2, List.pairwise_cons, List.pairwise_cons]
        refine ⟨fun z hz => ?_, h⟩
        rcases List.mem_cons.1 hz with rfl | hz
        · omega
        · have := h.1 z hz; omega
/-- Two ascending lists with the same elements are one. -/
theorem up_ext : ∀ a b : List Int, a.Pairwise (· < ·) → b.Pairwise (· < ·) → (∀ x, x ∈ a ↔ x ∈ b) → a = b
  | [], [], _, _, _ => rfl
  | [], y :: b, _, _, h => absurd ((h y).2 (by simp)) (by simp)
  | x :: a, [], _, _, h => absurd ((h x).1 (by simp)) (by simp)
  | x :: a, y :: b, ha, hb, h => by
    rw [List.pairwise_cons] at ha hb
    have e : x = y := by
      rcases List.mem_cons.1 ((h x).1 (by simp)) with e | hx
      · exact e
      · rcases List.mem_cons.1 ((h y).2 (by simp)) with e | hy
        · exact e.symm
        · have h1 := hb.1 x hx
          have h2 := ha.1 y hy
          omega
    subst e
    rw [up_ext a b ha.2 hb.2 (fun z => ?_)]
    constructor
    · intro hz
      rcases List.mem_cons.1 ((h z).1 (List.mem_cons_of_mem _ hz)) with e | hz'
      · have := ha.1 z hz; omega
      · exact hz'
    · intro hz
      rcases List.mem_cons.1 ((h z).2 (List.mem_cons_of_mem _ hz)) with e | hz'
      · have := hb.1 z hz; omega
      · exact hz'
/-- An array in order, of which neighbours that are equal go: ascending, each once. -/
theorem compactUpTo_up (d : Array Int) (hs : ∀ i j, i < j → j < d.size → d[i]! ≤ d[j]!) : ∀ m, m ≤ d.size → (Go.Lib.compactUpTo d m).Pairwise (· < ·) ∧ (∀ x, x ∈ Go.Lib.compactUpTo d m ↔ ∃ j, j < m ∧ d[j]! = x) := by
  intro m
  induction m with
  | zero => intro _; simp [Go.Lib.compactUpTo]
  | succ m ih =>
    intro hm
    obtain ⟨h1, h2⟩ := ih (by omega)
    rw [Go.Lib.compactUpTo_succ]
    by_cases c : Go.Lib.keeps d m = true
    · rw [if_pos c]
      have hk : m = 0 ∨ d[m]! ≠ d[m - 1]! := by simpa [Go.Lib.keeps] using c
      refine ⟨?_, fun x => ?_⟩
      · rw [List.pairwise_append]
        refine ⟨h1, by simp, fun x hx y hy => ?_⟩
        obtain rfl : y = d[m]! := by simpa using hy
        obtain ⟨j, hj, rfl⟩ := (h2 x).1 hx
        rcases hk with hk | hk
        · omega
        · have a1 : d[m - 1]! ≤ d[m]! := hs (m - 1) m (by omega) (by omega)
          have a2 : d[j]! ≤ d[m - 1]! := by
            by_cases e : j = m - 1
            · rw [e]; exact Int.le_refl _
            · exact hs j (m - 1) (by omega) (by omega)
          omega
      · rw [List.mem_append, h2]
        constructor
        · rintro (⟨j, hj, e⟩ | h)
          · exact ⟨j, by omega, e⟩
          · exact ⟨m, by omega, (List.mem_singleton.1 h).symm⟩
        · rintro ⟨j, hj, e⟩
          by_cases c2 : j = m
          · subst c2; exact .inr (by simp [e])
          · exact .inl ⟨j, by omega, e⟩
    · rw [if_neg c, List.append_nil]
      refine ⟨h1, fun x => ?_⟩
      have hk : ¬ (m = 0 ∨ d[m]! ≠ d[m - 1]!) := by simpa [Go.Lib.keeps] using c
      have hm0 : m ≠ 0 := fun e => hk (.inl e)
      have he : d[m]! = d[m - 1]! := by
        by_cases e : d[m]! = d[m - 1]!
        · exact e
        · exact absurd (.inr e) hk
      rw [h2]
      constructor
      · rintro ⟨j, hj, e⟩; exact ⟨j, by omega, e⟩
      · rintro ⟨j, hj, e⟩
        by_cases c2 : j = m
        · subst c2; exact ⟨j - 1, by omega, by rw [← he]; exact e⟩
        · exact ⟨j, by omega, e⟩
/-- Sorted, then made sparse: what the two library calls come to. -/
def sortU (l : List Int) : List Int := Go.Lib.compact (l.mergeSort fun x y => decide (x ≤ y))
theorem sortU_up (l : List Int) : (sortU l).Pairwise (· < ·) ∧ ∀ x, x ∈ sortU l ↔ x ∈ l := by
  have hp := List.mergeSort_perm l (fun x y : Int => decide (x ≤ y))
  have ho : (l.mergeSort fun x y : Int => decide (x ≤ y)).Pairwise (fun x y => decide (x ≤ y) = true) := List.pairwise_mergeSort (fun a b c h1 h2 => by simp at *; omega) (fun a b => by simp; omega) l
  unfold sortU
  generalize hs : (l.mergeSort fun x y : Int => decide (x ≤ y)) = s at hp ho
  have hg : ∀ j, (h : j < s.length) → (s.toArray)[j]! = s[j] := fun j h => by simp [h]
  have h := compactUpTo_up s.toArray (fun i j hij hj => by
    have hj' : j < s.length := by simpa using hj
    rw [hg i (by omega), hg j hj']
    have := (List.pairwise_iff_getElem.1 ho) i j (by omega) hj' hij
    simpa using this) s.length (by simp)
  refine ⟨h.1, fun x => ?_⟩
  unfold Go.Lib.compact
  rw [h.2]
  rw [← hp.mem_iff]
  constructor
  · rintro ⟨j, hj, e⟩
    rw [hg j hj] at e
    exact e ▸ List.getElem_mem hj
  · intro hx
    obtain ⟨j, hj, e⟩ := List.mem_iff_getElem.1 hx
    exact ⟨j, hj, by rw [hg j hj]; exact e⟩
/-- The numbers of the nulls, as they come. -/
def nulSeq (vs : List Int) : List Int := (vs.filter isNul).map nulNum
theorem nulSeq_cons (v : Int) (vs : List Int) : nulSeq (v :: vs) = (if isNul v then nulNum v :: nulSeq vs else nulSeq vs) := by
  unfold nulSeq; rw [List.filter_cons]; split <;> simp
theorem nulsFrom_up (vs out : List Int) (h : out.Pairwise (· < ·)) : (nulsFrom out vs).Pairwise (· < ·) ∧ ∀ x, x ∈ nulsFrom out vs ↔ x ∈ out ∨ x ∈ nulSeq vs := by
  induction vs generalizing out with
  | nil => exact ⟨h, fun x => by simp [nulsFrom, nulSeq]⟩
  | cons v vs ih =>
    rw [nulSeq_cons]
    unfold nulsFrom
    by_cases c : isNul v = true
    · rw [if_pos c, if_pos c]
      obtain ⟨h1, h2⟩ := ih _ (put_up (nulNum v) out h)
      refine ⟨h1, fun x => ?_⟩
      rw [h2, mem_put, List.mem_cons]
      constructor
      · rintro ((h | h) | h)
        · exact .inr (.inl h)
        · exact .inl h
        · exact .inr (.inr h)
      · rintro (h | h | h)
        · exact .inl (.inr h)
        · exact .inl (.inl h)
        · exact .inr h
    · rw [if_neg c, if_neg c]
      exact ih out h
theorem nuls_sort (vs : List Int) : sortU (nulSeq vs) = nuls vs := by
  obtain ⟨h1, h2⟩ := nulsFrom_up vs [] (by simp)
  obtain ⟨h3, h4⟩ := sortU_up (nulSeq vs)
  exact up_ext _ _ h3 h1 fun x => by rw [h4]; unfold nuls; rw [h2]; simp
theorem nulSeq_append (a b : List Int) : nulSeq (a ++ b) = nulSeq a ++ nulSeq b := by simp [nulSeq]
theorem nulSeq_ok (vs : List Int) : (∀ x ∈ nulSeq vs, 0 ≤ x ∧ x ≤ 39) ∧ (nulSeq vs).length ≤ vs.length := by
  refine ⟨fun x hx => ?_, ?_⟩
  · obtain ⟨v, _, rfl⟩ := List.mem_map.1 hx
    exact nulNum_bd v
  · unfold nulSeq; rw [List.length_map]; exact List.length_filter_le _ _
end Go.Proofs.YtgemaohdlibboaaGreatDoor.H
/- Walks: the program's own nulls; the library's sorting over its shelf. No condition. -/
namespace Go.Proofs.YtgemaohdlibboaaGreatDoor.H
open Go Go.RowKit Go.Proofs.YtgemaohdlibboaaGreatDoorW.PrintWords Go.Proofs.YtgemaohdlibboaaGreatDoorW.PrintLast
open Go.Proofs.YtgemaohdlibboaaGreatDoor.Reg (On on_draw)
set_option maxHeartbeats 1000000
set_option maxRecDepth 100000
set_option linter.unusedVariables false
set_option linter.unusedSimpArgs false

theorem own_setCells {base g n cap : Nat} {e : TypeId} : ∀ (ys : List Value) (i : Nat) (xs : List Value) (W : World), W.ownsRow base e 1 (.slice (some ⟨g, 0, none⟩) n cap) n xs → i + ys.length ≤ n →
    (W.setCells g i ys).ownsRow base e 1 (.slice (some ⟨g, 0, none⟩) n cap) n (xs.take i ++ ys ++ xs.drop (i + ys.length)) ∧ W.grownBy (W.setCells g i ys) (some g)
  | [], i, xs, W, h, _ => ⟨by simpa [World.setCells] using h, World.grownBy.refl W _⟩
  | y :: ys, i, xs, W, h, hl => by
    have hx : xs.length = n := by have := h.1; omega
    simp only [List.length_cons] at hl
    obtain ⟨h1, g1⟩ := h.stored i y
    obtain ⟨h2, g2⟩ := own_setCells ys (i + 1) _ _ h1 (by omega)
    refine ⟨?_, World.grownBy.trans g1 g2⟩
    have e : (xs.set i y).take (i + 1) ++ ys ++ (xs.set i y).drop (i + 1 + ys.length) = xs.take i ++ (y :: ys) ++ xs.drop (i + (y :: ys).length) := by
      rw [List.take_succ_eq_append_getElem (by simp; omega), List.take_set_of_le (Nat.le_refl _), List.getElem_set_self, List.drop_set_of_lt (by omega)]
      rw [show i + 1 + ys.length = i + (y :: ys).length by simp; omega]
      simp
    rw [e] at h2
    exact h2
theorem own_holds {base g cap : Nat} {e : TypeId} {w : World} {zs : List Int} (h : w.ownsRow base e 1 (.slice (some ⟨g, 0, none⟩) zs.length cap) zs.length (encs (Value.int .i64) zs)) : Go.Sort.Holds (Value.int .i64) w g 0 zs.toArray := by
  intro j hj
  have hj' : j < zs.length := by simpa using hj
  constructor
  · have hc := h.cells (g := g) rfl j (.int .i64 zs[j]) (by simp [encs, List.getElem?_eq_getElem hj'])
    rw [add_plain] at hc
    rw [Nat.zero_add, hc]
    simp [hj']
  · rcases h.2 with ⟨h', _⟩ | ⟨g', cap', cur, h', _, hh, _⟩
    · cases h'
    · have : g = g' := by injection h' with h'; injection h' with h'; injection h' with h'
      subst this
      simp [World.frozen?, hh]
theorem own_row {base g cap : Nat} {e : TypeId} {w : World} {zs ys : List Int} (q : Nat) (h : w.ownsRow base e 1 (.slice (some ⟨g, 0, none⟩) zs.length cap) zs.length (encs (Value.int .i64) zs)) (hl : ys.length = zs.length) :
    (Go.Sort.putRow (Value.int .i64) (Go.Sort.ahead w q) g 0 ys.toArray).ownsRow base e 1 (.slice (some ⟨g, 0, none⟩) zs.length cap) zs.length (encs (Value.int .i64) ys) ∧ w.grownBy (Go.Sort.putRow (Value.int .i64) (Go.Sort.ahead w q) g 0 ys.toArray) (some g) := by
  rw [Go.Lib.putRow_eq_setCells _ w g 0 zs.toArray ys q (own_holds h) (by simpa using hl)]
  have h1 : (w.drewN q).ownsRow base e 1 (.slice (some ⟨g, 0, none⟩) zs.length cap) zs.length (encs (Value.int .i64) zs) := own_move h (fun _ _ => rfl)
  obtain ⟨h2, g2⟩ := own_setCells (ys.map (Value.int .i64)) 0 _ _ h1 (by simp; omega)
  have e : (encs (Value.int .i64) zs).take 0 ++ ys.map (Value.int .i64) ++ (encs (Value.int .i64) zs).drop (0 + (ys.map (Value.int .i64)).length) = encs (Value.int .i64) ys := by
    rw [List.drop_of_length_le (by simp [encs]; omega)]
    simp [encs]
  rw [e] at h2
  exact ⟨h2, ⟨g2.os, g2.tape, g2.output, g2.size, g2.block⟩⟩
theorem grownBy_grow {w w1 : World} {row : Option Nat} (h : w.grownBy w1 row) (os : Array Obj) : w.grownBy (Go.Sort.grow w1 os) row := by
  refine ⟨h.os, h.tape, h.output, by have := h.size; simp [Go.Sort.grow]; omega, fun k hk hr => ?_⟩
  have hs := h.size
  show (w1.heap ++ os)[k]? = _
  rw [Array.getElem?_append_left (by omega)]
  exact h.block k hk hr
theorem own_grow {w : World} {base : Nat} {e : TypeId} {size n : Nat} {v : Value} {xs : List Value} (h : w.ownsRow base e size v n xs) (os : Array Obj) : (Go.Sort.grow w os).ownsRow base e size v n xs := by
  refine own_move h fun k hk => ?_
  have := own_lt h k hk
  show (w.heap ++ os)[k]? = _
  rw [Array.getElem?_append_left (by omega)]
theorem own_cut1 {base g cap n : Nat} {e : TypeId} {w : World} {xs : List Value} (h : w.ownsRow base e 1 (.slice (some ⟨g, 0, none⟩) n cap) n xs) (m : Nat) (hm : m ≤ n) : w.ownsRow base e 1 (.slice (some ⟨g, 0, none⟩) m cap) m (xs.take m) := by
  have hx : xs.length = n := by have := h.1; omega
  rcases h.2 with ⟨h', _⟩ | ⟨g', cap', cur, h', hg, hh, hnc, hcm, hcs, htk⟩
  · cases h'
  · injection h' with h1 h2 h3
    injection h1 with h1
    injection h1 with h1
    subst h1 h3
    refine ⟨by rw [List.length_take]; omega, .inr ⟨g, cap, cur, rfl, hg, hh, by omega, hcm, hcs, ?_⟩⟩
    rw [← htk, List.take_take]
    congr 1
    omega
theorem sortI_calls (w : World) (lo : Nat) (v : Value) (xs : List Int) (h : OI w lo v xs) (hl : xs.length < 1099511627776) : Calls Tryz.prog 84 #[v] w fun e w' => e = .returned (.tuple #[]) ∧ OI w' lo v (xs.mergeSort fun x y => decide (x ≤ y)) ∧ Ex (fun b => some b = v.ownBlock) w w' := by
  have hown : w.ownsRow lo 3 1 v xs.length (encs (Value.int .i64) xs) := by rw [encs_flat]; exact h
  rcases hown.2 with ⟨rfl, hn⟩ | ⟨g, cap, cur, rfl, hg, hh, hr⟩
  · obtain rfl : xs = [] := List.eq_nil_of_length_eq_zero hn
    refine (Tryz.slices_Sort_int_none none 0 w).mono fun e w' ⟨he, hw⟩ => ?_
    subst hw
    exact ⟨he, by simpa using h, Ex.refl _ _⟩
  · have hlt : g < w.heap.size := own_lt hown g rfl
    refine (Tryz.slices_Sort_int g 0 cap xs w (own_holds hown) hlt (by omega)).mono fun e w' ⟨he, n, os, hw⟩ => ?_
    obtain ⟨h1, g1⟩ := own_row (ys := xs.mergeSort fun x y => decide (x ≤ y)) n hown (by simp)
    have h2 := own_grow h1 os
    have g2 := grownBy_grow g1 os
    rw [← hw] at h2 g2
    refine ⟨he, ?_, Ex.of_grown g2⟩
    show World.ownsRow _ _ _ _ _ (xs.mergeSort fun x y => decide (x ≤ y)).length _
    rw [← encs_flat, List.length_mergeSort]
    exact h2
theorem compactI_calls (w : World) (lo : Nat) (v : Value) (xs : List Int) (h : OI w lo v xs) (hl : xs.length < 1099511627776) : Calls Tryz.prog 85 #[v] w (Got fun v1 w' => OI w' lo v1 (Go.Lib.compact xs) ∧ Ex (fun b => some b = v.ownBlock) w w') := by
  have hown : w.ownsRow lo 3 1 v xs.length (encs (Value.int .i64) xs) := by rw [encs_flat]; exact h
  rcases hown.2 with ⟨rfl, hn⟩ | ⟨g, cap, cur, rfl, hg, hh, hnc, hr⟩
  · obtain rfl : xs = [] := List.eq_nil_of_length_eq_zero hn
    refine (Tryz.slices_Compact_int_empty none 0 w).mono fun e w' ⟨he, hw⟩ => ?_
    subst hw
    exact ⟨_, he, by simpa [Go.Lib.compact, Go.Lib.compactUpTo] using h, Ex.refl _ _⟩
  · have hle := Go.Lib.compact_length_le xs
    refine (Tryz.slices_Compact_int g 0 cap xs w (own_holds hown) (by omega) hnc).mono fun e w' ⟨he, n, hw⟩ => ?_
    obtain ⟨h1, g1⟩ := own_row (ys := Go.Lib.compact xs ++ List.replicate (xs.length - (Go.Lib.compact xs).length) 0) n hown (by simp; omega)
    have h2 := own_cut1 h1 (Go.Lib.compact xs).length hle
    have e2 : (encs (Value.int .i64) (Go.Lib.compact xs ++ List.replicate (xs.length - (Go.Lib.compact xs).length) 0)).take (Go.Lib.compact xs).length = encs (Value.int .i64) (Go.Lib.compact xs) := by
      simp [encs]
    rw [e2] at h2
    rw [← hw] at h2 g1
    rw [encs_flat] at h2
    exact ⟨_, he, h2, Ex.of_grown g1⟩
theorem nullsOf_calls (w : World) (A c) (vs : List Int) (h : Ints w A c vs) (hl : vs.length ≤ 1000000000) : Calls Tryz.prog 147 #[.slice A vs.length c] w (Got fun v' w' => OI w' w.heap.size v' (sortU (nulSeq vs)) ∧ On w w') := by
  go_enter Tryz.func147, Tryz.ntmps147
  go_wp2
  go_loopw [3, 11] (fun v3 v11 wr => ∃ k : Nat, k ≤ vs.length ∧ v11 = .int .i64 k ∧ Aside0 (OInts wr w.heap.size v3 (nulSeq (vs.take k))) ∧ On w wr) (fun _ v11 _ => vs.length - (intOf v11).toNat)
  case atStart => exact ⟨0, Nat.zero_le _, rfl, ⟨own0' (by simp) (by simp)⟩, On.alloc (On.refl _) _⟩
  case round =>
    obtain ⟨k, hk, rfl, hO, hB⟩ := hrel
    by_cases hlt : k < vs.length
    · obtain ⟨ad, rfl, hx⟩ := (h.on hB).at k hlt
      have hbd := h.bd k hlt
      have hseq := Aside0.mk (show nulSeq (vs.take (k + 1)) = nulSeq (vs.take k) ++ (if isNul vs[k] then [nulNum vs[k]] else []) by rw [List.take_succ_eq_append_getElem hlt, nulSeq_append, nulSeq_cons]; split <;> rfl)
      have hlq := Aside0.mk (show (nulSeq (vs.take k)).length ≤ k by have := (nulSeq_ok (vs.take k)).2; rw [List.length_take] at this; omega)
      cases hn : isNul vs[k] with
      | false =>
        have hn' := Aside0.mk hn
        clear hn
        go_wp2_with (go_at_call 159; refine (iNullNumber_calls _ _ hbd).mono ?_; rintro e w2 ⟨rfl, hb2⟩; rw [hn'.out])
        exact ⟨⟨k + 1, by omega, by go_num, ⟨by rw [hseq.out, hn'.out]; simpa using OInts.on hO.out hb2⟩, hB.trans hb2⟩, by simp [intOf]; omega⟩
      | true =>
        have hn' := Aside0.mk hn
        clear hn
        go_wp2_with (first | (go_at_call 159; refine (iNullNumber_calls _ _ hbd).mono ?_; rintro e w2 ⟨rfl, hb2⟩; rw [hn'.out]) | (refine gate 24 ?_))
        have hBA := (hB.trans hb2).trans (On.alloc (On.refl w2) (.cells #[.int .i64 (nulNum vs[k])] 3))
        have hOA := OInts.on hO.out (hb2.trans (On.alloc (On.refl w2) (.cells #[.int .i64 (nulNum vs[k])] 3)))
        obtain ⟨ys, hys⟩ : ∃ ys, nulSeq (vs.take k) ++ [nulNum vs[k]] = ys := ⟨_, rfl⟩
        have hys' := Aside0.mk hys
        have hl2 : (nulSeq (vs.take k)).length + 1 ≤ 10000000000 := by have := hlq.out; omega
        refine ⟨apI 24 hys hOA (Kd.R_reads' (own1 w2 (nulNum vs[k]))).2.2 hBA.size hl2 fun v3 w3 hO3 hg3 hat3 => ?_⟩
        clear hys
        have hB3 := grown_own hBA hOA hg3 (Nat.le_refl _)
        clear hl2 hat3
        go_wp2
        exact ⟨⟨k + 1, by omega, by go_num, ⟨by rw [hseq.out, hn'.out, if_pos rfl, hys'.out]; exact hO3⟩, hB3⟩, by simp [intOf]; omega⟩
    · have e1 : vs.take k = vs := List.take_of_length_le (by omega)
      rw [e1] at hO
      have hlq := (nulSeq_ok vs).2
      go_wp2_with (first | (go_at_call 84; refine (sortI_calls wr w.heap.size _ (nulSeq vs) (OI.of hO.out) (by omega)).mono ?_; rintro e w2 ⟨rfl, hO2, hE2⟩; have hO3 := Aside0.mk hO2; clear hO2) | (go_at_call 85; refine (compactI_calls w2 w.heap.size _ _ hO3.out (by rw [List.length_mergeSort]; omega)).mono ?_; rintro e w3 ⟨v3, rfl, hO4, hE4⟩))
      go_ret
      exact ⟨_, rfl, hO4, Ex.on (Ex.on hB hE2 (fun i e => own_base (OI.of hO.out) i e.symm)) hE4 (fun i e => own_base (OI.of hO.out) i e.symm)⟩
theorem iNullsOfFact_calls (w : World) (A c) (r : Int) (vs : List Int) (h : Ints w A c vs) (hl : vs.length ≤ 1000000000) : Calls Tryz.prog 72 #[.agg #[.int .i64 r, .slice A vs.length c]] w (Got fun v' w' => OI w' w.heap.size v' (nuls vs) ∧ On w w') := by
  have hb := Aside0.mk (On.alloc (On.refl w) (.cells #[.int .i64 r, .slice A vs.length c] 60))
  go_enter Tryz.func72, Tryz.ntmps72
  go_wp2_with (go_at_call 147; refine (nullsOf_calls _ A c vs (h.on hb.out) hl).mono ?_; rintro e w2 ⟨v, rfl, hO, hb2⟩; have hO' := Aside0.mk hO; clear hO)
  go_ret
  exact ⟨_, rfl, by rw [← nuls_sort]; exact own_lower hO'.out hb.out.size, hb.out.trans hb2⟩
end Go.Proofs.YtgemaohdlibboaaGreatDoor.H
/- Walk: the program's own valid instances. No condition. -/
namespace Go.Proofs.YtgemaohdlibboaaGreatDoor.H
open Go Go.RowKit Go.Proofs.YtgemaohdlibboaaGreatDoorW.PrintWords Go.Proofs.YtgemaohdlibboaaGreatDoorW.PrintLast
open Go.Proofs.YtgemaohdlibboaaGreatDoor.Reg (On on_draw)
set_option maxHeartbeats 8000000
set_option maxRecDepth 100000
set_option linter.unusedVariables false
set_option linter.unusedSimpArgs false

theorem iIsValidInstance_calls (w : World) (A0 c0 A1 c1) (rs : List Rel) (fs : List Fct) (h0 : Rels w A0 c0 rs) (h1 : Fcts w A1 c1 fs) :
    Calls Tryz.prog 19 #[.agg #[.slice A0 rs.length c0, .slice A1 fs.length c1]] w fun e w' => e = .returned (.bool (okInst rs fs)) ∧ On w w' := by
  have hm0 := h0.max
  have hm1 := h1.max
  have hbI := Aside0.mk (On.alloc (On.refl w) (.cells #[.slice A0 rs.length c0, .slice A1 fs.length c1] 25))
  have hLI := Aside0.mk (loc1 w #[.slice A0 rs.length c0, .slice A1 fs.length c1] 25)
  cases hr : okRels rs with
  | false =>
    have hr' := Aside0.mk hr
    clear hr
    go_enter Tryz.func19, Tryz.ntmps19
    go_wp2_with (go_at_call 49; refine (iAreValidRelations_calls _ A0 c0 rs (h0.on hbI.out)).mono ?_; rintro e w3 ⟨rfl, hb3⟩; rw [hr'.out]; have hc3 := blk_cell (Loc.on hb3 hLI.out).1)
    go_ret
    exact ⟨ret_bool (by simp [okInst, hr'.out]), hbI.out.trans hb3⟩
  | true =>
    have hr' := Aside0.mk hr
    clear hr
    by_cases h30 : (fs.length : Int) ≤ 30
    · have h30b : decide ((fs.length : Int) ≤ 30) = true := decide_eq_true h30
      have h30c : decide (fs.length ≤ 30) = true := decide_eq_true (by omega)
      have h30d : decide (30 < fs.length) = false := decide_eq_false (by omega)
      have h30e : decide (30 < (fs.length : Int)) = false := decide_eq_false (by omega)
      go_enter Tryz.func19, Tryz.ntmps19
      go_wp2_with (go_at_call 49; refine (iAreValidRelations_calls _ A0 c0 rs (h0.on hbI.out)).mono ?_; rintro e w3 ⟨rfl, hb3⟩; rw [hr'.out]; have hL3 := Aside0.mk (Loc.on hb3 hLI.out); have hc3 := blk_cell hL3.out.1; have hb3' := Aside0.mk hb3; clear hb3)
      clear hc3
      go_loopw [18] (fun v wr => ∃ k : Nat, k ≤ fs.length ∧ v = .int .i64 k ∧ Hid (factsFrom rs (prevFct fs k) (fs.drop k) = factsFrom rs none fs) ∧ On w wr ∧ Loc wr [(w.heap.size, #[.slice A0 rs.length c0, .slice A1 fs.length c1], 25)]) (fun v _ => fs.length - (intOf v).toNat)
      case atStart => exact ⟨0, Nat.zero_le _, rfl, rfl, hbI.out.trans hb3'.out, hL3.out⟩
      case round =>
        obtain ⟨k, hk, rfl, hp, hB, hL⟩ := hrel
        clear hb3' hL3
        have hc0 := blk_cell hL.1
        have hL' := Aside0.mk hL
        clear hL
        by_cases hlt : k < fs.length
        · obtain ⟨ad, A3, c3, rfl, hx0, hx1, hx2'⟩ := (h1.on hB).at k hlt
          have hfill := alloc_fill wr
          have hst := Aside0.mk ((factsFrom_step rs fs k hlt).symm.trans hp.out)
          have hbx := Aside0.mk (On.alloc (On.refl wr) (.cells #[.int .i64 fs[k].1, .slice A3 fs[k].2.length c3] 60))
          have hB2 := Aside0.mk (hB.trans hbx.out)
          have hcn := blk_cell (loc_new wr #[.int .i64 fs[k].1, .slice A3 fs[k].2.length c3] 60)
          have hcm := blk_cell (Loc.on hbx.out hL'.out).1
          clear hp
          cases hok0 : okFact rs fs[k] with
          | false =>
            have hok := Aside0.mk hok0
            clear hok0
            go_wp2
            refine Reg.region [(0,.L),(1,.L),(2,.L),(3,.C),(4,.L),(5,.L),(6,.L),(7,.L),(8,.L),(9,.L),(10,.L),(11,.L),(12,.L),(13,.L),(14,.L),(15,.L),(16,.C),(17,.L),(18,.L),(19,.L)] [] (by kernel_rfl) (by kernel_rfl) ?_
            repeat first | refine sP ?_ | refine sS ?_ | refine sA ?_ | refine sL ?_ | refine sQ ?_ | refine sO ?_
            refine callC (.bool false) Tryz.func50 (fun w' hS => ?_) ?_
            focus exact (iIsValidFact_calls w' _ c0 rs _ c3 fs[k] (h0.on (hB2.out.trans hS)) (hx2'.on (hbx.out.trans hS))).mono fun e w'' h => ⟨by rw [h.1, hok.out], h.2⟩
            repeat first | refine sP ?_ | refine sS ?_ | refine sA ?_ | refine sL ?_ | refine sQ ?_ | refine sO ?_
            refine Reg.nil fun w2 hS => ?_
            go_wp2
            go_ret
            exact ⟨ret_bool (by have := hst.out; unfold okNext at this; rw [hok.out] at this; simp at this; simp [okInst, this]), hB2.out.trans hS⟩
          | true =>
            have hok := Aside0.mk hok0
            have hat := okFact_at hok0
            clear hok0
            have hat1 : fs[k].1.toNat < rs.length := by omega
            have hat2 : 0 ≤ fs[k].1 := hat.1
            have hat3 : fs[k].1 < rs.length := hat.2
            obtain ⟨ad0, rfl, _, _, _⟩ := (h0.on hB2.out).at fs[k].1.toNat hat1
            clear hat
            by_cases hk0 : 0 < k
            · have hk0' : decide (0 < (k : Int)) = true := decide_eq_true (by omega)
              have hki : IntKind.i64.wrap ((k : Int) - 1) = ((k - 1 : Nat) : Int) := by rw [IntWalk.i64_in _ (by omega)]; omega
              have hk1 : k - 1 < fs.length := by omega
              obtain ⟨ad', A4, c4, e', hy0, hy1, hy2⟩ := (h1.on hB2.out).at (k - 1) hk1
              obtain rfl : ad = ad' := by simpa using e'
              have hpn : prevFct fs k = some fs[k - 1] := by simp [prevFct, show ¬ k = 0 by omega, show k - 1 < fs.length by omega]
              by_cases hc : cmpF fs[k - 1] fs[k] < 0
              · have hcb : decide (0 ≤ cmpF fs[k - 1] fs[k]) = false := decide_eq_false (by omega)
                have hpv := Aside0.mk (show okPrev (prevFct fs k) fs[k] = true by rw [hpn]; exact decide_eq_true hc)
                clear hc hpn
                go_wp2
                refine Reg.region [(0,.L),(1,.L),(2,.L),(3,.C),(4,.L),(5,.L),(6,.L),(7,.L),(8,.L),(9,.L),(10,.L),(11,.L),(12,.L),(13,.L),(14,.L),(15,.L),(16,.C),(17,.L),(18,.L),(19,.L)] [] (by kernel_rfl) (by kernel_rfl) ?_
                repeat first | refine sP ?_ | refine sS ?_ | refine sA ?_ | refine sL ?_ | refine sQ ?_ | refine sO ?_
                refine callC (.bool true) Tryz.func50 (fun w' hS => ?_) ?_
                focus exact (iIsValidFact_calls w' _ c0 rs _ c3 fs[k] (h0.on (hB2.out.trans hS)) (hx2'.on (hbx.out.trans hS))).mono fun e w'' h => ⟨by rw [h.1, hok.out], h.2⟩
                repeat first | refine sP ?_ | refine sS ?_ | refine sA ?_ | refine sL ?_ | refine sQ ?_ | refine sO ?_
                refine callC (.int .i64 (cmpF fs[k - 1] fs[k])) Tryz.func48 (fun w' hS => ?_) ?_
                focus exact iCompareFacts_calls w' A4 c4 A3 c3 fs[k - 1] fs[k] (hy2.on hS) (hx2'.on (hbx.out.trans hS))
                repeat first | refine sP ?_ | refine sS ?_ | refine sA ?_ | refine sL ?_ | refine sQ ?_ | refine sO ?_
                clear hy0 hy1 hy2 hki hcb
                refine Reg.nil fun w2 hS => ?_
                clear hcn hcm hfill
                have hc5 := blk_cell (Loc.on (hbx.out.trans hS) hL'.out).1
                have hc6 := blk_cell (blk_below (loc_new wr #[.int .i64 fs[k].1, .slice A3 fs[k].2.length c3] 60) hS)
                obtain ⟨ad1, e9, _, _, hxs1⟩ := (h0.on (hB2.out.trans hS)).at fs[k].1.toNat hat1
                obtain rfl : ad0 = ad1 := by simpa using e9
                have hsr : rs[fs[k].1.toNat].2.2 = srcOf rs fs[k].1 := by simp [srcOf, hat1]
                rw [hsr] at hxs1
                clear hsr e9
                have hB3 := Aside0.mk (hB2.out.trans hS)
                have hL3 := Aside0.mk (Loc.on (hbx.out.trans hS) hL'.out)
                have hx3 := Aside0.mk (hx2'.on (hbx.out.trans hS))
                clear hS
                cases hs : srcOf rs fs[k].1 with
                | false =>
                  rw [hs] at hxs1
                  have hs' := Aside0.mk hs
                  clear hs
                  go_wp2
                  go_roundw
                  case rel => exact ⟨k + 1, by omega, by go_num, (by have := hst.out; unfold okNext at this; rw [hok.out, hpv.out, hs'.out] at this; simpa using this : _ = _), hB3.out, hL3.out⟩
                  case measure => simp [intOf]; omega
                | true =>
                  rw [hs] at hxs1
                  have hs' := Aside0.mk hs
                  clear hs
                  have hnn := Aside0.mk (nuls_ok fs[k].2)
                  by_cases hz : (nuls fs[k].2).length = 0
                  · have hzb : decide (0 < ((nuls fs[k].2).length : Int)) = false := decide_eq_false (by omega)
                    have hzc : decide (0 < (nuls fs[k].2).length) = false := decide_eq_false (by omega)
                    have hz' := Aside0.mk hz
                    clear hz
                    go_wp2_with (go_at_call 72; refine (iNullsOfFact_calls _ A3 c3 fs[k].1 fs[k].2 hx3.out (Nat.le_trans (okFact_len hok.out) (by omega))).mono ?_; rintro e w4 ⟨v4, rfl, hO4, hb4⟩; obtain ⟨A5, c5, rfl⟩ := own_slice hO4; clear hO4)
                    exact ⟨⟨k + 1, by omega, by go_num, (by have := hst.out; unfold okNext at this; rw [hok.out, hpv.out, hs'.out, hz'.out] at this; simpa using this : _ = _), hB3.out.trans hb4, Loc.on hb4 hL3.out⟩, by simp [intOf]; omega⟩
                  · have hzb : decide (0 < ((nuls fs[k].2).length : Int)) = true := decide_eq_true (by omega)
                    have hzc : decide (0 < (nuls fs[k].2).length) = true := decide_eq_true (by omega)
                    have hz' := Aside0.mk (decide_eq_false hz)
                    clear hz
                    go_wp2_with (go_at_call 72; refine (iNullsOfFact_calls _ A3 c3 fs[k].1 fs[k].2 hx3.out (Nat.le_trans (okFact_len hok.out) (by omega))).mono ?_; rintro e w4 ⟨v4, rfl, hO4, hb4⟩; obtain ⟨A5, c5, rfl⟩ := own_slice hO4; clear hO4)
                    go_ret
                    exact ⟨ret_bool (by have := hst.out; unfold okNext at this; rw [hok.out, hpv.out, hs'.out, hz'.out] at this; simp at this; simp [okInst, this]), hB3.out.trans hb4⟩
              · have hcb : decide (0 ≤ cmpF fs[k - 1] fs[k]) = true := decide_eq_true (by omega)
                have hpv := Aside0.mk (show okPrev (prevFct fs k) fs[k] = false by rw [hpn]; exact decide_eq_false hc)
                clear hc hpn
                go_wp2
                refine Reg.region [(0,.L),(1,.L),(2,.L),(3,.C),(4,.L),(5,.L),(6,.L),(7,.L),(8,.L),(9,.L),(10,.L),(11,.L),(12,.L),(13,.L),(14,.L),(15,.L),(16,.C),(17,.L),(18,.L),(19,.L)] [] (by kernel_rfl) (by kernel_rfl) ?_
                repeat first | refine sP ?_ | refine sS ?_ | refine sA ?_ | refine sL ?_ | refine sQ ?_ | refine sO ?_
                refine callC (.bool true) Tryz.func50 (fun w' hS => ?_) ?_
                focus exact (iIsValidFact_calls w' _ c0 rs _ c3 fs[k] (h0.on (hB2.out.trans hS)) (hx2'.on (hbx.out.trans hS))).mono fun e w'' h => ⟨by rw [h.1, hok.out], h.2⟩
                repeat first | refine sP ?_ | refine sS ?_ | refine sA ?_ | refine sL ?_ | refine sQ ?_ | refine sO ?_
                refine callC (.int .i64 (cmpF fs[k - 1] fs[k])) Tryz.func48 (fun w' hS => ?_) ?_
                focus exact iCompareFacts_calls w' A4 c4 A3 c3 fs[k - 1] fs[k] (hy2.on hS) (hx2'.on (hbx.out.trans hS))
                repeat first | refine sP ?_ | refine sS ?_ | refine sA ?_ | refine sL ?_ | refine sQ ?_ | refine sO ?_
                refine Reg.nil fun w2 hS => ?_
                go_wp2
                go_ret
                exact ⟨ret_bool (by have := hst.out; unfold okNext at this; rw [hok.out, hpv.out] at this; simp at this; simp [okInst, this]), hB2.out.trans hS⟩
            · have hk0' : decide (0 < (k : Int)) = false := decide_eq_false (by omega)
              have hpv := Aside0.mk (show okPrev (prevFct fs k) fs[k] = true by simp [okPrev, prevFct, show k = 0 by omega])
              go_wp2
              refine Reg.region [(0,.L),(1,.L),(2,.L),(3,.C),(4,.L),(5,.L),(6,.L),(7,.L),(8,.L),(9,.L),(10,.L),(11,.L),(12,.L),(13,.L),(14,.L),(15,.L),(16,.C),(17,.L),(18,.L),(19,.L)] [] (by kernel_rfl) (by kernel_rfl) ?_
              repeat first | refine sP ?_ | refine sS ?_ | refine sA ?_ | refine sL ?_ | refine sQ ?_ | refine sO ?_
              refine callC (.bool true) Tryz.func50 (fun w' hS => ?_) ?_
              focus exact (iIsValidFact_calls w' _ c0 rs _ c3 fs[k] (h0.on (hB2.out.trans hS)) (hx2'.on (hbx.out.trans hS))).mono fun e w'' h => ⟨by rw [h.1, hok.out], h.2⟩
              repeat first | refine sP ?_ | refine sS ?_ | refine sA ?_ | refine sL ?_ | refine sQ ?_ | refine sO ?_
              refine Reg.nil fun w2 hS => ?_
              clear hcn hcm hfill
              have hc5 := blk_cell (Loc.on (hbx.out.trans hS) hL'.out).1
              have hc6 := blk_cell (blk_below (loc_new wr #[.int .i64 fs[k].1, .slice A3 fs[k].2.length c3] 60) hS)
              obtain ⟨ad1, e9, _, _, hxs1⟩ := (h0.on (hB2.out.trans hS)).at fs[k].1.toNat hat1
              obtain rfl : ad0 = ad1 := by simpa using e9
              have hsr : rs[fs[k].1.toNat].2.2 = srcOf rs fs[k].1 := by simp [srcOf, hat1]
              rw [hsr] at hxs1
              clear hsr e9
              have hB3 := Aside0.mk (hB2.out.trans hS)
              have hL3 := Aside0.mk (Loc.on (hbx.out.trans hS) hL'.out)
              have hx3 := Aside0.mk (hx2'.on (hbx.out.trans hS))
              clear hS
              cases hs : srcOf rs fs[k].1 with
              | false =>
                rw [hs] at hxs1
                have hs' := Aside0.mk hs
                clear hs
                go_wp2
                go_roundw
                case rel => exact ⟨k + 1, by omega, by go_num, (by have := hst.out; unfold okNext at this; rw [hok.out, hpv.out, hs'.out] at this; simpa using this : _ = _), hB3.out, hL3.out⟩
                case measure => simp [intOf]; omega
              | true =>
                rw [hs] at hxs1
                have hs' := Aside0.mk hs
                clear hs
                have hnn := Aside0.mk (nuls_ok fs[k].2)
                by_cases hz : (nuls fs[k].2).length = 0
                · have hzb : decide (0 < ((nuls fs[k].2).length : Int)) = false := decide_eq_false (by omega)
                  have hzc : decide (0 < (nuls fs[k].2).length) = false := decide_eq_false (by omega)
                  have hz' := Aside0.mk hz
                  clear hz
                  go_wp2_with (go_at_call 72; refine (iNullsOfFact_calls _ A3 c3 fs[k].1 fs[k].2 hx3.out (Nat.le_trans (okFact_len hok.out) (by omega))).mono ?_; rintro e w4 ⟨v4, rfl, hO4, hb4⟩; obtain ⟨A5, c5, rfl⟩ := own_slice hO4; clear hO4)
                  exact ⟨⟨k + 1, by omega, by go_num, (by have := hst.out; unfold okNext at this; rw [hok.out, hpv.out, hs'.out, hz'.out] at this; simpa using this : _ = _), hB3.out.trans hb4, Loc.on hb4 hL3.out⟩, by simp [intOf]; omega⟩
                · have hzb : decide (0 < ((nuls fs[k].2).length : Int)) = true := decide_eq_true (by omega)
                  have hzc : decide (0 < (nuls fs[k].2).length) = true := decide_eq_true (by omega)
                  have hz' := Aside0.mk (decide_eq_false hz)
                  clear hz
                  go_wp2_with (go_at_call 72; refine (iNullsOfFact_calls _ A3 c3 fs[k].1 fs[k].2 hx3.out (Nat.le_trans (okFact_len hok.out) (by omega))).mono ?_; rintro e w4 ⟨v4, rfl, hO4, hb4⟩; obtain ⟨A5, c5, rfl⟩ := own_slice hO4; clear hO4)
                  go_ret
                  exact ⟨ret_bool (by have := hst.out; unfold okNext at this; rw [hok.out, hpv.out, hs'.out, hz'.out] at this; simp at this; simp [okInst, this]), hB3.out.trans hb4⟩
        · have hfl : factsFrom rs none fs = true := by rw [← hp.out, List.drop_of_length_le (by omega)]; cases prevFct fs k <;> rfl
          have hfl' := Aside0.mk hfl
          clear hp hfl
          go_wp2
          go_ret
          exact ⟨ret_bool (by simp [okInst, hfl'.out, hr'.out]; omega), hB⟩
    · have h30b : decide ((fs.length : Int) ≤ 30) = false := decide_eq_false h30
      have h30c : decide (fs.length ≤ 30) = false := decide_eq_false (by omega)
      have h30d : decide (30 < fs.length) = true := decide_eq_true (by omega)
      have h30e : decide (30 < (fs.length : Int)) = true := decide_eq_true (by omega)
      go_enter Tryz.func19, Tryz.ntmps19
      go_wp2_with (go_at_call 49; refine (iAreValidRelations_calls _ A0 c0 rs (h0.on hbI.out)).mono ?_; rintro e w3 ⟨rfl, hb3⟩; rw [hr'.out]; have hc3 := blk_cell (Loc.on hb3 hLI.out).1)
      go_ret
      exact ⟨ret_bool (by simp [okInst]; intros; omega), hbI.out.trans hb3⟩
end Go.Proofs.YtgemaohdlibboaaGreatDoor.H
/- Walks: instances written, on both sides. No condition. -/
namespace Go.Proofs.YtgemaohdlibboaaGreatDoor.H
open Go Go.RowKit Go.Proofs.YtgemaohdlibboaaGreatDoorW.PrintWords Go.Proofs.YtgemaohdlibboaaGreatDoorW.PrintLast
open Go.Proofs.YtgemaohdlibboaaGreatDoor.Reg (On on_draw)
set_option maxHeartbeats 4000000
set_option maxRecDepth 100000
set_option linter.unusedVariables false
set_option linter.unusedSimpArgs false

def txtI (rs : List Rel) (fs : List Fct) (k : Nat) : List UInt8 := Lib.join ((fs.take k).map (fmtF rs)) [32]
theorem txtI_succ (rs : List Rel) (fs : List Fct) (k : Nat) (h : k < fs.length) : txtI rs fs (k + 1) = (if k = 0 then [] else txtI rs fs k ++ [32]) ++ fmtF rs fs[k] := by
  unfold txtI
  rw [List.take_succ_eq_append_getElem h, List.map_append, List.map_cons, List.map_nil, join_snoc, List.length_map, List.length_take, Nat.min_eq_left (by omega)]
  by_cases c : k = 0
  · rw [if_pos c, if_pos c]; rfl
  · rw [if_neg c, if_neg c]
theorem fmtF_len (rs : List Rel) (f : Fct) : (fmtF rs f).length ≤ 20 := by
  cases h : okFact rs f with
  | false => unfold fmtF; rw [h]; simp
  | true =>
    obtain ⟨b, e, -, -, -⟩ := fmtF_ok h
    have h1 := txtF_len f.2 f.2.length (okFact_len h)
    have h2 := join_len [44] 3 _ (f.2.map fvL) rfl (fun x hx => by
      obtain ⟨v, hv, rfl⟩ := List.mem_map.1 hx
      exact fvL_len v)
    have h3 := okFact_len h
    rw [e]
    rw [List.length_map] at h2
    simp at h2 ⊢
    omega
theorem txtI_len (rs : List Rel) (fs : List Fct) (k : Nat) (h : fs.length ≤ 30) : (txtI rs fs k).length ≤ 700 := by
  have := join_len [32] 20 _ ((fs.take k).map (fmtF rs)) rfl (fun x hx => by
    obtain ⟨f, hf, rfl⟩ := List.mem_map.1 hx
    exact fmtF_len rs f)
  rw [List.length_map, List.length_take] at this
  unfold txtI
  simp at this ⊢
  omega
theorem txtI_all (rs : List Rel) (fs : List Fct) (k : Nat) (h : fs.length ≤ k) : txtI rs fs k = Lib.join (fs.map (fmtF rs)) [32] := by unfold txtI; rw [List.take_of_length_le h]
theorem fmtR_len (rs : List Rel) : (fmtR rs).length ≤ 100 := by
  unfold fmtR
  split
  · rename_i h
    have := txtR_len h rs.length
    rwa [txtR_all rs _ (Nat.le_refl _)] at this
  · simp
theorem fmtI_cat {rs : List Rel} {fs : List Fct} (h : okInst rs fs = true) : fmtI rs fs = (fmtR rs ++ [59]) ++ Lib.join (fs.map (fmtF rs)) [32] := by
  rw [(fmtI_ok h).1]; simp
theorem fs_take (rs : List Rel) (fs : List Fct) (k : Nat) (h : k < fs.length) : (fs.take (k + 1)).map (fmtF rs) = (fs.take k).map (fmtF rs) ++ [fmtF rs fs[k]] := by
  rw [List.take_succ_eq_append_getElem h, List.map_append]; rfl
theorem sFormatInstance_calls (w : World) (A0 c0 A1 c1) (rs : List Rel) (fs : List Fct) (h0 : Rels w A0 c0 rs) (h1 : Fcts w A1 c1 fs) : Calls Tryz.prog 52 #[.agg #[.slice A0 rs.length c0, .slice A1 fs.length c1]] w fun e w' => e = .returned (.string (strB (fmtI rs fs))) ∧ On w w' := by
  have h0' := Aside0.mk h0
  have h1' := Aside0.mk h1
  have hmx0 := h0.max
  have hmx := h1.max
  clear h0 h1
  have hbx := Aside0.mk (loc1 w #[.slice A0 rs.length c0, .slice A1 fs.length c1] 25)
  have hB0 := Aside0.mk (On.alloc (On.refl w) (.cells #[.slice A0 rs.length c0, .slice A1 fs.length c1] 25 (0, 0)))
  cases ho : okInst rs fs with
  | false =>
    have ho' := Aside0.mk ho
    clear ho
    go_enter Tryz.func52, Tryz.ntmps52
    go_wp2_with (go_at_call 18; refine (IsValidInstance_calls _ A0 c0 A1 c1 rs fs (h0'.out.on hB0.out) (h1'.out.on hB0.out)).mono ?_; rintro e w1 ⟨rfl, hb1⟩; rw [ho'.out])
    go_ret
    exact ⟨by unfold fmtI; rw [if_neg (by rw [ho'.out]; simp)]; rfl, hB0.out.trans hb1⟩
  | true =>
    have ho' := Aside0.mk ho
    have hcat := Aside0.mk (fmtI_cat ho)
    have hlf := Aside0.mk (okInst_len ho).2
    have hrl := Aside0.mk (fmtR_len rs)
    clear ho
    go_enter Tryz.func52, Tryz.ntmps52
    go_wp2_with (go_at_call 18; refine Stop.out ?_)
    refine ⟨(IsValidInstance_calls _ A0 c0 A1 c1 rs fs (h0'.out.on hB0.out) (h1'.out.on hB0.out)).mono ?_⟩
    rintro e w1 ⟨rfl, hb1⟩
    rw [ho'.out]
    have hB1 := Aside0.mk (hB0.out.trans hb1)
    have hbx1 := Aside0.mk (blk_below hbx.out.1 hb1)
    have hq0 := blk_cell hbx1.out
    clear hb1
    go_wp2_with (go_at_call 108; refine Stop.out ?_)
    clear hq0
    refine ⟨(sFormatRelations_calls _ A0 c0 rs (h0'.out.on hB1.out)).mono ?_⟩
    rintro e w2 ⟨rfl, hb2⟩
    have hB2 := Aside0.mk (hB1.out.trans hb2)
    have hbx2 := Aside0.mk (blk_below hbx1.out hb2)
    obtain ⟨tr, htr⟩ : ∃ tr, fmtR rs = tr := ⟨_, rfl⟩
    rw [htr] at hcat hrl ⊢
    have c1' := cat1 tr 59
    have z1' := szOk1 (a := tr) (by have := hrl.out; omega)
    clear htr hb2
    go_wp2
    clear c1' z1'
    go_loopw [3, 4] (fun v3 v4 wr => ∃ (k : Nat) (s : List UInt8), k ≤ fs.length ∧ v3 = .string (strB s) ∧ v4 = .int .i64 k ∧ Aside0 (s = (tr ++ [59]) ++ txtI rs fs k) ∧ On w2 wr) (fun _ v4 _ => fs.length - (intOf v4).toNat)
    case atStart => exact ⟨0, _, Nat.zero_le _, rfl, rfl, ⟨by unfold txtI; simp [join_nil']⟩, On.refl _⟩
    case round =>
      obtain ⟨k, s, hk, rfl, rfl, hs, hB⟩ := hrel
      have hB' := Aside0.mk (hB2.out.trans hB)
      have hBr := Aside0.mk hB
      have hsl := Aside0.mk (show s.length ≤ 1000 by rw [hs.out]; have := txtI_len rs fs k hlf.out; have := hrl.out; simp; omega)
      have hbxr := Aside0.mk (blk_below hbx2.out hB)
      have hq0 := blk_cell hbxr.out
      clear hB
      by_cases hlt : k < fs.length
      · obtain ⟨ad, A3, c3, rfl, x0, x1, x2⟩ := (h1'.out.on hB'.out).at k hlt
        have hk' := Aside0.mk hlt
        have hstep := Aside0.mk (txtI_succ rs fs k hlt)
        obtain ⟨f, hf⟩ : ∃ f, fs[k] = f := ⟨_, rfl⟩
        rw [hf] at x0 x1 x2 hstep
        have x2' := Aside0.mk x2
        clear hf x2
        have hs' := Aside0.mk hs.out
        clear hs
        have hfl := Aside0.mk (fmtF_len rs f)
        by_cases hk0 : 0 < k
        · have hkb : decide ((0 : Int) < (k : Int)) = true := decide_eq_true (by omega)
          have hkn : decide (0 < k) = true := decide_eq_true hk0
          have c2 := cat1 s 32
          have z2 := szOk1 (a := s) (by have := hsl.out; omega)
          obtain ⟨t, ht⟩ : ∃ t, s ++ [32] = t := ⟨_, rfl⟩
          have htl := Aside0.mk (show t.length ≤ 1001 by rw [← ht]; have := hsl.out; simp; omega)
          have hfin := Aside0.mk (show t ++ fmtF rs f = (tr ++ [59]) ++ txtI rs fs (k + 1) by rw [hstep.out, if_neg (by omega), ← ht, hs'.out]; simp)
          rw [ht] at c2
          clear ht hk0
          have c3' := strB_append t (fmtF rs f)
          have z3 := szOk (a := t) (b := fmtF rs f) (by have := htl.out; have := hfl.out; omega)
          go_wp2
          refine Reg.region [(0,.L),(1,.L),(2,.L),(3,.L),(4,.L),(5,.L),(6,.L),(7,.L),(8,.C),(9,.L)] [10] (by kernel_rfl) (by kernel_rfl) ?_
          repeat first | refine sP ?_ | refine sS ?_ | refine sA ?_ | refine sL ?_ | refine sQ ?_ | refine sO ?_
          refine callC (.string (strB (fmtF rs f))) Tryz.func114 (fun w' hS => ?_) ?_
          focus exact sFormatFact_calls w' _ c0 rs (h0'.out.on (hB'.out.trans hS)) A3 c3 f (x2'.out.on hS)
          repeat first | refine sP ?_ | refine sS ?_ | refine sA ?_ | refine sL ?_ | refine sQ ?_ | refine sO ?_
          refine Reg.tail_ fun w3 hS => ?_
          have hb3' := Aside0.mk (hBr.out.trans hS)
          clear hS
          go_wp2
          exact ⟨⟨k + 1, _, by have := hk'.out; omega, rfl, by go_num, ⟨hfin.out⟩, hb3'.out⟩, by simp [intOf]; have := hk'.out; omega⟩
        · have hkb : decide ((0 : Int) < (k : Int)) = false := decide_eq_false (by omega)
          have hkn : decide (0 < k) = false := decide_eq_false hk0
          have hfin := Aside0.mk (show s ++ fmtF rs f = (tr ++ [59]) ++ txtI rs fs (k + 1) by rw [hstep.out, if_pos (by omega), hs'.out, show k = 0 by omega]; simp [txtI, join_nil'])
          clear hk0
          have c3' := strB_append s (fmtF rs f)
          have z3 := szOk (a := s) (b := fmtF rs f) (by have := hsl.out; have := hfl.out; omega)
          go_wp2
          refine Reg.region [(0,.L),(1,.L),(2,.L),(3,.L),(4,.L),(5,.L),(6,.L),(7,.L),(8,.C),(9,.L)] [10] (by kernel_rfl) (by kernel_rfl) ?_
          repeat first | refine sP ?_ | refine sS ?_ | refine sA ?_ | refine sL ?_ | refine sQ ?_ | refine sO ?_
          refine callC (.string (strB (fmtF rs f))) Tryz.func114 (fun w' hS => ?_) ?_
          focus exact sFormatFact_calls w' _ c0 rs (h0'.out.on (hB'.out.trans hS)) A3 c3 f (x2'.out.on hS)
          repeat first | refine sP ?_ | refine sS ?_ | refine sA ?_ | refine sL ?_ | refine sQ ?_ | refine sO ?_
          refine Reg.tail_ fun w3 hS => ?_
          have hb3' := Aside0.mk (hBr.out.trans hS)
          clear hS
          go_wp2
          exact ⟨⟨k + 1, _, by have := hk'.out; omega, rfl, by go_num, ⟨hfin.out⟩, hb3'.out⟩, by simp [intOf]; have := hk'.out; omega⟩
      · have hfin := Aside0.mk (show s = fmtI rs fs by rw [hcat.out, hs.out, txtI_all rs fs k (by omega)])
        clear hs
        go_wp2
        go_ret
        exact ⟨by rw [← hfin.out]; rfl, hB'.out⟩
theorem iFormatInstance_calls (w : World) (A0 c0 A1 c1) (rs : List Rel) (fs : List Fct) (h0 : Rels w A0 c0 rs) (h1 : Fcts w A1 c1 fs) : Calls Tryz.prog 15 #[.agg #[.slice A0 rs.length c0, .slice A1 fs.length c1]] w fun e w' => e = .returned (.string (strB (fmtI rs fs))) ∧ On w w' := by
  have h0' := Aside0.mk h0
  have h1' := Aside0.mk h1
  have hmx0 := h0.max
  have hmx := h1.max
  clear h0 h1
  have hbx := Aside0.mk (loc1 w #[.slice A0 rs.length c0, .slice A1 fs.length c1] 25)
  have hB0 := Aside0.mk (On.alloc (On.refl w) (.cells #[.slice A0 rs.length c0, .slice A1 fs.length c1] 25 (0, 0)))
  cases ho : okInst rs fs with
  | false =>
    have ho' := Aside0.mk ho
    clear ho
    go_enter Tryz.func15, Tryz.ntmps15
    go_wp2_with (go_at_call 19; refine (iIsValidInstance_calls _ A0 c0 A1 c1 rs fs (h0'.out.on hB0.out) (h1'.out.on hB0.out)).mono ?_; rintro e w1 ⟨rfl, hb1⟩; rw [ho'.out])
    go_ret
    exact ⟨by unfold fmtI; rw [if_neg (by rw [ho'.out]; simp)]; rfl, hB0.out.trans hb1⟩
  | true =>
    have ho' := Aside0.mk ho
    have hcat := Aside0.mk (fmtI_cat ho)
    have hlf := Aside0.mk (okInst_len ho).2
    have hrl := Aside0.mk (fmtR_len rs)
    clear ho
    go_enter Tryz.func15, Tryz.ntmps15
    go_wp2_with (go_at_call 19; refine Stop.out ?_)
    refine ⟨(iIsValidInstance_calls _ A0 c0 A1 c1 rs fs (h0'.out.on hB0.out) (h1'.out.on hB0.out)).mono ?_⟩
    rintro e w1 ⟨rfl, hb1⟩
    rw [ho'.out]
    have hB1 := Aside0.mk (hB0.out.trans hb1)
    have hbx1 := Aside0.mk (blk_below hbx.out.1 hb1)
    have hq0 := blk_cell (blk_below hbx1.out (On.alloc (On.refl w1) (.cells #[] 9 (0, 0))))
    clear hb1
    go_wp2
    clear hq0
    go_loopw [3, 13] (fun v5 v16 wr => ∃ k : Nat, k ≤ fs.length ∧ v16 = .int .i64 k ∧ OSt wr w1.heap.size v5 ((fs.take k).map (fmtF rs)) ∧ On w1 wr) (fun _ v16 _ => fs.length - (intOf v16).toNat)
    case atStart => exact ⟨0, Nat.zero_le _, rfl, ownS0 rfl (Nat.le_refl _), On.alloc (On.refl _) _⟩
    case round =>
      obtain ⟨k, hk, rfl, hO, hB⟩ := hrel
      have hB' := Aside0.mk hB
      obtain ⟨ls, hls⟩ : ∃ ls, (fs.take k).map (fmtF rs) = ls := ⟨_, rfl⟩
      rw [hls] at hO
      have hls' := Aside0.mk hls
      have hO' := Aside0.mk hO
      clear hB hO hls
      have hbxr := Aside0.mk (blk_below hbx1.out hB'.out)
      by_cases hlt : k < fs.length
      · obtain ⟨ad, A3, c3, rfl, x0, x1, x2⟩ := (h1'.out.on (hB1.out.trans hB'.out)).at k hlt
        have hk' := Aside0.mk hlt
        have hstep := Aside0.mk (fs_take rs fs k hlt)
        obtain ⟨f, hf⟩ : ∃ f, fs[k] = f := ⟨_, rfl⟩
        rw [hf] at x0 x1 x2 hstep
        have x2' := Aside0.mk x2
        clear hf x2
        have hfill := alloc_fill wr
        have hcn := blk_cell (loc_new wr #[.int .i64 f.1, .slice A3 f.2.length c3] 60)
        have hq0 := blk_cell (blk_below hbxr.out (On.alloc (On.refl wr) (.cells #[.int .i64 f.1, .slice A3 f.2.length c3] 60 (0, 0))))
        have hWb := Aside0.mk (On.alloc (On.refl wr) (.cells #[.int .i64 f.1, .slice A3 f.2.length c3] 60 (0, 0)))
        go_wp2_with (go_at_call 44; refine Stop.out ?_)
        refine ⟨(iFormatFact_calls _ _ c0 rs (h0'.out.on ((hB1.out.trans hB'.out).trans hWb.out)) A3 c3 f (x2'.out.on hWb.out)).mono ?_⟩
        rintro e w2 ⟨rfl, hb3⟩
        have hb3' := Aside0.mk (hWb.out.trans hb3)
        clear hb3 x0 x1 hfill hcn hq0
        go_wp2_with (refine gate 22 ?_)
        refine ⟨litS1 22 (y := fmtF rs f) ?_⟩
        have hOA := Aside0.mk (own_ex hO'.out (Ex.of_on (S := fun _ => False) (hb3'.out.trans (On.alloc (On.refl w2) (.cells #[.string (strB (fmtF rs f))] 9 (0, 0))))) (fun _ _ h => h))
        have hBA := Aside0.mk (hB'.out.trans (hb3'.out.trans (On.alloc (On.refl w2) (.cells #[.string (strB (fmtF rs f))] 9 (0, 0)))))
        obtain ⟨ys, hys⟩ : ∃ ys, ls ++ [fmtF rs f] = ys := ⟨_, rfl⟩
        have hys' := Aside0.mk hys
        refine apS1 23 hys hOA.out (lit_S w2 (fmtF rs f)) hBA.out.size (by have := hlf.out; rw [← hls'.out]; simp; omega) fun v3 w3 hO3 hg3 => ?_
        have hO3' := Aside0.mk hO3
        have hB3 := Aside0.mk (Ex.on hBA.out (Ex.of_grown hg3) (fun i e => own_base hO'.out i e.symm))
        clear hys hO3 hg3
        go_wp2
        refine ⟨⟨k + 1, by have := hk'.out; omega, by go_num, ?_, hB3.out⟩, by simp [intOf]; have := hk'.out; omega⟩
        rw [hstep.out, hls'.out, hys'.out]; exact hO3'.out
      · have e1 : fs.take k = fs := List.take_of_length_le (by omega)
        have hls2 := Aside0.mk (show fs.map (fmtF rs) = ls by rw [← hls'.out, e1])
        clear e1
        obtain ⟨Aq, cq, rfl⟩ := own_slice hO'.out
        have hSt' := Aside0.mk (OSt.same hO'.out).2
        have hjl := Aside0.mk (show (Lib.join ls [32]).length ≤ 700 by rw [← hls2.out]; have := txtI_len rs fs fs.length hlf.out; rwa [txtI_all rs fs _ (Nat.le_refl _)] at this)
        have hll := Aside0.mk (show ls.length ≤ 1000000 by rw [← hls2.out]; have := hlf.out; simp; omega)
        have hq0 := blk_cell hbxr.out
        have hfr := Aside0.mk (fun W (hS : On wr W) => iFormatRelations_calls W A0 c0 rs (h0'.out.on ((hB1.out.trans hB'.out).trans hS)))
        obtain ⟨tr, htr⟩ : ∃ tr, fmtR rs = tr := ⟨_, rfl⟩
        rw [htr] at hcat hrl hfr
        clear htr
        have c1' := cat1 tr 59
        have z1' := szOk1 (a := tr) (by have := hrl.out; omega)
        obtain ⟨j, hj⟩ : ∃ j, Lib.join ls [32] = j := ⟨_, rfl⟩
        have hj' := Aside0.mk hj
        rw [hj] at hjl
        obtain ⟨x, hx⟩ : ∃ x, tr ++ [59] = x := ⟨_, rfl⟩
        have hxl := Aside0.mk (show x.length ≤ 101 by rw [← hx]; have := hrl.out; simp; omega)
        rw [hx] at c1'
        have c5 := strB_append x j
        have z5 := szOk (a := x) (b := j) (by have := hjl.out; have := hxl.out; omega)
        have hfin := Aside0.mk (show x ++ j = fmtI rs fs by rw [hcat.out, ← hx, ← hj, hls2.out])
        clear hj hx
        go_wp2_with (go_at_call 38; refine Stop.out ?_)
        refine ⟨(hfr.out wr (On.refl _)).mono ?_⟩
        rintro e w5 ⟨rfl, hb5⟩
        have hb5' := Aside0.mk hb5
        clear hq0 hb5
        go_wp2_with (go_at_call 65; refine Stop.out ?_)
        have h := Join_calls w5 Aq cq ls [32] (hSt'.out.on hb5'.out) hll.out (by rw [hj'.out]; have := hjl.out; omega)
        rw [hj'.out] at h
        refine ⟨h.mono ?_⟩
        clear h
        rintro e w6 ⟨rfl, hb6⟩
        have hb6' := Aside0.mk (hb5'.out.trans hb6)
        clear hb6
        go_wp2
        go_ret
        exact ⟨by rw [← hfin.out]; rfl, (hB1.out.trans hB'.out).trans hb6'.out⟩
end Go.Proofs.YtgemaohdlibboaaGreatDoor.H
/- Walks: texts cut, relations looked up, on both sides. No condition. -/
namespace Go.Proofs.YtgemaohdlibboaaGreatDoor.H
open Go Go.RowKit Go.Proofs.YtgemaohdlibboaaGreatDoorW.PrintWords Go.Proofs.YtgemaohdlibboaaGreatDoorW.PrintLast
open Go.Proofs.YtgemaohdlibboaaGreatDoor.Reg (On on_draw)
set_option maxHeartbeats 4000000
set_option maxRecDepth 100000
set_option linter.unusedVariables false
set_option linter.unusedSimpArgs false

theorem encS_map (ss : List (List UInt8)) : (ss.map strB).map Value.string = ss.flatMap encS := by
  induction ss with
  | nil => rfl
  | cons x ss ih => simp at ih ⊢; exact ih
theorem Split_calls (w : World) (s : List UInt8) (c : UInt8) (hl : s.length ≤ 2000000) : Calls Tryz.prog 56 #[.string (strB s), .string (strB [c])] w (Got fun v w' => OSt w' w.heap.size v (cutS c s) ∧ On w w') := by
  have hsz : (strB s).size < 4294967281 := by rw [strB_size]; omega
  have h1 : 1 ≤ (strB [c]).size := by rw [strB_size]; simp
  have hle := Lib.countB_le (strB [c]) h1 (strB s).size (strB s) (Nat.le_refl _)
  have hlen := Lib.splitB_all (strB [c]) h1 0 _ (strB s) rfl
  have hI : ∀ (x : ByteArray) (cs : Array Value), x.size ≤ (strB s).size → Calls Tryz.prog 180 #[.string x, .string (strB [c])] (w.alloc (.cells cs 9 (0, 0))) fun e w' => e = .returned (.int .i64 (Lib.indexB x (strB [c]))) ∧ w' = w.alloc (.cells cs 9 (0, 0)) := fun x cs _ => by
    have h := Tryz.strings_Index_one x c (w.alloc (.cells cs 9 (0, 0)))
    have e : Lib.indexB x (strB [c]) = Lib.indexByte x.data.toList c := by
      show Lib.index x.data.toList (strB [c]).data.toList = _
      rw [strB_data, Lib.index_one]
    rw [e]
    exact h
  have hC : Calls Tryz.prog 179 #[.string (strB s), .string (strB [c])] w fun e w' => e = .returned (.int .i64 (Lib.countB (strB s) (strB [c]))) ∧ w' = w := by
    refine (Tryz.strings_Count_one (strB s) c w).mono fun e w' ⟨he, hw⟩ => ⟨?_, hw⟩
    rw [he]
    show _ = Ending.returned (Value.int .i64 ((Lib.count (strB s).data.toList (strB [c]).data.toList : Nat) : Int))
    rw [strB_data [c], Lib.count_one]
    rfl
  have key := Any.strings_genSplit_core Tryz.lays221 (by kernel_rfl) (strB s) (strB [c]) 0 (-1) (Lib.countB (strB s) (strB [c]) + 1) w hsz h1 (Nat.zero_le _) hI hC (by decide) (by decide) (by rw [if_pos (by decide)]; omega)
  rw [Nat.add_sub_cancel, hlen] at key
  have e2 : Lib.cellsOf (Lib.splitB (strB [c]) 0 (Lib.countB (strB s) (strB [c])) (strB s)) (Lib.countB (strB s) (strB [c]) + 1) = ((Lib.splitB (strB [c]) 0 (Lib.countB (strB s) (strB [c])) (strB s)).map Value.string).toArray := by rw [← hlen]; exact Lib.cellsOf_full _
  rw [e2, splitB_cut, encS_map] at key
  have hn : Lib.countB (strB s) (strB [c]) + 1 = (cutS c s).length := by rw [← hlen, splitB_cut, List.length_map]
  rw [hn] at key
  have key2 : Calls Tryz.prog 130 #[.string (strB s), .string (strB [c]), .int .i64 0, .int .i64 (-1)] w fun e w' => e = .returned (.slice (some ⟨w.heap.size, 0, none⟩) (cutS c s).length (cutS c s).length) ∧ w' = w.alloc (.cells ((cutS c s).flatMap encS).toArray 9 (0, 0)) := key
  have hO := World.ownsRow_lit (base := w.heap.size) (e := 9) (size := 1) w ((cutS c s).flatMap encS).toArray (cutS c s).length (Nat.le_refl _) (by simp [maxLen]; rw [← hn]; rw [strB_size] at hle; omega) (by rw [List.size_toArray, flat_len (enc := encS) (sz := 1) (fun _ => rfl)])
  have hO' := Aside0.mk hO
  clear hO key hI hC e2 hlen hle h1 hsz hn
  go_enter Tryz.func56, Tryz.ntmps56
  go_wp2_with (go_at_call 130; refine key2.mono ?_; rintro e w1 ⟨rfl, rfl⟩)
  go_ret
  exact ⟨_, rfl, hO'.out, On.alloc (On.refl _) _⟩
theorem idx_beq (rs : List Rel) (nm : List UInt8) (k : Nat) (h : k < rs.length) : (rs[k].1.toList == (strB nm).toList) = decide (rs[k].1.data.toList = nm) := by
  rw [ByteArray.toList_eq, ByteArray.toList_eq, strB_data, Bool.eq_iff_iff]; simp
abbrev nmP (nm : List UInt8) : Rel → Bool := fun r => decide (r.1.data.toList = nm)
theorem sRelationIndex_calls (w : World) (A : Option Addr) (c : Nat) (rs : List Rel) (h : Rels w A c rs) (nm : List UInt8) : Calls Tryz.prog 117 #[.slice A rs.length c, .string (strB nm)] w fun e w' => e = .returned (.int .i64 (idxFrom (nmP nm) rs 0)) ∧ On w w' := by
  have hmax := h.max
  go_enter Tryz.func117, Tryz.ntmps117
  go_wp2
  go_loopw [5] (fun v wr => ∃ k : Nat, k ≤ rs.length ∧ v = .int .i64 k ∧ Hid (idxFrom (nmP nm) (rs.drop k) k = idxFrom (nmP nm) rs 0) ∧ On w wr) (fun v _ => rs.length - (intOf v).toNat)
  case atStart => exact ⟨0, Nat.zero_le _, rfl, rfl, On.refl _⟩
  case round =>
    obtain ⟨k, hk, rfl, hp, hB⟩ := hrel
    by_cases hlt : k < rs.length
    · obtain ⟨ad, rfl, hx0, hx1, hx2⟩ := (h.on hB).at k hlt
      have hst := Aside0.mk ((idxFrom_step (nmP nm) rs k hlt).symm.trans hp.out)
      have hbq := idx_beq rs nm k hlt
      clear hp hx1 hx2
      cases hv : decide (rs[k].1.data.toList = nm) with
      | true =>
        rw [hv] at hbq
        have hv' := Aside0.mk (show nmP nm rs[k] = true from hv)
        clear hv
        go_wp2
        go_ret
        exact ⟨ret_int (by have := hst.out; rw [hv'.out, if_pos rfl] at this; exact this), hB⟩
      | false =>
        rw [hv] at hbq
        have hv' := Aside0.mk (show nmP nm rs[k] = false from hv)
        clear hv
        go_wp2
        exact ⟨⟨k + 1, by omega, by go_num, (by have := hst.out; rwa [hv'.out, if_neg (by simp)] at this : _ = _), hB⟩, by simp [intOf]; omega⟩
    · go_wp2
      go_ret
      exact ⟨ret_int (by rw [← hp.out, List.drop_of_length_le (by omega)]; rfl), hB⟩
theorem RelIdx1_calls (w : World) (r : Rel) (nm : List UInt8) (b : Nat) (hb0 : w.heap[b]? = some (.cells #[.string (strB nm)] 9 (0, 0))) : Calls Tryz.prog 168 #[.agg #[.string r.1, .int .i64 r.2.1, .bool r.2.2], .pointer (some ⟨b, 0, none⟩)] w fun e w' => e = .returned (.bool (nmP nm r)) ∧ On w w' := by
  have hb := Aside0.mk (On.alloc (On.refl w) (.cells #[.string r.1, .int .i64 r.2.1, .bool r.2.2] 95))
  have hc := blk_cell (blk_below hb0 hb.out)
  have hlt := Aside0.mk (blk_lt hb0)
  have hbq : (r.1.toList == (strB nm).toList) = nmP nm r := by
    rw [ByteArray.toList_eq, ByteArray.toList_eq, strB_data, Bool.eq_iff_iff]; simp [nmP]
  have hbq' := Aside0.mk hbq
  clear hb0 hbq
  go_enter Tryz.func168, Tryz.ntmps168
  go_wp2
  go_ret
  exact ⟨ret_bool hbq'.out, hb.out⟩
theorem IndexFuncR_calls (w : World) (A c) (fs : List Rel) (h : Rels w A c fs) {fn : FuncId} {F : Func} (caps : Array Value) (p : Rel → Bool) (hf : Tryz.prog.funcs[fn]? = some F) (hname : (F.name == "runtime.NumGoroutine") = false) (hbd : F.body.isSome = true)
    (hcl : ∀ (w' : World), On w w' → ∀ (r : Rel), Calls Tryz.prog fn (#[.agg #[.string r.1, .int .i64 r.2.1, .bool r.2.2]] ++ caps) w' fun e w'' => e = .returned (.bool (p r)) ∧ On w' w'') :
    Calls Tryz.prog 167 #[.slice A fs.length c, .func (.func fn) #[] caps] w fun e w' => e = .returned (.int .i64 (idxFrom p fs 0)) ∧ On w w' := by
  have hmax := h.max
  go_enter Tryz.func167, Tryz.ntmps167
  go_wp2
  go_loopw [8] (fun v wr => ∃ k : Nat, k ≤ fs.length ∧ v = .int .i64 k ∧ Hid (idxFrom p (fs.drop k) k = idxFrom p fs 0) ∧ On w wr) (fun v _ => fs.length - (intOf v).toNat)
  case atStart => exact ⟨0, Nat.zero_le _, rfl, rfl, On.refl _⟩
  case round =>
    obtain ⟨k, hk, rfl, hp, hB⟩ := hrel
    by_cases hlt : k < fs.length
    · obtain ⟨ad, rfl, hx0, hx1, hx2⟩ := (h.on hB).at k hlt
      have hst := Aside0.mk ((idxFrom_step p fs k hlt).symm.trans hp.out)
      clear hp
      have hc2 := Aside0.mk (hcl wr hB fs[k])
      cases hv : p fs[k] with
      | true =>
        rw [hv] at hc2
        have hv' := Aside0.mk hv
        clear hv
        go_wp2_with (refine gate 16 ?_)
        refine ⟨goesC 16 hf hname hbd (hc2.out.mono fun e w2 h2 => ⟨_, h2.1, ?_⟩)⟩
        have hb2 := Aside0.mk h2.2
        clear h2
        go_wp2
        go_ret
        exact ⟨ret_int (by have := hst.out; rw [hv'.out, if_pos rfl] at this; exact this), hB.trans hb2.out⟩
      | false =>
        rw [hv] at hc2
        have hv' := Aside0.mk hv
        clear hv
        go_wp2_with (refine gate 16 ?_)
        refine ⟨goesC 16 hf hname hbd (hc2.out.mono fun e w2 h2 => ⟨_, h2.1, ?_⟩)⟩
        have hb2 := Aside0.mk h2.2
        clear h2
        go_wp2
        exact ⟨⟨k + 1, by omega, by go_num, (by have := hst.out; rwa [hv'.out, if_neg (by simp)] at this : _ = _), hB.trans hb2.out⟩, by simp [intOf]; omega⟩
    · go_wp2
      go_ret
      exact ⟨ret_int (by rw [← hp.out, List.drop_of_length_le (by omega)]; rfl), hB⟩
theorem iRelationIndex_calls (w : World) (A : Option Addr) (c : Nat) (rs : List Rel) (h : Rels w A c rs) (nm : List UInt8) : Calls Tryz.prog 111 #[.slice A rs.length c, .string (strB nm)] w fun e w' => e = .returned (.int .i64 (idxFrom (nmP nm) rs 0)) ∧ On w w' := by
  have hb := Aside0.mk (On.alloc (On.refl w) (.cells #[.string (strB nm)] 9))
  have hL := Aside0.mk (loc_new w #[.string (strB nm)] 9)
  go_enter Tryz.func111, Tryz.ntmps111
  go_wp2_with (go_at_call 167; refine (IndexFuncR_calls _ A c rs (h.on hb.out) (fn := 168) #[.pointer (some ⟨w.heap.size, 0, none⟩)] (nmP nm) Tryz.func168 (by kernel_rfl) rfl (fun w' hw r => RelIdx1_calls w' r nm w.heap.size (blk_below hL.out hw))).mono ?_; rintro e w3 ⟨rfl, hb3⟩)
  go_ret
  exact ⟨rfl, hb.out.trans hb3⟩
end Go.Proofs.YtgemaohdlibboaaGreatDoor.H
/- Walks: texts cut at a sign, on both sides. No condition. -/
namespace Go.Proofs.YtgemaohdlibboaaGreatDoor.H
open Go Go.RowKit Go.Proofs.YtgemaohdlibboaaGreatDoorW.PrintWords Go.Proofs.YtgemaohdlibboaaGreatDoorW.PrintLast
open Go.Proofs.YtgemaohdlibboaaGreatDoor.Reg (On on_draw)
set_option maxHeartbeats 4000000
set_option maxRecDepth 100000
set_option linter.unusedVariables false
set_option linter.unusedSimpArgs false

theorem TrimSuffix_calls (w : World) (s : List UInt8) (hl : s.length ≤ 2000000) : Calls Tryz.prog 112 #[.string (strB s), .string (strB [41])] w fun e w' => e = .returned (.string (strB (Lib.trimSuffix s [41]))) ∧ On w w' := by
  refine (Tryz.strings_TrimSuffix (strB s) (strB [41]) w (by rw [strB_size]; omega)).mono fun e w' ⟨he, hw⟩ => ?_
  subst hw
  rw [he, strB_data, strB_data]
  exact ⟨rfl, On.refl _⟩
theorem cutP_lib (s : List UInt8) : Lib.trimPrefix s [43] = (cutP s).1 ∧ Lib.hasPrefix s [43] = (cutP s).2 := by
  unfold Lib.trimPrefix Lib.hasPrefix
  cases s with
  | nil => exact ⟨rfl, rfl⟩
  | cons b r =>
    have hh : cutP (b :: r) = if b = 43 then (r, true) else (b :: r, false) := rfl
    rw [hh]
    by_cases h : b = 43
    · subst h; simp
    · rw [if_neg h]
      have : ([43] : List UInt8).isPrefixOf (b :: r) = false := by simp [List.isPrefixOf]; exact fun e => h e.symm
      rw [this]; simp
theorem CutPrefix_calls (w : World) (s : List UInt8) : Calls Tryz.prog 106 #[.string (strB s), .string (strB [43])] w fun e w' => e = .returned (.tuple #[.string (strB (cutP s).1), .bool (cutP s).2]) ∧ On w w' := by
  refine (Tryz.strings_CutPrefix (strB s) (strB [43]) w).mono fun e w' ⟨he, hw⟩ => ?_
  subst hw
  rw [he, strB_data, strB_data, (cutP_lib s).1, (cutP_lib s).2]
  exact ⟨rfl, On.refl _⟩
theorem sliteCut_calls (w : World) (s : List UInt8) (c : UInt8) (hl : s.length ≤ 2000000) : Calls Tryz.prog 129 #[.string (strB s), .string (strB [c])] w fun e w' => e = .returned (.tuple #[.string (strB (Lib.cut s [c]).1), .string (strB (Lib.cut s [c]).2.1), .bool (Lib.cut s [c]).2.2]) ∧ On w w' := by
  have hix := Aside0.mk (Tryz.stringslite_Index_one (strB s) c)
  rcases cut_cases c s with h | ⟨a, b, h, h2⟩
  · have hcut := Aside0.mk (cut_none h)
    have hi := Aside0.mk (show Lib.indexByte (strB s).data.toList c = -1 by rw [strB_data, ← Lib.index_one, index_none h])
    clear h
    go_enter Tryz.func129, Tryz.ntmps129
    go_wp2_with (go_at_call 177; refine (hix.out _).mono ?_; rintro e w1 ⟨rfl, rfl⟩; rw [hi.out])
    go_ret3
    exact ⟨by rw [hcut.out]; rfl, On.refl _⟩
  · have hcut := Aside0.mk (show Lib.cut s [c] = (a, b, true) by rw [h]; exact cut_app b h2)
    have hi := Aside0.mk (show Lib.indexByte (strB s).data.toList c = (a.length : Int) by rw [strB_data, ← Lib.index_one, h, index_app b h2])
    have hsl : s.length = a.length + 1 + b.length := by rw [h]; simp; omega
    have e1 : (strB s).extract 0 a.length = strB a := by rw [strB_extract, h]; simp
    have e2 : (strB s).extract (a.length + 1) (strB s).size = strB b := by rw [strB_rest, h]; simp
    have hss : (strB s).size = s.length := strB_size s
    have hs1 : (strB [c]).size = 1 := by rw [strB_size]; rfl
    have b1 : (a.length : Int) ≤ ((strB s).size : Int) := by rw [hss]; omega
    have b2 : (a.length : Int) + 1 ≤ ((strB s).size : Int) := by rw [hss]; omega
    have hs := Aside0.mk (And.intro hsl hss)
    have bn1 : a.length ≤ (strB s).size := by rw [hss]; omega
    have bn2 : a.length + 1 ≤ (strB s).size := by rw [hss]; omega
    have hwr : IntKind.i64.wrap ((a.length : Int) + 1) = ((a.length + 1 : Nat) : Int) := by rw [IntWalk.i64_in _ (by omega)]; omega
    clear h h2 hsl hss
    go_enter Tryz.func129, Tryz.ntmps129
    go_wp2_with (go_at_call 177; refine (hix.out _).mono ?_; rintro e w1 ⟨rfl, rfl⟩; rw [hi.out])
    refine Reg.region [(0,.P),(1,.P),(2,.P),(3,.P),(4,.P),(5,.P),(6,.P),(7,.P),(8,.P)] [9,10,11] (by kernel_rfl) (by kernel_rfl) ?_
    repeat first | refine sP ?_ | refine sS ?_ | refine sA ?_ | refine sL ?_ | refine sQ ?_ | refine sO ?_
    refine Reg.tail_ fun w2 hS => ?_
    go_wp2
    go_ret3
    exact ⟨by rw [hcut.out]; rfl, hS⟩
theorem Cut_calls (w : World) (s : List UInt8) (c : UInt8) (hl : s.length ≤ 2000000) : Calls Tryz.prog 55 #[.string (strB s), .string (strB [c])] w fun e w' => e = .returned (.tuple #[.string (strB (Lib.cut s [c]).1), .string (strB (Lib.cut s [c]).2.1), .bool (Lib.cut s [c]).2.2]) ∧ On w w' := by
  go_enter Tryz.func55, Tryz.ntmps55
  go_wp2_with (go_at_call 129; refine (sliteCut_calls _ s c hl).mono ?_; rintro e w1 ⟨rfl, hb1⟩)
  go_ret3
  exact ⟨rfl, hb1⟩
theorem cutS_hit {c : UInt8} {s : List UInt8} {i : Nat} (h : i < s.length) (hc : s[i] = c) : cutS c (s.drop i) = [] :: cutS c (s.drop (i + 1)) := by
  rw [List.drop_eq_getElem_cons h, cutS, if_pos hc]
theorem cutS_miss {c : UInt8} {s : List UInt8} {i : Nat} (h : i < s.length) (hc : s[i] ≠ c) : cutS c (s.drop i) = preP [s[i]] (cutS c (s.drop (i + 1))) := by
  rw [List.drop_eq_getElem_cons h, cutS, if_neg hc]
theorem take_one {s : List UInt8} {fr i : Nat} (h : i < s.length) (hf : fr ≤ i) : (s.drop fr).take (i + 1 - fr) = (s.drop fr).take (i - fr) ++ [s[i]] := by
  rw [show i + 1 - fr = (i - fr) + 1 by omega, List.take_succ_eq_append_getElem (by simp; omega), List.getElem_drop]
  simp only [show fr + (i - fr) = i by omega]
theorem strB_get (s : List UInt8) (i : Nat) (h : i < s.length) (k : i < (strB s).size) : (strB s)[i]'k = s[i]'h := by
  simp [strB, ByteArray.getElem_eq_getElem_data]
theorem strB_at (s : List UInt8) (i : Nat) (h : i < s.length) (b : UInt8) (hb : s[i] = b) : ∀ k : i < (strB s).size, (((strB s)[i]'k).toNat : Int) = (b.toNat : Int) := fun k => by
  rw [strB_get s i h k, hb]
theorem l3Cut_calls (w : World) (s : List UInt8) (c : UInt8) (hl : s.length ≤ 2000000) : Calls Tryz.prog 54 #[.string (strB s), .int .u8 (c.toNat : Int)] w (Got fun v w' => OSt w' w.heap.size v (cutS c s) ∧ On w w') := by
  have hss := Aside0.mk (strB_size s)
  have hl' := Aside0.mk hl
  clear hl
  go_enter Tryz.func54, Tryz.ntmps54
  go_wp2
  go_loopw [5, 6, 7] (fun v5 v6 v7 wr => ∃ (i fr : Nat) (ls : List (List UInt8)), fr ≤ i ∧ i ≤ s.length ∧ v6 = .int .i64 fr ∧ v7 = .int .i64 i ∧ OSt wr w.heap.size v5 ls ∧ ls.length ≤ i ∧ Aside0 (ls ++ preP ((s.drop fr).take (i - fr)) (cutS c (s.drop i)) = cutS c s) ∧ On w wr) (fun _ _ v7 _ => s.length - (intOf v7).toNat)
  case atStart => exact ⟨0, 0, [], Nat.le_refl _, Nat.zero_le _, rfl, rfl, ownS0 rfl (Nat.le_refl _), Nat.le_refl _, ⟨by simp [preP_nil]⟩, On.alloc (On.refl _) _⟩
  case round =>
    obtain ⟨i, fr, ls, hf, hi, rfl, rfl, hO, hll, hp, hB⟩ := hrel
    have hO' := Aside0.mk hO
    have hB' := Aside0.mk hB
    have hfi := Aside0.mk (And.intro hf hll)
    clear hO hB hll
    by_cases hlt : i < s.length
    · have hb1 : i < (strB s).size := by rw [hss.out]; exact hlt
      have hlt' := Aside0.mk hlt
      have hwk := Aside0.mk (show wrap64 ((i : Int) + 1) = ((i + 1 : Nat) : Int) by rw [IntWalk.wrap64_in _ (by have := hl'.out; omega)]; omega)
      have hil := Aside0.mk (show i + 1 ≤ s.length from hlt)
      obtain ⟨b, hbb⟩ : ∃ b, s[i]'hlt = b := ⟨_, rfl⟩
      have hat := strB_at s i hlt b hbb
      by_cases hc : b = c
      · have hce := Aside0.mk (cutS_hit hlt (hbb.trans hc))
        have hbc : ((b.toNat : Int) == (c.toNat : Int)) = true := by rw [hc]; simp
        have hbe : ((b.toNat : Int) = (c.toNat : Int)) = True := eq_true (by rw [hc])
        have e1 : (strB s).extract fr i = strB ((s.drop fr).take (i - fr)) := strB_extract s fr i
        have hz1 : (i : Int) ≤ ((strB s).size : Int) := by omega
        have hz2 : fr ≤ i := hf
        clear hc hbb hlt
        go_wp2_with (refine gate 25 ?_)
        refine ⟨litS1 25 (y := (s.drop fr).take (i - fr)) ?_⟩
        have hOA := Aside0.mk (own_ex hO'.out (Ex.of_on (S := fun _ => False) (On.alloc (On.refl wr) (.cells #[.string (strB ((s.drop fr).take (i - fr)))] 9 (0, 0)))) (fun _ _ h => h))
        have hBA := Aside0.mk (hB'.out.trans (On.alloc (On.refl wr) (.cells #[.string (strB ((s.drop fr).take (i - fr)))] 9 (0, 0))))
        obtain ⟨ys, hys⟩ : ∃ ys, ls ++ [(s.drop fr).take (i - fr)] = ys := ⟨_, rfl⟩
        have hys' := Aside0.mk hys
        refine apS1 26 hys hOA.out (lit_S wr ((s.drop fr).take (i - fr))) hBA.out.size (by have := hfi.out; have := hlt'.out; have := hl'.out; omega) fun v3 w3 hO3 hg3 => ?_
        have hO3' := Aside0.mk hO3
        have hB3 := Aside0.mk (Ex.on hBA.out (Ex.of_grown hg3) (fun i e => own_base hO'.out i e.symm))
        clear hys hO3 hg3
        go_wp2
        refine ⟨⟨i + 1, i + 1, ys, Nat.le_refl _, hil.out, by rw [hwk.out], by rw [hwk.out], hO3'.out, by rw [← hys'.out]; have := hfi.out; simp; omega, ⟨?_⟩, hB3.out⟩, by rw [hwk.out]; simp [intOf]; have := hil.out; omega⟩
        have := hp.out
        rw [hce.out, preP, List.append_nil] at this
        rw [← hys'.out, Nat.sub_self, List.take_zero, preP_nil, List.append_assoc]
        exact this
      · have hce := Aside0.mk (cutS_miss hlt (by rw [hbb]; exact hc))
        have hto := Aside0.mk (take_one hlt hf)
        rw [hbb] at hce hto
        have hbc : ((b.toNat : Int) == (c.toNat : Int)) = false := by simp; exact fun e => hc (UInt8.toNat_inj.1 (by omega))
        have hbe : ((b.toNat : Int) = (c.toNat : Int)) = False := eq_false (fun e => hc (UInt8.toNat_inj.1 (by omega)))
        clear hc hbb hlt
        go_wp2
        refine ⟨⟨i + 1, fr, ls, by have := hfi.out; omega, hil.out, rfl, by rw [hwk.out], hO'.out, by have := hfi.out; omega, ⟨by rw [hto.out]; have := hp.out; rw [hce.out, preP_preP] at this; exact this⟩, hB'.out⟩, by rw [hwk.out]; simp [intOf]; have := hil.out; omega⟩
    · have e1 : (strB s).extract fr (strB s).size = strB (s.drop fr) := strB_rest s fr
      have hz1 : fr ≤ (strB s).size := by rw [hss.out]; omega
      have hz3 : (fr : Int) ≤ ((strB s).size : Int) := by omega
      have hz2 : ¬ i < (strB s).size := by rw [hss.out]; exact hlt
      have hfin := Aside0.mk (show ls ++ [s.drop fr] = cutS c s by
        have h := hp.out
        rw [List.drop_eq_nil_of_le (by omega : s.length ≤ i), cutS, preP, List.append_nil, List.take_of_length_le (by simp; omega)] at h
        exact h)
      have hii := Aside0.mk (And.intro hi hlt)
      clear hlt hi hp
      go_wp2_with (refine gate 33 ?_)
      refine ⟨litS1 33 (y := s.drop fr) ?_⟩
      have hOA := Aside0.mk (own_ex hO'.out (Ex.of_on (S := fun _ => False) (On.alloc (On.refl wr) (.cells #[.string (strB (s.drop fr))] 9 (0, 0)))) (fun _ _ h => h))
      have hBA := Aside0.mk (hB'.out.trans (On.alloc (On.refl wr) (.cells #[.string (strB (s.drop fr))] 9 (0, 0))))
      refine apS1 34 hfin.out hOA.out (lit_S wr (s.drop fr)) hBA.out.size (by have := hfi.out; have := hl'.out; have := hii.out; omega) fun v3 w3 hO3 hg3 => ?_
      have hO3' := Aside0.mk hO3
      have hB3 := Aside0.mk (Ex.on hBA.out (Ex.of_grown hg3) (fun i e => own_base hO'.out i e.symm))
      clear hO3 hg3
      go_wp2
      go_ret
      exact ⟨_, rfl, hO3'.out, hB3.out⟩
end Go.Proofs.YtgemaohdlibboaaGreatDoor.H
/- Walks: marks of instances, and whether they hold. No condition. -/
namespace Go.Proofs.YtgemaohdlibboaaGreatDoor.H
open Go Go.RowKit Go.Proofs.YtgemaohdlibboaaGreatDoorW.PrintWords Go.Proofs.YtgemaohdlibboaaGreatDoorW.PrintLast
open Go.Proofs.YtgemaohdlibboaaGreatDoor.Reg (On on_draw)
set_option maxHeartbeats 1000000
set_option maxRecDepth 100000
set_option linter.unusedVariables false
set_option linter.unusedSimpArgs false

theorem markF_at (k : Int) (l : List Nat) (i : Nat) (h : i < l.length) : (markF k l)[i]'(by rw [markF_len]; exact h) = (k + cF (l.take i), markI (k + cF (l.take i) + 1) l[i]) := by
  induction l generalizing k i with
  | nil => simp at h
  | cons m l ih =>
    cases i with
    | zero => simp [markF, cF]
    | succ i =>
      have h' : i < l.length := by simpa using h
      have e : k + 1 + (m : Int) + cF (l.take i) = k + cF ((m :: l).take (i + 1)) := by simp [cF]; omega
      simp only [markF, List.getElem_cons_succ]
      rw [ih (k + 1 + m) i h', e]
theorem cF_take_succ (l : List Nat) (k : Nat) (h : k < l.length) : cF (l.take (k + 1)) = cF (l.take k) + (l[k] + 1) := by
  rw [List.take_succ_eq_append_getElem h, cF_snoc]
theorem cF_len (l : List Nat) : l.length ≤ cF l := by
  unfold cF
  induction l with
  | nil => simp
  | cons m l ih => simp at ih ⊢; omega
theorem heldFactS_calls (w : World) (A c) (l : List Nat) (k0 : Int) (h : Fcts w A c (markF k0 l)) (h0 : 0 ≤ k0) (h1 : k0 + cF l ≤ 10000000) : Calls Tryz.prog 62 #[.slice A l.length c, .int .i64 k0] w fun e w' => e = .returned (.int .i64 (k0 + cF l)) ∧ On w w' := by
  have hl := Aside0.mk (markF_len k0 l)
  have hlmax : l.length ≤ 10000000 := by have := cF_len l; omega
  go_enter Tryz.func62, Tryz.ntmps62
  go_wp2
  go_loopw [5, 1] (fun v5 v1 wr => ∃ k : Nat, k ≤ l.length ∧ v5 = .int .i64 k ∧ v1 = .int .i64 (k0 + cF (l.take k)) ∧ On w wr) (fun v5 _ _ => l.length - (intOf v5).toNat)
  case atStart => exact ⟨0, Nat.zero_le _, rfl, by simp [cF], On.refl _⟩
  case round =>
    obtain ⟨k, hk, rfl, rfl, hB⟩ := hrel
    by_cases hlt : k < l.length
    · obtain ⟨ad, A1, c1, rfl, hx0, hx1, hx2⟩ := (h.on hB).at k (by rw [hl.out]; exact hlt)
      rw [markF_at k0 l k hlt] at hx0 hx1 hx2
      have hcm := Aside0.mk (cF_take_succ l k hlt)
      have hcl := Aside0.mk (cF_take_le l (k + 1))
      obtain ⟨m, hm⟩ : ∃ m : Int, k0 + cF (l.take k) = m := ⟨_, rfl⟩
      have hm' := Aside0.mk hm
      rw [hm] at hx0 hx1 hx2
      have hx2' := Aside0.mk hx2
      replace hx1 : wr.cell? ⟨(ad.add (k * 2)).block, (ad.add (k * 2)).off + 1, none⟩ = some (.slice A1 l[k] c1) := by rw [hx1, markI_len]
      clear hx2 hcl
      have hm0 := Aside0.mk (show 0 ≤ m ∧ m + 1 + l[k] ≤ 10000000 by have := hcm.out; have := cF_take_le l (k + 1); omega)
      have hw1 : IntKind.i64.wrap (m + 1) = m + 1 := by have := hm0.out; rw [IntWalk.i64_in _ (by omega)]
      have hneg : decide (m + 1 + (l[k] : Int) < 0) = false := decide_eq_false (by have := hm0.out; omega)
      rw [hm]
      clear hm
      go_wp2_with (go_at_call 135; refine (heldIntS_calls _ A1 c1 l[k] (m + 1) hx2'.out (by have := hm0.out; omega) (by have := hm0.out; omega)).mono ?_; rintro e w2 ⟨rfl, hb2⟩)
      exact ⟨⟨k + 1, by omega, by go_num, by congr 1; have := hcm.out; have := hm'.out; omega, hB.trans hb2⟩, by simp [intOf]; omega⟩
    · go_wp2
      go_ret
      exact ⟨by show Ending.returned (.int .i64 _) = _; rw [List.take_of_length_le (by omega)], hB⟩
/-- The blocks of an instance. -/
def IB (vr vf : Value) (hs : List Hdr) (b : Nat) : Prop := some b = vr.ownBlock ∨ FB vf hs b
theorem FB.not_rel {w : World} {lo lo2 lo3 : Nat} {vr vf : Value} {hs : List Hdr} {rs : List Rel} {fs : List Fct} (hR : OR w lo3 vr rs) (h : OH w lo2 vf hs) (hS : Sep w lo hs fs) {b : Nat} (hb : vr.ownBlock = some b) : ¬ FB vf hs b := by
  rintro (e | ⟨i, a, ha, e⟩)
  · exact own_ne_blk hR h (by decide) hb e.symm
  · have hi : i < fs.length := by rw [← hS.len]; exact (List.getElem?_eq_some_iff.1 ha).1
    exact own_ne_blk hR (hS.at_ i a fs[i] ha (List.getElem?_eq_getElem hi)).2.1 (by decide) hb e.symm
theorem FB.lt {w : World} {lo lo2 : Nat} {vf : Value} {hs : List Hdr} {fs : List Fct} (h : OH w lo2 vf hs) (hS : Sep w lo hs fs) {b : Nat} (hb : FB vf hs b) : b < w.heap.size := by
  rcases hb with e | ⟨i, a, ha, e⟩
  · exact own_lt h b e.symm
  · exact (hS.lt ha e.symm).2
theorem Sep.ex_row {e lo3 sz n : Nat} {cs : List Value} {W w : World} {lo : Nat} {v : Value} {hs : List Hdr} {fs : List Fct} (h : Sep W lo hs fs) (hv : W.ownsRow lo3 e sz v n cs) (he : 3 ≠ e) (k : Ex (fun b => some b = v.ownBlock) W w) : Sep w lo hs fs :=
  h.ex k fun i a b ha hb e' => by
    have hi : i < fs.length := by rw [← h.len]; exact (List.getElem?_eq_some_iff.1 ha).1
    exact own_ne_blk (h.at_ i a fs[i] ha (List.getElem?_eq_getElem hi)).2.1 hv he hb e'.symm
theorem markInstance_calls (w : World) (lo lo2 lo3 : Nat) (vr vf : Value) (hs : List Hdr) (rs : List Rel) (fs : List Fct) (k0 : Int) (hR : OR w lo3 vr rs) (h : OH w lo2 vf hs) (hS : Sep w lo hs fs) (h0 : 1 ≤ k0) (h1 : k0 + 3 * rs.length + wF fs ≤ 10000000) : Calls Tryz.prog 11 #[.agg #[vr, vf], .int .i64 k0] w fun e w' => e = .returned (.int .i64 (k0 + 3 * rs.length + wF fs)) ∧ (∃ hs', OR w' lo3 vr (markR k0 rs.length) ∧ OH w' lo2 vf hs' ∧ Sep w' lo hs' (markF (k0 + 3 * rs.length) (lens fs)) ∧ ∀ b, FB vf hs' b → FB vf hs b) ∧ Ex (IB vr vf hs) w w' := by
  have hnr : ∀ b, vr.ownBlock = some b → ¬ FB vf hs b := fun b hb => FB.not_rel hR h hS hb
  obtain ⟨A0, c0, rfl⟩ := own_slice hR
  obtain ⟨A1, c1, rfl⟩ := own_slice h
  have hb := Aside0.mk (On.alloc (On.refl w) (.cells #[.slice A0 rs.length c0, .slice A1 hs.length c1] 25))
  have hL := Aside0.mk (loc1 w #[.slice A0 rs.length c0, .slice A1 hs.length c1] 25)
  have hm0 := Aside0.mk h1
  go_enter Tryz.func11, Tryz.ntmps11
  go_wp2_with (first | (go_at_call 59; refine (markRelationS_calls _ lo3 _ rs k0 (pw_own_below hR hb.out) h0 (by omega)).mono ?_; rintro e w1 ⟨rfl, hO, hE⟩; have hO' := Aside0.mk hO; have hE' := Aside0.mk hE; have hc0 := blk_cell ((hE.block w.heap.size (by simp) (fun e => absurd (own_lt hR _ e.symm) (by omega))).trans hL.out.1); clear hO hE) | (go_at_call 60; refine (markFactS_calls w1 lo lo2 _ hs fs (k0 + 3 * rs.length) (own_ex (pw_own_below h hb.out) hE'.out (fun b hb1 e => own_ne_blk h hR (by decide) hb1 e.symm)) (Sep.ex_row (hS.on hb.out) (pw_own_below hR hb.out) (by decide) hE'.out) (by omega) (by omega)).mono ?_; rintro e w2 ⟨rfl, ⟨hs', hO2, hS2, hF2⟩, hE2⟩))
  go_ret
  refine ⟨rfl, ⟨hs', ?_, hO2, hS2, hF2⟩, ((Ex.of_on hb.out).trans hE'.out (fun b _ e => .inl e)).trans hE2 (fun b _ e => .inr e)⟩
  show World.ownsRow _ _ _ _ _ (markR k0 rs.length).length _
  exact own_ex hO'.out hE2 (fun b hb1 => hnr b hb1)
theorem heldInstance_calls (w : World) (A0 c0 A1 c1) (n : Nat) (l : List Nat) (k0 : Int) (h0 : Rels w A0 c0 (markR k0 n)) (h1 : Fcts w A1 c1 (markF (k0 + 3 * n) l)) (hk : 1 ≤ k0) (hm : k0 + 3 * n + cF l ≤ 10000000) : Calls Tryz.prog 12 #[.agg #[.slice A0 n c0, .slice A1 l.length c1], .int .i64 k0] w fun e w' => e = .returned (.int .i64 (k0 + 3 * n + cF l)) ∧ On w w' := by
  have hb := Aside0.mk (On.alloc (On.refl w) (.cells #[.slice A0 n c0, .slice A1 l.length c1] 25))
  have hL := Aside0.mk (loc1 w #[.slice A0 n c0, .slice A1 l.length c1] 25)
  have hn1 : decide (k0 + 3 * (n : Int) < 0) = false := decide_eq_false (by omega)
  have hn2 : decide (k0 + 3 * (n : Int) + (cF l : Int) < 0) = false := decide_eq_false (by omega)
  have hm' := Aside0.mk hm
  clear hm
  go_enter Tryz.func12, Tryz.ntmps12
  go_wp2_with (first | (go_at_call 61; refine (heldRelationS_calls _ A0 c0 n k0 (h0.on hb.out) hk (by have := hm'.out; omega)).mono ?_; rintro e w1 ⟨rfl, hb1⟩; have hc0 := blk_cell (Loc.on hb1 hL.out).1) | (go_at_call 62; refine (heldFactS_calls _ A1 c1 l (k0 + 3 * n) (h1.on (hb.out.trans hb1)) (by omega) hm'.out).mono ?_; rintro e w2 ⟨rfl, hb2⟩))
  go_ret
  exact ⟨rfl, (hb.out.trans hb1).trans hb2⟩
end Go.Proofs.YtgemaohdlibboaaGreatDoor.H
/- Walks: the program reads relations. No condition. -/
namespace Go.Proofs.YtgemaohdlibboaaGreatDoor.H
open Go Go.RowKit Go.Proofs.YtgemaohdlibboaaGreatDoorW.PrintWords Go.Proofs.YtgemaohdlibboaaGreatDoorW.PrintLast
open Go.Proofs.YtgemaohdlibboaaGreatDoor.Reg (On on_draw)
set_option maxHeartbeats 4000000
set_option maxRecDepth 100000
set_option linter.unusedVariables false
set_option linter.unusedSimpArgs false

theorem ownR0 {W : World} {g lo : Nat} (hg : g = W.heap.size) (hlo : lo ≤ W.heap.size) : OR (W.alloc (.cells #[] 95 (0, 0))) lo (.slice (some ⟨g, 0, none⟩) 0 0) [] := by
  subst hg
  exact own_lower (World.ownsRow_lit (base := W.heap.size) (e := 95) (size := 3) W #[] 0 (Nat.le_refl _) (by simp [maxLen]) (by simp)) hlo
theorem OR.same2 {w : World} {lo : Nat} {A : Option Addr} {n c : Nat} {rs : List Rel} (h : OR w lo (.slice A n c) rs) : n = rs.length ∧ Rels w A c rs := by
  obtain ⟨A', c', e, hR⟩ := OR.rd h
  injection e with e1 e2 e3
  subst e1 e3
  exact ⟨e2, hR⟩
theorem litR1 (W : World) (r : Rel) : Rels (W.alloc (.cells #[.string r.1, .int .i64 r.2.1, .bool r.2.2] 95 (0, 0))) (some ⟨W.heap.size, 0, none⟩) 1 [r] := by
  have h := World.ownsRow_lit (base := W.heap.size) (e := 95) (size := 3) W #[.string r.1, .int .i64 r.2.1, .bool r.2.2] 1 (Nat.le_refl _) (by simp [maxLen]) (by simp)
  have h' : OR (W.alloc (.cells #[.string r.1, .int .i64 r.2.1, .bool r.2.2] 95 (0, 0))) W.heap.size (.slice (some ⟨W.heap.size, 0, none⟩) 1 1) [r] := h
  exact (OR.same2 h').2
section
variable {ops : Array Oper} {rest : List Oper} {o : Oper} {a : Act} {Q : Exit → Act → World → Prop} {W : World}
/-- A literal of one element. -/
theorem litN1 (N : Tmp) (cs : Array Value) (t : TypeId) (h : wpList Tryz.prog ops Q rest (a.put (some N) (.slice (some ⟨W.heap.size, 0, none⟩) 1 1)) (W.alloc (.cells cs t (0, 0))))
    (hd : o.dst = some N := by rfl) (hg : o.guard = none := by rfl) (hr : (execOp a.eval o).run Tryz.prog W = .ok (.value (.slice (some ⟨W.heap.size, 0, none⟩) 1 1)) (W.alloc (.cells cs t (0, 0))) := by first | (go_simp; done) | (go_simp; rfl)) : wpList Tryz.prog ops Q (o :: rest) a W :=
  Kd.event_run hg hr (by rw [hd]; exact h)
end
theorem str_bne (a b : List UInt8) : ((strB a).toList != (strB b).toList) = decide (a ≠ b) := by
  rw [bne, str_beq]; by_cases h : a = b <;> simp [h]
theorem str_nil (a : List UInt8) : ((strB a).toList == ([] : List UInt8)) = decide (a = []) := by
  rw [ByteArray.toList_eq, strB_data, Bool.eq_iff_iff]; simp
theorem parL_cons (s w : List UInt8) (r : List (List UInt8)) (out : List Rel) : parL s (w :: r) out = (match parW w with | some x => parL s r (out ++ [x]) | none => ([], false)) := by rw [parL]; cases parW w <;> rfl
theorem parL_drop (s : List UInt8) (ws : List (List UInt8)) (k : Nat) (h : k < ws.length) (out : List Rel) : parL s (ws.drop k) out = (match parW ws[k] with | some x => parL s (ws.drop (k + 1)) (out ++ [x]) | none => ([], false)) := by
  rw [List.drop_eq_getElem_cons h, parL_cons]
theorem iParseRelations_calls (w : World) (s : List UInt8) (hl : s.length ≤ 2000000) : Calls Tryz.prog 37 #[.string (strB s)] w (Got fun v w' => ∃ v1, v = .tuple #[v1, .bool (parR s).2] ∧ OR w' w.heap.size v1 (parR s).1 ∧ On w w') := by
  have hl' := Aside0.mk hl
  clear hl
  by_cases c : s = []
  · have hb1 : ((strB s).toList == ([] : List UInt8)) = true := by rw [str_nil]; exact decide_eq_true c
    have hb2 : ((strB s).toList = ([] : List UInt8)) = True := eq_true (beq_iff_eq.1 hb1)
    have hp := Aside0.mk (show parR s = ([], true) by unfold parR; rw [if_pos c])
    clear c
    go_enter Tryz.func37, Tryz.ntmps37
    go_wp2
    go_ret2
    exact ⟨_, rfl, _, by rw [hp.out]; rfl, by rw [hp.out]; exact ownR0 rfl (Nat.le_refl _), On.alloc (On.refl _) _⟩
  · have hb1 : ((strB s).toList == ([] : List UInt8)) = false := by rw [str_nil]; exact decide_eq_false c
    have hb2 : ((strB s).toList = ([] : List UInt8)) = False := eq_false (fun e => by rw [beq_eq_false_iff_ne] at hb1; exact hb1 e)
    have hp := Aside0.mk (show parR s = parL s (cutS 32 s) [] by unfold parR; rw [if_neg c])
    have hwl := Aside0.mk (cutS_len 32 s)
    clear c
    go_enter Tryz.func37, Tryz.ntmps37
    go_wp2_with (go_at_call 56; refine Stop.out ?_)
    refine ⟨(Split_calls _ s 32 hl'.out).mono ?_⟩
    rintro e w1 ⟨v, rfl, hO, hb⟩
    obtain ⟨ws, hws⟩ : ∃ ws, cutS 32 s = ws := ⟨_, rfl⟩
    rw [hws] at hO hp hwl
    obtain ⟨A, n, rfl, hSt⟩ := OSt.slice hO
    have hOw := Aside0.mk (own_lower hO (On.alloc (On.refl w) (.cells #[] 95 (0, 0))).size)
    have hb' := Aside0.mk hb
    have hmx : ws.length ≤ 9223372036854775807 := hSt.max
    clear hO hSt hb hws hb1 hb2
    go_wp2
    go_loopw [4, 16] (fun v4 v16 wr => ∃ (k : Nat) (out : List Rel), k ≤ ws.length ∧ v16 = .int .i64 k ∧ OR wr w.heap.size v4 out ∧ out.length ≤ k ∧ Aside0 (parL s (ws.drop k) out = parL s ws []) ∧ On w wr ∧ OSt wr w.heap.size (.slice A ws.length n) ws) (fun _ v16 _ => ws.length - (intOf v16).toNat)
    case atStart => exact ⟨0, [], Nat.zero_le _, rfl, pw_own_below (ownR0 rfl (Nat.le_refl _)) hb'.out, Nat.le_refl _, ⟨rfl⟩, (On.alloc (On.refl _) _).trans hb'.out, hOw.out⟩
    case round =>
      obtain ⟨k, out, hk, rfl, hO, hol, hq, hB, hOs⟩ := hrel
      have hOs' := Aside0.mk hOs
      have hO' := Aside0.mk hO
      have hol' := Aside0.mk hol
      have hWW := Aside0.mk hB
      clear hB hO hol hOs
      by_cases hlt : k < ws.length
      · obtain ⟨ad, rfl, hx⟩ := (OSt.same hOs'.out).2.cell k hlt
        have hk' := Aside0.mk hlt
        have hst := Aside0.mk ((parL_drop s ws k hlt out).symm.trans hq.out)
        obtain ⟨wd, hwd⟩ : ∃ wd, ws[k] = wd := ⟨_, rfl⟩
        rw [hwd] at hx hst
        clear hwd hq
        by_cases h2 : (cutP wd).1.length = 2
        · obtain ⟨a, b, hab⟩ : ∃ a b, (cutP wd).1 = [a, b] := by
            match hh : (cutP wd).1, h2 with
            | [a, b], _ => exact ⟨a, b, rfl⟩
          obtain ⟨sg, hsg⟩ : ∃ sg, (cutP wd).2 = sg := ⟨_, rfl⟩
          have hpw := Aside0.mk (parW_some (w := wd) (a := a) (b := b) (s := sg) (Prod.ext hab hsg))
          have hab' := Aside0.mk hab
          have hsg' := Aside0.mk hsg
          have hz : (strB [a, b]).size = 2 := by rw [strB_size]; rfl
          have e1 : (strB [a, b]).extract 0 1 = strB [a] := by rw [strB_extract]; rfl
          have hat := strB_at [a, b] 1 (by simp) b rfl
          have hsub : wrap64 ((b.toNat : Int) - 48) = (b.toNat : Int) - 48 := IntWalk.wrap64_in _ (by have := b.toNat_lt; omega)
          have hsub2 : IntKind.i64.wrap ((b.toNat : Int) - 48) = (b.toNat : Int) - 48 := IntWalk.i64_in _ (by have := b.toNat_lt; omega)
          have hwb : wrap64 (b.toNat : Int) = (b.toNat : Int) := IntWalk.wrap64_in _ (by have := b.toNat_lt; omega)
          have hwb2 : IntKind.i64.wrap (b.toNat : Int) = (b.toNat : Int) := IntWalk.i64_in _ (by have := b.toNat_lt; omega)
          clear h2 hab hsg
          go_wp2_with (go_at_call 106; refine (CutPrefix_calls _ wd).mono ?_; rintro e w2 ⟨rfl, hb2⟩; rw [hab'.out, hsg'.out]; have hb2' := Aside0.mk hb2; clear hb2)
          refine Reg.region [(0,.P),(1,.P),(2,.P),(3,.P),(4,.P),(5,.P),(6,.P),(7,.P),(8,.P)] [9,10,11] (by kernel_rfl) (by kernel_rfl) ?_
          repeat first | refine sP ?_ | refine sS ?_ | refine sA ?_ | refine sL ?_ | refine sQ ?_ | refine sO ?_
          refine Reg.tail_ fun w3 hS => ?_
          have hS' := Aside0.mk (hb2'.out.trans hS)
          first | rw [hwb, hsub] | rw [hwb2, hsub2] | skip
          clear hS e1 hat hsub hsub2 hwb hwb2 hz
          refine litN1 38 #[.string (strB [a]), .int .i64 ((b.toNat : Int) - 48), .bool sg] 95 ?_
          have hOA := Aside0.mk (own_ex hO'.out (Ex.of_on (S := fun _ => False) (hS'.out.trans (On.alloc (On.refl w3) (.cells #[.string (strB [a]), .int .i64 ((b.toNat : Int) - 48), .bool sg] 95 (0, 0))))) (fun _ _ h => h))
          have hBA := Aside0.mk (hWW.out.trans (hS'.out.trans (On.alloc (On.refl w3) (.cells #[.string (strB [a]), .int .i64 ((b.toNat : Int) - 48), .bool sg] 95 (0, 0)))))
          obtain ⟨ys, hys⟩ : ∃ ys, out ++ [((strB [a], (b.toNat : Int) - 48, sg) : Rel)] = ys := ⟨_, rfl⟩
          have hys' := Aside0.mk hys
          refine apR 39 hys hOA.out (litR1 w3 (strB [a], (b.toNat : Int) - 48, sg)) hBA.out.size (by have := hol'.out; have := hk'.out; have := hwl.out; have := hl'.out; simp; omega) fun v3 w4 hO3 hg3 => ?_
          have hO3' := Aside0.mk hO3
          have hB3 := Aside0.mk (Ex.on hBA.out (Ex.of_grown hg3) (fun i e => own_base hO'.out i e.symm))
          have hOs3 := Aside0.mk (own_ex (pw_own_below hOs'.out (hS'.out.trans (On.alloc (On.refl w3) (.cells #[.string (strB [a]), .int .i64 ((b.toNat : Int) - 48), .bool sg] 95 (0, 0))))) (Ex.of_grown hg3) (fun i hi e => own_ne_blk (pw_own_below hOs'.out (hS'.out.trans (On.alloc (On.refl w3) (.cells #[.string (strB [a]), .int .i64 ((b.toNat : Int) - 48), .bool sg] 95 (0, 0))))) hOA.out (by decide) hi e.symm))
          clear hys hO3 hg3
          go_wp2
          have h0 := hst.out
          rw [hpw.out] at h0
          exact ⟨⟨k + 1, ys, by have := hk'.out; omega, by go_num, hO3'.out, by rw [← hys'.out]; have := hol'.out; simp; omega, ⟨by rw [← hys'.out]; exact h0⟩, hB3.out, hOs3.out⟩, by simp [intOf]; have := hk'.out; omega⟩
        · have hpw := Aside0.mk (parW_none h2)
          have hz1 : ((strB (cutP wd).1).size : Int) ≠ 2 := by rw [strB_size]; omega
          have hz2 : (((strB (cutP wd).1).size : Int) != 2) = true := bne_iff_ne.mpr hz1
          have hz3 : (((strB (cutP wd).1).size : Int) == 2) = false := beq_eq_false_iff_ne.mpr hz1
          clear h2
          go_wp2_with (go_at_call 106; refine (CutPrefix_calls _ wd).mono ?_; rintro e w2 ⟨rfl, hb2⟩; have hb2' := Aside0.mk hb2; clear hb2)
          go_ret2
          have h0 := hst.out
          rw [hpw.out] at h0
          exact ⟨_, rfl, _, by rw [hp.out, ← h0]; rfl, by rw [hp.out, ← h0]; exact ownR0 rfl (hWW.out.trans hb2'.out).size, (hWW.out.trans hb2'.out).trans (On.alloc (On.refl _) _)⟩
      · have h0 := Aside0.mk hq.out
        obtain ⟨Ao, co, hvo, hRo⟩ := OR.rd hO'.out
        subst hvo
        have hRo' := Aside0.mk hRo
        have hend := Aside0.mk (show (if fmtR out = s then (out, true) else ([], false)) = parR s by rw [hp.out, ← h0.out, List.drop_of_length_le (by omega)]; rw [parL])
        clear hRo hq
        by_cases e : fmtR out = s
        · have hbn : ((strB (fmtR out)).toList != (strB s).toList) = false := by rw [str_bne]; simp [e]
          have hbm : ((strB (fmtR out)).toList == (strB s).toList) = true := by rw [str_beq]; simp [e]
          have hbo : ((strB (fmtR out)).toList = (strB s).toList) = True := eq_true (beq_iff_eq.1 hbm)
          have he := Aside0.mk e
          clear e
          go_wp2_with (go_at_call 38; refine (iFormatRelations_calls _ Ao co out hRo'.out).mono ?_; rintro e w2 ⟨rfl, hb2⟩; have hb2' := Aside0.mk hb2; clear hb2)
          go_ret2
          have h1 := hend.out
          rw [if_pos he.out] at h1
          exact ⟨_, rfl, _, by rw [← h1]; rfl, by rw [← h1]; exact pw_own_below hO'.out hb2'.out, hWW.out.trans hb2'.out⟩
        · have hbn : ((strB (fmtR out)).toList != (strB s).toList) = true := by rw [str_bne]; simp [e]
          have hbm : ((strB (fmtR out)).toList == (strB s).toList) = false := by rw [str_beq]; simp [e]
          have hbo : ((strB (fmtR out)).toList = (strB s).toList) = False := eq_false (fun h => by rw [h] at hbm; simp at hbm)
          have he := Aside0.mk e
          clear e
          go_wp2_with (go_at_call 38; refine (iFormatRelations_calls _ Ao co out hRo'.out).mono ?_; rintro e w2 ⟨rfl, hb2⟩; have hb2' := Aside0.mk hb2; clear hb2)
          go_ret2
          have h1 := hend.out
          rw [if_neg he.out] at h1
          exact ⟨_, rfl, _, by rw [← h1]; rfl, by rw [← h1]; exact ownR0 rfl (hWW.out.trans hb2'.out).size, (hWW.out.trans hb2'.out).trans (On.alloc (On.refl _) _)⟩
end Go.Proofs.YtgemaohdlibboaaGreatDoor.H
