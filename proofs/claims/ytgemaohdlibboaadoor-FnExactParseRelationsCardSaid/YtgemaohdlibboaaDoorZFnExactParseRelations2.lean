/- Walks and plain laws for the law FnExactParseRelations, part 2 of 2: the texts HF4, HF5, HC2, HC3, HF7, HF8, HL8, HF9, HF10, HQFnExactParseRelations in one. No condition. -/
import Derived.Lib.IndexBytes
import Derived.Test.YtgemaohdlibboaaDoorZFnExactParseRelations1
/- Walks: relations written, on both sides. No condition. -/
namespace Go.Proofs.YtgemaohdlibboaaDoor.H
open Go Go.RowKit Go.Proofs.YtgemaohdlibboaaDoorW.PrintWords Go.Proofs.YtgemaohdlibboaaDoorW.PrintLast
open Go.Proofs.YtgemaohdlibboaaDoor.Reg (On on_draw)
set_option maxHeartbeats 4000000
set_option maxRecDepth 100000
set_option linter.unusedVariables false
set_option linter.unusedSimpArgs false

/-- The sum of two lengths is an int. -/
theorem szOk {a b : List UInt8} (h : a.length + b.length ≤ 1000000000000) : (9223372036854775807 < (strB a).size + (strB b).size) = False := eq_false (by rw [strB_size, strB_size]; omega)
theorem szOk1 {a : List UInt8} (h : a.length ≤ 1000000000000) : (9223372036854775807 < (strB a).size + 1) = False := eq_false (by rw [strB_size]; omega)
theorem cat1 (a : List UInt8) (c : UInt8) : strB a ++ (⟨#[c]⟩ : ByteArray) = strB (a ++ [c]) := by rw [show (⟨#[c]⟩ : ByteArray) = strB [c] from rfl, strB_append]
def txtR (rs : List Rel) (k : Nat) : List UInt8 := Lib.join ((rs.take k).map relL) [32]
theorem txtR_succ (rs : List Rel) (k : Nat) (h : k < rs.length) : txtR rs (k + 1) = (if k = 0 then [] else txtR rs k ++ [32]) ++ relL rs[k] := by
  unfold txtR
  rw [List.take_succ_eq_append_getElem h, List.map_append, List.map_cons, List.map_nil, join_snoc, List.length_map, List.length_take, Nat.min_eq_left (by omega)]
  by_cases c : k = 0
  · rw [if_pos c, if_pos c]; rfl
  · rw [if_neg c, if_neg c]
theorem txtR_len {rs : List Rel} (h : okRels rs = true) (k : Nat) : (txtR rs k).length ≤ 100 := by
  have hm := okRels_mem h
  have h6 : rs.length ≤ 6 := by simp only [okRels, Bool.and_eq_true, decide_eq_true_eq] at h; exact h.2
  have := join_len [32] 3 _ ((rs.take k).map relL) rfl (fun x hx => by
    obtain ⟨r, hr, rfl⟩ := List.mem_map.1 hx
    exact (relL_ok (hm r (List.mem_of_mem_take hr))).2.2)
  rw [List.length_map, List.length_take] at this
  unfold txtR
  simp at this ⊢
  omega
theorem txtR_all (rs : List Rel) (k : Nat) (h : rs.length ≤ k) : txtR rs k = Lib.join (rs.map relL) [32] := by unfold txtR; rw [List.take_of_length_le h]
theorem relL_parts {r : Rel} (h : okRel r = true) : ∃ b : UInt8, r.1 = strB [b] ∧ 1 ≤ r.2.1 ∧ r.2.1 ≤ 3 ∧ relL r = (if r.2.2 then [43] else []) ++ ([b] ++ Lib.itoa r.2.1) ∧ (Lib.itoa r.2.1).length ≤ 2 := by
  obtain ⟨b, e, h1, h2, h3, h4⟩ := okRel_bytes h
  refine ⟨b, e, h3, h4, by unfold relL; rw [e, strB_data], (itoa_bytes (by omega) (by omega)).2.2⟩
theorem sFormatRelations_calls (w : World) (A : Option Addr) (c : Nat) (rs : List Rel) (h : Rels w A c rs) : Calls Tryd.prog 18 #[.slice A rs.length c] w fun e w' => e = .returned (.string (strB (fmtR rs))) ∧ On w w' := by
  have hmax := h.max
  have h' := Aside0.mk h
  clear h
  cases ho : okRels rs with
  | false =>
    have ho' := Aside0.mk ho
    clear ho
    go_enter Tryd.func18, Tryd.ntmps18
    go_wp2_with (go_at_call 37; refine (AreValidRelations_calls w A c rs h'.out).mono ?_; rintro e w1 ⟨rfl, hb1⟩; rw [ho'.out])
    go_ret
    exact ⟨by unfold fmtR; rw [if_neg (by rw [ho'.out]; simp)]; rfl, hb1⟩
  | true =>
    have ho' := Aside0.mk ho
    clear ho
    go_enter Tryd.func18, Tryd.ntmps18
    go_wp2_with (go_at_call 37; refine (AreValidRelations_calls w A c rs h'.out).mono ?_; rintro e w1 ⟨rfl, hb1⟩; rw [ho'.out])
    have hb1' := Aside0.mk hb1
    clear hb1
    go_loopw [3, 4] (fun v3 v4 wr => ∃ (k : Nat) (s : List UInt8), k ≤ rs.length ∧ v3 = .string (strB s) ∧ v4 = .int .i64 k ∧ Aside0 (s = txtR rs k) ∧ On w wr) (fun _ v4 _ => rs.length - (intOf v4).toNat)
    case atStart => exact ⟨0, [], Nat.zero_le _, rfl, rfl, ⟨by unfold txtR; simp [join_nil']⟩, hb1'.out⟩
    case round =>
      obtain ⟨k, s, hk, rfl, rfl, hs, hB⟩ := hrel
      have hB' := Aside0.mk hB
      clear hB
      by_cases hlt : k < rs.length
      · obtain ⟨ad, rfl, x0, x1, x2⟩ := (h'.out.on hB'.out).at k hlt
        have hk' := Aside0.mk hlt
        have hstep := Aside0.mk (txtR_succ rs k hlt)
        have hsl := Aside0.mk (show s.length ≤ 100 by rw [hs.out]; exact txtR_len ho'.out k)
        obtain ⟨b, e1, e2, e3, e4, e5⟩ := relL_parts (okRels_mem ho'.out rs[k] (List.getElem_mem hlt))
        rw [e4] at hstep
        obtain ⟨r, hr⟩ : ∃ r : Rel, rs[k] = r := ⟨_, rfl⟩
        rw [hr] at x0 x1 x2 e1 e2 e3 hstep e5
        clear hr e4
        obtain ⟨nm, a, src⟩ := r
        simp only at x0 x1 x2 e1 e2 e3 hstep e5
        subst e1
        have ha' := Aside0.mk (And.intro e2 e3)
        have hia := Aside0.mk e5
        have hs' := Aside0.mk hs.out
        clear hs e2 e3 e5
        by_cases hk0 : 0 < k
        · have hkb : decide ((0 : Int) < (k : Int)) = true := decide_eq_true (by omega)
          have hkn : decide (0 < k) = true := decide_eq_true hk0
          have hst := Aside0.mk (show txtR rs (k + 1) = (s ++ [32]) ++ ((if src then [43] else []) ++ ([b] ++ Lib.itoa a)) by rw [hstep.out, if_neg (by omega), hs'.out])
          have c1 := cat1 s 32
          have z1 := szOk1 (a := s) (by have := hsl.out; omega)
          obtain ⟨t, ht⟩ : ∃ t, s ++ [32] = t := ⟨_, rfl⟩
          have htl := Aside0.mk (show t.length ≤ 101 by rw [← ht]; have := hsl.out; simp; omega)
          rw [ht] at c1 hst
          clear ht hk0
          cases src with
          | true =>
            have c2 := cat1 t 43
            have z2 := szOk1 (a := t) (by have := htl.out; omega)
            obtain ⟨u, hu⟩ : ∃ u, t ++ [43] = u := ⟨_, rfl⟩
            have hul := Aside0.mk (show u.length ≤ 102 by rw [← hu]; have := htl.out; simp; omega)
            rw [hu] at c2
            have hfin := Aside0.mk (show (u ++ [b]) ++ Lib.itoa a = txtR rs (k + 1) by rw [hst.out, ← hu]; simp)
            clear hu
            have c3 := strB_append u [b]
            have z3 := szOk (a := u) (b := [b]) (by have := hul.out; simp; omega)
            obtain ⟨x, hx⟩ : ∃ x, u ++ [b] = x := ⟨_, rfl⟩
            rw [hx] at c3 hfin
            have hxl := Aside0.mk (show x.length ≤ 103 by rw [← hx]; have := hul.out; simp; omega)
            have c4 := strB_append x (Lib.itoa a)
            have z4 := szOk (a := x) (b := Lib.itoa a) (by have := hxl.out; have := hia.out; omega)
            clear hx
            go_wp2
            refine Reg.region [(0,.L),(1,.L),(2,.L),(3,.L),(4,.L),(5,.L),(6,.L),(7,.L),(8,.L),(9,.L),(10,.L),(11,.L),(12,.C),(13,.L)] [14] (by kernel_rfl) (by kernel_rfl) ?_
            repeat first | refine sP ?_ | refine sS ?_ | refine sA ?_ | refine sL ?_ | refine sQ ?_ | refine sO ?_
            refine callC (.string (strB (Lib.itoa a))) Tryd.func38 (fun w' hS => ?_) ?_
            focus exact sFormatInt_calls w' a (by have := ha'.out; omega) (by have := ha'.out; omega)
            repeat first | refine sP ?_ | refine sS ?_ | refine sA ?_ | refine sL ?_ | refine sQ ?_ | refine sO ?_
            refine Reg.tail_ fun w2 hS => ?_
            go_wp2
            refine ⟨⟨k + 1, _, by have := hk'.out; omega, rfl, by go_num, ⟨?_⟩, hB'.out.trans hS⟩, by simp [intOf]; have := hk'.out; omega⟩
            exact hfin.out
          | false =>
            have hfin := Aside0.mk (show (t ++ [b]) ++ Lib.itoa a = txtR rs (k + 1) by rw [hst.out]; simp)
            have c3 := strB_append t [b]
            have z3 := szOk (a := t) (b := [b]) (by have := htl.out; simp; omega)
            obtain ⟨x, hx⟩ : ∃ x, t ++ [b] = x := ⟨_, rfl⟩
            rw [hx] at c3 hfin
            have hxl := Aside0.mk (show x.length ≤ 103 by rw [← hx]; have := htl.out; simp; omega)
            have c4 := strB_append x (Lib.itoa a)
            have z4 := szOk (a := x) (b := Lib.itoa a) (by have := hxl.out; have := hia.out; omega)
            clear hx
            go_wp2
            refine Reg.region [(0,.L),(1,.L),(2,.L),(3,.L),(4,.L),(5,.L),(6,.L),(7,.L),(8,.L),(9,.L),(10,.L),(11,.L),(12,.C),(13,.L)] [14] (by kernel_rfl) (by kernel_rfl) ?_
            repeat first | refine sP ?_ | refine sS ?_ | refine sA ?_ | refine sL ?_ | refine sQ ?_ | refine sO ?_
            refine callC (.string (strB (Lib.itoa a))) Tryd.func38 (fun w' hS => ?_) ?_
            focus exact sFormatInt_calls w' a (by have := ha'.out; omega) (by have := ha'.out; omega)
            repeat first | refine sP ?_ | refine sS ?_ | refine sA ?_ | refine sL ?_ | refine sQ ?_ | refine sO ?_
            refine Reg.tail_ fun w2 hS => ?_
            go_wp2
            refine ⟨⟨k + 1, _, by have := hk'.out; omega, rfl, by go_num, ⟨?_⟩, hB'.out.trans hS⟩, by simp [intOf]; have := hk'.out; omega⟩
            exact hfin.out
        · have hkb : decide ((0 : Int) < (k : Int)) = false := decide_eq_false (by omega)
          have hkn : decide (0 < k) = false := decide_eq_false hk0
          have hst := Aside0.mk (show txtR rs (k + 1) = s ++ ((if src then [43] else []) ++ ([b] ++ Lib.itoa a)) by rw [hstep.out, if_pos (by omega), hs'.out, show k = 0 by omega]; simp [txtR, join_nil'])
          have htl := Aside0.mk (show s.length ≤ 101 by have := hsl.out; omega)
          clear hk0
          cases src with
          | true =>
            have c2 := cat1 s 43
            have z2 := szOk1 (a := s) (by have := htl.out; omega)
            obtain ⟨u, hu⟩ : ∃ u, s ++ [43] = u := ⟨_, rfl⟩
            have hul := Aside0.mk (show u.length ≤ 102 by rw [← hu]; have := htl.out; simp; omega)
            rw [hu] at c2
            have hfin := Aside0.mk (show (u ++ [b]) ++ Lib.itoa a = txtR rs (k + 1) by rw [hst.out, ← hu]; simp)
            clear hu
            have c3 := strB_append u [b]
            have z3 := szOk (a := u) (b := [b]) (by have := hul.out; simp; omega)
            obtain ⟨x, hx⟩ : ∃ x, u ++ [b] = x := ⟨_, rfl⟩
            rw [hx] at c3 hfin
            have hxl := Aside0.mk (show x.length ≤ 103 by rw [← hx]; have := hul.out; simp; omega)
            have c4 := strB_append x (Lib.itoa a)
            have z4 := szOk (a := x) (b := Lib.itoa a) (by have := hxl.out; have := hia.out; omega)
            clear hx
            go_wp2
            refine Reg.region [(0,.L),(1,.L),(2,.L),(3,.L),(4,.L),(5,.L),(6,.L),(7,.L),(8,.L),(9,.L),(10,.L),(11,.L),(12,.C),(13,.L)] [14] (by kernel_rfl) (by kernel_rfl) ?_
            repeat first | refine sP ?_ | refine sS ?_ | refine sA ?_ | refine sL ?_ | refine sQ ?_ | refine sO ?_
            refine callC (.string (strB (Lib.itoa a))) Tryd.func38 (fun w' hS => ?_) ?_
            focus exact sFormatInt_calls w' a (by have := ha'.out; omega) (by have := ha'.out; omega)
            repeat first | refine sP ?_ | refine sS ?_ | refine sA ?_ | refine sL ?_ | refine sQ ?_ | refine sO ?_
            refine Reg.tail_ fun w2 hS => ?_
            go_wp2
            refine ⟨⟨k + 1, _, by have := hk'.out; omega, rfl, by go_num, ⟨?_⟩, hB'.out.trans hS⟩, by simp [intOf]; have := hk'.out; omega⟩
            exact hfin.out
          | false =>
            have hfin := Aside0.mk (show (s ++ [b]) ++ Lib.itoa a = txtR rs (k + 1) by rw [hst.out]; simp)
            have c3 := strB_append s [b]
            have z3 := szOk (a := s) (b := [b]) (by have := htl.out; simp; omega)
            obtain ⟨x, hx⟩ : ∃ x, s ++ [b] = x := ⟨_, rfl⟩
            rw [hx] at c3 hfin
            have hxl := Aside0.mk (show x.length ≤ 103 by rw [← hx]; have := htl.out; simp; omega)
            have c4 := strB_append x (Lib.itoa a)
            have z4 := szOk (a := x) (b := Lib.itoa a) (by have := hxl.out; have := hia.out; omega)
            clear hx
            go_wp2
            refine Reg.region [(0,.L),(1,.L),(2,.L),(3,.L),(4,.L),(5,.L),(6,.L),(7,.L),(8,.L),(9,.L),(10,.L),(11,.L),(12,.C),(13,.L)] [14] (by kernel_rfl) (by kernel_rfl) ?_
            repeat first | refine sP ?_ | refine sS ?_ | refine sA ?_ | refine sL ?_ | refine sQ ?_ | refine sO ?_
            refine callC (.string (strB (Lib.itoa a))) Tryd.func38 (fun w' hS => ?_) ?_
            focus exact sFormatInt_calls w' a (by have := ha'.out; omega) (by have := ha'.out; omega)
            repeat first | refine sP ?_ | refine sS ?_ | refine sA ?_ | refine sL ?_ | refine sQ ?_ | refine sO ?_
            refine Reg.tail_ fun w2 hS => ?_
            go_wp2
            refine ⟨⟨k + 1, _, by have := hk'.out; omega, rfl, by go_num, ⟨?_⟩, hB'.out.trans hS⟩, by simp [intOf]; have := hk'.out; omega⟩
            exact hfin.out
      · go_wp2
        go_ret
        exact ⟨by unfold fmtR; rw [if_pos ho'.out, hs.out, txtR_all rs k (by omega)]; rfl, hB'.out⟩
end Go.Proofs.YtgemaohdlibboaaDoor.H
/- Walks: relations written by the program. No condition. -/
namespace Go.Proofs.YtgemaohdlibboaaDoor.H
open Go Go.RowKit Go.Proofs.YtgemaohdlibboaaDoorW.PrintWords Go.Proofs.YtgemaohdlibboaaDoorW.PrintLast
open Go.Proofs.YtgemaohdlibboaaDoor.Reg (On on_draw)
set_option maxHeartbeats 4000000
set_option maxRecDepth 100000
set_option linter.unusedVariables false
set_option linter.unusedSimpArgs false

theorem relsL_take (rs : List Rel) (k : Nat) (h : k < rs.length) : (rs.take (k + 1)).map relL = (rs.take k).map relL ++ [relL rs[k]] := by
  rw [List.take_succ_eq_append_getElem h, List.map_append]; rfl
theorem iFormatRelations_calls (w : World) (A : Option Addr) (c : Nat) (rs : List Rel) (h : Rels w A c rs) : Calls Tryd.prog 21 #[.slice A rs.length c] w fun e w' => e = .returned (.string (strB (fmtR rs))) ∧ On w w' := by
  have hmax := h.max
  have h' := Aside0.mk h
  clear h
  cases ho : okRels rs with
  | false =>
    have ho' := Aside0.mk ho
    clear ho
    go_enter Tryd.func21, Tryd.ntmps21
    go_wp2_with (go_at_call 41; refine (iAreValidRelations_calls w A c rs h'.out).mono ?_; rintro e w1 ⟨rfl, hb1⟩; rw [ho'.out])
    go_ret
    exact ⟨by unfold fmtR; rw [if_neg (by rw [ho'.out]; simp)]; rfl, hb1⟩
  | true =>
    have ho' := Aside0.mk ho
    have hk6 := Aside0.mk (show rs.length ≤ 6 by simp only [okRels, Bool.and_eq_true, decide_eq_true_eq] at ho; exact ho.2)
    clear ho
    go_enter Tryd.func21, Tryd.ntmps21
    go_wp2_with (go_at_call 41; refine (iAreValidRelations_calls w A c rs h'.out).mono ?_; rintro e w1 ⟨rfl, hb1⟩; rw [ho'.out]; have hb1' := Aside0.mk hb1; clear hb1)
    go_loopw [3, 13] (fun v3 v13 wr => ∃ k : Nat, k ≤ rs.length ∧ v13 = .int .i64 k ∧ OSt wr w.heap.size v3 ((rs.take k).map relL) ∧ On w wr) (fun _ v13 _ => rs.length - (intOf v13).toNat)
    case atStart => exact ⟨0, Nat.zero_le _, rfl, ownS0 rfl hb1'.out.size, hb1'.out.trans (On.alloc (On.refl _) _)⟩
    case round =>
      obtain ⟨k, hk, rfl, hO, hB⟩ := hrel
      have hB' := Aside0.mk hB
      obtain ⟨ls, hls⟩ : ∃ ls, (rs.take k).map relL = ls := ⟨_, rfl⟩
      rw [hls] at hO
      have hls' := Aside0.mk hls
      have hO' := Aside0.mk hO
      clear hB hO hls
      by_cases hlt : k < rs.length
      · obtain ⟨ad, rfl, x0, x1, x2⟩ := (h'.out.on hB'.out).at k hlt
        have hk' := Aside0.mk hlt
        have hstep := Aside0.mk (relsL_take rs k hlt)
        obtain ⟨b, e1, e2, e3, e4, e5⟩ := relL_parts (okRels_mem ho'.out rs[k] (List.getElem_mem hlt))
        obtain ⟨r, hr⟩ : ∃ r : Rel, rs[k] = r := ⟨_, rfl⟩
        rw [hr] at x0 x1 x2 e1 e2 e3 e4 hstep e5
        clear hr
        obtain ⟨nm, a, src⟩ := r
        simp only at x0 x1 x2 e1 e2 e3 e4 hstep e5
        subst e1
        have ha' := Aside0.mk (And.intro e2 e3)
        have hia := Aside0.mk e5
        have hrl := Aside0.mk e4
        clear e2 e3 e4 e5
        have hfill := alloc_fill3 wr
        cases src with
        | true =>
          have c3 : (⟨#[43]⟩ : ByteArray) ++ strB [b] = strB [43, b] := by rw [show (⟨#[43]⟩ : ByteArray) = strB [43] from rfl, strB_append]; rfl
          have z3 : (9223372036854775807 < 1 + (strB [b]).size) = False := eq_false (by rw [strB_size]; simp)
          have c4 := strB_append [43, b] (Lib.itoa a)
          have z4 := szOk (a := [43, b]) (b := Lib.itoa a) (by have := hia.out; simp; omega)
          obtain ⟨y, hy⟩ : ∃ y, [43, b] ++ Lib.itoa a = y := ⟨_, rfl⟩
          have hyr := Aside0.mk (show relL (strB [b], a, true) = y by rw [hrl.out, ← hy]; rfl)
          rw [hy] at c4
          clear hy
          go_wp2
          have hbx := Aside0.mk (show (wr.alloc (.cells #[.string (strB [b]), .int .i64 a, .bool true] 42 (0, 0))).heap[wr.heap.size]? = some _ from loc_new wr _ _)
          have hc0 := blk_cell hbx.out
          have hBx := Aside0.mk (hB'.out.trans (On.alloc (On.refl _) (.cells #[.string (strB [b]), .int .i64 a, .bool true] 42 (0, 0))))
          clear hfill
          refine Reg.region [(0,.P),(1,.L),(2,.L),(3,.L),(4,.L),(5,.L),(6,.L),(7,.C),(8,.L)] [9,10,11] (by kernel_rfl) (by kernel_rfl) ?_
          repeat first | refine sP ?_ | refine sS ?_ | refine sA ?_ | refine sL ?_ | refine sQ ?_ | refine sO ?_
          refine callC (.string (strB (Lib.itoa a))) Tryd.func42 (fun w' hS => ?_) ?_
          focus exact iFormatInt_calls w' a (by have := ha'.out; omega) (by have := ha'.out; omega)
          repeat first | refine sP ?_ | refine sS ?_ | refine sA ?_ | refine sL ?_ | refine sQ ?_ | refine sO ?_
          refine Reg.tail_ fun w2 hS => ?_
          clear hc0
          refine litS1 28 (y := y) ?_
          have hOA := Aside0.mk (own_ex hO'.out (Ex.of_on (S := fun _ => False) ((On.alloc (On.refl _) (.cells #[.string (strB [b]), .int .i64 a, .bool true] 42 (0, 0))).trans (hS.trans (On.alloc (On.refl w2) (.cells #[.string (strB y)] 9 (0, 0)))))) (fun _ _ h => h))
          have hBA := Aside0.mk (hBx.out.trans (hS.trans (On.alloc (On.refl w2) (.cells #[.string (strB y)] 9 (0, 0)))))
          obtain ⟨ys, hys⟩ : ∃ ys, ls ++ [y] = ys := ⟨_, rfl⟩
          have hys' := Aside0.mk hys
          refine apS1 29 hys hOA.out (lit_S w2 y) hBA.out.size (by have := hk6.out; rw [← hls'.out]; simp; omega) fun v3 w3 hO3 hg3 => ?_
          have hO3' := Aside0.mk hO3
          have hB3 := Aside0.mk (Ex.on hBA.out (Ex.of_grown hg3) (fun i e => own_base hO'.out i e.symm))
          clear hys hO3 hg3
          go_wp2
          refine ⟨⟨k + 1, by have := hk'.out; omega, by go_num, ?_, hB3.out⟩, by simp [intOf]; have := hk'.out; omega⟩
          rw [hstep.out, hls'.out, hyr.out, hys'.out]; exact hO3'.out
        | false =>
          have c3 : (⟨#[]⟩ : ByteArray) ++ strB [b] = strB [b] := by rw [show (⟨#[]⟩ : ByteArray) = strB [] from rfl, strB_append]; rfl
          have z3 : (9223372036854775807 < (strB [b]).size) = False := eq_false (by rw [strB_size]; simp)
          have c4 := strB_append [b] (Lib.itoa a)
          have z4 := szOk (a := [b]) (b := Lib.itoa a) (by have := hia.out; simp; omega)
          obtain ⟨y, hy⟩ : ∃ y, [b] ++ Lib.itoa a = y := ⟨_, rfl⟩
          have hyr := Aside0.mk (show relL (strB [b], a, false) = y by rw [hrl.out, ← hy]; rfl)
          rw [hy] at c4
          clear hy
          go_wp2
          have hbx := Aside0.mk (show (wr.alloc (.cells #[.string (strB [b]), .int .i64 a, .bool false] 42 (0, 0))).heap[wr.heap.size]? = some _ from loc_new wr _ _)
          have hc0 := blk_cell hbx.out
          have hBx := Aside0.mk (hB'.out.trans (On.alloc (On.refl _) (.cells #[.string (strB [b]), .int .i64 a, .bool false] 42 (0, 0))))
          clear hfill
          refine Reg.region [(0,.P),(1,.L),(2,.L),(3,.L),(4,.L),(5,.L),(6,.L),(7,.C),(8,.L)] [9,10,11] (by kernel_rfl) (by kernel_rfl) ?_
          repeat first | refine sP ?_ | refine sS ?_ | refine sA ?_ | refine sL ?_ | refine sQ ?_ | refine sO ?_
          refine callC (.string (strB (Lib.itoa a))) Tryd.func42 (fun w' hS => ?_) ?_
          focus exact iFormatInt_calls w' a (by have := ha'.out; omega) (by have := ha'.out; omega)
          repeat first | refine sP ?_ | refine sS ?_ | refine sA ?_ | refine sL ?_ | refine sQ ?_ | refine sO ?_
          refine Reg.tail_ fun w2 hS => ?_
          clear hc0
          refine litS1 28 (y := y) ?_
          have hOA := Aside0.mk (own_ex hO'.out (Ex.of_on (S := fun _ => False) ((On.alloc (On.refl _) (.cells #[.string (strB [b]), .int .i64 a, .bool false] 42 (0, 0))).trans (hS.trans (On.alloc (On.refl w2) (.cells #[.string (strB y)] 9 (0, 0)))))) (fun _ _ h => h))
          have hBA := Aside0.mk (hBx.out.trans (hS.trans (On.alloc (On.refl w2) (.cells #[.string (strB y)] 9 (0, 0)))))
          obtain ⟨ys, hys⟩ : ∃ ys, ls ++ [y] = ys := ⟨_, rfl⟩
          have hys' := Aside0.mk hys
          refine apS1 29 hys hOA.out (lit_S w2 y) hBA.out.size (by have := hk6.out; rw [← hls'.out]; simp; omega) fun v3 w3 hO3 hg3 => ?_
          have hO3' := Aside0.mk hO3
          have hB3 := Aside0.mk (Ex.on hBA.out (Ex.of_grown hg3) (fun i e => own_base hO'.out i e.symm))
          clear hys hO3 hg3
          go_wp2
          refine ⟨⟨k + 1, by have := hk'.out; omega, by go_num, ?_, hB3.out⟩, by simp [intOf]; have := hk'.out; omega⟩
          rw [hstep.out, hls'.out, hyr.out, hys'.out]; exact hO3'.out
      · have e1 : rs.take k = rs := List.take_of_length_le (by omega)
        have hls2 := Aside0.mk (show rs.map relL = ls by rw [← hls'.out, e1])
        clear e1
        obtain ⟨Aq, cq, rfl⟩ := own_slice hO'.out
        have hSt' := Aside0.mk (OSt.same hO'.out).2
        have hjl := Aside0.mk (show (Lib.join ls [32]).length ≤ 100 by rw [← hls2.out]; have := txtR_len ho'.out rs.length; rwa [txtR_all rs _ (Nat.le_refl _)] at this)
        have hll := Aside0.mk (show ls.length ≤ 1000000 by rw [← hls2.out]; have := hk6.out; simp; omega)
        go_wp2_with (go_at_call 43; refine (Join_calls wr Aq cq ls [32] hSt'.out hll.out (by have := hjl.out; omega)).mono ?_; rintro e w2 ⟨rfl, hb2⟩)
        go_ret
        exact ⟨by unfold fmtR; rw [if_pos ho'.out, hls2.out]; rfl, hB'.out.trans hb2⟩
end Go.Proofs.YtgemaohdlibboaaDoor.H
/- Walks: the program's own valid facts and their order. No condition. -/
namespace Go.Proofs.YtgemaohdlibboaaDoor.H
open Go Go.RowKit Go.Proofs.YtgemaohdlibboaaDoorW.PrintWords Go.Proofs.YtgemaohdlibboaaDoorW.PrintLast
open Go.Proofs.YtgemaohdlibboaaDoor.Reg (On on_draw)
set_option maxHeartbeats 1000000
set_option maxRecDepth 100000
set_option linter.unusedVariables false
set_option linter.unusedSimpArgs false

end Go.Proofs.YtgemaohdlibboaaDoor.H
/- Walks: the program's own search for facts. No condition. -/
namespace Go.Proofs.YtgemaohdlibboaaDoor.H
open Go Go.RowKit Go.Proofs.YtgemaohdlibboaaDoorW.PrintWords Go.Proofs.YtgemaohdlibboaaDoorW.PrintLast
open Go.Proofs.YtgemaohdlibboaaDoor.Reg (On on_draw)
set_option maxHeartbeats 1000000
set_option maxRecDepth 100000
set_option linter.unusedVariables false
set_option linter.unusedSimpArgs false

end Go.Proofs.YtgemaohdlibboaaDoor.H
/- Walks: texts cut, relations looked up, on both sides. No condition. -/
namespace Go.Proofs.YtgemaohdlibboaaDoor.H
open Go Go.RowKit Go.Proofs.YtgemaohdlibboaaDoorW.PrintWords Go.Proofs.YtgemaohdlibboaaDoorW.PrintLast
open Go.Proofs.YtgemaohdlibboaaDoor.Reg (On on_draw)
set_option maxHeartbeats 4000000
set_option maxRecDepth 100000
set_option linter.unusedVariables false
set_option linter.unusedSimpArgs false

theorem encS_map (ss : List (List UInt8)) : (ss.map strB).map Value.string = ss.flatMap encS := by
  induction ss with
  | nil => rfl
  | cons x ss ih => simp at ih ⊢; exact ih
theorem Split_calls (w : World) (s : List UInt8) (c : UInt8) (hl : s.length ≤ 2000000) : Calls Tryd.prog 19 #[.string (strB s), .string (strB [c])] w (Got fun v w' => OSt w' w.heap.size v (cutS c s) ∧ On w w') := by
  have hsz : (strB s).size < 4294967281 := by rw [strB_size]; omega
  have h1 : 1 ≤ (strB [c]).size := by rw [strB_size]; simp
  have hle := Lib.countB_le (strB [c]) h1 (strB s).size (strB s) (Nat.le_refl _)
  have hlen := Lib.splitB_all (strB [c]) h1 0 _ (strB s) rfl
  have hI : ∀ (x : ByteArray) (cs : Array Value), x.size ≤ (strB s).size → Calls Tryd.prog 55 #[.string x, .string (strB [c])] (w.alloc (.cells cs 9 (0, 0))) fun e w' => e = .returned (.int .i64 (Lib.indexB x (strB [c]))) ∧ w' = w.alloc (.cells cs 9 (0, 0)) := fun x cs _ => by
    have h := Tryd.strings_Index_one x c (w.alloc (.cells cs 9 (0, 0)))
    have e : Lib.indexB x (strB [c]) = Lib.indexByte x.data.toList c := by
      show Lib.index x.data.toList (strB [c]).data.toList = _
      rw [strB_data, Lib.index_one]
    rw [e]
    exact h
  have hC : Calls Tryd.prog 54 #[.string (strB s), .string (strB [c])] w fun e w' => e = .returned (.int .i64 (Lib.countB (strB s) (strB [c]))) ∧ w' = w := by
    refine (Tryd.strings_Count_one (strB s) c w).mono fun e w' ⟨he, hw⟩ => ⟨?_, hw⟩
    rw [he]
    show _ = Ending.returned (Value.int .i64 ((Lib.count (strB s).data.toList (strB [c]).data.toList : Nat) : Int))
    rw [strB_data [c], Lib.count_one]
    rfl
  have key := Any.strings_genSplit_core Tryd.lays221 (by kernel_rfl) (strB s) (strB [c]) 0 (-1) (Lib.countB (strB s) (strB [c]) + 1) w hsz h1 (Nat.zero_le _) hI hC (by decide) (by decide) (by rw [if_pos (by decide)]; omega)
  rw [Nat.add_sub_cancel, hlen] at key
  have e2 : Lib.cellsOf (Lib.splitB (strB [c]) 0 (Lib.countB (strB s) (strB [c])) (strB s)) (Lib.countB (strB s) (strB [c]) + 1) = ((Lib.splitB (strB [c]) 0 (Lib.countB (strB s) (strB [c])) (strB s)).map Value.string).toArray := by rw [← hlen]; exact Lib.cellsOf_full _
  rw [e2, splitB_cut, encS_map] at key
  have hn : Lib.countB (strB s) (strB [c]) + 1 = (cutS c s).length := by rw [← hlen, splitB_cut, List.length_map]
  rw [hn] at key
  have key2 : Calls Tryd.prog 39 #[.string (strB s), .string (strB [c]), .int .i64 0, .int .i64 (-1)] w fun e w' => e = .returned (.slice (some ⟨w.heap.size, 0, none⟩) (cutS c s).length (cutS c s).length) ∧ w' = w.alloc (.cells ((cutS c s).flatMap encS).toArray 9 (0, 0)) := key
  have hO := World.ownsRow_lit (base := w.heap.size) (e := 9) (size := 1) w ((cutS c s).flatMap encS).toArray (cutS c s).length (Nat.le_refl _) (by simp [maxLen]; rw [← hn]; rw [strB_size] at hle; omega) (by rw [List.size_toArray, flat_len (enc := encS) (sz := 1) (fun _ => rfl)])
  have hO' := Aside0.mk hO
  clear hO key hI hC e2 hlen hle h1 hsz hn
  go_enter Tryd.func19, Tryd.ntmps19
  go_wp2_with (go_at_call 39; refine key2.mono ?_; rintro e w1 ⟨rfl, rfl⟩)
  go_ret
  exact ⟨_, rfl, hO'.out, On.alloc (On.refl _) _⟩
end Go.Proofs.YtgemaohdlibboaaDoor.H
/- Walks: texts cut at a sign, on both sides. No condition. -/
namespace Go.Proofs.YtgemaohdlibboaaDoor.H
open Go Go.RowKit Go.Proofs.YtgemaohdlibboaaDoorW.PrintWords Go.Proofs.YtgemaohdlibboaaDoorW.PrintLast
open Go.Proofs.YtgemaohdlibboaaDoor.Reg (On on_draw)
set_option maxHeartbeats 4000000
set_option maxRecDepth 100000
set_option linter.unusedVariables false
set_option linter.unusedSimpArgs false

theorem cutP_lib (s : List UInt8) : Lib.trimPrefix s [43] = (cutP s).1 ∧ Lib.hasPrefix s [43] = (cutP s).2 := by
  unfold Lib.trimPrefix Lib.hasPrefix
  cases s with
  | nil => exact ⟨rfl, rfl⟩
  | cons b r =>
    have hh : cutP (b :: r) = if b = 43 then (r, true) else (b :: r, false) := rfl
    rw [hh]
    by_cases h : b = 43
    · subst h; simp
    · rw [if_neg h]
      have : ([43] : List UInt8).isPrefixOf (b :: r) = false := by simp [List.isPrefixOf]; exact fun e => h e.symm
      rw [this]; simp
theorem CutPrefix_calls (w : World) (s : List UInt8) : Calls Tryd.prog 20 #[.string (strB s), .string (strB [43])] w fun e w' => e = .returned (.tuple #[.string (strB (cutP s).1), .bool (cutP s).2]) ∧ On w w' := by
  refine (Tryd.strings_CutPrefix (strB s) (strB [43]) w).mono fun e w' ⟨he, hw⟩ => ?_
  subst hw
  rw [he, strB_data, strB_data, (cutP_lib s).1, (cutP_lib s).2]
  exact ⟨rfl, On.refl _⟩
theorem cutS_hit {c : UInt8} {s : List UInt8} {i : Nat} (h : i < s.length) (hc : s[i] = c) : cutS c (s.drop i) = [] :: cutS c (s.drop (i + 1)) := by
  rw [List.drop_eq_getElem_cons h, cutS, if_pos hc]
theorem cutS_miss {c : UInt8} {s : List UInt8} {i : Nat} (h : i < s.length) (hc : s[i] ≠ c) : cutS c (s.drop i) = preP [s[i]] (cutS c (s.drop (i + 1))) := by
  rw [List.drop_eq_getElem_cons h, cutS, if_neg hc]
theorem take_one {s : List UInt8} {fr i : Nat} (h : i < s.length) (hf : fr ≤ i) : (s.drop fr).take (i + 1 - fr) = (s.drop fr).take (i - fr) ++ [s[i]] := by
  rw [show i + 1 - fr = (i - fr) + 1 by omega, List.take_succ_eq_append_getElem (by simp; omega), List.getElem_drop]
  simp only [show fr + (i - fr) = i by omega]
theorem strB_get (s : List UInt8) (i : Nat) (h : i < s.length) (k : i < (strB s).size) : (strB s)[i]'k = s[i]'h := by
  simp [strB, ByteArray.getElem_eq_getElem_data]
theorem strB_at (s : List UInt8) (i : Nat) (h : i < s.length) (b : UInt8) (hb : s[i] = b) : ∀ k : i < (strB s).size, (((strB s)[i]'k).toNat : Int) = (b.toNat : Int) := fun k => by
  rw [strB_get s i h k, hb]
theorem l3Cut_calls (w : World) (s : List UInt8) (c : UInt8) (hl : s.length ≤ 2000000) : Calls Tryd.prog 17 #[.string (strB s), .int .u8 (c.toNat : Int)] w (Got fun v w' => OSt w' w.heap.size v (cutS c s) ∧ On w w') := by
  have hss := Aside0.mk (strB_size s)
  have hl' := Aside0.mk hl
  clear hl
  go_enter Tryd.func17, Tryd.ntmps17
  go_wp2
  go_loopw [5, 6, 7] (fun v5 v6 v7 wr => ∃ (i fr : Nat) (ls : List (List UInt8)), fr ≤ i ∧ i ≤ s.length ∧ v6 = .int .i64 fr ∧ v7 = .int .i64 i ∧ OSt wr w.heap.size v5 ls ∧ ls.length ≤ i ∧ Aside0 (ls ++ preP ((s.drop fr).take (i - fr)) (cutS c (s.drop i)) = cutS c s) ∧ On w wr) (fun _ _ v7 _ => s.length - (intOf v7).toNat)
  case atStart => exact ⟨0, 0, [], Nat.le_refl _, Nat.zero_le _, rfl, rfl, ownS0 rfl (Nat.le_refl _), Nat.le_refl _, ⟨by simp [preP_nil]⟩, On.alloc (On.refl _) _⟩
  case round =>
    obtain ⟨i, fr, ls, hf, hi, rfl, rfl, hO, hll, hp, hB⟩ := hrel
    have hO' := Aside0.mk hO
    have hB' := Aside0.mk hB
    have hfi := Aside0.mk (And.intro hf hll)
    clear hO hB hll
    by_cases hlt : i < s.length
    · have hb1 : i < (strB s).size := by rw [hss.out]; exact hlt
      have hlt' := Aside0.mk hlt
      have hwk := Aside0.mk (show wrap64 ((i : Int) + 1) = ((i + 1 : Nat) : Int) by rw [IntWalk.wrap64_in _ (by have := hl'.out; omega)]; omega)
      have hil := Aside0.mk (show i + 1 ≤ s.length from hlt)
      obtain ⟨b, hbb⟩ : ∃ b, s[i]'hlt = b := ⟨_, rfl⟩
      have hat := strB_at s i hlt b hbb
      by_cases hc : b = c
      · have hce := Aside0.mk (cutS_hit hlt (hbb.trans hc))
        have hbc : ((b.toNat : Int) == (c.toNat : Int)) = true := by rw [hc]; simp
        have hbe : ((b.toNat : Int) = (c.toNat : Int)) = True := eq_true (by rw [hc])
        have e1 : (strB s).extract fr i = strB ((s.drop fr).take (i - fr)) := strB_extract s fr i
        have hz1 : (i : Int) ≤ ((strB s).size : Int) := by omega
        have hz2 : fr ≤ i := hf
        clear hc hbb hlt
        go_wp2_with (refine gate 25 ?_)
        refine ⟨litS1 25 (y := (s.drop fr).take (i - fr)) ?_⟩
        have hOA := Aside0.mk (own_ex hO'.out (Ex.of_on (S := fun _ => False) (On.alloc (On.refl wr) (.cells #[.string (strB ((s.drop fr).take (i - fr)))] 9 (0, 0)))) (fun _ _ h => h))
        have hBA := Aside0.mk (hB'.out.trans (On.alloc (On.refl wr) (.cells #[.string (strB ((s.drop fr).take (i - fr)))] 9 (0, 0))))
        obtain ⟨ys, hys⟩ : ∃ ys, ls ++ [(s.drop fr).take (i - fr)] = ys := ⟨_, rfl⟩
        have hys' := Aside0.mk hys
        refine apS1 26 hys hOA.out (lit_S wr ((s.drop fr).take (i - fr))) hBA.out.size (by have := hfi.out; have := hlt'.out; have := hl'.out; omega) fun v3 w3 hO3 hg3 => ?_
        have hO3' := Aside0.mk hO3
        have hB3 := Aside0.mk (Ex.on hBA.out (Ex.of_grown hg3) (fun i e => own_base hO'.out i e.symm))
        clear hys hO3 hg3
        go_wp2
        refine ⟨⟨i + 1, i + 1, ys, Nat.le_refl _, hil.out, by rw [hwk.out], by rw [hwk.out], hO3'.out, by rw [← hys'.out]; have := hfi.out; simp; omega, ⟨?_⟩, hB3.out⟩, by rw [hwk.out]; simp [intOf]; have := hil.out; omega⟩
        have := hp.out
        rw [hce.out, preP, List.append_nil] at this
        rw [← hys'.out, Nat.sub_self, List.take_zero, preP_nil, List.append_assoc]
        exact this
      · have hce := Aside0.mk (cutS_miss hlt (by rw [hbb]; exact hc))
        have hto := Aside0.mk (take_one hlt hf)
        rw [hbb] at hce hto
        have hbc : ((b.toNat : Int) == (c.toNat : Int)) = false := by simp; exact fun e => hc (UInt8.toNat_inj.1 (by omega))
        have hbe : ((b.toNat : Int) = (c.toNat : Int)) = False := eq_false (fun e => hc (UInt8.toNat_inj.1 (by omega)))
        clear hc hbb hlt
        go_wp2
        refine ⟨⟨i + 1, fr, ls, by have := hfi.out; omega, hil.out, rfl, by rw [hwk.out], hO'.out, by have := hfi.out; omega, ⟨by rw [hto.out]; have := hp.out; rw [hce.out, preP_preP] at this; exact this⟩, hB'.out⟩, by rw [hwk.out]; simp [intOf]; have := hil.out; omega⟩
    · have e1 : (strB s).extract fr (strB s).size = strB (s.drop fr) := strB_rest s fr
      have hz1 : fr ≤ (strB s).size := by rw [hss.out]; omega
      have hz3 : (fr : Int) ≤ ((strB s).size : Int) := by omega
      have hz2 : ¬ i < (strB s).size := by rw [hss.out]; exact hlt
      have hfin := Aside0.mk (show ls ++ [s.drop fr] = cutS c s by
        have h := hp.out
        rw [List.drop_eq_nil_of_le (by omega : s.length ≤ i), cutS, preP, List.append_nil, List.take_of_length_le (by simp; omega)] at h
        exact h)
      have hii := Aside0.mk (And.intro hi hlt)
      clear hlt hi hp
      go_wp2_with (refine gate 33 ?_)
      refine ⟨litS1 33 (y := s.drop fr) ?_⟩
      have hOA := Aside0.mk (own_ex hO'.out (Ex.of_on (S := fun _ => False) (On.alloc (On.refl wr) (.cells #[.string (strB (s.drop fr))] 9 (0, 0)))) (fun _ _ h => h))
      have hBA := Aside0.mk (hB'.out.trans (On.alloc (On.refl wr) (.cells #[.string (strB (s.drop fr))] 9 (0, 0))))
      refine apS1 34 hfin.out hOA.out (lit_S wr (s.drop fr)) hBA.out.size (by have := hfi.out; have := hl'.out; have := hii.out; omega) fun v3 w3 hO3 hg3 => ?_
      have hO3' := Aside0.mk hO3
      have hB3 := Aside0.mk (Ex.on hBA.out (Ex.of_grown hg3) (fun i e => own_base hO'.out i e.symm))
      clear hO3 hg3
      go_wp2
      go_ret
      exact ⟨_, rfl, hO3'.out, hB3.out⟩
end Go.Proofs.YtgemaohdlibboaaDoor.H
/- Walks: marks of instances, and whether they hold. No condition. -/
namespace Go.Proofs.YtgemaohdlibboaaDoor.H
open Go Go.RowKit Go.Proofs.YtgemaohdlibboaaDoorW.PrintWords Go.Proofs.YtgemaohdlibboaaDoorW.PrintLast
open Go.Proofs.YtgemaohdlibboaaDoor.Reg (On on_draw)
set_option maxHeartbeats 1000000
set_option maxRecDepth 100000
set_option linter.unusedVariables false
set_option linter.unusedSimpArgs false

end Go.Proofs.YtgemaohdlibboaaDoor.H
/- Walks: the program reads relations. No condition. -/
namespace Go.Proofs.YtgemaohdlibboaaDoor.H
open Go Go.RowKit Go.Proofs.YtgemaohdlibboaaDoorW.PrintWords Go.Proofs.YtgemaohdlibboaaDoorW.PrintLast
open Go.Proofs.YtgemaohdlibboaaDoor.Reg (On on_draw)
set_option maxHeartbeats 4000000
set_option maxRecDepth 100000
set_option linter.unusedVariables false
set_option linter.unusedSimpArgs false

theorem ownR0 {W : World} {g lo : Nat} (hg : g = W.heap.size) (hlo : lo ≤ W.heap.size) : OR (W.alloc (.cells #[] 42 (0, 0))) lo (.slice (some ⟨g, 0, none⟩) 0 0) [] := by
  subst hg
  exact own_lower (World.ownsRow_lit (base := W.heap.size) (e := 42) (size := 3) W #[] 0 (Nat.le_refl _) (by simp [maxLen]) (by simp)) hlo
theorem OR.same2 {w : World} {lo : Nat} {A : Option Addr} {n c : Nat} {rs : List Rel} (h : OR w lo (.slice A n c) rs) : n = rs.length ∧ Rels w A c rs := by
  obtain ⟨A', c', e, hR⟩ := OR.rd h
  injection e with e1 e2 e3
  subst e1 e3
  exact ⟨e2, hR⟩
theorem litR1 (W : World) (r : Rel) : Rels (W.alloc (.cells #[.string r.1, .int .i64 r.2.1, .bool r.2.2] 42 (0, 0))) (some ⟨W.heap.size, 0, none⟩) 1 [r] := by
  have h := World.ownsRow_lit (base := W.heap.size) (e := 42) (size := 3) W #[.string r.1, .int .i64 r.2.1, .bool r.2.2] 1 (Nat.le_refl _) (by simp [maxLen]) (by simp)
  have h' : OR (W.alloc (.cells #[.string r.1, .int .i64 r.2.1, .bool r.2.2] 42 (0, 0))) W.heap.size (.slice (some ⟨W.heap.size, 0, none⟩) 1 1) [r] := h
  exact (OR.same2 h').2
section
variable {ops : Array Oper} {rest : List Oper} {o : Oper} {a : Act} {Q : Exit → Act → World → Prop} {W : World}
/-- A literal of one element. -/
theorem litN1 (N : Tmp) (cs : Array Value) (t : TypeId) (h : wpList Tryd.prog ops Q rest (a.put (some N) (.slice (some ⟨W.heap.size, 0, none⟩) 1 1)) (W.alloc (.cells cs t (0, 0))))
    (hd : o.dst = some N := by rfl) (hg : o.guard = none := by rfl) (hr : (execOp a.eval o).run Tryd.prog W = .ok (.value (.slice (some ⟨W.heap.size, 0, none⟩) 1 1)) (W.alloc (.cells cs t (0, 0))) := by first | (go_simp; done) | (go_simp; rfl)) : wpList Tryd.prog ops Q (o :: rest) a W :=
  Kd.event_run hg hr (by rw [hd]; exact h)
end
theorem str_bne (a b : List UInt8) : ((strB a).toList != (strB b).toList) = decide (a ≠ b) := by
  rw [bne, str_beq]; by_cases h : a = b <;> simp [h]
theorem str_nil (a : List UInt8) : ((strB a).toList == ([] : List UInt8)) = decide (a = []) := by
  rw [ByteArray.toList_eq, strB_data, Bool.eq_iff_iff]; simp
theorem parL_cons (s w : List UInt8) (r : List (List UInt8)) (out : List Rel) : parL s (w :: r) out = (match parW w with | some x => parL s r (out ++ [x]) | none => ([], false)) := by rw [parL]; cases parW w <;> rfl
theorem parL_drop (s : List UInt8) (ws : List (List UInt8)) (k : Nat) (h : k < ws.length) (out : List Rel) : parL s (ws.drop k) out = (match parW ws[k] with | some x => parL s (ws.drop (k + 1)) (out ++ [x]) | none => ([], false)) := by
  rw [List.drop_eq_getElem_cons h, parL_cons]
theorem iParseRelations_calls (w : World) (s : List UInt8) (hl : s.length ≤ 2000000) : Calls Tryd.prog 6 #[.string (strB s)] w (Got fun v w' => ∃ v1, v = .tuple #[v1, .bool (parR s).2] ∧ OR w' w.heap.size v1 (parR s).1 ∧ On w w') := by
  have hl' := Aside0.mk hl
  clear hl
  by_cases c : s = []
  · have hb1 : ((strB s).toList == ([] : List UInt8)) = true := by rw [str_nil]; exact decide_eq_true c
    have hb2 : ((strB s).toList = ([] : List UInt8)) = True := eq_true (beq_iff_eq.1 hb1)
    have hp := Aside0.mk (show parR s = ([], true) by unfold parR; rw [if_pos c])
    clear c
    go_enter Tryd.func6, Tryd.ntmps6
    go_wp2
    go_ret2
    exact ⟨_, rfl, _, by rw [hp.out]; rfl, by rw [hp.out]; exact ownR0 rfl (Nat.le_refl _), On.alloc (On.refl _) _⟩
  · have hb1 : ((strB s).toList == ([] : List UInt8)) = false := by rw [str_nil]; exact decide_eq_false c
    have hb2 : ((strB s).toList = ([] : List UInt8)) = False := eq_false (fun e => by rw [beq_eq_false_iff_ne] at hb1; exact hb1 e)
    have hp := Aside0.mk (show parR s = parL s (cutS 32 s) [] by unfold parR; rw [if_neg c])
    have hwl := Aside0.mk (cutS_len 32 s)
    clear c
    go_enter Tryd.func6, Tryd.ntmps6
    go_wp2_with (go_at_call 19; refine Stop.out ?_)
    refine ⟨(Split_calls _ s 32 hl'.out).mono ?_⟩
    rintro e w1 ⟨v, rfl, hO, hb⟩
    obtain ⟨ws, hws⟩ : ∃ ws, cutS 32 s = ws := ⟨_, rfl⟩
    rw [hws] at hO hp hwl
    obtain ⟨A, n, rfl, hSt⟩ := OSt.slice hO
    have hOw := Aside0.mk (own_lower hO (On.alloc (On.refl w) (.cells #[] 42 (0, 0))).size)
    have hb' := Aside0.mk hb
    have hmx : ws.length ≤ 9223372036854775807 := hSt.max
    clear hO hSt hb hws hb1 hb2
    go_wp2
    go_loopw [4, 16] (fun v4 v16 wr => ∃ (k : Nat) (out : List Rel), k ≤ ws.length ∧ v16 = .int .i64 k ∧ OR wr w.heap.size v4 out ∧ out.length ≤ k ∧ Aside0 (parL s (ws.drop k) out = parL s ws []) ∧ On w wr ∧ OSt wr w.heap.size (.slice A ws.length n) ws) (fun _ v16 _ => ws.length - (intOf v16).toNat)
    case atStart => exact ⟨0, [], Nat.zero_le _, rfl, pw_own_below (ownR0 rfl (Nat.le_refl _)) hb'.out, Nat.le_refl _, ⟨rfl⟩, (On.alloc (On.refl _) _).trans hb'.out, hOw.out⟩
    case round =>
      obtain ⟨k, out, hk, rfl, hO, hol, hq, hB, hOs⟩ := hrel
      have hOs' := Aside0.mk hOs
      have hO' := Aside0.mk hO
      have hol' := Aside0.mk hol
      have hWW := Aside0.mk hB
      clear hB hO hol hOs
      by_cases hlt : k < ws.length
      · obtain ⟨ad, rfl, hx⟩ := (OSt.same hOs'.out).2.cell k hlt
        have hk' := Aside0.mk hlt
        have hst := Aside0.mk ((parL_drop s ws k hlt out).symm.trans hq.out)
        obtain ⟨wd, hwd⟩ : ∃ wd, ws[k] = wd := ⟨_, rfl⟩
        rw [hwd] at hx hst
        clear hwd hq
        by_cases h2 : (cutP wd).1.length = 2
        · obtain ⟨a, b, hab⟩ : ∃ a b, (cutP wd).1 = [a, b] := by
            match hh : (cutP wd).1, h2 with
            | [a, b], _ => exact ⟨a, b, rfl⟩
          obtain ⟨sg, hsg⟩ : ∃ sg, (cutP wd).2 = sg := ⟨_, rfl⟩
          have hpw := Aside0.mk (parW_some (w := wd) (a := a) (b := b) (s := sg) (Prod.ext hab hsg))
          have hab' := Aside0.mk hab
          have hsg' := Aside0.mk hsg
          have hz : (strB [a, b]).size = 2 := by rw [strB_size]; rfl
          have e1 : (strB [a, b]).extract 0 1 = strB [a] := by rw [strB_extract]; rfl
          have hat := strB_at [a, b] 1 (by simp) b rfl
          have hsub : wrap64 ((b.toNat : Int) - 48) = (b.toNat : Int) - 48 := IntWalk.wrap64_in _ (by have := b.toNat_lt; omega)
          have hsub2 : IntKind.i64.wrap ((b.toNat : Int) - 48) = (b.toNat : Int) - 48 := IntWalk.i64_in _ (by have := b.toNat_lt; omega)
          have hwb : wrap64 (b.toNat : Int) = (b.toNat : Int) := IntWalk.wrap64_in _ (by have := b.toNat_lt; omega)
          have hwb2 : IntKind.i64.wrap (b.toNat : Int) = (b.toNat : Int) := IntWalk.i64_in _ (by have := b.toNat_lt; omega)
          clear h2 hab hsg
          go_wp2_with (go_at_call 20; refine (CutPrefix_calls _ wd).mono ?_; rintro e w2 ⟨rfl, hb2⟩; rw [hab'.out, hsg'.out]; have hb2' := Aside0.mk hb2; clear hb2)
          refine Reg.region [(0,.P),(1,.P),(2,.P),(3,.P),(4,.P),(5,.P),(6,.P),(7,.P),(8,.P)] [9,10,11] (by kernel_rfl) (by kernel_rfl) ?_
          repeat first | refine sP ?_ | refine sS ?_ | refine sA ?_ | refine sL ?_ | refine sQ ?_ | refine sO ?_
          refine Reg.tail_ fun w3 hS => ?_
          have hS' := Aside0.mk (hb2'.out.trans hS)
          first | rw [hwb, hsub] | rw [hwb2, hsub2] | skip
          clear hS e1 hat hsub hsub2 hwb hwb2 hz
          refine litN1 38 #[.string (strB [a]), .int .i64 ((b.toNat : Int) - 48), .bool sg] 42 ?_
          have hOA := Aside0.mk (own_ex hO'.out (Ex.of_on (S := fun _ => False) (hS'.out.trans (On.alloc (On.refl w3) (.cells #[.string (strB [a]), .int .i64 ((b.toNat : Int) - 48), .bool sg] 42 (0, 0))))) (fun _ _ h => h))
          have hBA := Aside0.mk (hWW.out.trans (hS'.out.trans (On.alloc (On.refl w3) (.cells #[.string (strB [a]), .int .i64 ((b.toNat : Int) - 48), .bool sg] 42 (0, 0)))))
          obtain ⟨ys, hys⟩ : ∃ ys, out ++ [((strB [a], (b.toNat : Int) - 48, sg) : Rel)] = ys := ⟨_, rfl⟩
          have hys' := Aside0.mk hys
          refine apR 39 hys hOA.out (litR1 w3 (strB [a], (b.toNat : Int) - 48, sg)) hBA.out.size (by have := hol'.out; have := hk'.out; have := hwl.out; have := hl'.out; simp; omega) fun v3 w4 hO3 hg3 => ?_
          have hO3' := Aside0.mk hO3
          have hB3 := Aside0.mk (Ex.on hBA.out (Ex.of_grown hg3) (fun i e => own_base hO'.out i e.symm))
          have hOs3 := Aside0.mk (own_ex (pw_own_below hOs'.out (hS'.out.trans (On.alloc (On.refl w3) (.cells #[.string (strB [a]), .int .i64 ((b.toNat : Int) - 48), .bool sg] 42 (0, 0))))) (Ex.of_grown hg3) (fun i hi e => own_ne_blk (pw_own_below hOs'.out (hS'.out.trans (On.alloc (On.refl w3) (.cells #[.string (strB [a]), .int .i64 ((b.toNat : Int) - 48), .bool sg] 42 (0, 0))))) hOA.out (by decide) hi e.symm))
          clear hys hO3 hg3
          go_wp2
          have h0 := hst.out
          rw [hpw.out] at h0
          exact ⟨⟨k + 1, ys, by have := hk'.out; omega, by go_num, hO3'.out, by rw [← hys'.out]; have := hol'.out; simp; omega, ⟨by rw [← hys'.out]; exact h0⟩, hB3.out, hOs3.out⟩, by simp [intOf]; have := hk'.out; omega⟩
        · have hpw := Aside0.mk (parW_none h2)
          have hz1 : ((strB (cutP wd).1).size : Int) ≠ 2 := by rw [strB_size]; omega
          have hz2 : (((strB (cutP wd).1).size : Int) != 2) = true := bne_iff_ne.mpr hz1
          have hz3 : (((strB (cutP wd).1).size : Int) == 2) = false := beq_eq_false_iff_ne.mpr hz1
          clear h2
          go_wp2_with (go_at_call 20; refine (CutPrefix_calls _ wd).mono ?_; rintro e w2 ⟨rfl, hb2⟩; have hb2' := Aside0.mk hb2; clear hb2)
          go_ret2
          have h0 := hst.out
          rw [hpw.out] at h0
          exact ⟨_, rfl, _, by rw [hp.out, ← h0]; rfl, by rw [hp.out, ← h0]; exact ownR0 rfl (hWW.out.trans hb2'.out).size, (hWW.out.trans hb2'.out).trans (On.alloc (On.refl _) _)⟩
      · have h0 := Aside0.mk hq.out
        obtain ⟨Ao, co, hvo, hRo⟩ := OR.rd hO'.out
        subst hvo
        have hRo' := Aside0.mk hRo
        have hend := Aside0.mk (show (if fmtR out = s then (out, true) else ([], false)) = parR s by rw [hp.out, ← h0.out, List.drop_of_length_le (by omega)]; rw [parL])
        clear hRo hq
        by_cases e : fmtR out = s
        · have hbn : ((strB (fmtR out)).toList != (strB s).toList) = false := by rw [str_bne]; simp [e]
          have hbm : ((strB (fmtR out)).toList == (strB s).toList) = true := by rw [str_beq]; simp [e]
          have hbo : ((strB (fmtR out)).toList = (strB s).toList) = True := eq_true (beq_iff_eq.1 hbm)
          have he := Aside0.mk e
          clear e
          go_wp2_with (go_at_call 21; refine (iFormatRelations_calls _ Ao co out hRo'.out).mono ?_; rintro e w2 ⟨rfl, hb2⟩; have hb2' := Aside0.mk hb2; clear hb2)
          go_ret2
          have h1 := hend.out
          rw [if_pos he.out] at h1
          exact ⟨_, rfl, _, by rw [← h1]; rfl, by rw [← h1]; exact pw_own_below hO'.out hb2'.out, hWW.out.trans hb2'.out⟩
        · have hbn : ((strB (fmtR out)).toList != (strB s).toList) = true := by rw [str_bne]; simp [e]
          have hbm : ((strB (fmtR out)).toList == (strB s).toList) = false := by rw [str_beq]; simp [e]
          have hbo : ((strB (fmtR out)).toList = (strB s).toList) = False := eq_false (fun h => by rw [h] at hbm; simp at hbm)
          have he := Aside0.mk e
          clear e
          go_wp2_with (go_at_call 21; refine (iFormatRelations_calls _ Ao co out hRo'.out).mono ?_; rintro e w2 ⟨rfl, hb2⟩; have hb2' := Aside0.mk hb2; clear hb2)
          go_ret2
          have h1 := hend.out
          rw [if_neg he.out] at h1
          exact ⟨_, rfl, _, by rw [← h1]; rfl, by rw [← h1]; exact ownR0 rfl (hWW.out.trans hb2'.out).size, (hWW.out.trans hb2'.out).trans (On.alloc (On.refl _) _)⟩
end Go.Proofs.YtgemaohdlibboaaDoor.H
/- Walks: the reference reads relations. No condition. -/
namespace Go.Proofs.YtgemaohdlibboaaDoor.H
open Go Go.RowKit Go.Proofs.YtgemaohdlibboaaDoorW.PrintWords Go.Proofs.YtgemaohdlibboaaDoorW.PrintLast
open Go.Proofs.YtgemaohdlibboaaDoor.Reg (On on_draw)
set_option maxHeartbeats 4000000
set_option maxRecDepth 100000
set_option linter.unusedVariables false
set_option linter.unusedSimpArgs false

theorem str_nnil (a : List UInt8) : ((strB a).toList != ([] : List UInt8)) = decide (a ≠ []) := by
  rw [bne, str_nil]; by_cases h : a = [] <;> simp [h]
theorem alloc_set' (w : World) (cs : Array Value) (t : TypeId) (j : Nat) (v : Value) : (w.alloc (.cells cs t (0, 0))).setCell ⟨w.heap.size, j, none⟩ v = w.alloc (.cells (cs.setIfInBounds j v) t (0, 0)) := alloc_set w cs t j v
theorem sParseRelations_calls (w : World) (s : List UInt8) (hl : s.length ≤ 2000000) : Calls Tryd.prog 5 #[.string (strB s)] w (Got fun v w' => ∃ v1, v = .tuple #[v1, .bool (parR s).2] ∧ OR w' w.heap.size v1 (parR s).1 ∧ On w w') := by
  have hl' := Aside0.mk hl
  clear hl
  have hp := Aside0.mk (show parR s = if s = [] then ([], true) else parL s (cutS 32 s) [] by unfold parR; rfl)
  have hwl := Aside0.mk (cutS_len 32 s)
  go_enter Tryd.func5, Tryd.ntmps5
  go_wp2_with (go_at_call 17; refine Stop.out ?_)
  refine ⟨(l3Cut_calls _ s 32 hl'.out).mono ?_⟩
  rintro e w1 ⟨v, rfl, hO, hb⟩
  obtain ⟨ws, hws⟩ : ∃ ws, cutS 32 s = ws := ⟨_, rfl⟩
  have hws0 := Aside0.mk (show s = [] → ws = [[]] from fun h => by rw [← hws, h]; rfl)
  rw [hws] at hO hp hwl
  obtain ⟨A, n, rfl, hSt⟩ := OSt.slice hO
  have hOw := Aside0.mk (own_lower hO (On.alloc (On.refl w) (.cells #[] 42 (0, 0))).size)
  have hb' := Aside0.mk hb
  have hmx : ws.length ≤ 9223372036854775807 := hSt.max
  clear hO hSt hb hws
  go_wp2
  go_loopw [4, 6] (fun v4 v6 wr => ∃ (k : Nat) (out : List Rel), k ≤ ws.length ∧ v6 = .int .i64 k ∧ OR wr w.heap.size v4 out ∧ out.length ≤ k ∧ Aside0 (parL s (ws.drop k) out = parL s ws []) ∧ Aside0 (s = [] → out = []) ∧ On w wr ∧ OSt wr w.heap.size (.slice A ws.length n) ws) (fun _ v6 _ => ws.length - (intOf v6).toNat)
  case atStart => exact ⟨0, [], Nat.zero_le _, rfl, pw_own_below (ownR0 rfl (Nat.le_refl _)) hb'.out, Nat.le_refl _, ⟨rfl⟩, ⟨fun _ => rfl⟩, (On.alloc (On.refl _) _).trans hb'.out, hOw.out⟩
  case round =>
    obtain ⟨k, out, hk, rfl, hO, hol, hq, hsn, hB, hOs⟩ := hrel
    have hO' := Aside0.mk hO
    have hol' := Aside0.mk hol
    have hWW := Aside0.mk hB
    have hOs' := Aside0.mk hOs
    clear hB hO hol hOs
    by_cases hlt : k < ws.length
    · by_cases hs0 : s = []
      · have hsb := Aside0.mk (show ((strB s).toList != ([] : List UInt8)) = false by rw [str_nnil]; simp [hs0])
        have hsb1 := hsb.out
        have hsb2 : ((strB s).toList == ([] : List UInt8)) = true := by rw [str_nil]; simp [hs0]
        have hsb3 : ((strB s).toList = ([] : List UInt8)) = True := eq_true (beq_iff_eq.1 hsb2)
        have hend := Aside0.mk (show (if fmtR out = s then (out, true) else ([], false)) = parR s by rw [hp.out, if_pos hs0, hsn.out hs0, hs0, fmtR_nil, if_pos rfl])
        clear hs0 hq hsn
        obtain ⟨Ao, co, hvo, hRo⟩ := OR.rd hO'.out
        subst hvo
        have hRo' := Aside0.mk hRo
        clear hRo
        by_cases e : fmtR out = s
        · have hbn : ((strB (fmtR out)).toList != (strB s).toList) = false := by rw [str_bne]; simp [e]
          have hbm : ((strB (fmtR out)).toList == (strB s).toList) = true := by rw [str_beq]; simp [e]
          have hbo : ((strB (fmtR out)).toList = (strB s).toList) = True := eq_true (beq_iff_eq.1 hbm)
          have he := Aside0.mk e
          clear e
          go_wp2_with (go_at_call 18; refine (sFormatRelations_calls _ Ao co out hRo'.out).mono ?_; rintro e w2 ⟨rfl, hb2⟩; have hb2' := Aside0.mk hb2; clear hb2)
          go_ret2
          have h1 := hend.out
          rw [if_pos he.out] at h1
          exact ⟨_, rfl, _, by rw [← h1]; rfl, by rw [← h1]; exact pw_own_below hO'.out hb2'.out, hWW.out.trans hb2'.out⟩
        · have hbn : ((strB (fmtR out)).toList != (strB s).toList) = true := by rw [str_bne]; simp [e]
          have hbm : ((strB (fmtR out)).toList == (strB s).toList) = false := by rw [str_beq]; simp [e]
          have hbo : ((strB (fmtR out)).toList = (strB s).toList) = False := eq_false (fun h => by rw [h] at hbm; simp at hbm)
          have he := Aside0.mk e
          clear e
          go_wp2_with (go_at_call 18; refine (sFormatRelations_calls _ Ao co out hRo'.out).mono ?_; rintro e w2 ⟨rfl, hb2⟩; have hb2' := Aside0.mk hb2; clear hb2)
          go_ret2
          have h1 := hend.out
          rw [if_neg he.out] at h1
          exact ⟨_, rfl, _, by rw [← h1]; rfl, by rw [← h1]; exact ownR0 rfl (hWW.out.trans hb2'.out).size, (hWW.out.trans hb2'.out).trans (On.alloc (On.refl _) _)⟩
      · have hsb := Aside0.mk (show ((strB s).toList != ([] : List UInt8)) = true by rw [str_nnil]; simp [hs0])
        have hsb1 := hsb.out
        have hsb2 : ((strB s).toList == ([] : List UInt8)) = false := by rw [str_nil]; simp [hs0]
        have hsb3 : ((strB s).toList = ([] : List UInt8)) = False := eq_false (fun h => by rw [h] at hsb2; simp at hsb2)
        obtain ⟨ad, rfl, hx⟩ := (OSt.same hOs'.out).2.cell k hlt
        have hk' := Aside0.mk hlt
        have hst := Aside0.mk ((parL_drop s ws k hlt out).symm.trans hq.out)
        obtain ⟨wd, hwd⟩ : ∃ wd, ws[k] = wd := ⟨_, rfl⟩
        rw [hwd] at hx hst
        replace hp := Aside0.mk (show parR s = parL s ws [] by rw [hp.out, if_neg hs0])
        have hs0' := Aside0.mk hs0
        clear hwd hq hs0 hsn
        have hx2 : (wr.alloc (.cells #[.string ⟨#[]⟩, .int .i64 0, .bool false] 42 (0, 0))).cell? (ad.add k) = some (.string (strB wd)) := ((On.alloc (On.refl wr) (.cells #[.string ⟨#[]⟩, .int .i64 0, .bool false] 42 (0, 0))).eq _ (by rw [hx]; rfl)).trans hx
        clear hx
        cases wd with
        | nil =>
          have hpw := Aside0.mk (parW_none (w := []) (by simp [cutP]))
          have t1 : ((strB []).toList != ([] : List UInt8)) = false := by rw [str_nnil]; simp
          have t2 : ((strB []).toList == ([] : List UInt8)) = true := by rw [str_nil]; simp
          have t3 : ((strB []).toList = ([] : List UInt8)) = True := eq_true (beq_iff_eq.1 t2)
          have hz : (strB []).size = 0 := rfl
          have hfill := alloc_set' wr
          go_wp2
          go_ret2
          have h0 := hst.out
          rw [hpw.out] at h0
          exact ⟨_, rfl, _, by rw [hp.out, ← h0]; rfl, by rw [hp.out, ← h0]; exact ownR0 (by simp only [World.size_alloc]) (by have := hWW.out.size; simp only [World.size_alloc]; omega), hWW.out.trans ((On.alloc (On.refl _) _).trans (On.alloc (On.refl _) _))⟩
        | cons b0 r =>
          have t1 : ((strB (b0 :: r)).toList != ([] : List UInt8)) = true := by rw [str_nnil]; simp
          have t2 : ((strB (b0 :: r)).toList == ([] : List UInt8)) = false := by rw [str_nil]; simp
          have t3 : ((strB (b0 :: r)).toList = ([] : List UInt8)) = False := eq_false (fun h => by rw [h] at t2; simp at t2)
          have hzs : (strB (b0 :: r)).size = r.length + 1 := by rw [strB_size]; rfl
          have hat0 := strB_at (b0 :: r) 0 (by simp) b0 rfl
          have hpos : 0 < (strB (b0 :: r)).size := by omega
          by_cases h43 : b0 = 43
          · subst h43
            have hat0 : ∀ k : 0 < (strB (43 :: r)).size, (((strB (43 :: r))[0]'k).toNat : Int) = 43 := hat0
            have he : (strB (43 :: r)).extract 1 (strB (43 :: r)).size = strB r := by rw [strB_rest]; rfl
            have he2 : (strB (43 :: r)).extract 1 (r.length + 1) = strB r := by rw [← hzs]; exact he
            by_cases h2 : r.length = 2
            · obtain ⟨a, b, rfl⟩ : ∃ a b, r = [a, b] := by
                match r, h2 with
                | [a, b], _ => exact ⟨a, b, rfl⟩
              have hpw := Aside0.mk (parW_some (w := [43, a, b]) (a := a) (b := b) (s := true) (by simp [cutP]))
              clear h2
              have hz : (strB [a, b]).size = 2 := by rw [strB_size]; rfl
              have e1 : (strB [a, b]).extract 0 1 = strB [a] := by rw [strB_extract]; rfl
              have hat := strB_at [a, b] 1 (by simp) b rfl
              have hsub : wrap64 ((b.toNat : Int) - 48) = (b.toNat : Int) - 48 := IntWalk.wrap64_in _ (by have := b.toNat_lt; omega)
              have hwb : wrap64 (b.toNat : Int) = (b.toNat : Int) := IntWalk.wrap64_in _ (by have := b.toNat_lt; omega)
              have he3 : (strB [43, a, b]).extract 1 3 = strB [a, b] := by rw [strB_extract]; rfl
              have hfill := alloc_set' wr
              go_wp2_with (refine gate 51 ?_)
              have hS' := Aside0.mk (On.alloc (On.refl wr) (.cells #[.string (strB [a]), .int .i64 ((b.toNat : Int) - 48), .bool true] 42 (0, 0)))
              clear hfill
              generalize wr.alloc (.cells #[.string (strB [a]), .int .i64 ((b.toNat : Int) - 48), .bool true] 42 (0, 0)) = w3 at hS' ⊢
              clear e1 hat hsub hwb hz
              refine ⟨litN1 51 #[.string (strB [a]), .int .i64 ((b.toNat : Int) - 48), .bool true] 42 ?_⟩
              have hOA := Aside0.mk (own_ex hO'.out (Ex.of_on (S := fun _ => False) (hS'.out.trans (On.alloc (On.refl w3) (.cells #[.string (strB [a]), .int .i64 ((b.toNat : Int) - 48), .bool true] 42 (0, 0))))) (fun _ _ h => h))
              have hBA := Aside0.mk (hWW.out.trans (hS'.out.trans (On.alloc (On.refl w3) (.cells #[.string (strB [a]), .int .i64 ((b.toNat : Int) - 48), .bool true] 42 (0, 0)))))
              obtain ⟨ys, hys⟩ : ∃ ys, out ++ [((strB [a], (b.toNat : Int) - 48, true) : Rel)] = ys := ⟨_, rfl⟩
              have hys' := Aside0.mk hys
              refine apR 52 hys hOA.out (litR1 w3 (strB [a], (b.toNat : Int) - 48, true)) hBA.out.size (by have := hol'.out; have := hk'.out; have := hwl.out; have := hl'.out; simp; omega) fun v3 w4 hO3 hg3 => ?_
              have hO3' := Aside0.mk hO3
              have hB3 := Aside0.mk (Ex.on hBA.out (Ex.of_grown hg3) (fun i e => own_base hO'.out i e.symm))
              have hOs3 := Aside0.mk (own_ex (pw_own_below hOs'.out (hS'.out.trans (On.alloc (On.refl w3) (.cells #[.string (strB [a]), .int .i64 ((b.toNat : Int) - 48), .bool true] 42 (0, 0))))) (Ex.of_grown hg3) (fun i hi e => own_ne_blk (pw_own_below hOs'.out (hS'.out.trans (On.alloc (On.refl w3) (.cells #[.string (strB [a]), .int .i64 ((b.toNat : Int) - 48), .bool true] 42 (0, 0))))) hOA.out (by decide) hi e.symm))
              clear hys hO3 hg3
              go_wp2
              have h0 := hst.out
              rw [hpw.out] at h0
              exact ⟨⟨k + 1, ys, by have := hk'.out; omega, by go_num, hO3'.out, by rw [← hys'.out]; have := hol'.out; simp; omega, ⟨by rw [← hys'.out]; exact h0⟩, ⟨fun e => absurd e hs0'.out⟩, hB3.out, hOs3.out⟩, by simp [intOf]; have := hk'.out; omega⟩
            · have hpw := Aside0.mk (parW_none (w := 43 :: r) (by simpa [cutP] using h2))
              have hz1 : ((strB r).size : Int) ≠ 2 := by rw [strB_size]; omega
              have hz2 : (((strB r).size : Int) != 2) = true := bne_iff_ne.mpr hz1
              have hz3 : (((strB r).size : Int) == 2) = false := beq_eq_false_iff_ne.mpr hz1
              clear h2
              have hfill := alloc_set' wr
              go_wp2
              go_ret2
              have h0 := hst.out
              rw [hpw.out] at h0
              exact ⟨_, rfl, _, by rw [hp.out, ← h0]; rfl, by rw [hp.out, ← h0]; exact ownR0 (by simp only [World.size_alloc]) (by have := hWW.out.size; simp only [World.size_alloc]; omega), hWW.out.trans ((On.alloc (On.refl _) _).trans (On.alloc (On.refl _) _))⟩
          · have c1 : ((b0.toNat : Int) == 43) = false := by simp; exact fun e => h43 (UInt8.toNat_inj.1 (by show b0.toNat = 43; omega))
            have c2 : ((b0.toNat : Int) = 43) = False := eq_false (fun e => h43 (UInt8.toNat_inj.1 (by show b0.toNat = 43; omega)))
            by_cases h2 : r.length = 1
            · obtain ⟨b, rfl⟩ : ∃ b, r = [b] := by
                match r, h2 with
                | [b], _ => exact ⟨b, rfl⟩
              have hpw := Aside0.mk (parW_some (w := [b0, b]) (a := b0) (b := b) (s := false) (by simp [cutP, h43]))
              clear h2 hzs
              have hz : (strB [b0, b]).size = 2 := by rw [strB_size]; rfl
              have e1 : (strB [b0, b]).extract 0 1 = strB [b0] := by rw [strB_extract]; rfl
              have hat := strB_at [b0, b] 1 (by simp) b rfl
              have hsub : wrap64 ((b.toNat : Int) - 48) = (b.toNat : Int) - 48 := IntWalk.wrap64_in _ (by have := b.toNat_lt; omega)
              have hwb : wrap64 (b.toNat : Int) = (b.toNat : Int) := IntWalk.wrap64_in _ (by have := b.toNat_lt; omega)
              have hfill := alloc_set' wr
              go_wp2_with (refine gate 51 ?_)
              have hS' := Aside0.mk (On.alloc (On.refl wr) (.cells #[.string (strB [b0]), .int .i64 ((b.toNat : Int) - 48), .bool false] 42 (0, 0)))
              clear hfill
              generalize wr.alloc (.cells #[.string (strB [b0]), .int .i64 ((b.toNat : Int) - 48), .bool false] 42 (0, 0)) = w3 at hS' ⊢
              clear e1 hat hsub hwb hz
              refine ⟨litN1 51 #[.string (strB [b0]), .int .i64 ((b.toNat : Int) - 48), .bool false] 42 ?_⟩
              have hOA := Aside0.mk (own_ex hO'.out (Ex.of_on (S := fun _ => False) (hS'.out.trans (On.alloc (On.refl w3) (.cells #[.string (strB [b0]), .int .i64 ((b.toNat : Int) - 48), .bool false] 42 (0, 0))))) (fun _ _ h => h))
              have hBA := Aside0.mk (hWW.out.trans (hS'.out.trans (On.alloc (On.refl w3) (.cells #[.string (strB [b0]), .int .i64 ((b.toNat : Int) - 48), .bool false] 42 (0, 0)))))
              obtain ⟨ys, hys⟩ : ∃ ys, out ++ [((strB [b0], (b.toNat : Int) - 48, false) : Rel)] = ys := ⟨_, rfl⟩
              have hys' := Aside0.mk hys
              refine apR 52 hys hOA.out (litR1 w3 (strB [b0], (b.toNat : Int) - 48, false)) hBA.out.size (by have := hol'.out; have := hk'.out; have := hwl.out; have := hl'.out; simp; omega) fun v3 w4 hO3 hg3 => ?_
              have hO3' := Aside0.mk hO3
              have hB3 := Aside0.mk (Ex.on hBA.out (Ex.of_grown hg3) (fun i e => own_base hO'.out i e.symm))
              have hOs3 := Aside0.mk (own_ex (pw_own_below hOs'.out (hS'.out.trans (On.alloc (On.refl w3) (.cells #[.string (strB [b0]), .int .i64 ((b.toNat : Int) - 48), .bool false] 42 (0, 0))))) (Ex.of_grown hg3) (fun i hi e => own_ne_blk (pw_own_below hOs'.out (hS'.out.trans (On.alloc (On.refl w3) (.cells #[.string (strB [b0]), .int .i64 ((b.toNat : Int) - 48), .bool false] 42 (0, 0))))) hOA.out (by decide) hi e.symm))
              clear hys hO3 hg3
              go_wp2
              have h0 := hst.out
              rw [hpw.out] at h0
              exact ⟨⟨k + 1, ys, by have := hk'.out; omega, by go_num, hO3'.out, by rw [← hys'.out]; have := hol'.out; simp; omega, ⟨by rw [← hys'.out]; exact h0⟩, ⟨fun e => absurd e hs0'.out⟩, hB3.out, hOs3.out⟩, by simp [intOf]; have := hk'.out; omega⟩
            · have hpw := Aside0.mk (parW_none (w := b0 :: r) (by simp [cutP, h43]; omega))
              have hz1 : ((strB (b0 :: r)).size : Int) ≠ 2 := by rw [hzs]; omega
              have hz2 : (((strB (b0 :: r)).size : Int) != 2) = true := bne_iff_ne.mpr hz1
              have hz3 : (((strB (b0 :: r)).size : Int) == 2) = false := beq_eq_false_iff_ne.mpr hz1
              clear h2
              have hfill := alloc_set' wr
              go_wp2
              go_ret2
              have h0 := hst.out
              rw [hpw.out] at h0
              exact ⟨_, rfl, _, by rw [hp.out, ← h0]; rfl, by rw [hp.out, ← h0]; exact ownR0 (by simp only [World.size_alloc]) (by have := hWW.out.size; simp only [World.size_alloc]; omega), hWW.out.trans ((On.alloc (On.refl _) _).trans (On.alloc (On.refl _) _))⟩
    · have hend := Aside0.mk (show (if fmtR out = s then (out, true) else ([], false)) = parR s by
        have h0 := hq.out
        rw [List.drop_of_length_le (by omega), parL] at h0
        rw [hp.out]
        by_cases hs0 : s = []
        · rw [if_pos hs0, hsn.out hs0, hs0, fmtR_nil, if_pos rfl]
        · rw [if_neg hs0]; exact h0)
      clear hq hsn
      obtain ⟨Ao, co, hvo, hRo⟩ := OR.rd hO'.out
      subst hvo
      have hRo' := Aside0.mk hRo
      clear hRo
      by_cases e : fmtR out = s
      · have hbn : ((strB (fmtR out)).toList != (strB s).toList) = false := by rw [str_bne]; simp [e]
        have hbm : ((strB (fmtR out)).toList == (strB s).toList) = true := by rw [str_beq]; simp [e]
        have hbo : ((strB (fmtR out)).toList = (strB s).toList) = True := eq_true (beq_iff_eq.1 hbm)
        have he := Aside0.mk e
        clear e
        go_wp2_with (go_at_call 18; refine (sFormatRelations_calls _ Ao co out hRo'.out).mono ?_; rintro e w2 ⟨rfl, hb2⟩; have hb2' := Aside0.mk hb2; clear hb2)
        go_ret2
        have h1 := hend.out
        rw [if_pos he.out] at h1
        exact ⟨_, rfl, _, by rw [← h1]; rfl, by rw [← h1]; exact pw_own_below hO'.out hb2'.out, hWW.out.trans hb2'.out⟩
      · have hbn : ((strB (fmtR out)).toList != (strB s).toList) = true := by rw [str_bne]; simp [e]
        have hbm : ((strB (fmtR out)).toList == (strB s).toList) = false := by rw [str_beq]; simp [e]
        have hbo : ((strB (fmtR out)).toList = (strB s).toList) = False := eq_false (fun h => by rw [h] at hbm; simp at hbm)
        have he := Aside0.mk e
        clear e
        go_wp2_with (go_at_call 18; refine (sFormatRelations_calls _ Ao co out hRo'.out).mono ?_; rintro e w2 ⟨rfl, hb2⟩; have hb2' := Aside0.mk hb2; clear hb2)
        go_ret2
        have h1 := hend.out
        rw [if_neg he.out] at h1
        exact ⟨_, rfl, _, by rw [← h1]; rfl, by rw [← h1]; exact ownR0 rfl (hWW.out.trans hb2'.out).size, (hWW.out.trans hb2'.out).trans (On.alloc (On.refl _) _)⟩
end Go.Proofs.YtgemaohdlibboaaDoor.H
/- Walks: the law FnExactParseRelations. No condition. -/
namespace Go.Proofs.YtgemaohdlibboaaDoor.H
open Go Go.RowKit Go.Proofs.YtgemaohdlibboaaDoorW.PrintWords Go.Proofs.YtgemaohdlibboaaDoorW.PrintLast
open Go.Proofs.YtgemaohdlibboaaDoor.Reg (On on_draw)
set_option maxHeartbeats 8000000
set_option maxRecDepth 100000
set_option linter.unusedVariables false
set_option linter.unusedSimpArgs false

theorem parR_len (s : List UInt8) : (parR s).1.length ≤ s.length + 1 := by
  unfold parR
  split
  · simp
  · refine Nat.le_trans (parL_len s (cutS 32 s) []) ?_
    have := cutS_len 32 s
    simp; omega
theorem FnExactParseRelations_calls (w : World) (a : ByteArray) (ha : a.size ≤ 9223372036854775807) : Calls Tryd.prog 3 #[.string a] w fun e w' => e = .returned (.bool true) ∧ On w w' := by
  obtain ⟨s, rfl⟩ : ∃ s, a = strB s := ⟨a.data.toList, by simp [strB]⟩
  have hsz := strB_size s
  by_cases hb : s.length ≤ 1048576
  · have hn := Aside0.mk (parR_len s)
    have hl := Aside0.mk hb
    have hsp := Aside0.mk (fun w => sParseRelations_calls w s (by omega))
    have hip := Aside0.mk (fun w => iParseRelations_calls w s (by omega))
    obtain ⟨rs, hrs⟩ : ∃ rs, (parR s).1 = rs := ⟨_, rfl⟩
    obtain ⟨bo, hbo⟩ : ∃ bo, (parR s).2 = bo := ⟨_, rfl⟩
    rw [hrs] at hn
    rw [hrs, hbo] at hsp hip
    have c1 : (1048576 < (strB s).size) = False := eq_false (by omega)
    have c2 : ((1048576 : Int) < ((strB s).size : Int)) = False := eq_false (by omega)
    clear hrs hbo hb hsz ha
    go_enter Tryd.func3, Tryd.ntmps3
    go_wp2_with (go_at_call 5; refine Stop.out ?_)
    clear c1 c2
    refine ⟨(hsp.out _).mono ?_⟩
    rintro e w1 ⟨_, rfl, v0, rfl, hO, hb1⟩
    obtain ⟨A0, d0, rfl, -⟩ := OR.rd hO
    have hW := Aside0.mk hb1
    have hlt0 := Aside0.mk (own_lt hO)
    have hO0 := Aside0.mk hO
    clear hO hb1
    go_wp2_with (go_at_call 6; refine Stop.out ?_)
    refine ⟨(hip.out _).mono ?_⟩
    rintro e w2 ⟨_, rfl, v1, rfl, hO, hb1⟩
    obtain ⟨A1, d1, rfl, -⟩ := OR.rd hO
    replace hO0 := Aside0.mk (pw_own_below hO0.out hb1)
    have hs1 := Aside0.mk hW.out.size
    replace hW := Aside0.mk (hW.out.trans hb1)
    have hO1 := Aside0.mk hO
    clear hO hb1
    go_wp2_with (go_at_call 7; refine Stop.out ?_)
    refine ⟨(eqRelationS_calls _ A1 d1 A0 d0 rs (OR.same2 hO1.out).2 (OR.same2 hO0.out).2).mono ?_⟩
    rintro e w3 ⟨rfl, hb1⟩
    replace hO0 := Aside0.mk (pw_own_below hO0.out hb1)
    replace hO1 := Aside0.mk (pw_own_below hO1.out hb1)
    replace hW := Aside0.mk (hW.out.trans hb1)
    clear hb1
    go_wp2_with (go_at_call 8; refine Stop.out ?_)
    refine ⟨(markRelationS_calls _ _ _ rs 1 hO1.out (by omega) (by have := hn.out; have := hl.out; omega)).mono ?_⟩
    rintro e w4 ⟨rfl, hO, hE⟩
    have hOb := Aside0.mk (own_base hO1.out)
    replace hO0 := Aside0.mk (own_ex hO0.out hE (fun i hi e => by have h1 := hlt0.out i hi; have h2 := hOb.out i e.symm; omega))
    replace hW := Aside0.mk (Ex.on hW.out hE (fun i e => Nat.le_trans hs1.out (hOb.out i e.symm)))
    replace hO1 := Aside0.mk hO
    clear hO hE
    go_wp2_with (go_at_call 9; refine Stop.out ?_)
    refine ⟨(heldRelationS_calls _ A1 d1 rs.length 1 (OR.same2 hO1.out).2 (by omega) (by have := hn.out; have := hl.out; omega)).mono ?_⟩
    rintro e w5 ⟨rfl, hb1⟩
    replace hO0 := Aside0.mk (pw_own_below hO0.out hb1)
    replace hO1 := Aside0.mk (pw_own_below hO1.out hb1)
    replace hW := Aside0.mk (hW.out.trans hb1)
    clear hb1
    have n0 : ((1 : Int) + 3 * (rs.length : Int) < 0) = False := eq_false (by omega)
    go_wp2_with (go_at_call 6; refine Stop.out ?_)
    refine ⟨(hip.out _).mono ?_⟩
    rintro e w6 ⟨_, rfl, v2, rfl, hO, hb1⟩
    obtain ⟨A2, d2, rfl, -⟩ := OR.rd hO
    replace hO0 := Aside0.mk (pw_own_below hO0.out hb1)
    replace hO1 := Aside0.mk (pw_own_below hO1.out hb1)
    replace hW := Aside0.mk (hW.out.trans hb1)
    have hO2 := Aside0.mk hO
    clear hO hb1
    go_wp2_with (go_at_call 7; refine Stop.out ?_)
    refine ⟨(eqRelationS_calls _ A2 d2 A0 d0 rs (OR.same2 hO2.out).2 (OR.same2 hO0.out).2).mono ?_⟩
    rintro e w7 ⟨rfl, hb1⟩
    replace hO1 := Aside0.mk (pw_own_below hO1.out hb1)
    replace hW := Aside0.mk (hW.out.trans hb1)
    clear hb1
    go_wp2_with (go_at_call 9; refine Stop.out ?_)
    refine ⟨(heldRelationS_calls _ A1 d1 rs.length 1 (OR.same2 hO1.out).2 (by omega) (by have := hn.out; have := hl.out; omega)).mono ?_⟩
    rintro e w8 ⟨rfl, hb1⟩
    replace hW := Aside0.mk (hW.out.trans hb1)
    clear hb1
    go_wp2
    go_ret
    exact ⟨rfl, hW.out⟩
  · have c1 : (1048576 < (strB s).size) = True := eq_true (by omega)
    have c2 : ((1048576 : Int) < ((strB s).size : Int)) = True := eq_true (by omega)
    clear hsz hb ha
    go_enter Tryd.func3, Tryd.ntmps3
    go_wp2
    go_ret
    exact ⟨rfl, On.refl _⟩
end Go.Proofs.YtgemaohdlibboaaDoor.H
