/- Walks and plain laws for the law FnInstanceFormat, part 5 of 7: the texts HF5, HF6, HE, HK1, HC4, HF15, HG24, HS6, HG12, HG25, HF14, HF9, HF12 in one. No condition. -/
import Derived.Test.YtgemaohdlibboaaGreatDoorShelf
import Derived.Test.YtgemaohdlibboaaGreatDoorZFnInstanceFormat4
/- Walks: relations written by the program. No condition. -/
namespace Go.Proofs.YtgemaohdlibboaaGreatDoor.H
open Go Go.RowKit Go.Proofs.YtgemaohdlibboaaGreatDoorW.PrintWords Go.Proofs.YtgemaohdlibboaaGreatDoorW.PrintLast
open Go.Proofs.YtgemaohdlibboaaGreatDoor.Reg (On on_draw)
set_option maxHeartbeats 4000000
set_option maxRecDepth 100000
set_option linter.unusedVariables false
set_option linter.unusedSimpArgs false

theorem relsL_take (rs : List Rel) (k : Nat) (h : k < rs.length) : (rs.take (k + 1)).map relL = (rs.take k).map relL ++ [relL rs[k]] := by
  rw [List.take_succ_eq_append_getElem h, List.map_append]; rfl
theorem iFormatRelations_calls (w : World) (A : Option Addr) (c : Nat) (rs : List Rel) (h : Rels w A c rs) : Calls Tryz.prog 38 #[.slice A rs.length c] w fun e w' => e = .returned (.string (strB (fmtR rs))) ∧ On w w' := by
  have hmax := h.max
  have h' := Aside0.mk h
  clear h
  cases ho : okRels rs with
  | false =>
    have ho' := Aside0.mk ho
    clear ho
    go_enter Tryz.func38, Tryz.ntmps38
    go_wp2_with (go_at_call 49; refine (iAreValidRelations_calls w A c rs h'.out).mono ?_; rintro e w1 ⟨rfl, hb1⟩; rw [ho'.out])
    go_ret
    exact ⟨by unfold fmtR; rw [if_neg (by rw [ho'.out]; simp)]; rfl, hb1⟩
  | true =>
    have ho' := Aside0.mk ho
    have hk6 := Aside0.mk (show rs.length ≤ 6 by simp only [okRels, Bool.and_eq_true, decide_eq_true_eq] at ho; exact ho.2)
    clear ho
    go_enter Tryz.func38, Tryz.ntmps38
    go_wp2_with (go_at_call 49; refine (iAreValidRelations_calls w A c rs h'.out).mono ?_; rintro e w1 ⟨rfl, hb1⟩; rw [ho'.out]; have hb1' := Aside0.mk hb1; clear hb1)
    go_loopw [3, 13] (fun v3 v13 wr => ∃ k : Nat, k ≤ rs.length ∧ v13 = .int .i64 k ∧ OSt wr w.heap.size v3 ((rs.take k).map relL) ∧ On w wr) (fun _ v13 _ => rs.length - (intOf v13).toNat)
    case atStart => exact ⟨0, Nat.zero_le _, rfl, ownS0 rfl hb1'.out.size, hb1'.out.trans (On.alloc (On.refl _) _)⟩
    case round =>
      obtain ⟨k, hk, rfl, hO, hB⟩ := hrel
      have hB' := Aside0.mk hB
      obtain ⟨ls, hls⟩ : ∃ ls, (rs.take k).map relL = ls := ⟨_, rfl⟩
      rw [hls] at hO
      have hls' := Aside0.mk hls
      have hO' := Aside0.mk hO
      clear hB hO hls
      by_cases hlt : k < rs.length
      · obtain ⟨ad, rfl, x0, x1, x2⟩ := (h'.out.on hB'.out).at k hlt
        have hk' := Aside0.mk hlt
        have hstep := Aside0.mk (relsL_take rs k hlt)
        obtain ⟨b, e1, e2, e3, e4, e5⟩ := relL_parts (okRels_mem ho'.out rs[k] (List.getElem_mem hlt))
        obtain ⟨r, hr⟩ : ∃ r : Rel, rs[k] = r := ⟨_, rfl⟩
        rw [hr] at x0 x1 x2 e1 e2 e3 e4 hstep e5
        clear hr
        obtain ⟨nm, a, src⟩ := r
        simp only at x0 x1 x2 e1 e2 e3 e4 hstep e5
        subst e1
        have ha' := Aside0.mk (And.intro e2 e3)
        have hia := Aside0.mk e5
        have hrl := Aside0.mk e4
        clear e2 e3 e4 e5
        have hfill := alloc_fill3 wr
        cases src with
        | true =>
          have c3 : (⟨#[43]⟩ : ByteArray) ++ strB [b] = strB [43, b] := by rw [show (⟨#[43]⟩ : ByteArray) = strB [43] from rfl, strB_append]; rfl
          have z3 : (9223372036854775807 < 1 + (strB [b]).size) = False := eq_false (by rw [strB_size]; simp)
          have c4 := strB_append [43, b] (Lib.itoa a)
          have z4 := szOk (a := [43, b]) (b := Lib.itoa a) (by have := hia.out; simp; omega)
          obtain ⟨y, hy⟩ : ∃ y, [43, b] ++ Lib.itoa a = y := ⟨_, rfl⟩
          have hyr := Aside0.mk (show relL (strB [b], a, true) = y by rw [hrl.out, ← hy]; rfl)
          rw [hy] at c4
          clear hy
          go_wp2
          have hbx := Aside0.mk (show (wr.alloc (.cells #[.string (strB [b]), .int .i64 a, .bool true] 95 (0, 0))).heap[wr.heap.size]? = some _ from loc_new wr _ _)
          have hc0 := blk_cell hbx.out
          have hBx := Aside0.mk (hB'.out.trans (On.alloc (On.refl _) (.cells #[.string (strB [b]), .int .i64 a, .bool true] 95 (0, 0))))
          clear hfill
          refine Reg.region [(0,.P),(1,.L),(2,.L),(3,.L),(4,.L),(5,.L),(6,.L),(7,.C),(8,.L)] [9,10,11] (by kernel_rfl) (by kernel_rfl) ?_
          repeat first | refine sP ?_ | refine sS ?_ | refine sA ?_ | refine sL ?_ | refine sQ ?_ | refine sO ?_
          refine callC (.string (strB (Lib.itoa a))) Tryz.func107 (fun w' hS => ?_) ?_
          focus exact iFormatInt_calls w' a (by have := ha'.out; omega) (by have := ha'.out; omega)
          repeat first | refine sP ?_ | refine sS ?_ | refine sA ?_ | refine sL ?_ | refine sQ ?_ | refine sO ?_
          refine Reg.tail_ fun w2 hS => ?_
          clear hc0
          refine litS1 28 (y := y) ?_
          have hOA := Aside0.mk (own_ex hO'.out (Ex.of_on (S := fun _ => False) ((On.alloc (On.refl _) (.cells #[.string (strB [b]), .int .i64 a, .bool true] 95 (0, 0))).trans (hS.trans (On.alloc (On.refl w2) (.cells #[.string (strB y)] 9 (0, 0)))))) (fun _ _ h => h))
          have hBA := Aside0.mk (hBx.out.trans (hS.trans (On.alloc (On.refl w2) (.cells #[.string (strB y)] 9 (0, 0)))))
          obtain ⟨ys, hys⟩ : ∃ ys, ls ++ [y] = ys := ⟨_, rfl⟩
          have hys' := Aside0.mk hys
          refine apS1 29 hys hOA.out (lit_S w2 y) hBA.out.size (by have := hk6.out; rw [← hls'.out]; simp; omega) fun v3 w3 hO3 hg3 => ?_
          have hO3' := Aside0.mk hO3
          have hB3 := Aside0.mk (Ex.on hBA.out (Ex.of_grown hg3) (fun i e => own_base hO'.out i e.symm))
          clear hys hO3 hg3
          go_wp2
          refine ⟨⟨k + 1, by have := hk'.out; omega, by go_num, ?_, hB3.out⟩, by simp [intOf]; have := hk'.out; omega⟩
          rw [hstep.out, hls'.out, hyr.out, hys'.out]; exact hO3'.out
        | false =>
          have c3 : (⟨#[]⟩ : ByteArray) ++ strB [b] = strB [b] := by rw [show (⟨#[]⟩ : ByteArray) = strB [] from rfl, strB_append]; rfl
          have z3 : (9223372036854775807 < (strB [b]).size) = False := eq_false (by rw [strB_size]; simp)
          have c4 := strB_append [b] (Lib.itoa a)
          have z4 := szOk (a := [b]) (b := Lib.itoa a) (by have := hia.out; simp; omega)
          obtain ⟨y, hy⟩ : ∃ y, [b] ++ Lib.itoa a = y := ⟨_, rfl⟩
          have hyr := Aside0.mk (show relL (strB [b], a, false) = y by rw [hrl.out, ← hy]; rfl)
          rw [hy] at c4
          clear hy
          go_wp2
          have hbx := Aside0.mk (show (wr.alloc (.cells #[.string (strB [b]), .int .i64 a, .bool false] 95 (0, 0))).heap[wr.heap.size]? = some _ from loc_new wr _ _)
          have hc0 := blk_cell hbx.out
          have hBx := Aside0.mk (hB'.out.trans (On.alloc (On.refl _) (.cells #[.string (strB [b]), .int .i64 a, .bool false] 95 (0, 0))))
          clear hfill
          refine Reg.region [(0,.P),(1,.L),(2,.L),(3,.L),(4,.L),(5,.L),(6,.L),(7,.C),(8,.L)] [9,10,11] (by kernel_rfl) (by kernel_rfl) ?_
          repeat first | refine sP ?_ | refine sS ?_ | refine sA ?_ | refine sL ?_ | refine sQ ?_ | refine sO ?_
          refine callC (.string (strB (Lib.itoa a))) Tryz.func107 (fun w' hS => ?_) ?_
          focus exact iFormatInt_calls w' a (by have := ha'.out; omega) (by have := ha'.out; omega)
          repeat first | refine sP ?_ | refine sS ?_ | refine sA ?_ | refine sL ?_ | refine sQ ?_ | refine sO ?_
          refine Reg.tail_ fun w2 hS => ?_
          clear hc0
          refine litS1 28 (y := y) ?_
          have hOA := Aside0.mk (own_ex hO'.out (Ex.of_on (S := fun _ => False) ((On.alloc (On.refl _) (.cells #[.string (strB [b]), .int .i64 a, .bool false] 95 (0, 0))).trans (hS.trans (On.alloc (On.refl w2) (.cells #[.string (strB y)] 9 (0, 0)))))) (fun _ _ h => h))
          have hBA := Aside0.mk (hBx.out.trans (hS.trans (On.alloc (On.refl w2) (.cells #[.string (strB y)] 9 (0, 0)))))
          obtain ⟨ys, hys⟩ : ∃ ys, ls ++ [y] = ys := ⟨_, rfl⟩
          have hys' := Aside0.mk hys
          refine apS1 29 hys hOA.out (lit_S w2 y) hBA.out.size (by have := hk6.out; rw [← hls'.out]; simp; omega) fun v3 w3 hO3 hg3 => ?_
          have hO3' := Aside0.mk hO3
          have hB3 := Aside0.mk (Ex.on hBA.out (Ex.of_grown hg3) (fun i e => own_base hO'.out i e.symm))
          clear hys hO3 hg3
          go_wp2
          refine ⟨⟨k + 1, by have := hk'.out; omega, by go_num, ?_, hB3.out⟩, by simp [intOf]; have := hk'.out; omega⟩
          rw [hstep.out, hls'.out, hyr.out, hys'.out]; exact hO3'.out
      · have e1 : rs.take k = rs := List.take_of_length_le (by omega)
        have hls2 := Aside0.mk (show rs.map relL = ls by rw [← hls'.out, e1])
        clear e1
        obtain ⟨Aq, cq, rfl⟩ := own_slice hO'.out
        have hSt' := Aside0.mk (OSt.same hO'.out).2
        have hjl := Aside0.mk (show (Lib.join ls [32]).length ≤ 100 by rw [← hls2.out]; have := txtR_len ho'.out rs.length; rwa [txtR_all rs _ (Nat.le_refl _)] at this)
        have hll := Aside0.mk (show ls.length ≤ 1000000 by rw [← hls2.out]; have := hk6.out; simp; omega)
        go_wp2_with (go_at_call 65; refine (Join_calls wr Aq cq ls [32] hSt'.out hll.out (by have := hjl.out; omega)).mono ?_; rintro e w2 ⟨rfl, hb2⟩)
        go_ret
        exact ⟨by unfold fmtR; rw [if_pos ho'.out, hls2.out]; rfl, hB'.out.trans hb2⟩
end Go.Proofs.YtgemaohdlibboaaGreatDoor.H
/- Walks: facts written, on both sides. No condition. -/
namespace Go.Proofs.YtgemaohdlibboaaGreatDoor.H
open Go Go.RowKit Go.Proofs.YtgemaohdlibboaaGreatDoorW.PrintWords Go.Proofs.YtgemaohdlibboaaGreatDoorW.PrintLast
open Go.Proofs.YtgemaohdlibboaaGreatDoor.Reg (On on_draw)
set_option maxHeartbeats 4000000
set_option maxRecDepth 100000
set_option linter.unusedVariables false
set_option linter.unusedSimpArgs false

def txtF (vs : List Int) (k : Nat) : List UInt8 := Lib.join ((vs.take k).map fvL) [44]
theorem txtF_succ (vs : List Int) (k : Nat) (h : k < vs.length) : txtF vs (k + 1) = (if k = 0 then [] else txtF vs k ++ [44]) ++ fvL vs[k] := by
  unfold txtF
  rw [List.take_succ_eq_append_getElem h, List.map_append, List.map_cons, List.map_nil, join_snoc, List.length_map, List.length_take, Nat.min_eq_left (by omega)]
  by_cases c : k = 0
  · rw [if_pos c, if_pos c]; rfl
  · rw [if_neg c, if_neg c]
theorem txtF_len (vs : List Int) (k : Nat) (h : vs.length ≤ 3) : (txtF vs k).length ≤ 20 := by
  have := join_len [44] 3 _ ((vs.take k).map fvL) rfl (fun x hx => by
    obtain ⟨v, hv, rfl⟩ := List.mem_map.1 hx
    exact fvL_len v)
  rw [List.length_map, List.length_take] at this
  unfold txtF
  simp at this ⊢
  omega
theorem txtF_all (vs : List Int) (k : Nat) (h : vs.length ≤ k) : txtF vs k = Lib.join (vs.map fvL) [44] := by unfold txtF; rw [List.take_of_length_le h]
theorem fmtF_cat {rs : List Rel} {f : Fct} {b : UInt8} (h : okFact rs f = true) (hb : nameL rs f.1 = [b]) : fmtF rs f = ([b, 40] ++ Lib.join (f.2.map fvL) [44]) ++ [41] := by
  unfold fmtF; rw [if_pos h, hb]; simp
theorem fvs_take (vs : List Int) (k : Nat) (h : k < vs.length) : (vs.take (k + 1)).map fvL = (vs.take k).map fvL ++ [fvL vs[k]] := by
  rw [List.take_succ_eq_append_getElem h, List.map_append]; rfl
theorem sFormatFact_calls (w : World) (A : Option Addr) (c : Nat) (rs : List Rel) (h : Rels w A c rs) (A1 c1) (f : Fct) (h1 : Ints w A1 c1 f.2) : Calls Tryz.prog 114 #[.slice A rs.length c, .agg #[.int .i64 f.1, .slice A1 f.2.length c1]] w fun e w' => e = .returned (.string (strB (fmtF rs f))) ∧ On w w' := by
  have h' := Aside0.mk h
  have h1' := Aside0.mk h1
  clear h h1
  cases ho : okFact rs f with
  | false =>
    have hb := Aside0.mk (On.alloc (On.refl w) (.cells #[.int .i64 f.1, .slice A1 f.2.length c1] 60 (0, 0)))
    have ho' := Aside0.mk ho
    clear ho
    go_enter Tryz.func114, Tryz.ntmps114
    go_wp2_with (go_at_call 47; refine (IsValidFact_calls _ A c rs A1 c1 f (h'.out.on hb.out) (h1'.out.on hb.out)).mono ?_; rintro e w1 ⟨rfl, hb1⟩; rw [ho'.out])
    go_ret
    exact ⟨by unfold fmtF; rw [if_neg (by rw [ho'.out]; simp)]; rfl, hb.out.trans hb1⟩
  | true =>
    have ho' := Aside0.mk ho
    obtain ⟨rn, hrn, e1, e2, ⟨b, e3, -, -⟩, -, hvs⟩ := okFact_parts ho
    have hcat := Aside0.mk (fmtF_cat ho (e2.trans e3))
    have hl3 := Aside0.mk (okFact_len ho)
    obtain ⟨i, vs⟩ := f
    simp only at e1 hvs hcat hl3
    subst e1
    have hrn' := Aside0.mk hrn
    have hnm := Aside0.mk (show rs[rn].1 = strB [b] by rw [← e3, strB_self])
    have hvs' := Aside0.mk hvs
    have hbx := Aside0.mk (loc1 w #[.int .i64 (rn : Int), .slice A1 vs.length c1] 60)
    have hB0 := Aside0.mk (On.alloc (On.refl w) (.cells #[.int .i64 (rn : Int), .slice A1 vs.length c1] 60 (0, 0)))
    obtain ⟨w0, hw0⟩ : ∃ w0, w.alloc (.cells #[.int .i64 (rn : Int), .slice A1 vs.length c1] 60 (0, 0)) = w0 := ⟨_, rfl⟩
    clear ho e2 e3 hvs hw0
    have hmx := h1'.out.max
    go_enter Tryz.func114, Tryz.ntmps114
    go_wp2_with (go_at_call 47; refine Stop.out ?_)
    refine ⟨(IsValidFact_calls _ A c rs A1 c1 ((rn : Int), vs) (h'.out.on hB0.out) (h1'.out.on hB0.out)).mono ?_⟩
    rintro e w1 ⟨rfl, hb1⟩
    rw [ho'.out]
    have hB1 := Aside0.mk (hB0.out.trans hb1)
    have hbx1 := Aside0.mk (blk_below hbx.out.1 hb1)
    have hq0 := blk_cell hbx1.out
    obtain ⟨ad, hA, x0, -, -⟩ := (h'.out.on hB1.out).at rn hrn'.out
    subst hA
    rw [hnm.out] at x0
    have hrb := hrn'.out
    have c1' := cat1 [b] 40
    have z1' := szOk1 (a := [b]) (by simp)
    clear hb1
    go_wp2
    clear hq0 x0 c1' z1' hrb
    go_loopw [5, 6] (fun v5 v6 wr => ∃ (k : Nat) (s : List UInt8), k ≤ vs.length ∧ v5 = .string (strB s) ∧ v6 = .int .i64 k ∧ Aside0 (s = [b, 40] ++ txtF vs k) ∧ On w1 wr) (fun _ v6 _ => vs.length - (intOf v6).toNat)
    case atStart => exact ⟨0, _, Nat.zero_le _, rfl, rfl, ⟨by unfold txtF; simp [join_nil']⟩, On.refl _⟩
    case round =>
      obtain ⟨k, s, hk, rfl, rfl, hs, hB⟩ := hrel
      have hB' := Aside0.mk hB
      have hsl := Aside0.mk (show s.length ≤ 30 by rw [hs.out]; have := txtF_len vs k hl3.out; simp; omega)
      have hbxr := Aside0.mk (blk_below hbx1.out hB)
      have hq0 := blk_cell hbxr.out
      clear hB
      by_cases hlt : k < vs.length
      · obtain ⟨ad2, rfl, x2⟩ := (h1'.out.on (hB1.out.trans hB'.out)).at k hlt
        have hk' := Aside0.mk hlt
        have hstep := Aside0.mk (txtF_succ vs k hlt)
        have hbd := Aside0.mk (h1'.out.bd k hlt)
        obtain ⟨v, hv⟩ : ∃ v, vs[k] = v := ⟨_, rfl⟩
        rw [hv] at x2 hstep hbd
        clear hv
        have hs' := Aside0.mk hs.out
        clear hs
        have hfl := Aside0.mk (fvL_len v)
        by_cases hk0 : 0 < k
        · have hkb : decide ((0 : Int) < (k : Int)) = true := decide_eq_true (by omega)
          have hkn : decide (0 < k) = true := decide_eq_true hk0
          have c2 := cat1 s 44
          have z2 := szOk1 (a := s) (by have := hsl.out; omega)
          obtain ⟨t, ht⟩ : ∃ t, s ++ [44] = t := ⟨_, rfl⟩
          have htl := Aside0.mk (show t.length ≤ 31 by rw [← ht]; have := hsl.out; simp; omega)
          have hfin := Aside0.mk (show t ++ fvL v = [b, 40] ++ txtF vs (k + 1) by rw [hstep.out, if_neg (by omega), ← ht, hs'.out]; simp)
          rw [ht] at c2
          clear ht hk0
          have c3 := strB_append t (fvL v)
          have z3 := szOk (a := t) (b := fvL v) (by have := htl.out; have := hfl.out; omega)
          go_wp2_with (go_at_call 96; refine (sFormatValue_calls _ v hbd.out).mono ?_; rintro e w3 ⟨rfl, hb3⟩)
          exact ⟨⟨k + 1, _, by have := hk'.out; omega, rfl, by go_num, ⟨hfin.out⟩, hB'.out.trans hb3⟩, by simp [intOf]; have := hk'.out; omega⟩
        · have hkb : decide ((0 : Int) < (k : Int)) = false := decide_eq_false (by omega)
          have hkn : decide (0 < k) = false := decide_eq_false hk0
          have hfin := Aside0.mk (show s ++ fvL v = [b, 40] ++ txtF vs (k + 1) by rw [hstep.out, if_pos (by omega), hs'.out, show k = 0 by omega]; simp [txtF, join_nil'])
          clear hk0
          have c3 := strB_append s (fvL v)
          have z3 := szOk (a := s) (b := fvL v) (by have := hsl.out; have := hfl.out; omega)
          go_wp2_with (go_at_call 96; refine (sFormatValue_calls _ v hbd.out).mono ?_; rintro e w3 ⟨rfl, hb3⟩)
          exact ⟨⟨k + 1, _, by have := hk'.out; omega, rfl, by go_num, ⟨hfin.out⟩, hB'.out.trans hb3⟩, by simp [intOf]; have := hk'.out; omega⟩
      · have c4 := cat1 s 41
        have z4 := szOk1 (a := s) (by have := hsl.out; omega)
        have hfin := Aside0.mk (show s ++ [41] = fmtF rs ((rn : Int), vs) by rw [hcat.out, hs.out, txtF_all vs k (by omega)])
        clear hs
        go_wp2
        go_ret
        exact ⟨by rw [← hfin.out]; rfl, hB1.out.trans hB'.out⟩
theorem iFormatFact_calls (w : World) (A : Option Addr) (c : Nat) (rs : List Rel) (h : Rels w A c rs) (A1 c1) (f : Fct) (h1 : Ints w A1 c1 f.2) : Calls Tryz.prog 44 #[.slice A rs.length c, .agg #[.int .i64 f.1, .slice A1 f.2.length c1]] w fun e w' => e = .returned (.string (strB (fmtF rs f))) ∧ On w w' := by
  have h' := Aside0.mk h
  have h1' := Aside0.mk h1
  clear h h1
  cases ho : okFact rs f with
  | false =>
    have hb := Aside0.mk (On.alloc (On.refl w) (.cells #[.int .i64 f.1, .slice A1 f.2.length c1] 60 (0, 0)))
    have ho' := Aside0.mk ho
    clear ho
    go_enter Tryz.func44, Tryz.ntmps44
    go_wp2_with (go_at_call 50; refine (iIsValidFact_calls _ A c rs A1 c1 f (h'.out.on hb.out) (h1'.out.on hb.out)).mono ?_; rintro e w1 ⟨rfl, hb1⟩; rw [ho'.out])
    go_ret
    exact ⟨by unfold fmtF; rw [if_neg (by rw [ho'.out]; simp)]; rfl, hb.out.trans hb1⟩
  | true =>
    have ho' := Aside0.mk ho
    obtain ⟨rn, hrn, e1, e2, ⟨b, e3, -, -⟩, -, hvs⟩ := okFact_parts ho
    have hcat := Aside0.mk (fmtF_cat ho (e2.trans e3))
    have hl3 := Aside0.mk (okFact_len ho)
    obtain ⟨i, vs⟩ := f
    simp only at e1 hvs hcat hl3
    subst e1
    have hrn' := Aside0.mk hrn
    have hnm := Aside0.mk (show rs[rn].1 = strB [b] by rw [← e3, strB_self])
    have hvs' := Aside0.mk hvs
    have hbx := Aside0.mk (loc1 w #[.int .i64 (rn : Int), .slice A1 vs.length c1] 60)
    have hB0 := Aside0.mk (On.alloc (On.refl w) (.cells #[.int .i64 (rn : Int), .slice A1 vs.length c1] 60 (0, 0)))
    obtain ⟨w0, hw0⟩ : ∃ w0, w.alloc (.cells #[.int .i64 (rn : Int), .slice A1 vs.length c1] 60 (0, 0)) = w0 := ⟨_, rfl⟩
    clear ho e2 e3 hvs hw0
    have hmx := h1'.out.max
    go_enter Tryz.func44, Tryz.ntmps44
    go_wp2_with (go_at_call 50; refine Stop.out ?_)
    refine ⟨(iIsValidFact_calls _ A c rs A1 c1 ((rn : Int), vs) (h'.out.on hB0.out) (h1'.out.on hB0.out)).mono ?_⟩
    rintro e w1 ⟨rfl, hb1⟩
    rw [ho'.out]
    have hB1 := Aside0.mk (hB0.out.trans hb1)
    have hbx1 := Aside0.mk (blk_below hbx.out.1 hb1)
    have hq0 := blk_cell (blk_below hbx1.out (On.alloc (On.refl w1) (.cells #[] 9 (0, 0))))
    clear hb1
    go_wp2
    clear hq0
    go_loopw [5, 16] (fun v5 v16 wr => ∃ k : Nat, k ≤ vs.length ∧ v16 = .int .i64 k ∧ OSt wr w1.heap.size v5 ((vs.take k).map fvL) ∧ On w1 wr) (fun _ v16 _ => vs.length - (intOf v16).toNat)
    case atStart => exact ⟨0, Nat.zero_le _, rfl, ownS0 rfl (Nat.le_refl _), On.alloc (On.refl _) _⟩
    case round =>
      obtain ⟨k, hk, rfl, hO, hB⟩ := hrel
      have hB' := Aside0.mk hB
      obtain ⟨ls, hls⟩ : ∃ ls, (vs.take k).map fvL = ls := ⟨_, rfl⟩
      rw [hls] at hO
      have hls' := Aside0.mk hls
      have hO' := Aside0.mk hO
      clear hB hO hls
      by_cases hlt : k < vs.length
      · obtain ⟨ad2, rfl, x2⟩ := (h1'.out.on (hB1.out.trans hB'.out)).at k hlt
        have hk' := Aside0.mk hlt
        have hstep := Aside0.mk (fvs_take vs k hlt)
        have hbd := Aside0.mk (h1'.out.bd k hlt)
        obtain ⟨v, hv⟩ : ∃ v, vs[k] = v := ⟨_, rfl⟩
        rw [hv] at x2 hstep hbd
        clear hv
        go_wp2_with (go_at_call 95; refine Stop.out ?_)
        refine ⟨(iFormatValue_calls _ v hbd.out).mono ?_⟩
        rintro e w2 ⟨rfl, hb3⟩
        have hb3' := Aside0.mk hb3
        clear hb3 x2
        go_wp2_with (refine gate 23 ?_)
        refine ⟨litS1 23 (y := fvL v) ?_⟩
        have hOA := Aside0.mk (own_ex hO'.out (Ex.of_on (S := fun _ => False) (hb3'.out.trans (On.alloc (On.refl w2) (.cells #[.string (strB (fvL v))] 9 (0, 0))))) (fun _ _ h => h))
        have hBA := Aside0.mk (hB'.out.trans (hb3'.out.trans (On.alloc (On.refl w2) (.cells #[.string (strB (fvL v))] 9 (0, 0)))))
        obtain ⟨ys, hys⟩ : ∃ ys, ls ++ [fvL v] = ys := ⟨_, rfl⟩
        have hys' := Aside0.mk hys
        refine apS1 24 hys hOA.out (lit_S w2 (fvL v)) hBA.out.size (by have := hl3.out; rw [← hls'.out]; simp; omega) fun v3 w3 hO3 hg3 => ?_
        have hO3' := Aside0.mk hO3
        have hB3 := Aside0.mk (Ex.on hBA.out (Ex.of_grown hg3) (fun i e => own_base hO'.out i e.symm))
        clear hys hO3 hg3
        go_wp2
        refine ⟨⟨k + 1, by have := hk'.out; omega, by go_num, ?_, hB3.out⟩, by simp [intOf]; have := hk'.out; omega⟩
        rw [hstep.out, hls'.out, hys'.out]; exact hO3'.out
      · have e1 : vs.take k = vs := List.take_of_length_le (by omega)
        have hls2 := Aside0.mk (show vs.map fvL = ls by rw [← hls'.out, e1])
        clear e1
        obtain ⟨Aq, cq, rfl⟩ := own_slice hO'.out
        have hSt' := Aside0.mk (OSt.same hO'.out).2
        have hjl := Aside0.mk (show (Lib.join ls [44]).length ≤ 20 by rw [← hls2.out]; have := txtF_len vs vs.length hl3.out; rwa [txtF_all vs _ (Nat.le_refl _)] at this)
        have hll := Aside0.mk (show ls.length ≤ 1000000 by rw [← hls2.out]; have := hl3.out; simp; omega)
        have hbxr := Aside0.mk (blk_below hbx1.out hB'.out)
        have hq0 := blk_cell hbxr.out
        obtain ⟨ad, hA, x0, -, -⟩ := (h'.out.on (hB1.out.trans hB'.out)).at rn hrn'.out
        subst hA
        rw [hnm.out] at x0
        have hrb := hrn'.out
        have c1' := cat1 [b] 40
        have z1' := szOk1 (a := [b]) (by simp)
        obtain ⟨j, hj⟩ : ∃ j, Lib.join ls [44] = j := ⟨_, rfl⟩
        have hj' := Aside0.mk hj
        rw [hj] at hjl
        have c5 := strB_append [b, 40] j
        have z5 := szOk (a := [b, 40]) (b := j) (by have := hjl.out; simp; omega)
        obtain ⟨x, hx⟩ : ∃ x, [b, 40] ++ j = x := ⟨_, rfl⟩
        have hxl := Aside0.mk (show x.length ≤ 30 by rw [← hx]; have := hjl.out; simp; omega)
        rw [hx] at c5
        have hfin := Aside0.mk (show x ++ [41] = fmtF rs ((rn : Int), vs) by rw [hcat.out, ← hx, ← hj, hls2.out])
        have c6 := cat1 x 41
        have z6 := szOk1 (a := x) (by have := hxl.out; omega)
        clear hj hx
        go_wp2
        refine Reg.region [(0,.L),(1,.L),(2,.L),(3,.L),(4,.L),(5,.L),(6,.L),(7,.L),(8,.C),(9,.L),(10,.L)] [11] (by kernel_rfl) (by kernel_rfl) ?_
        repeat first | refine sP ?_ | refine sS ?_ | refine sA ?_ | refine sL ?_ | refine sQ ?_ | refine sO ?_
        refine callC (.string (strB j)) Tryz.func65 (fun w' hS => ?_) ?_
        focus (have h := Join_calls w' Aq cq ls [44] (hSt'.out.on hS) hll.out (by rw [hj'.out]; have := hjl.out; omega); rw [hj'.out] at h; exact h)
        repeat first | refine sP ?_ | refine sS ?_ | refine sA ?_ | refine sL ?_ | refine sQ ?_ | refine sO ?_
        refine Reg.tail_ fun w2 hS => ?_
        go_wp2
        go_ret
        exact ⟨by rw [← hfin.out]; rfl, (hB1.out.trans hB'.out).trans hS⟩
end Go.Proofs.YtgemaohdlibboaaGreatDoor.H
/- Sorted, each once: plain. No condition. -/
namespace Go.Proofs.YtgemaohdlibboaaGreatDoor.H
open Go Go.RowKit Go.Proofs.YtgemaohdlibboaaGreatDoorW.PrintWords Go.Proofs.YtgemaohdlibboaaGreatDoorW.PrintLast
open Go.Proofs.YtgemaohdlibboaaGreatDoor.Reg (On on_draw)
set_option maxHeartbeats 1000000
set_option linter.unusedVariables false
set_option linter.unusedSimpArgs false

theorem mem_put (x z : Int) : ∀ l : List Int, z ∈ put l x ↔ z = x ∨ z ∈ l
  | [] => by simp [put]
  | y :: l => by
    unfold put
    by_cases c : y < x
    · rw [if_pos c, List.mem_cons, List.mem_cons, mem_put x z l]
      constructor <;> rintro (h | h | h) <;> simp [h]
    · rw [if_neg c]
      by_cases c2 : y = x
      · rw [if_pos c2]; subst c2; simp
      · rw [if_neg c2]; simp
theorem put_up (x : Int) : ∀ l : List Int, l.Pairwise (· < ·) → (put l x).Pairwise (· < ·)
  | [], _ => by simp [put]
  | y :: l, h => by
    rw [List.pairwise_cons] at h
    unfold put
    by_cases c : y < x
    · rw [if_pos c, List.pairwise_cons]
      refine ⟨fun z hz => ?_, put_up x l h.2⟩
      rcases (mem_put x z l).1 hz with rfl | hz
      · exact c
      · exact h.1 z hz
    · rw [if_neg c]
      by_cases c2 : y = x
      · rw [if_pos c2, List.pairwise_cons]; exact h
      · rw [if_neg c2, List.pairwise_cons, List.pairwise_cons]
        refine ⟨fun z hz => ?_, h⟩
        rcases List.mem_cons.1 hz with rfl | hz
        · omega
        · have := h.1 z hz; omega
/-- Two ascending lists with the same elements are one. -/
theorem up_ext : ∀ a b : List Int, a.Pairwise (· < ·) → b.Pairwise (· < ·) → (∀ x, x ∈ a ↔ x ∈ b) → a = b
  | [], [], _, _, _ => rfl
  | [], y :: b, _, _, h => absurd ((h y).2 (by simp)) (by simp)
  | x :: a, [], _, _, h => absurd ((h x).1 (by simp)) (by simp)
  | x :: a, y :: b, ha, hb, h => by
    rw [List.pairwise_cons] at ha hb
    have e : x = y := by
      rcases List.mem_cons.1 ((h x).1 (by simp)) with e | hx
      · exact e
      · rcases List.mem_cons.1 ((h y).2 (by simp)) with e | hy
        · exact e.symm
        · have h1 := hb.1 x hx
          have h2 := ha.1 y hy
          omega
    subst e
    rw [up_ext a b ha.2 hb.2 (fun z => ?_)]
    constructor
    · intro hz
      rcases List.mem_cons.1 ((h z).1 (List.mem_cons_of_mem _ hz)) with e | hz'
      · have := ha.1 z hz; omega
      · exact hz'
    · intro hz
      rcases List.mem_cons.1 ((h z).2 (List.mem_cons_of_mem _ hz)) with e | hz'
      · have := hb.1 z hz; omega
      · exact hz'
/-- An array in order, of which neighbours that are equal go: ascending, each once. -/
theorem compactUpTo_up (d : Array Int) (hs : ∀ i j, i < j → j < d.size → d[i]! ≤ d[j]!) : ∀ m, m ≤ d.size → (Go.Lib.compactUpTo d m).Pairwise (· < ·) ∧ (∀ x, x ∈ Go.Lib.compactUpTo d m ↔ ∃ j, j < m ∧ d[j]! = x) := by
  intro m
  induction m with
  | zero => intro _; simp [Go.Lib.compactUpTo]
  | succ m ih =>
    intro hm
    obtain ⟨h1, h2⟩ := ih (by omega)
    rw [Go.Lib.compactUpTo_succ]
    by_cases c : Go.Lib.keeps d m = true
    · rw [if_pos c]
      have hk : m = 0 ∨ d[m]! ≠ d[m - 1]! := by simpa [Go.Lib.keeps] using c
      refine ⟨?_, fun x => ?_⟩
      · rw [List.pairwise_append]
        refine ⟨h1, by simp, fun x hx y hy => ?_⟩
        obtain rfl : y = d[m]! := by simpa using hy
        obtain ⟨j, hj, rfl⟩ := (h2 x).1 hx
        rcases hk with hk | hk
        · omega
        · have a1 : d[m - 1]! ≤ d[m]! := hs (m - 1) m (by omega) (by omega)
          have a2 : d[j]! ≤ d[m - 1]! := by
            by_cases e : j = m - 1
            · rw [e]; exact Int.le_refl _
            · exact hs j (m - 1) (by omega) (by omega)
          omega
      · rw [List.mem_append, h2]
        constructor
        · rintro (⟨j, hj, e⟩ | h)
          · exact ⟨j, by omega, e⟩
          · exact ⟨m, by omega, (List.mem_singleton.1 h).symm⟩
        · rintro ⟨j, hj, e⟩
          by_cases c2 : j = m
          · subst c2; exact .inr (by simp [e])
          · exact .inl ⟨j, by omega, e⟩
    · rw [if_neg c, List.append_nil]
      refine ⟨h1, fun x => ?_⟩
      have hk : ¬ (m = 0 ∨ d[m]! ≠ d[m - 1]!) := by simpa [Go.Lib.keeps] using c
      have hm0 : m ≠ 0 := fun e => hk (.inl e)
      have he : d[m]! = d[m - 1]! := by
        by_cases e : d[m]! = d[m - 1]!
        · exact e
        · exact absurd (.inr e) hk
      rw [h2]
      constructor
      · rintro ⟨j, hj, e⟩; exact ⟨j, by omega, e⟩
      · rintro ⟨j, hj, e⟩
        by_cases c2 : j = m
        · subst c2; exact ⟨j - 1, by omega, by rw [← he]; exact e⟩
        · exact ⟨j, by omega, e⟩
/-- Sorted, then made sparse: what the two library calls come to. -/
def sortU (l : List Int) : List Int := Go.Lib.compact (l.mergeSort fun x y => decide (x ≤ y))
theorem sortU_up (l : List Int) : (sortU l).Pairwise (· < ·) ∧ ∀ x, x ∈ sortU l ↔ x ∈ l := by
  have hp := List.mergeSort_perm l (fun x y : Int => decide (x ≤ y))
  have ho : (l.mergeSort fun x y : Int => decide (x ≤ y)).Pairwise (fun x y => decide (x ≤ y) = true) := List.pairwise_mergeSort (fun a b c h1 h2 => by simp at *; omega) (fun a b => by simp; omega) l
  unfold sortU
  generalize hs : (l.mergeSort fun x y : Int => decide (x ≤ y)) = s at hp ho
  have hg : ∀ j, (h : j < s.length) → (s.toArray)[j]! = s[j] := fun j h => by simp [h]
  have h := compactUpTo_up s.toArray (fun i j hij hj => by
    have hj' : j < s.length := by simpa using hj
    rw [hg i (by omega), hg j hj']
    have := (List.pairwise_iff_getElem.1 ho) i j (by omega) hj' hij
    simpa using this) s.length (by simp)
  refine ⟨h.1, fun x => ?_⟩
  unfold Go.Lib.compact
  rw [h.2]
  rw [← hp.mem_iff]
  constructor
  · rintro ⟨j, hj, e⟩
    rw [hg j hj] at e
    exact e ▸ List.getElem_mem hj
  · intro hx
    obtain ⟨j, hj, e⟩ := List.mem_iff_getElem.1 hx
    exact ⟨j, hj, by rw [hg j hj]; exact e⟩
/-- The numbers of the nulls, as they come. -/
def nulSeq (vs : List Int) : List Int := (vs.filter isNul).map nulNum
theorem nulSeq_cons (v : Int) (vs : List Int) : nulSeq (v :: vs) = (if isNul v then nulNum v :: nulSeq vs else nulSeq vs) := by
  unfold nulSeq; rw [List.filter_cons]; split <;> simp
theorem nulsFrom_up (vs out : List Int) (h : out.Pairwise (· < ·)) : (nulsFrom out vs).Pairwise (· < ·) ∧ ∀ x, x ∈ nulsFrom out vs ↔ x ∈ out ∨ x ∈ nulSeq vs := by
  induction vs generalizing out with
  | nil => exact ⟨h, fun x => by simp [nulsFrom, nulSeq]⟩
  | cons v vs ih =>
    rw [nulSeq_cons]
    unfold nulsFrom
    by_cases c : isNul v = true
    · rw [if_pos c, if_pos c]
      obtain ⟨h1, h2⟩ := ih _ (put_up (nulNum v) out h)
      refine ⟨h1, fun x => ?_⟩
      rw [h2, mem_put, List.mem_cons]
      constructor
      · rintro ((h | h) | h)
        · exact .inr (.inl h)
        · exact .inl h
        · exact .inr (.inr h)
      · rintro (h | h | h)
        · exact .inl (.inr h)
        · exact .inl (.inl h)
        · exact .inr h
    · rw [if_neg c, if_neg c]
      exact ih out h
theorem nuls_sort (vs : List Int) : sortU (nulSeq vs) = nuls vs := by
  obtain ⟨h1, h2⟩ := nulsFrom_up vs [] (by simp)
  obtain ⟨h3, h4⟩ := sortU_up (nulSeq vs)
  exact up_ext _ _ h3 h1 fun x => by rw [h4]; unfold nuls; rw [h2]; simp
theorem nulSeq_append (a b : List Int) : nulSeq (a ++ b) = nulSeq a ++ nulSeq b := by simp [nulSeq]
theorem nulSeq_ok (vs : List Int) : (∀ x ∈ nulSeq vs, 0 ≤ x ∧ x ≤ 39) ∧ (nulSeq vs).length ≤ vs.length := by
  refine ⟨fun x hx => ?_, ?_⟩
  · obtain ⟨v, _, rfl⟩ := List.mem_map.1 hx
    exact nulNum_bd v
  · unfold nulSeq; rw [List.length_map]; exact List.length_filter_le _ _
end Go.Proofs.YtgemaohdlibboaaGreatDoor.H
/- Walks: the program's own nulls; the library's sorting over its shelf. No condition. -/
namespace Go.Proofs.YtgemaohdlibboaaGreatDoor.H
open Go Go.RowKit Go.Proofs.YtgemaohdlibboaaGreatDoorW.PrintWords Go.Proofs.YtgemaohdlibboaaGreatDoorW.PrintLast
open Go.Proofs.YtgemaohdlibboaaGreatDoor.Reg (On on_draw)
set_option maxHeartbeats 1000000
set_option maxRecDepth 100000
set_option linter.unusedVariables false
set_option linter.unusedSimpArgs false

theorem own_setCells {base g n cap : Nat} {e : TypeId} : ∀ (ys : List Value) (i : Nat) (xs : List Value) (W : World), W.ownsRow base e 1 (.slice (some ⟨g, 0, none⟩) n cap) n xs → i + ys.length ≤ n →
    (W.setCells g i ys).ownsRow base e 1 (.slice (some ⟨g, 0, none⟩) n cap) n (xs.take i ++ ys ++ xs.drop (i + ys.length)) ∧ W.grownBy (W.setCells g i ys) (some g)
  | [], i, xs, W, h, _ => ⟨by simpa [World.setCells] using h, World.grownBy.refl W _⟩
  | y :: ys, i, xs, W, h, hl => by
    have hx : xs.length = n := by have := h.1; omega
    simp only [List.length_cons] at hl
    obtain ⟨h1, g1⟩ := h.stored i y
    obtain ⟨h2, g2⟩ := own_setCells ys (i + 1) _ _ h1 (by omega)
    refine ⟨?_, World.grownBy.trans g1 g2⟩
    have e : (xs.set i y).take (i + 1) ++ ys ++ (xs.set i y).drop (i + 1 + ys.length) = xs.take i ++ (y :: ys) ++ xs.drop (i + (y :: ys).length) := by
      rw [List.take_succ_eq_append_getElem (by simp; omega), List.take_set_of_le (Nat.le_refl _), List.getElem_set_self, List.drop_set_of_lt (by omega)]
      rw [show i + 1 + ys.length = i + (y :: ys).length by simp; omega]
      simp
    rw [e] at h2
    exact h2
theorem own_holds {base g cap : Nat} {e : TypeId} {w : World} {zs : List Int} (h : w.ownsRow base e 1 (.slice (some ⟨g, 0, none⟩) zs.length cap) zs.length (encs (Value.int .i64) zs)) : Go.Sort.Holds (Value.int .i64) w g 0 zs.toArray := by
  intro j hj
  have hj' : j < zs.length := by simpa using hj
  constructor
  · have hc := h.cells (g := g) rfl j (.int .i64 zs[j]) (by simp [encs, List.getElem?_eq_getElem hj'])
    rw [add_plain] at hc
    rw [Nat.zero_add, hc]
    simp [hj']
  · rcases h.2 with ⟨h', _⟩ | ⟨g', cap', cur, h', _, hh, _⟩
    · cases h'
    · have : g = g' := by injection h' with h'; injection h' with h'; injection h' with h'
      subst this
      simp [World.frozen?, hh]
theorem own_row {base g cap : Nat} {e : TypeId} {w : World} {zs ys : List Int} (q : Nat) (h : w.ownsRow base e 1 (.slice (some ⟨g, 0, none⟩) zs.length cap) zs.length (encs (Value.int .i64) zs)) (hl : ys.length = zs.length) :
    (Go.Sort.putRow (Value.int .i64) (Go.Sort.ahead w q) g 0 ys.toArray).ownsRow base e 1 (.slice (some ⟨g, 0, none⟩) zs.length cap) zs.length (encs (Value.int .i64) ys) ∧ w.grownBy (Go.Sort.putRow (Value.int .i64) (Go.Sort.ahead w q) g 0 ys.toArray) (some g) := by
  rw [Go.Lib.putRow_eq_setCells _ w g 0 zs.toArray ys q (own_holds h) (by simpa using hl)]
  have h1 : (w.drewN q).ownsRow base e 1 (.slice (some ⟨g, 0, none⟩) zs.length cap) zs.length (encs (Value.int .i64) zs) := own_move h (fun _ _ => rfl)
  obtain ⟨h2, g2⟩ := own_setCells (ys.map (Value.int .i64)) 0 _ _ h1 (by simp; omega)
  have e : (encs (Value.int .i64) zs).take 0 ++ ys.map (Value.int .i64) ++ (encs (Value.int .i64) zs).drop (0 + (ys.map (Value.int .i64)).length) = encs (Value.int .i64) ys := by
    rw [List.drop_of_length_le (by simp [encs]; omega)]
    simp [encs]
  rw [e] at h2
  exact ⟨h2, ⟨g2.os, g2.tape, g2.output, g2.size, g2.block⟩⟩
theorem grownBy_grow {w w1 : World} {row : Option Nat} (h : w.grownBy w1 row) (os : Array Obj) : w.grownBy (Go.Sort.grow w1 os) row := by
  refine ⟨h.os, h.tape, h.output, by have := h.size; simp [Go.Sort.grow]; omega, fun k hk hr => ?_⟩
  have hs := h.size
  show (w1.heap ++ os)[k]? = _
  rw [Array.getElem?_append_left (by omega)]
  exact h.block k hk hr
theorem own_grow {w : World} {base : Nat} {e : TypeId} {size n : Nat} {v : Value} {xs : List Value} (h : w.ownsRow base e size v n xs) (os : Array Obj) : (Go.Sort.grow w os).ownsRow base e size v n xs := by
  refine own_move h fun k hk => ?_
  have := own_lt h k hk
  show (w.heap ++ os)[k]? = _
  rw [Array.getElem?_append_left (by omega)]
theorem own_cut1 {base g cap n : Nat} {e : TypeId} {w : World} {xs : List Value} (h : w.ownsRow base e 1 (.slice (some ⟨g, 0, none⟩) n cap) n xs) (m : Nat) (hm : m ≤ n) : w.ownsRow base e 1 (.slice (some ⟨g, 0, none⟩) m cap) m (xs.take m) := by
  have hx : xs.length = n := by have := h.1; omega
  rcases h.2 with ⟨h', _⟩ | ⟨g', cap', cur, h', hg, hh, hnc, hcm, hcs, htk⟩
  · cases h'
  · injection h' with h1 h2 h3
    injection h1 with h1
    injection h1 with h1
    subst h1 h3
    refine ⟨by rw [List.length_take]; omega, .inr ⟨g, cap, cur, rfl, hg, hh, by omega, hcm, hcs, ?_⟩⟩
    rw [← htk, List.take_take]
    congr 1
    omega
theorem sortI_calls (w : World) (lo : Nat) (v : Value) (xs : List Int) (h : OI w lo v xs) (hl : xs.length < 1099511627776) : Calls Tryz.prog 84 #[v] w fun e w' => e = .returned (.tuple #[]) ∧ OI w' lo v (xs.mergeSort fun x y => decide (x ≤ y)) ∧ Ex (fun b => some b = v.ownBlock) w w' := by
  have hown : w.ownsRow lo 3 1 v xs.length (encs (Value.int .i64) xs) := by rw [encs_flat]; exact h
  rcases hown.2 with ⟨rfl, hn⟩ | ⟨g, cap, cur, rfl, hg, hh, hr⟩
  · obtain rfl : xs = [] := List.eq_nil_of_length_eq_zero hn
    refine (Tryz.slices_Sort_int_none none 0 w).mono fun e w' ⟨he, hw⟩ => ?_
    subst hw
    exact ⟨he, by simpa using h, Ex.refl _ _⟩
  · have hlt : g < w.heap.size := own_lt hown g rfl
    refine (Tryz.slices_Sort_int g 0 cap xs w (own_holds hown) hlt (by omega)).mono fun e w' ⟨he, n, os, hw⟩ => ?_
    obtain ⟨h1, g1⟩ := own_row (ys := xs.mergeSort fun x y => decide (x ≤ y)) n hown (by simp)
    have h2 := own_grow h1 os
    have g2 := grownBy_grow g1 os
    rw [← hw] at h2 g2
    refine ⟨he, ?_, Ex.of_grown g2⟩
    show World.ownsRow _ _ _ _ _ (xs.mergeSort fun x y => decide (x ≤ y)).length _
    rw [← encs_flat, List.length_mergeSort]
    exact h2
theorem compactI_calls (w : World) (lo : Nat) (v : Value) (xs : List Int) (h : OI w lo v xs) (hl : xs.length < 1099511627776) : Calls Tryz.prog 85 #[v] w (Got fun v1 w' => OI w' lo v1 (Go.Lib.compact xs) ∧ Ex (fun b => some b = v.ownBlock) w w') := by
  have hown : w.ownsRow lo 3 1 v xs.length (encs (Value.int .i64) xs) := by rw [encs_flat]; exact h
  rcases hown.2 with ⟨rfl, hn⟩ | ⟨g, cap, cur, rfl, hg, hh, hnc, hr⟩
  · obtain rfl : xs = [] := List.eq_nil_of_length_eq_zero hn
    refine (Tryz.slices_Compact_int_empty none 0 w).mono fun e w' ⟨he, hw⟩ => ?_
    subst hw
    exact ⟨_, he, by simpa [Go.Lib.compact, Go.Lib.compactUpTo] using h, Ex.refl _ _⟩
  · have hle := Go.Lib.compact_length_le xs
    refine (Tryz.slices_Compact_int g 0 cap xs w (own_holds hown) (by omega) hnc).mono fun e w' ⟨he, n, hw⟩ => ?_
    obtain ⟨h1, g1⟩ := own_row (ys := Go.Lib.compact xs ++ List.replicate (xs.length - (Go.Lib.compact xs).length) 0) n hown (by simp; omega)
    have h2 := own_cut1 h1 (Go.Lib.compact xs).length hle
    have e2 : (encs (Value.int .i64) (Go.Lib.compact xs ++ List.replicate (xs.length - (Go.Lib.compact xs).length) 0)).take (Go.Lib.compact xs).length = encs (Value.int .i64) (Go.Lib.compact xs) := by
      simp [encs]
    rw [e2] at h2
    rw [← hw] at h2 g1
    rw [encs_flat] at h2
    exact ⟨_, he, h2, Ex.of_grown g1⟩
theorem nullsOf_calls (w : World) (A c) (vs : List Int) (h : Ints w A c vs) (hl : vs.length ≤ 1000000000) : Calls Tryz.prog 147 #[.slice A vs.length c] w (Got fun v' w' => OI w' w.heap.size v' (sortU (nulSeq vs)) ∧ On w w') := by
  go_enter Tryz.func147, Tryz.ntmps147
  go_wp2
  go_loopw [3, 11] (fun v3 v11 wr => ∃ k : Nat, k ≤ vs.length ∧ v11 = .int .i64 k ∧ Aside0 (OInts wr w.heap.size v3 (nulSeq (vs.take k))) ∧ On w wr) (fun _ v11 _ => vs.length - (intOf v11).toNat)
  case atStart => exact ⟨0, Nat.zero_le _, rfl, ⟨own0' (by simp) (by simp)⟩, On.alloc (On.refl _) _⟩
  case round =>
    obtain ⟨k, hk, rfl, hO, hB⟩ := hrel
    by_cases hlt : k < vs.length
    · obtain ⟨ad, rfl, hx⟩ := (h.on hB).at k hlt
      have hbd := h.bd k hlt
      have hseq := Aside0.mk (show nulSeq (vs.take (k + 1)) = nulSeq (vs.take k) ++ (if isNul vs[k] then [nulNum vs[k]] else []) by rw [List.take_succ_eq_append_getElem hlt, nulSeq_append, nulSeq_cons]; split <;> rfl)
      have hlq := Aside0.mk (show (nulSeq (vs.take k)).length ≤ k by have := (nulSeq_ok (vs.take k)).2; rw [List.length_take] at this; omega)
      cases hn : isNul vs[k] with
      | false =>
        have hn' := Aside0.mk hn
        clear hn
        go_wp2_with (go_at_call 159; refine (iNullNumber_calls _ _ hbd).mono ?_; rintro e w2 ⟨rfl, hb2⟩; rw [hn'.out])
        exact ⟨⟨k + 1, by omega, by go_num, ⟨by rw [hseq.out, hn'.out]; simpa using OInts.on hO.out hb2⟩, hB.trans hb2⟩, by simp [intOf]; omega⟩
      | true =>
        have hn' := Aside0.mk hn
        clear hn
        go_wp2_with (first | (go_at_call 159; refine (iNullNumber_calls _ _ hbd).mono ?_; rintro e w2 ⟨rfl, hb2⟩; rw [hn'.out]) | (refine gate 24 ?_))
        have hBA := (hB.trans hb2).trans (On.alloc (On.refl w2) (.cells #[.int .i64 (nulNum vs[k])] 3))
        have hOA := OInts.on hO.out (hb2.trans (On.alloc (On.refl w2) (.cells #[.int .i64 (nulNum vs[k])] 3)))
        obtain ⟨ys, hys⟩ : ∃ ys, nulSeq (vs.take k) ++ [nulNum vs[k]] = ys := ⟨_, rfl⟩
        have hys' := Aside0.mk hys
        have hl2 : (nulSeq (vs.take k)).length + 1 ≤ 10000000000 := by have := hlq.out; omega
        refine ⟨apI 24 hys hOA (Kd.R_reads' (own1 w2 (nulNum vs[k]))).2.2 hBA.size hl2 fun v3 w3 hO3 hg3 hat3 => ?_⟩
        clear hys
        have hB3 := grown_own hBA hOA hg3 (Nat.le_refl _)
        clear hl2 hat3
        go_wp2
        exact ⟨⟨k + 1, by omega, by go_num, ⟨by rw [hseq.out, hn'.out, if_pos rfl, hys'.out]; exact hO3⟩, hB3⟩, by simp [intOf]; omega⟩
    · have e1 : vs.take k = vs := List.take_of_length_le (by omega)
      rw [e1] at hO
      have hlq := (nulSeq_ok vs).2
      go_wp2_with (first | (go_at_call 84; refine (sortI_calls wr w.heap.size _ (nulSeq vs) (OI.of hO.out) (by omega)).mono ?_; rintro e w2 ⟨rfl, hO2, hE2⟩; have hO3 := Aside0.mk hO2; clear hO2) | (go_at_call 85; refine (compactI_calls w2 w.heap.size _ _ hO3.out (by rw [List.length_mergeSort]; omega)).mono ?_; rintro e w3 ⟨v3, rfl, hO4, hE4⟩))
      go_ret
      exact ⟨_, rfl, hO4, Ex.on (Ex.on hB hE2 (fun i e => own_base (OI.of hO.out) i e.symm)) hE4 (fun i e => own_base (OI.of hO.out) i e.symm)⟩
theorem iNullsOfFact_calls (w : World) (A c) (r : Int) (vs : List Int) (h : Ints w A c vs) (hl : vs.length ≤ 1000000000) : Calls Tryz.prog 72 #[.agg #[.int .i64 r, .slice A vs.length c]] w (Got fun v' w' => OI w' w.heap.size v' (nuls vs) ∧ On w w') := by
  have hb := Aside0.mk (On.alloc (On.refl w) (.cells #[.int .i64 r, .slice A vs.length c] 60))
  go_enter Tryz.func72, Tryz.ntmps72
  go_wp2_with (go_at_call 147; refine (nullsOf_calls _ A c vs (h.on hb.out) hl).mono ?_; rintro e w2 ⟨v, rfl, hO, hb2⟩; have hO' := Aside0.mk hO; clear hO)
  go_ret
  exact ⟨_, rfl, by rw [← nuls_sort]; exact own_lower hO'.out hb.out.size, hb.out.trans hb2⟩
end Go.Proofs.YtgemaohdlibboaaGreatDoor.H
/- Walk: the program's own valid instances. No condition. -/
namespace Go.Proofs.YtgemaohdlibboaaGreatDoor.H
open Go Go.RowKit Go.Proofs.YtgemaohdlibboaaGreatDoorW.PrintWords Go.Proofs.YtgemaohdlibboaaGreatDoorW.PrintLast
open Go.Proofs.YtgemaohdlibboaaGreatDoor.Reg (On on_draw)
set_option maxHeartbeats 8000000
set_option maxRecDepth 100000
set_option linter.unusedVariables false
set_option linter.unusedSimpArgs false

theorem iIsValidInstance_calls (w : World) (A0 c0 A1 c1) (rs : List Rel) (fs : List Fct) (h0 : Rels w A0 c0 rs) (h1 : Fcts w A1 c1 fs) :
    Calls Tryz.prog 19 #[.agg #[.slice A0 rs.length c0, .slice A1 fs.length c1]] w fun e w' => e = .returned (.bool (okInst rs fs)) ∧ On w w' := by
  have hm0 := h0.max
  have hm1 := h1.max
  have hbI := Aside0.mk (On.alloc (On.refl w) (.cells #[.slice A0 rs.length c0, .slice A1 fs.length c1] 25))
  have hLI := Aside0.mk (loc1 w #[.slice A0 rs.length c0, .slice A1 fs.length c1] 25)
  cases hr : okRels rs with
  | false =>
    have hr' := Aside0.mk hr
    clear hr
    go_enter Tryz.func19, Tryz.ntmps19
    go_wp2_with (go_at_call 49; refine (iAreValidRelations_calls _ A0 c0 rs (h0.on hbI.out)).mono ?_; rintro e w3 ⟨rfl, hb3⟩; rw [hr'.out]; have hc3 := blk_cell (Loc.on hb3 hLI.out).1)
    go_ret
    exact ⟨ret_bool (by simp [okInst, hr'.out]), hbI.out.trans hb3⟩
  | true =>
    have hr' := Aside0.mk hr
    clear hr
    by_cases h30 : (fs.length : Int) ≤ 30
    · have h30b : decide ((fs.length : Int) ≤ 30) = true := decide_eq_true h30
      have h30c : decide (fs.length ≤ 30) = true := decide_eq_true (by omega)
      have h30d : decide (30 < fs.length) = false := decide_eq_false (by omega)
      have h30e : decide (30 < (fs.length : Int)) = false := decide_eq_false (by omega)
      go_enter Tryz.func19, Tryz.ntmps19
      go_wp2_with (go_at_call 49; refine (iAreValidRelations_calls _ A0 c0 rs (h0.on hbI.out)).mono ?_; rintro e w3 ⟨rfl, hb3⟩; rw [hr'.out]; have hL3 := Aside0.mk (Loc.on hb3 hLI.out); have hc3 := blk_cell hL3.out.1; have hb3' := Aside0.mk hb3; clear hb3)
      clear hc3
      go_loopw [18] (fun v wr => ∃ k : Nat, k ≤ fs.length ∧ v = .int .i64 k ∧ Hid (factsFrom rs (prevFct fs k) (fs.drop k) = factsFrom rs none fs) ∧ On w wr ∧ Loc wr [(w.heap.size, #[.slice A0 rs.length c0, .slice A1 fs.length c1], 25)]) (fun v _ => fs.length - (intOf v).toNat)
      case atStart => exact ⟨0, Nat.zero_le _, rfl, rfl, hbI.out.trans hb3'.out, hL3.out⟩
      case round =>
        obtain ⟨k, hk, rfl, hp, hB, hL⟩ := hrel
        clear hb3' hL3
        have hc0 := blk_cell hL.1
        have hL' := Aside0.mk hL
        clear hL
        by_cases hlt : k < fs.length
        · obtain ⟨ad, A3, c3, rfl, hx0, hx1, hx2'⟩ := (h1.on hB).at k hlt
          have hfill := alloc_fill wr
          have hst := Aside0.mk ((factsFrom_step rs fs k hlt).symm.trans hp.out)
          have hbx := Aside0.mk (On.alloc (On.refl wr) (.cells #[.int .i64 fs[k].1, .slice A3 fs[k].2.length c3] 60))
          have hB2 := Aside0.mk (hB.trans hbx.out)
          have hcn := blk_cell (loc_new wr #[.int .i64 fs[k].1, .slice A3 fs[k].2.length c3] 60)
          have hcm := blk_cell (Loc.on hbx.out hL'.out).1
          clear hp
          cases hok0 : okFact rs fs[k] with
          | false =>
            have hok := Aside0.mk hok0
            clear hok0
            go_wp2
            refine Reg.region [(0,.L),(1,.L),(2,.L),(3,.C),(4,.L),(5,.L),(6,.L),(7,.L),(8,.L),(9,.L),(10,.L),(11,.L),(12,.L),(13,.L),(14,.L),(15,.L),(16,.C),(17,.L),(18,.L),(19,.L)] [] (by kernel_rfl) (by kernel_rfl) ?_
            repeat first | refine sP ?_ | refine sS ?_ | refine sA ?_ | refine sL ?_ | refine sQ ?_ | refine sO ?_
            refine callC (.bool false) Tryz.func50 (fun w' hS => ?_) ?_
            focus exact (iIsValidFact_calls w' _ c0 rs _ c3 fs[k] (h0.on (hB2.out.trans hS)) (hx2'.on (hbx.out.trans hS))).mono fun e w'' h => ⟨by rw [h.1, hok.out], h.2⟩
            repeat first | refine sP ?_ | refine sS ?_ | refine sA ?_ | refine sL ?_ | refine sQ ?_ | refine sO ?_
            refine Reg.nil fun w2 hS => ?_
            go_wp2
            go_ret
            exact ⟨ret_bool (by have := hst.out; unfold okNext at this; rw [hok.out] at this; simp at this; simp [okInst, this]), hB2.out.trans hS⟩
          | true =>
            have hok := Aside0.mk hok0
            have hat := okFact_at hok0
            clear hok0
            have hat1 : fs[k].1.toNat < rs.length := by omega
            have hat2 : 0 ≤ fs[k].1 := hat.1
            have hat3 : fs[k].1 < rs.length := hat.2
            obtain ⟨ad0, rfl, _, _, _⟩ := (h0.on hB2.out).at fs[k].1.toNat hat1
            clear hat
            by_cases hk0 : 0 < k
            · have hk0' : decide (0 < (k : Int)) = true := decide_eq_true (by omega)
              have hki : IntKind.i64.wrap ((k : Int) - 1) = ((k - 1 : Nat) : Int) := by rw [IntWalk.i64_in _ (by omega)]; omega
              have hk1 : k - 1 < fs.length := by omega
              obtain ⟨ad', A4, c4, e', hy0, hy1, hy2⟩ := (h1.on hB2.out).at (k - 1) hk1
              obtain rfl : ad = ad' := by simpa using e'
              have hpn : prevFct fs k = some fs[k - 1] := by simp [prevFct, show ¬ k = 0 by omega, show k - 1 < fs.length by omega]
              by_cases hc : cmpF fs[k - 1] fs[k] < 0
              · have hcb : decide (0 ≤ cmpF fs[k - 1] fs[k]) = false := decide_eq_false (by omega)
                have hpv := Aside0.mk (show okPrev (prevFct fs k) fs[k] = true by rw [hpn]; exact decide_eq_true hc)
                clear hc hpn
                go_wp2
                refine Reg.region [(0,.L),(1,.L),(2,.L),(3,.C),(4,.L),(5,.L),(6,.L),(7,.L),(8,.L),(9,.L),(10,.L),(11,.L),(12,.L),(13,.L),(14,.L),(15,.L),(16,.C),(17,.L),(18,.L),(19,.L)] [] (by kernel_rfl) (by kernel_rfl) ?_
                repeat first | refine sP ?_ | refine sS ?_ | refine sA ?_ | refine sL ?_ | refine sQ ?_ | refine sO ?_
                refine callC (.bool true) Tryz.func50 (fun w' hS => ?_) ?_
                focus exact (iIsValidFact_calls w' _ c0 rs _ c3 fs[k] (h0.on (hB2.out.trans hS)) (hx2'.on (hbx.out.trans hS))).mono fun e w'' h => ⟨by rw [h.1, hok.out], h.2⟩
                repeat first | refine sP ?_ | refine sS ?_ | refine sA ?_ | refine sL ?_ | refine sQ ?_ | refine sO ?_
                refine callC (.int .i64 (cmpF fs[k - 1] fs[k])) Tryz.func48 (fun w' hS => ?_) ?_
                focus exact iCompareFacts_calls w' A4 c4 A3 c3 fs[k - 1] fs[k] (hy2.on hS) (hx2'.on (hbx.out.trans hS))
                repeat first | refine sP ?_ | refine sS ?_ | refine sA ?_ | refine sL ?_ | refine sQ ?_ | refine sO ?_
                clear hy0 hy1 hy2 hki hcb
                refine Reg.nil fun w2 hS => ?_
                clear hcn hcm hfill
                have hc5 := blk_cell (Loc.on (hbx.out.trans hS) hL'.out).1
                have hc6 := blk_cell (blk_below (loc_new wr #[.int .i64 fs[k].1, .slice A3 fs[k].2.length c3] 60) hS)
                obtain ⟨ad1, e9, _, _, hxs1⟩ := (h0.on (hB2.out.trans hS)).at fs[k].1.toNat hat1
                obtain rfl : ad0 = ad1 := by simpa using e9
                have hsr : rs[fs[k].1.toNat].2.2 = srcOf rs fs[k].1 := by simp [srcOf, hat1]
                rw [hsr] at hxs1
                clear hsr e9
                have hB3 := Aside0.mk (hB2.out.trans hS)
                have hL3 := Aside0.mk (Loc.on (hbx.out.trans hS) hL'.out)
                have hx3 := Aside0.mk (hx2'.on (hbx.out.trans hS))
                clear hS
                cases hs : srcOf rs fs[k].1 with
                | false =>
                  rw [hs] at hxs1
                  have hs' := Aside0.mk hs
                  clear hs
                  go_wp2
                  go_roundw
                  case rel => exact ⟨k + 1, by omega, by go_num, (by have := hst.out; unfold okNext at this; rw [hok.out, hpv.out, hs'.out] at this; simpa using this : _ = _), hB3.out, hL3.out⟩
                  case measure => simp [intOf]; omega
                | true =>
                  rw [hs] at hxs1
                  have hs' := Aside0.mk hs
                  clear hs
                  have hnn := Aside0.mk (nuls_ok fs[k].2)
                  by_cases hz : (nuls fs[k].2).length = 0
                  · have hzb : decide (0 < ((nuls fs[k].2).length : Int)) = false := decide_eq_false (by omega)
                    have hzc : decide (0 < (nuls fs[k].2).length) = false := decide_eq_false (by omega)
                    have hz' := Aside0.mk hz
                    clear hz
                    go_wp2_with (go_at_call 72; refine (iNullsOfFact_calls _ A3 c3 fs[k].1 fs[k].2 hx3.out (Nat.le_trans (okFact_len hok.out) (by omega))).mono ?_; rintro e w4 ⟨v4, rfl, hO4, hb4⟩; obtain ⟨A5, c5, rfl⟩ := own_slice hO4; clear hO4)
                    exact ⟨⟨k + 1, by omega, by go_num, (by have := hst.out; unfold okNext at this; rw [hok.out, hpv.out, hs'.out, hz'.out] at this; simpa using this : _ = _), hB3.out.trans hb4, Loc.on hb4 hL3.out⟩, by simp [intOf]; omega⟩
                  · have hzb : decide (0 < ((nuls fs[k].2).length : Int)) = true := decide_eq_true (by omega)
                    have hzc : decide (0 < (nuls fs[k].2).length) = true := decide_eq_true (by omega)
                    have hz' := Aside0.mk (decide_eq_false hz)
                    clear hz
                    go_wp2_with (go_at_call 72; refine (iNullsOfFact_calls _ A3 c3 fs[k].1 fs[k].2 hx3.out (Nat.le_trans (okFact_len hok.out) (by omega))).mono ?_; rintro e w4 ⟨v4, rfl, hO4, hb4⟩; obtain ⟨A5, c5, rfl⟩ := own_slice hO4; clear hO4)
                    go_ret
                    exact ⟨ret_bool (by have := hst.out; unfold okNext at this; rw [hok.out, hpv.out, hs'.out, hz'.out] at this; simp at this; simp [okInst, this]), hB3.out.trans hb4⟩
              · have hcb : decide (0 ≤ cmpF fs[k - 1] fs[k]) = true := decide_eq_true (by omega)
                have hpv := Aside0.mk (show okPrev (prevFct fs k) fs[k] = false by rw [hpn]; exact decide_eq_false hc)
                clear hc hpn
                go_wp2
                refine Reg.region [(0,.L),(1,.L),(2,.L),(3,.C),(4,.L),(5,.L),(6,.L),(7,.L),(8,.L),(9,.L),(10,.L),(11,.L),(12,.L),(13,.L),(14,.L),(15,.L),(16,.C),(17,.L),(18,.L),(19,.L)] [] (by kernel_rfl) (by kernel_rfl) ?_
                repeat first | refine sP ?_ | refine sS ?_ | refine sA ?_ | refine sL ?_ | refine sQ ?_ | refine sO ?_
                refine callC (.bool true) Tryz.func50 (fun w' hS => ?_) ?_
                focus exact (iIsValidFact_calls w' _ c0 rs _ c3 fs[k] (h0.on (hB2.out.trans hS)) (hx2'.on (hbx.out.trans hS))).mono fun e w'' h => ⟨by rw [h.1, hok.out], h.2⟩
                repeat first | refine sP ?_ | refine sS ?_ | refine sA ?_ | refine sL ?_ | refine sQ ?_ | refine sO ?_
                refine callC (.int .i64 (cmpF fs[k - 1] fs[k])) Tryz.func48 (fun w' hS => ?_) ?_
                focus exact iCompareFacts_calls w' A4 c4 A3 c3 fs[k - 1] fs[k] (hy2.on hS) (hx2'.on (hbx.out.trans hS))
                repeat first | refine sP ?_ | refine sS ?_ | refine sA ?_ | refine sL ?_ | refine sQ ?_ | refine sO ?_
                refine Reg.nil fun w2 hS => ?_
                go_wp2
                go_ret
                exact ⟨ret_bool (by have := hst.out; unfold okNext at this; rw [hok.out, hpv.out] at this; simp at this; simp [okInst, this]), hB2.out.trans hS⟩
            · have hk0' : decide (0 < (k : Int)) = false := decide_eq_false (by omega)
              have hpv := Aside0.mk (show okPrev (prevFct fs k) fs[k] = true by simp [okPrev, prevFct, show k = 0 by omega])
              go_wp2
              refine Reg.region [(0,.L),(1,.L),(2,.L),(3,.C),(4,.L),(5,.L),(6,.L),(7,.L),(8,.L),(9,.L),(10,.L),(11,.L),(12,.L),(13,.L),(14,.L),(15,.L),(16,.C),(17,.L),(18,.L),(19,.L)] [] (by kernel_rfl) (by kernel_rfl) ?_
              repeat first | refine sP ?_ | refine sS ?_ | refine sA ?_ | refine sL ?_ | refine sQ ?_ | refine sO ?_
              refine callC (.bool true) Tryz.func50 (fun w' hS => ?_) ?_
              focus exact (iIsValidFact_calls w' _ c0 rs _ c3 fs[k] (h0.on (hB2.out.trans hS)) (hx2'.on (hbx.out.trans hS))).mono fun e w'' h => ⟨by rw [h.1, hok.out], h.2⟩
              repeat first | refine sP ?_ | refine sS ?_ | refine sA ?_ | refine sL ?_ | refine sQ ?_ | refine sO ?_
              refine Reg.nil fun w2 hS => ?_
              clear hcn hcm hfill
              have hc5 := blk_cell (Loc.on (hbx.out.trans hS) hL'.out).1
              have hc6 := blk_cell (blk_below (loc_new wr #[.int .i64 fs[k].1, .slice A3 fs[k].2.length c3] 60) hS)
              obtain ⟨ad1, e9, _, _, hxs1⟩ := (h0.on (hB2.out.trans hS)).at fs[k].1.toNat hat1
              obtain rfl : ad0 = ad1 := by simpa using e9
              have hsr : rs[fs[k].1.toNat].2.2 = srcOf rs fs[k].1 := by simp [srcOf, hat1]
              rw [hsr] at hxs1
              clear hsr e9
              have hB3 := Aside0.mk (hB2.out.trans hS)
              have hL3 := Aside0.mk (Loc.on (hbx.out.trans hS) hL'.out)
              have hx3 := Aside0.mk (hx2'.on (hbx.out.trans hS))
              clear hS
              cases hs : srcOf rs fs[k].1 with
              | false =>
                rw [hs] at hxs1
                have hs' := Aside0.mk hs
                clear hs
                go_wp2
                go_roundw
                case rel => exact ⟨k + 1, by omega, by go_num, (by have := hst.out; unfold okNext at this; rw [hok.out, hpv.out, hs'.out] at this; simpa using this : _ = _), hB3.out, hL3.out⟩
                case measure => simp [intOf]; omega
              | true =>
                rw [hs] at hxs1
                have hs' := Aside0.mk hs
                clear hs
                have hnn := Aside0.mk (nuls_ok fs[k].2)
                by_cases hz : (nuls fs[k].2).length = 0
                · have hzb : decide (0 < ((nuls fs[k].2).length : Int)) = false := decide_eq_false (by omega)
                  have hzc : decide (0 < (nuls fs[k].2).length) = false := decide_eq_false (by omega)
                  have hz' := Aside0.mk hz
                  clear hz
                  go_wp2_with (go_at_call 72; refine (iNullsOfFact_calls _ A3 c3 fs[k].1 fs[k].2 hx3.out (Nat.le_trans (okFact_len hok.out) (by omega))).mono ?_; rintro e w4 ⟨v4, rfl, hO4, hb4⟩; obtain ⟨A5, c5, rfl⟩ := own_slice hO4; clear hO4)
                  exact ⟨⟨k + 1, by omega, by go_num, (by have := hst.out; unfold okNext at this; rw [hok.out, hpv.out, hs'.out, hz'.out] at this; simpa using this : _ = _), hB3.out.trans hb4, Loc.on hb4 hL3.out⟩, by simp [intOf]; omega⟩
                · have hzb : decide (0 < ((nuls fs[k].2).length : Int)) = true := decide_eq_true (by omega)
                  have hzc : decide (0 < (nuls fs[k].2).length) = true := decide_eq_true (by omega)
                  have hz' := Aside0.mk (decide_eq_false hz)
                  clear hz
                  go_wp2_with (go_at_call 72; refine (iNullsOfFact_calls _ A3 c3 fs[k].1 fs[k].2 hx3.out (Nat.le_trans (okFact_len hok.out) (by omega))).mono ?_; rintro e w4 ⟨v4, rfl, hO4, hb4⟩; obtain ⟨A5, c5, rfl⟩ := own_slice hO4; clear hO4)
                  go_ret
                  exact ⟨ret_bool (by have := hst.out; unfold okNext at this; rw [hok.out, hpv.out, hs'.out, hz'.out] at this; simp at this; simp [okInst, this]), hB3.out.trans hb4⟩
        · have hfl : factsFrom rs none fs = true := by rw [← hp.out, List.drop_of_length_le (by omega)]; cases prevFct fs k <;> rfl
          have hfl' := Aside0.mk hfl
          clear hp hfl
          go_wp2
          go_ret
          exact ⟨ret_bool (by simp [okInst, hfl'.out, hr'.out]; omega), hB⟩
    · have h30b : decide ((fs.length : Int) ≤ 30) = false := decide_eq_false h30
      have h30c : decide (fs.length ≤ 30) = false := decide_eq_false (by omega)
      have h30d : decide (30 < fs.length) = true := decide_eq_true (by omega)
      have h30e : decide (30 < (fs.length : Int)) = true := decide_eq_true (by omega)
      go_enter Tryz.func19, Tryz.ntmps19
      go_wp2_with (go_at_call 49; refine (iAreValidRelations_calls _ A0 c0 rs (h0.on hbI.out)).mono ?_; rintro e w3 ⟨rfl, hb3⟩; rw [hr'.out]; have hc3 := blk_cell (Loc.on hb3 hLI.out).1)
      go_ret
      exact ⟨ret_bool (by simp [okInst]; intros; omega), hbI.out.trans hb3⟩
end Go.Proofs.YtgemaohdlibboaaGreatDoor.H
/- Walks: instances written, on both sides. No condition. -/
namespace Go.Proofs.YtgemaohdlibboaaGreatDoor.H
open Go Go.RowKit Go.Proofs.YtgemaohdlibboaaGreatDoorW.PrintWords Go.Proofs.YtgemaohdlibboaaGreatDoorW.PrintLast
open Go.Proofs.YtgemaohdlibboaaGreatDoor.Reg (On on_draw)
set_option maxHeartbeats 4000000
set_option maxRecDepth 100000
set_option linter.unusedVariables false
set_option linter.unusedSimpArgs false

def txtI (rs : List Rel) (fs : List Fct) (k : Nat) : List UInt8 := Lib.join ((fs.take k).map (fmtF rs)) [32]
theorem txtI_succ (rs : List Rel) (fs : List Fct) (k : Nat) (h : k < fs.length) : txtI rs fs (k + 1) = (if k = 0 then [] else txtI rs fs k ++ [32]) ++ fmtF rs fs[k] := by
  unfold txtI
  rw [List.take_succ_eq_append_getElem h, List.map_append, List.map_cons, List.map_nil, join_snoc, List.length_map, List.length_take, Nat.min_eq_left (by omega)]
  by_cases c : k = 0
  · rw [if_pos c, if_pos c]; rfl
  · rw [if_neg c, if_neg c]
theorem fmtF_len (rs : List Rel) (f : Fct) : (fmtF rs f).length ≤ 20 := by
  cases h : okFact rs f with
  | false => unfold fmtF; rw [h]; simp
  | true =>
    obtain ⟨b, e, -, -, -⟩ := fmtF_ok h
    have h1 := txtF_len f.2 f.2.length (okFact_len h)
    have h2 := join_len [44] 3 _ (f.2.map fvL) rfl (fun x hx => by
      obtain ⟨v, hv, rfl⟩ := List.mem_map.1 hx
      exact fvL_len v)
    have h3 := okFact_len h
    rw [e]
    rw [List.length_map] at h2
    simp at h2 ⊢
    omega
theorem txtI_len (rs : List Rel) (fs : List Fct) (k : Nat) (h : fs.length ≤ 30) : (txtI rs fs k).length ≤ 700 := by
  have := join_len [32] 20 _ ((fs.take k).map (fmtF rs)) rfl (fun x hx => by
    obtain ⟨f, hf, rfl⟩ := List.mem_map.1 hx
    exact fmtF_len rs f)
  rw [List.length_map, List.length_take] at this
  unfold txtI
  simp at this ⊢
  omega
theorem txtI_all (rs : List Rel) (fs : List Fct) (k : Nat) (h : fs.length ≤ k) : txtI rs fs k = Lib.join (fs.map (fmtF rs)) [32] := by unfold txtI; rw [List.take_of_length_le h]
theorem fmtR_len (rs : List Rel) : (fmtR rs).length ≤ 100 := by
  unfold fmtR
  split
  · rename_i h
    have := txtR_len h rs.length
    rwa [txtR_all rs _ (Nat.le_refl _)] at this
  · simp
theorem fmtI_cat {rs : List Rel} {fs : List Fct} (h : okInst rs fs = true) : fmtI rs fs = (fmtR rs ++ [59]) ++ Lib.join (fs.map (fmtF rs)) [32] := by
  rw [(fmtI_ok h).1]; simp
theorem fmtI_len (rs : List Rel) (fs : List Fct) : (fmtI rs fs).length ≤ 801 := by
  cases h : okInst rs fs with
  | false => unfold fmtI; rw [h]; simp
  | true =>
    have h1 := txtI_len rs fs fs.length (okInst_len h).2
    rw [txtI_all rs fs _ (Nat.le_refl _)] at h1
    have h2 := fmtR_len rs
    rw [fmtI_cat h]
    simp at h1 ⊢
    omega
theorem fs_take (rs : List Rel) (fs : List Fct) (k : Nat) (h : k < fs.length) : (fs.take (k + 1)).map (fmtF rs) = (fs.take k).map (fmtF rs) ++ [fmtF rs fs[k]] := by
  rw [List.take_succ_eq_append_getElem h, List.map_append]; rfl
theorem sFormatInstance_calls (w : World) (A0 c0 A1 c1) (rs : List Rel) (fs : List Fct) (h0 : Rels w A0 c0 rs) (h1 : Fcts w A1 c1 fs) : Calls Tryz.prog 52 #[.agg #[.slice A0 rs.length c0, .slice A1 fs.length c1]] w fun e w' => e = .returned (.string (strB (fmtI rs fs))) ∧ On w w' := by
  have h0' := Aside0.mk h0
  have h1' := Aside0.mk h1
  have hmx0 := h0.max
  have hmx := h1.max
  clear h0 h1
  have hbx := Aside0.mk (loc1 w #[.slice A0 rs.length c0, .slice A1 fs.length c1] 25)
  have hB0 := Aside0.mk (On.alloc (On.refl w) (.cells #[.slice A0 rs.length c0, .slice A1 fs.length c1] 25 (0, 0)))
  cases ho : okInst rs fs with
  | false =>
    have ho' := Aside0.mk ho
    clear ho
    go_enter Tryz.func52, Tryz.ntmps52
    go_wp2_with (go_at_call 18; refine (IsValidInstance_calls _ A0 c0 A1 c1 rs fs (h0'.out.on hB0.out) (h1'.out.on hB0.out)).mono ?_; rintro e w1 ⟨rfl, hb1⟩; rw [ho'.out])
    go_ret
    exact ⟨by unfold fmtI; rw [if_neg (by rw [ho'.out]; simp)]; rfl, hB0.out.trans hb1⟩
  | true =>
    have ho' := Aside0.mk ho
    have hcat := Aside0.mk (fmtI_cat ho)
    have hlf := Aside0.mk (okInst_len ho).2
    have hrl := Aside0.mk (fmtR_len rs)
    clear ho
    go_enter Tryz.func52, Tryz.ntmps52
    go_wp2_with (go_at_call 18; refine Stop.out ?_)
    refine ⟨(IsValidInstance_calls _ A0 c0 A1 c1 rs fs (h0'.out.on hB0.out) (h1'.out.on hB0.out)).mono ?_⟩
    rintro e w1 ⟨rfl, hb1⟩
    rw [ho'.out]
    have hB1 := Aside0.mk (hB0.out.trans hb1)
    have hbx1 := Aside0.mk (blk_below hbx.out.1 hb1)
    have hq0 := blk_cell hbx1.out
    clear hb1
    go_wp2_with (go_at_call 108; refine Stop.out ?_)
    clear hq0
    refine ⟨(sFormatRelations_calls _ A0 c0 rs (h0'.out.on hB1.out)).mono ?_⟩
    rintro e w2 ⟨rfl, hb2⟩
    have hB2 := Aside0.mk (hB1.out.trans hb2)
    have hbx2 := Aside0.mk (blk_below hbx1.out hb2)
    obtain ⟨tr, htr⟩ : ∃ tr, fmtR rs = tr := ⟨_, rfl⟩
    rw [htr] at hcat hrl ⊢
    have c1' := cat1 tr 59
    have z1' := szOk1 (a := tr) (by have := hrl.out; omega)
    clear htr hb2
    go_wp2
    clear c1' z1'
    go_loopw [3, 4] (fun v3 v4 wr => ∃ (k : Nat) (s : List UInt8), k ≤ fs.length ∧ v3 = .string (strB s) ∧ v4 = .int .i64 k ∧ Aside0 (s = (tr ++ [59]) ++ txtI rs fs k) ∧ On w2 wr) (fun _ v4 _ => fs.length - (intOf v4).toNat)
    case atStart => exact ⟨0, _, Nat.zero_le _, rfl, rfl, ⟨by unfold txtI; simp [join_nil']⟩, On.refl _⟩
    case round =>
      obtain ⟨k, s, hk, rfl, rfl, hs, hB⟩ := hrel
      have hB' := Aside0.mk (hB2.out.trans hB)
      have hBr := Aside0.mk hB
      have hsl := Aside0.mk (show s.length ≤ 1000 by rw [hs.out]; have := txtI_len rs fs k hlf.out; have := hrl.out; simp; omega)
      have hbxr := Aside0.mk (blk_below hbx2.out hB)
      have hq0 := blk_cell hbxr.out
      clear hB
      by_cases hlt : k < fs.length
      · obtain ⟨ad, A3, c3, rfl, x0, x1, x2⟩ := (h1'.out.on hB'.out).at k hlt
        have hk' := Aside0.mk hlt
        have hstep := Aside0.mk (txtI_succ rs fs k hlt)
        obtain ⟨f, hf⟩ : ∃ f, fs[k] = f := ⟨_, rfl⟩
        rw [hf] at x0 x1 x2 hstep
        have x2' := Aside0.mk x2
        clear hf x2
        have hs' := Aside0.mk hs.out
        clear hs
        have hfl := Aside0.mk (fmtF_len rs f)
        by_cases hk0 : 0 < k
        · have hkb : decide ((0 : Int) < (k : Int)) = true := decide_eq_true (by omega)
          have hkn : decide (0 < k) = true := decide_eq_true hk0
          have c2 := cat1 s 32
          have z2 := szOk1 (a := s) (by have := hsl.out; omega)
          obtain ⟨t, ht⟩ : ∃ t, s ++ [32] = t := ⟨_, rfl⟩
          have htl := Aside0.mk (show t.length ≤ 1001 by rw [← ht]; have := hsl.out; simp; omega)
          have hfin := Aside0.mk (show t ++ fmtF rs f = (tr ++ [59]) ++ txtI rs fs (k + 1) by rw [hstep.out, if_neg (by omega), ← ht, hs'.out]; simp)
          rw [ht] at c2
          clear ht hk0
          have c3' := strB_append t (fmtF rs f)
          have z3 := szOk (a := t) (b := fmtF rs f) (by have := htl.out; have := hfl.out; omega)
          go_wp2
          refine Reg.region [(0,.L),(1,.L),(2,.L),(3,.L),(4,.L),(5,.L),(6,.L),(7,.L),(8,.C),(9,.L)] [10] (by kernel_rfl) (by kernel_rfl) ?_
          repeat first | refine sP ?_ | refine sS ?_ | refine sA ?_ | refine sL ?_ | refine sQ ?_ | refine sO ?_
          refine callC (.string (strB (fmtF rs f))) Tryz.func114 (fun w' hS => ?_) ?_
          focus exact sFormatFact_calls w' _ c0 rs (h0'.out.on (hB'.out.trans hS)) A3 c3 f (x2'.out.on hS)
          repeat first | refine sP ?_ | refine sS ?_ | refine sA ?_ | refine sL ?_ | refine sQ ?_ | refine sO ?_
          refine Reg.tail_ fun w3 hS => ?_
          have hb3' := Aside0.mk (hBr.out.trans hS)
          clear hS
          go_wp2
          exact ⟨⟨k + 1, _, by have := hk'.out; omega, rfl, by go_num, ⟨hfin.out⟩, hb3'.out⟩, by simp [intOf]; have := hk'.out; omega⟩
        · have hkb : decide ((0 : Int) < (k : Int)) = false := decide_eq_false (by omega)
          have hkn : decide (0 < k) = false := decide_eq_false hk0
          have hfin := Aside0.mk (show s ++ fmtF rs f = (tr ++ [59]) ++ txtI rs fs (k + 1) by rw [hstep.out, if_pos (by omega), hs'.out, show k = 0 by omega]; simp [txtI, join_nil'])
          clear hk0
          have c3' := strB_append s (fmtF rs f)
          have z3 := szOk (a := s) (b := fmtF rs f) (by have := hsl.out; have := hfl.out; omega)
          go_wp2
          refine Reg.region [(0,.L),(1,.L),(2,.L),(3,.L),(4,.L),(5,.L),(6,.L),(7,.L),(8,.C),(9,.L)] [10] (by kernel_rfl) (by kernel_rfl) ?_
          repeat first | refine sP ?_ | refine sS ?_ | refine sA ?_ | refine sL ?_ | refine sQ ?_ | refine sO ?_
          refine callC (.string (strB (fmtF rs f))) Tryz.func114 (fun w' hS => ?_) ?_
          focus exact sFormatFact_calls w' _ c0 rs (h0'.out.on (hB'.out.trans hS)) A3 c3 f (x2'.out.on hS)
          repeat first | refine sP ?_ | refine sS ?_ | refine sA ?_ | refine sL ?_ | refine sQ ?_ | refine sO ?_
          refine Reg.tail_ fun w3 hS => ?_
          have hb3' := Aside0.mk (hBr.out.trans hS)
          clear hS
          go_wp2
          exact ⟨⟨k + 1, _, by have := hk'.out; omega, rfl, by go_num, ⟨hfin.out⟩, hb3'.out⟩, by simp [intOf]; have := hk'.out; omega⟩
      · have hfin := Aside0.mk (show s = fmtI rs fs by rw [hcat.out, hs.out, txtI_all rs fs k (by omega)])
        clear hs
        go_wp2
        go_ret
        exact ⟨by rw [← hfin.out]; rfl, hB'.out⟩
theorem iFormatInstance_calls (w : World) (A0 c0 A1 c1) (rs : List Rel) (fs : List Fct) (h0 : Rels w A0 c0 rs) (h1 : Fcts w A1 c1 fs) : Calls Tryz.prog 15 #[.agg #[.slice A0 rs.length c0, .slice A1 fs.length c1]] w fun e w' => e = .returned (.string (strB (fmtI rs fs))) ∧ On w w' := by
  have h0' := Aside0.mk h0
  have h1' := Aside0.mk h1
  have hmx0 := h0.max
  have hmx := h1.max
  clear h0 h1
  have hbx := Aside0.mk (loc1 w #[.slice A0 rs.length c0, .slice A1 fs.length c1] 25)
  have hB0 := Aside0.mk (On.alloc (On.refl w) (.cells #[.slice A0 rs.length c0, .slice A1 fs.length c1] 25 (0, 0)))
  cases ho : okInst rs fs with
  | false =>
    have ho' := Aside0.mk ho
    clear ho
    go_enter Tryz.func15, Tryz.ntmps15
    go_wp2_with (go_at_call 19; refine (iIsValidInstance_calls _ A0 c0 A1 c1 rs fs (h0'.out.on hB0.out) (h1'.out.on hB0.out)).mono ?_; rintro e w1 ⟨rfl, hb1⟩; rw [ho'.out])
    go_ret
    exact ⟨by unfold fmtI; rw [if_neg (by rw [ho'.out]; simp)]; rfl, hB0.out.trans hb1⟩
  | true =>
    have ho' := Aside0.mk ho
    have hcat := Aside0.mk (fmtI_cat ho)
    have hlf := Aside0.mk (okInst_len ho).2
    have hrl := Aside0.mk (fmtR_len rs)
    clear ho
    go_enter Tryz.func15, Tryz.ntmps15
    go_wp2_with (go_at_call 19; refine Stop.out ?_)
    refine ⟨(iIsValidInstance_calls _ A0 c0 A1 c1 rs fs (h0'.out.on hB0.out) (h1'.out.on hB0.out)).mono ?_⟩
    rintro e w1 ⟨rfl, hb1⟩
    rw [ho'.out]
    have hB1 := Aside0.mk (hB0.out.trans hb1)
    have hbx1 := Aside0.mk (blk_below hbx.out.1 hb1)
    have hq0 := blk_cell (blk_below hbx1.out (On.alloc (On.refl w1) (.cells #[] 9 (0, 0))))
    clear hb1
    go_wp2
    clear hq0
    go_loopw [3, 13] (fun v5 v16 wr => ∃ k : Nat, k ≤ fs.length ∧ v16 = .int .i64 k ∧ OSt wr w1.heap.size v5 ((fs.take k).map (fmtF rs)) ∧ On w1 wr) (fun _ v16 _ => fs.length - (intOf v16).toNat)
    case atStart => exact ⟨0, Nat.zero_le _, rfl, ownS0 rfl (Nat.le_refl _), On.alloc (On.refl _) _⟩
    case round =>
      obtain ⟨k, hk, rfl, hO, hB⟩ := hrel
      have hB' := Aside0.mk hB
      obtain ⟨ls, hls⟩ : ∃ ls, (fs.take k).map (fmtF rs) = ls := ⟨_, rfl⟩
      rw [hls] at hO
      have hls' := Aside0.mk hls
      have hO' := Aside0.mk hO
      clear hB hO hls
      have hbxr := Aside0.mk (blk_below hbx1.out hB'.out)
      by_cases hlt : k < fs.length
      · obtain ⟨ad, A3, c3, rfl, x0, x1, x2⟩ := (h1'.out.on (hB1.out.trans hB'.out)).at k hlt
        have hk' := Aside0.mk hlt
        have hstep := Aside0.mk (fs_take rs fs k hlt)
        obtain ⟨f, hf⟩ : ∃ f, fs[k] = f := ⟨_, rfl⟩
        rw [hf] at x0 x1 x2 hstep
        have x2' := Aside0.mk x2
        clear hf x2
        have hfill := alloc_fill wr
        have hcn := blk_cell (loc_new wr #[.int .i64 f.1, .slice A3 f.2.length c3] 60)
        have hq0 := blk_cell (blk_below hbxr.out (On.alloc (On.refl wr) (.cells #[.int .i64 f.1, .slice A3 f.2.length c3] 60 (0, 0))))
        have hWb := Aside0.mk (On.alloc (On.refl wr) (.cells #[.int .i64 f.1, .slice A3 f.2.length c3] 60 (0, 0)))
        go_wp2_with (go_at_call 44; refine Stop.out ?_)
        refine ⟨(iFormatFact_calls _ _ c0 rs (h0'.out.on ((hB1.out.trans hB'.out).trans hWb.out)) A3 c3 f (x2'.out.on hWb.out)).mono ?_⟩
        rintro e w2 ⟨rfl, hb3⟩
        have hb3' := Aside0.mk (hWb.out.trans hb3)
        clear hb3 x0 x1 hfill hcn hq0
        go_wp2_with (refine gate 22 ?_)
        refine ⟨litS1 22 (y := fmtF rs f) ?_⟩
        have hOA := Aside0.mk (own_ex hO'.out (Ex.of_on (S := fun _ => False) (hb3'.out.trans (On.alloc (On.refl w2) (.cells #[.string (strB (fmtF rs f))] 9 (0, 0))))) (fun _ _ h => h))
        have hBA := Aside0.mk (hB'.out.trans (hb3'.out.trans (On.alloc (On.refl w2) (.cells #[.string (strB (fmtF rs f))] 9 (0, 0)))))
        obtain ⟨ys, hys⟩ : ∃ ys, ls ++ [fmtF rs f] = ys := ⟨_, rfl⟩
        have hys' := Aside0.mk hys
        refine apS1 23 hys hOA.out (lit_S w2 (fmtF rs f)) hBA.out.size (by have := hlf.out; rw [← hls'.out]; simp; omega) fun v3 w3 hO3 hg3 => ?_
        have hO3' := Aside0.mk hO3
        have hB3 := Aside0.mk (Ex.on hBA.out (Ex.of_grown hg3) (fun i e => own_base hO'.out i e.symm))
        clear hys hO3 hg3
        go_wp2
        refine ⟨⟨k + 1, by have := hk'.out; omega, by go_num, ?_, hB3.out⟩, by simp [intOf]; have := hk'.out; omega⟩
        rw [hstep.out, hls'.out, hys'.out]; exact hO3'.out
      · have e1 : fs.take k = fs := List.take_of_length_le (by omega)
        have hls2 := Aside0.mk (show fs.map (fmtF rs) = ls by rw [← hls'.out, e1])
        clear e1
        obtain ⟨Aq, cq, rfl⟩ := own_slice hO'.out
        have hSt' := Aside0.mk (OSt.same hO'.out).2
        have hjl := Aside0.mk (show (Lib.join ls [32]).length ≤ 700 by rw [← hls2.out]; have := txtI_len rs fs fs.length hlf.out; rwa [txtI_all rs fs _ (Nat.le_refl _)] at this)
        have hll := Aside0.mk (show ls.length ≤ 1000000 by rw [← hls2.out]; have := hlf.out; simp; omega)
        have hq0 := blk_cell hbxr.out
        have hfr := Aside0.mk (fun W (hS : On wr W) => iFormatRelations_calls W A0 c0 rs (h0'.out.on ((hB1.out.trans hB'.out).trans hS)))
        obtain ⟨tr, htr⟩ : ∃ tr, fmtR rs = tr := ⟨_, rfl⟩
        rw [htr] at hcat hrl hfr
        clear htr
        have c1' := cat1 tr 59
        have z1' := szOk1 (a := tr) (by have := hrl.out; omega)
        obtain ⟨j, hj⟩ : ∃ j, Lib.join ls [32] = j := ⟨_, rfl⟩
        have hj' := Aside0.mk hj
        rw [hj] at hjl
        obtain ⟨x, hx⟩ : ∃ x, tr ++ [59] = x := ⟨_, rfl⟩
        have hxl := Aside0.mk (show x.length ≤ 101 by rw [← hx]; have := hrl.out; simp; omega)
        rw [hx] at c1'
        have c5 := strB_append x j
        have z5 := szOk (a := x) (b := j) (by have := hjl.out; have := hxl.out; omega)
        have hfin := Aside0.mk (show x ++ j = fmtI rs fs by rw [hcat.out, ← hx, ← hj, hls2.out])
        clear hj hx
        go_wp2_with (go_at_call 38; refine Stop.out ?_)
        refine ⟨(hfr.out wr (On.refl _)).mono ?_⟩
        rintro e w5 ⟨rfl, hb5⟩
        have hb5' := Aside0.mk hb5
        clear hq0 hb5
        go_wp2_with (go_at_call 65; refine Stop.out ?_)
        have h := Join_calls w5 Aq cq ls [32] (hSt'.out.on hb5'.out) hll.out (by rw [hj'.out]; have := hjl.out; omega)
        rw [hj'.out] at h
        refine ⟨h.mono ?_⟩
        clear h
        rintro e w6 ⟨rfl, hb6⟩
        have hb6' := Aside0.mk (hb5'.out.trans hb6)
        clear hb6
        go_wp2
        go_ret
        exact ⟨by rw [← hfin.out]; rfl, (hB1.out.trans hB'.out).trans hb6'.out⟩
end Go.Proofs.YtgemaohdlibboaaGreatDoor.H
/- Walks: the draws of instances and of their texts. What is told: that they can be read; sizes. No condition. -/
namespace Go.Proofs.YtgemaohdlibboaaGreatDoor.H
open Go Go.RowKit Go.Proofs.YtgemaohdlibboaaGreatDoorW.PrintWords Go.Proofs.YtgemaohdlibboaaGreatDoorW.PrintLast
open Go.Proofs.YtgemaohdlibboaaGreatDoor.Reg (On on_draw)
set_option maxHeartbeats 8000000
set_option maxRecDepth 100000
set_option linter.unusedVariables false
set_option linter.unusedSimpArgs false

theorem DrawFormatInstance_calls (w : World) (A c) (xs : List Int) (hc : xs.length ≤ c) (hK : kBytes.C w A xs.length xs) :
    Calls Tryz.prog 14 #[.slice A xs.length c] w (Got fun v w' => ∃ rs fs, RIn w' v rs fs ∧ On w w') := by
  have hb0 := Aside0.mk (On.alloc (On.refl w) (.cells #[.slice none 0 0, .slice none 0 0] 25 (0, 0)))
  have hL0 := Aside0.mk (loc_new w #[.slice none 0 0, .slice none 0 0] 25)
  have hK' := Aside0.mk hK
  have hc' := Aside0.mk hc
  clear hK hc
  go_enter Tryz.func14, Tryz.ntmps14
  go_wp2_with (go_at_call 64; refine Stop.out ?_)
  obtain ⟨W, hW⟩ : ∃ W, w.alloc (.cells #[.slice none 0 0, .slice none 0 0] 25 (0, 0)) = W := ⟨_, rfl⟩
  rw [hW] at hb0 hL0 ⊢
  clear hW
  refine ⟨(l1New_calls W A c xs hc'.out (Kd.C_below hK'.out hb0.out)).mono ?_⟩
  rintro e w1 ⟨v, rfl, q, rfl, hC1, hb1⟩
  have hL1 := Aside0.mk (blk_below hL0.out hb1)
  have hq := Aside0.mk (show w.heap.size < q from Nat.lt_of_lt_of_le (blk_lt hL0.out) hC1.lo)
  have hW1 := Aside0.mk (hb0.out.trans hb1)
  have hs1 := Aside0.mk (blk_lt (blk_below hL0.out hb1))
  have hC1' := Aside0.mk hC1
  clear hC1 hb1
  go_wp2_with (go_at_call 63; refine Stop.out ?_)
  refine ⟨(l5Any_calls W w1 q hC1'.out).mono ?_⟩
  rintro e w2 ⟨v, rfl, ⟨rs, fs, hR, -, -, -⟩, hC2, hE2⟩
  obtain ⟨A0, n0, c0, A1, n1, c1, rfl⟩ := hR.read.shape
  have hR' := Aside0.mk hR
  have hL2 := Aside0.mk (blk_ex hE2 hL1.out (fun e => by have := hq.out; omega))
  have hW2 := Aside0.mk (Ex.on hW1.out hE2 (fun i e => by have := hq.out; omega))
  have hcr := blk_cell hL2.out
  have hfr := blk_frozen hL2.out
  clear hR hC2 hE2
  go_wp2
  have EE := (Ex.set w2 ⟨w.heap.size, 0, none⟩ (.slice A0 n0 c0)).trans (Ex.set _ ⟨w.heap.size, 1, none⟩ (.slice A1 n1 c1)) (fun _ _ h => h)
  refine bodyPost_ret (retI rfl rfl (g := w.heap.size) (blk_set (blk_set hL2.out 0 _) 1 _) rfl) rfl ?_
  exact ⟨_, rfl, rs, fs, (hR'.out.ex (EE.mono fun b h => by have e : b = w.heap.size := h; have := hs1.out; omega)).read, Ex.on hW2.out EE (fun i h => by have e : i = w.heap.size := h; omega)⟩
def texts10 (t : List UInt8) : List ByteArray := [⟨#[]⟩, ⟨#[59]⟩, ⟨#[97, 49, 59]⟩, ⟨#[97, 49, 59, 97, 40, 49, 41]⟩, ⟨#[97, 49, 59, 97, 40, 50, 41, 32, 97, 40, 49, 41]⟩, ⟨#[43, 97, 49, 59, 97, 40, 110, 48, 41]⟩, ⟨#[97, 49, 59, 98, 40, 49, 41]⟩, ⟨#[97, 49, 59, 97, 40, 49, 41, 32]⟩, ⟨#[59, 59]⟩, strB t]
theorem texts10_at (t : List UInt8) : ∀ (i : Nat) (h : i < (texts10 t).length), (#[.string ⟨#[]⟩, .string ⟨#[59]⟩, .string ⟨#[97, 49, 59]⟩, .string ⟨#[97, 49, 59, 97, 40, 49, 41]⟩, .string ⟨#[97, 49, 59, 97, 40, 50, 41, 32, 97, 40, 49, 41]⟩, .string ⟨#[43, 97, 49, 59, 97, 40, 110, 48, 41]⟩, .string ⟨#[97, 49, 59, 98, 40, 49, 41]⟩, .string ⟨#[97, 49, 59, 97, 40, 49, 41, 32]⟩, .string ⟨#[59, 59]⟩, .string (strB t)] : Array Value)[i]? = some (.string (texts10 t)[i])
  | 0, _ => rfl
  | 1, _ => rfl
  | 2, _ => rfl
  | 3, _ => rfl
  | 4, _ => rfl
  | 5, _ => rfl
  | 6, _ => rfl
  | 7, _ => rfl
  | 8, _ => rfl
  | 9, _ => rfl
  | n + 10, h => absurd h (by show ¬ n + 10 < 10; omega)
theorem texts10_len (t : List UInt8) (h : t.length ≤ 2000) : ∀ x ∈ texts10 t, x.data.toList.length ≤ 2000 := by
  intro x hx
  simp only [texts10, List.mem_cons, List.not_mem_nil, or_false] at hx
  rcases hx with rfl | rfl | rfl | rfl | rfl | rfl | rfl | rfl | rfl | rfl <;> first | (rw [strB_data]; exact h) | (simp)
theorem DrawParseInstance_calls (w : World) (A c) (xs : List Int) (hc : xs.length ≤ c) (hK : kBytes.C w A xs.length xs) :
    Calls Tryz.prog 16 #[.slice A xs.length c] w (Got fun v w' => ∃ t : List UInt8, v = .string (strB t) ∧ t.length ≤ 2000 ∧ On w w') := by
  have hK' := Aside0.mk hK
  have hc' := Aside0.mk hc
  clear hK hc
  go_enter Tryz.func16, Tryz.ntmps16
  go_wp2_with (go_at_call 64; refine Stop.out ?_)
  refine ⟨(l1New_calls w A c xs hc'.out hK'.out).mono ?_⟩
  rintro e w1 ⟨v, rfl, q, rfl, hC1, hb1⟩
  have hW1 := Aside0.mk hb1
  have hq := Aside0.mk hC1.lo
  have hC1' := Aside0.mk hC1
  clear hC1 hb1
  go_wp2_with (go_at_call 63; refine Stop.out ?_)
  refine ⟨(l5Any_calls w w1 q hC1'.out).mono ?_⟩
  rintro e w2 ⟨v, rfl, ⟨rs, fs, hR, -, -, -⟩, hC2, hE2⟩
  have hR' := Aside0.mk hR.read
  obtain ⟨A0, c0, A1, c1, rfl, h0, h1⟩ := hR.read.out
  have h01 := Aside0.mk (And.intro h0 h1)
  have hC2' := Aside0.mk hC2
  have hW2 := Aside0.mk (Ex.on hW1.out hE2 (fun i e => by have := hq.out; omega))
  clear hR hC2 hE2 h0 h1
  go_wp2_with (go_at_call 52; refine Stop.out ?_)
  refine ⟨(sFormatInstance_calls w2 A0 c0 A1 c1 rs fs h01.out.1 h01.out.2).mono ?_⟩
  rintro e w3 ⟨rfl, hb3⟩
  have hC3 := Aside0.mk (hC2'.out.next hb3)
  have hW3 := Aside0.mk (hW2.out.trans hb3)
  have hlen := Aside0.mk (fmtI_len rs fs)
  obtain ⟨s, hs⟩ : ∃ s, fmtI rs fs = s := ⟨_, rfl⟩
  rw [hs] at hlen ⊢
  clear hs hb3
  go_wp2_with (go_at_call 66; refine Stop.out ?_)
  refine ⟨(l1Once_calls w w3 q hC3.out 3 (by omega) (by omega)).mono ?_⟩
  rintro e w4 ⟨v, rfl, ⟨on, rfl⟩, hC4, hE4⟩
  have hC4' := Aside0.mk hC4
  have hW4 := Aside0.mk (Ex.on hW3.out hE4 (fun i e => by have := hq.out; omega))
  clear hC4 hE4
  cases on with
  | false =>
    go_wp2
    go_ret
    exact ⟨_, rfl, s, rfl, by have := hlen.out; omega, hW4.out⟩
  | true =>
    go_wp2_with (go_at_call 68; refine Stop.out ?_)
    refine ⟨(l1Spoil_calls w w4 q hC4'.out s (by have := hlen.out; omega)).mono ?_⟩
    rintro e w5 ⟨v, rfl, ⟨t, rfl, ht⟩, hC5, hE5⟩
    have hC5' := Aside0.mk hC5
    have hW5 := Aside0.mk (Ex.on hW4.out hE5 (fun i e => by have := hq.out; omega))
    have ht' := Aside0.mk ht
    have hql := Aside0.mk hC5.lt
    clear hC5 hE5 ht
    go_wp2_with (go_at_call 67; refine Stop.out ?_)
    have hb6 := Aside0.mk (On.alloc (On.refl w5) (.cells #[.string ⟨#[]⟩, .string ⟨#[59]⟩, .string ⟨#[97, 49, 59]⟩, .string ⟨#[97, 49, 59, 97, 40, 49, 41]⟩, .string ⟨#[97, 49, 59, 97, 40, 50, 41, 32, 97, 40, 49, 41]⟩, .string ⟨#[43, 97, 49, 59, 97, 40, 110, 48, 41]⟩, .string ⟨#[97, 49, 59, 98, 40, 49, 41]⟩, .string ⟨#[97, 49, 59, 97, 40, 49, 41, 32]⟩, .string ⟨#[59, 59]⟩, .string (strB t)] 9 (0, 0)))
    have hk6 := Aside0.mk (loc_new w5 #[.string ⟨#[]⟩, .string ⟨#[59]⟩, .string ⟨#[97, 49, 59]⟩, .string ⟨#[97, 49, 59, 97, 40, 49, 41]⟩, .string ⟨#[97, 49, 59, 97, 40, 50, 41, 32, 97, 40, 49, 41]⟩, .string ⟨#[43, 97, 49, 59, 97, 40, 110, 48, 41]⟩, .string ⟨#[97, 49, 59, 98, 40, 49, 41]⟩, .string ⟨#[97, 49, 59, 97, 40, 49, 41, 32]⟩, .string ⟨#[59, 59]⟩, .string (strB t)] 9)
    refine ⟨(l1Pick_calls w _ q (hC5'.out.next hb6.out) ⟨w5.heap.size, 0, none⟩ 10 (texts10 t) (fun w' k i hi => ?_) (by show 1 ≤ 10; omega) (by show 10 ≤ 256; omega)).mono ?_⟩
    · have hb := blk_ex k hk6.out (by have := hql.out; omega)
      have h1 := (blk_cell hb i).trans (texts10_at t i hi)
      by_cases h0 : i = 0
      · subst h0; simpa [Addr.add] using h1
      · simpa [Addr.add, h0] using h1
    rintro e w6 ⟨v, rfl, ⟨x, rfl, hx⟩, hC6, hE6⟩
    have hxl := Aside0.mk (texts10_len t (by have := ht'.out; have := hlen.out; omega) x hx)
    have hW6 := Aside0.mk (Ex.on (hW5.out.trans hb6.out) hE6 (fun i e => by have := hq.out; omega))
    clear hC6 hE6 hx
    go_wp2
    go_ret
    exact ⟨_, rfl, x.data.toList, (congrArg Value.string (strB_self x)).symm, hxl.out, hW6.out⟩
theorem oin_rs {S : Nat → Prop} {w : World} {lo : Nat} {v : Value} {rs : List Rel} {fs : List Fct} (h : OIn w lo v rs fs) (hS : ∀ b, S b → b < lo) : RS S w v rs fs := by
  obtain ⟨vr, vf, hs, rfl, h3, h4, h5⟩ := h.out
  obtain ⟨A0, c0, rfl, h6⟩ := OR.rd h3
  obtain ⟨A1, c1, rfl⟩ := own_slice h4
  have hn := h5.len
  refine ⟨A0, c0, A1, c1, hs, by rw [hn], fun w' k => ?_⟩
  have k3 := own_ex h3 k (fun i hi hb => by have := own_base h3 i hi; have := hS i hb; omega)
  have k4 := own_ex h4 k (fun i hi hb => by have := own_base h4 i hi; have := hS i hb; omega)
  have k5 := h5.ex k (fun i a b ha hb hsb => by have := (h5.lt ha hb).1; have := hS b hsb; omega)
  refine ⟨?_, (OH.rh k4).2, k5.reads⟩
  obtain ⟨A2, c2, e, h7⟩ := OR.rd k3
  injection e with e1 e2 e3
  subst e1; subst e3
  exact h7
theorem copyV (w : World) (v : Value) (rs : List Rel) (fs : List Fct) (h : RIn w v rs fs) (hl0 : rs.length ≤ 2000000) (hl : fs.length ≤ 2000000) (hl2 : ∀ f ∈ fs, f.2.length ≤ 2000000) : Calls Tryz.prog 69 #[v] w (Got fun v w' => OIn w' w.heap.size v rs fs ∧ On w w') := by
  obtain ⟨A0, c0, A1, c1, rfl, h0, h1⟩ := h.out
  exact l5Copy_calls w A0 c0 A1 c1 rs fs h0 h1 hl0 hl hl2
structure EqV (w : World) (v1 v2 : Value) : Prop where mk :: (out : ∃ rs fs qs gs, RIn w v1 rs fs ∧ RIn w v2 qs gs)
structure MEq (w : World) (a' : Act) (w' : World) : Prop where mk :: (out : a'.tmps.getD 2 undef = .pointer (some ⟨w.heap.size, 0, none⟩) ∧ a'.tmps.getD 3 undef = .pointer (some ⟨w.heap.size + 1, 0, none⟩) ∧ a'.defers = [] ∧ ∃ c1 c2 : Array Value, w'.heap[w.heap.size]? = some (.cells c1 25 (0, 0)) ∧ w'.heap[w.heap.size + 1]? = some (.cells c2 25 (0, 0)) ∧ c1.size = 2 ∧ c2.size = 2 ∧ EqV w' (.agg c1) (.agg c2) ∧ On w w')
section
variable {fn : Func} {p u : Tmp} {tmps : Array Value} {w : World} {g g' : Nat} {t t' : TypeId} {cs cs' : Array Value} {fr fr' : Nat × Nat}
theorem retI2 (h : fn.results = #[.cell p 25, .cell u 25]) (hp : tmps.getD p undef = .pointer (some ⟨g, 0, none⟩)) (hp' : tmps.getD u undef = .pointer (some ⟨g', 0, none⟩)) (hg : w.heap[g]? = some (.cells cs t fr)) (hg' : w.heap[g']? = some (.cells cs' t' fr')) (hs : cs.size = 2) (hs' : cs'.size = 2) : (results fn tmps).run Tryz.prog w = .ok (.tuple #[.agg cs, .agg cs']) w :=
  results_cc h tmps w g g' t t' cs cs' fr fr' _ _ hp hg Tryz.underlying25 rfl (by rw [hs]; kernel_rfl) hp' hg' Tryz.underlying25 rfl (by rw [hs']; kernel_rfl)
end
theorem DrawEqualInstances_calls (w : World) (A c) (xs : List Int) (hc : xs.length ≤ c) (hK : kBytes.C w A xs.length xs) :
    Calls Tryz.prog 17 #[.slice A xs.length c] w (Got fun v w' => ∃ v1 v2, v = .tuple #[v1, v2] ∧ EqV w' v1 v2 ∧ On w w') := by
  have hb0 := Aside0.mk (On.alloc (On.alloc (On.refl w) (.cells #[.slice none 0 0, .slice none 0 0] 25 (0, 0))) (.cells #[.slice none 0 0, .slice none 0 0] 25 (0, 0)))
  have hL := Aside0.mk (loc2 w #[.slice none 0 0, .slice none 0 0] #[.slice none 0 0, .slice none 0 0] 25 25)
  have hw0 := Aside0.mk (show ((w.alloc (.cells #[.slice none 0 0, .slice none 0 0] 25 (0, 0))).alloc (.cells #[.slice none 0 0, .slice none 0 0] 25 (0, 0))).heap.size = w.heap.size + 2 by simp only [World.size_alloc])
  have hK' := Aside0.mk hK
  have hc' := Aside0.mk hc
  clear hK hc
  go_enter Tryz.func17, Tryz.ntmps17
  go_wp2_with (go_at_call 64; refine Stop.out ?_)
  obtain ⟨w0, hw⟩ : ∃ w0, (w.alloc (.cells #[.slice none 0 0, .slice none 0 0] 25 (0, 0))).alloc (.cells #[.slice none 0 0, .slice none 0 0] 25 (0, 0)) = w0 := ⟨_, rfl⟩
  rw [hw] at hb0 hL hw0 ⊢
  clear hw
  refine ⟨(l1New_calls w0 A c xs hc'.out (Kd.C_below hK'.out hb0.out)).mono ?_⟩
  rintro e w1 ⟨v, rfl, q, rfl, hC1, hb1⟩
  have hi1 := Aside0.mk (blk_below hL.out.1 hb1)
  have hr1 := Aside0.mk (blk_below hL.out.2.1 hb1)
  have hq := Aside0.mk (show w.heap.size + 2 ≤ q by have := hC1.lo; have := hw0.out; omega)
  have hs1 := Aside0.mk (show w.heap.size + 2 ≤ w1.heap.size by have := hb1.size; have := hw0.out; omega)
  have hql := Aside0.mk hC1.lt
  have hW1 := Aside0.mk (hb0.out.trans hb1)
  have hC1' := Aside0.mk hC1
  clear hC1 hb1 hb0 hL
  go_wp2_with (go_at_call 63; refine Stop.out ?_)
  refine ⟨(l5Any_calls w0 w1 q hC1'.out).mono ?_⟩
  rintro e w2 ⟨v, rfl, ⟨rs, fs, hR, hz1, hz2, hz3⟩, hC2, hE2⟩
  obtain ⟨A0, n0, c0, A1, n1, c1, rfl⟩ := hR.read.shape
  have hqq := hq.out
  have hR' := Aside0.mk hR
  have hz := Aside0.mk (And.intro hz1 (And.intro hz2 hz3))
  have hC2' := Aside0.mk hC2
  have hi2 := Aside0.mk (blk_ex hE2 hi1.out (by omega))
  have hr2 := Aside0.mk (blk_ex hE2 hr1.out (by omega))
  have hW2 := Aside0.mk (Ex.on hW1.out hE2 (fun i e => by have h' : i = q := e; omega))
  have hs2 := Aside0.mk (show w1.heap.size ≤ w2.heap.size from hE2.size)
  have hfill := alloc_fill w2
  have hk5 := Aside0.mk (loc_new w2 #[.slice A0 n0 c0, .slice A1 n1 c1] 25)
  have hb5 := Aside0.mk (On.alloc (On.refl w2) (.cells #[.slice A0 n0 c0, .slice A1 n1 c1] 25 (0, 0)))
  clear hR hC2 hE2 hqq hz1 hz2 hz3
  go_wp2_with (go_at_call 66; refine Stop.out ?_)
  clear hfill
  obtain ⟨w3, hw3⟩ : ∃ w3, w2.alloc (.cells #[.slice A0 n0 c0, .slice A1 n1 c1] 25 (0, 0)) = w3 := ⟨_, rfl⟩
  rw [hw3] at hk5 hb5 ⊢
  clear hw3
  obtain ⟨g5, hg5⟩ : ∃ g5, w2.heap.size = g5 := ⟨_, rfl⟩
  rw [hg5] at hk5 hs2 ⊢
  clear hg5
  refine ⟨(l1Once_calls w0 w3 q (hC2'.out.next hb5.out) 2 (by omega) (by omega)).mono ?_⟩
  rintro e w4 ⟨v, rfl, ⟨on, rfl⟩, hC4, hE4⟩
  have hE4' := Aside0.mk ((Ex.of_on (S := fun b => b = q) hb5.out).trans hE4 fun _ _ h => h)
  have hqq := hq.out
  have hq5 := Aside0.mk (show q < g5 from Nat.lt_of_lt_of_le hql.out hs2.out)
  have hqa := hq5.out
  have hsg := Aside0.mk (show w.heap.size + 2 ≤ g5 by have := hs1.out; have := hs2.out; omega)
  have hg4 := Aside0.mk (blk_ex hE4 hk5.out (by omega))
  have hi4 := Aside0.mk (blk_ex hE4'.out hi2.out (by omega))
  have hr4 := Aside0.mk (blk_ex hE4'.out hr2.out (by omega))
  have hC4' := Aside0.mk hC4
  have hW4 := Aside0.mk (Ex.on hW2.out hE4'.out (fun i e => by have h' : i = q := e; omega))
  have hA4 := Aside0.mk (hR'.out.ex (hE4'.out.mono fun b h => by have h' : b = q := h; have := hql.out; omega))
  clear hC4 hE4 hqq hqa
  cases on with
  | true =>
    go_wp2
    refine Reg.regionH (fun w' => w'.heap[g5]? = some (.cells #[.slice A0 n0 c0, .slice A1 n1 c1] 25 (0, 0))) (.r 0 (.r 1 (.n 2 (.leaf [3,4])))) 4 (fun a a' w' => MEq w a' w') (by kernel_rfl) (by kernel_rfl) (blk_below hg4.out (on_draw _)) ?_ ?_
    · obtain ⟨u0, hu0⟩ : ∃ u0, ({ w4 with drawn := w4.drawn + 1 } : World) = u0 := ⟨_, rfl⟩
      have hS0 := Aside0.mk (show On w4 u0 from (hu0 ▸ on_draw w4))
      rw [hu0]
      clear hu0
      refine Reg.hR ?_
      refine Reg.hR ?_
      refine Reg.hN ?_
      refine goesF 14 Tryz.func63 ((l5Any_calls w0 u0 q (hC4'.out.next hS0.out)).mono ?_)
      rintro e u ⟨v, rfl, ⟨qs, gs, hF, -, -, -⟩, hC, hE⟩
      obtain ⟨B0, m0, d0, B1, m1, d1, rfl⟩ := hF.read.shape
      have hE' := Aside0.mk ((Ex.of_on (S := fun b => b = q) hS0.out).trans hE fun _ _ h => h)
      have hqq := hq.out
      have hqa := hq5.out
      have hgu := Aside0.mk (blk_ex hE'.out hg4.out (by omega))
      have hiu := Aside0.mk (blk_ex hE'.out hi4.out (by omega))
      have hru := Aside0.mk (blk_ex hE'.out hr4.out (by omega))
      have hsu := Aside0.mk (show w.heap.size + 2 ≤ u0.heap.size by have h1 := blk_lt hg4.out; have h2 := hS0.out.size; have := hsg.out; omega)
      have hAu := Aside0.mk ((hA4.out.ex (hE'.out.mono fun b h => by have h' : b = q := h; have := hql.out; omega)).mono (S' := fun b => b < w.heap.size + 2) (fun b h => by have := hs1.out; omega))
      have hBu := Aside0.mk (hF.mono (S' := fun b => b < w.heap.size + 2) (fun b h => by have := hsu.out; omega))
      have hWu := Aside0.mk (Ex.on hW4.out hE'.out (fun i e => by have h' : i = q := e; omega))
      clear hF hC hE hqq hqa
      refine ⟨_, rfl, hgu.out, ?_⟩
      simp only [Act.put, List.setIfInBounds_toArray, List.set_cons_zero, List.set_cons_succ]
      refine Reg.hLeaf ?_
      refine Reg.tG ?_
      have hcr := blk_cell hiu.out
      have hfr := blk_frozen hiu.out
      have hqs := hsg.out
      obtain ⟨X, hX⟩ : ∃ X, (u.setCell ⟨w.heap.size, 0, none⟩ (.slice A0 n0 c0)).setCell ⟨w.heap.size, 1, none⟩ (.slice A1 n1 c1) = X := ⟨_, rfl⟩
      have EX := Aside0.mk (show Ex (fun b => b = w.heap.size) u X from hX ▸ (Ex.set u ⟨w.heap.size, 0, none⟩ (.slice A0 n0 c0)).trans (Ex.set _ ⟨w.heap.size, 1, none⟩ (.slice A1 n1 c1)) (fun _ _ h => h))
      have hiX := Aside0.mk (show X.heap[w.heap.size]? = some (.cells #[.slice A0 n0 c0, .slice A1 n1 c1] 25 (0, 0)) from hX ▸ blk_set (blk_set hiu.out 0 _) 1 _)
      have hrX := Aside0.mk (blk_ex EX.out hru.out (by omega))
      have hgX := Aside0.mk (blk_ex EX.out hgu.out (by omega))
      have hX' := Aside0.mk hX
      clear hX hqs
      go_wp2
      rw [hX'.out]
      refine ⟨hgX.out, ?_⟩
      refine Reg.tE ?_
      clear hcr hfr
      have hcr := blk_cell hrX.out
      have hfr := blk_frozen hrX.out
      go_wp2
      have EZ := (Ex.set X ⟨w.heap.size + 1, 0, none⟩ (.slice B0 m0 d0)).trans (Ex.set _ ⟨w.heap.size + 1, 1, none⟩ (.slice B1 m1 d1)) (fun _ _ h => h)
      have EE := (EX.out.mono (S' := fun b => b = w.heap.size ∨ b = w.heap.size + 1) fun _ h => .inl h).trans EZ (fun i hi h => .inr h)
      have hqs := hsg.out
      exact ⟨trivial, rfl, rfl, rfl, #[.slice A0 n0 c0, .slice A1 n1 c1], #[.slice B0 m0 d0, .slice B1 m1 d1], blk_ex EZ hiX.out (fun e => by have e' : w.heap.size = w.heap.size + 1 := e; omega), blk_set (blk_set hrX.out 0 _) 1 _, rfl, rfl, ⟨rs, fs, qs, gs, (hAu.out.ex (EE.mono fun b h => by omega)).read, (hBu.out.ex (EE.mono fun b h => by omega)).read⟩, Ex.on hWu.out EE (fun i h => by omega)⟩
    · skip
      intro a' w' hM
      obtain ⟨h2, h3, hd, k1, k2, e1, e2, z1, z2, hV, hb⟩ := hM.out
      go_wp2
      refine bodyPost_ret (retI2 rfl h2 h3 e1 e2 z1 z2) hd ?_
      exact ⟨_, rfl, _, _, rfl, hV, hb⟩
  | false =>
    go_wp2
    refine Reg.regionH (fun w' => w'.heap[g5]? = some (.cells #[.slice A0 n0 c0, .slice A1 n1 c1] 25 (0, 0))) (.r 0 (.r 1 (.n 2 (.leaf [3,4])))) 4 (fun a a' w' => MEq w a' w') (by kernel_rfl) (by kernel_rfl) (blk_below hg4.out (on_draw _)) ?_ ?_
    · obtain ⟨u0, hu0⟩ : ∃ u0, ({ w4 with drawn := w4.drawn + 1 } : World) = u0 := ⟨_, rfl⟩
      have hS0 := Aside0.mk (show On w4 u0 from (hu0 ▸ on_draw w4))
      rw [hu0]
      clear hu0
      refine Reg.hR ?_
      refine Reg.hR ?_
      refine Reg.hN ?_
      refine goesF 17 Tryz.func69 ((copyV u0 _ rs fs (hA4.out.on hS0.out).read (by have := hz.out.1; omega) (by have := hz.out.2.1; omega) (fun f hf => by have := hz.out.2.2 f hf; omega)).mono ?_)
      rintro e u ⟨v, rfl, hO, hE⟩
      have hE' := Aside0.mk (hS0.out.trans hE)
      have hgu := Aside0.mk (blk_below hg4.out hE'.out)
      have hiu := Aside0.mk (blk_below hi4.out hE'.out)
      have hru := Aside0.mk (blk_below hr4.out hE'.out)
      have hsu := Aside0.mk (show w.heap.size + 2 ≤ u0.heap.size by have h1 := blk_lt hg4.out; have h2 := hS0.out.size; have := hsg.out; omega)
      obtain ⟨B0, m0, d0, B1, m1, d1, rfl⟩ := hO.read.shape
      obtain ⟨qs, hqs0⟩ : ∃ x, x = rs := ⟨_, rfl⟩
      obtain ⟨gs, hgs0⟩ : ∃ x, x = fs := ⟨_, rfl⟩
      have hAu := Aside0.mk (((hA4.out.on hE'.out)).mono (S' := fun b => b < w.heap.size + 2) (fun b h => by have := hs1.out; omega))
      have hBu := Aside0.mk (show RS (fun b => b < w.heap.size + 2) u (.agg #[.slice B0 m0 d0, .slice B1 m1 d1]) qs gs by rw [hqs0, hgs0]; exact oin_rs hO (fun b hb => by have := hsu.out; omega))
      have hWu := Aside0.mk (hW4.out.trans hE'.out)
      clear hO hE hqs0 hgs0
      refine ⟨_, rfl, hgu.out, ?_⟩
      simp only [Act.put, List.setIfInBounds_toArray, List.set_cons_zero, List.set_cons_succ]
      refine Reg.hLeaf ?_
      refine Reg.tG ?_
      have hcr := blk_cell hiu.out
      have hfr := blk_frozen hiu.out
      have hqs := hsg.out
      obtain ⟨X, hX⟩ : ∃ X, (u.setCell ⟨w.heap.size, 0, none⟩ (.slice A0 n0 c0)).setCell ⟨w.heap.size, 1, none⟩ (.slice A1 n1 c1) = X := ⟨_, rfl⟩
      have EX := Aside0.mk (show Ex (fun b => b = w.heap.size) u X from hX ▸ (Ex.set u ⟨w.heap.size, 0, none⟩ (.slice A0 n0 c0)).trans (Ex.set _ ⟨w.heap.size, 1, none⟩ (.slice A1 n1 c1)) (fun _ _ h => h))
      have hiX := Aside0.mk (show X.heap[w.heap.size]? = some (.cells #[.slice A0 n0 c0, .slice A1 n1 c1] 25 (0, 0)) from hX ▸ blk_set (blk_set hiu.out 0 _) 1 _)
      have hrX := Aside0.mk (blk_ex EX.out hru.out (by omega))
      have hgX := Aside0.mk (blk_ex EX.out hgu.out (by omega))
      have hX' := Aside0.mk hX
      clear hX hqs
      go_wp2
      rw [hX'.out]
      refine ⟨hgX.out, ?_⟩
      refine Reg.tE ?_
      clear hcr hfr
      have hcr := blk_cell hrX.out
      have hfr := blk_frozen hrX.out
      go_wp2
      have EZ := (Ex.set X ⟨w.heap.size + 1, 0, none⟩ (.slice B0 m0 d0)).trans (Ex.set _ ⟨w.heap.size + 1, 1, none⟩ (.slice B1 m1 d1)) (fun _ _ h => h)
      have EE := (EX.out.mono (S' := fun b => b = w.heap.size ∨ b = w.heap.size + 1) fun _ h => .inl h).trans EZ (fun i hi h => .inr h)
      have hqs := hsg.out
      exact ⟨trivial, rfl, rfl, rfl, #[.slice A0 n0 c0, .slice A1 n1 c1], #[.slice B0 m0 d0, .slice B1 m1 d1], blk_ex EZ hiX.out (fun e => by have e' : w.heap.size = w.heap.size + 1 := e; omega), blk_set (blk_set hrX.out 0 _) 1 _, rfl, rfl, ⟨rs, fs, qs, gs, (hAu.out.ex (EE.mono fun b h => by omega)).read, (hBu.out.ex (EE.mono fun b h => by omega)).read⟩, Ex.on hWu.out EE (fun i h => by omega)⟩
    · skip
      intro a' w' hM
      obtain ⟨h2, h3, hd, k1, k2, e1, e2, z1, z2, hV, hb⟩ := hM.out
      go_wp2
      refine bodyPost_ret (retI2 rfl h2 h3 e1 e2 z1 z2) hd ?_
      exact ⟨_, rfl, _, _, rfl, hV, hb⟩
end Go.Proofs.YtgemaohdlibboaaGreatDoor.H
/- Walks: homomorphisms told, by both sides. No condition. -/
namespace Go.Proofs.YtgemaohdlibboaaGreatDoor.H
open Go Go.RowKit Go.Proofs.YtgemaohdlibboaaGreatDoorW.PrintWords Go.Proofs.YtgemaohdlibboaaGreatDoorW.PrintLast
open Go.Proofs.YtgemaohdlibboaaGreatDoor.Reg (On on_draw)
set_option maxHeartbeats 4000000
set_option maxRecDepth 100000
set_option linter.unusedVariables false
set_option linter.unusedSimpArgs false

attribute [local go_sem high] eqRel
theorem equalR_calls (w : World) (A c B d) (rs qs : List Rel) (h0 : Rels w A c rs) (h1 : Rels w B d qs) : Calls Tryz.prog 74 #[.slice A rs.length c, .slice B qs.length d] w fun e w' => e = .returned (.bool (decide (rs = qs))) ∧ On w w' := by
  have hm0 := h0.max
  have hm1 := h1.max
  by_cases hl : rs.length = qs.length
  · have hlb : ((rs.length : Int) == (qs.length : Int)) = true := by simp [hl]
    have hlc : ((rs.length : Int) != (qs.length : Int)) = false := by simp [bne, hlb]
    have hld : (rs.length == qs.length) = true := by simp [hl]
    have hl' := Aside0.mk hl
    clear hl
    go_enter Tryz.func74, Tryz.ntmps74
    go_wp2
    clear hlb hlc hld
    go_loopw [13] (fun v wr => ∃ k : Nat, k ≤ rs.length ∧ v = .int .i64 k ∧ Aside0 (rs.take k = qs.take k) ∧ On w wr) (fun v _ => rs.length - (intOf v).toNat)
    case atStart => exact ⟨0, Nat.zero_le _, rfl, ⟨rfl⟩, On.refl _⟩
    case round =>
      obtain ⟨k, hk, rfl, hp, hB⟩ := hrel
      by_cases hlt : k < rs.length
      · have hlt2 : k < qs.length := by have := hl'.out; omega
        obtain ⟨ad, rfl, hx0, hx1, hx2⟩ := (h0.on hB).at k hlt
        obtain ⟨bd, rfl, hy0, hy1, hy2⟩ := (h1.on hB).at k hlt2
        cases hq : sameR rs[k] qs[k] with
        | true =>
          have hq' := Aside0.mk (of_decide_eq_true hq : rs[k] = qs[k])
          go_wp2
          refine Reg.region [(0,.L),(1,.L),(2,.L),(3,.L),(4,.L),(5,.L),(6,.L),(7,.L),(8,.L)] [] (by kernel_rfl) (by kernel_rfl) ?_
          repeat first | refine sP ?_ | refine sS ?_ | refine sA ?_ | refine sL ?_ | refine sQ ?_ | refine sO ?_
          refine Reg.nil fun w2 hS => ?_
          clear hq
          go_wp2
          exact ⟨⟨k + 1, by omega, by go_num, ⟨by rw [List.take_succ_eq_append_getElem hlt, List.take_succ_eq_append_getElem hlt2, hp.out, hq'.out]⟩, hB.trans hS⟩, by simp [intOf]; omega⟩
        | false =>
          have hq' := Aside0.mk (of_decide_eq_false hq : ¬ rs[k] = qs[k])
          go_wp2
          refine Reg.region [(0,.L),(1,.L),(2,.L),(3,.L),(4,.L),(5,.L),(6,.L),(7,.L),(8,.L)] [] (by kernel_rfl) (by kernel_rfl) ?_
          repeat first | refine sP ?_ | refine sS ?_ | refine sA ?_ | refine sL ?_ | refine sQ ?_ | refine sO ?_
          refine Reg.nil fun w2 hS => ?_
          clear hq
          go_wp2
          go_ret
          exact ⟨ret_bool (by symm; exact decide_eq_false fun e => hq'.out (by subst e; rfl)), hB.trans hS⟩
      · have e1 : rs.take k = rs := List.take_of_length_le (by omega)
        have e2 : qs.take k = qs := List.take_of_length_le (by have := hl'.out; omega)
        rw [e1, e2] at hp
        go_wp2
        go_ret
        exact ⟨ret_bool (by symm; exact decide_eq_true hp.out), hB⟩
  · have hlb : ((rs.length : Int) == (qs.length : Int)) = false := by rw [beq_eq_false_iff_ne]; omega
    have hlc : ((rs.length : Int) != (qs.length : Int)) = true := by simp [bne, hlb]
    have hld : (rs.length == qs.length) = false := by simpa using hl
    have hl' := Aside0.mk hl
    clear hl
    go_enter Tryz.func74, Tryz.ntmps74
    go_wp2
    go_ret
    exact ⟨ret_bool (by symm; exact decide_eq_false fun e => hl'.out (congrArg _ e)), On.refl _⟩

end Go.Proofs.YtgemaohdlibboaaGreatDoor.H
/- Walk: spec.EqualInstances. No condition. -/
namespace Go.Proofs.YtgemaohdlibboaaGreatDoor.H
open Go Go.RowKit Go.Proofs.YtgemaohdlibboaaGreatDoorW.PrintWords Go.Proofs.YtgemaohdlibboaaGreatDoorW.PrintLast
open Go.Proofs.YtgemaohdlibboaaGreatDoor.Reg (On on_draw)
set_option maxHeartbeats 4000000
set_option maxRecDepth 100000
set_option linter.unusedVariables false
set_option linter.unusedSimpArgs false

theorem take_eq_succ {fs gs : List Fct} {k : Nat} (h1 : k < fs.length) (h2 : k < gs.length) (h : fs.take k = gs.take k) (he : fs[k] = gs[k]) : fs.take (k + 1) = gs.take (k + 1) := by
  rw [List.take_succ_eq_append_getElem h1, List.take_succ_eq_append_getElem h2, h, he]
theorem EqualInstances_calls (w : World) (A0 c0 A1 c1) (rs : List Rel) (fs : List Fct) (h0 : Rels w A0 c0 rs) (h1 : Fcts w A1 c1 fs) (A2 c2 A3 c3) (qs : List Rel) (gs : List Fct) (h2 : Rels w A2 c2 qs) (h3 : Fcts w A3 c3 gs) :
    Calls Tryz.prog 20 #[.agg #[.slice A0 rs.length c0, .slice A1 fs.length c1], .agg #[.slice A2 qs.length c2, .slice A3 gs.length c3]] w fun e w' => e = .returned (.bool (decide (rs = qs) && decide (fs = gs))) ∧ On w w' := by
  have hb := Aside0.mk (On.alloc (On.alloc (On.refl w) (.cells #[.slice A0 rs.length c0, .slice A1 fs.length c1] 25)) (.cells #[.slice A2 qs.length c2, .slice A3 gs.length c3] 25))
  have hL := Aside0.mk (loc2 w #[.slice A0 rs.length c0, .slice A1 fs.length c1] #[.slice A2 qs.length c2, .slice A3 gs.length c3] 25 25)
  cases he : decide (rs = qs) with
  | false =>
    have he' := Aside0.mk he
    clear he
    go_enter Tryz.func20, Tryz.ntmps20
    go_wp2_with (go_at_call 73; refine (l5Sigs_calls _ A0 c0 A2 c2 rs qs (h0.on hb.out) (h2.on hb.out)).mono ?_; rintro e w1 ⟨rfl, hb1⟩; rw [he'.out])
    go_ret
    exact ⟨ret_bool (by rw [Bool.false_and]), hb.out.trans hb1⟩
  | true =>
    have he' := Aside0.mk he
    clear he
    by_cases hl : fs.length = gs.length
    · have hl' := Aside0.mk hl
      have hlb : ((fs.length : Int) == (gs.length : Int)) = true := by simp [hl]
      have hlc : ((fs.length : Int) != (gs.length : Int)) = false := by simp [bne, hlb]
      have hld : (fs.length == gs.length) = true := by simp [hl]
      clear hl
      go_enter Tryz.func20, Tryz.ntmps20
      go_wp2_with (go_at_call 73; refine (l5Sigs_calls _ A0 c0 A2 c2 rs qs (h0.on hb.out) (h2.on hb.out)).mono ?_; rintro e w1 ⟨rfl, hb1⟩; rw [he'.out]; have hd := blk_cell (Loc.on hb1 hL.out).1; have hdx := blk_cell (Loc.on hb1 hL.out).2.1)
      clear hlb hlc hld hd hdx
      have hW1 := Aside0.mk (hb.out.trans hb1)
      have hL1 := Aside0.mk (Loc.on hb1 hL.out)
      clear hb1
      go_loopw [5] (fun v5 wr => ∃ (k : Nat), v5 = .int .i64 k ∧ k ≤ fs.length ∧ Aside0 (fs.take k = gs.take k) ∧ Aside0 (On w1 wr)) (fun v5 _ => fs.length - (intOf v5).toNat)
      case atStart => exact ⟨0, rfl, Nat.zero_le _, ⟨rfl⟩, ⟨On.refl _⟩⟩
      case round =>
        obtain ⟨k, rfl, hk, hall, hB⟩ := hrel
        have hBw := Aside0.mk (hW1.out.trans hB.out)
        have hLr := Aside0.mk (Loc.on hB.out hL1.out)
        have hd0 := blk_cell hLr.out.1
        have hd1 := blk_cell hLr.out.2.1
        by_cases hlt : k < fs.length
        · have hlt2 : k < gs.length := by have := hl'.out; omega
          obtain ⟨ad, B3, e3, hA1, x0, x1, x2⟩ := (h1.on hBw.out).at k hlt
          obtain ⟨bd, B4, e4, hA3, y0, y1, y2⟩ := (h3.on hBw.out).at k hlt2
          subst hA1 hA3
          have x2' := Aside0.mk x2
          have y2' := Aside0.mk y2
          have hB' := hB
          clear x2 y2
          by_cases hc : cmpF fs[k] gs[k] = 0
          · as_aux_lemma =>
              have hc' := Aside0.mk hc
              have hc1 : (cmpF fs[k] gs[k] != 0) = false := by simp [hc]
              have hc2 : (cmpF fs[k] gs[k] == 0) = true := by simp [hc]
              clear hc
              go_wp2
              refine Reg.region [(0,.L),(1,.L),(2,.L),(3,.L),(4,.L),(5,.L),(6,.L),(7,.L),(8,.L),(9,.L),(10,.C),(11,.L)] [] (by kernel_rfl) (by kernel_rfl) ?_
              repeat first | refine sP ?_ | refine sS ?_ | refine sA ?_ | refine sL ?_ | refine sQ ?_ | refine sO ?_
              refine callC (.int .i64 (cmpF fs[k] gs[k])) Tryz.func70 (fun w' hS => ?_) ?_
              focus exact CompareFacts_calls w' _ _ _ _ fs[k] gs[k] (x2'.out.on hS) (y2'.out.on hS)
              repeat first | refine sP ?_ | refine sS ?_ | refine sA ?_ | refine sL ?_ | refine sQ ?_ | refine sO ?_
              refine Reg.nil fun w2 hS => ?_
              clear x0 x1 y0 y1 hd0 hd1
              go_wp2
              have hwk : wrap64 ((k : Int) + 1) = ((k + 1 : Nat) : Int) := by rw [IntWalk.wrap64_in _ (by have := h1.max; omega)]; omega
              exact ⟨⟨k + 1, by rw [hwk], by omega, ⟨take_eq_succ hlt hlt2 hall.out ((cmpF_eq _ _).1 hc'.out)⟩, ⟨hB.out.trans hS⟩⟩, by rw [hwk]; simp [intOf]; omega⟩
          · as_aux_lemma =>
              have hc1 : (cmpF fs[k] gs[k] != 0) = true := by simp [hc]
              have hc2 : (cmpF fs[k] gs[k] == 0) = false := by simp [hc]
              have hne := Aside0.mk (show ¬ fs = gs from fun e => by subst e; exact hc (cmpF_self _))
              clear hc
              go_wp2
              refine Reg.region [(0,.L),(1,.L),(2,.L),(3,.L),(4,.L),(5,.L),(6,.L),(7,.L),(8,.L),(9,.L),(10,.C),(11,.L)] [] (by kernel_rfl) (by kernel_rfl) ?_
              repeat first | refine sP ?_ | refine sS ?_ | refine sA ?_ | refine sL ?_ | refine sQ ?_ | refine sO ?_
              refine callC (.int .i64 (cmpF fs[k] gs[k])) Tryz.func70 (fun w' hS => ?_) ?_
              focus exact CompareFacts_calls w' _ _ _ _ fs[k] gs[k] (x2'.out.on hS) (y2'.out.on hS)
              repeat first | refine sP ?_ | refine sS ?_ | refine sA ?_ | refine sL ?_ | refine sQ ?_ | refine sO ?_
              refine Reg.nil fun w2 hS => ?_
              clear x0 x1 y0 y1 hd0 hd1
              go_wp2
              go_ret
              exact ⟨ret_bool (by rw [decide_eq_false hne.out, Bool.and_false]), hBw.out.trans hS⟩
        · have hge := Aside0.mk (show fs = gs by
            have := hall.out
            rw [List.take_of_length_le (by omega), List.take_of_length_le (by have := hl'.out; omega)] at this
            exact this)
          go_wp2
          go_ret
          exact ⟨ret_bool (by rw [decide_eq_true hge.out]; rfl), hBw.out⟩
    · have hlb : ((fs.length : Int) == (gs.length : Int)) = false := by simp; omega
      have hlc : ((fs.length : Int) != (gs.length : Int)) = true := by simp [bne, hlb]
      have hld : (fs.length == gs.length) = false := by simp [hl]
      have hne := Aside0.mk (show ¬ fs = gs from fun e => hl (congrArg _ e))
      clear hl
      go_enter Tryz.func20, Tryz.ntmps20
      go_wp2_with (go_at_call 73; refine (l5Sigs_calls _ A0 c0 A2 c2 rs qs (h0.on hb.out) (h2.on hb.out)).mono ?_; rintro e w1 ⟨rfl, hb1⟩; rw [he'.out]; have hd := blk_cell (Loc.on hb1 hL.out).1; have hdx := blk_cell (Loc.on hb1 hL.out).2.1)
      go_ret
      exact ⟨ret_bool (by rw [decide_eq_false hne.out, Bool.and_false]), hb.out.trans hb1⟩
end Go.Proofs.YtgemaohdlibboaaGreatDoor.H
/- Walks: the program compares instances. No condition. -/
namespace Go.Proofs.YtgemaohdlibboaaGreatDoor.H
open Go Go.RowKit Go.Proofs.YtgemaohdlibboaaGreatDoorW.PrintWords Go.Proofs.YtgemaohdlibboaaGreatDoorW.PrintLast
open Go.Proofs.YtgemaohdlibboaaGreatDoor.Reg (On on_draw)
set_option maxHeartbeats 4000000
set_option maxRecDepth 100000
set_option linter.unusedVariables false
set_option linter.unusedSimpArgs false

theorem cmpF_same (f g : Fct) : (cmpF f g == 0) = decide (f = g) := by
  have h : hasF [f] g = decide (f = g) := by
    rw [Bool.eq_iff_iff, hasF_mem]
    simp [eq_comm]
  rw [← h]
  simp [hasF]
theorem EqualFuncF_calls (w : World) (A0 c0) (fs : List Fct) (h0 : Fcts w A0 c0 fs) (A1 c1) (gs : List Fct) (h1 : Fcts w A1 c1 gs) :
    Calls Tryz.prog 75 #[.slice A0 fs.length c0, .slice A1 gs.length c1, .func (.func 76) #[] #[]] w fun e w' => e = .returned (.bool (decide (fs = gs))) ∧ On w w' := by
  have hm0 := h0.max
  have hm1 := h1.max
  by_cases hl : fs.length = gs.length
  · have hlb : ((fs.length : Int) == (gs.length : Int)) = true := by simp [hl]
    have hlc : ((fs.length : Int) != (gs.length : Int)) = false := by simp [bne, hlb]
    have hld : (fs.length == gs.length) = true := by simp [hl]
    have hl' := Aside0.mk hl
    have h0' := Aside0.mk h0
    have h1' := Aside0.mk h1
    clear hl h0 h1
    go_enter Tryz.func75, Tryz.ntmps75
    go_wp2
    clear hlb hlc hld
    go_loopw [17] (fun v wr => ∃ k : Nat, k ≤ fs.length ∧ v = .int .i64 k ∧ Aside0 (fs.take k = gs.take k) ∧ Aside0 (On w wr)) (fun v _ => fs.length - (intOf v).toNat)
    case atStart => exact ⟨0, Nat.zero_le _, rfl, ⟨rfl⟩, ⟨On.refl _⟩⟩
    case round =>
      obtain ⟨k, hk, rfl, hp, hB⟩ := hrel
      by_cases hlt : k < fs.length
      · have hlt2 : k < gs.length := by have := hl'.out; omega
        obtain ⟨ad, A2, c2, rfl, x0, x1, x2⟩ := (h0'.out.on hB.out).at k hlt
        have hs0 := Aside0.mk (List.take_succ_eq_append_getElem hlt)
        have hs1 := Aside0.mk (List.take_succ_eq_append_getElem hlt2)
        obtain ⟨f, hf⟩ : ∃ f, fs[k] = f := ⟨_, rfl⟩
        rw [hf] at x0 x1 x2 hs0
        have hf' := Aside0.mk hf
        have hWa := On.alloc (On.refl wr) (.cells #[.int .i64 f.1, .slice A2 f.2.length c2] 60 (0, 0))
        obtain ⟨bd, A3, c3, rfl, y0, y1, y2⟩ := (h1'.out.on (hB.out.trans hWa)).at k hlt2
        obtain ⟨bd', A3', c3', e3, z0, z1, z2⟩ := (h1'.out.on hB.out).at k hlt2
        obtain rfl : bd = bd' := by simpa using e3
        have hsame : A3 = A3' ∧ c3 = c3' := by
          have h5 := (hWa.eq _ (by rw [z1]; rfl)).trans z1
          rw [y1] at h5
          injection h5 with h5
          injection h5 with h5 h6 h7
          exact ⟨h5, h7⟩
        obtain ⟨rfl, rfl⟩ := hsame
        obtain ⟨g, hg⟩ : ∃ g, gs[k] = g := ⟨_, rfl⟩
        rw [hg] at y0 y1 z2 hs1
        have hg' := Aside0.mk hg
        have x2' := Aside0.mk x2
        have y2' := Aside0.mk z2
        clear hf hg x2 y2 z0 z1 z2 e3 hWa
        cases hq : (cmpF f g == 0) with
        | true =>
          have hq' := Aside0.mk (of_decide_eq_true ((cmpF_same f g).symm.trans hq))
          have hL2 := Aside0.mk (loc2 wr #[.int .i64 f.1, .slice A2 f.2.length c2] #[.int .i64 g.1, .slice A3 g.2.length c3] 60 60)
          have hW2 := Aside0.mk (On.alloc (On.alloc (On.refl wr) (.cells #[.int .i64 f.1, .slice A2 f.2.length c2] 60 (0, 0))) (.cells #[.int .i64 g.1, .slice A3 g.2.length c3] 60 (0, 0)))
          have hfill := alloc_fill wr
          have hfill2 := alloc_fill (wr.alloc (.cells #[.int .i64 f.1, .slice A2 f.2.length c2] 60 (0, 0)))
          have q0 := blk_cell hL2.out.1
          have q1 := blk_cell hL2.out.2.1
          have hsf := Aside0.mk (sameFact_calls _ A2 c2 A3 c3 f g (x2'.out.on hW2.out) (y2'.out.on hW2.out))
          go_wp2_with (refine gate 29 ?_)
          clear hfill hfill2 q0 q1 x0 x1 y0 y1
          rw [hq] at hsf
          clear hq
          refine ⟨goesC 29 Tryz.func76 (by kernel_rfl) rfl (hsf.out.mono fun e w2 h2 => ⟨_, h2.1, ?_⟩)⟩
          have hb2 := Aside0.mk (hW2.out.trans h2.2)
          clear h2
          go_wp2
          exact ⟨⟨k + 1, by omega, by go_num, ⟨by rw [hs0.out, hs1.out, hp.out, hq'.out]⟩, ⟨hB.out.trans hb2.out⟩⟩, by simp [intOf]; omega⟩
        | false =>
          have hq' := Aside0.mk (of_decide_eq_false ((cmpF_same f g).symm.trans hq))
          have hL2 := Aside0.mk (loc2 wr #[.int .i64 f.1, .slice A2 f.2.length c2] #[.int .i64 g.1, .slice A3 g.2.length c3] 60 60)
          have hW2 := Aside0.mk (On.alloc (On.alloc (On.refl wr) (.cells #[.int .i64 f.1, .slice A2 f.2.length c2] 60 (0, 0))) (.cells #[.int .i64 g.1, .slice A3 g.2.length c3] 60 (0, 0)))
          have hfill := alloc_fill wr
          have hfill2 := alloc_fill (wr.alloc (.cells #[.int .i64 f.1, .slice A2 f.2.length c2] 60 (0, 0)))
          have q0 := blk_cell hL2.out.1
          have q1 := blk_cell hL2.out.2.1
          have hsf := Aside0.mk (sameFact_calls _ A2 c2 A3 c3 f g (x2'.out.on hW2.out) (y2'.out.on hW2.out))
          go_wp2_with (refine gate 29 ?_)
          clear hfill hfill2 q0 q1 x0 x1 y0 y1
          rw [hq] at hsf
          clear hq
          refine ⟨goesC 29 Tryz.func76 (by kernel_rfl) rfl (hsf.out.mono fun e w2 h2 => ⟨_, h2.1, ?_⟩)⟩
          have hb2 := Aside0.mk (hW2.out.trans h2.2)
          clear h2
          go_wp2
          go_ret
          exact ⟨ret_bool (by symm; exact decide_eq_false fun e => hq'.out (by rw [← hf'.out, ← hg'.out]; subst e; rfl)), hB.out.trans hb2.out⟩
      · have e1 : fs.take k = fs := List.take_of_length_le (by omega)
        have e2 : gs.take k = gs := List.take_of_length_le (by have := hl'.out; omega)
        rw [e1, e2] at hp
        go_wp2
        go_ret
        exact ⟨ret_bool (by symm; exact decide_eq_true hp.out), hB.out⟩
  · have hlb : ((fs.length : Int) == (gs.length : Int)) = false := by rw [beq_eq_false_iff_ne]; omega
    have hlc : ((fs.length : Int) != (gs.length : Int)) = true := by simp [bne, hlb]
    have hld : (fs.length == gs.length) = false := by simpa using hl
    have hl' := Aside0.mk hl
    clear hl
    go_enter Tryz.func75, Tryz.ntmps75
    go_wp2
    go_ret
    exact ⟨ret_bool (by symm; exact decide_eq_false fun e => hl'.out (congrArg _ e)), On.refl _⟩
theorem iEqualInstances_calls (w : World) (A0 c0 A1 c1) (rs : List Rel) (fs : List Fct) (h0 : Rels w A0 c0 rs) (h1 : Fcts w A1 c1 fs) (A2 c2 A3 c3) (qs : List Rel) (gs : List Fct) (h2 : Rels w A2 c2 qs) (h3 : Fcts w A3 c3 gs) :
    Calls Tryz.prog 21 #[.agg #[.slice A0 rs.length c0, .slice A1 fs.length c1], .agg #[.slice A2 qs.length c2, .slice A3 gs.length c3]] w fun e w' => e = .returned (.bool (decide (rs = qs) && decide (fs = gs))) ∧ On w w' := by
  have hb := Aside0.mk (On.alloc (On.alloc (On.refl w) (.cells #[.slice A0 rs.length c0, .slice A1 fs.length c1] 25)) (.cells #[.slice A2 qs.length c2, .slice A3 gs.length c3] 25))
  have hL := Aside0.mk (loc2 w #[.slice A0 rs.length c0, .slice A1 fs.length c1] #[.slice A2 qs.length c2, .slice A3 gs.length c3] 25 25)
  have h1' := Aside0.mk h1
  have h3' := Aside0.mk h3
  have hm1 := h1.max
  have hm3 := h3.max
  have he := Aside0.mk (equalR_calls ((w.alloc (.cells #[.slice A0 rs.length c0, .slice A1 fs.length c1] 25 (0, 0))).alloc (.cells #[.slice A2 qs.length c2, .slice A3 gs.length c3] 25 (0, 0))) A0 c0 A2 c2 rs qs (h0.on hb.out) (h2.on hb.out))
  clear h0 h1 h2 h3
  cases hr : decide (rs = qs) with
  | false =>
    rw [hr] at he
    clear hr
    go_enter Tryz.func21, Tryz.ntmps21
    go_wp2_with (go_at_call 74; refine Stop.out ?_)
    refine ⟨(he.out).mono ?_⟩
    rintro e w1 ⟨rfl, hb1⟩
    have hB1 := Aside0.mk (hb.out.trans hb1)
    clear hb1 he
    go_wp2
    go_ret
    exact ⟨rfl, hB1.out⟩
  | true =>
    rw [hr] at he
    clear hr
    go_enter Tryz.func21, Tryz.ntmps21
    go_wp2_with (go_at_call 74; refine Stop.out ?_)
    refine ⟨(he.out).mono ?_⟩
    rintro e w1 ⟨rfl, hb1⟩
    have hB1 := Aside0.mk (hb.out.trans hb1)
    have hL1 := Aside0.mk (Loc.on hb1 hL.out)
    have q0 := blk_cell hL1.out.1
    have q1 := blk_cell hL1.out.2.1
    clear hb1 he
    go_wp2_with (go_at_call 75; refine Stop.out ?_)
    refine ⟨(EqualFuncF_calls w1 A1 c1 fs (h1'.out.on hB1.out) A3 c3 gs (h3'.out.on hB1.out)).mono ?_⟩
    rintro e w2 ⟨rfl, hb2⟩
    have hB2 := Aside0.mk (hB1.out.trans hb2)
    clear hb2 q0 q1
    go_wp2
    go_ret
    exact ⟨ret_bool (by simp), hB2.out⟩
end Go.Proofs.YtgemaohdlibboaaGreatDoor.H
/- What a reader of instances answers, plain. No condition. -/
namespace Go.Proofs.YtgemaohdlibboaaGreatDoor.H
open Go Go.RowKit Go.Proofs.YtgemaohdlibboaaGreatDoorW.PrintWords Go.Proofs.YtgemaohdlibboaaGreatDoorW.PrintLast
set_option maxRecDepth 100000
set_option linter.unusedVariables false
set_option linter.unusedSimpArgs false

theorem okInst_nil : okInst [] [] = true := by decide
theorem canI_nil : canI [] = ([], []) := by
  unfold canI
  rw [cut_none (by simp)]
  simp [parR]
theorem pi_ok {s : List UInt8} (h : fmtI (canI s).1 (canI s).2 = s) : okInst (canI s).1 (canI s).2 = true := by
  cases hb : okInst (canI s).1 (canI s).2 with
  | true => rfl
  | false =>
    have h2 : s = [] := by rw [← h]; unfold fmtI; rw [hb]; rfl
    subst h2
    rw [canI_nil, okInst_nil] at hb
    cases hb
/-- Whether the pieces of an instance's text can be read. -/
def okP (s : List UInt8) : Bool := (parR (Lib.cut s [59]).1).2 && (if (Lib.cut s [59]).2.1 = [] then true else (cutS 32 (Lib.cut s [59]).2.1).all fun w => (parF (parR (Lib.cut s [59]).1).1 w).2)
theorem pi_fs {rs : List Rel} {fs : List Fct} (h : okInst rs fs = true) (c : fs ≠ []) : Lib.join (fs.map (fmtF rs)) [32] ≠ [] ∧ cutS 32 (Lib.join (fs.map (fmtF rs)) [32]) = fs.map (fmtF rs) := by
  obtain ⟨hr, hfs⟩ := okInst_facts h
  exact ⟨join_ne (by simpa using c) (fun w hw => by obtain ⟨f, hf, rfl⟩ := List.mem_map.1 hw; exact (fmtF_bytes (hfs f hf)).2.2),
    cutS_join _ (by simpa using c) (fun w hw => by obtain ⟨f, hf, rfl⟩ := List.mem_map.1 hw; exact (fmtF_bytes (hfs f hf)).1)⟩
theorem okP_fmt {rs : List Rel} {fs : List Fct} (h : okInst rs fs = true) : okP (fmtI rs fs) = true := by
  obtain ⟨hr, hfs⟩ := okInst_facts h
  unfold okP
  rw [(fmtI_ok h).2]
  simp only
  rw [parR_fmt hr]
  simp only
  by_cases c : fs = []
  · subst c; simp [join_nil']
  · obtain ⟨h1, h2⟩ := pi_fs h c
    rw [if_neg h1, h2, List.all_map]
    simp only [Bool.true_and, List.all_eq_true]
    intro f hf
    show (parF rs (fmtF rs f)).2 = true
    rw [parF_fmt (hfs f hf)]
theorem pi_okP {s : List UInt8} (h : fmtI (canI s).1 (canI s).2 = s) : okP s = true := by
  have h1 := okP_fmt (pi_ok h)
  rwa [h] at h1
theorem join59 {rs : List Rel} {fs : List Fct} (h : ∀ f ∈ fs, okFact rs f = true) : 59 ∉ Lib.join (fs.map (fmtF rs)) [32] := by
  intro hm
  rcases join_mem hm with hm | ⟨w, hw, hm⟩
  · simp at hm
  · obtain ⟨f, hf, rfl⟩ := List.mem_map.1 hw
    exact (fmtF_bytes (h f hf)).2.1 hm
theorem pi_two {s : List UInt8} (h : fmtI (canI s).1 (canI s).2 = s) : (cutS 59 s).length = 2 := by
  have hok := pi_ok h
  have hf := (okInst_facts hok).2
  rw [← h, (fmtI_ok hok).1, cutS_app _ fmtR_bytes, cutS_none (join59 hf)]
  rfl
theorem cut_of_two {s a b : List UInt8} {c : UInt8} (h : cutS c s = [a, b]) : Lib.cut s [c] = (a, b, true) := by
  rcases cut_cases c s with hn | ⟨x, y, rfl, hx⟩
  · rw [cutS_none hn] at h; simp at h
  · rw [cutS_app _ hx] at h
    rw [cut_app _ hx]
    have h1 : x = a := by injection h
    have h2 : cutS c y = [b] := by injection h
    rcases cut_cases c y with hn | ⟨u, v, rfl, hu⟩
    · rw [cutS_none hn] at h2
      have h3 : y = b := by injection h2
      rw [h1, h3]
    · rw [cutS_app _ hu] at h2
      obtain ⟨p, r, hp⟩ := cutS_ne c v
      rw [hp] at h2
      simp at h2
theorem pi_F {s : List UInt8} (h : okP s = false ∨ fmtI (canI s).1 (canI s).2 ≠ s ∨ (cutS 59 s).length ≠ 2) : parI s = (([], []), false) := by
  unfold parI
  rw [if_neg]
  intro e
  rcases h with h | h | h
  · rw [pi_okP e] at h; cases h
  · exact h e
  · exact h (pi_two e)
theorem pi_T {s : List UInt8} (h : fmtI (canI s).1 (canI s).2 = s) : parI s = (canI s, true) := by
  unfold parI; rw [if_pos h]
end Go.Proofs.YtgemaohdlibboaaGreatDoor.H
/- Walks: the program reads relations. No condition. -/
namespace Go.Proofs.YtgemaohdlibboaaGreatDoor.H
open Go Go.RowKit Go.Proofs.YtgemaohdlibboaaGreatDoorW.PrintWords Go.Proofs.YtgemaohdlibboaaGreatDoorW.PrintLast
open Go.Proofs.YtgemaohdlibboaaGreatDoor.Reg (On on_draw)
set_option maxHeartbeats 4000000
set_option maxRecDepth 100000
set_option linter.unusedVariables false
set_option linter.unusedSimpArgs false

theorem ownR0 {W : World} {g lo : Nat} (hg : g = W.heap.size) (hlo : lo ≤ W.heap.size) : OR (W.alloc (.cells #[] 95 (0, 0))) lo (.slice (some ⟨g, 0, none⟩) 0 0) [] := by
  subst hg
  exact own_lower (World.ownsRow_lit (base := W.heap.size) (e := 95) (size := 3) W #[] 0 (Nat.le_refl _) (by simp [maxLen]) (by simp)) hlo
theorem OR.same2 {w : World} {lo : Nat} {A : Option Addr} {n c : Nat} {rs : List Rel} (h : OR w lo (.slice A n c) rs) : n = rs.length ∧ Rels w A c rs := by
  obtain ⟨A', c', e, hR⟩ := OR.rd h
  injection e with e1 e2 e3
  subst e1 e3
  exact ⟨e2, hR⟩
theorem litR1 (W : World) (r : Rel) : Rels (W.alloc (.cells #[.string r.1, .int .i64 r.2.1, .bool r.2.2] 95 (0, 0))) (some ⟨W.heap.size, 0, none⟩) 1 [r] := by
  have h := World.ownsRow_lit (base := W.heap.size) (e := 95) (size := 3) W #[.string r.1, .int .i64 r.2.1, .bool r.2.2] 1 (Nat.le_refl _) (by simp [maxLen]) (by simp)
  have h' : OR (W.alloc (.cells #[.string r.1, .int .i64 r.2.1, .bool r.2.2] 95 (0, 0))) W.heap.size (.slice (some ⟨W.heap.size, 0, none⟩) 1 1) [r] := h
  exact (OR.same2 h').2
section
variable {ops : Array Oper} {rest : List Oper} {o : Oper} {a : Act} {Q : Exit → Act → World → Prop} {W : World}
/-- A literal of one element. -/
theorem litN1 (N : Tmp) (cs : Array Value) (t : TypeId) (h : wpList Tryz.prog ops Q rest (a.put (some N) (.slice (some ⟨W.heap.size, 0, none⟩) 1 1)) (W.alloc (.cells cs t (0, 0))))
    (hd : o.dst = some N := by rfl) (hg : o.guard = none := by rfl) (hr : (execOp a.eval o).run Tryz.prog W = .ok (.value (.slice (some ⟨W.heap.size, 0, none⟩) 1 1)) (W.alloc (.cells cs t (0, 0))) := by first | (go_simp; done) | (go_simp; rfl)) : wpList Tryz.prog ops Q (o :: rest) a W :=
  Kd.event_run hg hr (by rw [hd]; exact h)
end
theorem str_bne (a b : List UInt8) : ((strB a).toList != (strB b).toList) = decide (a ≠ b) := by
  rw [bne, str_beq]; by_cases h : a = b <;> simp [h]
theorem str_nil (a : List UInt8) : ((strB a).toList == ([] : List UInt8)) = decide (a = []) := by
  rw [ByteArray.toList_eq, strB_data, Bool.eq_iff_iff]; simp
theorem parL_cons (s w : List UInt8) (r : List (List UInt8)) (out : List Rel) : parL s (w :: r) out = (match parW w with | some x => parL s r (out ++ [x]) | none => ([], false)) := by rw [parL]; cases parW w <;> rfl
theorem parL_drop (s : List UInt8) (ws : List (List UInt8)) (k : Nat) (h : k < ws.length) (out : List Rel) : parL s (ws.drop k) out = (match parW ws[k] with | some x => parL s (ws.drop (k + 1)) (out ++ [x]) | none => ([], false)) := by
  rw [List.drop_eq_getElem_cons h, parL_cons]
theorem iParseRelations_calls (w : World) (s : List UInt8) (hl : s.length ≤ 2000000) : Calls Tryz.prog 37 #[.string (strB s)] w (Got fun v w' => ∃ v1, v = .tuple #[v1, .bool (parR s).2] ∧ OR w' w.heap.size v1 (parR s).1 ∧ On w w') := by
  have hl' := Aside0.mk hl
  clear hl
  by_cases c : s = []
  · have hb1 : ((strB s).toList == ([] : List UInt8)) = true := by rw [str_nil]; exact decide_eq_true c
    have hb2 : ((strB s).toList = ([] : List UInt8)) = True := eq_true (beq_iff_eq.1 hb1)
    have hp := Aside0.mk (show parR s = ([], true) by unfold parR; rw [if_pos c])
    clear c
    go_enter Tryz.func37, Tryz.ntmps37
    go_wp2
    go_ret2
    exact ⟨_, rfl, _, by rw [hp.out]; rfl, by rw [hp.out]; exact ownR0 rfl (Nat.le_refl _), On.alloc (On.refl _) _⟩
  · have hb1 : ((strB s).toList == ([] : List UInt8)) = false := by rw [str_nil]; exact decide_eq_false c
    have hb2 : ((strB s).toList = ([] : List UInt8)) = False := eq_false (fun e => by rw [beq_eq_false_iff_ne] at hb1; exact hb1 e)
    have hp := Aside0.mk (show parR s = parL s (cutS 32 s) [] by unfold parR; rw [if_neg c])
    have hwl := Aside0.mk (cutS_len 32 s)
    clear c
    go_enter Tryz.func37, Tryz.ntmps37
    go_wp2_with (go_at_call 56; refine Stop.out ?_)
    refine ⟨(Split_calls _ s 32 hl'.out).mono ?_⟩
    rintro e w1 ⟨v, rfl, hO, hb⟩
    obtain ⟨ws, hws⟩ : ∃ ws, cutS 32 s = ws := ⟨_, rfl⟩
    rw [hws] at hO hp hwl
    obtain ⟨A, n, rfl, hSt⟩ := OSt.slice hO
    have hOw := Aside0.mk (own_lower hO (On.alloc (On.refl w) (.cells #[] 95 (0, 0))).size)
    have hb' := Aside0.mk hb
    have hmx : ws.length ≤ 9223372036854775807 := hSt.max
    clear hO hSt hb hws hb1 hb2
    go_wp2
    go_loopw [4, 16] (fun v4 v16 wr => ∃ (k : Nat) (out : List Rel), k ≤ ws.length ∧ v16 = .int .i64 k ∧ OR wr w.heap.size v4 out ∧ out.length ≤ k ∧ Aside0 (parL s (ws.drop k) out = parL s ws []) ∧ On w wr ∧ OSt wr w.heap.size (.slice A ws.length n) ws) (fun _ v16 _ => ws.length - (intOf v16).toNat)
    case atStart => exact ⟨0, [], Nat.zero_le _, rfl, pw_own_below (ownR0 rfl (Nat.le_refl _)) hb'.out, Nat.le_refl _, ⟨rfl⟩, (On.alloc (On.refl _) _).trans hb'.out, hOw.out⟩
    case round =>
      obtain ⟨k, out, hk, rfl, hO, hol, hq, hB, hOs⟩ := hrel
      have hOs' := Aside0.mk hOs
      have hO' := Aside0.mk hO
      have hol' := Aside0.mk hol
      have hWW := Aside0.mk hB
      clear hB hO hol hOs
      by_cases hlt : k < ws.length
      · obtain ⟨ad, rfl, hx⟩ := (OSt.same hOs'.out).2.cell k hlt
        have hk' := Aside0.mk hlt
        have hst := Aside0.mk ((parL_drop s ws k hlt out).symm.trans hq.out)
        obtain ⟨wd, hwd⟩ : ∃ wd, ws[k] = wd := ⟨_, rfl⟩
        rw [hwd] at hx hst
        clear hwd hq
        by_cases h2 : (cutP wd).1.length = 2
        · obtain ⟨a, b, hab⟩ : ∃ a b, (cutP wd).1 = [a, b] := by
            match hh : (cutP wd).1, h2 with
            | [a, b], _ => exact ⟨a, b, rfl⟩
          obtain ⟨sg, hsg⟩ : ∃ sg, (cutP wd).2 = sg := ⟨_, rfl⟩
          have hpw := Aside0.mk (parW_some (w := wd) (a := a) (b := b) (s := sg) (Prod.ext hab hsg))
          have hab' := Aside0.mk hab
          have hsg' := Aside0.mk hsg
          have hz : (strB [a, b]).size = 2 := by rw [strB_size]; rfl
          have e1 : (strB [a, b]).extract 0 1 = strB [a] := by rw [strB_extract]; rfl
          have hat := strB_at [a, b] 1 (by simp) b rfl
          have hsub : wrap64 ((b.toNat : Int) - 48) = (b.toNat : Int) - 48 := IntWalk.wrap64_in _ (by have := b.toNat_lt; omega)
          have hsub2 : IntKind.i64.wrap ((b.toNat : Int) - 48) = (b.toNat : Int) - 48 := IntWalk.i64_in _ (by have := b.toNat_lt; omega)
          have hwb : wrap64 (b.toNat : Int) = (b.toNat : Int) := IntWalk.wrap64_in _ (by have := b.toNat_lt; omega)
          have hwb2 : IntKind.i64.wrap (b.toNat : Int) = (b.toNat : Int) := IntWalk.i64_in _ (by have := b.toNat_lt; omega)
          clear h2 hab hsg
          go_wp2_with (go_at_call 106; refine (CutPrefix_calls _ wd).mono ?_; rintro e w2 ⟨rfl, hb2⟩; rw [hab'.out, hsg'.out]; have hb2' := Aside0.mk hb2; clear hb2)
          refine Reg.region [(0,.P),(1,.P),(2,.P),(3,.P),(4,.P),(5,.P),(6,.P),(7,.P),(8,.P)] [9,10,11] (by kernel_rfl) (by kernel_rfl) ?_
          repeat first | refine sP ?_ | refine sS ?_ | refine sA ?_ | refine sL ?_ | refine sQ ?_ | refine sO ?_
          refine Reg.tail_ fun w3 hS => ?_
          have hS' := Aside0.mk (hb2'.out.trans hS)
          first | rw [hwb, hsub] | rw [hwb2, hsub2] | skip
          clear hS e1 hat hsub hsub2 hwb hwb2 hz
          refine litN1 38 #[.string (strB [a]), .int .i64 ((b.toNat : Int) - 48), .bool sg] 95 ?_
          have hOA := Aside0.mk (own_ex hO'.out (Ex.of_on (S := fun _ => False) (hS'.out.trans (On.alloc (On.refl w3) (.cells #[.string (strB [a]), .int .i64 ((b.toNat : Int) - 48), .bool sg] 95 (0, 0))))) (fun _ _ h => h))
          have hBA := Aside0.mk (hWW.out.trans (hS'.out.trans (On.alloc (On.refl w3) (.cells #[.string (strB [a]), .int .i64 ((b.toNat : Int) - 48), .bool sg] 95 (0, 0)))))
          obtain ⟨ys, hys⟩ : ∃ ys, out ++ [((strB [a], (b.toNat : Int) - 48, sg) : Rel)] = ys := ⟨_, rfl⟩
          have hys' := Aside0.mk hys
          refine apR 39 hys hOA.out (litR1 w3 (strB [a], (b.toNat : Int) - 48, sg)) hBA.out.size (by have := hol'.out; have := hk'.out; have := hwl.out; have := hl'.out; simp; omega) fun v3 w4 hO3 hg3 => ?_
          have hO3' := Aside0.mk hO3
          have hB3 := Aside0.mk (Ex.on hBA.out (Ex.of_grown hg3) (fun i e => own_base hO'.out i e.symm))
          have hOs3 := Aside0.mk (own_ex (pw_own_below hOs'.out (hS'.out.trans (On.alloc (On.refl w3) (.cells #[.string (strB [a]), .int .i64 ((b.toNat : Int) - 48), .bool sg] 95 (0, 0))))) (Ex.of_grown hg3) (fun i hi e => own_ne_blk (pw_own_below hOs'.out (hS'.out.trans (On.alloc (On.refl w3) (.cells #[.string (strB [a]), .int .i64 ((b.toNat : Int) - 48), .bool sg] 95 (0, 0))))) hOA.out (by decide) hi e.symm))
          clear hys hO3 hg3
          go_wp2
          have h0 := hst.out
          rw [hpw.out] at h0
          exact ⟨⟨k + 1, ys, by have := hk'.out; omega, by go_num, hO3'.out, by rw [← hys'.out]; have := hol'.out; simp; omega, ⟨by rw [← hys'.out]; exact h0⟩, hB3.out, hOs3.out⟩, by simp [intOf]; have := hk'.out; omega⟩
        · have hpw := Aside0.mk (parW_none h2)
          have hz1 : ((strB (cutP wd).1).size : Int) ≠ 2 := by rw [strB_size]; omega
          have hz2 : (((strB (cutP wd).1).size : Int) != 2) = true := bne_iff_ne.mpr hz1
          have hz3 : (((strB (cutP wd).1).size : Int) == 2) = false := beq_eq_false_iff_ne.mpr hz1
          clear h2
          go_wp2_with (go_at_call 106; refine (CutPrefix_calls _ wd).mono ?_; rintro e w2 ⟨rfl, hb2⟩; have hb2' := Aside0.mk hb2; clear hb2)
          go_ret2
          have h0 := hst.out
          rw [hpw.out] at h0
          exact ⟨_, rfl, _, by rw [hp.out, ← h0]; rfl, by rw [hp.out, ← h0]; exact ownR0 rfl (hWW.out.trans hb2'.out).size, (hWW.out.trans hb2'.out).trans (On.alloc (On.refl _) _)⟩
      · have h0 := Aside0.mk hq.out
        obtain ⟨Ao, co, hvo, hRo⟩ := OR.rd hO'.out
        subst hvo
        have hRo' := Aside0.mk hRo
        have hend := Aside0.mk (show (if fmtR out = s then (out, true) else ([], false)) = parR s by rw [hp.out, ← h0.out, List.drop_of_length_le (by omega)]; rw [parL])
        clear hRo hq
        by_cases e : fmtR out = s
        · have hbn : ((strB (fmtR out)).toList != (strB s).toList) = false := by rw [str_bne]; simp [e]
          have hbm : ((strB (fmtR out)).toList == (strB s).toList) = true := by rw [str_beq]; simp [e]
          have hbo : ((strB (fmtR out)).toList = (strB s).toList) = True := eq_true (beq_iff_eq.1 hbm)
          have he := Aside0.mk e
          clear e
          go_wp2_with (go_at_call 38; refine (iFormatRelations_calls _ Ao co out hRo'.out).mono ?_; rintro e w2 ⟨rfl, hb2⟩; have hb2' := Aside0.mk hb2; clear hb2)
          go_ret2
          have h1 := hend.out
          rw [if_pos he.out] at h1
          exact ⟨_, rfl, _, by rw [← h1]; rfl, by rw [← h1]; exact pw_own_below hO'.out hb2'.out, hWW.out.trans hb2'.out⟩
        · have hbn : ((strB (fmtR out)).toList != (strB s).toList) = true := by rw [str_bne]; simp [e]
          have hbm : ((strB (fmtR out)).toList == (strB s).toList) = false := by rw [str_beq]; simp [e]
          have hbo : ((strB (fmtR out)).toList = (strB s).toList) = False := eq_false (fun h => by rw [h] at hbm; simp at hbm)
          have he := Aside0.mk e
          clear e
          go_wp2_with (go_at_call 38; refine (iFormatRelations_calls _ Ao co out hRo'.out).mono ?_; rintro e w2 ⟨rfl, hb2⟩; have hb2' := Aside0.mk hb2; clear hb2)
          go_ret2
          have h1 := hend.out
          rw [if_neg he.out] at h1
          exact ⟨_, rfl, _, by rw [← h1]; rfl, by rw [← h1]; exact ownR0 rfl (hWW.out.trans hb2'.out).size, (hWW.out.trans hb2'.out).trans (On.alloc (On.refl _) _)⟩
end Go.Proofs.YtgemaohdlibboaaGreatDoor.H
/- What a reader of facts answers, plain. No condition. -/
namespace Go.Proofs.YtgemaohdlibboaaGreatDoor.H
open Go Go.RowKit Go.Proofs.YtgemaohdlibboaaGreatDoorW.PrintWords Go.Proofs.YtgemaohdlibboaaGreatDoorW.PrintLast
open Go.Proofs.YtgemaohdlibboaaGreatDoor.Reg (On on_draw)
set_option maxRecDepth 100000
set_option linter.unusedVariables false
set_option linter.unusedSimpArgs false

theorem own1I2 (W : World) (x : Int) : OI (W.alloc (.cells #[.int .i64 x] 3 (0, 0))) W.heap.size (.slice (some ⟨W.heap.size, 0, none⟩) 1 1) [x] := lit_own W #[.int .i64 x] 3 1 1 W.heap.size (Nat.le_refl _) (by omega) rfl
theorem lit_RI2 {W w : World} {x : Int} (hx : -9223372036854775808 ≤ x ∧ x ≤ 9223372036854775807) (hb : On (W.alloc (.cells #[.int .i64 x] 3 (0, 0))) w) : kInts.C w (some ⟨W.heap.size, 0, none⟩) 1 [x] := by
  obtain ⟨A, c, e, h⟩ := OI.rd (pw_own_below (own1I2 W x) hb) (fun y hy => by simp at hy; subst hy; exact hx)
  injection e with e1 e2 e3
  subst e1
  exact h.2.1
theorem ints_of {w : World} {lo n c : Nat} {A : Option Addr} {xs : List Int} (h : OI w lo (.slice A n c) xs) (hr : InR xs) : Ints w A c xs := by
  obtain ⟨A1, c1, e, h1⟩ := h.rd hr
  injection e with e1 e2 e3
  subst e1; subst e3
  exact h1
def vsW (ws : List (List UInt8)) : List Int := ws.map fun w => (parV w).1
theorem parV_wide (s : List UInt8) : -9223372036854775808 ≤ (parV s).1 ∧ (parV s).1 ≤ 9223372036854775807 := by have := parV_bd s; omega
theorem vsW_inR (ws : List (List UInt8)) : InR (vsW ws) := fun x hx => by
  obtain ⟨w, _, rfl⟩ := List.mem_map.1 hx
  exact parV_wide w
theorem vsW_succ (ws : List (List UInt8)) (k : Nat) (h : k < ws.length) : vsW (ws.take (k + 1)) = vsW (ws.take k) ++ [(parV ws[k]).1] := by
  unfold vsW; rw [List.take_succ_eq_append_getElem h, List.map_append]; rfl
theorem cut_rest_len (s : List UInt8) (c : UInt8) : (Lib.cut s [c]).2.1.length ≤ s.length := by
  unfold Lib.cut; split <;> simp
theorem trim_len (s t : List UInt8) : (Lib.trimSuffix s t).length ≤ s.length := by
  unfold Lib.trimSuffix; split <;> simp
theorem pf_A {rs : List Rel} {s : List UInt8} {f : Fct} (h : fmtF rs f = s) (hs : s ≠ []) : parF rs s = (f, true) := by
  have hok : okFact rs f = true := by
    cases hb : okFact rs f with
    | true => rfl
    | false => exact absurd (by rw [← h]; unfold fmtF; rw [hb]; rfl) hs
  rw [← h]; exact parF_fmt hok
theorem pf_F {rs : List Rel} {s : List UInt8} (h : (parF rs s).2 = false) : parF rs s = ((0, []), false) := Prod.ext (parF_true.2 h).1 h
/-- The words of a fact's text. -/
def wsF (s : List UInt8) : List (List UInt8) := cutS 44 ((s.drop 2).take (s.length - 3))
theorem pf_B {rs : List Rel} {s : List UInt8} (h : (parF rs s).2 = true) : 3 ≤ s.length ∧ (∀ w ∈ wsF s, (parV w).2 = true) ∧ parF rs s = ((idxFrom (nmP (s.take 1)) rs 0, vsW (wsF s)), true) ∧ fmtF rs (idxFrom (nmP (s.take 1)) rs 0, vsW (wsF s)) = s := by
  obtain ⟨hok, hf⟩ := parF_true.1 h
  obtain ⟨f, hf'⟩ : ∃ f, (parF rs s).1 = f := ⟨_, rfl⟩
  rw [hf'] at hok hf
  obtain ⟨b, e, hb1, hb2, hn⟩ := fmtF_ok hok
  obtain ⟨k, hk, e1, e2, _, hne, hv⟩ := okFact_parts hok
  rw [hf] at e
  have ht : s.take 1 = [b] := by rw [e]; rfl
  have hd : (s.drop 2).take (s.length - 3) = Lib.join (f.2.map fvL) [44] := by rw [e]; simp
  have hcs : cutS 44 (Lib.join (f.2.map fvL) [44]) = f.2.map fvL := cutS_join _ (by simpa using hne) (fun w hw h44 => by
    obtain ⟨v, hv', rfl⟩ := List.mem_map.1 hw
    have := (fvL_bytes (hv v hv')).1 44 h44
    simp at this)
  have hw : wsF s = f.2.map fvL := by unfold wsF; rw [hd, hcs]
  have hix : idxFrom (nmP [b]) rs 0 = f.1 := by rw [e1, ← hn, e2]; exact idx_name (okFact_rels hok) k hk
  have hvs : vsW (f.2.map fvL) = f.2 := by
    unfold vsW; rw [List.map_map]
    have hmap : f.2.map ((fun w => (parV w).1) ∘ fvL) = f.2.map id := List.map_congr_left fun v hv' => by
      show (parV (fvL v)).1 = v
      rw [parV_fmt (hv v hv')]
    rw [hmap, List.map_id]
  have hfe : (idxFrom (nmP (s.take 1)) rs 0, vsW (wsF s)) = f := by rw [ht, hix, hw, hvs]
  refine ⟨by rw [e]; simp, fun w hm => ?_, ?_, by rw [hfe, hf]⟩
  · rw [hw] at hm
    obtain ⟨v, hv', rfl⟩ := List.mem_map.1 hm
    rw [parV_fmt (hv v hv')]
  · rw [hfe, ← hf']; exact Prod.ext rfl h
theorem pf_len {rs : List Rel} {s : List UInt8} (h : s.length < 3) : parF rs s = ((0, []), false) := pf_F (by
  cases hb : (parF rs s).2 with
  | false => rfl
  | true => have := (pf_B hb).1; omega)
theorem pf_word {rs : List Rel} {s : List UInt8} {w : List UInt8} (hm : w ∈ wsF s) (h : (parV w).2 = false) : parF rs s = ((0, []), false) := pf_F (by
  cases hb : (parF rs s).2 with
  | false => rfl
  | true => have := (pf_B hb).2.1 w hm; rw [h] at this; cases this)
theorem pf_ne {rs : List Rel} {s : List UInt8} (h : fmtF rs (idxFrom (nmP (s.take 1)) rs 0, vsW (wsF s)) ≠ s) : parF rs s = ((0, []), false) := pf_F (by
  cases hb : (parF rs s).2 with
  | false => rfl
  | true => exact absurd (pf_B hb).2.2.2 h)
end Go.Proofs.YtgemaohdlibboaaGreatDoor.H
