/- Walks and plain laws for the law FnHomomorphismMonotonicity, part 6 of 7: the texts HK1, HC4, HC5, HG13, HO3, HC6, HJ3, HJ0, HJ1, HJ2, HJ5, HJ6, HJ7, HG14, HG15, HD4, HM1, HM2, HM3, HM4, HM5, HM6, HM7, HM8, HM9, HM10, HM11, HM12, HM13 in one. No condition. -/
import Derived.Lib.QuietBelow
import Derived.Sort.Grow
import Derived.Shelf.SlSortCmp.WholeK
import Derived.Lib.RowBridge
import Derived.Shelf.SlSortCmp.NoneTotal
import Derived.Maps.OwnSet
import Derived.Maps.Views
import Derived.Shelf.SlMaps.Clone
import Derived.Shelf.SlIterI.Nil
import Derived.Shelf.SlIterI.Sorted
import Derived.Maps.Ext
import Derived.Lib.SlKeysI
import Derived.Maps.OwnOps
import Derived.Test.YtngjhblbpapjeaaZFnHomomorphismMonotonicity5
/- Walks: the program's own nulls; the library's sorting over its shelf. No condition. -/
namespace Go.Proofs.Ytngjhblbpapjeaa.H
open Go Go.RowKit Go.Proofs.YtngjhblbpapjeaaW.PrintWords Go.Proofs.YtngjhblbpapjeaaW.PrintLast
open Go.Proofs.Ytngjhblbpapjeaa.Reg (On on_draw)
set_option maxHeartbeats 1000000
set_option maxRecDepth 100000
set_option linter.unusedVariables false
set_option linter.unusedSimpArgs false

theorem own_setCells {base g n cap : Nat} {e : TypeId} : ∀ (ys : List Value) (i : Nat) (xs : List Value) (W : World), W.ownsRow base e 1 (.slice (some ⟨g, 0, none⟩) n cap) n xs → i + ys.length ≤ n →
    (W.setCells g i ys).ownsRow base e 1 (.slice (some ⟨g, 0, none⟩) n cap) n (xs.take i ++ ys ++ xs.drop (i + ys.length)) ∧ W.grownBy (W.setCells g i ys) (some g)
  | [], i, xs, W, h, _ => ⟨by simpa [World.setCells] using h, World.grownBy.refl W _⟩
  | y :: ys, i, xs, W, h, hl => by
    have hx : xs.length = n := by have := h.1; omega
    simp only [List.length_cons] at hl
    obtain ⟨h1, g1⟩ := h.stored i y
    obtain ⟨h2, g2⟩ := own_setCells ys (i + 1) _ _ h1 (by omega)
    refine ⟨?_, World.grownBy.trans g1 g2⟩
    have e : (xs.set i y).take (i + 1) ++ ys ++ (xs.set i y).drop (i + 1 + ys.length) = xs.take i ++ (y :: ys) ++ xs.drop (i + (y :: ys).length) := by
      rw [List.take_succ_eq_append_getElem (by simp; omega), List.take_set_of_le (Nat.le_refl _), List.getElem_set_self, List.drop_set_of_lt (by omega)]
      rw [show i + 1 + ys.length = i + (y :: ys).length by simp; omega]
      simp
    rw [e] at h2
    exact h2
theorem own_holds {base g cap : Nat} {e : TypeId} {w : World} {zs : List Int} (h : w.ownsRow base e 1 (.slice (some ⟨g, 0, none⟩) zs.length cap) zs.length (encs (Value.int .i64) zs)) : Go.Sort.Holds (Value.int .i64) w g 0 zs.toArray := by
  intro j hj
  have hj' : j < zs.length := by simpa using hj
  constructor
  · have hc := h.cells (g := g) rfl j (.int .i64 zs[j]) (by simp [encs, List.getElem?_eq_getElem hj'])
    rw [add_plain] at hc
    rw [Nat.zero_add, hc]
    simp [hj']
  · rcases h.2 with ⟨h', _⟩ | ⟨g', cap', cur, h', _, hh, _⟩
    · cases h'
    · have : g = g' := by injection h' with h'; injection h' with h'; injection h' with h'
      subst this
      simp [World.frozen?, hh]
theorem own_row {base g cap : Nat} {e : TypeId} {w : World} {zs ys : List Int} (q : Nat) (h : w.ownsRow base e 1 (.slice (some ⟨g, 0, none⟩) zs.length cap) zs.length (encs (Value.int .i64) zs)) (hl : ys.length = zs.length) :
    (Go.Sort.putRow (Value.int .i64) (Go.Sort.ahead w q) g 0 ys.toArray).ownsRow base e 1 (.slice (some ⟨g, 0, none⟩) zs.length cap) zs.length (encs (Value.int .i64) ys) ∧ w.grownBy (Go.Sort.putRow (Value.int .i64) (Go.Sort.ahead w q) g 0 ys.toArray) (some g) := by
  rw [Go.Lib.putRow_eq_setCells _ w g 0 zs.toArray ys q (own_holds h) (by simpa using hl)]
  have h1 : (w.drewN q).ownsRow base e 1 (.slice (some ⟨g, 0, none⟩) zs.length cap) zs.length (encs (Value.int .i64) zs) := own_move h (fun _ _ => rfl)
  obtain ⟨h2, g2⟩ := own_setCells (ys.map (Value.int .i64)) 0 _ _ h1 (by simp; omega)
  have e : (encs (Value.int .i64) zs).take 0 ++ ys.map (Value.int .i64) ++ (encs (Value.int .i64) zs).drop (0 + (ys.map (Value.int .i64)).length) = encs (Value.int .i64) ys := by
    rw [List.drop_of_length_le (by simp [encs]; omega)]
    simp [encs]
  rw [e] at h2
  exact ⟨h2, ⟨g2.os, g2.tape, g2.output, g2.size, g2.block⟩⟩
theorem grownBy_grow {w w1 : World} {row : Option Nat} (h : w.grownBy w1 row) (os : Array Obj) : w.grownBy (Go.Sort.grow w1 os) row := by
  refine ⟨h.os, h.tape, h.output, by have := h.size; simp [Go.Sort.grow]; omega, fun k hk hr => ?_⟩
  have hs := h.size
  show (w1.heap ++ os)[k]? = _
  rw [Array.getElem?_append_left (by omega)]
  exact h.block k hk hr
theorem own_grow {w : World} {base : Nat} {e : TypeId} {size n : Nat} {v : Value} {xs : List Value} (h : w.ownsRow base e size v n xs) (os : Array Obj) : (Go.Sort.grow w os).ownsRow base e size v n xs := by
  refine own_move h fun k hk => ?_
  have := own_lt h k hk
  show (w.heap ++ os)[k]? = _
  rw [Array.getElem?_append_left (by omega)]
theorem own_cut1 {base g cap n : Nat} {e : TypeId} {w : World} {xs : List Value} (h : w.ownsRow base e 1 (.slice (some ⟨g, 0, none⟩) n cap) n xs) (m : Nat) (hm : m ≤ n) : w.ownsRow base e 1 (.slice (some ⟨g, 0, none⟩) m cap) m (xs.take m) := by
  have hx : xs.length = n := by have := h.1; omega
  rcases h.2 with ⟨h', _⟩ | ⟨g', cap', cur, h', hg, hh, hnc, hcm, hcs, htk⟩
  · cases h'
  · injection h' with h1 h2 h3
    injection h1 with h1
    injection h1 with h1
    subst h1 h3
    refine ⟨by rw [List.length_take]; omega, .inr ⟨g, cap, cur, rfl, hg, hh, by omega, hcm, hcs, ?_⟩⟩
    rw [← htk, List.take_take]
    congr 1
    omega
theorem sortI_calls (w : World) (lo : Nat) (v : Value) (xs : List Int) (h : OI w lo v xs) (hl : xs.length < 1099511627776) : Calls Try.prog 103 #[v] w fun e w' => e = .returned (.tuple #[]) ∧ OI w' lo v (xs.mergeSort fun x y => decide (x ≤ y)) ∧ Ex (fun b => some b = v.ownBlock) w w' := by
  have hown : w.ownsRow lo 3 1 v xs.length (encs (Value.int .i64) xs) := by rw [encs_flat]; exact h
  rcases hown.2 with ⟨rfl, hn⟩ | ⟨g, cap, cur, rfl, hg, hh, hr⟩
  · obtain rfl : xs = [] := List.eq_nil_of_length_eq_zero hn
    refine (Try.slices_Sort_int_none none 0 w).mono fun e w' ⟨he, hw⟩ => ?_
    subst hw
    exact ⟨he, by simpa using h, Ex.refl _ _⟩
  · have hlt : g < w.heap.size := own_lt hown g rfl
    refine (Try.slices_Sort_int g 0 cap xs w (own_holds hown) hlt (by omega)).mono fun e w' ⟨he, n, os, hw⟩ => ?_
    obtain ⟨h1, g1⟩ := own_row (ys := xs.mergeSort fun x y => decide (x ≤ y)) n hown (by simp)
    have h2 := own_grow h1 os
    have g2 := grownBy_grow g1 os
    rw [← hw] at h2 g2
    refine ⟨he, ?_, Ex.of_grown g2⟩
    show World.ownsRow _ _ _ _ _ (xs.mergeSort fun x y => decide (x ≤ y)).length _
    rw [← encs_flat, List.length_mergeSort]
    exact h2
theorem compactI_calls (w : World) (lo : Nat) (v : Value) (xs : List Int) (h : OI w lo v xs) (hl : xs.length < 1099511627776) : Calls Try.prog 104 #[v] w (Got fun v1 w' => OI w' lo v1 (Go.Lib.compact xs) ∧ Ex (fun b => some b = v.ownBlock) w w') := by
  have hown : w.ownsRow lo 3 1 v xs.length (encs (Value.int .i64) xs) := by rw [encs_flat]; exact h
  rcases hown.2 with ⟨rfl, hn⟩ | ⟨g, cap, cur, rfl, hg, hh, hnc, hr⟩
  · obtain rfl : xs = [] := List.eq_nil_of_length_eq_zero hn
    refine (Try.slices_Compact_int_empty none 0 w).mono fun e w' ⟨he, hw⟩ => ?_
    subst hw
    exact ⟨_, he, by simpa [Go.Lib.compact, Go.Lib.compactUpTo] using h, Ex.refl _ _⟩
  · have hle := Go.Lib.compact_length_le xs
    refine (Try.slices_Compact_int g 0 cap xs w (own_holds hown) (by omega) hnc).mono fun e w' ⟨he, n, hw⟩ => ?_
    obtain ⟨h1, g1⟩ := own_row (ys := Go.Lib.compact xs ++ List.replicate (xs.length - (Go.Lib.compact xs).length) 0) n hown (by simp; omega)
    have h2 := own_cut1 h1 (Go.Lib.compact xs).length hle
    have e2 : (encs (Value.int .i64) (Go.Lib.compact xs ++ List.replicate (xs.length - (Go.Lib.compact xs).length) 0)).take (Go.Lib.compact xs).length = encs (Value.int .i64) (Go.Lib.compact xs) := by
      simp [encs]
    rw [e2] at h2
    rw [← hw] at h2 g1
    rw [encs_flat] at h2
    exact ⟨_, he, h2, Ex.of_grown g1⟩
theorem nullsOf_calls (w : World) (A c) (vs : List Int) (h : Ints w A c vs) (hl : vs.length ≤ 1000000000) : Calls Try.prog 60 #[.slice A vs.length c] w (Got fun v' w' => OI w' w.heap.size v' (sortU (nulSeq vs)) ∧ On w w') := by
  go_enter Try.func60, Try.ntmps60
  go_wp2
  go_loopw [3, 11] (fun v3 v11 wr => ∃ k : Nat, k ≤ vs.length ∧ v11 = .int .i64 k ∧ Aside0 (OInts wr w.heap.size v3 (nulSeq (vs.take k))) ∧ On w wr) (fun _ v11 _ => vs.length - (intOf v11).toNat)
  case atStart => exact ⟨0, Nat.zero_le _, rfl, ⟨own0' (by simp) (by simp)⟩, On.alloc (On.refl _) _⟩
  case round =>
    obtain ⟨k, hk, rfl, hO, hB⟩ := hrel
    by_cases hlt : k < vs.length
    · obtain ⟨ad, rfl, hx⟩ := (h.on hB).at k hlt
      have hbd := h.bd k hlt
      have hseq := Aside0.mk (show nulSeq (vs.take (k + 1)) = nulSeq (vs.take k) ++ (if isNul vs[k] then [nulNum vs[k]] else []) by rw [List.take_succ_eq_append_getElem hlt, nulSeq_append, nulSeq_cons]; split <;> rfl)
      have hlq := Aside0.mk (show (nulSeq (vs.take k)).length ≤ k by have := (nulSeq_ok (vs.take k)).2; rw [List.length_take] at this; omega)
      cases hn : isNul vs[k] with
      | false =>
        have hn' := Aside0.mk hn
        clear hn
        go_wp2_with (go_at_call 102; refine (iNullNumber_calls _ _ hbd).mono ?_; rintro e w2 ⟨rfl, hb2⟩; rw [hn'.out])
        exact ⟨⟨k + 1, by omega, by go_num, ⟨by rw [hseq.out, hn'.out]; simpa using OInts.on hO.out hb2⟩, hB.trans hb2⟩, by simp [intOf]; omega⟩
      | true =>
        have hn' := Aside0.mk hn
        clear hn
        go_wp2_with (first | (go_at_call 102; refine (iNullNumber_calls _ _ hbd).mono ?_; rintro e w2 ⟨rfl, hb2⟩; rw [hn'.out]) | (refine gate 24 ?_))
        have hBA := (hB.trans hb2).trans (On.alloc (On.refl w2) (.cells #[.int .i64 (nulNum vs[k])] 3))
        have hOA := OInts.on hO.out (hb2.trans (On.alloc (On.refl w2) (.cells #[.int .i64 (nulNum vs[k])] 3)))
        obtain ⟨ys, hys⟩ : ∃ ys, nulSeq (vs.take k) ++ [nulNum vs[k]] = ys := ⟨_, rfl⟩
        have hys' := Aside0.mk hys
        have hl2 : (nulSeq (vs.take k)).length + 1 ≤ 10000000000 := by have := hlq.out; omega
        refine ⟨apI 24 hys hOA (Kd.R_reads' (own1 w2 (nulNum vs[k]))).2.2 hBA.size hl2 fun v3 w3 hO3 hg3 hat3 => ?_⟩
        clear hys
        have hB3 := grown_own hBA hOA hg3 (Nat.le_refl _)
        clear hl2 hat3
        go_wp2
        exact ⟨⟨k + 1, by omega, by go_num, ⟨by rw [hseq.out, hn'.out, if_pos rfl, hys'.out]; exact hO3⟩, hB3⟩, by simp [intOf]; omega⟩
    · have e1 : vs.take k = vs := List.take_of_length_le (by omega)
      rw [e1] at hO
      have hlq := (nulSeq_ok vs).2
      go_wp2_with (first | (go_at_call 103; refine (sortI_calls wr w.heap.size _ (nulSeq vs) (OI.of hO.out) (by omega)).mono ?_; rintro e w2 ⟨rfl, hO2, hE2⟩; have hO3 := Aside0.mk hO2; clear hO2) | (go_at_call 104; refine (compactI_calls w2 w.heap.size _ _ hO3.out (by rw [List.length_mergeSort]; omega)).mono ?_; rintro e w3 ⟨v3, rfl, hO4, hE4⟩))
      go_ret
      exact ⟨_, rfl, hO4, Ex.on (Ex.on hB hE2 (fun i e => own_base (OI.of hO.out) i e.symm)) hE4 (fun i e => own_base (OI.of hO.out) i e.symm)⟩
theorem iNullsOfFact_calls (w : World) (A c) (r : Int) (vs : List Int) (h : Ints w A c vs) (hl : vs.length ≤ 1000000000) : Calls Try.prog 110 #[.agg #[.int .i64 r, .slice A vs.length c]] w (Got fun v' w' => OI w' w.heap.size v' (nuls vs) ∧ On w w') := by
  have hb := Aside0.mk (On.alloc (On.refl w) (.cells #[.int .i64 r, .slice A vs.length c] 55))
  go_enter Try.func110, Try.ntmps110
  go_wp2_with (go_at_call 60; refine (nullsOf_calls _ A c vs (h.on hb.out) hl).mono ?_; rintro e w2 ⟨v, rfl, hO, hb2⟩; have hO' := Aside0.mk hO; clear hO)
  go_ret
  exact ⟨_, rfl, by rw [← nuls_sort]; exact own_lower hO'.out hb.out.size, hb.out.trans hb2⟩
end Go.Proofs.Ytngjhblbpapjeaa.H
/- Walk: the program's own valid instances. No condition. -/
namespace Go.Proofs.Ytngjhblbpapjeaa.H
open Go Go.RowKit Go.Proofs.YtngjhblbpapjeaaW.PrintWords Go.Proofs.YtngjhblbpapjeaaW.PrintLast
open Go.Proofs.Ytngjhblbpapjeaa.Reg (On on_draw)
set_option maxHeartbeats 8000000
set_option maxRecDepth 100000
set_option linter.unusedVariables false
set_option linter.unusedSimpArgs false

theorem iIsValidInstance_calls (w : World) (A0 c0 A1 c1) (rs : List Rel) (fs : List Fct) (h0 : Rels w A0 c0 rs) (h1 : Fcts w A1 c1 fs) :
    Calls Try.prog 66 #[.agg #[.slice A0 rs.length c0, .slice A1 fs.length c1]] w fun e w' => e = .returned (.bool (okInst rs fs)) ∧ On w w' := by
  have hm0 := h0.max
  have hm1 := h1.max
  have hbI := Aside0.mk (On.alloc (On.refl w) (.cells #[.slice A0 rs.length c0, .slice A1 fs.length c1] 32))
  have hLI := Aside0.mk (loc1 w #[.slice A0 rs.length c0, .slice A1 fs.length c1] 32)
  cases hr : okRels rs with
  | false =>
    have hr' := Aside0.mk hr
    clear hr
    go_enter Try.func66, Try.ntmps66
    go_wp2_with (go_at_call 107; refine (iAreValidRelations_calls _ A0 c0 rs (h0.on hbI.out)).mono ?_; rintro e w3 ⟨rfl, hb3⟩; rw [hr'.out]; have hc3 := blk_cell (Loc.on hb3 hLI.out).1)
    go_ret
    exact ⟨ret_bool (by simp [okInst, hr'.out]), hbI.out.trans hb3⟩
  | true =>
    have hr' := Aside0.mk hr
    clear hr
    by_cases h30 : (fs.length : Int) ≤ 30
    · have h30b : decide ((fs.length : Int) ≤ 30) = true := decide_eq_true h30
      have h30c : decide (fs.length ≤ 30) = true := decide_eq_true (by omega)
      have h30d : decide (30 < fs.length) = false := decide_eq_false (by omega)
      have h30e : decide (30 < (fs.length : Int)) = false := decide_eq_false (by omega)
      go_enter Try.func66, Try.ntmps66
      go_wp2_with (go_at_call 107; refine (iAreValidRelations_calls _ A0 c0 rs (h0.on hbI.out)).mono ?_; rintro e w3 ⟨rfl, hb3⟩; rw [hr'.out]; have hL3 := Aside0.mk (Loc.on hb3 hLI.out); have hc3 := blk_cell hL3.out.1; have hb3' := Aside0.mk hb3; clear hb3)
      clear hc3
      go_loopw [18] (fun v wr => ∃ k : Nat, k ≤ fs.length ∧ v = .int .i64 k ∧ Hid (factsFrom rs (prevFct fs k) (fs.drop k) = factsFrom rs none fs) ∧ On w wr ∧ Loc wr [(w.heap.size, #[.slice A0 rs.length c0, .slice A1 fs.length c1], 32)]) (fun v _ => fs.length - (intOf v).toNat)
      case atStart => exact ⟨0, Nat.zero_le _, rfl, rfl, hbI.out.trans hb3'.out, hL3.out⟩
      case round =>
        obtain ⟨k, hk, rfl, hp, hB, hL⟩ := hrel
        clear hb3' hL3
        have hc0 := blk_cell hL.1
        have hL' := Aside0.mk hL
        clear hL
        by_cases hlt : k < fs.length
        · obtain ⟨ad, A3, c3, rfl, hx0, hx1, hx2'⟩ := (h1.on hB).at k hlt
          have hfill := alloc_fill wr
          have hst := Aside0.mk ((factsFrom_step rs fs k hlt).symm.trans hp.out)
          have hbx := Aside0.mk (On.alloc (On.refl wr) (.cells #[.int .i64 fs[k].1, .slice A3 fs[k].2.length c3] 55))
          have hB2 := Aside0.mk (hB.trans hbx.out)
          have hcn := blk_cell (loc_new wr #[.int .i64 fs[k].1, .slice A3 fs[k].2.length c3] 55)
          have hcm := blk_cell (Loc.on hbx.out hL'.out).1
          clear hp
          cases hok0 : okFact rs fs[k] with
          | false =>
            have hok := Aside0.mk hok0
            clear hok0
            go_wp2
            refine Reg.region [(0,.L),(1,.L),(2,.L),(3,.C),(4,.L),(5,.L),(6,.L),(7,.L),(8,.L),(9,.L),(10,.L),(11,.L),(12,.L),(13,.L),(14,.L),(15,.L),(16,.C),(17,.L),(18,.L),(19,.L)] [] (by kernel_rfl) (by kernel_rfl) ?_
            repeat first | refine sP ?_ | refine sS ?_ | refine sA ?_ | refine sL ?_ | refine sQ ?_ | refine sO ?_
            refine callC (.bool false) Try.func108 (fun w' hS => ?_) ?_
            focus exact (iIsValidFact_calls w' _ c0 rs _ c3 fs[k] (h0.on (hB2.out.trans hS)) (hx2'.on (hbx.out.trans hS))).mono fun e w'' h => ⟨by rw [h.1, hok.out], h.2⟩
            repeat first | refine sP ?_ | refine sS ?_ | refine sA ?_ | refine sL ?_ | refine sQ ?_ | refine sO ?_
            refine Reg.nil fun w2 hS => ?_
            go_wp2
            go_ret
            exact ⟨ret_bool (by have := hst.out; unfold okNext at this; rw [hok.out] at this; simp at this; simp [okInst, this]), hB2.out.trans hS⟩
          | true =>
            have hok := Aside0.mk hok0
            have hat := okFact_at hok0
            clear hok0
            have hat1 : fs[k].1.toNat < rs.length := by omega
            have hat2 : 0 ≤ fs[k].1 := hat.1
            have hat3 : fs[k].1 < rs.length := hat.2
            obtain ⟨ad0, rfl, _, _, _⟩ := (h0.on hB2.out).at fs[k].1.toNat hat1
            clear hat
            by_cases hk0 : 0 < k
            · have hk0' : decide (0 < (k : Int)) = true := decide_eq_true (by omega)
              have hki : IntKind.i64.wrap ((k : Int) - 1) = ((k - 1 : Nat) : Int) := by rw [IntWalk.i64_in _ (by omega)]; omega
              have hk1 : k - 1 < fs.length := by omega
              obtain ⟨ad', A4, c4, e', hy0, hy1, hy2⟩ := (h1.on hB2.out).at (k - 1) hk1
              obtain rfl : ad = ad' := by simpa using e'
              have hpn : prevFct fs k = some fs[k - 1] := by simp [prevFct, show ¬ k = 0 by omega, show k - 1 < fs.length by omega]
              by_cases hc : cmpF fs[k - 1] fs[k] < 0
              · have hcb : decide (0 ≤ cmpF fs[k - 1] fs[k]) = false := decide_eq_false (by omega)
                have hpv := Aside0.mk (show okPrev (prevFct fs k) fs[k] = true by rw [hpn]; exact decide_eq_true hc)
                clear hc hpn
                go_wp2
                refine Reg.region [(0,.L),(1,.L),(2,.L),(3,.C),(4,.L),(5,.L),(6,.L),(7,.L),(8,.L),(9,.L),(10,.L),(11,.L),(12,.L),(13,.L),(14,.L),(15,.L),(16,.C),(17,.L),(18,.L),(19,.L)] [] (by kernel_rfl) (by kernel_rfl) ?_
                repeat first | refine sP ?_ | refine sS ?_ | refine sA ?_ | refine sL ?_ | refine sQ ?_ | refine sO ?_
                refine callC (.bool true) Try.func108 (fun w' hS => ?_) ?_
                focus exact (iIsValidFact_calls w' _ c0 rs _ c3 fs[k] (h0.on (hB2.out.trans hS)) (hx2'.on (hbx.out.trans hS))).mono fun e w'' h => ⟨by rw [h.1, hok.out], h.2⟩
                repeat first | refine sP ?_ | refine sS ?_ | refine sA ?_ | refine sL ?_ | refine sQ ?_ | refine sO ?_
                refine callC (.int .i64 (cmpF fs[k - 1] fs[k])) Try.func109 (fun w' hS => ?_) ?_
                focus exact iCompareFacts_calls w' A4 c4 A3 c3 fs[k - 1] fs[k] (hy2.on hS) (hx2'.on (hbx.out.trans hS))
                repeat first | refine sP ?_ | refine sS ?_ | refine sA ?_ | refine sL ?_ | refine sQ ?_ | refine sO ?_
                clear hy0 hy1 hy2 hki hcb
                refine Reg.nil fun w2 hS => ?_
                clear hcn hcm hfill
                have hc5 := blk_cell (Loc.on (hbx.out.trans hS) hL'.out).1
                have hc6 := blk_cell (blk_below (loc_new wr #[.int .i64 fs[k].1, .slice A3 fs[k].2.length c3] 55) hS)
                obtain ⟨ad1, e9, _, _, hxs1⟩ := (h0.on (hB2.out.trans hS)).at fs[k].1.toNat hat1
                obtain rfl : ad0 = ad1 := by simpa using e9
                have hsr : rs[fs[k].1.toNat].2.2 = srcOf rs fs[k].1 := by simp [srcOf, hat1]
                rw [hsr] at hxs1
                clear hsr e9
                have hB3 := Aside0.mk (hB2.out.trans hS)
                have hL3 := Aside0.mk (Loc.on (hbx.out.trans hS) hL'.out)
                have hx3 := Aside0.mk (hx2'.on (hbx.out.trans hS))
                clear hS
                cases hs : srcOf rs fs[k].1 with
                | false =>
                  rw [hs] at hxs1
                  have hs' := Aside0.mk hs
                  clear hs
                  go_wp2
                  go_roundw
                  case rel => exact ⟨k + 1, by omega, by go_num, (by have := hst.out; unfold okNext at this; rw [hok.out, hpv.out, hs'.out] at this; simpa using this : _ = _), hB3.out, hL3.out⟩
                  case measure => simp [intOf]; omega
                | true =>
                  rw [hs] at hxs1
                  have hs' := Aside0.mk hs
                  clear hs
                  have hnn := Aside0.mk (nuls_ok fs[k].2)
                  by_cases hz : (nuls fs[k].2).length = 0
                  · have hzb : decide (0 < ((nuls fs[k].2).length : Int)) = false := decide_eq_false (by omega)
                    have hzc : decide (0 < (nuls fs[k].2).length) = false := decide_eq_false (by omega)
                    have hz' := Aside0.mk hz
                    clear hz
                    go_wp2_with (go_at_call 110; refine (iNullsOfFact_calls _ A3 c3 fs[k].1 fs[k].2 hx3.out (Nat.le_trans (okFact_len hok.out) (by omega))).mono ?_; rintro e w4 ⟨v4, rfl, hO4, hb4⟩; obtain ⟨A5, c5, rfl⟩ := own_slice hO4; clear hO4)
                    exact ⟨⟨k + 1, by omega, by go_num, (by have := hst.out; unfold okNext at this; rw [hok.out, hpv.out, hs'.out, hz'.out] at this; simpa using this : _ = _), hB3.out.trans hb4, Loc.on hb4 hL3.out⟩, by simp [intOf]; omega⟩
                  · have hzb : decide (0 < ((nuls fs[k].2).length : Int)) = true := decide_eq_true (by omega)
                    have hzc : decide (0 < (nuls fs[k].2).length) = true := decide_eq_true (by omega)
                    have hz' := Aside0.mk (decide_eq_false hz)
                    clear hz
                    go_wp2_with (go_at_call 110; refine (iNullsOfFact_calls _ A3 c3 fs[k].1 fs[k].2 hx3.out (Nat.le_trans (okFact_len hok.out) (by omega))).mono ?_; rintro e w4 ⟨v4, rfl, hO4, hb4⟩; obtain ⟨A5, c5, rfl⟩ := own_slice hO4; clear hO4)
                    go_ret
                    exact ⟨ret_bool (by have := hst.out; unfold okNext at this; rw [hok.out, hpv.out, hs'.out, hz'.out] at this; simp at this; simp [okInst, this]), hB3.out.trans hb4⟩
              · have hcb : decide (0 ≤ cmpF fs[k - 1] fs[k]) = true := decide_eq_true (by omega)
                have hpv := Aside0.mk (show okPrev (prevFct fs k) fs[k] = false by rw [hpn]; exact decide_eq_false hc)
                clear hc hpn
                go_wp2
                refine Reg.region [(0,.L),(1,.L),(2,.L),(3,.C),(4,.L),(5,.L),(6,.L),(7,.L),(8,.L),(9,.L),(10,.L),(11,.L),(12,.L),(13,.L),(14,.L),(15,.L),(16,.C),(17,.L),(18,.L),(19,.L)] [] (by kernel_rfl) (by kernel_rfl) ?_
                repeat first | refine sP ?_ | refine sS ?_ | refine sA ?_ | refine sL ?_ | refine sQ ?_ | refine sO ?_
                refine callC (.bool true) Try.func108 (fun w' hS => ?_) ?_
                focus exact (iIsValidFact_calls w' _ c0 rs _ c3 fs[k] (h0.on (hB2.out.trans hS)) (hx2'.on (hbx.out.trans hS))).mono fun e w'' h => ⟨by rw [h.1, hok.out], h.2⟩
                repeat first | refine sP ?_ | refine sS ?_ | refine sA ?_ | refine sL ?_ | refine sQ ?_ | refine sO ?_
                refine callC (.int .i64 (cmpF fs[k - 1] fs[k])) Try.func109 (fun w' hS => ?_) ?_
                focus exact iCompareFacts_calls w' A4 c4 A3 c3 fs[k - 1] fs[k] (hy2.on hS) (hx2'.on (hbx.out.trans hS))
                repeat first | refine sP ?_ | refine sS ?_ | refine sA ?_ | refine sL ?_ | refine sQ ?_ | refine sO ?_
                refine Reg.nil fun w2 hS => ?_
                go_wp2
                go_ret
                exact ⟨ret_bool (by have := hst.out; unfold okNext at this; rw [hok.out, hpv.out] at this; simp at this; simp [okInst, this]), hB2.out.trans hS⟩
            · have hk0' : decide (0 < (k : Int)) = false := decide_eq_false (by omega)
              have hpv := Aside0.mk (show okPrev (prevFct fs k) fs[k] = true by simp [okPrev, prevFct, show k = 0 by omega])
              go_wp2
              refine Reg.region [(0,.L),(1,.L),(2,.L),(3,.C),(4,.L),(5,.L),(6,.L),(7,.L),(8,.L),(9,.L),(10,.L),(11,.L),(12,.L),(13,.L),(14,.L),(15,.L),(16,.C),(17,.L),(18,.L),(19,.L)] [] (by kernel_rfl) (by kernel_rfl) ?_
              repeat first | refine sP ?_ | refine sS ?_ | refine sA ?_ | refine sL ?_ | refine sQ ?_ | refine sO ?_
              refine callC (.bool true) Try.func108 (fun w' hS => ?_) ?_
              focus exact (iIsValidFact_calls w' _ c0 rs _ c3 fs[k] (h0.on (hB2.out.trans hS)) (hx2'.on (hbx.out.trans hS))).mono fun e w'' h => ⟨by rw [h.1, hok.out], h.2⟩
              repeat first | refine sP ?_ | refine sS ?_ | refine sA ?_ | refine sL ?_ | refine sQ ?_ | refine sO ?_
              refine Reg.nil fun w2 hS => ?_
              clear hcn hcm hfill
              have hc5 := blk_cell (Loc.on (hbx.out.trans hS) hL'.out).1
              have hc6 := blk_cell (blk_below (loc_new wr #[.int .i64 fs[k].1, .slice A3 fs[k].2.length c3] 55) hS)
              obtain ⟨ad1, e9, _, _, hxs1⟩ := (h0.on (hB2.out.trans hS)).at fs[k].1.toNat hat1
              obtain rfl : ad0 = ad1 := by simpa using e9
              have hsr : rs[fs[k].1.toNat].2.2 = srcOf rs fs[k].1 := by simp [srcOf, hat1]
              rw [hsr] at hxs1
              clear hsr e9
              have hB3 := Aside0.mk (hB2.out.trans hS)
              have hL3 := Aside0.mk (Loc.on (hbx.out.trans hS) hL'.out)
              have hx3 := Aside0.mk (hx2'.on (hbx.out.trans hS))
              clear hS
              cases hs : srcOf rs fs[k].1 with
              | false =>
                rw [hs] at hxs1
                have hs' := Aside0.mk hs
                clear hs
                go_wp2
                go_roundw
                case rel => exact ⟨k + 1, by omega, by go_num, (by have := hst.out; unfold okNext at this; rw [hok.out, hpv.out, hs'.out] at this; simpa using this : _ = _), hB3.out, hL3.out⟩
                case measure => simp [intOf]; omega
              | true =>
                rw [hs] at hxs1
                have hs' := Aside0.mk hs
                clear hs
                have hnn := Aside0.mk (nuls_ok fs[k].2)
                by_cases hz : (nuls fs[k].2).length = 0
                · have hzb : decide (0 < ((nuls fs[k].2).length : Int)) = false := decide_eq_false (by omega)
                  have hzc : decide (0 < (nuls fs[k].2).length) = false := decide_eq_false (by omega)
                  have hz' := Aside0.mk hz
                  clear hz
                  go_wp2_with (go_at_call 110; refine (iNullsOfFact_calls _ A3 c3 fs[k].1 fs[k].2 hx3.out (Nat.le_trans (okFact_len hok.out) (by omega))).mono ?_; rintro e w4 ⟨v4, rfl, hO4, hb4⟩; obtain ⟨A5, c5, rfl⟩ := own_slice hO4; clear hO4)
                  exact ⟨⟨k + 1, by omega, by go_num, (by have := hst.out; unfold okNext at this; rw [hok.out, hpv.out, hs'.out, hz'.out] at this; simpa using this : _ = _), hB3.out.trans hb4, Loc.on hb4 hL3.out⟩, by simp [intOf]; omega⟩
                · have hzb : decide (0 < ((nuls fs[k].2).length : Int)) = true := decide_eq_true (by omega)
                  have hzc : decide (0 < (nuls fs[k].2).length) = true := decide_eq_true (by omega)
                  have hz' := Aside0.mk (decide_eq_false hz)
                  clear hz
                  go_wp2_with (go_at_call 110; refine (iNullsOfFact_calls _ A3 c3 fs[k].1 fs[k].2 hx3.out (Nat.le_trans (okFact_len hok.out) (by omega))).mono ?_; rintro e w4 ⟨v4, rfl, hO4, hb4⟩; obtain ⟨A5, c5, rfl⟩ := own_slice hO4; clear hO4)
                  go_ret
                  exact ⟨ret_bool (by have := hst.out; unfold okNext at this; rw [hok.out, hpv.out, hs'.out, hz'.out] at this; simp at this; simp [okInst, this]), hB3.out.trans hb4⟩
        · have hfl : factsFrom rs none fs = true := by rw [← hp.out, List.drop_of_length_le (by omega)]; cases prevFct fs k <;> rfl
          have hfl' := Aside0.mk hfl
          clear hp hfl
          go_wp2
          go_ret
          exact ⟨ret_bool (by simp [okInst, hfl'.out, hr'.out]; omega), hB⟩
    · have h30b : decide ((fs.length : Int) ≤ 30) = false := decide_eq_false h30
      have h30c : decide (fs.length ≤ 30) = false := decide_eq_false (by omega)
      have h30d : decide (30 < fs.length) = true := decide_eq_true (by omega)
      have h30e : decide (30 < (fs.length : Int)) = true := decide_eq_true (by omega)
      go_enter Try.func66, Try.ntmps66
      go_wp2_with (go_at_call 107; refine (iAreValidRelations_calls _ A0 c0 rs (h0.on hbI.out)).mono ?_; rintro e w3 ⟨rfl, hb3⟩; rw [hr'.out]; have hc3 := blk_cell (Loc.on hb3 hLI.out).1)
      go_ret
      exact ⟨ret_bool (by simp [okInst]; intros; omega), hbI.out.trans hb3⟩
end Go.Proofs.Ytngjhblbpapjeaa.H
/- Walks: copies, and what the program holds to be in an instance. No condition. -/
namespace Go.Proofs.Ytngjhblbpapjeaa.H
open Go Go.RowKit Go.Proofs.YtngjhblbpapjeaaW.PrintWords Go.Proofs.YtngjhblbpapjeaaW.PrintLast
open Go.Proofs.Ytngjhblbpapjeaa.Reg (On on_draw)
set_option maxHeartbeats 1000000
set_option maxRecDepth 100000
set_option linter.unusedVariables false
set_option linter.unusedSimpArgs false

end Go.Proofs.Ytngjhblbpapjeaa.H
/- Walk: impl.IsSubset. No condition. -/
namespace Go.Proofs.Ytngjhblbpapjeaa.H
open Go Go.RowKit Go.Proofs.YtngjhblbpapjeaaW.PrintWords Go.Proofs.YtngjhblbpapjeaaW.PrintLast
open Go.Proofs.Ytngjhblbpapjeaa.Reg (On on_draw)
set_option maxHeartbeats 4000000
set_option maxRecDepth 100000
set_option linter.unusedVariables false
set_option linter.unusedSimpArgs false

end Go.Proofs.Ytngjhblbpapjeaa.H
/- Headers stored, cut, cleared. No condition. -/
namespace Go.Proofs.Ytngjhblbpapjeaa.H
open Go Go.RowKit Go.Proofs.YtngjhblbpapjeaaW.PrintWords Go.Proofs.YtngjhblbpapjeaaW.PrintLast
open Go.Proofs.Ytngjhblbpapjeaa.Reg (On on_draw)
set_option maxHeartbeats 1000000
set_option maxRecDepth 100000
set_option linter.unusedVariables false
set_option linter.unusedSimpArgs false

theorem OH.at {w : World} {lo g n c : Nat} {L : List Hdr} (h : OH w lo (.slice (some ⟨g, 0, none⟩) n c) L) (i : Nat) (hi : i < L.length) : w.cell? ⟨g, i * 2, none⟩ = some (.int .i64 L[i].1) ∧ w.cell? ⟨g, i * 2 + 1, none⟩ = some (hdV L[i]) := by
  have hn := (OH.rh h).1
  subst hn
  have h0 := h.cellAt (i * 2) (by omega)
  have h1 := h.cellAt (i * 2 + 1) (by omega)
  have e0 := flat_get (enc := encH) (sz := 2) (fun _ => rfl) L i 0 hi (by omega)
  have e1 := flat_get (enc := encH) (sz := 2) (fun _ => rfl) L i 1 hi (by omega)
  rw [Nat.add_zero] at e0
  rw [e0] at h0
  rw [e1] at h1
  exact ⟨h0, h1⟩
section
variable {ops : Array Oper} {rest : List Oper} {o : Oper} {a : Act} {Q : Exit → Act → World → Prop} {W : World}
end
end Go.Proofs.Ytngjhblbpapjeaa.H
/- Walks: the program takes facts out of an instance. No condition. -/
namespace Go.Proofs.Ytngjhblbpapjeaa.H
open Go Go.RowKit Go.Proofs.YtngjhblbpapjeaaW.PrintWords Go.Proofs.YtngjhblbpapjeaaW.PrintLast
open Go.Proofs.Ytngjhblbpapjeaa.Reg (On on_draw)
set_option maxHeartbeats 4000000
set_option maxRecDepth 100000
set_option linter.unusedVariables false
set_option linter.unusedSimpArgs false

/-- The headers that are kept of the first j. -/
def kept (p : Fct → Bool) (hs : List Hdr) (fs : List Fct) (j : Nat) : List Hdr := (((hs.zip fs).take j).filter fun q => !p q.2).map Prod.fst
theorem kept_succ (p : Fct → Bool) (hs : List Hdr) (fs : List Fct) (j : Nat) (hl : hs.length = fs.length) (h : j < fs.length) : kept p hs fs (j + 1) = kept p hs fs j ++ (if p fs[j] then [] else [hs[j]'(by omega)]) := by
  unfold kept
  rw [List.take_succ_eq_append_getElem (by rw [List.length_zip]; omega), List.filter_append, List.map_append, List.getElem_zip, List.filter_cons]
  cases p fs[j] <;> simp
theorem kept_front (p : Fct → Bool) (hs : List Hdr) (fs : List Fct) (hl : hs.length = fs.length) : ∀ j, j ≤ fs.length → (∀ i, (h : i < j) → (hi : i < fs.length) → p fs[i] = false) → kept p hs fs j = hs.take j
  | 0, _, _ => by simp [kept]
  | j + 1, hj, h => by
    rw [kept_succ p hs fs j hl (by omega), kept_front p hs fs hl j (by omega) (fun i hi hf => h i (by omega) hf), h j (by omega) (by omega), List.take_succ_eq_append_getElem (by omega)]
    rfl
/-- How the row stands when j facts are looked at, of which i are kept. -/
structure KI (p : Fct → Bool) (hs : List Hdr) (fs : List Fct) (j i : Nat) (L : List Hdr) : Prop where
  len : L.length = fs.length
  lt : i < j
  is : i = (kept p hs fs j).length
  row : ∃ M, L = kept p hs fs j ++ M ++ hs.drop j
theorem KI.start (p : Fct → Bool) (hs : List Hdr) (fs : List Fct) (hl : hs.length = fs.length) (k : Nat) (hk : k < fs.length) (ht : p fs[k] = true) (hall : ∀ j, (hj : j < k) → p (fs[j]'(by omega)) = false) : KI p hs fs (k + 1) k hs := by
  have e : kept p hs fs (k + 1) = hs.take k := by
    rw [kept_succ p hs fs k hl hk, ht, if_pos rfl, List.append_nil, kept_front p hs fs hl k (by omega) (fun i hi _ => hall i hi)]
  refine ⟨hl, Nat.lt_succ_self _, by rw [e, List.length_take]; omega, ⟨[hs[k]], ?_⟩⟩
  rw [e, ← List.take_succ_eq_append_getElem (by omega), List.take_append_drop]
theorem KI.mid {p : Fct → Bool} {hs : List Hdr} {fs : List Fct} {j i : Nat} {L : List Hdr} (h : KI p hs fs j i L) (hl : hs.length = fs.length) (hj : j < fs.length) : ∃ m M, L = kept p hs fs j ++ (m :: M) ++ hs.drop j ∧ i + (M.length + 1) = j := by
  obtain ⟨M, e⟩ := h.row
  have h1 := congrArg List.length e
  rw [h.len, List.length_append, List.length_append, List.length_drop, ← h.is] at h1
  cases M with
  | nil => have := h.lt; simp at h1; omega
  | cons m M => exact ⟨m, M, e, by simp at h1; omega⟩
theorem KI.skip {p : Fct → Bool} {hs : List Hdr} {fs : List Fct} {j i : Nat} {L : List Hdr} (h : KI p hs fs j i L) (hl : hs.length = fs.length) (hj : j < fs.length) (hp : p fs[j] = true) : KI p hs fs (j + 1) i L := by
  obtain ⟨M, e⟩ := h.row
  have ek : kept p hs fs (j + 1) = kept p hs fs j := by rw [kept_succ p hs fs j hl hj, hp, if_pos rfl, List.append_nil]
  refine ⟨h.len, Nat.lt_succ_of_lt h.lt, by rw [ek]; exact h.is, ⟨M ++ [hs[j]'(by omega)], ?_⟩⟩
  rw [ek, e, List.drop_eq_getElem_cons (by omega : j < hs.length)]
  simp
theorem KI.keep {p : Fct → Bool} {hs : List Hdr} {fs : List Fct} {j i : Nat} {L : List Hdr} (h : KI p hs fs j i L) (hl : hs.length = fs.length) (hj : j < fs.length) (hp : p fs[j] = false) : KI p hs fs (j + 1) (i + 1) (L.set i (hs[j]'(by omega))) := by
  obtain ⟨m, M, e, hM⟩ := h.mid hl hj
  have ek : kept p hs fs (j + 1) = kept p hs fs j ++ [hs[j]'(by omega)] := by rw [kept_succ p hs fs j hl hj, hp, if_neg (by simp)]
  refine ⟨by rw [List.length_set]; exact h.len, Nat.succ_lt_succ h.lt, by rw [ek, List.length_append, ← h.is]; rfl, ⟨M ++ [hs[j]'(by omega)], ?_⟩⟩
  rw [ek, e, List.append_assoc, List.cons_append, set_mid _ _ _ _ _ h.is.symm, List.drop_eq_getElem_cons (by omega : j < hs.length)]
  simp
theorem KI.done {p : Fct → Bool} {hs : List Hdr} {fs : List Fct} {i : Nat} {L : List Hdr} (h : KI p hs fs fs.length i L) : L.take i = kept p hs fs fs.length := by
  obtain ⟨M, e⟩ := h.row
  rw [e, List.append_assoc, h.is, List.take_left]
end Go.Proofs.Ytngjhblbpapjeaa.H
/- Walks: the library's CompactFunc at facts. No condition. -/
namespace Go.Proofs.Ytngjhblbpapjeaa.H
open Go Go.RowKit Go.Proofs.YtngjhblbpapjeaaW.PrintWords Go.Proofs.YtngjhblbpapjeaaW.PrintLast
open Go.Proofs.Ytngjhblbpapjeaa.Reg (On on_draw)
set_option maxHeartbeats 4000000
set_option maxRecDepth 100000
set_option linter.unusedVariables false
set_option linter.unusedSimpArgs false

section
variable {P : Program} {ops : Array Oper} {Q : Exit → Act → World → Prop} {i : Nat} {tail : List Nat} {l : List (Nat × Reg.K)} {a a' : Act} {W : World} {o : Oper} {N : Tmp}
end
/-- The headers that are keptB of the first j. -/
def keptB (p : Bool → Bool) (hs : List Hdr) (fs : List Bool) (j : Nat) : List Hdr := (((hs.zip fs).take j).filter fun q => !p q.2).map Prod.fst
theorem keptB_succ (p : Bool → Bool) (hs : List Hdr) (fs : List Bool) (j : Nat) (hl : hs.length = fs.length) (h : j < fs.length) : keptB p hs fs (j + 1) = keptB p hs fs j ++ (if p fs[j] then [] else [hs[j]'(by omega)]) := by
  unfold keptB
  rw [List.take_succ_eq_append_getElem (by rw [List.length_zip]; omega), List.filter_append, List.map_append, List.getElem_zip, List.filter_cons]
  cases p fs[j] <;> simp
theorem keptB_front (p : Bool → Bool) (hs : List Hdr) (fs : List Bool) (hl : hs.length = fs.length) : ∀ j, j ≤ fs.length → (∀ i, (h : i < j) → (hi : i < fs.length) → p fs[i] = false) → keptB p hs fs j = hs.take j
  | 0, _, _ => by simp [keptB]
  | j + 1, hj, h => by
    rw [keptB_succ p hs fs j hl (by omega), keptB_front p hs fs hl j (by omega) (fun i hi hf => h i (by omega) hf), h j (by omega) (by omega), List.take_succ_eq_append_getElem (by omega)]
    rfl
/-- How the row stands when j facts are looked at, of which i are keptB. -/
structure KB (p : Bool → Bool) (hs : List Hdr) (fs : List Bool) (j i : Nat) (L : List Hdr) : Prop where
  len : L.length = fs.length
  lt : i < j
  is : i = (keptB p hs fs j).length
  row : ∃ M, L = keptB p hs fs j ++ M ++ hs.drop j
theorem KB.start (p : Bool → Bool) (hs : List Hdr) (fs : List Bool) (hl : hs.length = fs.length) (k : Nat) (hk : k < fs.length) (ht : p fs[k] = true) (hall : ∀ j, (hj : j < k) → p (fs[j]'(by omega)) = false) : KB p hs fs (k + 1) k hs := by
  have e : keptB p hs fs (k + 1) = hs.take k := by
    rw [keptB_succ p hs fs k hl hk, ht, if_pos rfl, List.append_nil, keptB_front p hs fs hl k (by omega) (fun i hi _ => hall i hi)]
  refine ⟨hl, Nat.lt_succ_self _, by rw [e, List.length_take]; omega, ⟨[hs[k]], ?_⟩⟩
  rw [e, ← List.take_succ_eq_append_getElem (by omega), List.take_append_drop]
theorem KB.mid {p : Bool → Bool} {hs : List Hdr} {fs : List Bool} {j i : Nat} {L : List Hdr} (h : KB p hs fs j i L) (hl : hs.length = fs.length) (hj : j < fs.length) : ∃ m M, L = keptB p hs fs j ++ (m :: M) ++ hs.drop j ∧ i + (M.length + 1) = j := by
  obtain ⟨M, e⟩ := h.row
  have h1 := congrArg List.length e
  rw [h.len, List.length_append, List.length_append, List.length_drop, ← h.is] at h1
  cases M with
  | nil => have := h.lt; simp at h1; omega
  | cons m M => exact ⟨m, M, e, by simp at h1; omega⟩
theorem KB.skip {p : Bool → Bool} {hs : List Hdr} {fs : List Bool} {j i : Nat} {L : List Hdr} (h : KB p hs fs j i L) (hl : hs.length = fs.length) (hj : j < fs.length) (hp : p fs[j] = true) : KB p hs fs (j + 1) i L := by
  obtain ⟨M, e⟩ := h.row
  have ek : keptB p hs fs (j + 1) = keptB p hs fs j := by rw [keptB_succ p hs fs j hl hj, hp, if_pos rfl, List.append_nil]
  refine ⟨h.len, Nat.lt_succ_of_lt h.lt, by rw [ek]; exact h.is, ⟨M ++ [hs[j]'(by omega)], ?_⟩⟩
  rw [ek, e, List.drop_eq_getElem_cons (by omega : j < hs.length)]
  simp
theorem KB.keep {p : Bool → Bool} {hs : List Hdr} {fs : List Bool} {j i : Nat} {L : List Hdr} (h : KB p hs fs j i L) (hl : hs.length = fs.length) (hj : j < fs.length) (hp : p fs[j] = false) : KB p hs fs (j + 1) (i + 1) (L.set i (hs[j]'(by omega))) := by
  obtain ⟨m, M, e, hM⟩ := h.mid hl hj
  have ek : keptB p hs fs (j + 1) = keptB p hs fs j ++ [hs[j]'(by omega)] := by rw [keptB_succ p hs fs j hl hj, hp, if_neg (by simp)]
  refine ⟨by rw [List.length_set]; exact h.len, Nat.succ_lt_succ h.lt, by rw [ek, List.length_append, ← h.is]; rfl, ⟨M ++ [hs[j]'(by omega)], ?_⟩⟩
  rw [ek, e, List.append_assoc, List.cons_append, set_mid _ _ _ _ _ h.is.symm, List.drop_eq_getElem_cons (by omega : j < hs.length)]
  simp
theorem KB.done {p : Bool → Bool} {hs : List Hdr} {fs : List Bool} {i : Nat} {L : List Hdr} (h : KB p hs fs fs.length i L) : L.take i = keptB p hs fs fs.length := by
  obtain ⟨M, e⟩ := h.row
  rw [e, List.append_assoc, h.is, List.take_left]
end Go.Proofs.Ytngjhblbpapjeaa.H
/- The rule for regions that draw once more, over worlds of which it is also told that the count of draws grows. No condition. -/
namespace Go.Proofs.Ytngjhblbpapjeaa.RegD
open Go Go.RowKit Go.Proofs.Ytngjhblbpapjeaa.Reg
variable {P : Program} {ops : Array Oper} {Q : Exit → Act → World → Prop} {md : Region.Mode}
/-- The worlds that go on from W, their count of draws too. -/
structure On (W w : World) : Prop where
  low : Below W.heap.size W w
  drawn : W.drawn ≤ w.drawn
theorem On.refl (W : World) : On W W := ⟨Below.refl _ _, Nat.le_refl _⟩
theorem On.trans {a b c : World} (h : On a b) (k : On b c) : On a c := ⟨Reg.On.trans h.low k.low, Nat.le_trans h.drawn k.drawn⟩
theorem On.eq {W w : World} (h : On W w) : ∀ p, (W.cell? p).isSome = true → w.cell? p = W.cell? p := Reg.On.eq h.low
theorem On.alloc {W w : World} (h : On W w) (o : Obj) : On W (w.alloc o) := ⟨Reg.On.alloc h.low o, h.drawn⟩
theorem on_draw (W : World) : On W { W with drawn := W.drawn + 1 } := ⟨Reg.on_draw W, Nat.le_succ _⟩
def wpOrd (P : Program) (ops : Array Oper) (Q : Exit → Act → World → Prop) (tail : List Nat) : List (Nat × K) → Act → World → Prop
  | [], a, W => ∀ w, On W w → wpList P ops Q (tail.filterMap fun i => ops[i]?) a w
  | (i, k) :: l, a, W =>
    match ops[i]? with
    | none => False
    | some o =>
      if Region.wanted o (yielded ops a.tmps) then
        (match k with
          | .L => ∃ v, (∀ w, On W w → (execOp a.eval o).run P w = .ok (.value v) w) ∧ wpOrd P ops Q tail l (a.put o.dst v) W
          | .C => ∃ v, (∀ w, On W w → nAt P o a w fun u w' => u = v ∧ On W w') ∧ wpOrd P ops Q tail l (a.put o.dst v) W
          | .N => ∀ w, On W w → wpList P ops (Exit.then (fun a' w' => On W w' ∧ wpOrd P ops Q tail l a' w') Q) [o] a w
          | .P => ∃ v, (∀ w, (execOp a.eval o).run P w = .ok (.value v) w) ∧ wpOrd P ops Q tail l (a.put o.dst v) W)
      else wpOrd P ops Q tail l (a.put o.dst undef) W
theorem wpOp_of_one {i : Nat} {o : Oper} {T : Act → World → Prop} {a : Act} {w : World} (hi : ops[i]? = some o) (h : wpList P ops (Exit.then T Q) [o] a w) (hl : LetsOut (Exit.then T Q) → LetsOut Q := by exact id) : wpOp P ops Q i T a w := by
  simp only [wpList] at h
  unfold wpOp
  simp only [hi]
  split
  · rename_i hw
    rw [if_pos hw] at h
    rcases h with h | ⟨h1, h2⟩
    · refine .inl ?_
      unfold Oper.wp at *
      generalize (execOp a.eval o).run P w = r at *
      cases r with
      | ok n w' =>
        cases n <;> simp only [Oper.upon] at h ⊢ <;>
          first
            | exact h
            | exact h.mono (fun e w'' he => by cases e <;> first | exact he | exact hl he)
      | halt x w' => cases x <;> simp only [Oper.upon] at h ⊢ <;> exact h
    · exact .inr ⟨h1, hl h2⟩
  · rename_i hw
    rw [if_neg hw] at h
    exact h
theorem wpT_of_tail {cl : Nat → Bool} : ∀ (l : List Nat) (listed : Array Bool) (a : Act) (S : World → Prop), (∀ i ∈ l, cl i = true) → chkTail md ops l listed = true → (∀ w, S w → wpList P ops Q (l.filterMap fun i => ops[i]?) a w) → wpT P md ops Q cl l.length listed a S
  | [], listed, a, S, _, hc, h => ⟨by simpa [chkTail] using hc, h⟩
  | i :: l, listed, a, S, hcl, hc, h => by
    simp only [chkTail, Bool.and_eq_true, beq_iff_eq] at hc
    obtain ⟨⟨hr, hbusy⟩, hl⟩ := hc
    cases hi : ops[i]? with
    | none => simp [hi] at hbusy
    | some o =>
      rw [List.length_cons]
      refine ⟨fun h0 => (by rw [hr] at h0; cases h0), fun j hj => ?_⟩
      rw [hr] at hj
      obtain rfl := List.mem_singleton.1 hj
      have ih := fun a S h => wpT_of_tail l (listed.setIfInBounds j true) a S (fun k hk => hcl k (List.mem_cons_of_mem _ hk)) hl h
      have hlist : ∀ w, S w → wpOp P ops Q j (wpList P ops Q (l.filterMap fun i => ops[i]?)) a w := fun w hS => by
        have h1 := h w hS
        simp only [List.filterMap_cons, hi] at h1
        unfold wpOp
        simp only [hi]
        unfold wpList at h1
        exact h1
      unfold Reg.stepT
      simp only [hi]
      split
      · exact .inr (.inr ⟨.inr (hcl j List.mem_cons_self), fun w hS => wpOp_mono (fun a' w' hh => ⟨fun w => w = w', rfl, fun h0 => (by rw [hcl j List.mem_cons_self] at h0; cases h0), ih a' _ (fun w e => by subst e; exact hh)⟩) (hlist w hS)⟩)
      · rename_i hw
        refine ih _ _ fun w hS => ?_
        have h1 := hlist w hS
        unfold wpOp at h1
        simp only [hi] at h1
        rw [if_neg hw] at h1
        exact h1
theorem wpT_of_ord (hs : Region.noSelect ops = true) (hQ : Plain Q) (tail : List Nat) : ∀ (l : List (Nat × K)) (listed : Array Bool) (a : Act) (W : World), closed md ops listed → chk md ops tail l listed = true → wpOrd P ops Q tail l a W → wpT P md ops Q (fun j => tail.contains j) (l.length + tail.length) listed a (On W)
  | [], listed, a, W, _, hc, h => by
    rw [List.length_nil, Nat.zero_add]
    exact wpT_of_tail tail listed a _ (fun i hi => by simpa using hi) hc h
  | (i, k) :: l, listed, a, W, hclosed, hc, h => by
    simp only [chk, Bool.and_eq_true] at hc
    obtain ⟨hk, hl⟩ := hc
    simp only [wpOrd] at h
    cases hi : ops[i]? with
    | none => simp only [hi] at h
    | some o =>
      simp only [hi] at h
      have hri : i ∈ Region.ready md ops listed := by
        cases k <;> simp only [Bool.and_eq_true, beq_iff_eq] at hk
        · simpa using hk.1.1
        · simpa using hk.1.1
        · rw [hk.1.1]; exact List.mem_singleton.2 rfl
        · simpa using hk.1
      have ih := fun a W h => wpT_of_ord hs hQ tail l (listed.setIfInBounds i true) a W (hclosed.set hri) hl h
      have sel := Region.noSelect_spec hs
      have hlen : (((i, k) :: l).length + tail.length) = (l.length + tail.length) + 1 := by rw [List.length_cons]; omega
      rw [hlen]
      have hreach : k ≠ .N → k ≠ .P → ∀ j, (tail.contains j) = true → reach md ops j i = true := by
        intro hkn hkp j hj
        have hj' : j ∈ tail := by simpa using hj
        cases k <;> simp only [Bool.and_eq_true, List.all_eq_true] at hk
        · exact hk.2 j hj'
        · exact hk.2 j hj'
        · exact absurd rfl hkn
        · exact absurd rfl hkp
      by_cases hw : Region.wanted o (yielded ops a.tmps) = true
      · rw [if_pos hw] at h
        cases k with
        | L =>
          simp only [Bool.and_eq_true] at hk
          obtain ⟨v, h1, h2⟩ := h
          exact wpT_first (c := false) hQ hi sel (hreach (by simp) (by simp)) _ listed a _ hclosed (fun j oj hj hne hun hno => freeC_spec hi hk.1.2 j oj hj hne hun hno) hri (.inl ⟨hw, fun w hS => by simpa using h1 w hS⟩) (ih _ _ h2)
        | C =>
          simp only [Bool.and_eq_true] at hk
          obtain ⟨v, h1, h2⟩ := h
          exact wpT_first (c := true) hQ hi sel (hreach (by simp) (by simp)) _ listed a _ hclosed (fun j oj hj hne hun hno => freeC_spec hi hk.1.2 j oj hj hne hun hno) hri (.inl ⟨hw, fun w hS => by simpa using h1 w hS⟩) (ih _ _ h2)
        | N =>
          simp only [Bool.and_eq_true, beq_iff_eq, busy, hi, Bool.not_eq_true'] at hk
          refine ⟨fun h0 => (by rw [hk.1.1] at h0; cases h0), fun j hj => ?_⟩
          rw [hk.1.1] at hj
          obtain rfl := List.mem_singleton.1 hj
          unfold Reg.stepT
          simp only [hi]
          rw [if_pos hw]
          exact .inr (.inr ⟨.inl hk.1.2, fun w hS => wpOp_mono (fun a' w' ⟨hon, hh⟩ => ⟨On w', On.refl _, fun _ w'' hw'' => hon.trans hw'', ih _ _ hh⟩) (wpOp_of_one hi (h w hS))⟩)
        | P =>
          simp only [Bool.and_eq_true] at hk
          obtain ⟨v, h1, h2⟩ := h
          exact wpT_firstP hQ hi sel _ listed a _ hclosed (fun j oj hj hne hun hno => (freeC_spec hi hk.2 j oj hj hne hun hno).1) hri (.inl ⟨hw, fun w _ => by simpa using h1 w⟩) (ih _ _ h2)
      · rw [if_neg hw] at h
        have hw' : Region.wanted o (yielded ops a.tmps) = false := by simpa using hw
        cases k with
        | P =>
          simp only [Bool.and_eq_true] at hk
          exact wpT_firstP hQ hi sel _ listed a _ hclosed (fun j oj hj hne hun hno => (freeC_spec hi hk.2 j oj hj hne hun hno).1) hri (.inr ⟨hw', rfl⟩) (ih _ _ h)
        | L =>
          simp only [Bool.and_eq_true] at hk
          exact wpT_first (c := false) hQ hi sel (hreach (by simp) (by simp)) _ listed a _ hclosed (fun j oj hj hne hun hno => ⟨(freeC_spec hi hk.1.2 j oj hj hne hun hno).1, fun h => by cases h⟩) hri (.inr ⟨hw', rfl⟩) (ih _ _ h)
        | C =>
          simp only [Bool.and_eq_true] at hk
          exact wpT_first (c := false) hQ hi sel (hreach (by simp) (by simp)) _ listed a _ hclosed (fun j oj hj hne hun hno => ⟨(freeC_spec hi hk.1.2 j oj hj hne hun hno).1, fun h => by cases h⟩) hri (.inr ⟨hw', rfl⟩) (ih _ _ h)
        | N =>
          simp only [Bool.and_eq_true, beq_iff_eq, busy, hi, Bool.not_eq_true'] at hk
          refine ⟨fun h0 => (by rw [hk.1.1] at h0; cases h0), fun j hj => ?_⟩
          rw [hk.1.1] at hj
          obtain rfl := List.mem_singleton.1 hj
          unfold Reg.stepT
          simp only [hi]
          rw [if_neg hw]
          exact ih _ _ h
/-- The same, shut (so that nobody lays it open unasked). -/
structure Ord (P : Program) (ops : Array Oper) (Q : Exit → Act → World → Prop) (tail : List Nat) (l : List (Nat × K)) (a : Act) (W : World) : Prop where mk :: (out : wpOrd P ops Q tail l a W)
/-- The rule: a region that draws its order, its operations taken in the order l, then the tail. -/
theorem region {id : Nat} {a : Act} {w : World} (l : List (Nat × K)) (tail : List Nat) (hm : P.follows .mixedOrders = true) (hc : (Region.noSelect ops && (l.length + tail.length == ops.size) && chk .any ops tail l (Array.replicate ops.size false)) = true)
    (h : Ord P ops Q tail l a w) (hQ : Plain Q := by exact fun c a d v w h => by cases d <;> exact h) : (Code.region id ops true).wp P Q a w := by
  simp only [Bool.and_eq_true, beq_iff_eq] at hc
  refine wp_region_any hm (wpAny_of_wpT (cl := fun j => tail.contains j) _ _ _ (On w) _ (below_drew' w) ?_)
  rw [← hc.1.2]
  exact wpT_of_ord hc.1.1 hQ tail l _ a w (closed.start _) (by rw [hc.1.2]; exact hc.2) h.out
where
  below_drew' (w : World) : On w { w with drawn := w.drawn + 1 } := on_draw w
/-! The moves. -/
section
variable {i : Nat} {tail : List Nat} {l : List (Nat × K)} {a : Act} {W : World} {o : Oper} {N : Tmp}
theorem nil (h : ∀ w, On W w → Q .normal a w) : Ord P ops Q [] [] a W := ⟨h⟩
theorem stepL {v : Value} (hy : ∀ w, On W w → (execOp a.eval o).run P w = .ok (.value v) w) (h : Ord P ops Q tail l (a.put (some N) v) W) (hi : ops[i]? = some o) (hN : o.dst = some N)
    (hw : Region.wanted o (yielded ops a.tmps) = true) : Ord P ops Q tail ((i, .L) :: l) a W := by
  refine ⟨?_⟩
  simp only [wpOrd, hi]
  rw [if_pos hw]
  exact ⟨v, hy, hN ▸ h.out⟩
theorem stepP {v : Value} (hy : ∀ w, (execOp a.eval o).run P w = .ok (.value v) w) (h : Ord P ops Q tail l (a.put (some N) v) W) (hi : ops[i]? = some o) (hN : o.dst = some N)
    (hw : Region.wanted o (yielded ops a.tmps) = true) : Ord P ops Q tail ((i, .P) :: l) a W := by
  refine ⟨?_⟩
  simp only [wpOrd, hi]
  rw [if_pos hw]
  exact ⟨v, hy, hN ▸ h.out⟩
theorem stepC {v : Value} (hy : ∀ w, On W w → nAt P o a w fun u w' => u = v ∧ On W w') (h : Ord P ops Q tail l (a.put (some N) v) W) (hi : ops[i]? = some o) (hN : o.dst = some N)
    (hw : Region.wanted o (yielded ops a.tmps) = true) : Ord P ops Q tail ((i, .C) :: l) a W := by
  refine ⟨?_⟩
  simp only [wpOrd, hi]
  rw [if_pos hw]
  exact ⟨v, hy, hN ▸ h.out⟩
theorem wpList_mono_normal {os : List Oper} {T T' : Act → World → Prop} (hT : ∀ a w, T a w → T' a w) : ∀ {a : Act} {w : World}, wpList P ops (Exit.then T Q) os a w → wpList P ops (Exit.then T' Q) os a w := by
  induction os with
  | nil => intro a w h; exact hT _ _ h
  | cons o os ih =>
    intro a w h
    unfold wpList at h ⊢
    split
    · rename_i hw
      rw [if_pos hw] at h
      rcases h with h | ⟨h1, h2⟩
      · refine .inl ?_
        unfold Oper.wp at *
        generalize (execOp a.eval o).run P w = r at *
        cases r with
        | ok n w' =>
          cases n <;> simp only [Oper.upon] at h ⊢ <;>
            first
              | exact ih h
              | exact h.mono (fun e w'' he => by cases e <;> first | exact ih he | exact he)
              | exact Rows.mono h (fun _ _ he => ih he)
        | halt x w' => cases x <;> simp only [Oper.upon] at h ⊢ <;> exact h
      · exact .inr ⟨h1, h2⟩
    · rename_i hw
      rw [if_neg hw] at h
      exact ih h
theorem stepN (h : ∀ w, On W w → wpList P ops (Exit.then (fun a' w' => On W w' ∧ Ord P ops Q tail l a' w') Q) [o] a w) (hi : ops[i]? = some o)
    (hw : Region.wanted o (yielded ops a.tmps) = true) : Ord P ops Q tail ((i, .N) :: l) a W := by
  refine ⟨?_⟩
  simp only [wpOrd, hi]
  rw [if_pos hw]
  exact fun w hS => wpList_mono_normal (fun a w ⟨h1, h2⟩ => ⟨h1, h2.out⟩) (h w hS)
theorem skip {k : K} (h : Ord P ops Q tail l (a.put (some N) undef) W) (hi : ops[i]? = some o) (hN : o.dst = some N) (hw : Region.wanted o (yielded ops a.tmps) = false) : Ord P ops Q tail ((i, k) :: l) a W := by
  refine ⟨?_⟩
  simp only [wpOrd, hi]
  rw [if_neg (by simp [hw]), hN]
  exact h.out
theorem tail_ {os : List Oper} (h : ∀ w, On W w → wpList P ops Q os a w) (hos : (tail.filterMap fun i => ops[i]?) = os := by simp only [List.filterMap_cons, List.filterMap_nil, List.getElem?_toArray, List.getElem?_cons_zero, List.getElem?_cons_succ]; rfl) : Ord P ops Q tail [] a W := by
  subst hos
  exact ⟨h⟩
end
end Go.Proofs.Ytngjhblbpapjeaa.RegD
namespace Go.Proofs.Ytngjhblbpapjeaa.HD
open Go Go.RowKit Go.Proofs.YtngjhblbpapjeaaW.PrintWords Go.Proofs.YtngjhblbpapjeaaW.PrintLast Go.Proofs.Ytngjhblbpapjeaa.H
open Go.Proofs.Ytngjhblbpapjeaa.RegD (On on_draw)
set_option linter.unusedVariables false
/-! Steps inside a region that draws. -/
section
variable {P : Program} {ops : Array Oper} {Q : Exit → Act → World → Prop} {i : Nat} {tail : List Nat} {l : List (Nat × Reg.K)} {a a' : Act} {W : World} {o : Oper} {N : Tmp}
theorem nAt_call {f : FuncId} {fn : Func} {xs : Array Operand} {ts : Array TypeId} {args : Array Value} {w : World} {R : Value → World → Prop} (hf : P.funcs[f]? = some fn) (hname : (fn.name == "runtime.NumGoroutine") = false) (hb : fn.body.isSome = true)
    (hop : o.op = .call { callee := .value (.func f), args := xs, argTypes := ts }) (hargs : xs.map a.eval = args) (h : Calls P f args w fun e w' => ∃ u, e = .returned u ∧ R u w') : Reg.nAt P o a w R := by
  have he := enters_ hf hname hb args w
  have hrun : (execOp a.eval o).run P w = .ok (.enter f args) w := by
    unfold execOp
    simp [hop, resolve, Deferred.ofValue, invoke, Act.eval, hargs, he]
  unfold Reg.nAt
  rw [hrun]
  exact h
/-- A call that hands back one value. -/
theorem callC {f : FuncId} {fn : Func} {xs : Array Operand} {ts : Array TypeId} {args : Array Value} (v : Value) (hf : P.funcs[f]? = some fn)
    (h : ∀ w, On W w → Calls P f args w fun e w' => e = .returned v ∧ On w w') (rest : RegD.Ord P ops Q tail l a' W) (hi : ops[i]? = some o := by rfl) (hN : o.dst = some N := by rfl)
    (hop : o.op = .call { callee := .value (.func f), args := xs, argTypes := ts } := by rfl) (hargs : xs.map a.eval = args := by (try simp only [List.map_toArray, List.map_cons, List.map_nil]); rfl)
    (hname : (fn.name == "runtime.NumGoroutine") = false := by kernel_rfl) (hb : fn.body.isSome = true := by rfl)
    (hw : Region.wanted o (yielded ops a.tmps) = true := by with_unfolding_all rfl) (ha : a.put (some N) v = a' := by simp only [Act.put, List.setIfInBounds_toArray, List.set_cons_zero, List.set_cons_succ]; rfl) : RegD.Ord P ops Q tail ((i, .C) :: l) a W :=
  RegD.stepC (v := v) (fun w hS => nAt_call hf hname hb hop hargs ((h w hS).mono fun e w' ⟨he, hS'⟩ => ⟨v, he, rfl, hS.trans hS'⟩)) (ha ▸ rest) hi hN hw
/-- A call of which more is told: what follows stands behind it. -/
theorem callN {f : FuncId} {fn : Func} {xs : Array Operand} {ts : Array TypeId} {args : Array Value} (hf : P.funcs[f]? = some fn)
    (h : ∀ w, On W w → Calls P f args w fun e w' => ∃ v, e = .returned v ∧ On w w' ∧ ∀ a', a' = a.put (some N) v → RegD.Ord P ops Q tail l a' w') (hi : ops[i]? = some o := by rfl) (hN : o.dst = some N := by rfl)
    (hop : o.op = .call { callee := .value (.func f), args := xs, argTypes := ts } := by rfl) (hargs : xs.map a.eval = args := by (try simp only [List.map_toArray, List.map_cons, List.map_nil]); rfl)
    (hname : (fn.name == "runtime.NumGoroutine") = false := by kernel_rfl) (hb : fn.body.isSome = true := by rfl)
    (hw : Region.wanted o (yielded ops a.tmps) = true := by rfl) : RegD.Ord P ops Q tail ((i, .N) :: l) a W := by
  refine RegD.stepN (fun w hS => ?_) hi hw
  unfold wpList
  rw [if_pos hw]
  refine .inl (Reg.wp_of_nAt (nAt_call hf hname hb hop hargs ((h w hS).mono fun e w' ⟨v, he, hon, hk⟩ => ⟨v, he, ?_⟩)))
  rw [hN]
  exact ⟨hS.trans hon, hk _ rfl⟩
/-- A read, a sum, an address. -/
theorem sL {v : Value} (h : RegD.Ord P ops Q tail l a' W) (hi : ops[i]? = some o := by rfl) (hN : o.dst = some N := by rfl) (hw : Region.wanted o (yielded ops a.tmps) = true := by rfl)
    (hy : ∀ w, On W w → (execOp a.eval o).run P w = .ok (.value v) w := by intro w' hS; have hA := RegD.On.eq hS; clear hS; (go_simp; first | done | rfl))
    (ha : a.put (some N) v = a' := by simp only [Act.put, List.setIfInBounds_toArray, List.set_cons_zero, List.set_cons_succ]; rfl) : RegD.Ord P ops Q tail ((i, .L) :: l) a W := RegD.stepL hy (ha ▸ h) hi hN hw
/-- What asks the world nothing. -/
theorem sQ {v : Value} (h : RegD.Ord P ops Q tail l a' W) (hi : ops[i]? = some o := by rfl) (hN : o.dst = some N := by rfl) (hw : Region.wanted o (yielded ops a.tmps) = true := by rfl)
    (hy : ∀ w, (execOp a.eval o).run P w = .ok (.value v) w := by intro w'; (go_simp; first | done | rfl))
    (ha : a.put (some N) v = a' := by simp only [Act.put, List.setIfInBounds_toArray, List.set_cons_zero, List.set_cons_succ]; rfl) : RegD.Ord P ops Q tail ((i, .P) :: l) a W := RegD.stepP hy (ha ▸ h) hi hN hw
/-- Sums and differences whose bounds are known. -/
theorem sS {x y : Operand} {m n : Int} {t t2 : TypeId} (h : RegD.Ord P ops Q tail l a' W) (hi : ops[i]? = some o := by rfl) (hN : o.dst = some N := by rfl) (hop : o.op = .binOp .sub t x y t2 := by rfl) (hw : Region.wanted o (yielded ops a.tmps) = true := by rfl)
    (hx : a.eval x = .int .i64 m := by rfl) (hy : a.eval y = .int .i64 n := by rfl) {r : Int} (hb : IntKind.i64.wrap (m - n) = r := by first | (with_reducible assumption) | exact IntWalk.i64_in _ (by omega))
    (ha : a.put (some N) (.int .i64 r) = a' := by simp only [Act.put, List.setIfInBounds_toArray, List.set_cons_zero, List.set_cons_succ]; rfl) : RegD.Ord P ops Q tail ((i, .L) :: l) a W :=
  RegD.stepL (fun w _ => by
    subst hb
    unfold execOp
    simp only [hop, hx, hy]
    rfl) (ha ▸ h) hi hN hw
theorem sA {x y : Operand} {m n : Int} {t t2 : TypeId} (h : RegD.Ord P ops Q tail l a' W) (hi : ops[i]? = some o := by rfl) (hN : o.dst = some N := by rfl) (hop : o.op = .binOp .add t x y t2 := by rfl) (hw : Region.wanted o (yielded ops a.tmps) = true := by rfl)
    (hx : a.eval x = .int .i64 m := by rfl) (hy : a.eval y = .int .i64 n := by rfl) {r : Int} (hb : IntKind.i64.wrap (m + n) = r := by first | (with_reducible assumption) | exact IntWalk.i64_in _ (by omega))
    (ha : a.put (some N) (.int .i64 r) = a' := by simp only [Act.put, List.setIfInBounds_toArray, List.set_cons_zero, List.set_cons_succ]; rfl) : RegD.Ord P ops Q tail ((i, .L) :: l) a W :=
  RegD.stepL (fun w _ => by
    subst hb
    unfold execOp
    simp only [hop, hx, hy]
    rfl) (ha ▸ h) hi hN hw
/-- A choice, decided. -/
theorem sP {v : Value} {c x y : Operand} {b : Bool} (h : RegD.Ord P ops Q tail l a' W) (hi : ops[i]? = some o := by rfl) (hN : o.dst = some N := by rfl) (hop : o.op = .pick c x y := by rfl) (hw : Region.wanted o (yielded ops a.tmps) = true := by rfl)
    (hc : a.eval c = .bool b := by rfl) (hv : (if b then a.eval x else a.eval y) = v := by (go_simp; first | done | rfl))
    (ha : a.put (some N) v = a' := by simp only [Act.put, List.setIfInBounds_toArray, List.set_cons_zero, List.set_cons_succ]; rfl) : RegD.Ord P ops Q tail ((i, .L) :: l) a W :=
  RegD.stepL (fun w _ => by unfold execOp; simp only [hop, hc]; subst hv; cases b <;> rfl) (ha ▸ h) hi hN hw
/-- An operation whose guard is off. -/
theorem sO {k : Reg.K} (h : RegD.Ord P ops Q tail l a' W) (hi : ops[i]? = some o := by rfl) (hN : o.dst = some N := by rfl) (hw : Region.wanted o (yielded ops a.tmps) = false := by with_unfolding_all rfl)
    (ha : a.put (some N) undef = a' := by simp only [Act.put, List.setIfInBounds_toArray, List.set_cons_zero, List.set_cons_succ]; rfl) : RegD.Ord P ops Q tail ((i, k) :: l) a W := RegD.skip (ha ▸ h) hi hN hw
end
end Go.Proofs.Ytngjhblbpapjeaa.HD
/- Walks: the program's order of facts, in the form that SortFunc asks for. No condition. -/
namespace Go.Proofs.Ytngjhblbpapjeaa.HD
open Go Go.RowKit Go.Proofs.YtngjhblbpapjeaaW.PrintWords Go.Proofs.YtngjhblbpapjeaaW.PrintLast Go.Proofs.Ytngjhblbpapjeaa.H
open Go.Proofs.Ytngjhblbpapjeaa.RegD (On on_draw)
set_option maxHeartbeats 1000000
set_option maxRecDepth 100000
set_option linter.unusedVariables false
set_option linter.unusedSimpArgs false

theorem isNaN_calls (w : World) (v : Int) : Calls Try.prog 166 #[.int .i64 v] w fun e w' => e = .returned (.bool false) ∧ On w w' := by
  go_enter Try.func166, Try.ntmps166
  go_wp2
  go_ret
  exact ⟨by simp, On.refl _⟩
theorem cmpCompare_calls (w : World) (a b : Int) : Calls Try.prog 137 #[.int .i64 a, .int .i64 b] w fun e w' => e = .returned (.int .i64 (cmpI a b)) ∧ On w w' := by
  by_cases h1 : a < b
  · have h1b : decide (a < b) = true := decide_eq_true h1
    go_enter Try.func137, Try.ntmps137
    go_wp2_with (first | (go_at_call 166; refine (isNaN_calls w _).mono ?_; rintro e w1 ⟨rfl, hb1⟩) | (go_at_call 166; refine (isNaN_calls w1 _).mono ?_; rintro e w2 ⟨rfl, hb2⟩))
    go_ret
    exact ⟨ret_int (by unfold cmpI; rw [if_pos (of_decide_eq_true h1b)]), hb1.trans hb2⟩
  · have h1b : decide (a < b) = false := decide_eq_false h1
    by_cases h2 : b < a
    · have h2b : decide (b < a) = true := decide_eq_true h2
      go_enter Try.func137, Try.ntmps137
      go_wp2_with (first | (go_at_call 166; refine (isNaN_calls w _).mono ?_; rintro e w1 ⟨rfl, hb1⟩) | (go_at_call 166; refine (isNaN_calls w1 _).mono ?_; rintro e w2 ⟨rfl, hb2⟩))
      go_ret
      exact ⟨ret_int (by unfold cmpI; rw [if_neg (of_decide_eq_false h1b), if_pos (of_decide_eq_true h2b)]), hb1.trans hb2⟩
    · have h2b : decide (b < a) = false := decide_eq_false h2
      go_enter Try.func137, Try.ntmps137
      go_wp2_with (first | (go_at_call 166; refine (isNaN_calls w _).mono ?_; rintro e w1 ⟨rfl, hb1⟩) | (go_at_call 166; refine (isNaN_calls w1 _).mono ?_; rintro e w2 ⟨rfl, hb2⟩))
      go_ret
      exact ⟨ret_int (by unfold cmpI; rw [if_neg (of_decide_eq_false h1b), if_neg (of_decide_eq_false h2b)]), hb1.trans hb2⟩
theorem slicesCompare_calls (w : World) (A B : Option Addr) (c d : Nat) (a b : List Int) (ha : Ints w A c a) (hb : Ints w B d b) : Calls Try.prog 138 #[.slice A a.length c, .slice B b.length d] w fun e w' => e = .returned (.int .i64 (ints a b)) ∧ On w w' := by
  have hma := ha.max
  have hmb := hb.max
  go_enter Try.func138, Try.ntmps138
  go_wp2
  go_loopw [11] (fun v wr => ∃ k : Nat, k ≤ a.length ∧ k ≤ b.length ∧ v = .int .i64 k ∧ Hid (ints (a.drop k) (b.drop k) = ints a b) ∧ On w wr) (fun v _ => a.length - (intOf v).toNat)
  case atStart => exact ⟨0, Nat.zero_le _, Nat.zero_le _, rfl, rfl, On.refl _⟩
  case round =>
    obtain ⟨k, hk1, hk2, rfl, hp, hB⟩ := hrel
    by_cases h1 : k < a.length
    · obtain ⟨ad, rfl, hx⟩ := (ha.on hB.low).at k h1
      by_cases h2 : k < b.length
      · obtain ⟨bd, rfl, hy⟩ := (hb.on hB.low).at k h2
        have h2n : decide (b.length ≤ k) = false := decide_eq_false (by omega)
        have hst := Aside0.mk ((ints_stepI a b k h1 h2).symm.trans hp.out)
        clear hp
        by_cases h3 : cmpI a[k] b[k] = 0
        · have h3' := Aside0.mk h3
          have h3b : (cmpI a[k] b[k] != 0) = false := by simp [h3]
          clear h3
          go_wp2_with (go_at_call 137; refine (cmpCompare_calls _ _ _).mono ?_; rintro e w3 ⟨rfl, hb3⟩)
          go_roundw
          case rel => exact ⟨k + 1, by omega, by omega, by go_num, (by have := hst.out; rwa [if_pos h3'.out] at this : _ = _), hB.trans hb3⟩
          case measure => simp [intOf]; omega
        · have h3' := Aside0.mk h3
          have h3b : (cmpI a[k] b[k] != 0) = true := by simp [h3]
          clear h3
          go_wp2_with (go_at_call 137; refine (cmpCompare_calls _ _ _).mono ?_; rintro e w3 ⟨rfl, hb3⟩)
          go_ret
          exact ⟨ret_int (by have := hst.out; rwa [if_neg h3'.out] at this), hB.trans hb3⟩
      · have hb0 : b.drop k = [] := List.drop_of_length_le (by omega)
        have h2n : decide (b.length ≤ k) = true := decide_eq_true (by omega)
        have hp' := Aside0.mk hp.out
        clear hp
        go_wp2
        go_ret
        exact ⟨ret_int (by rw [← hp'.out, hb0, List.drop_eq_getElem_cons h1]; rfl), hB⟩
    · have ha0 : a.drop k = [] := List.drop_of_length_le (by omega)
      have hp' := Aside0.mk hp.out
      clear hp
      by_cases h2 : k < b.length
      · have h4 : a.length < b.length := by omega
        go_wp2
        go_ret
        exact ⟨ret_int (by rw [← hp'.out, ha0, List.drop_eq_getElem_cons h2]; rfl), hB⟩
      · have hb0 : b.drop k = [] := List.drop_of_length_le (by omega)
        have h4 : ¬ a.length < b.length := by omega
        go_wp2
        go_ret
        exact ⟨ret_int (by rw [← hp'.out, ha0, hb0]; rfl), hB⟩
theorem cmpOr_calls (w : World) (A c) (l : List Int) (h : Ints w A c l) : Calls Try.prog 136 #[.slice A l.length c] w fun e w' => e = .returned (.int .i64 (orFrom l)) ∧ On w w' := by
  have hmax := h.max
  go_enter Try.func136, Try.ntmps136
  go_wp2
  go_loop [8] (fun v => ∃ k : Nat, k ≤ l.length ∧ v = .int .i64 k ∧ Hid (orFrom (l.drop k) = orFrom l)) (fun v => l.length - (intOf v).toNat)
  case atStart => exact ⟨0, Nat.zero_le _, rfl, rfl⟩
  case round =>
    obtain ⟨k, hk, rfl, hp⟩ := hrel
    by_cases hlt : k < l.length
    · obtain ⟨ad, rfl, hx⟩ := h.at k hlt
      have hst := Aside0.mk ((orFrom_step l k hlt).symm.trans hp.out)
      clear hp
      by_cases h3 : l[k] = 0
      · have h3' := Aside0.mk h3
        have h3b : (l[k] != 0) = false := by simp [h3]
        clear h3
        go_wp2
        go_round
        case rel => exact ⟨k + 1, by omega, by go_num, (by have := hst.out; rwa [if_pos h3'.out] at this : _ = _)⟩
        case measure => simp [intOf]; omega
      · have h3' := Aside0.mk h3
        have h3b : (l[k] != 0) = true := by simp [h3]
        clear h3
        go_wp2
        go_ret
        exact ⟨ret_int (by have := hst.out; rwa [if_neg h3'.out] at this), On.refl _⟩
    · go_wp2
      go_ret
      exact ⟨ret_int (by rw [← hp.out, List.drop_of_length_le (by omega)]; rfl), On.refl _⟩
theorem iCompareFacts_calls (w : World) (A0 c0 A1 c1) (f g : Fct) (h0 : Ints w A0 c0 f.2) (h1 : Ints w A1 c1 g.2) : Calls Try.prog 109 #[.agg #[.int .i64 f.1, .slice A0 f.2.length c0], .agg #[.int .i64 g.1, .slice A1 g.2.length c1]] w fun e w' => e = .returned (.int .i64 (cmpF f g)) ∧ On w w' := by
  have hb0 := Aside0.mk (On.alloc (On.alloc (On.refl w) (.cells #[.int .i64 f.1, .slice A0 f.2.length c0] 55)) (.cells #[.int .i64 g.1, .slice A1 g.2.length c1] 55))
  go_enter Try.func109, Try.ntmps109
  go_wp2
  refine RegD.region [(0,.L),(1,.L),(2,.L),(3,.L),(4,.C),(5,.L),(6,.L),(7,.L),(8,.L),(9,.C)] [10,11,12] (by kernel_rfl) (by kernel_rfl) ?_
  repeat first | refine sP ?_ | refine sS ?_ | refine sA ?_ | refine sL ?_ | refine sQ ?_ | refine sO ?_
  refine callC (.int .i64 (cmpI f.1 g.1)) Try.func137 (fun w' hS => ?_) ?_
  focus exact cmpCompare_calls w' _ _
  repeat first | refine sP ?_ | refine sS ?_ | refine sA ?_ | refine sL ?_ | refine sQ ?_ | refine sO ?_
  refine callC (.int .i64 (ints f.2 g.2)) Try.func138 (fun w' hS => ?_) ?_
  focus exact slicesCompare_calls w' _ _ _ _ f.2 g.2 (h0.on (hb0.out.trans hS).low) (h1.on (hb0.out.trans hS).low)
  repeat first | refine sP ?_ | refine sS ?_ | refine sA ?_ | refine sL ?_ | refine sQ ?_ | refine sO ?_
  refine RegD.tail_ fun w2 hS => ?_
  have hc := cmpI_bd f.1 g.1
  have hi := ints_bd f.2 g.2
  have hr := Aside0.mk ((ints2 w2 (cmpI f.1 g.1) (ints f.2 g.2)).2 (fun x hx => by simp at hx; rcases hx with rfl | rfl <;> omega))
  clear hc hi
  go_wp2_with (go_at_call 136; refine (cmpOr_calls _ _ _ _ hr.out).mono ?_; rintro e w3 ⟨rfl, hb3⟩)
  go_ret
  refine ⟨ret_int ?_, (hb0.out.trans hS).trans ((On.alloc (On.refl _) _).trans hb3)⟩
  rw [cmpF_or]
  simp only [orFrom]
  by_cases h3 : cmpI f.1 g.1 = 0
  · simp only [h3, if_pos, ne_eq, not_true, if_false]
    by_cases h4 : ints f.2 g.2 = 0
    · rw [if_pos h4, h4]
    · rw [if_neg h4]
  · simp [h3]
end Go.Proofs.Ytngjhblbpapjeaa.HD
/- Facts that are read, with their headers: what SortFunc's contract takes and gives. No condition. -/
namespace Go.Proofs.Ytngjhblbpapjeaa.H
open Go Go.RowKit Go.Proofs.YtngjhblbpapjeaaW.PrintWords Go.Proofs.YtngjhblbpapjeaaW.PrintLast
open Go.Proofs.Ytngjhblbpapjeaa.Reg (On on_draw)
set_option maxHeartbeats 4000000
set_option maxRecDepth 100000
set_option linter.unusedVariables false
set_option linter.unusedSimpArgs false

/-- A fact of the call's own: its header, what it reads as. -/
structure Fa (w : World) (lo : Nat) where
  h : Hdr
  f : Fct
  n : h.1 = f.1
  o : OI w lo (hdV h) f.2
  r : InR f.2
instance (w : World) (lo : Nat) : Inhabited (Fa w lo) := ⟨⟨((0 : Int), none, 0, 0), ((0 : Int), []), rfl, World.ownsRow_nil _ _ _ _, fun x hx => by cases hx⟩⟩
/-- Rows that own no block in common. -/
def Off (a b : Hdr) : Prop := ∀ k, (hdV a).ownBlock = some k → (hdV b).ownBlock = some k → False
theorem Sep.pair {w : World} {lo : Nat} {hs : List Hdr} {fs : List Fct} (h : Sep w lo hs fs) : hs.Pairwise Off := by
  rw [List.pairwise_iff_getElem]
  intro i j hi hj hij k h1 h2
  have := h.apart i j _ _ k (List.getElem?_eq_getElem hi) (List.getElem?_eq_getElem hj) h1 h2
  omega
end Go.Proofs.Ytngjhblbpapjeaa.H
/- The library's SortFunc at facts: the shelf's contract laid for this program. Printed by a program of this session. No condition. -/
namespace Go.Proofs.Ytngjhblbpapjeaa.H
open Go Go.RowKit Go.Shelf Go.Proofs.YtngjhblbpapjeaaW.PrintWords Go.Proofs.YtngjhblbpapjeaaW.PrintLast
open Go.Proofs.Ytngjhblbpapjeaa.Reg (On on_draw)
set_option maxHeartbeats 4000000
set_option maxRecDepth 100000
set_option linter.unusedVariables false
end Go.Proofs.Ytngjhblbpapjeaa.H
/- Walks: the program puts a fact into an instance: facts sorted, each once. No condition. -/
namespace Go.Proofs.Ytngjhblbpapjeaa.H
open Go Go.RowKit Go.Proofs.YtngjhblbpapjeaaW.PrintWords Go.Proofs.YtngjhblbpapjeaaW.PrintLast
open Go.Proofs.Ytngjhblbpapjeaa.Reg (On on_draw)
set_option maxHeartbeats 4000000
set_option maxRecDepth 100000
set_option linter.unusedVariables false
set_option linter.unusedSimpArgs false

/-- An instance with one fact more, if that is valid. -/
def insB (rs : List Rel) (fs : List Fct) (g : Fct) : Bool := okInst rs fs && (!hasF fs g && okInst rs (putF fs g))
def insI (rs : List Rel) (fs : List Fct) (g : Fct) : List Fct := if insB rs fs g then putF fs g else fs
end Go.Proofs.Ytngjhblbpapjeaa.H
/- Walks: the reference puts a fact into an instance, if that is valid. No condition. -/
namespace Go.Proofs.Ytngjhblbpapjeaa.H
open Go Go.RowKit Go.Proofs.YtngjhblbpapjeaaW.PrintWords Go.Proofs.YtngjhblbpapjeaaW.PrintLast
open Go.Proofs.Ytngjhblbpapjeaa.Reg (On on_draw)
set_option maxHeartbeats 4000000
set_option maxRecDepth 100000
set_option linter.unusedVariables false
set_option linter.unusedSimpArgs false

theorem putF_len (l : List Fct) (x : Fct) : (putF l x).length ≤ l.length + 1 := by
  induction l with
  | nil => simp [putF]
  | cons y r ih => unfold putF; split <;> (try split) <;> simp <;> omega
theorem sInsertFact_calls (w : World) (A0 c0 A1 c1) (rs : List Rel) (fs : List Fct) (h0 : Rels w A0 c0 rs) (h1 : Fcts w A1 c1 fs) (A2 c2) (g : Fct) (h2 : Ints w A2 c2 g.2) (hl0 : rs.length ≤ 2000000) (hl : fs.length ≤ 2000000) (hl2 : ∀ f ∈ fs, f.2.length ≤ 2000000) (hg2 : g.2.length ≤ 2000000) :
    Calls Try.prog 43 #[.agg #[.slice A0 rs.length c0, .slice A1 fs.length c1], .agg #[.int .i64 g.1, .slice A2 g.2.length c2]] w (Got fun v w' => ∃ v1, v = .tuple #[v1, .bool (insB rs fs g)] ∧ OIn w' w.heap.size v1 rs (insI rs fs g) ∧ On w w') := by
  have hb := Aside0.mk (On.alloc (On.alloc (On.alloc (On.refl w) (.cells #[.slice A0 rs.length c0, .slice A1 fs.length c1] 32)) (.cells #[.int .i64 g.1, .slice A2 g.2.length c2] 55)) (.cells #[.slice none 0 0, .slice none 0 0] 32))
  have hL := Aside0.mk (loc3 w #[.slice A0 rs.length c0, .slice A1 fs.length c1] #[.int .i64 g.1, .slice A2 g.2.length c2] #[.slice none 0 0, .slice none 0 0] 32 55 32)
  have hsz3 := Aside0.mk (show (((w.alloc (.cells #[.slice A0 rs.length c0, .slice A1 fs.length c1] 32)).alloc (.cells #[.int .i64 g.1, .slice A2 g.2.length c2] 55)).alloc (.cells #[.slice none 0 0, .slice none 0 0] 32)).heap.size = w.heap.size + 3 by simp)
  cases ho : okInst rs fs with
  | false =>
    have hno := Aside0.mk (show insB rs fs g = false by unfold insB; rw [ho]; rfl)
    have ho' := Aside0.mk ho
    clear ho
    go_enter Try.func43, Try.ntmps43
    go_wp2_with (first
      |
      (go_at_call 86; refine (l5Copy_calls _ A0 c0 A1 c1 rs fs (h0.on hb.out) (h1.on hb.out) hl0 hl hl2).mono ?_; rintro e w1 ⟨v1, rfl, hI0, hb1⟩; obtain ⟨a1, a2, a3, a4, a5, a6, rfl⟩ := hI0.read.shape; have hfill := alloc_fill w1; have hI := Aside0.mk hI0; clear hI0; have hB1 := Aside0.mk (hb1.trans (On.alloc (On.refl _) (.cells #[.slice a1 a2 a3, .slice a4 a5 a6] 32))); have hL1 := Aside0.mk (Loc.on hB1.out hL.out); have hc0 := blk_cell hL1.out.1; have hc1 := blk_cell hL1.out.2.1; have hY1 := Aside0.mk (loc_new w1 #[.slice a1 a2 a3, .slice a4 a5 a6] 32))
      | (go_at_call 41; refine (IsValidInstance_calls _ A0 c0 A1 c1 rs fs (h0.on (hb.out.trans hB1.out)) (h1.on (hb.out.trans hB1.out))).mono ?_; rintro e wx ⟨rfl, hb2⟩; rw [ho'.out]; refine Stop.out ?_))
    clear hc0 hc1 hfill
    refine ⟨?_⟩
    have hRx := Aside0.mk (Loc.on hb2 hL1.out).2.2.1
    have hYx := Aside0.mk (blk_below hY1.out hb2)
    have hIx := Aside0.mk (hI.out.on ((On.alloc (On.refl _) _).trans hb2))
    have hBx := Aside0.mk (hb.out.trans (hB1.out.trans hb2))
    have hcr : ∀ i, wx.cell? ⟨w.heap.size + 1 + 1, i, none⟩ = _ := blk_cell hRx.out
    have hfr : ∀ i, wx.frozen? ⟨w.heap.size + 1 + 1, i, none⟩ = _ := blk_frozen hRx.out
    have hyx := blk_cell hYx.out
    go_wp2
    refine bodyPost_ret (retIB rfl rfl (g := w.heap.size + 2) (blk_set (blk_set hRx.out 0 _) 1 _) rfl) rfl ?_
    have hlt := blk_lt hRx.out
    have e6 : insI rs fs g = fs := by unfold insI; rw [hno.out]; rfl
    have hI3 := hIx.out
    rw [hsz3.out] at hI3
    refine ⟨_, rfl, _, by rw [hno.out]; rfl, ?_, Reg.On.set (Reg.On.set hBx.out (by simp; omega) _) (by simp; omega) _⟩
    rw [e6]
    exact OIn.lower (OIn.set (OIn.set hI3 (by simp) _) (by simp) _) (by omega)
  | true =>
    have ho' := Aside0.mk ho
    cases hh : hasF fs g with
    | true =>
      have hno := Aside0.mk (show insB rs fs g = false by unfold insB; rw [ho, hh]; rfl)
      have hh' := Aside0.mk (show (okInst rs fs && hasF fs g) = true by rw [ho, hh]; rfl)
      clear ho hh
      go_enter Try.func43, Try.ntmps43
      go_wp2_with (first
        |
        (go_at_call 86; refine (l5Copy_calls _ A0 c0 A1 c1 rs fs (h0.on hb.out) (h1.on hb.out) hl0 hl hl2).mono ?_; rintro e w1 ⟨v1, rfl, hI0, hb1⟩; obtain ⟨a1, a2, a3, a4, a5, a6, rfl⟩ := hI0.read.shape; have hfill := alloc_fill w1; have hI := Aside0.mk hI0; clear hI0; have hB1 := Aside0.mk (hb1.trans (On.alloc (On.refl _) (.cells #[.slice a1 a2 a3, .slice a4 a5 a6] 32))); have hL1 := Aside0.mk (Loc.on hB1.out hL.out); have hc0 := blk_cell hL1.out.1; have hc1 := blk_cell hL1.out.2.1; have hY1 := Aside0.mk (loc_new w1 #[.slice a1 a2 a3, .slice a4 a5 a6] 32))
        | (go_at_call 87; refine (sContainsFact_calls _ A0 c0 A1 c1 rs fs (h0.on ((hb.out.trans hB1.out).trans hb2)) (h1.on ((hb.out.trans hB1.out).trans hb2)) A2 c2 g (h2.on ((hb.out.trans hB1.out).trans hb2))).mono ?_; rintro e wx ⟨rfl, hb3⟩; rw [hh'.out]; refine Stop.out ?_)
        | (go_at_call 41; refine (IsValidInstance_calls _ A0 c0 A1 c1 rs fs (h0.on (hb.out.trans hB1.out)) (h1.on (hb.out.trans hB1.out))).mono ?_; rintro e w2 ⟨rfl, hb2⟩; rw [ho'.out]; have hL2 := Aside0.mk (Loc.on hb2 hL1.out); have hd0 := blk_cell hL2.out.1; have hd1 := blk_cell hL2.out.2.1; clear hc0 hc1 hfill))
      clear hd0 hd1
      refine ⟨?_⟩
      have hRx := Aside0.mk (Loc.on hb3 hL2.out).2.2.1
      have hYx := Aside0.mk (blk_below hY1.out (hb2.trans hb3))
      have hIx := Aside0.mk (hI.out.on ((On.alloc (On.refl _) _).trans (hb2.trans hb3)))
      have hBx := Aside0.mk (hb.out.trans (hB1.out.trans (hb2.trans hb3)))
      have hcr : ∀ i, wx.cell? ⟨w.heap.size + 1 + 1, i, none⟩ = _ := blk_cell hRx.out
      have hfr : ∀ i, wx.frozen? ⟨w.heap.size + 1 + 1, i, none⟩ = _ := blk_frozen hRx.out
      have hyx := blk_cell hYx.out
      go_wp2
      refine bodyPost_ret (retIB rfl rfl (g := w.heap.size + 2) (blk_set (blk_set hRx.out 0 _) 1 _) rfl) rfl ?_
      have hlt := blk_lt hRx.out
      have e6 : insI rs fs g = fs := by unfold insI; rw [hno.out]; rfl
      have hI3 := hIx.out
      rw [hsz3.out] at hI3
      refine ⟨_, rfl, _, by rw [hno.out]; rfl, ?_, Reg.On.set (Reg.On.set hBx.out (by simp; omega) _) (by simp; omega) _⟩
      rw [e6]
      exact OIn.lower (OIn.set (OIn.set hI3 (by simp) _) (by simp) _) (by omega)
    | false =>
      have hh' := Aside0.mk (show (okInst rs fs && hasF fs g) = false by rw [ho, hh]; rfl)
      have hasc := Aside0.mk (okInst_asc ho)
      have hle := Aside0.mk (okInst_len ho)
      have hle3 := Aside0.mk (fun f hf => okFact_len (okInst_mem ho f hf))
      have hhh := Aside0.mk hh
      have hoo := Aside0.mk ho
      clear ho hh
      go_enter Try.func43, Try.ntmps43
      go_wp2_with (first
        |
        (go_at_call 86; refine (l5Copy_calls _ A0 c0 A1 c1 rs fs (h0.on hb.out) (h1.on hb.out) hl0 hl hl2).mono ?_; rintro e w1 ⟨v1, rfl, hI0, hb1⟩; obtain ⟨a1, a2, a3, a4, a5, a6, rfl⟩ := hI0.read.shape; have hfill := alloc_fill w1; have hI := Aside0.mk hI0; clear hI0; have hB1 := Aside0.mk (hb1.trans (On.alloc (On.refl _) (.cells #[.slice a1 a2 a3, .slice a4 a5 a6] 32))); have hL1 := Aside0.mk (Loc.on hB1.out hL.out); have hc0 := blk_cell hL1.out.1; have hc1 := blk_cell hL1.out.2.1; have hY1 := Aside0.mk (loc_new w1 #[.slice a1 a2 a3, .slice a4 a5 a6] 32))
        | (go_at_call 87; refine (sContainsFact_calls _ A0 c0 A1 c1 rs fs (h0.on ((hb.out.trans hB1.out).trans hb2)) (h1.on ((hb.out.trans hB1.out).trans hb2)) A2 c2 g (h2.on ((hb.out.trans hB1.out).trans hb2))).mono ?_; rintro e w3 ⟨rfl, hb3⟩; rw [hh'.out]; have hL3 := Aside0.mk (Loc.on hb3 hL2.out); have hY3 := Aside0.mk (blk_below hY1.out (hb2.trans hb3)); have hI3 := Aside0.mk (hI.out.on ((On.alloc (On.refl _) (.cells #[.slice a1 a2 a3, .slice a4 a5 a6] 32)).trans (hb2.trans hb3))); have hB3 := Aside0.mk (hB1.out.trans (hb2.trans hb3)); have hd2 := blk_cell hL3.out.2.1; have hd3 := blk_cell hY3.out; clear hd0 hd1)
        | (go_at_call 41; refine (IsValidInstance_calls _ A0 c0 A1 c1 rs fs (h0.on (hb.out.trans hB1.out)) (h1.on (hb.out.trans hB1.out))).mono ?_; rintro e w2 ⟨rfl, hb2⟩; rw [ho'.out]; have hL2 := Aside0.mk (Loc.on hb2 hL1.out); have hd0 := blk_cell hL2.out.1; have hd1 := blk_cell hL2.out.2.1; clear hc0 hc1 hfill)
        | (refine gate 21 ?_))
      clear hd2 hd3
      obtain ⟨A3, c3, A4, c4, e3, hr3, hf3⟩ := hI3.out.read.out
      injection e3 with e3
      have e31 := congrArg (fun x => x.toList) e3
      simp only [List.cons.injEq, Value.slice.injEq] at e31
      obtain ⟨⟨q1, q2, q3⟩, ⟨q4, q5, q6⟩, _⟩ := e31
      subst q1 q2 q3 q4 q5 q6
      clear e3
      refine ⟨goesF 21 Try.func96 ((l5Put_calls w3 a1 a3 a4 a6 rs fs hr3 hf3 A2 c2 g (h2.on (hb.out.trans hB3.out)) hl hg2 hasc.out).mono ?_)⟩
      rintro e w4 ⟨v4, rfl, hP4, hb4⟩
      refine ⟨_, rfl, ?_⟩
      obtain ⟨A5, c5, A6, c6, rfl, hr5, hf5⟩ := hP4.out
      have hpl : (putF fs g).length ≤ fs.length + 1 := putF_len fs g
      refine goesF 22 Try.func86 ((l5Copy_calls w4 A5 c5 A6 c6 rs (putF fs g) hr5 hf5 hl0 (by have := hle.out; omega) (fun f hf => ?_)).mono ?_)
      · rcases (mem_putF g f fs).1 hf with e | hf
        · rw [e]; exact hg2
        · have := hle3.out f hf; omega
      rintro e w5 ⟨v5, rfl, hI5, hb5⟩
      refine ⟨_, rfl, ?_⟩
      obtain ⟨b1, b2, b3, b4, b5, b6, rfl⟩ := hI5.read.shape
      have hI5' := Aside0.mk hI5
      have hfill := alloc_fill w5
      have hB5 := Aside0.mk ((hb4.trans hb5).trans (On.alloc (On.refl w5) (.cells #[.slice b1 b2 b3, .slice b4 b5 b6] 32)))
      have hZ5 := Aside0.mk (loc_new w5 #[.slice b1 b2 b3, .slice b4 b5 b6] 32)
      have hI6 := Aside0.mk (hI5.on (On.alloc (On.refl w5) (.cells #[.slice b1 b2 b3, .slice b4 b5 b6] 32)))
      have hw34 := Aside0.mk hb4.size
      clear hI5 hP4 hr5 hf5
      go_wp2_with (refine gate 24 ?_)
      clear hfill
      obtain ⟨A7, c7, A8, c8, e7, hr7, hf7⟩ := hI6.out.read.out
      injection e7 with e7
      have e71 := congrArg (fun x => x.toList) e7
      simp only [List.cons.injEq, Value.slice.injEq] at e71
      obtain ⟨⟨q1, q2, q3⟩, ⟨q4, q5, q6⟩, _⟩ := e71
      subst q1 q2 q3 q4 q5 q6
      clear e7
      refine ⟨goesF 24 Try.func41 ((IsValidInstance_calls _ b1 b3 b4 b6 rs (putF fs g) hr7 hf7).mono ?_)⟩
      rintro e wx ⟨rfl, hb6⟩
      refine ⟨_, rfl, ?_⟩
      have hB6 := Aside0.mk (hB5.out.trans hb6)
      have hRx := Aside0.mk (Loc.on hB6.out hL3.out).2.2.1
      have hBx := Aside0.mk (hb.out.trans (hB3.out.trans hB6.out))
      cases hv : okInst rs (putF fs g) with
      | false =>
        have hno := Aside0.mk (show insB rs fs g = false by unfold insB; rw [hoo.out, hhh.out, hv]; rfl)
        have hYx := Aside0.mk (blk_below hY3.out hB6.out)
        have hIx := Aside0.mk (hI3.out.on hB6.out)
        clear hv
        have hcr : ∀ i, wx.cell? ⟨w.heap.size + 1 + 1, i, none⟩ = _ := blk_cell hRx.out
        have hfr : ∀ i, wx.frozen? ⟨w.heap.size + 1 + 1, i, none⟩ = _ := blk_frozen hRx.out
        have hyx := blk_cell hYx.out
        go_wp2
        refine bodyPost_ret (retIB rfl rfl (g := w.heap.size + 2) (blk_set (blk_set hRx.out 0 _) 1 _) rfl) rfl ?_
        have hlt := blk_lt hRx.out
        have e6 : insI rs fs g = fs := by unfold insI; rw [hno.out]; rfl
        have hI3 := hIx.out
        rw [hsz3.out] at hI3
        refine ⟨_, rfl, _, by rw [hno.out]; rfl, ?_, Reg.On.set (Reg.On.set hBx.out (by simp; omega) _) (by simp; omega) _⟩
        rw [e6]
        exact OIn.lower (OIn.set (OIn.set hI3 (by simp) _) (by simp) _) (by omega)
      | true =>
        have hyes := Aside0.mk (show insB rs fs g = true by unfold insB; rw [hoo.out, hhh.out, hv]; rfl)
        have hYx := Aside0.mk (blk_below hZ5.out hb6)
        have hIx := Aside0.mk (hI6.out.on hb6)
        clear hv
        have hcr : ∀ i, wx.cell? ⟨w.heap.size + 1 + 1, i, none⟩ = _ := blk_cell hRx.out
        have hfr : ∀ i, wx.frozen? ⟨w.heap.size + 1 + 1, i, none⟩ = _ := blk_frozen hRx.out
        have hyx := blk_cell hYx.out
        go_wp2
        refine bodyPost_ret (retIB rfl rfl (g := w.heap.size + 2) (blk_set (blk_set hRx.out 0 _) 1 _) rfl) rfl ?_
        have e6 : insI rs fs g = putF fs g := by unfold insI; rw [hyes.out]; rfl
        have hlt := blk_lt hL3.out.2.2.1
        have hlt2 := hw34.out
        refine ⟨_, rfl, _, by rw [hyes.out]; rfl, ?_, Reg.On.set (Reg.On.set hBx.out (by simp; omega) _) (by simp; omega) _⟩
        rw [e6]
        exact OIn.lower (OIn.set (OIn.set hIx.out (by simp; omega) _) (by simp; omega) _) (by omega)
end Go.Proofs.Ytngjhblbpapjeaa.H
/- Plain: what the law FnInsertDelete asks of insertion and deletion. No condition. -/
namespace Go.Proofs.Ytngjhblbpapjeaa.H
open Go
set_option maxHeartbeats 1000000
set_option linter.unusedVariables false
set_option linter.unusedSimpArgs false

def srcOk (rs : List Rel) (f : Fct) : Bool := !srcOf rs f.1 || decide ((nuls f.2).length = 0)
theorem factsFrom_src {rs : List Rel} : ∀ {p : Option Fct} {fs : List Fct}, factsFrom rs p fs = true → ∀ f ∈ fs, srcOk rs f = true
  | _, [], _, f, hf => by cases hf
  | p, g :: fs, h, f, hf => by
    simp only [factsFrom, Bool.and_eq_true] at h
    rcases List.mem_cons.1 hf with rfl | hf
    · have := h.1; simp only [okNext, Bool.and_eq_true] at this; exact this.2
    · exact factsFrom_src h.2 f hf
theorem factsFrom_of {rs : List Rel} : ∀ (fs : List Fct) (p : Option Fct), (∀ f ∈ fs, okFact rs f = true) → (∀ f ∈ fs, srcOk rs f = true) → Asc fs → (∀ q, p = some q → ∀ f ∈ fs, cmpF q f < 0) → factsFrom rs p fs = true
  | [], _, _, _, _, _ => by simp [factsFrom]
  | f :: fs, p, h1, hs, h2, h3 => by
    have h4 := List.pairwise_cons.1 h2
    have ih := factsFrom_of (rs := rs) fs (some f) (fun g hg => h1 g (List.mem_cons_of_mem _ hg)) (fun g hg => hs g (List.mem_cons_of_mem _ hg)) h4.2 (fun q hq g hg => by cases hq; exact h4.1 g hg)
    simp only [factsFrom, Bool.and_eq_true]
    refine ⟨?_, ih⟩
    unfold okNext
    rw [h1 f List.mem_cons_self, show (!srcOf rs f.1 || decide ((nuls f.2).length = 0)) = true from hs f List.mem_cons_self]
    cases p with
    | none => rfl
    | some q => show (true && decide (cmpF q f < 0) && true) = true; rw [decide_eq_true (h3 q rfl f List.mem_cons_self)]; rfl
theorem okInst_del {rs : List Rel} {fs : List Fct} (g : Fct) (h : okInst rs fs = true) : okInst rs (delF fs g) = true := by
  have ha := okInst_asc h
  have hm := okInst_mem h
  have h0 := h
  simp only [okInst, Bool.and_eq_true, decide_eq_true_eq] at h0 ⊢
  refine ⟨factsFrom_of _ none (fun f hf => hm f (List.mem_filter.1 hf).1) (fun f hf => factsFrom_src h0.1 f (List.mem_filter.1 hf).1) (List.Pairwise.filter _ ha) (fun q hq => by cases hq), h0.2.1, Nat.le_trans (List.length_filter_le _ _) h0.2.2⟩
/-- The insertion took place. -/
theorem ins_yes {rs : List Rel} {fs : List Fct} {f : Fct} (h : insB rs fs f = true) : insI rs fs f = putF fs f ∧ okInst rs fs = true ∧ hasF fs f = false ∧ okInst rs (putF fs f) = true ∧ hasF (putF fs f) f = true ∧ delI rs (putF fs f) f = fs ∧ (!(fs.any fun g => !hasF (putF fs f) g)) = true := by
  have h0 := h
  simp only [insB, Bool.and_eq_true, Bool.not_eq_true'] at h0
  obtain ⟨h1, h2, h3⟩ := h0
  have hn : f ∉ fs := fun hm => by rw [(hasF_mem fs f).2 hm] at h2; cases h2
  have hp : hasF (putF fs f) f = true := (hasF_mem _ _).2 ((mem_putF f f fs).2 (.inl rfl))
  refine ⟨by unfold insI; rw [h]; rfl, h1, h2, h3, hp, ?_, ?_⟩
  · unfold delI
    rw [h3, hp]
    exact delF_put fs f (okInst_asc h1) hn
  · rw [Bool.not_eq_true', List.any_eq_false]
    intro g hg
    rw [(hasF_mem _ _).2 ((mem_putF f g fs).2 (.inr hg))]
    simp
end Go.Proofs.Ytngjhblbpapjeaa.H
/- Walks: what the law FnInsertDelete calls, in terms of values; its size test. No condition. -/
namespace Go.Proofs.Ytngjhblbpapjeaa.H
open Go Go.RowKit Go.Proofs.YtngjhblbpapjeaaW.PrintWords Go.Proofs.YtngjhblbpapjeaaW.PrintLast
open Go.Proofs.Ytngjhblbpapjeaa.Reg (On on_draw)
set_option maxHeartbeats 4000000
set_option maxRecDepth 100000
set_option linter.unusedVariables false
set_option linter.unusedSimpArgs false

theorem big_calls (w : World) (A n c) : Calls Try.prog 39 #[.slice A n c] w fun e w' => e = .returned (.bool (decide (1048576 < (n : Int)))) ∧ On w w' := by
  go_enter Try.func39, Try.ntmps39
  go_wp2
  go_ret
  exact ⟨rfl, On.refl _⟩
structure Sm (rs : List Rel) (fs : List Fct) : Prop where
  r : rs.length ≤ 5
  f : fs.length ≤ 1000
  m : ∀ f ∈ fs, f.2.length ≤ 3
theorem sInsV (w : World) (v u : Value) (rs : List Rel) (fs : List Fct) (g : Fct) (h : RIn w v rs fs) (k : RFa w u g) (hz : Sm rs fs) (hg : g.2.length ≤ 3) : Calls Try.prog 43 #[v, u] w (Got fun x w' => ∃ v1, x = .tuple #[v1, .bool (insB rs fs g)] ∧ RIn w' v1 rs (insI rs fs g) ∧ On w w') := by
  obtain ⟨A0, c0, A1, c1, rfl, h0, h1⟩ := h.out
  obtain ⟨A2, c2, rfl, h2⟩ := k.out
  refine (sInsertFact_calls w A0 c0 A1 c1 rs fs h0 h1 A2 c2 g h2 (by have := hz.r; omega) (by have := hz.f; omega) (fun f hf => by have := hz.m f hf; omega) (by omega)).mono fun e w' hh => ?_
  obtain ⟨x, e1, v1, e2, hI, hb⟩ := hh
  exact ⟨x, e1, v1, e2, hI.read, hb⟩
end Go.Proofs.Ytngjhblbpapjeaa.H
/- Bindings, the search for homomorphisms. Plain. No condition. -/
namespace Go.Proofs.Ytngjhblbpapjeaa.H
open Go Go.RowKit Go.Proofs.YtngjhblbpapjeaaW.PrintWords Go.Proofs.YtngjhblbpapjeaaW.PrintLast
set_option linter.unusedVariables false
set_option linter.unusedSimpArgs false

/-- A binding of nulls: forty cells, 10 where nothing is bound. -/
def nxt (l : List Int) (v w : Int) : Option (List Int) := if isNul v then (if l.getD (nulNum v).toNat 10 ≠ 10 ∧ l.getD (nulNum v).toNat 10 ≠ w then none else some (l.set (nulNum v).toNat w)) else if v ≠ w then none else some l
def fitFrom : List Int → List Int → List Int → Option (List Int)
  | [], _, x => some x
  | v :: fv, gv, x => (nxt x v (gv.headD 0)).bind fun y => fitFrom fv gv.tail y
def fit (f g : Fct) (x : List Int) : Option (List Int) := if f.1 ≠ g.1 ∨ f.2.length ≠ g.2.length then none else fitFrom f.2 g.2 x
theorem fitFrom_step (fv gv x : List Int) (k : Nat) (h : k < fv.length) (h2 : k < gv.length) : fitFrom (fv.drop k) (gv.drop k) x = (nxt x fv[k] gv[k]).bind fun y => fitFrom (fv.drop (k + 1)) (gv.drop (k + 1)) y := by
  rw [List.drop_eq_getElem_cons h, List.drop_eq_getElem_cons h2]
  rfl
/-- The bindings that go on from x over the facts, at most so many. -/
def walk (tos : List Fct) : List Fct → List Int → Nat → List (List Int)
  | [], x, _ => [x]
  | f :: fs, x, most => tos.foldl (fun out g => if out.length < most then (match fit f g x with | some y => out ++ walk tos fs y (most - out.length) | none => out) else out) []
def wstep (tos fs : List Fct) (f : Fct) (x : List Int) (most : Nat) (out : List (List Int)) (g : Fct) : List (List Int) := if out.length < most then (match fit f g x with | some y => out ++ walk tos fs y (most - out.length) | none => out) else out
theorem walk_cons (tos fs : List Fct) (f : Fct) (x : List Int) (most : Nat) : walk tos (f :: fs) x most = tos.foldl (wstep tos fs f x most) [] := rfl
theorem wstep_full {tos fs : List Fct} {f : Fct} {x : List Int} {most : Nat} {out : List (List Int)} (h : most ≤ out.length) : ∀ l : List Fct, l.foldl (wstep tos fs f x most) out = out
  | [] => rfl
  | g :: l => by
    rw [List.foldl_cons, show wstep tos fs f x most out g = out by unfold wstep; rw [if_neg (by omega)]]
    exact wstep_full h l
theorem wfold_succ (tos fs : List Fct) (f : Fct) (x : List Int) (most : Nat) (k : Nat) (h : k < tos.length) : (tos.take (k + 1)).foldl (wstep tos fs f x most) [] = wstep tos fs f x most ((tos.take k).foldl (wstep tos fs f x most) []) tos[k] := by
  rw [List.take_succ_eq_append_getElem h, List.foldl_append]; rfl
theorem wfold_stop (tos fs : List Fct) (f : Fct) (x : List Int) (most : Nat) (k : Nat) (h : most ≤ ((tos.take k).foldl (wstep tos fs f x most) []).length) : tos.foldl (wstep tos fs f x most) [] = (tos.take k).foldl (wstep tos fs f x most) [] := by
  have e : tos.foldl (wstep tos fs f x most) [] = (tos.take k ++ tos.drop k).foldl (wstep tos fs f x most) [] := by rw [List.take_append_drop]
  rw [e, List.foldl_append]
  exact wstep_full h _
theorem walk_len (tos : List Fct) : ∀ (fs : List Fct) (x : List Int) (most : Nat), 1 ≤ most → (walk tos fs x most).length ≤ most
  | [], _, _, h => h
  | f :: fs, x, most, h => by
    rw [walk_cons]
    have : ∀ (l : List Fct) (out : List (List Int)), out.length ≤ most → (l.foldl (wstep tos fs f x most) out).length ≤ most := by
      intro l
      induction l with
      | nil => intro out h; exact h
      | cons g l ih =>
        intro out ho
        rw [List.foldl_cons]
        refine ih _ ?_
        unfold wstep
        split
        · rename_i hlt
          split
          · rename_i y _
            have := walk_len tos fs y (most - out.length) (by omega)
            rw [List.length_append]; omega
          · exact ho
        · exact ho
    exact this tos [] (Nat.zero_le _)
/-- The substitution that a binding is. -/
def subI : Nat → List Int → List Int × List Int
  | _, [] => ([], [])
  | k, v :: l => if v = 10 then subI (k + 1) l else ((k : Int) :: (subI (k + 1) l).1, v :: (subI (k + 1) l).2)
def none40 : List Int := List.replicate 40 10
def homs (r1 : List Rel) (f1 : List Fct) (r2 : List Rel) (f2 : List Fct) (most : Nat) : List (List Int) := if okInst r1 f1 && okInst r2 f2 && decide (r1 = r2) then walk f2 f1 none40 most else []
def subs (r1 : List Rel) (f1 : List Fct) (r2 : List Rel) (f2 : List Fct) (most : Nat) : List (List Int × List Int) := (homs r1 f1 r2 f2 most).map (subI 0)
def hasHom (r1 : List Rel) (f1 : List Fct) (r2 : List Rel) (f2 : List Fct) : Bool := decide ((homs r1 f1 r2 f2 1).length ≠ 0)
theorem subI_len (k : Nat) (l : List Int) : (subI k l).1.length = (subI k l).2.length ∧ (subI k l).1.length ≤ l.length := by
  induction l generalizing k with
  | nil => simp [subI]
  | cons v l ih =>
    unfold subI
    have := ih (k + 1)
    split
    · simp; omega
    · simp; omega
theorem subI_cons (k : Nat) (v : Int) (l : List Int) : subI k (v :: l) = if v = 10 then subI (k + 1) l else ((k : Int) :: (subI (k + 1) l).1, v :: (subI (k + 1) l).2) := rfl
end Go.Proofs.Ytngjhblbpapjeaa.H
/- Walks: the reference's search for homomorphisms: one fact fitted. No condition. -/
namespace Go.Proofs.Ytngjhblbpapjeaa.H
open Go Go.RowKit Go.Proofs.YtngjhblbpapjeaaW.PrintWords Go.Proofs.YtngjhblbpapjeaaW.PrintLast
open Go.Proofs.Ytngjhblbpapjeaa.Reg (On on_draw)
set_option maxHeartbeats 4000000
set_option maxRecDepth 100000
set_option linter.unusedVariables false
set_option linter.unusedSimpArgs false

theorem own_at0 {w : World} {lo e sz n c : Nat} {A : Option Addr} {cs : List Value} (h : w.ownsRow lo e sz (.slice A n c) n cs) (hn : 0 < n) : ∃ g, A = some ⟨g, 0, none⟩ := by
  rcases h.2 with ⟨h', h2⟩ | ⟨g', cap', cur, h', _⟩
  · injection h' with e1 e2 e3
    subst e1
    omega
  · injection h' with e1 e2 e3
    exact ⟨g', e1⟩
theorem add_zero0 (g m : Nat) : (⟨g, 0, none⟩ : Addr).add m = ⟨g, m, none⟩ := by
  by_cases h : m = 0
  · subst h; rfl
  · simp [Addr.add, h]
theorem inR_set {z : List Int} {m : Nat} {u : Int} (h : InR z) (hu : -9223372036854775808 ≤ u ∧ u ≤ 9223372036854775807) : InR (z.set m u) := fun y hy => by
  rcases List.mem_or_eq_of_mem_set hy with hy | rfl
  · exact h y hy
  · exact hu
end Go.Proofs.Ytngjhblbpapjeaa.H
/- Rows of substitutions: their headers, own rows apart, append. No condition. -/
namespace Go.Proofs.Ytngjhblbpapjeaa.H
open Go Go.RowKit Go.Proofs.YtngjhblbpapjeaaW.PrintWords Go.Proofs.YtngjhblbpapjeaaW.PrintLast
open Go.Proofs.Ytngjhblbpapjeaa.Reg (On on_draw)
set_option maxHeartbeats 4000000
set_option maxRecDepth 100000
set_option linter.unusedVariables false
set_option linter.unusedSimpArgs false

abbrev Sli := Option Addr × Nat × Nat
abbrev SHd := Sli × Sli
abbrev Su := List Int × List Int
abbrev slV (h : Sli) : Value := .slice h.1 h.2.1 h.2.2
abbrev encSb (h : SHd) : List Value := [slV h.1, slV h.2]
abbrev OS (w : World) (lo : Nat) (v : Value) (hs : List SHd) : Prop := w.ownsRow lo 45 2 v hs.length (hs.flatMap encSb)
theorem infoSu : (Try.prog.info? 45).map (fun i => (i.zero, i.size, i.bytes)) = some (some (.agg #[.slice none 0 0, .slice none 0 0]), 2, 48) := by kernel_rfl
/-- A substitution's two rows as two facts (of relation 0). -/
def flH (hs : List SHd) : List Hdr := hs.flatMap fun h => [((0 : Int), h.1), ((0 : Int), h.2)]
def flF (ss : List Su) : List Fct := ss.flatMap fun s => [((0 : Int), s.1), ((0 : Int), s.2)]
theorem flH_append (a b : List SHd) : flH (a ++ b) = flH a ++ flH b := List.flatMap_append
theorem flF_append (a b : List Su) : flF (a ++ b) = flF a ++ flF b := List.flatMap_append
/-- Substitutions whose rows are the call's own and lie apart. -/
structure SepS (w : World) (lo : Nat) (hs : List SHd) (ss : List Su) : Prop where
  len : hs.length = ss.length
  sep : Sep w lo (flH hs) (flF ss)
theorem SepS.nil (w : World) (lo : Nat) : SepS w lo [] [] := ⟨rfl, Sep.nil _ _⟩
theorem SepS.on {W w : World} {lo : Nat} {hs : List SHd} {ss : List Su} (h : SepS W lo hs ss) (hb : On W w) : SepS w lo hs ss := ⟨h.len, h.sep.on hb⟩
theorem SepS.lower {w : World} {lo lo' : Nat} {hs : List SHd} {ss : List Su} (h : SepS w lo hs ss) (hl : lo' ≤ lo) : SepS w lo' hs ss := ⟨h.len, h.sep.lower hl⟩
theorem SepS.set {W : World} {lo : Nat} {hs : List SHd} {ss : List Su} (h : SepS W lo hs ss) {p : Addr} (hp : p.block < lo) (u : Value) : SepS (W.setCell p u) lo hs ss := ⟨h.len, h.sep.set hp u⟩
theorem Sep.append {W w : World} {lo lo2 : Nat} {hs hs' : List Hdr} {fs fs' : List Fct} (h : Sep W lo hs fs) (h' : Sep w lo2 hs' fs') (hb : On W w) (hl : lo ≤ lo2) (h2 : W.heap.size ≤ lo2) : Sep w lo (hs ++ hs') (fs ++ fs') := by
  have hlen := h.len
  refine ⟨by rw [List.length_append, List.length_append, h.len, h'.len], fun i a f ha hf => ?_, fun i j a b k ha hb' h1 h3 => ?_⟩
  · rcases Nat.lt_or_ge i hs.length with hi | hi
    · rw [List.getElem?_append_left hi] at ha
      rw [List.getElem?_append_left (by omega)] at hf
      exact (h.on hb).at_ i a f ha hf
    · rw [List.getElem?_append_right hi] at ha
      rw [List.getElem?_append_right (by omega), ← hlen] at hf
      exact (h'.lower hl).at_ _ a f ha hf
  · rcases Nat.lt_or_ge i hs.length with hi | hi <;> rcases Nat.lt_or_ge j hs.length with hj | hj
    · rw [List.getElem?_append_left hi] at ha
      rw [List.getElem?_append_left hj] at hb'
      exact h.apart i j a b k ha hb' h1 h3
    · rw [List.getElem?_append_left hi] at ha
      rw [List.getElem?_append_right hj] at hb'
      have e1 := (h.lt ha h1).2
      have e2 := (h'.lt hb' h3).1
      omega
    · rw [List.getElem?_append_right hi] at ha
      rw [List.getElem?_append_left hj] at hb'
      have e1 := (h'.lt ha h1).1
      have e2 := (h.lt hb' h3).2
      omega
    · rw [List.getElem?_append_right hi] at ha
      rw [List.getElem?_append_right hj] at hb'
      have := h'.apart _ _ a b k ha hb' h1 h3
      omega
theorem SepS.append {W w : World} {lo lo2 : Nat} {hs hs' : List SHd} {ss ss' : List Su} (h : SepS W lo hs ss) (h' : SepS w lo2 hs' ss') (hb : On W w) (hl : lo ≤ lo2) (h2 : W.heap.size ≤ lo2) : SepS w lo (hs ++ hs') (ss ++ ss') :=
  ⟨by rw [List.length_append, List.length_append, h.len, h'.len], by rw [flH_append, flF_append]; exact h.sep.append h'.sep hb hl h2⟩
theorem SepS.one {w : World} {lo : Nat} {a b : Sli} {ns vs : List Int} (h1 : OI w lo (slV a) ns) (h2 : OI w lo (slV b) vs) (r1 : InR ns) (r2 : InR vs) (hne : ∀ k, (slV a).ownBlock = some k → (slV b).ownBlock = some k → False) : SepS w lo [(a, b)] [(ns, vs)] := by
  refine ⟨rfl, ⟨rfl, fun i x f hx hf => ?_, fun i j x y k hx hy e1 e2 => ?_⟩⟩
  · match i with
    | 0 => obtain rfl := Option.some.inj hx; obtain rfl := Option.some.inj hf; exact ⟨rfl, h1, r1⟩
    | 1 => obtain rfl := Option.some.inj hx; obtain rfl := Option.some.inj hf; exact ⟨rfl, h2, r2⟩
    | i + 2 => simp [flH] at hx
  · match i, j with
    | 0, 0 => rfl
    | 1, 1 => rfl
    | 0, 1 => obtain rfl := Option.some.inj hx; obtain rfl := Option.some.inj hy; exact (hne k e1 e2).elim
    | 1, 0 => obtain rfl := Option.some.inj hx; obtain rfl := Option.some.inj hy; exact (hne k e2 e1).elim
    | i + 2, _ => simp [flH] at hx
    | _, j + 2 => simp [flH] at hy
structure RSm (w : World) (A : Option Addr) (c : Nat) (hs : List SHd) : Prop where
  cap : hs.length ≤ c
  max : hs.length ≤ 9223372036854775807
  cell : ∀ j u, (hs.flatMap encSb)[j]? = some u → ∃ ad, A = some ad ∧ w.cell? (ad.add j) = some u
theorem RSm.on {W w : World} {A : Option Addr} {c : Nat} {hs : List SHd} (h : RSm W A c hs) (hb : On W w) : RSm w A c hs := ⟨h.cap, h.max, fun j u hu => by
  obtain ⟨ad, e, hc⟩ := h.cell j u hu
  exact ⟨ad, e, (hb.eq _ (by rw [hc]; rfl)).trans hc⟩⟩
theorem OS.slice {w : World} {lo : Nat} {v : Value} {hs : List SHd} (h : OS w lo v hs) : ∃ A c, v = .slice A hs.length c ∧ RSm w A c hs := by
  obtain ⟨A, c, rfl⟩ := own_slice h
  obtain ⟨h1, h2⟩ := own_capmax h
  refine ⟨A, c, rfl, h1, h2, fun j u hu => ?_⟩
  rcases h.2 with ⟨h1, h3⟩ | ⟨g, cap, cur, h1, _⟩
  · obtain rfl : hs = [] := List.eq_nil_of_length_eq_zero h3
    simp at hu
  · injection h1 with h1 h5 h6
    subst h1
    exact ⟨_, rfl, h.cells rfl j u hu⟩
theorem lit_Sb (W : World) (a b : Sli) : OS (W.alloc (.cells #[slV a, slV b] 45 (0, 0))) W.heap.size (.slice (some ⟨W.heap.size, 0, none⟩) 1 1) [(a, b)] :=
  lit_own W #[slV a, slV b] 45 2 1 W.heap.size (Nat.le_refl _) (by omega) rfl
section
variable {ops : Array Oper} {rest : List Oper} {o : Oper} {a : Act} {Q : Exit → Act → World → Prop} {W : World}
end
end Go.Proofs.Ytngjhblbpapjeaa.H
/- Walks: the reference's search: a binding told as a substitution. No condition. -/
namespace Go.Proofs.Ytngjhblbpapjeaa.H
open Go Go.RowKit Go.Proofs.YtngjhblbpapjeaaW.PrintWords Go.Proofs.YtngjhblbpapjeaaW.PrintLast
open Go.Proofs.Ytngjhblbpapjeaa.Reg (On on_draw)
set_option maxHeartbeats 4000000
set_option maxRecDepth 100000
set_option linter.unusedVariables false
set_option linter.unusedSimpArgs false

theorem subI_inR : ∀ (l : List Int) (k : Nat), InR l → k + l.length ≤ 1000000 → InR (subI k l).1 ∧ InR (subI k l).2
  | [], k, _, _ => ⟨fun x hx => by simp [subI] at hx, fun x hx => by simp [subI] at hx⟩
  | v :: l, k, h, hk => by
    have ih := subI_inR l (k + 1) (fun x hx => h x (List.mem_cons_of_mem _ hx)) (by simp at hk; omega)
    rw [subI_cons]
    split
    · exact ih
    · simp at hk
      exact ⟨fun x hx => by
        rcases List.mem_cons.1 hx with rfl | hx
        · omega
        · exact ih.1 x hx, fun x hx => by
        rcases List.mem_cons.1 hx with rfl | hx
        · exact h _ List.mem_cons_self
        · exact ih.2 x hx⟩
end Go.Proofs.Ytngjhblbpapjeaa.H
/- Walks: the reference's search for homomorphisms. No condition. -/
namespace Go.Proofs.Ytngjhblbpapjeaa.H
open Go Go.RowKit Go.Proofs.YtngjhblbpapjeaaW.PrintWords Go.Proofs.YtngjhblbpapjeaaW.PrintLast
open Go.Proofs.Ytngjhblbpapjeaa.Reg (On on_draw)
set_option maxHeartbeats 4000000
set_option maxRecDepth 100000
set_option linter.unusedVariables false
set_option linter.unusedSimpArgs false

theorem SepS.grown {w w1 : World} {lo : Nat} {hs zs : List SHd} {ss : List Su} {v : Value} (h : SepS w lo zs ss) (hO : OS w lo v hs) (hg : w.grownBy w1 v.ownBlock) : SepS w1 lo zs ss := by
  refine ⟨h.len, Sep.ex h.sep (Ex.of_grown hg) (fun i a b ha hbk e => ?_)⟩
  have hi : i < (flF ss).length := by rw [← h.sep.len]; exact (List.getElem?_eq_some_iff.1 ha).1
  have hab := (h.sep.at_ i a _ ha (List.getElem?_eq_getElem hi)).2.1
  exact own_ne_blk hab hO (by decide) hbk e.symm
theorem wstep_some {tos fs : List Fct} {f : Fct} {x : List Int} {most : Nat} {out : List (List Int)} {g : Fct} {y : List Int} (h : out.length < most) (hf : fit f g x = some y) : wstep tos fs f x most out g = out ++ walk tos fs y (most - out.length) := by
  unfold wstep; rw [if_pos h, hf]
theorem wstep_none {tos fs : List Fct} {f : Fct} {x : List Int} {most : Nat} {out : List (List Int)} {g : Fct} (h : out.length < most) (hf : fit f g x = none) : wstep tos fs f x most out g = out := by
  unfold wstep; rw [if_pos h, hf]
end Go.Proofs.Ytngjhblbpapjeaa.H
/- Walks: the reference's homomorphisms. No condition. -/
namespace Go.Proofs.Ytngjhblbpapjeaa.H
open Go Go.RowKit Go.Proofs.YtngjhblbpapjeaaW.PrintWords Go.Proofs.YtngjhblbpapjeaaW.PrintLast
open Go.Proofs.Ytngjhblbpapjeaa.Reg (On on_draw)
set_option maxHeartbeats 4000000
set_option maxRecDepth 100000
set_option linter.unusedVariables false
set_option linter.unusedSimpArgs false

theorem subs_no {r1 r2 : List Rel} {f1 f2 : List Fct} {most : Nat} (h : (okInst r1 f1 && okInst r2 f2 && decide (r1 = r2)) = false) : subs r1 f1 r2 f2 most = [] := by
  unfold subs homs; rw [h]; rfl
theorem subs_yes {r1 r2 : List Rel} {f1 f2 : List Fct} {most : Nat} (h : (okInst r1 f1 && okInst r2 f2 && decide (r1 = r2)) = true) : subs r1 f1 r2 f2 most = (walk f2 f1 none40 most).map (subI 0) := by
  unfold subs homs; rw [h]; rfl
end Go.Proofs.Ytngjhblbpapjeaa.H
/- Walks: the reference's FindHomomorphism, HasHomomorphism, AreHomEquivalent. No condition. -/
namespace Go.Proofs.Ytngjhblbpapjeaa.H
open Go Go.RowKit Go.Proofs.YtngjhblbpapjeaaW.PrintWords Go.Proofs.YtngjhblbpapjeaaW.PrintLast
open Go.Proofs.Ytngjhblbpapjeaa.Reg (On on_draw)
set_option maxHeartbeats 4000000
set_option maxRecDepth 100000
set_option linter.unusedVariables false
set_option linter.unusedSimpArgs false

section
variable {fn : Func} {p u : Tmp} {tmps : Array Value} {w : World} {g : Nat} {t : TypeId} {cs : Array Value} {fr : Nat × Nat}
theorem retSB (h : fn.results = #[.cell p 45, .tmp u]) (hp : tmps.getD p undef = .pointer (some ⟨g, 0, none⟩)) (hg : w.heap[g]? = some (.cells cs t fr)) (hs : cs.size = 2) : (results fn tmps).run Try.prog w = .ok (.tuple #[.agg cs, tmps.getD u undef]) w :=
  results_ct h tmps w g t cs fr _ hp hg Try.underlying45 rfl (by rw [hs]; kernel_rfl)
end
theorem subs_len (r1 : List Rel) (f1 : List Fct) (r2 : List Rel) (f2 : List Fct) (most : Nat) (h : 1 ≤ most) : (subs r1 f1 r2 f2 most).length = (homs r1 f1 r2 f2 most).length ∧ (subs r1 f1 r2 f2 most).length ≤ most := by
  have e : (subs r1 f1 r2 f2 most).length = (homs r1 f1 r2 f2 most).length := by unfold subs; rw [List.length_map]
  refine ⟨e, ?_⟩
  rw [e]
  unfold homs
  split
  · exact walk_len _ _ _ _ h
  · simp
end Go.Proofs.Ytngjhblbpapjeaa.H
/- Walks: the program's own search: the visit that keeps. No condition. -/
namespace Go.Proofs.Ytngjhblbpapjeaa.H
open Go Go.RowKit Go.Proofs.YtngjhblbpapjeaaW.PrintWords Go.Proofs.YtngjhblbpapjeaaW.PrintLast
open Go.Proofs.Ytngjhblbpapjeaa.Reg (On on_draw)
set_option maxHeartbeats 4000000
set_option maxRecDepth 100000
set_option linter.unusedVariables false
set_option linter.unusedSimpArgs false

theorem blk_not_own {w : World} {lo e sz n b : Nat} {v : Value} {xs : List Value} {cs : Array Value} {t : TypeId} (h : w.ownsRow lo e sz v n xs) (hb : w.heap[b]? = some (.cells cs t (0, 0))) (hne : t ≠ e) : some b ≠ v.ownBlock := fun e1 => by
  obtain ⟨c, hc⟩ := own_typed h b e1.symm
  rw [hb] at hc
  injection hc with hc
  injection hc with _ h3
  exact hne h3
theorem own_set_other {w : World} {lo e sz n b : Nat} {v : Value} {xs : List Value} {cs : Array Value} {t : TypeId} (h : w.ownsRow lo e sz v n xs) (hb : w.heap[b]? = some (.cells cs t (0, 0))) (hne : t ≠ e) (u : Value) : (w.setCell ⟨b, 0, none⟩ u).ownsRow lo e sz v n xs :=
  own_ex h (Ex.set w ⟨b, 0, none⟩ u) fun i hi e1 => blk_not_own h hb hne (by rw [hi, show i = b from e1])
theorem lit_RS {W w : World} {a b : Sli} (hb : On (W.alloc (.cells #[slV a, slV b] 45 (0, 0))) w) : RSm w (some ⟨W.heap.size, 0, none⟩) 1 [(a, b)] := by
  obtain ⟨A, c, e, h⟩ := OS.slice (pw_own_below (lit_Sb W a b) hb)
  injection e with e1 e2 e3
  subst e1 e3
  exact h
section
variable {ops : Array Oper} {rest : List Oper} {o : Oper} {a : Act} {Q : Exit → Act → World → Prop} {W : World}
theorem apSx (N : Tmp) {s x : Operand} {v : Value} {A : Option Addr} {c base : Nat} {xs ys zs : List SHd} (hz : xs ++ ys = zs)
    (HO : OS W base v xs) (HR : RSm W A c ys) (hbase : base ≤ W.heap.size) (hl : xs.length + ys.length ≤ 1000000000)
    (h : ∀ v1 w1, OS w1 base v1 zs → W.grownBy w1 v.ownBlock → (v1.ownBlock = v.ownBlock ∨ ∃ b, v1.ownBlock = some b ∧ W.heap.size ≤ b) → wpList Try.prog ops Q rest (a.put (some N) v1) w1)
    (hop : o.op = .call { callee := .builtin .append, args := #[s, x], argTypes := #[71, 71] } := by rfl)
    (hd : o.dst = some N := by rfl) (hg : o.guard = none := by rfl) (hs : a.eval s = v := by rfl) (hx : a.eval x = .slice A ys.length c := by rfl) : wpList Try.prog ops Q (o :: rest) a W := by
  subst hz
  obtain ⟨i0, hi, hzz⟩ := Option.map_eq_some_iff.1 infoSu
  simp only [Prod.mk.injEq] at hzz
  obtain ⟨hz0, hz1, hz2⟩ := hzz
  have hnil : ys = [] → wpList Try.prog ops Q (o :: rest) a W := by
    rintro rfl
    rw [List.append_nil] at h
    cases A with
    | none => exact ap_none N Try.underlying71 infoSu HO (h v W HO (World.grownBy.refl W _) (.inl rfl)) hop hd hg hs hx
    | some ad =>
      refine wpList_append_own_at W hg s x 71 hop base 45 i0 _ 2 48 Try.underlying71 hi hz0 hz1 hz2 rfl (by omega) v xs.length _ hs HO ad 0 c [] hx rfl (by simp) (by simp) (by simp at hl; simp [maxLen]; omega) (by simp at hl; omega) hbase fun v1 w1 h1 h2 _ h4 => ?_
      rw [hd]
      exact h v1 w1 (by simpa using h1) h2 (h4.imp id fun e => ⟨_, e, Nat.le_refl _⟩)
  cases A with
  | none =>
    refine hnil ?_
    cases ys with
    | nil => rfl
    | cons y ys => obtain ⟨_, e, _⟩ := HR.cell 0 _ rfl; cases e
  | some ad =>
    refine wpList_append_own_at W hg s x 71 hop base 45 i0 _ 2 48 Try.underlying71 hi hz0 hz1 hz2 rfl (by omega) v xs.length _ hs HO ad ys.length c (ys.flatMap encSb) hx (flat_len (enc := encSb) (sz := 2) (fun _ => rfl) ys) (fun j u hu => ?_) (fun u hu => ?_) (by simp [maxLen]; omega) (by omega) hbase fun v1 w1 h1 h2 _ h4 => ?_
    · obtain ⟨ad', e, hc⟩ := HR.cell j u hu
      injection e with e; subst e; exact hc
    · obtain ⟨y, _, hy⟩ := List.mem_flatMap.1 hu
      simp only [List.mem_cons, List.not_mem_nil, or_false] at hy
      rcases hy with rfl | rfl <;> rfl
    · rw [hd]
      refine h v1 w1 ?_ h2 (h4.imp id fun e => ⟨_, e, Nat.le_refl _⟩)
      have e : (xs ++ ys).flatMap encSb = xs.flatMap encSb ++ ys.flatMap encSb := List.flatMap_append
      show World.ownsRow _ _ _ _ _ (xs ++ ys).length _
      rw [e, List.length_append]
      exact h1
end
theorem keep_calls (w : World) (lo b b2 : Nat) (A : Option Addr) (c : Nat) (hs : List SHd) (x y : Sli) (most : Int) (hO : OS w lo (.slice A hs.length c) hs) (hlo : lo ≤ w.heap.size) (hl : hs.length ≤ 1000)
    (hb0 : w.heap[b]? = some (.cells #[.slice A hs.length c] 71 (0, 0))) (hb2 : w.heap[b2]? = some (.cells #[.int .i64 most] 3 (0, 0))) (hne : b2 ≠ b) :
    Calls Try.prog 130 #[.agg #[slV x, slV y], .pointer (some ⟨b, 0, none⟩), .pointer (some ⟨b2, 0, none⟩)] w fun e w' => ∃ A' c' zs, zs = hs ++ [(x, y)] ∧ e = .returned (.bool ((zs.length : Int) == most)) ∧ OS w' lo (.slice A' zs.length c') zs ∧ w'.heap[b]? = some (.cells #[.slice A' zs.length c'] 71 (0, 0)) ∧ Ex (fun k => k = b ∨ some k = Value.ownBlock (.slice A hs.length c)) w w' ∧ (Value.ownBlock (.slice A' zs.length c') = Value.ownBlock (.slice A hs.length c) ∨ ∃ k, Value.ownBlock (.slice A' zs.length c') = some k ∧ w.heap.size ≤ k) := by
  obtain ⟨x1, x2, x3⟩ := x
  obtain ⟨y1, y2, y3⟩ := y
  have hb := Aside0.mk (On.alloc (On.refl w) (.cells #[.slice x1 x2 x3, .slice y1 y2 y3] 45))
  have hcn := blk_cell (loc_new w #[.slice x1 x2 x3, .slice y1 y2 y3] 45)
  have hc := blk_cell (blk_below hb0 hb.out)
  have hbb := Aside0.mk (show b ≠ w.heap.size ∧ b2 ≠ w.heap.size from ⟨by have := blk_lt hb0; omega, by have := blk_lt hb2; omega⟩)
  obtain ⟨zs, hz⟩ : ∃ zs, hs ++ [(((x1, x2, x3), (y1, y2, y3)) : SHd)] = zs := ⟨_, rfl⟩
  have hb0' := Aside0.mk hb0
  have hb2' := Aside0.mk hb2
  have hO' := Aside0.mk hO
  have hz' := Aside0.mk hz
  clear hb0 hb2 hO hz
  go_enter Try.func130, Try.ntmps130
  go_wp2_with (refine gate 8 ?_)
  have hsz : (w.alloc (.cells #[slV (x1, x2, x3), slV (y1, y2, y3)] 45)).heap.size = w.heap.size + 1 := by simp
  have hR := lit_RS (On.refl ((w.alloc (.cells #[slV (x1, x2, x3), slV (y1, y2, y3)] 45)).alloc (.cells #[slV (x1, x2, x3), slV (y1, y2, y3)] 45 (0, 0))))
  rw [hsz] at hR
  have hB2 := Aside0.mk (hb.out.trans (On.alloc (On.refl _) (.cells #[.slice x1 x2 x3, .slice y1 y2 y3] 45)))
  refine ⟨apSx 8 hz'.out (pw_own_below hO'.out hB2.out) hR (Nat.le_trans hlo hB2.out.size) (by simp; omega) fun v6 w6 hO6 hg6 hat6 => ?_⟩
  obtain ⟨A6, c6, rfl⟩ := own_slice hO6
  have hat := Aside0.mk (hat6.imp id fun ⟨k, e, h⟩ => (⟨k, e, Nat.le_trans hB2.out.size h⟩ : ∃ k, Value.ownBlock (.slice A6 zs.length c6) = some k ∧ w.heap.size ≤ k))
  clear hat6
  have hk0 := blk_grown hg6 (blk_below hb0'.out hB2.out) (blk_not_own hO'.out hb0'.out (by decide))
  have hk2 := blk_grown hg6 (blk_below hb2'.out hB2.out) (blk_not_own hO'.out hb2'.out (by decide))
  have hc0 := blk_cell hk0
  have hf0 := blk_frozen hk0
  have hc2 := blk_cell hk2
  have hk0' := Aside0.mk hk0
  have hE6 := Aside0.mk ((Ex.of_on (S := fun k => k = b ∨ some k = Value.ownBlock (.slice A hs.length c)) hB2.out).trans (Ex.of_grown hg6) (fun i _ e => .inr e))
  have hO6' := Aside0.mk hO6
  clear hR hsz hcn hc hk0 hk2 hg6 hO6
  go_wp2
  go_ret
  exact ⟨A6, c6, zs, hz'.out.symm, rfl, own_set_other hO6'.out hk0'.out (by decide) _, blk_set hk0'.out 0 _, hE6.out.trans (Ex.set _ _ _) (fun i _ e => .inl e), hat.out⟩
end Go.Proofs.Ytngjhblbpapjeaa.H
/- Bindings kept in a map: what a block of the kind map[int]int tells of forty cells. No condition. -/
namespace Go.Proofs.Ytngjhblbpapjeaa.H
open Go Go.RowKit Go.Proofs.YtngjhblbpapjeaaW.PrintWords Go.Proofs.YtngjhblbpapjeaaW.PrintLast
open Go.Proofs.Ytngjhblbpapjeaa.Reg (On on_draw)
set_option maxHeartbeats 4000000
set_option maxRecDepth 100000
set_option linter.unusedVariables false
set_option linter.unusedSimpArgs false

theorem mapClone_calls (w : World) (b : Nat) (es : Array MapEntry) (clock : Nat) (hb : w.heap[b]? = some (.map es clock)) :
    Calls Try.prog 175 #[.map (some b)] w fun e w' => e = .returned (.map (some w.heap.size)) ∧ w' = w.alloc (.map es clock) := by
  have hq := fun w => run_eql_map_nil_sl (P := Try.prog) w 126 _ _ (some b) Try.underlying126
  go_enter Try.func175, Try.ntmps175
  go_wp2
  rw [run_callFunc_extern Try.func182 (by kernel_rfl) (by kernel_rfl) (by kernel_rfl) (e := Extern.MapsClone.clone) (by kernel_rfl), run_maps_clone_sl w 126 hb]
  simp only [Result.andThen]
  rw [Oper.upon_value]
  go_wp2
  rw [run_typeAssert_map_sl _ 126 _ _ _ _ Try.underlying126]
  simp only [Result.andThen]
  rw [Oper.upon_value]
  go_wp2
  go_ret
  exact ⟨rfl, rfl⟩
abbrev kl (k : Int) : Lit := .int .i64 k
noncomputable abbrev plE (v : Value) : Option (DataW Unit × List MemPlace) := plainElem Try.prog 3 v
/-- The block b is a map of at most n entries that tells the binding z. -/
structure BM (w : World) (b n : Nat) (z : List Int) : Prop where
  mk :: (out : ∃ D : DataW Unit, w.ownsMap Try.prog 3 plE b n D ∧ Maps.IsMap D ∧ (∀ k : Nat, k < 40 → Maps.has D (kl k) = decide (z.getD k 10 ≠ 10) ∧ (z.getD k 10 ≠ 10 → ∀ zd, D.atKey (kl k) zd = .lit (.int .i64 (z.getD k 10)))) ∧ ∀ k : Int, Maps.has D (kl k) = true → 0 ≤ k ∧ k < 40)
theorem none40_get (k : Nat) : none40.getD k 10 = 10 := by
  unfold none40
  rw [List.getD_eq_getElem?_getD, List.getElem?_replicate]
  split <;> rfl
theorem BM.start (w : World) : BM (w.alloc (.map #[] 0)) w.heap.size 0 none40 := by
  refine ⟨.map [], World.ownsMap_made w _ _ _, ⟨_, rfl⟩, fun k hk => ⟨?_, fun h => absurd (none40_get k) h⟩, fun k h => ?_⟩
  · rw [none40_get]; rfl
  · cases h
theorem BM.on {W w : World} {b n : Nat} {z : List Int} (h : BM W b n z) (hb : On W w) : BM w b n z := by
  obtain ⟨D, h1, h2⟩ := h.out
  exact ⟨D, h1.kept (grown_of_below hb none) (by simp), h2⟩
theorem wf_i64 {a : Int} (h : -9223372036854775808 ≤ a ∧ a ≤ 9223372036854775807) : (Lit.int .i64 a).wf = true := by
  show (decide (IntKind.i64.min ≤ a) && decide (a ≤ IntKind.i64.max)) = true
  rw [show IntKind.i64.min = -9223372036854775808 from rfl, show IntKind.i64.max = 9223372036854775807 from rfl]
  simp [h.1, h.2]
theorem key_lit {k : Int} (h : 0 ≤ k ∧ k < 40) : keyOf Try.prog 3 (.int .i64 k) = some (kl k) := Maps.keyOf_int_mk Try.underlying3 (wf_i64 (by omega))
theorem keyed : Maps.Keyed Try.prog 3 := Maps.int_keyed Try.underlying3
section
variable {ops : Array Oper} {rest : List Oper} {o : Oper} {a : Act} {Q : Exit → Act → World → Prop} {W : World} {b n : Nat} {z : List Int}
theorem bmLookOk (N : Tmp) {m x : Operand} (h : BM W b n z) (k : Nat) (hk : k < 40) (K : wpList Try.prog ops Q rest (a.put (some N) (.tuple #[.int .i64 (if z.getD k 10 = 10 then 0 else z.getD k 10), .bool (decide (z.getD k 10 ≠ 10))])) W)
    (hop : o.op = Op.lookup 126 m x true := by rfl) (hd : o.dst = some N := by rfl) (hg : o.guard = none := by rfl) (hm : a.eval m = .map (some b) := by rfl) (hx : a.eval x = .int .i64 (k : Int) := by rfl) : wpList Try.prog ops Q (o :: rest) a W := by
  obtain ⟨D, h1, h2, h3, h4⟩ := h.out
  refine wpList_lookup_own_ok_int W hg m x 126 hop 3 3 .i64 keyed Try.underlying126 Try.underlying3 (Try.zeroValue3 W) b n D hm h1 _ (kl k) hx (key_lit (by omega)) fun c hc hw => ?_
  rw [hd, (h3 k hk).1]
  by_cases h10 : z.getD k 10 = 10
  · have e := Maps.atKey_of_not_has (by rw [(h3 k hk).1, h10]; rfl : Maps.has D (kl k) = false) (DataW.lit (.int .i64 0))
    rw [hc] at e
    injection e with e
    injection e with _ e
    subst e
    rw [if_pos h10] at K
    exact K
  · have e := (h3 k hk).2 h10 (.lit (.int .i64 0))
    rw [hc] at e
    injection e with e
    injection e with _ e
    subst e
    rw [if_neg h10] at K
    exact K
theorem set_get (z : List Int) (k : Nat) (hk : k < z.length) (u : Int) (j : Nat) : (z.set k u).getD j 10 = if j = k then u else z.getD j 10 := by
  rw [List.getD_eq_getElem?_getD, List.getD_eq_getElem?_getD, List.getElem?_set]
  by_cases h : k = j
  · subst h; simp [hk]
  · rw [if_neg h, if_neg (fun e => h e.symm)]
theorem bmSet {m x v : Operand} (h : BM W b n z) (hn : n < 1000000) (k : Nat) (hk : k < 40) (hz : z.length = 40) (u : Int) (hu : u ≠ 10) (hr : -9223372036854775808 ≤ u ∧ u ≤ 9223372036854775807)
    (K : ∀ w', BM w' b (n + 1) (z.set k u) → W.grownBy w' (some b) → wpList Try.prog ops Q rest (a.put o.dst undef) w')
    (hop : o.op = Op.mapUpdate 126 m x v := by rfl) (hg : o.guard = none := by rfl) (hm : a.eval m = .map (some b) := by rfl) (hx : a.eval x = .int .i64 (k : Int) := by rfl) (hv : a.eval v = .int .i64 u := by rfl) : wpList Try.prog ops Q (o :: rest) a W := by
  obtain ⟨D, h1, h2, h3, h4⟩ := h.out
  have hkey := key_lit (k := (k : Int)) (by omega)
  refine wpList_mapUpdate_own W hg m x v 126 hop 3 3 keyed Try.underlying126 plE b n D hm h1 (by simp [maxLen]; omega) _ _ (kl k) hx hv hkey (.lit (.int .i64 u)) [] (plainElem_int Try.underlying3 (wf_i64 hr)) fun w' h5 h6 => K w' ⟨_, h5, h2.put _ _, fun j hj => ?_, fun j hj => ?_⟩ h6
  · rw [set_get z k (by omega) u j]
    by_cases e : j = k
    · subst e
      rw [if_pos rfl]
      exact ⟨by rw [Maps.has_put_same h2 (keyed.key hkey)]; simp [hu], fun _ zd => Maps.atKey_put_same h2 (keyed.key hkey) _ zd⟩
    · have hne : kl j ≠ kl k := fun c => by injection c with _ c; omega
      rw [if_neg e]
      exact ⟨by rw [Maps.has_put_other hne]; exact (h3 j hj).1, fun h10 zd => by rw [Maps.atKey_put_other hne]; exact (h3 j hj).2 h10 zd⟩
  · by_cases e : j = k
    · omega
    · have hne : kl j ≠ kl k := fun c => by injection c with _ c; exact e c
      rw [Maps.has_put_other hne] at hj
      exact h4 j hj
end
end Go.Proofs.Ytngjhblbpapjeaa.H
/- Walks: the program's own search: one fact mapped. No condition. -/
namespace Go.Proofs.Ytngjhblbpapjeaa.H
open Go Go.RowKit Go.Proofs.YtngjhblbpapjeaaW.PrintWords Go.Proofs.YtngjhblbpapjeaaW.PrintLast
open Go.Proofs.Ytngjhblbpapjeaa.Reg (On on_draw)
set_option maxHeartbeats 4000000
set_option maxRecDepth 100000
set_option linter.unusedVariables false
set_option linter.unusedSimpArgs false

theorem BM.mono {w : World} {b n n' : Nat} {z : List Int} (h : BM w b n z) (hn : n ≤ n') : BM w b n' z := by
  obtain ⟨D, h1, h2⟩ := h.out
  exact ⟨D, h1.mono hn, h2⟩
theorem bmClone_calls (w : World) (b n : Nat) (z : List Int) (h : BM w b n z) : Calls Try.prog 175 #[.map (some b)] w fun e w' => e = .returned (.map (some w.heap.size)) ∧ BM w' w.heap.size n z ∧ On w w' := by
  obtain ⟨D, ⟨es, clock, hb, F, hs, hD⟩, h2⟩ := h.out
  refine (mapClone_calls w b es clock hb).mono fun e w' hh => ?_
  obtain ⟨rfl, rfl⟩ := hh
  exact ⟨rfl, ⟨D, ⟨es, clock, (MapKept.heap_alloc w _).1, F, hs, hD⟩, h2⟩, On.alloc (On.refl w) _⟩
theorem mapped_calls (w : World) (b n : Nat) (A0 c0 A1 c1) (f g : Fct) (x : List Int) (h0 : Ints w A0 c0 f.2) (h1 : Ints w A1 c1 g.2) (h2 : BM w b n x) (hR : InR x) (hx : x.length = 40) (hg10 : ∀ v ∈ g.2, v ≠ 10) (hn : n + f.2.length < 1000000) :
    Calls Try.prog 153 #[.map (some b), .agg #[.int .i64 f.1, .slice A0 f.2.length c0], .agg #[.int .i64 g.1, .slice A1 g.2.length c1]] w (Got fun v w' => ∃ mv, v = .tuple #[mv, .bool (fit f g x).isSome] ∧ (∀ y, fit f g x = some y → ∃ b', mv = .map (some b') ∧ BM w' b' (n + f.2.length) y ∧ w.heap.size ≤ b' ∧ InR y ∧ y.length = 40) ∧ On w w') := by
  have hm0 := h0.max
  have hm1 := h1.max
  have hx' := Aside0.mk hx
  clear hx
  have hb := Aside0.mk (On.alloc (On.alloc (On.refl w) (.cells #[.int .i64 f.1, .slice A0 f.2.length c0] 55)) (.cells #[.int .i64 g.1, .slice A1 g.2.length c1] 55))
  have hL := Aside0.mk (loc2 w #[.int .i64 f.1, .slice A0 f.2.length c0] #[.int .i64 g.1, .slice A1 g.2.length c1] 55 55)
  have hsx := Aside0.mk (show ((w.alloc (.cells #[.int .i64 f.1, .slice A0 f.2.length c0] 55)).alloc (.cells #[.int .i64 g.1, .slice A1 g.2.length c1] 55)).heap.size = w.heap.size + 1 + 1 by simp)
  by_cases hr : f.1 = g.1
  · have hrb : (f.1 == g.1) = true := by simp [hr]
    have hrc : (f.1 != g.1) = false := by simp [bne, hrb]
    have hr' := Aside0.mk hr
    clear hr
    by_cases hl : f.2.length = g.2.length
    · have hlb : ((f.2.length : Int) == (g.2.length : Int)) = true := by simp [hl]
      have hlc : ((f.2.length : Int) != (g.2.length : Int)) = false := by simp [bne, hlb]
      have hld : (f.2.length == g.2.length) = true := by simp [hl]
      have hl' := Aside0.mk hl
      clear hl
      have hfit := Aside0.mk (show fit f g x = fitFrom f.2 g.2 x by unfold fit; rw [if_neg (by simp [hr'.out, hl'.out])])
      go_enter Try.func153, Try.ntmps153
      go_wp2_with (refine gate 31 ?_)
      clear hlb hlc hld hrb hrc
      obtain ⟨Wx, hWx⟩ : ∃ Wx, (w.alloc (.cells #[.int .i64 f.1, .slice A0 f.2.length c0] 55)).alloc (.cells #[.int .i64 g.1, .slice A1 g.2.length c1] 55) = Wx := ⟨_, rfl⟩
      rw [hWx] at hb hL hsx ⊢
      clear hWx
      refine ⟨goesF 31 Try.func175 ((bmClone_calls Wx b n x (h2.on hb.out)).mono ?_)⟩
      rintro e w3 ⟨rfl, hM3, hb3⟩
      refine ⟨_, rfl, ?_⟩
      have hBs := Aside0.mk hb3
      have hM3' := Aside0.mk hM3
      have hbz := Aside0.mk (show w.heap.size + 1 + 1 = Wx.heap.size from hsx.out.symm)
      obtain ⟨q, hq0⟩ : ∃ q, Wx.heap.size = q := ⟨_, rfl⟩
      have hq'0 := Aside0.mk hq0
      rw [hq0] at hM3' ⊢
      have hL3 := Aside0.mk (Loc.on hb3 hL.out)
      have hd0 := blk_cell hL3.out.1
      clear hb3 hM3 hq0
      go_wp2
      clear hd0
      go_loopw [35] (fun v wr => ∃ (k : Nat) (z : List Int), k ≤ f.2.length ∧ v = .int .i64 k ∧ Aside0 (fitFrom (f.2.drop k) (g.2.drop k) z = fitFrom f.2 g.2 x) ∧ Aside0 (z.length = x.length ∧ InR z) ∧ Aside0 (BM wr q (n + k) z) ∧ Aside0 (On Wx wr)) (fun v _ => f.2.length - (intOf v).toNat)
      case atStart => exact ⟨0, x, Nat.zero_le _, rfl, ⟨rfl⟩, ⟨rfl, hR⟩, hM3', hBs⟩
      case round =>
        obtain ⟨k, z, hk, rfl, hp, hz, hM, hB⟩ := hrel
        have hBr := Aside0.mk (hb.out.trans hB.out)
        have hLr := Aside0.mk (Loc.on hB.out hL.out)
        have hd0 := blk_cell hLr.out.1
        have hd1 := blk_cell hLr.out.2.1
        by_cases hlt : k < f.2.length
        · have hlt2 : k < g.2.length := by have := hl'.out; omega
          obtain ⟨ad, rfl, hx1⟩ := (h0.on hBr.out).at k hlt
          obtain ⟨bd, rfl, hy1⟩ := (h1.on hBr.out).at k hlt2
          have hbd := h0.bd k hlt
          have hgd := Aside0.mk (h1.bd k hlt2)
          have hst := Aside0.mk ((fitFrom_step f.2 g.2 z k hlt hlt2).symm.trans hp.out)
          clear hp
          have hu10 := Aside0.mk (show g.2[k] ≠ 10 from hg10 _ (List.getElem_mem hlt2))
          cases hv : isNul f.2[k] with
          | false =>
            have hv' := Aside0.mk hv
            have hm := Aside0.mk (show nulNum f.2[k] = (nulNum f.2[k]) from rfl)
            clear hv
            by_cases hq : f.2[k] = g.2[k]
            · have hq2 : (f.2[k] != g.2[k]) = false := by simp [bne, hq]
              have hq3 : (f.2[k] == g.2[k]) = true := by simp [hq]
              have hq' := Aside0.mk hq
              clear hq
              go_wp2_with (
                (go_at_call 102; refine (iNullNumber_calls _ _ hbd).mono ?_; rintro e w2 ⟨rfl, hb2⟩; rw [hv'.out, hm.out]; have hL2 := Aside0.mk (Loc.on hb2 hLr.out); have hd0 := blk_cell hL2.out.1; have hd1 := blk_cell hL2.out.2.1; replace hx1 := (hb2.eq _ (by rw [hx1]; rfl)).trans hx1; replace hy1 := (hb2.eq _ (by rw [hy1]; rfl)).trans hy1)
                )
              have hn : nxt z f.2[k] g.2[k] = some z := by unfold nxt; rw [hv'.out]; simp [hq'.out]
              exact ⟨⟨k + 1, z, by omega, by go_num, ⟨by rw [← hst.out, hn]; rfl⟩, hz, ⟨(hM.out.on hb2).mono (by omega)⟩, ⟨hB.out.trans hb2⟩⟩, by simp [intOf]; omega⟩
            · have hq2 : (f.2[k] != g.2[k]) = true := by simp [bne]; exact hq
              have hq3 : (f.2[k] == g.2[k]) = false := by simpa using hq
              have hq' := Aside0.mk hq
              clear hq
              go_wp2_with (
                (go_at_call 102; refine (iNullNumber_calls _ _ hbd).mono ?_; rintro e w2 ⟨rfl, hb2⟩; rw [hv'.out, hm.out]; have hL2 := Aside0.mk (Loc.on hb2 hLr.out); have hd0 := blk_cell hL2.out.1; have hd1 := blk_cell hL2.out.2.1; replace hx1 := (hb2.eq _ (by rw [hx1]; rfl)).trans hx1; replace hy1 := (hb2.eq _ (by rw [hy1]; rfl)).trans hy1)
                )
              go_ret2
              have hn : nxt z f.2[k] g.2[k] = none := by unfold nxt; rw [hv'.out]; simp [hq'.out]
              have hno : fit f g x = none := by rw [hfit.out, ← hst.out, hn]; rfl
              exact ⟨_, rfl, (.map none), by rw [hno]; rfl, fun y hy => (by rw [hno] at hy; cases hy), hBr.out.trans hb2⟩
          | true =>
            obtain ⟨m, hm0, hm40⟩ : ∃ m : Nat, nulNum f.2[k] = (m : Int) ∧ m < 40 := by
              refine ⟨(nulNum f.2[k]).toNat, ?_, ?_⟩ <;> (unfold nulNum; rw [hv]; simp only [isNul, decide_eq_true_eq] at hv; simp only [if_true]; omega)
            have hm := Aside0.mk hm0
            have hv' := Aside0.mk hv
            have hzl := Aside0.mk (hz.out.1.trans hx'.out)
            have hm4 := Aside0.mk hm40
            have hget := Aside0.mk (show (nulNum f.2[k]).toNat = m by rw [hm0]; rfl)
            clear hv hm0 hm40
            by_cases h10 : z.getD m 10 = 10
            · have h10' := Aside0.mk h10
              clear h10
              go_wp2_with (first
                |
                (go_at_call 102; refine (iNullNumber_calls _ _ hbd).mono ?_; rintro e w2 ⟨rfl, hb2⟩; rw [hv'.out, hm.out]; have hL2 := Aside0.mk (Loc.on hb2 hLr.out); have hd0 := blk_cell hL2.out.1; have hd1 := blk_cell hL2.out.2.1; replace hx1 := (hb2.eq _ (by rw [hx1]; rfl)).trans hx1; replace hy1 := (hb2.eq _ (by rw [hy1]; rfl)).trans hy1)
                | (refine gate 58 ?_))
              refine ⟨bmLookOk 58 (hM.out.on hb2) m hm4.out ?_⟩
              rw [if_pos h10'.out, show decide (z.getD m 10 ≠ 10) = false from decide_eq_false (fun h => h h10'.out)]
              go_wp2_with (at_mapUpdate; refine bmSet (hM.out.on hb2) (by omega) m hm4.out hzl.out g.2[k] hu10.out hgd.out (fun w6 h6 hg6 => ?_))
              have hn : nxt z f.2[k] g.2[k] = some (z.set m g.2[k]) := by unfold nxt; rw [hv'.out, if_pos rfl, hget.out, if_neg (fun h => by first | exact h.1 h10'.out | exact h.2 hq'.out)]
              exact ⟨⟨k + 1, z.set m g.2[k], by omega, by go_num, ⟨by rw [← hst.out, hn]; rfl⟩, ⟨by rw [List.length_set]; exact hz.out.1, inR_set hz.out.2 hgd.out⟩, ⟨h6⟩, ⟨on_grown (hB.out.trans hb2) hg6 (fun j hj => by injection hj with hj; have := hq'0.out; omega)⟩⟩, by simp [intOf]; omega⟩
            · by_cases hq : z.getD m 10 = g.2[k]
              · have h10' := Aside0.mk h10
                have hq' := Aside0.mk hq
                have hq2 : (g.2[k] != g.2[k]) = false := by simp
                clear h10 hq
                go_wp2_with (first
                  |
                  (go_at_call 102; refine (iNullNumber_calls _ _ hbd).mono ?_; rintro e w2 ⟨rfl, hb2⟩; rw [hv'.out, hm.out]; have hL2 := Aside0.mk (Loc.on hb2 hLr.out); have hd0 := blk_cell hL2.out.1; have hd1 := blk_cell hL2.out.2.1; replace hx1 := (hb2.eq _ (by rw [hx1]; rfl)).trans hx1; replace hy1 := (hb2.eq _ (by rw [hy1]; rfl)).trans hy1)
                  | (refine gate 58 ?_))
                refine ⟨bmLookOk 58 (hM.out.on hb2) m hm4.out ?_⟩
                rw [if_neg h10'.out, show decide (z.getD m 10 ≠ 10) = true from decide_eq_true h10'.out, hq'.out]
                go_wp2_with (at_mapUpdate; refine bmSet (hM.out.on hb2) (by omega) m hm4.out hzl.out g.2[k] hu10.out hgd.out (fun w6 h6 hg6 => ?_))
                have hn : nxt z f.2[k] g.2[k] = some (z.set m g.2[k]) := by unfold nxt; rw [hv'.out, if_pos rfl, hget.out, if_neg (fun h => by first | exact h.1 h10'.out | exact h.2 hq'.out)]
                exact ⟨⟨k + 1, z.set m g.2[k], by omega, by go_num, ⟨by rw [← hst.out, hn]; rfl⟩, ⟨by rw [List.length_set]; exact hz.out.1, inR_set hz.out.2 hgd.out⟩, ⟨h6⟩, ⟨on_grown (hB.out.trans hb2) hg6 (fun j hj => by injection hj with hj; have := hq'0.out; omega)⟩⟩, by simp [intOf]; omega⟩
              · have h10' := Aside0.mk h10
                have hq' := Aside0.mk hq
                obtain ⟨c, hc⟩ : ∃ c, z.getD m 10 = c := ⟨_, rfl⟩
                rw [hc] at hq
                have hc' := Aside0.mk hc
                have hq2 : (c != g.2[k]) = true := by simp [bne]; exact hq
                have hq3 : (c == g.2[k]) = false := by simpa using hq
                clear h10 hq hc
                go_wp2_with (first
                  |
                  (go_at_call 102; refine (iNullNumber_calls _ _ hbd).mono ?_; rintro e w2 ⟨rfl, hb2⟩; rw [hv'.out, hm.out]; have hL2 := Aside0.mk (Loc.on hb2 hLr.out); have hd0 := blk_cell hL2.out.1; have hd1 := blk_cell hL2.out.2.1; replace hx1 := (hb2.eq _ (by rw [hx1]; rfl)).trans hx1; replace hy1 := (hb2.eq _ (by rw [hy1]; rfl)).trans hy1)
                  | (refine gate 58 ?_))
                refine ⟨bmLookOk 58 (hM.out.on hb2) m hm4.out ?_⟩
                rw [if_neg h10'.out, show decide (z.getD m 10 ≠ 10) = true from decide_eq_true h10'.out, hc'.out]
                go_wp2
                go_ret2
                have hn : nxt z f.2[k] g.2[k] = none := by unfold nxt; rw [hv'.out, if_pos rfl, hget.out, if_pos ⟨h10'.out, hq'.out⟩]
                have hno : fit f g x = none := by rw [hfit.out, ← hst.out, hn]; rfl
                exact ⟨_, rfl, (.map none), by rw [hno]; rfl, fun y hy => (by rw [hno] at hy; cases hy), hBr.out.trans hb2⟩
        · have hfin := Aside0.mk (show fit f g x = some z by rw [hfit.out, ← hp.out, List.drop_of_length_le (by omega)]; rfl)
          go_wp2
          go_ret2
          refine ⟨_, rfl, .map (some q), by rw [hfin.out]; rfl, fun y hy => ?_, hBr.out⟩
          rw [hfin.out] at hy
          obtain rfl : z = y := Option.some.inj hy
          exact ⟨q, rfl, hM.out.mono (by omega), by have h1 := hq'0.out; have h2 := hsx.out; omega, hz.out.2, hz.out.1.trans hx'.out⟩
    · have hlb : ((f.2.length : Int) == (g.2.length : Int)) = false := by rw [beq_eq_false_iff_ne]; omega
      have hlc : ((f.2.length : Int) != (g.2.length : Int)) = true := by simp [bne, hlb]
      have hld : (f.2.length == g.2.length) = false := by simpa using hl
      have hno := Aside0.mk (show fit f g x = none by unfold fit; rw [if_pos (.inr hl)])
      clear hl
      go_enter Try.func153, Try.ntmps153
      go_wp2
      go_ret2
      exact ⟨_, rfl, (.map none), by rw [hno.out]; rfl, fun y hy => (by rw [hno.out] at hy; cases hy), hb.out⟩
  · have hrb : (f.1 == g.1) = false := by simpa using hr
    have hrc : (f.1 != g.1) = true := by simp [bne, hrb]
    have hno := Aside0.mk (show fit f g x = none by unfold fit; rw [if_pos (.inl hr)])
    clear hr
    go_enter Try.func153, Try.ntmps153
    go_wp2
    go_ret2
    exact ⟨_, rfl, (.map none), by rw [hno.out]; rfl, fun y hy => (by rw [hno.out] at hy; cases hy), hb.out⟩
end Go.Proofs.Ytngjhblbpapjeaa.H
/- The shelf's maps.Keys and slices.Sorted at this program: the facts they ask. Printed by a program of this session. No condition. -/
namespace Go.Proofs.Ytngjhblbpapjeaa.H
open Go Go.RowKit Go.Shelf Go.Proofs.YtngjhblbpapjeaaW.PrintWords
set_option maxRecDepth 100000
def keysRen : Go.Shelf.Ren := ⟨fun | 6 => 151 | 7 => 152 | 8 => 173 | 9 => 103 | 10 => 174 | 11 => 181 | n => n, fun | 0 => 0 | 3 => 3 | 4 => 4 | 23 => 126 | 24 => 27 | 26 => 3 | 27 => 147 | 28 => 148 | 33 => 116 | n => n, fun | n => n⟩
theorem laysKeys : Go.Proofs.SlLaysZI.n7 Try.prog keysRen := {
  mixed := by kernel_rfl
  f7 := ⟨Try.f152.name, by decide, Try.func152.trans (congrArg some (by kernel_rfl))⟩
  f10 := ⟨Try.f174.name, by decide, Try.func174.trans (congrArg some (by kernel_rfl))⟩
  t0 := Try.underlying0
  a0 := Try.isAgg0
  z0 := Try.sizeOf0
  v0 := Try.zeroValue0
  t4 := Try.underlying4
  a4 := Try.isAgg4
  z4 := Try.sizeOf4
  v4 := Try.zeroValue4
  t23 := Try.underlying126
  a23 := Try.isAgg126
  z23 := Try.sizeOf126
  v23 := Try.zeroValue126
  t26 := Try.underlying3
  a26 := Try.isAgg3
  z26 := Try.sizeOf3
  v26 := Try.zeroValue3
  t27 := Try.underlying147
  a27 := Try.isAgg147
  z27 := Try.sizeOf147
  v27 := Try.zeroValue147
  t28 := Try.underlying148
  a28 := Try.isAgg148
  z28 := Try.sizeOf148
  v28 := Try.zeroValue148
  t33 := Try.underlying116
  a33 := Try.isAgg116
  z33 := Try.sizeOf116
  v33 := Try.zeroValue116 }
theorem laysSorted : Go.Proofs.SlLaysZI.n6 Try.prog keysRen := {
  mixed := by kernel_rfl
  f6 := ⟨Try.f151.name, by decide, Try.func151.trans (congrArg some (by kernel_rfl))⟩
  f8 := ⟨Try.f173.name, by decide, Try.func173.trans (congrArg some (by kernel_rfl))⟩
  f11 := ⟨Try.f181.name, by decide, Try.func181.trans (congrArg some (by kernel_rfl))⟩
  t0 := Try.underlying0
  a0 := Try.isAgg0
  z0 := Try.sizeOf0
  v0 := Try.zeroValue0
  t24 := Try.underlying27
  a24 := Try.isAgg27
  z24 := Try.sizeOf27
  v24 := Try.zeroValue27
  t26 := Try.underlying3
  a26 := Try.isAgg3
  z26 := Try.sizeOf3
  v26 := Try.zeroValue3
  t28 := Try.underlying148
  a28 := Try.isAgg148
  z28 := Try.sizeOf148
  v28 := Try.zeroValue148
  i26 := by kernel_rfl }
end Go.Proofs.Ytngjhblbpapjeaa.H
/- Walks: a map's keys, sorted. No condition. -/
namespace Go.Proofs.Ytngjhblbpapjeaa.H
open Go Go.RowKit Go.Shelf Go.Maps Go.Sort Go.Proofs.YtngjhblbpapjeaaW.PrintWords
open Go.Proofs.Ytngjhblbpapjeaa.Reg (On on_draw)
set_option maxHeartbeats 1000000
set_option maxRecDepth 100000

theorem keysOf_calls (w : World) (b : Nat) : Calls Try.prog 152 #[.map (some b)] w fun e w' => e = .returned (.func (.func 174) #[] #[.pointer (some ⟨w.heap.size, 0, none⟩)]) ∧ w' = w.alloc (.cells #[.map (some b)] 126) :=
  (callsIn_wide (n := 5)).1 (AnyZI.keys_in laysKeys Fence.wide 5 trivial rfl (some b) w)
theorem sortsK (m : Nat) : AnyZI.SortsIn Try.prog keysRen Fence.wide m :=
  ⟨fun blk off cap ss W hH hblk hsz => callsIn_wide.2 (Try.slices_Sort_int blk off cap ss W hH hblk hsz),
   fun p cap W => callsIn_wide.2 (Try.slices_Sort_int_none p cap W)⟩
theorem sortedKeys_calls (w : World) (b n : Nat) (D : DataW Unit) (hown : w.ownsMap Try.prog 3 plE b n D) (hmax : Maps.size D ≤ 1000000) :
    Calls Try.prog 151 #[.func (.func 174) #[] #[.pointer (some ⟨w.heap.size, 0, none⟩)]] (w.alloc (.cells #[.map (some b)] 126)) fun e w' => ∃ (v : Value) (ss : List Int), e = .returned v ∧ ss.Perm (intKeys D) ∧
      w'.ownsRow (w.alloc (.cells #[.map (some b)] 126)).heap.size 3 1 v ss.length ((ss.mergeSort (fun x y => decide (x ≤ y))).map encZ) ∧ On (w.alloc (.cells #[.map (some b)] 126)) w' := by
  have hbl := hown.lt
  have hseq : SeqGives Fence.wide 2 Try.prog 174 #[.pointer (some ⟨w.heap.size, 0, none⟩)] encZ (fun ss => ss.Perm (intKeys D)) (Maps.size D) (w.alloc (.cells #[.map (some b)] 126)) :=
    AnyZI.keys_gives (ρ := keysRen) { laysKeys with } Fence.wide _ trivial rfl (by omega) w.heap.size b n D _ (by simp) (by simp) (by
      obtain ⟨es, clock, hb, Ft, hs, hD⟩ := hown
      exact ⟨es, clock, (Below.heap_alloc _ _ b hbl).trans hb, Ft, hs, hD⟩)
  have cS := AnyZI.sorted_in laysSorted Fence.wide 5 trivial trivial trivial trivial rfl (by omega) (sortsK _) (enters_of Try.func103 (by kernel_rfl) rfl) 174 #[.pointer (some ⟨w.heap.size, 0, none⟩)] trivial (enters_of Try.func174 (by kernel_rfl) rfl) _ _ (by simp [maxLen]; omega) (by omega) _ hseq
  exact ((callsIn_wide (n := 5)).1 cS).mono fun e w' ⟨v, ss, h1, h2, h3, _, h5⟩ => ⟨v, ss, h1, h2, h3, h5⟩
end Go.Proofs.Ytngjhblbpapjeaa.H
/- The keys of a binding, sorted: the nulls that the substitution names. Plain. No condition. -/
namespace Go.Proofs.Ytngjhblbpapjeaa.H
open Go Go.RowKit Go.Shelf Go.Maps Go.Sort Go.Proofs.YtngjhblbpapjeaaW.PrintWords
set_option maxHeartbeats 1000000

theorem subI_mem : ∀ (l : List Int) (k : Nat) (x : Int), x ∈ (subI k l).1 ↔ ∃ j : Nat, j < l.length ∧ l.getD j 10 ≠ 10 ∧ x = ((k + j : Nat) : Int)
  | [], k, x => by simp [subI]
  | v :: l, k, x => by
    have ih := subI_mem l (k + 1) x
    rw [subI_cons]
    constructor
    · intro h
      split at h
      · obtain ⟨j, h1, h2, h3⟩ := ih.1 h
        exact ⟨j + 1, by simp; omega, by simpa using h2, by rw [h3]; omega⟩
      · rename_i hv
        rcases List.mem_cons.1 h with rfl | h
        · exact ⟨0, by simp, by simpa using hv, by simp⟩
        · obtain ⟨j, h1, h2, h3⟩ := ih.1 h
          exact ⟨j + 1, by simp; omega, by simpa using h2, by rw [h3]; omega⟩
    · rintro ⟨j, h1, h2, h3⟩
      cases j with
      | zero =>
        have hv : v ≠ 10 := by simpa using h2
        rw [if_neg hv]
        exact List.mem_cons.2 (.inl (by rw [h3]; rfl))
      | succ j =>
        have h4 := ih.2 ⟨j, by simp at h1; omega, by simpa using h2, by rw [h3]; omega⟩
        split
        · exact h4
        · exact List.mem_cons_of_mem _ h4
theorem subI_up : ∀ (l : List Int) (k : Nat), (subI k l).1.Pairwise (· < ·)
  | [], k => by simp [subI]
  | v :: l, k => by
    rw [subI_cons]
    split
    · exact subI_up l (k + 1)
    · refine List.pairwise_cons.2 ⟨fun x hx => ?_, subI_up l (k + 1)⟩
      obtain ⟨j, _, _, e⟩ := (subI_mem l (k + 1) x).1 hx
      omega
theorem keys_sorted {w : World} {b n : Nat} {z : List Int} {D : DataW Unit} {ss : List Int} (hown : w.ownsMap Try.prog 3 plE b n D) (hz : z.length = 40)
    (h3 : ∀ k : Nat, k < 40 → Maps.has D (kl k) = decide (z.getD k 10 ≠ 10)) (h4 : ∀ k : Int, Maps.has D (kl k) = true → 0 ≤ k ∧ k < 40) (hp : ss.Perm (intKeys D)) :
    ss.mergeSort (fun x y => decide (x ≤ y)) = (subI 0 z).1 := by
  have hu := subI_up z 0
  have hc : CollectedI D (fun _ => false) (subI 0 z).1 := by
    refine ⟨hu.imp (fun {a b} h e => by omega), fun x => ?_⟩
    rw [subI_mem]
    constructor
    · rintro ⟨j, h1, h2, rfl⟩
      refine ⟨?_, rfl⟩
      have := h3 j (by omega)
      rw [Nat.zero_add]
      exact this.trans (decide_eq_true h2)
    · rintro ⟨h, _⟩
      obtain ⟨e1, e2⟩ := h4 x h
      refine ⟨x.toNat, by omega, ?_, by omega⟩
      have h5 := h3 x.toNat (by omega)
      rw [show ((x.toNat : Nat) : Int) = x by omega] at h5
      rw [show Maps.has D (kl x) = true from h] at h5
      exact of_decide_eq_true h5.symm
  have hq : (ss.mergeSort (fun x y => decide (x ≤ y))).Perm (subI 0 z).1 := (List.mergeSort_perm _ _).trans (hp.trans (hc.perm hown keyed Try.underlying3 (fun _ => rfl)).symm)
  have hs : (ss.mergeSort fun x y : Int => decide (x ≤ y)).Pairwise (fun x y => decide (x ≤ y) = true) := List.pairwise_mergeSort (fun a b c h1 h2 => by simp at *; omega) (fun a b => by simp; omega) ss
  have hs2 : (subI 0 z).1.Pairwise (fun x y => decide (x ≤ y) = true) := hu.imp (fun {a b} h => by simp; omega)
  exact hq.eq_of_pairwise (fun a b _ _ h1 h2 => by simp at h1 h2; omega) hs hs2
section
variable {ops : Array Oper} {rest : List Oper} {o : Oper} {a : Act} {Q : Exit → Act → World → Prop} {W : World} {b n : Nat} {z : List Int}
/-- A look-up of what is there. -/
theorem bmLook (N : Tmp) {m x : Operand} (h : BM W b n z) (k : Nat) (hk : k < 40) (h10 : z.getD k 10 ≠ 10) (K : wpList Try.prog ops Q rest (a.put (some N) (.int .i64 (z.getD k 10))) W)
    (hop : o.op = Op.lookup 126 m x false := by rfl) (hd : o.dst = some N := by rfl) (hg : o.guard = none := by rfl) (hm : a.eval m = .map (some b) := by rfl) (hx : a.eval x = .int .i64 (k : Int) := by rfl) : wpList Try.prog ops Q (o :: rest) a W := by
  obtain ⟨D, h1, h2, h3, h4⟩ := h.out
  refine wpList_lookup_own_int W hg m x 126 hop 3 3 .i64 keyed Try.underlying126 Try.underlying3 (Try.zeroValue3 W) b n D hm h1 _ (kl k) hx (key_lit (by omega)) fun c hc hw => ?_
  rw [hd]
  have e := (h3 k hk).2 h10 (.lit (.int .i64 0))
  rw [hc] at e
  injection e with e
  injection e with _ e
  subst e
  exact K
end
end Go.Proofs.Ytngjhblbpapjeaa.H
/- What the program's search keeps between its visits. No condition. -/
namespace Go.Proofs.Ytngjhblbpapjeaa.H
open Go Go.RowKit Go.Proofs.YtngjhblbpapjeaaW.PrintWords Go.Proofs.YtngjhblbpapjeaaW.PrintLast
open Go.Proofs.Ytngjhblbpapjeaa.Reg (On on_draw)
set_option maxHeartbeats 4000000
set_option maxRecDepth 100000
set_option linter.unusedVariables false
set_option linter.unusedSimpArgs false

theorem subI_get : ∀ (l : List Int) (k i : Nat), i < (subI k l).1.length → ∃ j, j < l.length ∧ (subI k l).1[i]? = some ((k + j : Nat) : Int) ∧ l.getD j 10 ≠ 10 ∧ (subI k l).2[i]? = some (l.getD j 10)
  | [], k, i, h => by simp [subI] at h
  | v :: l, k, i, h => by
    rw [subI_cons] at h ⊢
    by_cases hv : v = 10
    · rw [if_pos hv] at h ⊢
      obtain ⟨j, h1, h2, h3, h4⟩ := subI_get l (k + 1) i h
      exact ⟨j + 1, by simp; omega, by rw [h2, show k + 1 + j = k + (j + 1) by omega], by simpa using h3, by simpa using h4⟩
    · rw [if_neg hv] at h ⊢
      cases i with
      | zero => exact ⟨0, by simp, by simp, by simpa using hv, by simp⟩
      | succ i =>
        obtain ⟨j, h1, h2, h3, h4⟩ := subI_get l (k + 1) i (by simpa using h)
        exact ⟨j + 1, by simp; omega, by simp only [List.getElem?_cons_succ]; rw [h2, show k + 1 + j = k + (j + 1) by omega], by simpa using h3, by simpa using h4⟩
/-- Worlds that differ in the box b and in the block of the row v alone; the row is v' now. -/
structure Fr (b : Nat) (v v' : Value) (w w' : World) : Prop where
  ex : Ex (fun k => k = b ∨ some k = v.ownBlock) w w'
  hat : v'.ownBlock = v.ownBlock ∨ ∃ k, v'.ownBlock = some k ∧ w.heap.size ≤ k
theorem Fr.of_on {b : Nat} {v : Value} {w w' : World} (h : On w w') : Fr b v v w w' := ⟨Ex.of_on h, .inl rfl⟩
theorem Fr.trans {b : Nat} {v v1 v2 : Value} {w w1 w2 : World} (h : Fr b v v1 w w1) (k : Fr b v1 v2 w1 w2) : Fr b v v2 w w2 := by
  refine ⟨h.ex.trans k.ex fun i hi hS => ?_, ?_⟩
  · rcases hS with hS | hS
    · exact .inl hS
    · rcases h.hat with e | ⟨j, e, hj⟩
      · exact .inr (hS.trans e)
      · rw [e] at hS
        injection hS with hS
        omega
  · rcases k.hat with e | ⟨j, e, hj⟩
    · rw [e]; exact h.hat
    · exact .inr ⟨j, e, Nat.le_trans h.ex.size hj⟩
theorem BM.ex {S : Nat → Prop} {w w' : World} {m n : Nat} {z : List Int} (h : BM w m n z) (k : Ex S w w') (hS : ¬ S m) : BM w' m n z := by
  obtain ⟨D, ⟨es, clock, hb, F, hs, hD⟩, h2⟩ := h.out
  exact ⟨D, ⟨es, clock, blk_ex k hb hS, F, hs, hD⟩, h2⟩
theorem BM.fr {w w' : World} {m n b lo : Nat} {z : List Int} {v v' : Value} {hs : List SHd} {cs : Array Value} {t : TypeId} (h : BM w m n z) (k : Fr b v v' w w') (hO : OS w lo v hs) (hb : w.heap[b]? = some (.cells cs t (0, 0))) : BM w' m n z := by
  refine h.ex k.ex fun hS => ?_
  obtain ⟨D, ⟨es, clock, hm, _⟩, _⟩ := h.out
  rcases hS with rfl | hS
  · rw [hm] at hb; cases hb
  · obtain ⟨c, hc⟩ := own_typed hO m hS.symm
    rw [hm] at hc; cases hc
theorem SepS.fr {w w' : World} {lo b : Nat} {hs zs : List SHd} {ss : List Su} {v v' : Value} {cs : Array Value} (h : SepS w lo zs ss) (hO : OS w lo v hs) (hb : w.heap[b]? = some (.cells cs 71 (0, 0))) (hg : Fr b v v' w w') : SepS w' lo zs ss := by
  refine ⟨h.len, Sep.ex h.sep hg.ex (fun i a k ha hbk e => ?_)⟩
  have hi : i < (flF ss).length := by rw [← h.sep.len]; exact (List.getElem?_eq_some_iff.1 ha).1
  have hab := (h.sep.at_ i a _ ha (List.getElem?_eq_getElem hi)).2.1
  rcases e with rfl | e
  · exact blk_not_own hab hb (by decide) hbk.symm
  · exact own_ne_blk hab hO (by decide) hbk e.symm
/-- The row of what is kept, its box, the box of the bound. -/
structure KS (w0 w : World) (lo b b2 : Nat) (most : Int) (v : Value) (hs : List SHd) (ss : List Su) : Prop where
  on : On w0 w
  b0 : w0.heap.size ≤ b
  l0 : w0.heap.size ≤ lo
  ne : b2 ≠ b
  lw : lo ≤ w.heap.size
  own : OS w lo v hs
  sep : SepS w lo hs ss
  box : w.heap[b]? = some (.cells #[v] 71 (0, 0))
  box2 : w.heap[b2]? = some (.cells #[.int .i64 most] 3 (0, 0))
theorem KS.move {w0 w w' : World} {lo b b2 : Nat} {most : Int} {v : Value} {hs : List SHd} {ss : List Su} (h : KS w0 w lo b b2 most v hs ss) (k : On w w') : KS w0 w' lo b b2 most v hs ss :=
  ⟨h.on.trans k, h.b0, h.l0, h.ne, Nat.le_trans h.lw k.size, pw_own_below h.own k, h.sep.on k, blk_below h.box k, blk_below h.box2 k⟩
theorem visit_calls {w0 wB w : World} {lo b b2 : Nat} {most : Int} {v : Value} {hs : List SHd} {ss : List Su} {x y : Sli} {s : Su} (hK : KS w0 wB lo b b2 most v hs ss) (hb : On wB w) (hS : SepS w wB.heap.size [(x, y)] [s]) (hl : hs.length ≤ 1000) :
    Calls Try.prog 130 #[.agg #[slV x, slV y], .pointer (some ⟨b, 0, none⟩), .pointer (some ⟨b2, 0, none⟩)] w fun e w' => ∃ v' zs, zs.length = hs.length + 1 ∧ e = .returned (.bool ((zs.length : Int) == most)) ∧ KS w0 w' lo b b2 most v' zs (ss ++ [s]) ∧ Fr b v v' w w' := by
  have h := hK.move hb
  obtain ⟨A, c, rfl⟩ := own_slice hK.own
  refine (keep_calls w lo b b2 A c hs x y most h.own h.lw hl h.box h.box2 h.ne).mono fun e w' hh => ?_
  obtain ⟨A', c', zs, rfl, rfl, hO, hx, hE, hat⟩ := hh
  have hF : Fr b (.slice A hs.length c) (.slice A' (hs ++ [(x, y)]).length c') w w' := ⟨hE, hat⟩
  refine ⟨_, _, by simp, rfl, ⟨Ex.on h.on hE fun i hi => ?_, h.b0, h.l0, h.ne, Nat.le_trans h.lw hE.size, hO, ?_, hx, blk_ex hE h.box2 fun hi => ?_⟩, hF⟩
  · rcases hi with rfl | hi
    · exact h.b0
    · have := own_base h.own i hi.symm; have := h.l0; omega
  · exact (hK.sep.append hS hb hK.lw (Nat.le_refl _)).fr h.own h.box hF
  · rcases hi with e | e
    · exact h.ne e
    · exact blk_not_own h.own h.box2 (by decide) e
end Go.Proofs.Ytngjhblbpapjeaa.H
