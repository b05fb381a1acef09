/- Walks: the program's own small functions on values and relations. No condition. -/
import Derived.Test.YtngjhblbpapjeaaHB3
namespace Go.Proofs.Ytngjhblbpapjeaa.H
open Go Go.RowKit Go.Proofs.YtngjhblbpapjeaaW.PrintWords Go.Proofs.YtngjhblbpapjeaaW.PrintLast
open Go.Proofs.Ytngjhblbpapjeaa.Reg (On on_draw)
set_option maxHeartbeats 1000000
set_option maxRecDepth 100000
set_option linter.unusedVariables false
set_option linter.unusedSimpArgs false

theorem within_calls (w : World) (x a b : Int) : Calls Try.prog 118 #[.int .i64 x, .int .i64 a, .int .i64 b] w fun e w' => e = .returned (.bool (within x a b)) ∧ On w w' := by
  by_cases h1 : a ≤ x
  · have h1' : decide (a ≤ x) = true := by simpa using h1
    go_enter Try.func118, Try.ntmps118
    go_wp2
    go_ret
    exact ⟨by simp [within, h1], On.refl _⟩
  · have h1' : decide (a ≤ x) = false := by simpa using h1
    go_enter Try.func118, Try.ntmps118
    go_wp2
    go_ret
    exact ⟨by simp [within]; omega, On.refl _⟩
theorem iIsValidValue_calls (w : World) (v : Int) : Calls Try.prog 119 #[.int .i64 v] w fun e w' => e = .returned (.bool (okVal v)) ∧ On w w' := by
  go_enter Try.func119, Try.ntmps119
  go_wp2_with (go_at_call 118; refine (within_calls _ _ _ _).mono ?_; rintro e w1 ⟨rfl, hb1⟩)
  go_ret
  exact ⟨ret_bool (by simp only [okVal, within]), hb1⟩
theorem iNullNumber_calls (w : World) (v : Int) (hv : -9223372036854775808 ≤ v ∧ v ≤ 9223372036854775807) : Calls Try.prog 102 #[.int .i64 v] w fun e w' => e = .returned (.tuple #[.int .i64 (nulNum v), .bool (isNul v)]) ∧ On w w' := by
  have hwr : IntKind.i64.wrap (-1 - v) = -1 - v := IntWalk.i64_in _ (by omega)
  by_cases h : -40 ≤ v ∧ v ≤ -1
  · have hw : within (-1 - v) 0 39 = true := by simp only [within, decide_eq_true_eq]; omega
    have hi := Aside0.mk (show isNul v = true by simp [isNul, h])
    go_enter Try.func102, Try.ntmps102
    go_wp2_with (go_at_call 118; refine (within_calls _ _ _ _).mono ?_; rintro e w1 ⟨rfl, hb1⟩)
    go_ret2
    exact ⟨by rw [hi.out, show nulNum v = -1 - v by simp [nulNum, hi.out]]; rfl, hb1⟩
  · have hw : within (-1 - v) 0 39 = false := by simp only [within, decide_eq_false_iff_not]; omega
    have hi := Aside0.mk (show isNul v = false by simp [isNul]; omega)
    go_enter Try.func102, Try.ntmps102
    go_wp2_with (go_at_call 118; refine (within_calls _ _ _ _).mono ?_; rintro e w1 ⟨rfl, hb1⟩)
    go_ret2
    exact ⟨by rw [hi.out, show nulNum v = 0 by simp [nulNum, hi.out]]; rfl, hb1⟩
theorem str1_lt (s : ByteArray) (h : s.size = 1) (c : UInt8) : Op.bytesLess s.toList [c] = decide (bt s 0 < c.toNat) ∧ Op.bytesLess [c] s.toList = decide ((c.toNat : Int) < bt s 0) ∧ (s.toList == [c]) = decide (bt s 0 = c.toNat) := by
  have hl : s.data.toList.length = 1 := by simpa using h
  obtain ⟨x, hx⟩ := List.length_eq_one_iff.1 hl
  have e1 : s.toList = [x] := by rw [ByteArray.toList_eq]; exact hx
  have e2 : bt s 0 = x.toNat := by
    have h0 : (0 : Int).toNat < s.size := by simp [h]
    unfold bt
    rw [dif_pos h0]
    have : s[(0 : Int).toNat] = x := by
      show s.data[(0:Int).toNat] = x
      have h1 : 0 < s.data.size := by have : s.data.size = 1 := h; omega
      have := Array.getElem_toList (xs := s.data) (i := 0) h1
      simp only [Int.toNat_zero]
      rw [← this]
      simp [hx]
    rw [this]
  rw [e1, e2]
  refine ⟨?_, ?_, ?_⟩
  · simp [Op.bytesLess, UInt8.lt_iff_toNat_lt]
  · simp [Op.bytesLess, UInt8.lt_iff_toNat_lt]
  · rw [Bool.eq_iff_iff]; simp [← UInt8.toNat_inj]; omega
theorem iIsValidRelation_calls (w : World) (r : Rel) : Calls Try.prog 133 #[.agg #[.string r.1, .int .i64 r.2.1, .bool r.2.2]] w fun e w' => e = .returned (.bool (okRel r)) ∧ On w w' := by
  by_cases h1 : (r.1.size : Int) = 1
  · have h1b : ((r.1.size : Int) == 1) = true := beq_iff_eq.mpr h1
    have e1 : Op.bytesLess r.1.toList [97] = decide (bt r.1 0 < 97) := (str1_lt r.1 (by omega) 97).1
    have e2 : Op.bytesLess r.1.toList [122] = decide (bt r.1 0 < 122) := (str1_lt r.1 (by omega) 122).1
    have e3 : (r.1.toList == [122]) = decide (bt r.1 0 = 122) := (str1_lt r.1 (by omega) 122).2.2
    have e4 : (r.1.toList = [122]) = (bt r.1 0 = 122) := by
      apply propext; have := Bool.eq_iff_iff.1 e3; simpa using this
    go_enter Try.func133, Try.ntmps133
    go_wp2_with (go_at_call 118; refine (within_calls _ _ _ _).mono ?_; rintro e w2 ⟨rfl, hb2⟩)
    all_goals
      go_ret
      first | exact ⟨ret_bool (by rw [Bool.eq_iff_iff]; simp [okRel, within]; omega), (On.alloc (On.refl _) _).trans hb2⟩ | exact ⟨ret_bool (by simp [okRel]; omega), On.alloc (On.refl _) _⟩
  · have h1b : ((r.1.size : Int) == 1) = false := beq_eq_false_iff_ne.mpr h1
    go_enter Try.func133, Try.ntmps133
    go_wp2
    go_ret
    exact ⟨ret_bool (by simp [okRel]; omega), On.alloc (On.refl _) _⟩
theorem iAreValidRelations_calls (w : World) (A : Option Addr) (c : Nat) (l : List Rel) (h : Rels w A c l) : Calls Try.prog 107 #[.slice A l.length c] w fun e w' => e = .returned (.bool (okRels l)) ∧ On w w' := by
  have hmax := h.max
  go_enter Try.func107, Try.ntmps107
  go_wp2
  go_loopw [7] (fun v wr => ∃ k : Nat, k ≤ l.length ∧ v = .int .i64 k ∧ Hid (relsFrom (prevName l k) (l.drop k) = relsFrom none l) ∧ On w wr) (fun v _ => l.length - (intOf v).toNat)
  case atStart => exact ⟨0, Nat.zero_le _, rfl, rfl, On.refl _⟩
  case round =>
    obtain ⟨k, hk, rfl, hp, hB⟩ := hrel
    by_cases hlt : k < l.length
    · obtain ⟨ad, rfl, hx0, hx1, hx2⟩ := (h.on hB).at k hlt
      have hp' := Aside0.mk ((relsFrom_step l k hlt).symm.trans hp.out)
      have hfill := alloc_fill3 wr
      have hbx := Aside0.mk (On.alloc (On.refl wr) (.cells #[.string l[k].1, .int .i64 l[k].2.1, .bool l[k].2.2] 87))
      have hB2 := Aside0.mk (hB.trans hbx.out)
      have hcn := blk_cell (loc_new wr #[.string l[k].1, .int .i64 l[k].2.1, .bool l[k].2.2] 87)
      clear hp
      cases hok : okRel l[k] with
      | false =>
        have hok' := Aside0.mk hok
        clear hok
        go_wp2
        refine Reg.region [(0,.L),(1,.C),(2,.L),(3,.L),(4,.L),(5,.L),(6,.L),(7,.L),(8,.L),(9,.L),(10,.L),(11,.L),(12,.L),(13,.L),(14,.L),(15,.L),(16,.L),(17,.L)] [] (by kernel_rfl) (by kernel_rfl) ?_
        repeat first | refine sP ?_ | refine sS ?_ | refine sA ?_ | refine sL ?_ | refine sQ ?_ | refine sO ?_
        refine callC (.bool false) Try.func133 (fun w' hS => ?_) ?_
        focus exact (iIsValidRelation_calls w' l[k]).mono fun e w'' h => ⟨by rw [h.1, hok'.out], h.2⟩
        repeat first | refine sP ?_ | refine sS ?_ | refine sA ?_ | refine sL ?_ | refine sQ ?_ | refine sO ?_
        refine Reg.nil fun w2 hS => ?_
        go_wp2
        go_ret
        exact ⟨ret_bool (by have := hp'.out; rw [hok'.out] at this; simp at this; simp [okRels, this]), hB2.out.trans hS⟩
      | true =>
        have hok' := Aside0.mk hok
        clear hok
        by_cases hk0 : 0 < k
        · have hk0' : decide (0 < (k : Int)) = true := decide_eq_true (by omega)
          have hki : IntKind.i64.wrap ((k : Int) - 1) = ((k - 1 : Nat) : Int) := by rw [IntWalk.i64_in _ (by omega)]; omega
          have hk1 : k - 1 < l.length := by omega
          obtain ⟨ad', e', hy0, _, _⟩ := (h.on hB2.out).at (k - 1) hk1
          obtain rfl : ad = ad' := by simpa using e'
          have hpn : prevName l k = some l[k - 1].1 := by simp [prevName, show ¬ k = 0 by omega, show k - 1 < l.length by omega]
          rw [hpn] at hp'
          replace hp' : Aside0 ((okRel l[k] && strLt l[k - 1].1 l[k].1 && relsFrom (prevName l (k + 1)) (l.drop (k + 1))) = relsFrom none l) := hp'
          cases hs : strLt l[k - 1].1 l[k].1 with
          | true =>
            have hs1 : Op.bytesLess l[k - 1].1.toList l[k].1.toList = true := hs
            have hs2 := bl_asymm _ _ hs1
            have hs3 := bl_ne hs1
            have hs4 := bl_ne' hs1
            have hs' := Aside0.mk hs
            clear hs
            go_wp2
            refine Reg.region [(0,.L),(1,.C),(2,.L),(3,.L),(4,.L),(5,.L),(6,.L),(7,.L),(8,.L),(9,.L),(10,.L),(11,.L),(12,.L),(13,.L),(14,.L),(15,.L),(16,.L),(17,.L)] [] (by kernel_rfl) (by kernel_rfl) ?_
            repeat first | refine sP ?_ | refine sS ?_ | refine sA ?_ | refine sL ?_ | refine sQ ?_ | refine sO ?_
            refine callC (.bool true) Try.func133 (fun w' hS => ?_) ?_
            focus exact (iIsValidRelation_calls w' l[k]).mono fun e w'' h => ⟨by rw [h.1, hok'.out], h.2⟩
            repeat first | refine sP ?_ | refine sS ?_ | refine sA ?_ | refine sL ?_ | refine sQ ?_ | refine sO ?_
            refine Reg.nil fun w2 hS => ?_
            go_wp2
            go_roundw
            case rel => exact ⟨k + 1, by omega, by go_num, (by have := hp'.out; rw [hok'.out, hs'.out] at this; simpa using this : _ = _), hB2.out.trans hS⟩
            case measure => simp [intOf]; omega
          | false =>
            have hs1 : Op.bytesLess l[k - 1].1.toList l[k].1.toList = false := hs
            have hs2 := bl_total _ _ hs1
            have hs' := Aside0.mk hs
            clear hs
            go_wp2
            refine Reg.region [(0,.L),(1,.C),(2,.L),(3,.L),(4,.L),(5,.L),(6,.L),(7,.L),(8,.L),(9,.L),(10,.L),(11,.L),(12,.L),(13,.L),(14,.L),(15,.L),(16,.L),(17,.L)] [] (by kernel_rfl) (by kernel_rfl) ?_
            repeat first | refine sP ?_ | refine sS ?_ | refine sA ?_ | refine sL ?_ | refine sQ ?_ | refine sO ?_
            refine callC (.bool true) Try.func133 (fun w' hS => ?_) ?_
            focus exact (iIsValidRelation_calls w' l[k]).mono fun e w'' h => ⟨by rw [h.1, hok'.out], h.2⟩
            repeat first | refine sP ?_ | refine sS ?_ | refine sA ?_ | refine sL ?_ | refine sQ ?_ | refine sO ?_
            refine Reg.nil fun w2 hS => ?_
            go_wp2
            go_ret
            exact ⟨ret_bool (by have := hp'.out; rw [hok'.out, hs'.out] at this; simp at this; simp [okRels, this]), hB2.out.trans hS⟩
        · have hk0' : decide (0 < (k : Int)) = false := decide_eq_false (by omega)
          have hpn : prevName l k = none := by simp [prevName, show k = 0 by omega]
          rw [hpn] at hp'
          replace hp' : Aside0 ((okRel l[k] && true && relsFrom (prevName l (k + 1)) (l.drop (k + 1))) = relsFrom none l) := hp'
          go_wp2
          refine Reg.region [(0,.L),(1,.C),(2,.L),(3,.L),(4,.L),(5,.L),(6,.L),(7,.L),(8,.L),(9,.L),(10,.L),(11,.L),(12,.L),(13,.L),(14,.L),(15,.L),(16,.L),(17,.L)] [] (by kernel_rfl) (by kernel_rfl) ?_
          repeat first | refine sP ?_ | refine sS ?_ | refine sA ?_ | refine sL ?_ | refine sQ ?_ | refine sO ?_
          refine callC (.bool true) Try.func133 (fun w' hS => ?_) ?_
          focus exact (iIsValidRelation_calls w' l[k]).mono fun e w'' h => ⟨by rw [h.1, hok'.out], h.2⟩
          repeat first | refine sP ?_ | refine sS ?_ | refine sA ?_ | refine sL ?_ | refine sQ ?_ | refine sO ?_
          refine Reg.nil fun w2 hS => ?_
          go_wp2
          go_roundw
          case rel => exact ⟨k + 1, by omega, by go_num, (by have := hp'.out; rw [hok'.out] at this; simpa using this : _ = _), hB2.out.trans hS⟩
          case measure => simp [intOf]; omega
    · go_wp2
      go_ret
      have e1 : relsFrom none l = true := by rw [← hp.out, List.drop_of_length_le (by omega)]; cases prevName l k <;> rfl
      exact ⟨ret_bool (by simp [okRels, e1]; omega), hB⟩
end Go.Proofs.Ytngjhblbpapjeaa.H
