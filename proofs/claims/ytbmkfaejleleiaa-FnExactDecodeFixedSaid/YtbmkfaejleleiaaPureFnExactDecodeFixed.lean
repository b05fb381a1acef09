/- DecodeFixed of the program and of the reference agree, for every string and every width (longer than 2^20 bytes the law itself answers true). -/
import Derived.Test.YtbmkfaejleleiaaPFnExactDecodeFixedx1
import Derived.Test.YtbmkfaejleleiaaPlain
namespace Go.Proofs.Ytbmkfaejleleiaa.Pure
open Go.RowKit Go.Proofs.Ytbmkfaejleleiaa.PFnExactDecodeFixed Go.Proofs.YtbmkfaejleleiaaW.PrintWords Go.Proofs.YtbmkfaejleleiaaW.PrintLast Go.Proofs.YtbmkfaejleleiaaW.PrintMore Go.Proofs.Ytbmkfaejleleiaa.Plain
set_option linter.unusedVariables false
set_option linter.unusedSimpArgs false

theorem within_f (a b c : Int) : impl_within.f a b c = some (decide (b ≤ a ∧ a ≤ c)) := by
  unfold impl_within.f
  by_cases h : b ≤ a <;> simp [h]

theorem l1In_f (a b c : Int) : spec_l1In.f a b c = some (decide (b ≤ a ∧ a ≤ c)) := by
  unfold spec_l1In.f
  by_cases h : b ≤ a <;> simp [h]

/-- d bytes of s from place i on, behind the number n. -/
def fx (s : ByteArray) (n : Int) (i : Nat) : Nat → Int
  | 0 => n
  | d + 1 => fx s (n * 256 + bt s i) (i + 1) d
theorem fx_bound (s : ByteArray) (d : Nat) : ∀ (n : Int) (i : Nat), 0 ≤ n → 0 ≤ fx s n i d ∧ fx s n i d < (n + 1) * 256 ^ d := by
  induction d with
  | zero => intro n i h; simp [fx]; omega
  | succ d ih =>
    intro n i h
    have hb := bt_range s i
    obtain ⟨h1, h2⟩ := ih (n * 256 + bt s i) (i + 1) (by omega)
    refine ⟨h1, Int.lt_of_lt_of_le h2 ?_⟩
    rw [Int.pow_succ, Int.mul_comm (256 ^ d) 256, ← Int.mul_assoc]
    exact Int.mul_le_mul_of_nonneg_right (by omega) (Int.pow_nonneg (by omega))
theorem or256 (x y : Int) (hx0 : 0 ≤ x) (hx1 : x < 9223372036854775807 / 256) (hy0 : 0 ≤ y) (hy1 : y ≤ 255) : Go.bits .or .i64 (x * 256) y = x * 256 + y :=
  bits_join .i64 63 (by decide) (fun n h0 h1 => by rw [IntKind.wrap_i64]; omega) 8 (x * 256) y (by omega) (by omega) (by omega) hy0 (by omega) (by omega)
theorem decFixed_pow (i : Nat) (h : i < 7) : (256 : Int) ^ i ≤ 256 ^ 6 := by
  have h : i = 0 ∨ i = 1 ∨ i = 2 ∨ i = 3 ∨ i = 4 ∨ i = 5 ∨ i = 6 := by omega
  rcases h with rfl | rfl | rfl | rfl | rfl | rfl | rfl <;> decide
theorem decFixedS_ev (s : ByteArray) (w : Nat) (hw : w ≤ 7) (hs : w ≤ s.size) (d : Nat) : ∀ (i : Nat) (n : Int), i + d = w → 0 ≤ n → n < 256 ^ i →
    Ev (fun k => spec_DecodeFixed.l0 k s w n i) (fx s n i d, true) := by
  induction d with
  | zero =>
    intro i n hi h0 h1
    refine Ev.step (f := fun _ => some (n, true)) (fun k => ?_) (Ev.now _)
    rw [spec_DecodeFixed.l0, if_neg (by omega)]
  | succ d ih =>
    intro i n hi h0 h1
    have hb := bt_range s i
    have hp := decFixed_pow i (by omega)
    have h2 : n < 281474976710656 := by have : (256 : Int) ^ 6 = 281474976710656 := by decide
                                        omega
    refine Ev.step (f := fun k => spec_DecodeFixed.l0 k s w (n * 256 + bt s i) ((i + 1 : Nat) : Int)) (fun k => ?_) (ih (i + 1) _ (by omega) (by omega) ?_)
    · rw [spec_DecodeFixed.l0, if_pos (by omega), if_pos (by omega), if_pos (by omega), w64_bt, w64 (by omega) (by omega : n * 256 ≤ _), w64 (by omega) (by omega : n * 256 + bt s i ≤ _), w64_succ (by omega)]
    · rw [Int.pow_succ]; omega
theorem decFixedI_ev (s : ByteArray) (w : Nat) (hw : w ≤ 7) (hs : w ≤ s.size) (d : Nat) : ∀ (i : Nat) (n : Int), i + d = w → 0 ≤ n → n < 256 ^ i →
    Ev (fun k => impl_DecodeFixed.l0 k s n w i) (fx s n i d, true) := by
  induction d with
  | zero =>
    intro i n hi h0 h1
    refine Ev.step (f := fun _ => some (n, true)) (fun k => ?_) (Ev.now _)
    rw [impl_DecodeFixed.l0, if_neg (by omega)]
  | succ d ih =>
    intro i n hi h0 h1
    have hb := bt_range s i
    have hp := decFixed_pow i (by omega)
    have h2 : n < 281474976710656 := by have : (256 : Int) ^ 6 = 281474976710656 := by decide
                                        omega
    refine Ev.step (f := fun k => impl_DecodeFixed.l0 k s (n * 256 + bt s i) w ((i + 1 : Nat) : Int)) (fun k => ?_) (ih (i + 1) _ (by omega) (by omega) ?_)
    · rw [impl_DecodeFixed.l0, if_pos (by omega), if_pos (by omega), if_pos (by omega), w64_bt, w64 (by omega) (by omega : n * 256 ≤ _), or256 n _ h0 (by omega) hb.1 hb.2, w64_succ (by omega)]
    · rw [Int.pow_succ]; omega
/-- What both DecodeFixed answer. -/
def decFixed (s : ByteArray) (w : Int) : Int × Bool := if 1 ≤ w ∧ w ≤ 7 ∧ w ≤ s.size then (fx s 0 0 w.toNat, true) else (0, false)
theorem decFixedS (s : ByteArray) (w : Int) : Ev (fun k => spec_DecodeFixed.f k s w) (decFixed s w) := by
  unfold decFixed
  refine Ev.congr (f := fun k => if 1 ≤ w ∧ w ≤ 7 then spec_DecodeFixed.j0 k s w (decide ((s.size : Int) < w)) else spec_DecodeFixed.j0 k s w true) (fun k => ?_) ?_
  · rw [spec_DecodeFixed.f, l1In_f]; simp only [Option.bind_some, decide_eq_true_eq]
  by_cases h : 1 ≤ w ∧ w ≤ 7
  · simp only [h, and_self, if_true, true_and]
    by_cases c : (s.size : Int) < w
    · rw [if_neg (by omega)]
      refine Ev.step (f := fun _ => some (0, false)) (fun k => ?_) (Ev.now _)
      rw [spec_DecodeFixed.j0]; simp [c]
    · rw [if_pos (by omega)]
      refine Ev.step (f := fun k => spec_DecodeFixed.l0 k s w 0 0) (fun k => ?_) ?_
      · rw [spec_DecodeFixed.j0]; simp [c]
      · have e := decFixedS_ev s w.toNat (by omega) (by omega) w.toNat 0 0 (by omega) (by omega) (by decide)
        rw [Int.toNat_of_nonneg (by omega)] at e
        exact e
  · rw [if_neg (by omega)]
    simp only [h, if_false]
    refine Ev.step (f := fun _ => some (0, false)) (fun k => ?_) (Ev.now _)
    rw [spec_DecodeFixed.j0]; simp
theorem decFixedI (s : ByteArray) (w : Int) : Ev (fun k => impl_DecodeFixed.f k s w) (decFixed s w) := by
  unfold decFixed
  refine Ev.congr (f := fun k => if 1 ≤ w ∧ w ≤ 7 then impl_DecodeFixed.j0 k s w (decide ((s.size : Int) < w)) else impl_DecodeFixed.j0 k s w true) (fun k => ?_) ?_
  · rw [impl_DecodeFixed.f, within_f]; simp only [Option.bind_some, decide_eq_true_eq]
  by_cases h : 1 ≤ w ∧ w ≤ 7
  · simp only [h, and_self, if_true, true_and]
    by_cases c : (s.size : Int) < w
    · rw [if_neg (by omega)]
      refine Ev.step (f := fun _ => some (0, false)) (fun k => ?_) (Ev.now _)
      rw [impl_DecodeFixed.j0]; simp [c]
    · rw [if_pos (by omega)]
      refine Ev.step (f := fun k => impl_DecodeFixed.l0 k s 0 w 0) (fun k => ?_) ?_
      · rw [impl_DecodeFixed.j0]; simp [c]
      · have e := decFixedI_ev s w.toNat (by omega) (by omega) w.toNat 0 0 (by omega) (by omega) (by decide)
        rw [Int.toNat_of_nonneg (by omega)] at e
        exact e
  · rw [if_neg (by omega)]
    simp only [h, if_false]
    refine Ev.step (f := fun _ => some (0, false)) (fun k => ?_) (Ev.now _)
    rw [impl_DecodeFixed.j0]; simp

theorem FnExactDecodeFixed : laws_FnExactDecodeFixed.Pure := by
  intro s w _ _
  by_cases hs : (s.size : Int) > 1048576
  · exact ⟨0, by unfold laws_FnExactDecodeFixed.f; rw [if_pos hs]⟩
  · refine Ev.rounds (r := true) (Ev.congr (fun k => by unfold laws_FnExactDecodeFixed.f; rw [if_neg hs]) ?_)
    refine Ev.bind (decFixedS s w) (Ev.bind (decFixedI s w) ?_)
    simp only [bne_self_eq_false, if_true, Bool.false_eq_true, if_false]
    exact Ev.now _

end Go.Proofs.Ytbmkfaejleleiaa.Pure
