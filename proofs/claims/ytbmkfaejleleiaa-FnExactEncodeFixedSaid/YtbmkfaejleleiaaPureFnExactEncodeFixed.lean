/- EncodeFixed of the program and of the reference agree, for every int and every width. No condition. -/
import Derived.Test.YtbmkfaejleleiaaPFnExactEncodeFixedx1
import Derived.Test.YtbmkfaejleleiaaPlain
namespace Go.Proofs.Ytbmkfaejleleiaa.Pure
open Go.RowKit Go.Proofs.Ytbmkfaejleleiaa.PFnExactEncodeFixed Go.Proofs.YtbmkfaejleleiaaW.PrintWords Go.Proofs.YtbmkfaejleleiaaW.PrintLast Go.Proofs.YtbmkfaejleleiaaW.PrintMore Go.Proofs.Ytbmkfaejleleiaa.Plain
set_option linter.unusedVariables false
set_option linter.unusedSimpArgs false

theorem within_f (a b c : Int) : impl_within.f a b c = some (decide (b ≤ a ∧ a ≤ c)) := by
  unfold impl_within.f
  by_cases h : b ≤ a <;> simp [h]

theorem l1In_f (a b c : Int) : spec_l1In.f a b c = some (decide (b ≤ a ∧ a ≤ c)) := by
  unfold spec_l1In.f
  by_cases h : b ≤ a <;> simp [h]

/-- The last i bytes of n, the highest first. -/
def be (n : Int) : Nat → List Int
  | 0 => []
  | i + 1 => (n / 256 ^ i % 256) :: be n i
theorem be_length (n : Int) (i : Nat) : (be n i).length = i := by
  induction i with
  | zero => rfl
  | succ i ih => simp [be, ih]
theorem div_step (n : Int) (i : Nat) : n / 256 ^ i / 256 = n / 256 ^ (i + 1) := by
  rw [Int.pow_succ, Int.ediv_ediv_of_nonneg (Int.pow_nonneg (by omega))]
theorem div_small (n : Int) (i : Nat) (h0 : 0 ≤ n) (h1 : n ≤ 9223372036854775807) : 0 ≤ n / 256 ^ i ∧ n / 256 ^ i ≤ 9223372036854775807 :=
  ⟨Int.ediv_nonneg h0 (Int.pow_nonneg (by omega)), Int.le_trans (Int.ediv_le_self _ h0) h1⟩
theorem encFixedS_ev (n : Int) (h0 : 0 ≤ n) (h1 : n ≤ 9223372036854775807) (w : Nat) (hw : w ≤ 7) (d : Nat) : ∀ (i : Nat), i + d = w →
    Ev (fun k => spec_EncodeFixed.l0 k (n / 256 ^ i) w (strOfNums (be n i)) i) (if n / 256 ^ w > 0 then (⟨#[]⟩ : ByteArray) else strOfNums (be n w)) := by
  induction d with
  | zero =>
    intro i hi
    obtain rfl : i = w := by omega
    refine Ev.step (f := fun _ => some (if n / 256 ^ i > 0 then (⟨#[]⟩ : ByteArray) else strOfNums (be n i))) (fun k => ?_) (Ev.now _)
    rw [spec_EncodeFixed.l0, if_neg (by omega)]
    split <;> rfl
  | succ d ih =>
    intro i hi
    have hd := div_small n i h0 h1
    have e := ih (i + 1) (by omega)
    refine Ev.step (f := fun k => spec_EncodeFixed.l0 k (n / 256 ^ (i + 1)) w (strOfNums (be n (i + 1))) ((i + 1 : Nat) : Int)) (fun k => ?_) e
    have hz : (n / 256 ^ i).tmod 256 % 256 = n / 256 ^ i % 256 := by rw [Int.tmod_eq_emod_of_nonneg hd.1]; omega
    rw [spec_EncodeFixed.l0, if_pos (by omega)]
    simp only [Option.bind_some]
    rw [if_pos (by simp [str_size, be_length]; omega), hz, ← str_append, Int.tdiv_eq_ediv_of_nonneg hd.1, w64 (by omega) (by omega), div_step, w64_succ (by omega)]
    rfl
theorem encFixedI_ev (n : Int) (h0 : 0 ≤ n) (h1 : n ≤ 9223372036854775807) (w : Nat) (hw : w ≤ 7) (j : Nat) : ∀ (i : Nat), i + j = w →
    Ev (fun k => impl_EncodeFixed.l0 k (n / 256 ^ i) (List.replicate j 0 ++ be n i) ((j : Int) - 1)) (strOfNums (be n w)) := by
  induction j with
  | zero =>
    intro i hi
    obtain rfl : i = w := by omega
    refine Ev.step (f := fun _ => some (strOfNums (be n i))) (fun k => ?_) (Ev.now _)
    rw [impl_EncodeFixed.l0, if_neg (by omega)]
    simp
  | succ j ih =>
    intro i hi
    have hd := div_small n i h0 h1
    have e := ih (i + 1) (by omega)
    refine Ev.step (f := fun k => impl_EncodeFixed.l0 k (n / 256 ^ (i + 1)) (List.replicate j 0 ++ be n (i + 1)) ((j : Int) - 1)) (fun k => ?_) e
    have hl : (List.replicate (j + 1) 0 ++ be n i).length = j + 1 + i := by simp [be_length]
    have hset : (List.replicate (j + 1) 0 ++ be n i).set j (n / 256 ^ i % 256) = List.replicate j 0 ++ be n (i + 1) := by
      rw [List.replicate_succ', List.append_assoc, List.set_append_right _ _ (by simp)]
      simp [be]
    rw [impl_EncodeFixed.l0, if_pos (by omega), if_pos (by omega), if_pos (by omega), div_step]
    have hj : (((j + 1 : Nat) : Int) - 1) = (j : Int) := by omega
    rw [hj, Int.toNat_natCast, hset, w64 (by omega) (by omega)]
/-- What both EncodeFixed answer. -/
def encFixed (n w : Int) : ByteArray := if 1 ≤ w ∧ w ≤ 7 ∧ 0 ≤ n ∧ ¬ n / 256 ^ w.toNat > 0 then strOfNums (be n w.toNat) else (⟨#[]⟩ : ByteArray)
theorem encFixedS (n w : Int) (h1 : n ≤ 9223372036854775807) : Ev (fun k => spec_EncodeFixed.f k n w) (encFixed n w) := by
  unfold encFixed
  refine Ev.congr (f := fun k => if 1 ≤ w ∧ w ≤ 7 then spec_EncodeFixed.j0 k n w (decide (n < 0)) else spec_EncodeFixed.j0 k n w true) (fun k => ?_) ?_
  · rw [spec_EncodeFixed.f, l1In_f]; simp only [Option.bind_some, decide_eq_true_eq]
  by_cases h : 1 ≤ w ∧ w ≤ 7
  · simp only [h, and_self, if_true, true_and]
    by_cases c : n < 0
    · rw [if_neg (by omega)]
      refine Ev.step (f := fun _ => some (⟨#[]⟩ : ByteArray)) (fun k => ?_) (Ev.now _)
      rw [spec_EncodeFixed.j0]; simp [c]
    · refine Ev.step (f := fun k => spec_EncodeFixed.l0 k n w (⟨#[]⟩ : ByteArray) 0) (fun k => ?_) ?_
      · rw [spec_EncodeFixed.j0]; simp [c]
      · have e := encFixedS_ev n (by omega) h1 w.toNat (by omega) w.toNat 0 (by omega)
        rw [Int.toNat_of_nonneg (by omega), Int.pow_zero, Int.ediv_one] at e
        have hz : (if n / 256 ^ w.toNat > 0 then (⟨#[]⟩ : ByteArray) else strOfNums (be n w.toNat)) = (if 0 ≤ n ∧ ¬ n / 256 ^ w.toNat > 0 then strOfNums (be n w.toNat) else (⟨#[]⟩ : ByteArray)) := by
          by_cases d : n / 256 ^ w.toNat > 0
          · rw [if_pos d, if_neg (by omega)]
          · rw [if_neg d, if_pos ⟨by omega, d⟩]
        rw [← hz]
        exact e
  · rw [if_neg (by omega)]
    simp only [h, if_false]
    refine Ev.step (f := fun _ => some (⟨#[]⟩ : ByteArray)) (fun k => ?_) (Ev.now _)
    rw [spec_EncodeFixed.j0]; simp
theorem shr_div (n w : Int) (h0 : 1 ≤ w) (h1 : w ≤ 7) : shr .i64 n (wrap64 (8 * w)) = n / 256 ^ w.toNat := by
  rw [w64 (by omega) (by omega)]
  unfold shr
  have e : (8 * w).toNat = 8 * w.toNat := by omega
  rw [Nat.min_eq_left (by simp [IntKind.bits]; omega), e, Int.pow_mul]
  rfl
theorem encFixedI (n w : Int) (h1 : n ≤ 9223372036854775807) : Ev (fun k => impl_EncodeFixed.f k n w) (encFixed n w) := by
  unfold encFixed
  refine Ev.congr (f := fun k => if 1 ≤ w ∧ w ≤ 7 then (if n < 0 then impl_EncodeFixed.j0 k n w true else impl_EncodeFixed.j0 k n w (n / 256 ^ w.toNat != 0)) else impl_EncodeFixed.j0 k n w true) (fun k => ?_) ?_
  · rw [impl_EncodeFixed.f, within_f]; simp only [Option.bind_some, decide_eq_true_eq]
    by_cases h : 1 ≤ w ∧ w ≤ 7
    · rw [if_pos h, if_pos h, shr_div n w h.1 h.2, if_pos (by rw [w64] <;> omega : 0 ≤ wrap64 (8 * w))]
    · rw [if_neg h, if_neg h]
  have hj : ∀ n' w', Ev (fun k => impl_EncodeFixed.j0 k n' w' true) (⟨#[]⟩ : ByteArray) := by
    intro n' w'
    refine Ev.step (f := fun _ => some (⟨#[]⟩ : ByteArray)) (fun k => ?_) (Ev.now _)
    rw [impl_EncodeFixed.j0]; simp
  by_cases h : 1 ≤ w ∧ w ≤ 7
  · simp only [h, and_self, if_true, true_and]
    by_cases c : n < 0
    · rw [if_neg (by omega)]
      simp only [c, if_true]
      exact hj _ _
    · simp only [c, if_false]
      by_cases z : n / 256 ^ w.toNat > 0
      · rw [if_neg (by omega)]
        have e : (n / 256 ^ w.toNat != 0) = true := by simp; omega
        rw [e]
        exact hj _ _
      · have hp := (div_small n w.toNat (by omega) h1).1
        rw [if_pos ⟨by omega, z⟩]
        have e : (n / 256 ^ w.toNat != 0) = false := by simp; omega
        rw [e]
        refine Ev.step (f := fun k => impl_EncodeFixed.l0 k n (List.replicate w.toNat 0) (w - 1)) (fun k => ?_) ?_
        · rw [impl_EncodeFixed.j0, if_neg (by simp), if_pos (by omega), if_pos (by omega), w64 (by omega) (by omega)]
        · have e := encFixedI_ev n (by omega) h1 w.toNat (by omega) w.toNat 0 (by omega)
          rw [Int.toNat_of_nonneg (by omega), Int.pow_zero, Int.ediv_one, be, List.append_nil] at e
          exact e
  · rw [if_neg (by omega)]
    simp only [h, if_false]
    exact hj _ _

theorem FnExactEncodeFixed : laws_FnExactEncodeFixed.Pure := by
  intro n w hn _
  have hb := b64 hn
  refine Ev.rounds (r := true) (Ev.congr (fun k => by rw [laws_FnExactEncodeFixed.f]) ?_)
  refine Ev.bind (encFixedS n w hb.2) (Ev.bind (encFixedI n w hb.2) ?_)
  rw [if_pos rfl]
  exact Ev.now _

end Go.Proofs.Ytbmkfaejleleiaa.Pure
