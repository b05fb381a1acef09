/- EncodeVarint of the program and of the reference agree, for every int. No condition. -/
import Derived.Test.YtbmkfaejleleiaaPFnExactEncodeVarintx1
import Derived.Test.YtbmkfaejleleiaaPlain
namespace Go.Proofs.Ytbmkfaejleleiaa.Pure
open Go.RowKit Go.Proofs.Ytbmkfaejleleiaa.PFnExactEncodeVarint Go.Proofs.YtbmkfaejleleiaaW.PrintWords Go.Proofs.YtbmkfaejleleiaaW.PrintLast Go.Proofs.YtbmkfaejleleiaaW.PrintMore Go.Proofs.Ytbmkfaejleleiaa.Plain
set_option linter.unusedVariables false
set_option linter.unusedSimpArgs false

theorem within_f (a b c : Int) : impl_within.f a b c = some (decide (b ≤ a ∧ a ≤ c)) := by
  unfold impl_within.f
  by_cases h : b ≤ a <;> simp [h]

theorem l1In_f (a b c : Int) : spec_l1In.f a b c = some (decide (b ≤ a ∧ a ≤ c)) := by
  unfold spec_l1In.f
  by_cases h : b ≤ a <;> simp [h]

/-- The varint of n, with fuel for its groups. -/
def vi : Nat → Int → List Int
  | 0, n => [n % 256]
  | f + 1, n => if n < 128 then [n % 256] else (128 + n % 128) :: vi f (n / 128)
theorem or128 (y : Int) (h0 : 0 ≤ y) (h1 : y < 128) : Go.bits .or .u8 y 128 = 128 + y := by
  obtain ⟨a, rfl⟩ := Int.eq_ofNat_of_zero_le h0
  have e := (bits_nat .u8 8 (by decide) wraps_u8 a 128 (by omega) (by decide)).2
  have e' := (bits_nat .u8 8 (by decide) wraps_u8 128 a (by decide) (by omega)).2
  have k := bits_join .u8 8 (by decide) wraps_u8 7 128 a (by decide) (by decide) (by decide) h0 (by omega) (by omega)
  rw [Nat.or_comm] at e
  exact (e.trans e'.symm).trans k
theorem and127 (x : Int) (h0 : 0 ≤ x) (h1 : x ≤ 562949953421311) : Go.bits .and .i64 x 127 = x % 128 :=
  bits_mask .i64 63 (by decide) (fun n h0 h1 => by rw [IntKind.wrap_i64]; omega) 7 (by decide) x h0 (by omega)
theorem encVarintS_ev (f : Nat) : ∀ (n : Int) (acc : List Int), 0 ≤ n → n ≤ 562949953421311 → n < 128 ^ (f + 1) → acc.length + f < 100 →
    Ev (fun k => spec_EncodeVarint.l0 k n acc) (strOfNums (acc ++ vi f n)) := by
  induction f with
  | zero =>
    intro n acc h0 h1 h2 ha
    refine Ev.step (f := fun _ => some (strOfNums (acc ++ vi 0 n))) (fun k => ?_) (Ev.now _)
    rw [spec_EncodeVarint.l0, if_neg (by omega), if_pos (by omega)]; rfl
  | succ f ih =>
    intro n acc h0 h1 h2 ha
    by_cases c : n < 128
    · refine Ev.step (f := fun _ => some (strOfNums (acc ++ vi (f + 1) n))) (fun k => ?_) (Ev.now _)
      rw [spec_EncodeVarint.l0, if_neg (by omega), if_pos (by omega), vi, if_pos c]
    · have h3 : n / 128 < 128 ^ (f + 1) := by rw [Int.pow_succ] at h2; omega
      have e := ih (n / 128) (acc ++ [128 + n % 128]) (by omega) (by omega) h3 (by simp; omega)
      refine Ev.step (f := fun k => spec_EncodeVarint.l0 k (n / 128) (acc ++ [128 + n % 128])) (fun k => ?_) ?_
      · rw [spec_EncodeVarint.l0, if_pos (by omega), if_pos (by omega), Int.tdiv_eq_ediv_of_nonneg h0, Int.tmod_eq_emod_of_nonneg h0, w64 (by omega) (by omega : n / 128 ≤ _), w64 (by omega) (by omega : 128 + n % 128 ≤ _), Int.emod_eq_of_lt (by omega) (by omega : 128 + n % 128 < 256)]
      · rw [vi, if_neg c]; simpa [List.append_assoc] using e
/-- What both EncodeVarint answer. -/
def encVarint (n : Int) : ByteArray := if 0 ≤ n ∧ n ≤ 562949953421311 then strOfNums (vi 6 n) else (⟨#[]⟩ : ByteArray)
theorem encVarintS (n : Int) : Ev (fun k => spec_EncodeVarint.f k n) (encVarint n) := by
  unfold encVarint
  refine Ev.congr (f := fun k => if 0 ≤ n ∧ n ≤ 562949953421311 then spec_EncodeVarint.l0 k n [] else some (⟨#[]⟩ : ByteArray)) (fun k => ?_) ?_
  · rw [spec_EncodeVarint.f, l1In_f]; simp only [Option.bind_some, decide_eq_true_eq]
  by_cases h : 0 ≤ n ∧ n ≤ 562949953421311
  · simp only [h, and_self, if_true]
    exact encVarintS_ev 6 n [] h.1 h.2 (by have : (128 : Int) ^ 7 = 562949953421312 := by decide
                                           omega) (by simp)
  · simp only [h, if_false]; exact Ev.now _

theorem encVarintI_ev (f : Nat) : ∀ (n : Int) (acc : List Int), 0 ≤ n → n ≤ 562949953421311 → n < 128 ^ (f + 1) → acc.length + f < 100 →
    Ev (fun k => impl_EncodeVarint.l0 k n acc) (strOfNums (acc ++ vi f n)) := by
  induction f with
  | zero =>
    intro n acc h0 h1 h2 ha
    refine Ev.step (f := fun _ => some (strOfNums (acc ++ vi 0 n))) (fun k => ?_) (Ev.now _)
    rw [impl_EncodeVarint.l0, if_neg (by omega), if_pos (by omega)]; rfl
  | succ f ih =>
    intro n acc h0 h1 h2 ha
    by_cases c : n < 128
    · refine Ev.step (f := fun _ => some (strOfNums (acc ++ vi (f + 1) n))) (fun k => ?_) (Ev.now _)
      rw [impl_EncodeVarint.l0, if_neg (by omega), if_pos (by omega), vi, if_pos c]
    · have h3 : n / 128 < 128 ^ (f + 1) := by rw [Int.pow_succ] at h2; omega
      have e := ih (n / 128) (acc ++ [128 + n % 128]) (by omega) (by omega) h3 (by simp; omega)
      refine Ev.step (f := fun k => impl_EncodeVarint.l0 k (n / 128) (acc ++ [128 + n % 128])) (fun k => ?_) ?_
      · rw [impl_EncodeVarint.l0, if_pos (by omega), if_pos (by omega), and127 n h0 h1, Int.emod_eq_of_lt (by omega) (by omega : n % 128 < 256), or128 _ (by omega) (by omega)]
      · rw [vi, if_neg c]; simpa [List.append_assoc] using e
theorem encVarintI (n : Int) : Ev (fun k => impl_EncodeVarint.f k n) (encVarint n) := by
  unfold encVarint
  refine Ev.congr (f := fun k => if 0 ≤ n ∧ n ≤ 562949953421311 then impl_EncodeVarint.l0 k n [] else some (⟨#[]⟩ : ByteArray)) (fun k => ?_) ?_
  · rw [impl_EncodeVarint.f, within_f]; simp only [Option.bind_some, decide_eq_true_eq]
  by_cases h : 0 ≤ n ∧ n ≤ 562949953421311
  · simp only [h, and_self, if_true]
    exact encVarintI_ev 6 n [] h.1 h.2 (by have : (128 : Int) ^ 7 = 562949953421312 := by decide
                                           omega) (by simp)
  · simp only [h, if_false]; exact Ev.now _

theorem FnExactEncodeVarint : laws_FnExactEncodeVarint.Pure := by
  intro n _
  refine Ev.rounds (r := true) (Ev.congr (fun k => by rw [laws_FnExactEncodeVarint.f]) ?_)
  refine Ev.bind (encVarintS n) (Ev.bind (encVarintI n) ?_)
  rw [if_pos rfl]
  exact Ev.now _

end Go.Proofs.Ytbmkfaejleleiaa.Pure
