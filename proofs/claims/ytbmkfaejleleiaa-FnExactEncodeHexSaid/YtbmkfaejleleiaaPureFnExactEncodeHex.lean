/- EncodeHex of the program and of the reference agree, for every string (longer than 2^20 bytes the law itself answers true). -/
import Derived.Test.YtbmkfaejleleiaaPFnExactEncodeHexx1
import Derived.Test.YtbmkfaejleleiaaPlain
namespace Go.Proofs.Ytbmkfaejleleiaa.Pure
open Go.RowKit Go.Proofs.Ytbmkfaejleleiaa.PFnExactEncodeHex Go.Proofs.YtbmkfaejleleiaaW.PrintWords Go.Proofs.YtbmkfaejleleiaaW.PrintLast Go.Proofs.YtbmkfaejleleiaaW.PrintMore Go.Proofs.Ytbmkfaejleleiaa.Plain
set_option linter.unusedVariables false
set_option linter.unusedSimpArgs false

/-- The hexadecimal digit of a number from 0 to 15. -/
def hexDig (k : Int) : Int := bt (⟨#[48, 49, 50, 51, 52, 53, 54, 55, 56, 57, 97, 98, 99, 100, 101, 102]⟩ : ByteArray) k
def hexOf (l : List Int) : List Int := l.flatMap fun b => [hexDig (b / 16), hexDig (b % 16)]
theorem l1Digit_f (k : Int) (h0 : 0 ≤ k) (h1 : k < 16) : spec_l1Digit.f k = some (hexDig k) := by
  unfold spec_l1Digit.f hexDig
  rw [if_pos h0, if_pos h1]
theorem encHexS_ev (s : ByteArray) (hs : s.size ≤ 1048576) (d : Nat) : ∀ (i : Nat) (acc : List Int), i + d = s.size → acc.length = 2 * i →
    Ev (fun k => spec_EncodeHex.l0 k s acc i) (strOfNums (acc ++ hexOf ((bytesOf s).drop i))) := by
  induction d with
  | zero =>
    intro i acc hi ha
    obtain rfl : i = s.size := by omega
    refine Ev.step (f := fun _ => some (strOfNums acc)) (fun k => ?_) ?_
    · rw [spec_EncodeHex.l0, if_neg (by omega)]
    · rw [drop_all]; simp only [hexOf, List.flatMap_nil, List.append_nil]; exact Ev.now _
  | succ d ih =>
    intro i acc hi ha
    have hlt : i < s.size := by omega
    have hb := bt_range s i
    have e := ih (i + 1) (acc ++ [hexDig (bt s i / 16), hexDig (bt s i % 16)]) (by omega) (by simp [ha]; omega)
    refine Ev.step (f := fun k => spec_EncodeHex.l0 k s (acc ++ [hexDig (bt s i / 16), hexDig (bt s i % 16)]) ((i + 1 : Nat) : Int)) (fun k => ?_) ?_
    · rw [spec_EncodeHex.l0, if_pos (by omega), if_pos (by omega), w64_bt, Int.tdiv_eq_ediv_of_nonneg hb.1, Int.tmod_eq_emod_of_nonneg hb.1, w64 (by omega) (by omega), l1Digit_f _ (by omega) (by omega), l1Digit_f _ (by omega) (by omega)]
      simp only [Option.bind_some]
      rw [if_pos (by simp [ha]; omega), w64_succ (by omega)]
    · rw [drop_bytes s i hlt]
      simp only [hexOf, List.flatMap_cons] at e ⊢
      simpa [List.append_assoc] using e
theorem encHexS (s : ByteArray) (hs : s.size ≤ 1048576) : Ev (fun k => spec_EncodeHex.f k s) (strOfNums (hexOf (bytesOf s))) := by
  have h := encHexS_ev s hs s.size 0 [] (by omega) rfl
  simpa [spec_EncodeHex.f] using h

theorem encHexI_ev (s : ByteArray) (hs : s.size ≤ 1048576) (d : Nat) : ∀ (i : Nat) (acc : List Int), i + d = s.size → acc.length = 2 * i →
    Ev (fun k => impl_EncodeHex.l0 k s acc s.size i) (strOfNums (acc ++ hexOf ((bytesOf s).drop i))) := by
  induction d with
  | zero =>
    intro i acc hi ha
    obtain rfl : i = s.size := by omega
    refine Ev.step (f := fun _ => some (strOfNums acc)) (fun k => ?_) ?_
    · rw [impl_EncodeHex.l0, if_neg (by omega)]
    · rw [drop_all]; simp only [hexOf, List.flatMap_nil, List.append_nil]; exact Ev.now _
  | succ d ih =>
    intro i acc hi ha
    have hlt : i < s.size := by omega
    have hb := bt_range s i
    have e := ih (i + 1) (acc ++ [hexDig (bt s i / 16), hexDig (bt s i % 16)]) (by omega) (by simp [ha]; omega)
    refine Ev.step (f := fun k => impl_EncodeHex.l0 k s (acc ++ [hexDig (bt s i / 16), hexDig (bt s i % 16)]) s.size ((i + 1 : Nat) : Int)) (fun k => ?_) ?_
    · rw [impl_EncodeHex.l0, if_pos (by omega), if_pos (by omega), if_pos (by omega), u8_and15 _ hb.1 (by omega), if_pos (by omega), if_pos (by omega), if_pos (by omega), if_pos (by omega)]
      simp only [Option.bind_some]
      rw [if_pos (by simp [ha]; omega), w64_succ (by omega)]
      rfl
    · rw [drop_bytes s i hlt]
      simp only [hexOf, List.flatMap_cons] at e ⊢
      simpa [List.append_assoc] using e
theorem encHexI (s : ByteArray) (hs : s.size ≤ 1048576) : Ev (fun k => impl_EncodeHex.f k s) (strOfNums (hexOf (bytesOf s))) := by
  have h := encHexI_ev s hs s.size 0 [] (by omega) rfl
  simpa [impl_EncodeHex.f] using h

theorem FnExactEncodeHex : laws_FnExactEncodeHex.Pure := by
  intro s _
  by_cases hs : (s.size : Int) > 1048576
  · exact ⟨0, by unfold laws_FnExactEncodeHex.f; rw [if_pos hs]⟩
  · have hs' : s.size ≤ 1048576 := by omega
    refine Ev.rounds (r := true) (Ev.congr (f := fun k => (spec_EncodeHex.f k s).bind fun t121 => ((impl_EncodeHex.f k s).bind fun t122 => (if t122.toList = t121.toList then (some true) else (some false)))) (fun k => by unfold laws_FnExactEncodeHex.f; rw [if_neg hs]) ?_)
    refine Ev.bind (encHexS s hs') (Ev.bind (encHexI s hs') ?_)
    rw [if_pos rfl]
    exact Ev.now _

end Go.Proofs.Ytbmkfaejleleiaa.Pure
