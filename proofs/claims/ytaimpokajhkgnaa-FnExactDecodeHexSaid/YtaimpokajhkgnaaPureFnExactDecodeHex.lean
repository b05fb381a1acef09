/- DecodeHex of the program and of the reference agree, for every string (longer than 2^20 bytes the law itself answers true). -/
import Derived.Test.YtaimpokajhkgnaaPFnExactDecodeHexx1
import Derived.Test.YtaimpokajhkgnaaPlain
namespace Go.Proofs.Ytaimpokajhkgnaa.Pure
open Go.RowKit Go.Proofs.Ytaimpokajhkgnaa.PFnExactDecodeHex Go.Proofs.YtaimpokajhkgnaaW.PrintWords Go.Proofs.YtaimpokajhkgnaaW.PrintLast Go.Proofs.YtaimpokajhkgnaaW.PrintMore Go.Proofs.Ytaimpokajhkgnaa.Plain
set_option linter.unusedVariables false
set_option linter.unusedSimpArgs false

/-- The hexadecimal digit of a number from 0 to 15. -/
def hexDig (k : Int) : Int := bt (⟨#[48, 49, 50, 51, 52, 53, 54, 55, 56, 57, 97, 98, 99, 100, 101, 102]⟩ : ByteArray) k
theorem l1Digit_f (k : Int) (h0 : 0 ≤ k) (h1 : k < 16) : spec_l1Digit.f k = some (hexDig k) := by
  unfold spec_l1Digit.f hexDig
  rw [if_pos h0, if_pos h1]

/-- The number of a hexadecimal digit, or -1. -/
def hexNum (x : Int) : Int := if 48 ≤ x ∧ x ≤ 57 then x - 48 else if 97 ≤ x ∧ x ≤ 102 then x - 87 else -1
theorem hexNum_range (x : Int) : -1 ≤ hexNum x ∧ hexNum x ≤ 15 := by
  unfold hexNum
  split
  · omega
  · split <;> omega
theorem hexDig_val (k : Int) (h0 : 0 ≤ k) (h1 : k < 16) : hexDig k = if k < 10 then 48 + k else 87 + k := by
  have h : k = 0 ∨ k = 1 ∨ k = 2 ∨ k = 3 ∨ k = 4 ∨ k = 5 ∨ k = 6 ∨ k = 7 ∨ k = 8 ∨ k = 9 ∨ k = 10 ∨ k = 11 ∨ k = 12 ∨ k = 13 ∨ k = 14 ∨ k = 15 := by omega
  rcases h with rfl | rfl | rfl | rfl | rfl | rfl | rfl | rfl | rfl | rfl | rfl | rfl | rfl | rfl | rfl | rfl <;> decide
theorem l1FromHex_ev (x : Int) : Ev (fun k => spec_l1FromHex.f k x) (hexNum x) := by
  have loop : ∀ (d i : Nat), i + d = 16 → (∀ j : Nat, j < i → hexDig j ≠ x) → Ev (fun k => spec_l1FromHex.l0 k x i) (hexNum x) := by
    intro d
    induction d with
    | zero =>
      intro i hi hn
      have e : hexNum x = -1 := by
        unfold hexNum
        have hv : ∀ j : Nat, j < 16 → (if (j : Int) < 10 then 48 + (j : Int) else 87 + (j : Int)) ≠ x := fun j hj => by
          rw [← hexDig_val j (by omega) (by omega)]; exact hn j (by omega)
        by_cases c1 : 48 ≤ x ∧ x ≤ 57
        · have := hv (x - 48).toNat (by omega)
          rw [if_pos (by omega)] at this; omega
        · by_cases c2 : 97 ≤ x ∧ x ≤ 102
          · have := hv (x - 87).toNat (by omega)
            rw [if_neg (by omega)] at this; omega
          · rw [if_neg c1, if_neg c2]
      rw [e]
      refine Ev.step (f := fun _ => some (-1)) (fun k => ?_) (Ev.now _)
      rw [spec_l1FromHex.l0, if_neg (by omega)]
    | succ d ih =>
      intro i hi hn
      have hd := hexDig_val i (by omega) (by omega)
      refine Ev.step (f := fun k => if hexDig i = x then some (i : Int) else spec_l1FromHex.l0 k x ((i + 1 : Nat) : Int)) (fun k => ?_) ?_
      · rw [spec_l1FromHex.l0, if_pos (by omega), l1Digit_f _ (by omega) (by omega), Option.bind_some, w64_succ (by omega)]
      · by_cases c : hexDig i = x
        · have e : hexNum x = i := by
            rw [hd] at c
            unfold hexNum
            split at c
            · rw [if_pos (by omega)]; omega
            · rw [if_neg (by omega), if_pos (by omega)]; omega
          simp only [c, if_true]; rw [e]; exact Ev.now _
        · simp only [c, if_false]
          exact ih (i + 1) (by omega) (fun j hj => by
            by_cases e : j = i
            · rw [e]; exact c
            · exact hn j (by omega))
  exact Ev.congr (fun k => by rw [spec_l1FromHex.f]; rfl) (loop 16 0 rfl (fun j hj => by omega))
theorem half_ev (x : Int) (h0 : 0 ≤ x) (h1 : x ≤ 255) : Ev (fun k => impl_half.f k x) (hexNum x) := by
  have hj : ∀ b : Bool, Ev (fun k => impl_half.j0 k x b) (if b = true then (x - 48) % 256 else if x ≥ 97 then (if x ≤ 102 then ((x - 97) % 256) + 10 else -1) else -1) := by
    intro b
    refine Ev.step (f := fun _ => some (if b = true then (x - 48) % 256 else if x ≥ 97 then (if x ≤ 102 then ((x - 97) % 256) + 10 else -1) else -1)) (fun k => ?_) (Ev.now _)
    rw [impl_half.j0]
    split
    · rfl
    · split
      · split <;> rfl
      · rfl
  refine Ev.congr (f := fun k => impl_half.j0 k x (decide (48 ≤ x ∧ x ≤ 57))) (fun k => ?_) ?_
  · rw [impl_half.f]
    by_cases c : x ≥ 48
    · rw [if_pos c]; congr 1; simp; omega
    · rw [if_neg c]; congr 1; simp; omega
  · have e : (if decide (48 ≤ x ∧ x ≤ 57) = true then (x - 48) % 256 else if x ≥ 97 then (if x ≤ 102 then ((x - 97) % 256) + 10 else -1) else -1) = hexNum x := by
      unfold hexNum
      simp only [decide_eq_true_eq]
      split
      · omega
      · split
        · split
          · rw [if_pos (by omega)]; omega
          · rw [if_neg (by omega)]
        · rw [if_neg (by omega)]
    rw [← e]; exact hj _
/-- What both DecodeHex answer, from place i on with the bytes so far. -/
def unhex (s : ByteArray) (acc : List Int) (i : Nat) : Nat → ByteArray × Bool
  | 0 => (strOfNums acc, true)
  | d + 1 => if hexNum (bt s i) < 0 ∨ hexNum (bt s ((i : Int) + 1)) < 0 then ((⟨#[]⟩ : ByteArray), false) else unhex s (acc ++ [16 * hexNum (bt s i) + hexNum (bt s ((i : Int) + 1))]) (i + 2) d
def decHex (s : ByteArray) : ByteArray × Bool := if s.size % 2 = 1 then ((⟨#[]⟩ : ByteArray), false) else unhex s [] 0 (s.size / 2)
theorem decHexS_ev (s : ByteArray) (hs : s.size ≤ 1048576) : Ev (fun k => spec_DecodeHex.f k s) (decHex s) := by
  unfold decHex
  by_cases c : s.size % 2 = 1
  · rw [if_pos c]
    exact Ev.congr (f := fun _ => some ((⟨#[]⟩ : ByteArray), false)) (fun k => by rw [spec_DecodeHex.f, if_pos (by omega)]) (Ev.now _)
  · rw [if_neg c]
    have loop : ∀ (d i : Nat) (acc : List Int), i + 2 * d = s.size → acc.length ≤ i → Ev (fun k => spec_DecodeHex.l0 k s acc i) (unhex s acc i d) := by
      intro d
      induction d with
      | zero =>
        intro i acc hi ha
        refine Ev.step (f := fun _ => some (strOfNums acc, true)) (fun k => ?_) (Ev.now _)
        rw [spec_DecodeHex.l0, if_neg (by omega)]
      | succ d ih =>
        intro i acc hi ha
        have h1 := hexNum_range (bt s i)
        have h2 := hexNum_range (bt s ((i : Int) + 1))
        refine Ev.step (f := fun k => (spec_l1FromHex.f k (bt s i)).bind fun a => (spec_l1FromHex.f k (bt s ((i : Int) + 1))).bind fun b => if a < 0 then some ((⟨#[]⟩ : ByteArray), false) else if b < 0 then some ((⟨#[]⟩ : ByteArray), false) else spec_DecodeHex.l0 k s (acc ++ [(wrap64 (wrap64 (16 * a) + b)) % 256]) ((i + 2 : Nat) : Int)) (fun k => ?_) ?_
        · rw [spec_DecodeHex.l0, if_pos (by omega), if_pos (by omega), w64 (by omega) (by omega : (i : Int) + 1 ≤ _)]
          congr 1; funext a
          rw [if_pos (by omega), if_pos (by omega)]
          congr 1; funext b
          rw [w64 (by omega) (by omega : (i : Int) + 2 ≤ _)]
          split
          · rfl
          · split
            · rfl
            · rw [if_pos (by omega)]; rfl
        · refine Ev.bind (l1FromHex_ev _) (Ev.bind (l1FromHex_ev _) ?_)
          rw [unhex]
          by_cases c1 : hexNum (bt s i) < 0
          · simp only [c1, true_or, if_true]; exact Ev.now _
          · by_cases c2 : hexNum (bt s ((i : Int) + 1)) < 0
            · simp only [c1, c2, or_true, if_true, if_false]; exact Ev.now _
            · simp only [c1, c2, or_false, if_false]
              rw [w64 (by omega) (by omega : 16 * hexNum (bt s i) ≤ _), w64 (by omega) (by omega), Int.emod_eq_of_lt (by omega) (by omega)]
              exact ih (i + 2) _ (by omega) (by simp; omega)
    exact Ev.congr (fun k => by rw [spec_DecodeHex.f, if_neg (by omega)]; rfl) (loop (s.size / 2) 0 [] (by omega) (by simp))
theorem decHexI_ev (s : ByteArray) (hs : s.size ≤ 1048576) : Ev (fun k => impl_DecodeHex.f k s) (decHex s) := by
  unfold decHex
  by_cases c : s.size % 2 = 1
  · rw [if_pos c]
    exact Ev.congr (f := fun _ => some ((⟨#[]⟩ : ByteArray), false)) (fun k => by rw [impl_DecodeHex.f, if_pos (by omega)]) (Ev.now _)
  · rw [if_neg c]
    have loop : ∀ (d i : Nat) (acc : List Int), i + 2 * d = s.size → acc.length ≤ i → Ev (fun k => impl_DecodeHex.l0 k s acc i) (unhex s acc i d) := by
      intro d
      induction d with
      | zero =>
        intro i acc hi ha
        refine Ev.step (f := fun _ => some (strOfNums acc, true)) (fun k => ?_) (Ev.now _)
        rw [impl_DecodeHex.l0, if_neg (by omega)]
      | succ d ih =>
        intro i acc hi ha
        have h1 := hexNum_range (bt s i)
        have h2 := hexNum_range (bt s ((i : Int) + 1))
        refine Ev.step (f := fun k => (impl_half.f k (bt s i)).bind fun a => (impl_half.f k (bt s ((i : Int) + 1))).bind fun b => if a < 0 then some ((⟨#[]⟩ : ByteArray), false) else if b < 0 then some ((⟨#[]⟩ : ByteArray), false) else impl_DecodeHex.l0 k s (acc ++ [(wrap64 (wrap64 (16 * a) + b)) % 256]) ((i + 2 : Nat) : Int)) (fun k => ?_) ?_
        · rw [impl_DecodeHex.l0, if_pos (by omega), if_pos (by omega), w64 (by omega) (by omega : (i : Int) + 1 ≤ _)]
          congr 1; funext a
          rw [if_pos (by omega), if_pos (by omega)]
          congr 1; funext b
          rw [w64 (by omega) (by omega : (i : Int) + 2 ≤ _)]
          split
          · rfl
          · split
            · rfl
            · rw [if_pos (by omega)]; rfl
        · have hb1 := bt_range s i
          have hb2 := bt_range s ((i : Int) + 1)
          refine Ev.bind (half_ev _ hb1.1 hb1.2) (Ev.bind (half_ev _ hb2.1 hb2.2) ?_)
          rw [unhex]
          by_cases c1 : hexNum (bt s i) < 0
          · simp only [c1, true_or, if_true]; exact Ev.now _
          · by_cases c2 : hexNum (bt s ((i : Int) + 1)) < 0
            · simp only [c1, c2, or_true, if_true, if_false]; exact Ev.now _
            · simp only [c1, c2, or_false, if_false]
              rw [w64 (by omega) (by omega : 16 * hexNum (bt s i) ≤ _), w64 (by omega) (by omega), Int.emod_eq_of_lt (by omega) (by omega)]
              exact ih (i + 2) _ (by omega) (by simp; omega)
    exact Ev.congr (fun k => by rw [impl_DecodeHex.f, if_neg (by omega)]; rfl) (loop (s.size / 2) 0 [] (by omega) (by simp))

theorem FnExactDecodeHex : laws_FnExactDecodeHex.Pure := by
  intro s _
  by_cases hs : (s.size : Int) > 1048576
  · exact ⟨0, by unfold laws_FnExactDecodeHex.f; rw [if_pos hs]⟩
  · refine Ev.rounds (r := true) (Ev.congr (fun k => by unfold laws_FnExactDecodeHex.f; rw [if_neg hs]) ?_)
    refine Ev.bind (decHexS_ev s (by omega)) (Ev.bind (decHexI_ev s (by omega)) ?_)
    simp only [bne_self_eq_false, if_true, Bool.false_eq_true, if_false]
    exact Ev.now _

end Go.Proofs.Ytaimpokajhkgnaa.Pure
