/- ParseValue of the program and of the reference agree, for every string (longer than 2^20 bytes the law itself answers true). -/
import Derived.Test.YtjphbdnfbkfgiaaDoorPFnExactParseValuex1
import Derived.Test.YtjphbdnfbkfgiaaDoorOpens
import Derived.Test.YtjphbdnfbkfgiaaDoorPlain
namespace Go.Proofs.YtjphbdnfbkfgiaaDoor.Pure
open Go.RowKit Go.Proofs.YtjphbdnfbkfgiaaDoor.PFnExactParseValue Go.Proofs.YtjphbdnfbkfgiaaDoorW.PrintWords Go.Proofs.YtjphbdnfbkfgiaaDoorW.PrintLast Go.Proofs.YtjphbdnfbkfgiaaDoorW.PrintMore Go.Proofs.YtjphbdnfbkfgiaaDoor.Opens Go.Proofs.YtjphbdnfbkfgiaaDoor.Plain
set_option linter.unusedVariables false
set_option linter.unusedSimpArgs false

theorem l1In_f (a b c : Int) : spec_l1In.f a b c = some (decide (b ≤ a ∧ a ≤ c)) := by
  unfold spec_l1In.f
  by_cases h : b ≤ a <;> simp [h]

theorem within_f (a b c : Int) : impl_within.f a b c = some (decide (b ≤ a ∧ a ≤ c)) := by
  unfold impl_within.f
  by_cases h : b ≤ a <;> simp [h]

def vv (x : Int) : Bool := decide (-40 ≤ x ∧ x ≤ 9)

theorem specNullNumber_f (x : Int) (h : GI x) : spec_NullNumber.f x = some (if -40 ≤ x ∧ x ≤ -1 then (-1 - x, true) else (0, false)) := by
  unfold GI at h
  unfold spec_NullNumber.f
  by_cases c : x ≥ 0
  · rw [if_pos c, if_neg (by omega)]
  · have e : wrap64 ((-1) - x) = -1 - x := w64 (by omega) (by omega)
    rw [if_neg c, e, l1In_f]
    simp only [Option.bind_some, decide_eq_true_eq]
    by_cases c2 : -40 ≤ x ∧ x ≤ -1
    · rw [if_pos c2, if_pos (by omega)]
    · rw [if_neg c2, if_neg (by omega)]

theorem implIsValidValue_f (x : Int) : impl_IsValidValue.f x = some (vv x) := by
  unfold impl_IsValidValue.f vv
  rw [within_f, Option.bind_some]

/-- The digits of n, ahead of what stands already. -/
theorem digits_step (u : Nat) (h : 10 ≤ u) : Lib.decDigits u = Lib.decDigits (u / 10) ++ [UInt8.ofNat (48 + u % 10)] := by rw [Lib.decDigits, dif_neg (by omega)]
theorem digits_one (u : Nat) (h : u < 10) : Lib.decDigits u = [UInt8.ofNat (48 + u)] := by rw [Lib.decDigits, dif_pos h]
def strB (l : List UInt8) : ByteArray := ⟨l.toArray⟩
theorem strB_size (l : List UInt8) : (strB l).size = l.length := by simp [strB, ByteArray.size]
theorem strB_append (a b : List UInt8) : strB a ++ strB b = strB (a ++ b) := by
  apply ByteArray.ext
  simp [strB, ByteArray.data_append]
theorem str_one (d : Nat) : strOfNums [((48 + d : Nat) : Int) % 256] = strB [UInt8.ofNat (48 + d)] := by
  have e1 : (((48 + d : Nat) : Int) % 256).toNat = (48 + d) % 256 := by omega
  have e2 : UInt8.ofNat ((48 + d) % 256) = UInt8.ofNat (48 + d) := by apply UInt8.toNat_inj.1; simp
  unfold strOfNums strB
  simp only [List.map_cons, List.map_nil, e1, e2]
theorem digits_len (u : Nat) : (Lib.decDigits u).length ≤ u + 1 := by
  induction u using Nat.strongRecOn with
  | _ u ih =>
    by_cases h : u < 10
    · rw [digits_one u h]; simp
    · rw [digits_step u (by omega), List.length_append]
      have := ih (u / 10) (by omega)
      simp; omega
theorem digits_len20 (u : Nat) (h : u < 100000000000000000000) : (Lib.decDigits u).length ≤ 20 := by
  have key : ∀ (m u : Nat), u < 10 ^ (m + 1) → (Lib.decDigits u).length ≤ m + 1 := by
    intro m
    induction m with
    | zero => intro u h; rw [digits_one u (by omega)]; simp
    | succ m ih =>
      intro u h
      by_cases c : u < 10
      · rw [digits_one u c]; simp
      · rw [digits_step u (by omega), List.length_append]
        have := ih (u / 10) (by rw [Nat.pow_succ] at h; omega)
        simp; omega
  exact key 19 u (by simpa using h)
theorem l0_digits (u : Nat) : ∀ (x : Int) (out : List UInt8) (neg : Bool), x.natAbs = u → 0 < u → -9223372036854775808 ≤ x → x ≤ 9223372036854775807 → out.length + u + 1 ≤ 9223372036854775807 * 2 → out.length ≤ 30 →
    ∀ (hl : out.length + (Lib.decDigits u).length ≤ 30), Ev (fun k => spec_FormatInt.l0 k x (strB out) neg) (if neg = true then strB (45 :: (Lib.decDigits u ++ out)) else strB (Lib.decDigits u ++ out)) := by
  induction u using Nat.strongRecOn with
  | _ u ih =>
    intro x out neg hu h0 h1 h2 _ _ hl
    have hne : x ≠ 0 := by omega
    have hd : ∃ d : Nat, d = u % 10 ∧ (Int.tmod x 10).natAbs = d ∧ (Int.tdiv x 10).natAbs = u / 10 := by
      refine ⟨u % 10, rfl, ?_, ?_⟩
      · rw [Int.natAbs_tmod, hu]; rfl
      · rw [Int.natAbs_tdiv, hu]; rfl
    obtain ⟨d, hd1, hd2, hd3⟩ := hd
    have hd9 : d ≤ 9 := by omega
    -- what the round does
    have hround : ∀ k, spec_FormatInt.l0 (k + 1) x (strB out) neg = spec_FormatInt.l0 k (Int.tdiv x 10) (strB (UInt8.ofNat (48 + d) :: out)) neg := by
      intro k
      have hsz : (strB [UInt8.ofNat (48 + d)]).size + (strB out).size ≤ 9223372036854775807 := by
        rw [strB_size, strB_size]; simp; omega
      have hw : wrap64 (Int.tdiv x 10) = Int.tdiv x 10 := w64 (by omega) (by omega)
      rw [spec_FormatInt.l0, if_neg hne]
      by_cases c : Int.tmod x 10 < 0
      · have e1 : wrap64 (48 + wrap64 (-(Int.tmod x 10))) = ((48 + d : Nat) : Int) := by rw [w64 (x := -(Int.tmod x 10)) (by omega) (by omega), w64 (by omega) (by omega)]; omega
        rw [if_pos c, Option.bind_some, e1, str_one, if_pos hsz, hw, strB_append]
        rfl
      · have e1 : wrap64 (48 + Int.tmod x 10) = ((48 + d : Nat) : Int) := by rw [w64 (by omega) (by omega)]; omega
        rw [if_neg c, Option.bind_some, e1, str_one, if_pos hsz, hw, strB_append]
        rfl
    refine Ev.step hround ?_
    by_cases c : u < 10
    · have hz : Int.tdiv x 10 = 0 := by omega
      rw [hz, digits_one u c]
      have hdu : d = u := by omega
      rw [← hdu]
      refine Ev.step (f := fun _ => some (if neg = true then strB (45 :: ([UInt8.ofNat (48 + d)] ++ out)) else strB ([UInt8.ofNat (48 + d)] ++ out))) (fun k => ?_) (Ev.now _)
      rw [spec_FormatInt.l0, if_pos rfl]
      cases neg with
      | true =>
        rw [if_pos rfl, if_pos (by rw [strB_size]; simp; omega), if_pos rfl]
        congr 1
      | false => rfl
    · rw [digits_step u (by omega)] at hl ⊢
      rw [List.length_append] at hl
      have e := ih (u / 10) (by omega) (Int.tdiv x 10) (UInt8.ofNat (48 + d) :: out) neg hd3 (by omega) (by omega) (by omega) (by simp; omega) (by simp at hl ⊢; omega) (by simp at hl ⊢; omega)
      rw [hd1] at e ⊢
      simpa using e
theorem specFormat_ev (x : Int) (h : GI x) : Ev (fun k => spec_FormatInt.f k x) (strB (Lib.itoa x)) := by
  unfold GI at h
  by_cases c : x = 0
  · subst c
    refine Ev.congr (fun k => by rw [spec_FormatInt.f, if_pos rfl]) ?_
    have e : strB (Lib.itoa 0) = (⟨#[48]⟩ : ByteArray) := by unfold Lib.itoa; rw [if_neg (by omega), digits_one _ (by decide)]; rfl
    rw [e]; exact Ev.now _
  · have hl := digits_len20 x.natAbs (by omega)
    have e := l0_digits x.natAbs x [] (decide (x < 0)) rfl (by omega) (by omega) (by omega) (by simp; omega) (by simp) (by simp; omega)
    refine Ev.congr (fun k => by rw [spec_FormatInt.f, if_neg c]) ?_
    unfold Lib.itoa
    rw [List.append_nil, show strB [] = (⟨#[]⟩ : ByteArray) from rfl] at e
    by_cases cn : x < 0
    · rw [if_pos cn]
      simpa [cn] using e
    · rw [if_neg cn]
      have : x.toNat = x.natAbs := by omega
      rw [this]
      simpa [cn] using e
theorem implFormat_f (x : Int) (h : GI x) : impl_FormatInt.f x = some (strB (Lib.itoa x)) := by
  unfold GI at h
  rw [impl_FormatInt.f, strconv_Itoa_61.f, if_pos (by omega)]
  rfl

theorem itoa_len (n : Int) (h : GI n) : (Lib.itoa n).length ≤ 21 := by
  unfold GI at h
  unfold Lib.itoa
  split
  · have := digits_len20 n.natAbs (by omega)
    simp; omega
  · have := digits_len20 n.toNat (by omega)
    omega
/-- What FormatValue answers. -/
def fv (x : Int) : ByteArray := if -40 ≤ x ∧ x ≤ -1 then strB (110 :: Lib.itoa (-1 - x)) else if 0 ≤ x ∧ x ≤ 9 then strB (Lib.itoa x) else strB []
theorem specFormatValue_ev (x : Int) (h : GI x) : Ev (fun k => spec_FormatValue.f k x) (fv x) := by
  refine Ev.congr (fun k => by rw [spec_FormatValue.f, specNullNumber_f x h, Option.bind_some]) ?_
  unfold fv
  by_cases c : -40 ≤ x ∧ x ≤ -1
  · simp only [c, and_self, if_true]
    have hg : GI (-1 - x) := by unfold GI; omega
    refine Ev.bind (specFormat_ev (-1 - x) hg) ?_
    have hl := itoa_len _ hg
    refine Ev.congr (fun k => by rw [if_pos (by rw [strB_size]; omega), show (⟨#[110]⟩ : ByteArray) = strB [110] from rfl, strB_append]; rfl) (Ev.now (strB (110 :: Lib.itoa (-1 - x))))
  · simp only [c, if_false, Bool.false_eq_true]
    refine Ev.congr (fun k => by rw [l1In_f, Option.bind_some]) ?_
    by_cases c2 : 0 ≤ x ∧ x ≤ 9
    · simp only [decide_eq_true c2, if_true, if_pos c2]
      exact Ev.bind (specFormat_ev x h) (Ev.now _)
    · simp only [decide_eq_false c2, if_neg c2, Bool.false_eq_true, if_false]
      exact Ev.now _
theorem implFormatValue_f (x : Int) (h : GI x) : impl_FormatValue.f x = some (fv x) := by
  rw [impl_FormatValue.f, implIsValidValue_f, Option.bind_some, impl_IsNull.f, Option.bind_some]
  unfold fv vv
  by_cases c : -40 ≤ x ∧ x ≤ 9
  · rw [if_pos (decide_eq_true c)]
    by_cases c2 : x < 0
    · have hg : GI (-1 - x) := by unfold GI; omega
      have hl := itoa_len _ hg
      rw [if_pos (decide_eq_true c2), if_pos (by omega), w64 (by omega) (by omega), implFormat_f _ hg, Option.bind_some, if_pos (by rw [strB_size]; omega), show (⟨#[110]⟩ : ByteArray) = strB [110] from rfl, strB_append]
      rfl
    · rw [if_neg (by simpa using c2), if_neg (by omega), if_pos (by omega), implFormat_f x h, Option.bind_some]
  · rw [if_neg (by simpa using c), if_neg (by omega), if_neg (by omega)]
    rfl

/-- The first value from i on (d of them) that is written so. -/
def pvF (s : ByteArray) (i : Int) : Nat → Int × Bool
  | 0 => (0, false)
  | d + 1 => if (fv i).toList = s.toList then (i, true) else pvF s (i + 1) d
theorem implParseValue_ev (s : ByteArray) : Ev (fun k => impl_ParseValue.f k s) (pvF s (-40) 50) := by
  have loop : ∀ (d : Nat) (i : Int), i + d = 10 → -40 ≤ i → Ev (fun k => impl_ParseValue.l0 k s i) (pvF s i d) := by
    intro d
    induction d with
    | zero =>
      intro i hi _
      refine Ev.step (f := fun _ => some (0, false)) (fun k => ?_) (Ev.now _)
      rw [impl_ParseValue.l0, if_neg (by omega)]
    | succ d ih =>
      intro i hi h2
      refine Ev.step (f := fun k => if (fv i).toList = s.toList then some (i, true) else impl_ParseValue.l0 k s (i + 1)) (fun k => ?_) ?_
      · rw [impl_ParseValue.l0, if_pos (by omega), implFormatValue_f i (by unfold GI; omega), Option.bind_some, w64 (by omega) (by omega)]
      · rw [pvF]
        by_cases c : (fv i).toList = s.toList
        · simp only [c, if_true]; exact Ev.now _
        · simp only [c, if_false]; exact ih (i + 1) (by omega) (by omega)
  exact Ev.congr (fun k => by rw [impl_ParseValue.f]) (loop 50 (-40) (by omega) (by omega))
theorem specParseValue_ev (s : ByteArray) : Ev (fun k => spec_ParseValue.f k s) (pvF s (-40) 50) := by
  have loop : ∀ (d : Nat) (i : Int), i + d = 10 → -40 ≤ i → Ev (fun k => spec_ParseValue.l0 k s i) (pvF s i d) := by
    intro d
    induction d with
    | zero =>
      intro i hi _
      refine Ev.step (f := fun _ => some (0, false)) (fun k => ?_) (Ev.now _)
      rw [spec_ParseValue.l0, if_neg (by omega)]
    | succ d ih =>
      intro i hi h2
      refine Ev.step (f := fun k => (spec_FormatValue.f k i).bind fun t => if t.toList = s.toList then some (i, true) else spec_ParseValue.l0 k s (i + 1)) (fun k => ?_) ?_
      · rw [spec_ParseValue.l0, if_pos (by omega), w64 (by omega) (by omega)]
      · refine Ev.bind (specFormatValue_ev i (by unfold GI; omega)) ?_
        rw [pvF]
        by_cases c : (fv i).toList = s.toList
        · simp only [c, if_true]; exact Ev.now _
        · simp only [c, if_false]; exact ih (i + 1) (by omega) (by omega)
  exact Ev.congr (fun k => by rw [spec_ParseValue.f]) (loop 50 (-40) (by omega) (by omega))

theorem FnExactParseValue (a0 : ByteArray) (g0 : GS a0) : ∃ k, laws_FnExactParseValue.f k a0 = some true := by
  by_cases c : (a0.size : Int) > 1048576
  · exact ⟨0, by rw [laws_FnExactParseValue.f, if_pos c]⟩
  · refine Ev.rounds (r := true) (Ev.congr (fun k => by rw [laws_FnExactParseValue.f, if_neg c]) (Ev.bind (specParseValue_ev a0) (Ev.bind (implParseValue_ev a0) ?_)))
    simp only [if_true, bne_self_eq_false, Bool.false_eq_true, if_false]
    exact Ev.now _

end Go.Proofs.YtjphbdnfbkfgiaaDoor.Pure
