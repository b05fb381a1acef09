/- ParseValue of what FormatValue writes gives the value back, and reads nothing else; NullNumber gives back what NullValue was made of; at every drawn argument (past the law's own size bound it answers true itself). -/
import Derived.Test.YtjphbdnfbkfgiaaDoorPFnValueFormatx1
import Derived.Test.YtjphbdnfbkfgiaaDoorPFnValueFormatx2
import Derived.Test.YtjphbdnfbkfgiaaDoorPFnValueFormatx3
import Derived.Test.YtjphbdnfbkfgiaaDoorOpens
import Derived.Test.YtjphbdnfbkfgiaaDoorPlain
namespace Go.Proofs.YtjphbdnfbkfgiaaDoor.Pure
open Go.RowKit Go.Proofs.YtjphbdnfbkfgiaaDoor.PFnValueFormat Go.Proofs.YtjphbdnfbkfgiaaDoorW.PrintWords Go.Proofs.YtjphbdnfbkfgiaaDoorW.PrintLast Go.Proofs.YtjphbdnfbkfgiaaDoorW.PrintMore Go.Proofs.YtjphbdnfbkfgiaaDoor.Opens Go.Proofs.YtjphbdnfbkfgiaaDoor.Plain
set_option linter.unusedVariables false
set_option linter.unusedSimpArgs false

theorem l1In_f (a b c : Int) : spec_l1In.f a b c = some (decide (b ≤ a ∧ a ≤ c)) := by
  unfold spec_l1In.f
  by_cases h : b ≤ a <;> simp [h]

theorem within_f (a b c : Int) : impl_within.f a b c = some (decide (b ≤ a ∧ a ≤ c)) := by
  unfold impl_within.f
  by_cases h : b ≤ a <;> simp [h]

def vv (x : Int) : Bool := decide (-40 ≤ x ∧ x ≤ 9)

theorem specNullNumber_f (x : Int) (h : GI x) : spec_NullNumber.f x = some (if -40 ≤ x ∧ x ≤ -1 then (-1 - x, true) else (0, false)) := by
  unfold GI at h
  unfold spec_NullNumber.f
  by_cases c : x ≥ 0
  · rw [if_pos c, if_neg (by omega)]
  · have e : wrap64 ((-1) - x) = -1 - x := w64 (by omega) (by omega)
    rw [if_neg c, e, l1In_f]
    simp only [Option.bind_some, decide_eq_true_eq]
    by_cases c2 : -40 ≤ x ∧ x ≤ -1
    · rw [if_pos c2, if_pos (by omega)]
    · rw [if_neg c2, if_neg (by omega)]

theorem implNullNumber_f (x : Int) (h : GI x) : impl_NullNumber.f x = some (if -40 ≤ x ∧ x ≤ -1 then (-1 - x, true) else (0, false)) := by
  unfold GI at h
  unfold impl_NullNumber.f
  rw [within_f]
  simp only [Option.bind_some, decide_eq_true_eq]
  have e : wrap64 ((-1) - x) = -1 - x := w64 (by omega) (by omega)
  rw [e]
  by_cases c2 : -40 ≤ x ∧ x ≤ -1
  · rw [if_pos c2, if_pos (by omega)]
  · rw [if_neg c2, if_neg (by omega)]

theorem specIsValidValue_f (x : Int) (h : GI x) : spec_IsValidValue.f x = some (vv x) := by
  unfold spec_IsValidValue.f vv
  rw [specNullNumber_f x h, Option.bind_some, l1In_f]
  by_cases c2 : -40 ≤ x ∧ x ≤ -1
  · rw [if_pos c2, if_pos rfl]; exact congrArg some (decide_eq_true (by omega)).symm
  · rw [if_neg c2, if_neg (by simp), Option.bind_some]; exact congrArg some (decide_eq_decide.2 (by omega))

theorem implIsValidValue_f (x : Int) : impl_IsValidValue.f x = some (vv x) := by
  unfold impl_IsValidValue.f vv
  rw [within_f, Option.bind_some]

/-- The digits of n, ahead of what stands already. -/
theorem digits_step (u : Nat) (h : 10 ≤ u) : Lib.decDigits u = Lib.decDigits (u / 10) ++ [UInt8.ofNat (48 + u % 10)] := by rw [Lib.decDigits, dif_neg (by omega)]
theorem digits_one (u : Nat) (h : u < 10) : Lib.decDigits u = [UInt8.ofNat (48 + u)] := by rw [Lib.decDigits, dif_pos h]
def strB (l : List UInt8) : ByteArray := ⟨l.toArray⟩
theorem strB_size (l : List UInt8) : (strB l).size = l.length := by simp [strB, ByteArray.size]
theorem strB_append (a b : List UInt8) : strB a ++ strB b = strB (a ++ b) := by
  apply ByteArray.ext
  simp [strB, ByteArray.data_append]
theorem str_one (d : Nat) : strOfNums [((48 + d : Nat) : Int) % 256] = strB [UInt8.ofNat (48 + d)] := by
  have e1 : (((48 + d : Nat) : Int) % 256).toNat = (48 + d) % 256 := by omega
  have e2 : UInt8.ofNat ((48 + d) % 256) = UInt8.ofNat (48 + d) := by apply UInt8.toNat_inj.1; simp
  unfold strOfNums strB
  simp only [List.map_cons, List.map_nil, e1, e2]
theorem digits_len (u : Nat) : (Lib.decDigits u).length ≤ u + 1 := by
  induction u using Nat.strongRecOn with
  | _ u ih =>
    by_cases h : u < 10
    · rw [digits_one u h]; simp
    · rw [digits_step u (by omega), List.length_append]
      have := ih (u / 10) (by omega)
      simp; omega
theorem digits_len20 (u : Nat) (h : u < 100000000000000000000) : (Lib.decDigits u).length ≤ 20 := by
  have key : ∀ (m u : Nat), u < 10 ^ (m + 1) → (Lib.decDigits u).length ≤ m + 1 := by
    intro m
    induction m with
    | zero => intro u h; rw [digits_one u (by omega)]; simp
    | succ m ih =>
      intro u h
      by_cases c : u < 10
      · rw [digits_one u c]; simp
      · rw [digits_step u (by omega), List.length_append]
        have := ih (u / 10) (by rw [Nat.pow_succ] at h; omega)
        simp; omega
  exact key 19 u (by simpa using h)
theorem digits_len9 (u : Nat) (h : u < 1000000000) : (Lib.decDigits u).length ≤ 9 := by
  have key : ∀ (m u : Nat), u < 10 ^ (m + 1) → (Lib.decDigits u).length ≤ m + 1 := by
    intro m
    induction m with
    | zero => intro u h; rw [digits_one u (by omega)]; simp
    | succ m ih =>
      intro u h
      by_cases c : u < 10
      · rw [digits_one u c]; simp
      · rw [digits_step u (by omega), List.length_append]
        have := ih (u / 10) (by rw [Nat.pow_succ] at h; omega)
        simp; omega
  exact key 8 u (by simpa using h)
theorem l0_digits (u : Nat) : ∀ (x : Int) (out : List UInt8) (neg : Bool), x.natAbs = u → 0 < u → -9223372036854775808 ≤ x → x ≤ 9223372036854775807 → out.length + u + 1 ≤ 9223372036854775807 * 2 → out.length ≤ 30 →
    ∀ (hl : out.length + (Lib.decDigits u).length ≤ 30), Ev (fun k => spec_FormatInt.l0 k x (strB out) neg) (if neg = true then strB (45 :: (Lib.decDigits u ++ out)) else strB (Lib.decDigits u ++ out)) := by
  induction u using Nat.strongRecOn with
  | _ u ih =>
    intro x out neg hu h0 h1 h2 _ _ hl
    have hne : x ≠ 0 := by omega
    have hd : ∃ d : Nat, d = u % 10 ∧ (Int.tmod x 10).natAbs = d ∧ (Int.tdiv x 10).natAbs = u / 10 := by
      refine ⟨u % 10, rfl, ?_, ?_⟩
      · rw [Int.natAbs_tmod, hu]; rfl
      · rw [Int.natAbs_tdiv, hu]; rfl
    obtain ⟨d, hd1, hd2, hd3⟩ := hd
    have hd9 : d ≤ 9 := by omega
    -- what the round does
    have hround : ∀ k, spec_FormatInt.l0 (k + 1) x (strB out) neg = spec_FormatInt.l0 k (Int.tdiv x 10) (strB (UInt8.ofNat (48 + d) :: out)) neg := by
      intro k
      have hsz : (strB [UInt8.ofNat (48 + d)]).size + (strB out).size ≤ 9223372036854775807 := by
        rw [strB_size, strB_size]; simp; omega
      have hw : wrap64 (Int.tdiv x 10) = Int.tdiv x 10 := w64 (by omega) (by omega)
      rw [spec_FormatInt.l0, if_neg hne]
      by_cases c : Int.tmod x 10 < 0
      · have e1 : wrap64 (48 + wrap64 (-(Int.tmod x 10))) = ((48 + d : Nat) : Int) := by rw [w64 (x := -(Int.tmod x 10)) (by omega) (by omega), w64 (by omega) (by omega)]; omega
        rw [if_pos c, Option.bind_some, e1, str_one, if_pos hsz, hw, strB_append]
        rfl
      · have e1 : wrap64 (48 + Int.tmod x 10) = ((48 + d : Nat) : Int) := by rw [w64 (by omega) (by omega)]; omega
        rw [if_neg c, Option.bind_some, e1, str_one, if_pos hsz, hw, strB_append]
        rfl
    refine Ev.step hround ?_
    by_cases c : u < 10
    · have hz : Int.tdiv x 10 = 0 := by omega
      rw [hz, digits_one u c]
      have hdu : d = u := by omega
      rw [← hdu]
      refine Ev.step (f := fun _ => some (if neg = true then strB (45 :: ([UInt8.ofNat (48 + d)] ++ out)) else strB ([UInt8.ofNat (48 + d)] ++ out))) (fun k => ?_) (Ev.now _)
      rw [spec_FormatInt.l0, if_pos rfl]
      cases neg with
      | true =>
        rw [if_pos rfl, if_pos (by rw [strB_size]; simp; omega), if_pos rfl]
        congr 1
      | false => rfl
    · rw [digits_step u (by omega)] at hl ⊢
      rw [List.length_append] at hl
      have e := ih (u / 10) (by omega) (Int.tdiv x 10) (UInt8.ofNat (48 + d) :: out) neg hd3 (by omega) (by omega) (by omega) (by simp; omega) (by simp at hl ⊢; omega) (by simp at hl ⊢; omega)
      rw [hd1] at e ⊢
      simpa using e
theorem specFormat_ev (x : Int) (h : GI x) : Ev (fun k => spec_FormatInt.f k x) (strB (Lib.itoa x)) := by
  unfold GI at h
  by_cases c : x = 0
  · subst c
    refine Ev.congr (fun k => by rw [spec_FormatInt.f, if_pos rfl]) ?_
    have e : strB (Lib.itoa 0) = (⟨#[48]⟩ : ByteArray) := by unfold Lib.itoa; rw [if_neg (by omega), digits_one _ (by decide)]; rfl
    rw [e]; exact Ev.now _
  · have hl := digits_len20 x.natAbs (by omega)
    have e := l0_digits x.natAbs x [] (decide (x < 0)) rfl (by omega) (by omega) (by omega) (by simp; omega) (by simp) (by simp; omega)
    refine Ev.congr (fun k => by rw [spec_FormatInt.f, if_neg c]) ?_
    unfold Lib.itoa
    rw [List.append_nil, show strB [] = (⟨#[]⟩ : ByteArray) from rfl] at e
    by_cases cn : x < 0
    · rw [if_pos cn]
      simpa [cn] using e
    · rw [if_neg cn]
      have : x.toNat = x.natAbs := by omega
      rw [this]
      simpa [cn] using e
theorem implFormat_f (x : Int) (h : GI x) : impl_FormatInt.f x = some (strB (Lib.itoa x)) := by
  unfold GI at h
  rw [impl_FormatInt.f, strconv_Itoa_61.f, if_pos (by omega)]
  rfl

theorem itoa_len (n : Int) (h : GI n) : (Lib.itoa n).length ≤ 21 := by
  unfold GI at h
  unfold Lib.itoa
  split
  · have := digits_len20 n.natAbs (by omega)
    simp; omega
  · have := digits_len20 n.toNat (by omega)
    omega

/-- What FormatValue answers. -/
def fv (x : Int) : ByteArray := if -40 ≤ x ∧ x ≤ -1 then strB (110 :: Lib.itoa (-1 - x)) else if 0 ≤ x ∧ x ≤ 9 then strB (Lib.itoa x) else strB []
theorem specFormatValue_ev (x : Int) (h : GI x) : Ev (fun k => spec_FormatValue.f k x) (fv x) := by
  refine Ev.congr (fun k => by rw [spec_FormatValue.f, specNullNumber_f x h, Option.bind_some]) ?_
  unfold fv
  by_cases c : -40 ≤ x ∧ x ≤ -1
  · simp only [c, and_self, if_true]
    have hg : GI (-1 - x) := by unfold GI; omega
    refine Ev.bind (specFormat_ev (-1 - x) hg) ?_
    have hl := itoa_len _ hg
    refine Ev.congr (fun k => by rw [if_pos (by rw [strB_size]; omega), show (⟨#[110]⟩ : ByteArray) = strB [110] from rfl, strB_append]; rfl) (Ev.now (strB (110 :: Lib.itoa (-1 - x))))
  · simp only [c, if_false, Bool.false_eq_true]
    refine Ev.congr (fun k => by rw [l1In_f, Option.bind_some]) ?_
    by_cases c2 : 0 ≤ x ∧ x ≤ 9
    · simp only [decide_eq_true c2, if_true, if_pos c2]
      exact Ev.bind (specFormat_ev x h) (Ev.now _)
    · simp only [decide_eq_false c2, if_neg c2, Bool.false_eq_true, if_false]
      exact Ev.now _
theorem implFormatValue_f (x : Int) (h : GI x) : impl_FormatValue.f x = some (fv x) := by
  rw [impl_FormatValue.f, implIsValidValue_f, Option.bind_some, impl_IsNull.f, Option.bind_some]
  unfold fv vv
  by_cases c : -40 ≤ x ∧ x ≤ 9
  · rw [if_pos (decide_eq_true c)]
    by_cases c2 : x < 0
    · have hg : GI (-1 - x) := by unfold GI; omega
      have hl := itoa_len _ hg
      rw [if_pos (decide_eq_true c2), if_pos (by omega), w64 (by omega) (by omega), implFormat_f _ hg, Option.bind_some, if_pos (by rw [strB_size]; omega), show (⟨#[110]⟩ : ByteArray) = strB [110] from rfl, strB_append]
      rfl
    · rw [if_neg (by simpa using c2), if_neg (by omega), if_pos (by omega), implFormat_f x h, Option.bind_some]
  · rw [if_neg (by simpa using c), if_neg (by omega), if_neg (by omega)]
    rfl

/-- The first value from i on (d of them) that is written so. -/
def pvF (s : ByteArray) (i : Int) : Nat → Int × Bool
  | 0 => (0, false)
  | d + 1 => if (fv i).toList = s.toList then (i, true) else pvF s (i + 1) d
theorem implParseValue_ev (s : ByteArray) : Ev (fun k => impl_ParseValue.f k s) (pvF s (-40) 50) := by
  have loop : ∀ (d : Nat) (i : Int), i + d = 10 → -40 ≤ i → Ev (fun k => impl_ParseValue.l0 k s i) (pvF s i d) := by
    intro d
    induction d with
    | zero =>
      intro i hi _
      refine Ev.step (f := fun _ => some (0, false)) (fun k => ?_) (Ev.now _)
      rw [impl_ParseValue.l0, if_neg (by omega)]
    | succ d ih =>
      intro i hi h2
      refine Ev.step (f := fun k => if (fv i).toList = s.toList then some (i, true) else impl_ParseValue.l0 k s (i + 1)) (fun k => ?_) ?_
      · rw [impl_ParseValue.l0, if_pos (by omega), implFormatValue_f i (by unfold GI; omega), Option.bind_some, w64 (by omega) (by omega)]
      · rw [pvF]
        by_cases c : (fv i).toList = s.toList
        · simp only [c, if_true]; exact Ev.now _
        · simp only [c, if_false]; exact ih (i + 1) (by omega) (by omega)
  exact Ev.congr (fun k => by rw [impl_ParseValue.f]) (loop 50 (-40) (by omega) (by omega))
theorem specParseValue_ev (s : ByteArray) : Ev (fun k => spec_ParseValue.f k s) (pvF s (-40) 50) := by
  have loop : ∀ (d : Nat) (i : Int), i + d = 10 → -40 ≤ i → Ev (fun k => spec_ParseValue.l0 k s i) (pvF s i d) := by
    intro d
    induction d with
    | zero =>
      intro i hi _
      refine Ev.step (f := fun _ => some (0, false)) (fun k => ?_) (Ev.now _)
      rw [spec_ParseValue.l0, if_neg (by omega)]
    | succ d ih =>
      intro i hi h2
      refine Ev.step (f := fun k => (spec_FormatValue.f k i).bind fun t => if t.toList = s.toList then some (i, true) else spec_ParseValue.l0 k s (i + 1)) (fun k => ?_) ?_
      · rw [spec_ParseValue.l0, if_pos (by omega), w64 (by omega) (by omega)]
      · refine Ev.bind (specFormatValue_ev i (by unfold GI; omega)) ?_
        rw [pvF]
        by_cases c : (fv i).toList = s.toList
        · simp only [c, if_true]; exact Ev.now _
        · simp only [c, if_false]; exact ih (i + 1) (by omega) (by omega)
  exact Ev.congr (fun k => by rw [spec_ParseValue.f]) (loop 50 (-40) (by omega) (by omega))

def isD (x : Int) : Bool := decide (48 ≤ x ∧ x ≤ 57)
def stepP (p : Int × Int) (x : Int) : Int × Int := if 48 ≤ x ∧ x ≤ 57 then (p.1 * 10 + (x - 48), p.2 + 1) else p
/-- What has been read stays below ten to the digits' number. -/
theorem step_bound (l : List Int) : ∀ (p : Int × Int) (c : Nat), 0 ≤ p.1 → p.2 = c → p.1 < (10 : Int) ^ c → ∃ c' : Nat, (l.foldl stepP p).2 = c' ∧ c ≤ c' ∧ c' ≤ c + l.length ∧ 0 ≤ (l.foldl stepP p).1 ∧ (l.foldl stepP p).1 < (10 : Int) ^ c' := by
  induction l with
  | nil => intro p c h0 h1 h2; exact ⟨c, h1, by omega, by simp, h0, h2⟩
  | cons x l ih =>
    intro p c h0 h1 h2
    rw [List.foldl_cons]
    by_cases hx : 48 ≤ x ∧ x ≤ 57
    · have e : stepP p x = (p.1 * 10 + (x - 48), p.2 + 1) := by unfold stepP; rw [if_pos hx]
      rw [e]
      obtain ⟨c', a, b, d, f, g⟩ := ih (p.1 * 10 + (x - 48), p.2 + 1) (c + 1) (by show 0 ≤ p.1 * 10 + (x - 48); omega) (by show p.2 + 1 = _; omega) (by
        show p.1 * 10 + (x - 48) < _
        rw [Int.pow_succ]
        generalize (10 : Int) ^ c = q at h2
        omega)
      exact ⟨c', a, by omega, by simp; omega, f, g⟩
    · have e : stepP p x = p := by unfold stepP; rw [if_neg hx]
      rw [e]
      obtain ⟨c', a, b, d, f, g⟩ := ih p c h0 h1 h2
      exact ⟨c', a, b, by simp; omega, f, g⟩
theorem pow_pos10 (m : Nat) : (0 : Int) < (10 : Int) ^ m := by
  induction m with
  | zero => decide
  | succ m ih => rw [Int.pow_succ]; generalize (10 : Int) ^ m = q at *; omega
theorem pow_le (i m : Nat) (h : i ≤ m) : (10 : Int) ^ i ≤ (10 : Int) ^ m := by
  induction m with
  | zero =>
    obtain rfl : i = 0 := by omega
    exact Int.le_refl _
  | succ m ih =>
    by_cases c : i = m + 1
    · subst c; exact Int.le_refl _
    · have h1 := ih (by omega)
      have h2 := pow_pos10 m
      rw [Int.pow_succ]
      generalize (10 : Int) ^ m = q at *
      omega
theorem ten11 : (10 : Int) ^ 11 = 100000000000 := by decide
theorem ten9 : (10 : Int) ^ 9 = 1000000000 := by decide
def fin (m : Int) (s : ByteArray) : Int × Bool := if (strB (Lib.itoa m)).toList = s.toList then (m, true) else (0, false)
def isNeg (s : ByteArray) : Bool := decide (0 < s.size ∧ bt s 0 = 45)
def fin2 (p : Int × Int) (s : ByteArray) : Int × Bool := if p.2 > 9 then (0, false) else if (s.size : Int) > 10 then (0, false) else fin (if isNeg s = true then -p.1 else p.1) s
def fin3 (t : List Int) (sg : Int) (s : ByteArray) : Int × Bool := if 1 ≤ t.length ∧ t.length ≤ 9 then (if t.all isD = true then fin (sg * (t.foldl stepP (0, 0)).1) s else (0, false)) else (0, false)
theorem bytes_tail (s : ByteArray) : bytesOf (s.extract 1 s.size) = (bytesOf s).drop 1 := by
  have e : (s.extract 1 s.size).data.toList = s.data.toList.drop 1 := by
    rw [ByteArray.data_extract, Array.toList_extract, List.extract_eq_take_drop, List.take_of_length_le]
    rw [List.length_drop, Array.length_toList]
    exact Nat.le_refl _
  unfold bytesOf
  rw [← List.map_drop, e]
/-- The digits of u, as numbers. -/
def dig (u : Nat) : List Int := (Lib.decDigits u).map (fun b => (b.toNat : Int))
theorem dig_one (u : Nat) (h : u < 10) : dig u = [48 + (u : Int)] := by
  unfold dig; rw [digits_one u h]; simp; omega
theorem dig_step (u : Nat) (h : 10 ≤ u) : dig u = dig (u / 10) ++ [48 + ((u % 10 : Nat) : Int)] := by
  unfold dig; rw [digits_step u h]; simp; omega
theorem dig_all (u : Nat) : (dig u).all isD = true ∧ 1 ≤ (dig u).length ∧ (dig u).foldl stepP (0, 0) = ((u : Int), ((dig u).length : Int)) := by
  induction u using Nat.strongRecOn with
  | _ u ih =>
    by_cases h : u < 10
    · rw [dig_one u h]
      have hx : 48 ≤ 48 + (u : Int) ∧ 48 + (u : Int) ≤ 57 := by omega
      refine ⟨by simp [isD]; omega, by simp, ?_⟩
      rw [List.foldl_cons, List.foldl_nil]
      unfold stepP
      rw [if_pos hx]
      simp
      omega
    · obtain ⟨a, b, e⟩ := ih (u / 10) (by omega)
      rw [dig_step u (by omega)]
      have hx : 48 ≤ 48 + ((u % 10 : Nat) : Int) ∧ 48 + ((u % 10 : Nat) : Int) ≤ 57 := by omega
      refine ⟨by rw [List.all_append, a]; simp [isD]; omega, by simp, ?_⟩
      rw [List.foldl_append, e, List.foldl_cons, List.foldl_nil]
      unfold stepP
      rw [if_pos hx, List.length_append]
      refine Prod.ext ?_ ?_
      · show ((u / 10 : Nat) : Int) * 10 + (48 + ((u % 10 : Nat) : Int) - 48) = u
        omega
      · simp
theorem bytes_strB (l : List UInt8) : bytesOf (strB l) = l.map (fun b => (b.toNat : Int)) := by simp [bytesOf, strB]
theorem strB_of (s : ByteArray) (m : Int) (h : (strB (Lib.itoa m)).toList = s.toList) : s = strB (Lib.itoa m) := by
  apply ByteArray.ext
  rw [toList_data, toList_data] at h
  exact Array.toList_inj.1 h.symm
theorem parse_same (s : ByteArray) : fin2 (((bytesOf s).take 11).foldl stepP (0, 0)) s = (if isNeg s = true then fin3 ((bytesOf s).drop 1) (-1) s else fin3 (bytesOf s) 1 s) := by
  by_cases E : ∃ m : Int, -999999999 ≤ m ∧ m ≤ 999999999 ∧ s = strB (Lib.itoa m)
  · obtain ⟨m, h0, h1, rfl⟩ := E
    have hf : fin m (strB (Lib.itoa m)) = (m, true) := by unfold fin; rw [if_pos rfl]
    obtain ⟨ha, hl, hv⟩ := dig_all m.natAbs
    have hl9 : (dig m.natAbs).length ≤ 9 := by
      have : (Lib.decDigits m.natAbs).length ≤ 9 := digits_len9 _ (by omega)
      unfold dig; simpa using this
    by_cases cn : m < 0
    · have eb : bytesOf (strB (Lib.itoa m)) = 45 :: dig m.natAbs := by rw [bytes_strB]; unfold Lib.itoa dig; rw [if_pos cn]; rfl
      have es : (strB (Lib.itoa m)).size = (dig m.natAbs).length + 1 := by rw [← bytesOf_length, eb]; rfl
      have e0 : bt (strB (Lib.itoa m)) 0 = 45 := by
        have := drop_bytes (strB (Lib.itoa m)) 0 (by omega)
        rw [List.drop_zero, eb] at this
        exact (List.cons.inj this).1.symm
      have hn : isNeg (strB (Lib.itoa m)) = true := decide_eq_true ⟨by omega, e0⟩
      have h45 : stepP (0, 0) 45 = (0, 0) := by unfold stepP; rw [if_neg (by omega)]
      rw [if_pos hn, eb, List.take_of_length_le (by simp; omega), List.foldl_cons, h45, hv]
      unfold fin2 fin3
      rw [if_neg (by show ¬ (((dig m.natAbs).length : Int) > 9); omega), if_neg (by omega), if_pos hn]
      simp only [List.drop_succ_cons, List.drop_zero]
      rw [if_pos (by omega), if_pos ha, hv]
      have e1 : -(m.natAbs : Int) = m := by omega
      show fin (-(m.natAbs : Int)) _ = fin (-1 * (m.natAbs : Int)) _
      congr 1; omega
    · have eb : bytesOf (strB (Lib.itoa m)) = dig m.natAbs := by rw [bytes_strB]; unfold Lib.itoa dig; rw [if_neg cn]; congr 2; omega
      have es : (strB (Lib.itoa m)).size = (dig m.natAbs).length := by rw [← bytesOf_length, eb]
      have hn : ¬ isNeg (strB (Lib.itoa m)) = true := by
        unfold isNeg
        rw [decide_eq_true_eq]
        rintro ⟨h2, h3⟩
        have := drop_bytes (strB (Lib.itoa m)) 0 h2
        rw [List.drop_zero, eb, show ((0 : Nat) : Int) = 0 from rfl, h3] at this
        rw [this] at ha
        simp [isD] at ha
      rw [if_neg hn, eb, List.take_of_length_le (by omega), hv]
      unfold fin2 fin3
      rw [if_neg (by show ¬ (((dig m.natAbs).length : Int) > 9); omega), if_neg (by omega), if_neg hn, if_pos (by omega), if_pos ha, hv]
      show fin (m.natAbs : Int) _ = fin (1 * (m.natAbs : Int)) _
      congr 1; omega
  · have nofin : ∀ m : Int, -999999999 ≤ m → m ≤ 999999999 → fin m s = (0, false) := by
      intro m h0 h1
      unfold fin
      rw [if_neg (fun h => E ⟨m, h0, h1, strB_of s m h⟩)]
    have hleft : fin2 (((bytesOf s).take 11).foldl stepP (0, 0)) s = (0, false) := by
      obtain ⟨c', a, _, _, f, g⟩ := step_bound ((bytesOf s).take 11) (0, 0) 0 (by decide) rfl (by decide)
      generalize ((bytesOf s).take 11).foldl stepP (0, 0) = p at *
      unfold fin2
      by_cases c1 : p.2 > 9
      · rw [if_pos c1]
      · rw [if_neg c1]
        by_cases c2 : (s.size : Int) > 10
        · rw [if_pos c2]
        · rw [if_neg c2]
          have hp := pow_le c' 9 (by omega)
          rw [ten9] at hp
          apply nofin <;> split <;> omega
    have hright : ∀ (l : List Int) (sg : Int), (sg = 1 ∨ sg = -1) → fin3 l sg s = (0, false) := by
      intro l sg hsg
      unfold fin3
      by_cases c1 : 1 ≤ l.length ∧ l.length ≤ 9
      · rw [if_pos c1]
        by_cases c2 : l.all isD = true
        · rw [if_pos c2]
          obtain ⟨c', a, _, d, f, g⟩ := step_bound l (0, 0) 0 (by decide) rfl (by decide)
          have hp := pow_le c' 9 (by omega)
          rw [ten9] at hp
          generalize l.foldl stepP (0, 0) = p at *
          apply nofin <;> rcases hsg with rfl | rfl <;> omega
        · rw [if_neg c2]
      · rw [if_neg c1]
    rw [hleft]
    split
    · exact (hright _ _ (.inr rfl)).symm
    · exact (hright _ _ (.inl rfl)).symm

theorem joinTail_snoc (sep : List UInt8) (r : List (List UInt8)) (y : List UInt8) : Lib.joinTail sep (r ++ [y]) = Lib.joinTail sep r ++ (sep ++ y) := by
  unfold Lib.joinTail
  simp
/-- One more word: behind a separator, but for the first. -/
theorem join_snoc (sep : List UInt8) (xs : List (List UInt8)) (y : List UInt8) : Lib.join (xs ++ [y]) sep = if xs.length = 0 then y else Lib.join xs sep ++ sep ++ y := by
  cases xs with
  | nil => rw [List.nil_append, Lib.join_one]; rfl
  | cons x r => rw [List.cons_append, Lib.join_cons, Lib.join_cons, joinTail_snoc, if_neg (by simp), List.append_assoc, List.append_assoc]
theorem join_len (sep : List UInt8) (B : Nat) : ∀ (n : Nat) (xs : List (List UInt8)), xs.length = n → (∀ x ∈ xs, x.length ≤ B) → (Lib.join xs sep).length ≤ n * (B + sep.length) := by
  intro n
  induction n with
  | zero =>
    intro xs h _
    obtain rfl : xs = [] := List.eq_nil_of_length_eq_zero h
    simp [Lib.join_nil]
  | succ n ih =>
    intro xs h hb
    rcases List.eq_nil_or_concat xs with rfl | ⟨ys, y, rfl⟩
    · simp at h
    · rw [List.concat_eq_append] at *
      have h1 := ih ys (by simp at h; omega) (fun x hx => hb x (List.mem_append_left _ hx))
      have h2 := hb y (List.mem_append_right _ (by simp))
      rw [join_snoc, Nat.succ_mul]
      split
      · omega
      · rw [List.length_append, List.length_append]; omega
theorem strB_self (s : ByteArray) : strB s.data.toList = s := by apply ByteArray.ext; simp [strB]
theorem strB_data (l : List UInt8) : (strB l).data.toList = l := by simp [strB]
theorem strB_toList (l : List UInt8) : (strB l).toList = l := by rw [toList_data]; simp [strB]

theorem and255 (x : Int) : 0 ≤ Go.bits .and .i64 x 255 ∧ Go.bits .and .i64 x 255 ≤ 255 := by
  have h255 : (BitVec.ofInt 64 255).toNat = 2 ^ 8 - 1 := by decide
  have key : (BitVec.ofInt 64 x &&& BitVec.ofInt 64 255).toNat = (x % ((2 ^ 64 : Nat) : Int)).toNat % 2 ^ 8 := by
    rw [BitVec.toNat_and, BitVec.toNat_ofInt, h255, Nat.and_two_pow_sub_one_eq_mod]
  have e : Go.bits .and .i64 x 255 = IntKind.i64.wrap (((BitVec.ofInt 64 x &&& BitVec.ofInt 64 255).toNat : Nat) : Int) := rfl
  rw [e, key, IntKind.wrap_i64]
  omega
/-- A drawn byte. -/
theorem l1Byte_f (b : List Int) (i h : Int) (hi : 0 ≤ i) (hb : b.length ≤ 9223372036854775807) : ∃ x i' h', spec_l1Byte.f b i h = some (x, i', h') ∧ (0 ≤ x ∧ x ≤ 255) ∧ 0 ≤ i' := by
  unfold spec_l1Byte.f
  by_cases c : i < (b.length : Int)
  · rw [if_pos c, if_pos hi]
    exact ⟨_, _, _, rfl, and255 _, by rw [w64 (by omega) (by omega)]; omega⟩
  · rw [if_neg c]
    exact ⟨_, _, _, rfl, and255 _, hi⟩
/-- A drawn number below n. -/
theorem l1Below_f (b : List Int) (i h n : Int) (hi : 0 ≤ i) (hb : b.length ≤ 9223372036854775807) (hn : n ≤ 9223372036854775807) : ∃ x i' h', spec_l1Below.f b i h n = some (x, i', h') ∧ 0 ≤ x ∧ (0 < n → x < n) ∧ (n ≤ 0 → x = 0) ∧ 0 ≤ i' := by
  unfold spec_l1Below.f
  by_cases c : n ≤ 0
  · rw [if_pos c]
    exact ⟨_, _, _, rfl, by omega, by omega, fun _ => rfl, hi⟩
  · rw [if_neg c]
    have tm : ∀ y : Int, 0 ≤ y → 0 ≤ Int.tmod y n ∧ Int.tmod y n < n := fun y hy => ⟨Int.tmod_nonneg n hy, Int.tmod_lt_of_pos y (by omega)⟩
    obtain ⟨x0, i0, h0, e0, hx0, hi0⟩ := l1Byte_f b i h hi hb
    by_cases c2 : n ≤ 256
    · rw [if_pos c2, e0, Option.bind_some, if_neg (by omega)]
      exact ⟨_, _, _, rfl, (tm _ hx0.1).1, fun _ => (tm _ hx0.1).2, fun h => absurd h c, hi0⟩
    · rw [if_neg c2, e0, Option.bind_some]
      obtain ⟨x1, i1, h1, e1, hx1, hi1⟩ := l1Byte_f b i0 h0 hi0 hb
      obtain ⟨x2, i2, h2, e2, hx2, hi2⟩ := l1Byte_f b i1 h1 hi1 hb
      obtain ⟨x3, i3, h3, e3, hx3, hi3⟩ := l1Byte_f b i2 h2 hi2 hb
      simp only [e1, e2, e3, Option.bind_some]
      rw [if_neg (by omega)]
      have hw : 0 ≤ wrap64 ((wrap64 ((wrap64 ((wrap64 (x0 * 16777216)) + (wrap64 (x1 * 65536)))) + (wrap64 (x2 * 256)))) + x3) := by
        rw [w64 (x := x0 * 16777216) (by omega) (by omega), w64 (x := x1 * 65536) (by omega) (by omega), w64 (x := x2 * 256) (by omega) (by omega), w64 (x := x0 * 16777216 + x1 * 65536) (by omega) (by omega), w64 (x := x0 * 16777216 + x1 * 65536 + x2 * 256) (by omega) (by omega), w64 (by omega) (by omega)]
        omega
      exact ⟨_, _, _, rfl, (tm _ hw).1, fun _ => (tm _ hw).2, fun h => absurd h c, hi3⟩
theorem l1PickInt_f (b : List Int) (i h : Int) (l : List Int) (hi : 0 ≤ i) (hb : b.length ≤ 9223372036854775807) (h0 : 0 < l.length) (hl : l.length ≤ 1000) : ∃ x i' h', spec_l1PickInt.f b i h l = some (x, i', h') ∧ x ∈ l ∧ 0 ≤ i' := by
  obtain ⟨x, i', h', e, hx, hx1, _, hi'⟩ := l1Below_f b i h l.length hi hb (by omega)
  have hx2 := hx1 (by omega)
  unfold spec_l1PickInt.f
  rw [e, Option.bind_some]
  refine ⟨_, _, _, by rw [if_pos hx, if_pos hx2], ?_, hi'⟩
  show rd l x ∈ l
  obtain ⟨j, rfl⟩ := Int.eq_ofNat_of_zero_le hx
  rw [rd_get l j (by omega)]
  exact List.getElem_mem _
/-- The reader of draws: all of the code, from its start. -/
theorem l1New_ev (b : List Int) (hb : b.length ≤ 1048576) : ∃ h, Ev (fun k => spec_l1New.f k b) (b, 0, h) := by
  have loop : ∀ (d i : Nat) (x : Int), i + d = b.length → ∃ h, Ev (fun k => spec_l1New.l0 k b x i) (b, 0, h) := by
    intro d
    induction d with
    | zero =>
      intro i x hi
      refine ⟨x, Ev.step (f := fun _ => some (b, 0, x)) (fun k => ?_) (Ev.now _)⟩
      rw [spec_l1New.l0, if_neg (by omega)]
    | succ d ih =>
      intro i x hi
      by_cases c : (i : Int) < 4000
      · obtain ⟨h, e⟩ := ih (i + 1) (Go.bits .and .i64 (wrap64 ((wrap64 ((wrap64 (x * 131)) + (wrap64 (rd b i)))) + 7)) 1073741823) (by omega)
        refine ⟨h, Ev.step (fun k => ?_) e⟩
        rw [spec_l1New.l0, if_pos (by omega), if_pos c, if_pos (by omega), w64_succ (by omega)]
      · refine ⟨x, Ev.step (f := fun _ => some (b, 0, x)) (fun k => ?_) (Ev.now _)⟩
        rw [spec_l1New.l0, if_pos (by omega), if_neg c]
  obtain ⟨h, e⟩ := loop b.length 0 (wrap64 (10101 + (b.length : Int))) (by omega)
  exact ⟨h, Ev.congr (fun k => by rw [spec_l1New.f]; rfl) e⟩

theorem l2Val_f (b : List Int) (i h : Int) (hi : 0 ≤ i) (hb : b.length ≤ 9223372036854775807) : ∃ x i' h', spec_l2Val.f b i h = some (x, i', h') ∧ GI x ∧ 0 ≤ i' := by
  obtain ⟨q, i0, h0, e0, hq0, hq1, _, hi0⟩ := l1Below_f b i h 10 hi hb (by omega)
  have hq2 := hq1 (by omega)
  obtain ⟨x, i1, h1, e1, hx, hi1⟩ := l1PickInt_f b i0 h0 [0, 1, 2, 9, (-1), (-2), (-40), 10, (-41), q] hi0 hb (by simp) (by simp)
  unfold spec_l2Val.f
  rw [e0, Option.bind_some]
  simp only [e1, Option.bind_some]
  refine ⟨_, _, _, rfl, ?_, hi1⟩
  simp only [List.mem_cons, List.not_mem_nil, or_false] at hx
  unfold GI
  omega
theorem l1Pick_f (b : List Int) (i h : Int) (l : List ByteArray) (hi : 0 ≤ i) (hb : b.length ≤ 9223372036854775807) (h0 : 0 < l.length) (hl : l.length ≤ 1000) : ∃ x i' h', spec_l1Pick.f b i h l = some (x, i', h') ∧ 0 ≤ i' := by
  obtain ⟨x, i', h', e, hx, hx1, _, hi'⟩ := l1Below_f b i h l.length hi hb (by omega)
  have hx2 := hx1 (by omega)
  unfold spec_l1Pick.f
  rw [e, Option.bind_some]
  exact ⟨_, _, _, by rw [if_pos hx, if_pos hx2], hi'⟩
theorem drawFV_ev (b : List Int) (hb : b.length ≤ 1048576) : ∃ v, Ev (fun k => spec_DrawFormatValue.f k b) v ∧ GI v := by
  obtain ⟨h, e⟩ := l1New_ev b hb
  obtain ⟨x, i', h', e1, hx, _⟩ := l2Val_f b 0 h (by omega) (by omega)
  exact ⟨x, Ev.congr (fun k => by rw [spec_DrawFormatValue.f]) (Ev.bind e (Ev.congr (fun k => by simp only [e1, Option.bind_some]) (Ev.now x))), hx⟩
theorem drawPV_ev (b : List Int) (hb : b.length ≤ 1048576) : ∃ s, Ev (fun k => spec_DrawParseValue.f k b) s := by
  obtain ⟨h, e⟩ := l1New_ev b hb
  obtain ⟨x, i1, h1, e1, hx, hi1⟩ := l2Val_f b 0 h (by omega) (by omega)
  obtain ⟨s, i2, h2, e2, _⟩ := l1Pick_f b i1 h1 [(⟨#[48]⟩ : ByteArray), (⟨#[57]⟩ : ByteArray), (⟨#[49, 48]⟩ : ByteArray), (⟨#[110, 48]⟩ : ByteArray), (⟨#[110, 51, 57]⟩ : ByteArray), (⟨#[110, 52, 48]⟩ : ByteArray), (⟨#[110]⟩ : ByteArray), (⟨#[]⟩ : ByteArray), (⟨#[110, 48, 49]⟩ : ByteArray), (⟨#[45, 49]⟩ : ByteArray), (⟨#[78, 49]⟩ : ByteArray), fv x] hi1 (by omega) (by simp) (by simp)
  refine ⟨s, Ev.congr (fun k => by rw [spec_DrawParseValue.f]) (Ev.bind e (Ev.congr (fun k => by simp only [e1, Option.bind_some]; rfl) (Ev.bind (specFormatValue_ev x hx) ?_)))⟩
  refine Ev.congr (fun k => ?_) (Ev.now s)
  rw [e2, Option.bind_some]
theorem drawNV_ev (b : List Int) (hb : b.length ≤ 1048576) : ∃ q, Ev (fun k => spec_DrawNullValue.f k b) q ∧ -2 ≤ q ∧ q ≤ 42 := by
  obtain ⟨h, e⟩ := l1New_ev b hb
  obtain ⟨x, i', h', e1, hx0, hx1, _, _⟩ := l1Below_f b 0 h 45 (by omega) (by omega) (by omega)
  have := hx1 (by omega)
  have ew : wrap64 (x - 2) = x - 2 := w64 (by omega) (by omega)
  exact ⟨x - 2, Ev.congr (fun k => by rw [spec_DrawNullValue.f]) (Ev.bind e (Ev.congr (fun k => by simp only [e1, Option.bind_some, ew]) (Ev.now (x - 2)))), by omega, by omega⟩
theorem decDigits_inj {u w : Nat} (h : Lib.decDigits u = Lib.decDigits w) : u = w := by
  have e : dig u = dig w := by unfold dig; rw [h]
  have h1 := (dig_all u).2.2
  have h2 := (dig_all w).2.2
  rw [e, h2] at h1
  have := congrArg Prod.fst h1
  simp only at this
  omega
theorem decDigits_head (u : Nat) : ∃ x r, Lib.decDigits u = x :: r ∧ 48 ≤ x.toNat ∧ x.toNat ≤ 57 := by
  obtain ⟨ha, h1, _⟩ := dig_all u
  cases hd : Lib.decDigits u with
  | nil => unfold dig at h1; rw [hd] at h1; simp at h1
  | cons x r =>
    refine ⟨x, r, rfl, ?_⟩
    unfold dig at ha
    rw [hd, List.map_cons, List.all_cons, Bool.and_eq_true] at ha
    have := ha.1
    unfold isD at this
    rw [decide_eq_true_eq] at this
    omega
theorem fv_neg (x : Int) (h : -40 ≤ x ∧ x ≤ -1) : (fv x).toList = 110 :: Lib.decDigits (-1 - x).toNat := by
  unfold fv
  rw [if_pos h, strB_toList]
  unfold Lib.itoa
  rw [if_neg (by omega)]
theorem fv_pos (x : Int) (h : 0 ≤ x ∧ x ≤ 9) : (fv x).toList = Lib.decDigits x.toNat := by
  unfold fv
  rw [if_neg (by omega), if_pos h, strB_toList]
  unfold Lib.itoa
  rw [if_neg (by omega)]
theorem fv_none (x : Int) (h : ¬ (-40 ≤ x ∧ x ≤ 9)) : (fv x).toList = [] := by
  unfold fv
  rw [if_neg (by omega), if_neg (by omega), strB_toList]
theorem fv_some (x : Int) (h : -40 ≤ x ∧ x ≤ 9) : (fv x).toList ≠ [] := by
  by_cases c : x < 0
  · rw [fv_neg x (by omega)]; simp
  · rw [fv_pos x (by omega)]
    obtain ⟨a, r, e, _⟩ := decDigits_head x.toNat
    rw [e]; simp
theorem fv_inj (x y : Int) (hx : -40 ≤ x ∧ x ≤ 9) (hy : -40 ≤ y ∧ y ≤ 9) (h : (fv x).toList = (fv y).toList) : x = y := by
  by_cases c : x < 0
  · rw [fv_neg x (by omega)] at h
    by_cases d : y < 0
    · rw [fv_neg y (by omega)] at h
      have := decDigits_inj (List.cons.inj h).2
      omega
    · rw [fv_pos y (by omega)] at h
      obtain ⟨a, r, e, h1, h2⟩ := decDigits_head y.toNat
      rw [e] at h
      have := (List.cons.inj h).1
      subst this
      exact absurd h2 (by decide)
  · rw [fv_pos x (by omega)] at h
    by_cases d : y < 0
    · rw [fv_neg y (by omega)] at h
      obtain ⟨a, r, e, h1, h2⟩ := decDigits_head x.toNat
      rw [e] at h
      have := (List.cons.inj h).1
      subst this
      exact absurd h2 (by decide)
    · rw [fv_pos y (by omega)] at h
      have := decDigits_inj h
      omega
/-- What is found is written so. -/
theorem pvF_found (s : ByteArray) : ∀ (d : Nat) (i : Int), ((pvF s i d).2 = true → (fv (pvF s i d).1).toList = s.toList ∧ i ≤ (pvF s i d).1 ∧ (pvF s i d).1 < i + d) ∧ ((pvF s i d).2 = false → ∀ j, i ≤ j → j < i + d → (fv j).toList ≠ s.toList)
  | 0, i => ⟨fun h => by simp [pvF] at h, fun _ j h1 h2 => by omega⟩
  | d + 1, i => by
    obtain ⟨h1, h2⟩ := pvF_found s d (i + 1)
    rw [pvF]
    by_cases c : (fv i).toList = s.toList
    · rw [if_pos c]
      exact ⟨fun _ => ⟨c, by omega, by show i < _; omega⟩, fun h => by cases h⟩
    · rw [if_neg c]
      refine ⟨fun h => ?_, fun h j ha hb => ?_⟩
      · obtain ⟨a, b, e⟩ := h1 h
        exact ⟨a, by omega, by omega⟩
      · by_cases e : j = i
        · subst e; exact c
        · exact h2 h j (by omega) (by omega)
theorem pvF_fv (v : Int) : (pvF (fv v) (-40) 50).2 = vv v ∧ (vv v = true → (pvF (fv v) (-40) 50).1 = v) := by
  obtain ⟨h1, h2⟩ := pvF_found (fv v) 50 (-40)
  unfold vv
  by_cases c : -40 ≤ v ∧ v ≤ 9
  · rw [decide_eq_true c]
    cases hb : (pvF (fv v) (-40) 50).2 with
    | true =>
      obtain ⟨a, b, e⟩ := h1 hb
      exact ⟨rfl, fun _ => fv_inj _ _ (by omega) c a⟩
    | false => exact absurd rfl (h2 hb v (by omega) (by omega))
  · rw [decide_eq_false c]
    cases hb : (pvF (fv v) (-40) 50).2 with
    | true =>
      obtain ⟨a, b, e⟩ := h1 hb
      rw [fv_none v c] at a
      exact absurd a (fv_some _ (by omega))
    | false => exact ⟨rfl, fun h => by cases h⟩

theorem FnValueFormat (l0 : List Int) (g0 : (GL GU) l0) : ∃ k, laws_FnValueFormat.f k l0 = some true := by
  by_cases cb : (l0.length : Int) > 1048576
  · refine ⟨0, ?_⟩
    rw [laws_FnValueFormat.f, laws_big.f, decide_eq_true cb, Option.bind_some, if_pos rfl]
  · obtain ⟨v, ev, hv⟩ := drawFV_ev l0 (by omega)
    obtain ⟨t, et⟩ := drawPV_ev l0 (by omega)
    obtain ⟨q, eq, hq0, hq1⟩ := drawNV_ev l0 (by omega)
    obtain ⟨p1, p2⟩ := pvF_fv v
    obtain ⟨r1, _⟩ := pvF_found t 50 (-40)
    have gq : GI (-1 - q) := by unfold GI; omega
    have ew : wrap64 ((-1) - q) = -1 - q := w64 (by omega) (by omega)
    have en : impl_NullValue.f q = some (-1 - q) := by rw [impl_NullValue.f, ew]
    have ein : impl_IsNull.f (-1 - q) = some (decide (-1 - q < 0)) := rfl
    have enn := implNullNumber_f (-1 - q) gq
    refine Ev.rounds (r := true) (Ev.congr (fun k => by rw [laws_FnValueFormat.f, laws_big.f, decide_eq_false cb, Option.bind_some, if_neg (by simp)]) (Ev.bind ev ?_))
    refine Ev.congr (fun k => by rw [implFormatValue_f v hv, Option.bind_some]) (Ev.bind (implParseValue_ev (fv v)) (Ev.bind et (Ev.bind (implParseValue_ev t) (Ev.bind (specParseValue_ev t) (Ev.bind eq ?_)))))
    refine Ev.congr (fun k => by rw [en, Option.bind_some, enn, Option.bind_some]) (Ev.bind (specFormatValue_ev v hv) ?_)
    refine Ev.congr (fun k => by rw [if_pos rfl, specIsValidValue_f v hv, Option.bind_some, if_pos (by rw [p1, beq_self_eq_true]), implIsValidValue_f, Option.bind_some, if_pos (by rw [p1, beq_self_eq_true])]) ?_
    generalize pvF (fv v) (-40) 50 = x at p1 p2 ⊢
    generalize pvF t (-40) 50 = y at r1 ⊢
    obtain ⟨x1, x2⟩ := x
    obtain ⟨y1, y2⟩ := y
    simp only at p1 p2 r1 ⊢
    have hy : y2 = true → impl_FormatValue.f y1 = some (fv y1) ∧ (fv y1).toList = t.toList := fun h => by
      obtain ⟨a, b, c⟩ := r1 h
      exact ⟨implFormatValue_f y1 (by unfold GI; omega), a⟩
    by_cases c0 : q ≥ 0 ∧ q < 40
    · have e1 : (if -40 ≤ -1 - q ∧ -1 - q ≤ -1 then (-1 - (-1 - q), true) else (0, false)) = (q, true) := by rw [if_pos (by omega)]; congr 1; omega
      simp only [e1]
      have hd : decide (-1 - q < 0) = true := decide_eq_true (by omega)
      refine Ev.congr (fun k => ?_) (Ev.now true)
      cases y2 with
      | true =>
        obtain ⟨k1, k2⟩ := hy rfl
        cases x2 with
        | true => have e := p2 p1.symm; subst e; simp [c0.1, c0.2, k1, k2, en, ein, hd]
        | false => simp [c0.1, c0.2, k1, k2, en, ein, hd]
      | false =>
        cases x2 with
        | true => have e := p2 p1.symm; subst e; simp [c0.1, c0.2, en, ein, hd]
        | false => simp [c0.1, c0.2, en, ein, hd]
    · have e1 : (if -40 ≤ -1 - q ∧ -1 - q ≤ -1 then (-1 - (-1 - q), true) else (0, false)) = ((0 : Int), false) := by rw [if_neg (by omega)]
      simp only [e1]
      refine Ev.congr (fun k => ?_) (Ev.now true)
      by_cases c1 : q ≥ 0
      · have c2 : ¬ q < 40 := fun h => c0 ⟨c1, h⟩
        cases y2 with
        | true =>
          obtain ⟨k1, k2⟩ := hy rfl
          cases x2 with
          | true => have e := p2 p1.symm; subst e; simp [c1, c2, k1, k2]
          | false => simp [c1, c2, k1, k2]
        | false =>
          cases x2 with
          | true => have e := p2 p1.symm; subst e; simp [c1, c2]
          | false => simp [c1, c2]
      · cases y2 with
        | true =>
          obtain ⟨k1, k2⟩ := hy rfl
          cases x2 with
          | true => have e := p2 p1.symm; subst e; simp [c1, k1, k2]
          | false => simp [c1, k1, k2]
        | false =>
          cases x2 with
          | true => have e := p2 p1.symm; subst e; simp [c1]
          | false => simp [c1]

end Go.Proofs.YtjphbdnfbkfgiaaDoor.Pure
