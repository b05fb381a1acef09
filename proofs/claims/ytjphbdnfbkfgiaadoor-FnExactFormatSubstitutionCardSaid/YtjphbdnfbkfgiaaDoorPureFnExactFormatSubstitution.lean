/- FormatSubstitution of the program and of the reference agree, for every substitution (past the law's own size bound it answers true itself). -/
import Derived.Test.YtjphbdnfbkfgiaaDoorPFnExactFormatSubstitutionx1
import Derived.Test.YtjphbdnfbkfgiaaDoorPFnExactFormatSubstitutionx2
import Derived.Test.YtjphbdnfbkfgiaaDoorPFnExactFormatSubstitutionx3
import Derived.Test.YtjphbdnfbkfgiaaDoorPFnExactFormatSubstitutionx4
import Derived.Test.YtjphbdnfbkfgiaaDoorPFnExactFormatSubstitutionx5
import Derived.Test.YtjphbdnfbkfgiaaDoorPFnExactFormatSubstitutionx6
import Derived.Test.YtjphbdnfbkfgiaaDoorOpens
import Derived.Test.YtjphbdnfbkfgiaaDoorPlain
namespace Go.Proofs.YtjphbdnfbkfgiaaDoor.Pure
open Go.RowKit Go.Proofs.YtjphbdnfbkfgiaaDoor.PFnExactFormatSubstitution Go.Proofs.YtjphbdnfbkfgiaaDoorW.PrintWords Go.Proofs.YtjphbdnfbkfgiaaDoorW.PrintLast Go.Proofs.YtjphbdnfbkfgiaaDoorW.PrintMore Go.Proofs.YtjphbdnfbkfgiaaDoor.Opens Go.Proofs.YtjphbdnfbkfgiaaDoor.Plain
set_option linter.unusedVariables false
set_option linter.unusedSimpArgs false

theorem l1In_f (a b c : Int) : spec_l1In.f a b c = some (decide (b ≤ a ∧ a ≤ c)) := by
  unfold spec_l1In.f
  by_cases h : b ≤ a <;> simp [h]

theorem within_f (a b c : Int) : impl_within.f a b c = some (decide (b ≤ a ∧ a ≤ c)) := by
  unfold impl_within.f
  by_cases h : b ≤ a <;> simp [h]

theorem szIntS_f (l : List Int) (hl : l.length ≤ 9223372036854775807) (a : Int) (h0 : 0 ≤ a) (h1 : a ≤ 1048576) :
    ∃ r, laws_szIntS.f l a = some r ∧ (r < 0 ∨ 0 ≤ r ∧ r + l.length ≤ a) := by
  unfold laws_szIntS.f
  rw [w64 (by omega) (by omega)]
  by_cases c : a - (l.length : Int) < 0
  · exact ⟨-1, by rw [if_pos c], .inl (by omega)⟩
  · exact ⟨a - l.length, by rw [if_neg c], .inr (by omega)⟩

theorem toIntS_ev (l : List Int) (hl : l.length ≤ 1048576) : Ev (fun k => laws_toIntS.f k l) l := by
  have loop : ∀ (d i : Nat), i + d = l.length → Ev (fun k => laws_toIntS.l0 k l ((l.take i).map id ++ List.replicate (l.length - i) 0) i) l := by
    intro d
    induction d with
    | zero =>
      intro i hi
      refine Ev.step (f := fun _ => some l) (fun k => ?_) (Ev.now _)
      rw [laws_toIntS.l0, if_neg (by omega)]
      simp [show l.length - i = 0 by omega, List.take_of_length_le (show l.length ≤ i by omega)]
    | succ d ih =>
      intro i hi
      refine Ev.step (f := fun k => laws_toIntS.l0 k l ((l.take (i + 1)).map id ++ List.replicate (l.length - (i + 1)) 0) ((i + 1 : Nat) : Int)) (fun k => ?_) (ih (i + 1) (by omega))
      rw [laws_toIntS.l0, if_pos (by omega), if_pos (by omega), if_pos (by rw [fill_len _ _ _ _ (by omega)]; omega), rd_get l i (by omega), Int.toNat_natCast, w64_succ (by omega)]
      have e := fill_step id l 0 i (by omega)
      rw [id_eq] at e
      rw [e]
  refine Ev.congr (f := fun k => laws_toIntS.l0 k l (List.replicate l.length 0) 0) (fun k => ?_) ?_
  · rw [laws_toIntS.f, if_pos (by omega), if_pos (by omega)]; rfl
  · have e := loop l.length 0 (by omega)
    simpa using e

theorem eqIntS_ev (l : List Int) (hl : l.length ≤ 140737488355328) : Ev (fun k => laws_eqIntS.f k l l) true := by
  have loop : ∀ (d i : Nat), i + d = l.length → Ev (fun k => laws_eqIntS.l0 k l l i) true := by
    intro d
    induction d with
    | zero =>
      intro i hi
      refine Ev.step (f := fun _ => some true) (fun k => ?_) (Ev.now _)
      rw [laws_eqIntS.l0, if_neg (by omega)]
    | succ d ih =>
      intro i hi
      refine Ev.step (f := fun k => laws_eqIntS.l0 k l l ((i + 1 : Nat) : Int)) (fun k => ?_) (ih (i + 1) (by omega))
      rw [laws_eqIntS.l0, if_pos (by omega), if_pos (by omega), if_pos (by omega), if_pos rfl, w64_succ (by omega)]
  refine Ev.congr (f := fun k => laws_eqIntS.l0 k l l 0) (fun k => ?_) (loop l.length 0 (by omega))
  rw [laws_eqIntS.f, if_pos rfl]

theorem szSubstitution_f (n v : List Int) (hn : n.length ≤ 9223372036854775807) (hv : v.length ≤ 9223372036854775807) (a : Int) (h0 : 0 ≤ a) (h1 : a ≤ 1048576) :
    ∃ r, laws_szSubstitution.f n v a = some r ∧ (r < 0 ∨ 0 ≤ r ∧ r + n.length + v.length ≤ a) := by
  obtain ⟨r, e, h⟩ := szIntS_f n hn a h0 h1
  unfold laws_szSubstitution.f
  rw [e, Option.bind_some]
  rcases h with h | ⟨h, h'⟩
  · exact ⟨-1, by rw [if_pos h], .inl (by omega)⟩
  · obtain ⟨r2, e2, h2⟩ := szIntS_f v hv r h (by omega)
    rw [if_neg (by omega), e2, Option.bind_some]
    rcases h2 with h2 | ⟨h2, h2'⟩
    · exact ⟨-1, by rw [if_pos h2], .inl (by omega)⟩
    · exact ⟨r2, by rw [if_neg (by omega)], .inr (by omega)⟩
theorem toSubstitution_ev (n v : List Int) (hn : n.length ≤ 1048576) (hv : v.length ≤ 1048576) : Ev (fun k => laws_toSubstitution.f k n v) (n, v) := by
  refine Ev.congr (fun k => by rw [laws_toSubstitution.f]) ?_
  exact Ev.bind (toIntS_ev n hn) (Ev.bind (toIntS_ev v hv) (Ev.now _))
theorem eqSubstitution_ev (n v : List Int) (hn : n.length ≤ 140737488355328) (hv : v.length ≤ 140737488355328) : Ev (fun k => laws_eqSubstitution.f k n v n v) true := by
  refine Ev.congr (fun k => by rw [laws_eqSubstitution.f]) ?_
  refine Ev.bind (eqIntS_ev n hn) ?_
  simp only [if_true]
  refine Ev.bind (eqIntS_ev v hv) ?_
  simp only [if_true]
  exact Ev.now _

def vv (x : Int) : Bool := decide (-40 ≤ x ∧ x ≤ 9)

theorem specNullNumber_f (x : Int) (h : GI x) : spec_NullNumber.f x = some (if -40 ≤ x ∧ x ≤ -1 then (-1 - x, true) else (0, false)) := by
  unfold GI at h
  unfold spec_NullNumber.f
  by_cases c : x ≥ 0
  · rw [if_pos c, if_neg (by omega)]
  · have e : wrap64 ((-1) - x) = -1 - x := w64 (by omega) (by omega)
    rw [if_neg c, e, l1In_f]
    simp only [Option.bind_some, decide_eq_true_eq]
    by_cases c2 : -40 ≤ x ∧ x ≤ -1
    · rw [if_pos c2, if_pos (by omega)]
    · rw [if_neg c2, if_neg (by omega)]

theorem specIsValidValue_f (x : Int) (h : GI x) : spec_IsValidValue.f x = some (vv x) := by
  unfold spec_IsValidValue.f vv
  rw [specNullNumber_f x h, Option.bind_some, l1In_f]
  by_cases c2 : -40 ≤ x ∧ x ≤ -1
  · rw [if_pos c2, if_pos rfl]; exact congrArg some (decide_eq_true (by omega)).symm
  · rw [if_neg c2, if_neg (by simp), Option.bind_some]; exact congrArg some (decide_eq_decide.2 (by omega))

theorem implIsValidValue_f (x : Int) : impl_IsValidValue.f x = some (vv x) := by
  unfold impl_IsValidValue.f vv
  rw [within_f, Option.bind_some]

/-- From place i on (d places): each null in range, above the one before it, its value valid. -/
def okSub (n v : List Int) (i : Nat) : Nat → Bool
  | 0 => true
  | d + 1 => decide (0 ≤ n.getD i 0 ∧ n.getD i 0 ≤ 39) && (decide (i = 0) || decide (n.getD (i - 1) 0 < n.getD i 0)) && vv (v.getD i 0) && okSub n v (i + 1) d
def validSub (n v : List Int) : Bool := decide (n.length = v.length) && okSub n v 0 n.length
theorem rd_nat (l : List Int) (i : Nat) : rd l (i : Int) = l.getD i 0 := by unfold rd; rw [Int.toNat_natCast]
theorem gi_getD {l : List Int} (h : ∀ x ∈ l, GI x) (i : Nat) : GI (l.getD i 0) := by
  by_cases c : i < l.length
  · have : l.getD i 0 = l[i] := by simp [List.getD_eq_getElem?_getD, c]
    rw [this]; exact h _ (List.getElem_mem c)
  · have : l.getD i 0 = 0 := by simp [List.getD_eq_getElem?_getD, List.getElem?_eq_none (show l.length ≤ i by omega)]
    rw [this]; unfold GI; omega
theorem specValidSub_ev (n v : List Int) (hl : n.length ≤ 140737488355328) (hv : ∀ x ∈ v, GI x) : Ev (fun k => spec_IsValidSubstitution.f k n v) (validSub n v) := by
  unfold validSub
  by_cases c : n.length = v.length
  · have loop : ∀ (d i : Nat), i + d = n.length → Ev (fun k => spec_IsValidSubstitution.l0 k i n v) (okSub n v i d) := by
      intro d
      induction d with
      | zero =>
        intro i hi
        refine Ev.step (f := fun _ => some true) (fun k => ?_) (Ev.now _)
        rw [spec_IsValidSubstitution.l0, if_neg (by omega)]
      | succ d ih =>
        intro i hi
        have e := ih (i + 1) (by omega)
        refine Ev.step (f := fun k => if okSub n v i 1 = true then spec_IsValidSubstitution.l0 k ((i + 1 : Nat) : Int) n v else some false) (fun k => ?_) ?_
        · rw [spec_IsValidSubstitution.l0, if_pos (by omega), if_pos (by omega), l1In_f, rd_nat, rd_nat, specIsValidValue_f _ (gi_getD hv i), w64_succ (by omega)]
          simp only [Option.bind_some, decide_eq_true_eq, okSub, Bool.and_true]
          by_cases c1 : 0 ≤ n.getD i 0 ∧ n.getD i 0 ≤ 39
          · rw [if_pos c1]
            by_cases c2 : i = 0
            · rw [if_neg (by omega), if_pos (by omega)]
              rw [c2] at c1
              simp only [c1, c2, and_self, decide_true, Bool.true_and, Bool.true_or]
            · rw [if_pos (by omega), w64 (by omega) (by omega), if_pos (by omega), if_pos (by omega), show ((i : Int) - 1) = ((i - 1 : Nat) : Int) by omega, rd_nat]
              by_cases c3 : n.getD i 0 ≤ n.getD (i - 1) 0
              · rw [if_pos c3, if_neg]
                simp only [Bool.and_eq_true, Bool.or_eq_true, decide_eq_true_eq]; omega
              · rw [if_neg c3, if_pos (by omega)]
                have c4 : n.getD (i - 1) 0 < n.getD i 0 := by omega
                simp only [c1, c4, and_self, decide_true, Bool.true_and, Bool.or_true]
          · rw [if_neg c1, if_neg]
            simp only [Bool.and_eq_true, Bool.or_eq_true, decide_eq_true_eq]; omega
        · have ho : okSub n v i (d + 1) = (okSub n v i 1 && okSub n v (i + 1) d) := by simp [okSub]
          rw [ho]
          cases h1 : okSub n v i 1 with
          | true => simpa using e
          | false => simpa using Ev.now false
    refine Ev.congr (f := fun k => spec_IsValidSubstitution.l0 k 0 n v) (fun k => ?_) ?_
    · rw [spec_IsValidSubstitution.f, if_pos (by omega)]
    · rw [decide_eq_true c, Bool.true_and]; exact loop n.length 0 (by omega)
  · refine Ev.congr (f := fun _ => some false) (fun k => ?_) ?_
    · rw [spec_IsValidSubstitution.f, if_neg (by omega)]
    · rw [decide_eq_false c, Bool.false_and]; exact Ev.now _

theorem implValidSub_ev (n v : List Int) (hl : n.length ≤ 140737488355328) : Ev (fun k => impl_IsValidSubstitution.f k n v) (validSub n v) := by
  unfold validSub
  by_cases c : n.length = v.length
  · have loop : ∀ (d i : Nat), i + d = n.length → Ev (fun k => impl_IsValidSubstitution.l0 k n n.length i n v) (okSub n v i d) := by
      intro d
      induction d with
      | zero =>
        intro i hi
        refine Ev.step (f := fun _ => some true) (fun k => ?_) (Ev.now _)
        rw [impl_IsValidSubstitution.l0, if_neg (by omega)]
      | succ d ih =>
        intro i hi
        have e := ih (i + 1) (by omega)
        refine Ev.step (f := fun k => if okSub n v i 1 = true then impl_IsValidSubstitution.l0 k n n.length ((i + 1 : Nat) : Int) n v else some false) (fun k => ?_) ?_
        · rw [impl_IsValidSubstitution.l0, if_pos (by omega), if_pos (by omega), if_pos (by omega), within_f, rd_nat, rd_nat, implIsValidValue_f, w64_succ (by omega)]
          simp only [Option.bind_some, decide_eq_true_eq, okSub, Bool.and_true]
          by_cases c1 : 0 ≤ n.getD i 0 ∧ n.getD i 0 ≤ 39
          · rw [if_pos c1]
            by_cases c2 : i = 0
            · rw [if_neg (by omega), if_pos (by omega)]
              rw [c2] at c1
              simp only [c1, c2, and_self, decide_true, Bool.true_and, Bool.true_or]
            · rw [if_pos (by omega), w64 (by omega) (by omega), if_pos (by omega), if_pos (by omega), show ((i : Int) - 1) = ((i - 1 : Nat) : Int) by omega, rd_nat]
              by_cases c3 : n.getD i 0 ≤ n.getD (i - 1) 0
              · rw [if_pos c3, if_neg]
                simp only [Bool.and_eq_true, Bool.or_eq_true, decide_eq_true_eq]; omega
              · rw [if_neg c3, if_pos (by omega)]
                have c4 : n.getD (i - 1) 0 < n.getD i 0 := by omega
                simp only [c1, c4, and_self, decide_true, Bool.true_and, Bool.or_true]
          · rw [if_neg c1, if_neg]
            simp only [Bool.and_eq_true, Bool.or_eq_true, decide_eq_true_eq]; omega
        · have ho : okSub n v i (d + 1) = (okSub n v i 1 && okSub n v (i + 1) d) := by simp [okSub]
          rw [ho]
          cases h1 : okSub n v i 1 with
          | true => simpa using e
          | false => simpa using Ev.now false
    refine Ev.congr (f := fun k => impl_IsValidSubstitution.l0 k n n.length 0 n v) (fun k => ?_) ?_
    · rw [impl_IsValidSubstitution.f, if_pos (by omega)]
    · rw [decide_eq_true c, Bool.true_and]; exact loop n.length 0 (by omega)
  · refine Ev.congr (f := fun _ => some false) (fun k => ?_) ?_
    · rw [impl_IsValidSubstitution.f, if_neg (by omega)]
    · rw [decide_eq_false c, Bool.false_and]; exact Ev.now _

/-- The digits of n, ahead of what stands already. -/
theorem digits_step (u : Nat) (h : 10 ≤ u) : Lib.decDigits u = Lib.decDigits (u / 10) ++ [UInt8.ofNat (48 + u % 10)] := by rw [Lib.decDigits, dif_neg (by omega)]
theorem digits_one (u : Nat) (h : u < 10) : Lib.decDigits u = [UInt8.ofNat (48 + u)] := by rw [Lib.decDigits, dif_pos h]
def strB (l : List UInt8) : ByteArray := ⟨l.toArray⟩
theorem strB_size (l : List UInt8) : (strB l).size = l.length := by simp [strB, ByteArray.size]
theorem strB_append (a b : List UInt8) : strB a ++ strB b = strB (a ++ b) := by
  apply ByteArray.ext
  simp [strB, ByteArray.data_append]
theorem str_one (d : Nat) : strOfNums [((48 + d : Nat) : Int) % 256] = strB [UInt8.ofNat (48 + d)] := by
  have e1 : (((48 + d : Nat) : Int) % 256).toNat = (48 + d) % 256 := by omega
  have e2 : UInt8.ofNat ((48 + d) % 256) = UInt8.ofNat (48 + d) := by apply UInt8.toNat_inj.1; simp
  unfold strOfNums strB
  simp only [List.map_cons, List.map_nil, e1, e2]
theorem digits_len (u : Nat) : (Lib.decDigits u).length ≤ u + 1 := by
  induction u using Nat.strongRecOn with
  | _ u ih =>
    by_cases h : u < 10
    · rw [digits_one u h]; simp
    · rw [digits_step u (by omega), List.length_append]
      have := ih (u / 10) (by omega)
      simp; omega
theorem digits_len20 (u : Nat) (h : u < 100000000000000000000) : (Lib.decDigits u).length ≤ 20 := by
  have key : ∀ (m u : Nat), u < 10 ^ (m + 1) → (Lib.decDigits u).length ≤ m + 1 := by
    intro m
    induction m with
    | zero => intro u h; rw [digits_one u (by omega)]; simp
    | succ m ih =>
      intro u h
      by_cases c : u < 10
      · rw [digits_one u c]; simp
      · rw [digits_step u (by omega), List.length_append]
        have := ih (u / 10) (by rw [Nat.pow_succ] at h; omega)
        simp; omega
  exact key 19 u (by simpa using h)
theorem digits_len9 (u : Nat) (h : u < 1000000000) : (Lib.decDigits u).length ≤ 9 := by
  have key : ∀ (m u : Nat), u < 10 ^ (m + 1) → (Lib.decDigits u).length ≤ m + 1 := by
    intro m
    induction m with
    | zero => intro u h; rw [digits_one u (by omega)]; simp
    | succ m ih =>
      intro u h
      by_cases c : u < 10
      · rw [digits_one u c]; simp
      · rw [digits_step u (by omega), List.length_append]
        have := ih (u / 10) (by rw [Nat.pow_succ] at h; omega)
        simp; omega
  exact key 8 u (by simpa using h)
theorem l0_digits (u : Nat) : ∀ (x : Int) (out : List UInt8) (neg : Bool), x.natAbs = u → 0 < u → -9223372036854775808 ≤ x → x ≤ 9223372036854775807 → out.length + u + 1 ≤ 9223372036854775807 * 2 → out.length ≤ 30 →
    ∀ (hl : out.length + (Lib.decDigits u).length ≤ 30), Ev (fun k => spec_FormatInt.l0 k x (strB out) neg) (if neg = true then strB (45 :: (Lib.decDigits u ++ out)) else strB (Lib.decDigits u ++ out)) := by
  induction u using Nat.strongRecOn with
  | _ u ih =>
    intro x out neg hu h0 h1 h2 _ _ hl
    have hne : x ≠ 0 := by omega
    have hd : ∃ d : Nat, d = u % 10 ∧ (Int.tmod x 10).natAbs = d ∧ (Int.tdiv x 10).natAbs = u / 10 := by
      refine ⟨u % 10, rfl, ?_, ?_⟩
      · rw [Int.natAbs_tmod, hu]; rfl
      · rw [Int.natAbs_tdiv, hu]; rfl
    obtain ⟨d, hd1, hd2, hd3⟩ := hd
    have hd9 : d ≤ 9 := by omega
    -- what the round does
    have hround : ∀ k, spec_FormatInt.l0 (k + 1) x (strB out) neg = spec_FormatInt.l0 k (Int.tdiv x 10) (strB (UInt8.ofNat (48 + d) :: out)) neg := by
      intro k
      have hsz : (strB [UInt8.ofNat (48 + d)]).size + (strB out).size ≤ 9223372036854775807 := by
        rw [strB_size, strB_size]; simp; omega
      have hw : wrap64 (Int.tdiv x 10) = Int.tdiv x 10 := w64 (by omega) (by omega)
      rw [spec_FormatInt.l0, if_neg hne]
      by_cases c : Int.tmod x 10 < 0
      · have e1 : wrap64 (48 + wrap64 (-(Int.tmod x 10))) = ((48 + d : Nat) : Int) := by rw [w64 (x := -(Int.tmod x 10)) (by omega) (by omega), w64 (by omega) (by omega)]; omega
        rw [if_pos c, Option.bind_some, e1, str_one, if_pos hsz, hw, strB_append]
        rfl
      · have e1 : wrap64 (48 + Int.tmod x 10) = ((48 + d : Nat) : Int) := by rw [w64 (by omega) (by omega)]; omega
        rw [if_neg c, Option.bind_some, e1, str_one, if_pos hsz, hw, strB_append]
        rfl
    refine Ev.step hround ?_
    by_cases c : u < 10
    · have hz : Int.tdiv x 10 = 0 := by omega
      rw [hz, digits_one u c]
      have hdu : d = u := by omega
      rw [← hdu]
      refine Ev.step (f := fun _ => some (if neg = true then strB (45 :: ([UInt8.ofNat (48 + d)] ++ out)) else strB ([UInt8.ofNat (48 + d)] ++ out))) (fun k => ?_) (Ev.now _)
      rw [spec_FormatInt.l0, if_pos rfl]
      cases neg with
      | true =>
        rw [if_pos rfl, if_pos (by rw [strB_size]; simp; omega), if_pos rfl]
        congr 1
      | false => rfl
    · rw [digits_step u (by omega)] at hl ⊢
      rw [List.length_append] at hl
      have e := ih (u / 10) (by omega) (Int.tdiv x 10) (UInt8.ofNat (48 + d) :: out) neg hd3 (by omega) (by omega) (by omega) (by simp; omega) (by simp at hl ⊢; omega) (by simp at hl ⊢; omega)
      rw [hd1] at e ⊢
      simpa using e
theorem specFormat_ev (x : Int) (h : GI x) : Ev (fun k => spec_FormatInt.f k x) (strB (Lib.itoa x)) := by
  unfold GI at h
  by_cases c : x = 0
  · subst c
    refine Ev.congr (fun k => by rw [spec_FormatInt.f, if_pos rfl]) ?_
    have e : strB (Lib.itoa 0) = (⟨#[48]⟩ : ByteArray) := by unfold Lib.itoa; rw [if_neg (by omega), digits_one _ (by decide)]; rfl
    rw [e]; exact Ev.now _
  · have hl := digits_len20 x.natAbs (by omega)
    have e := l0_digits x.natAbs x [] (decide (x < 0)) rfl (by omega) (by omega) (by omega) (by simp; omega) (by simp) (by simp; omega)
    refine Ev.congr (fun k => by rw [spec_FormatInt.f, if_neg c]) ?_
    unfold Lib.itoa
    rw [List.append_nil, show strB [] = (⟨#[]⟩ : ByteArray) from rfl] at e
    by_cases cn : x < 0
    · rw [if_pos cn]
      simpa [cn] using e
    · rw [if_neg cn]
      have : x.toNat = x.natAbs := by omega
      rw [this]
      simpa [cn] using e
theorem implFormat_f (x : Int) (h : GI x) : impl_FormatInt.f x = some (strB (Lib.itoa x)) := by
  unfold GI at h
  rw [impl_FormatInt.f, strconv_Itoa_61.f, if_pos (by omega)]
  rfl

theorem itoa_len (n : Int) (h : GI n) : (Lib.itoa n).length ≤ 21 := by
  unfold GI at h
  unfold Lib.itoa
  split
  · have := digits_len20 n.natAbs (by omega)
    simp; omega
  · have := digits_len20 n.toNat (by omega)
    omega

/-- What FormatValue answers. -/
def fv (x : Int) : ByteArray := if -40 ≤ x ∧ x ≤ -1 then strB (110 :: Lib.itoa (-1 - x)) else if 0 ≤ x ∧ x ≤ 9 then strB (Lib.itoa x) else strB []
theorem specFormatValue_ev (x : Int) (h : GI x) : Ev (fun k => spec_FormatValue.f k x) (fv x) := by
  refine Ev.congr (fun k => by rw [spec_FormatValue.f, specNullNumber_f x h, Option.bind_some]) ?_
  unfold fv
  by_cases c : -40 ≤ x ∧ x ≤ -1
  · simp only [c, and_self, if_true]
    have hg : GI (-1 - x) := by unfold GI; omega
    refine Ev.bind (specFormat_ev (-1 - x) hg) ?_
    have hl := itoa_len _ hg
    refine Ev.congr (fun k => by rw [if_pos (by rw [strB_size]; omega), show (⟨#[110]⟩ : ByteArray) = strB [110] from rfl, strB_append]; rfl) (Ev.now (strB (110 :: Lib.itoa (-1 - x))))
  · simp only [c, if_false, Bool.false_eq_true]
    refine Ev.congr (fun k => by rw [l1In_f, Option.bind_some]) ?_
    by_cases c2 : 0 ≤ x ∧ x ≤ 9
    · simp only [decide_eq_true c2, if_true, if_pos c2]
      exact Ev.bind (specFormat_ev x h) (Ev.now _)
    · simp only [decide_eq_false c2, if_neg c2, Bool.false_eq_true, if_false]
      exact Ev.now _
theorem implFormatValue_f (x : Int) (h : GI x) : impl_FormatValue.f x = some (fv x) := by
  rw [impl_FormatValue.f, implIsValidValue_f, Option.bind_some, impl_IsNull.f, Option.bind_some]
  unfold fv vv
  by_cases c : -40 ≤ x ∧ x ≤ 9
  · rw [if_pos (decide_eq_true c)]
    by_cases c2 : x < 0
    · have hg : GI (-1 - x) := by unfold GI; omega
      have hl := itoa_len _ hg
      rw [if_pos (decide_eq_true c2), if_pos (by omega), w64 (by omega) (by omega), implFormat_f _ hg, Option.bind_some, if_pos (by rw [strB_size]; omega), show (⟨#[110]⟩ : ByteArray) = strB [110] from rfl, strB_append]
      rfl
    · rw [if_neg (by simpa using c2), if_neg (by omega), if_pos (by omega), implFormat_f x h, Option.bind_some]
  · rw [if_neg (by simpa using c), if_neg (by omega), if_neg (by omega)]
    rfl

theorem joinTail_snoc (sep : List UInt8) (r : List (List UInt8)) (y : List UInt8) : Lib.joinTail sep (r ++ [y]) = Lib.joinTail sep r ++ (sep ++ y) := by
  unfold Lib.joinTail
  simp
/-- One more word: behind a separator, but for the first. -/
theorem join_snoc (sep : List UInt8) (xs : List (List UInt8)) (y : List UInt8) : Lib.join (xs ++ [y]) sep = if xs.length = 0 then y else Lib.join xs sep ++ sep ++ y := by
  cases xs with
  | nil => rw [List.nil_append, Lib.join_one]; rfl
  | cons x r => rw [List.cons_append, Lib.join_cons, Lib.join_cons, joinTail_snoc, if_neg (by simp), List.append_assoc, List.append_assoc]
theorem join_len (sep : List UInt8) (B : Nat) : ∀ (n : Nat) (xs : List (List UInt8)), xs.length = n → (∀ x ∈ xs, x.length ≤ B) → (Lib.join xs sep).length ≤ n * (B + sep.length) := by
  intro n
  induction n with
  | zero =>
    intro xs h _
    obtain rfl : xs = [] := List.eq_nil_of_length_eq_zero h
    simp [Lib.join_nil]
  | succ n ih =>
    intro xs h hb
    rcases List.eq_nil_or_concat xs with rfl | ⟨ys, y, rfl⟩
    · simp at h
    · rw [List.concat_eq_append] at *
      have h1 := ih ys (by simp at h; omega) (fun x hx => hb x (List.mem_append_left _ hx))
      have h2 := hb y (List.mem_append_right _ (by simp))
      rw [join_snoc, Nat.succ_mul]
      split
      · omega
      · rw [List.length_append, List.length_append]; omega
theorem strB_self (s : ByteArray) : strB s.data.toList = s := by apply ByteArray.ext; simp [strB]
theorem strB_data (l : List UInt8) : (strB l).data.toList = l := by simp [strB]
theorem strB_toList (l : List UInt8) : (strB l).toList = l := by rw [toList_data]; simp [strB]

def fvL (x : Int) : List UInt8 := (fv x).data.toList
theorem fv_fvL (x : Int) : fv x = strB (fvL x) := (strB_self _).symm
theorem fvL_len (x : Int) (h : GI x) : (fvL x).length ≤ 22 := by
  unfold fvL fv
  by_cases c : -40 ≤ x ∧ x ≤ -1
  · have := itoa_len (-1 - x) (by unfold GI; omega)
    rw [if_pos c, strB_data, List.length_cons]; omega
  · rw [if_neg c]
    by_cases c2 : 0 ≤ x ∧ x ≤ 9
    · have := itoa_len x h
      rw [if_pos c2, strB_data]; omega
    · rw [if_neg c2, strB_data]; simp

theorem okSub_all (n v : List Int) (d : Nat) : ∀ i, okSub n v i d = true → ∀ j, i ≤ j → j < i + d → 0 ≤ n.getD j 0 ∧ n.getD j 0 ≤ 39 := by
  induction d with
  | zero => intro i _ j h1 h2; omega
  | succ d ih =>
    intro i h j h1 h2
    rw [okSub] at h
    simp only [Bool.and_eq_true, decide_eq_true_eq] at h
    by_cases c : j = i
    · subst c; exact h.1.1.1
    · exact ih (i + 1) h.2 j (by omega) (by omega)
def wordS (k v : Int) : List UInt8 := fvL (-1 - k) ++ [61] ++ fvL v
def wordsS (n v : List Int) : List (List UInt8) := List.zipWith wordS n v
def fmtSub (n v : List Int) : ByteArray := if validSub n v = true then strB (Lib.join (wordsS n v) [32]) else strB []
theorem wordS_len (k v : Int) (h : 0 ≤ k ∧ k ≤ 39) (g : GI v) : (wordS k v).length ≤ 45 := by
  have h1 := fvL_len (-1 - k) (by unfold GI; omega)
  have h2 := fvL_len v g
  unfold wordS
  simp only [List.length_append, List.length_cons, List.length_nil]
  omega
theorem wordsS_succ (n v : List Int) (i : Nat) (h1 : i < n.length) (h2 : i < v.length) : (wordsS n v).take (i + 1) = (wordsS n v).take i ++ [wordS n[i] v[i]] := by
  unfold wordsS
  rw [List.take_succ_eq_append_getElem (by simp; omega), List.getElem_zipWith]
theorem wordsS_bound (n v : List Int) (gv : ∀ x ∈ v, GI x) (hk : ∀ j, j < n.length → 0 ≤ n.getD j 0 ∧ n.getD j 0 ≤ 39) : ∀ x ∈ wordsS n v, x.length ≤ 45 := by
  intro x hx
  obtain ⟨j, hj, rfl⟩ := List.mem_iff_getElem.1 hx
  unfold wordsS at hj ⊢
  simp only [List.length_zipWith] at hj
  rw [List.getElem_zipWith]
  have := hk j (by omega)
  rw [List.getD_eq_getElem?_getD, List.getElem?_eq_getElem (by omega)] at this
  exact wordS_len _ _ this (gv _ (List.getElem_mem (by omega)))
theorem specFmtSub_ev (n v : List Int) (hn : n.length ≤ 1048576) (gv : ∀ x ∈ v, GI x) : Ev (fun k => spec_FormatSubstitution.f k n v) (fmtSub n v) := by
  have hval := specValidSub_ev n v (by omega) gv
  refine Ev.congr (fun k => by rw [spec_FormatSubstitution.f]) ?_
  unfold fmtSub
  cases cv : validSub n v with
  | false =>
    simp only [Bool.false_eq_true, if_false]
    have hj : Ev (fun k => spec_FormatSubstitution.j1 k (⟨#[]⟩ : ByteArray) 0 false n v) (strB []) := by
      refine Ev.step (f := fun _ => some (strB [])) (fun k => ?_) (Ev.now _)
      rw [spec_FormatSubstitution.j1, if_neg (by simp)]
      rfl
    by_cases c : (0 : Int) < n.length
    · refine Ev.step (fun k => by rw [spec_FormatSubstitution.l0, if_pos c]) (Ev.bind hval ?_)
      rw [cv]
      exact hj
    · exact Ev.step (fun k => by rw [spec_FormatSubstitution.l0, if_neg c]) hj
  | true =>
    simp only [if_true]
    have hv := cv
    unfold validSub at hv
    simp only [Bool.and_eq_true, decide_eq_true_eq] at hv
    obtain ⟨hl, hok⟩ := hv
    have hk := okSub_all n v n.length 0 hok
    have hb := wordsS_bound n v gv (fun j hj => hk j (by omega) (by omega))
    have hwl : (wordsS n v).length = n.length := by unfold wordsS; simp; omega
    have e32 : (⟨#[32]⟩ : ByteArray) = strB [32] := rfl
    have e61 : (⟨#[61]⟩ : ByteArray) = strB [61] := rfl
    have loop : ∀ (d i : Nat), i + d = n.length → Ev (fun k => spec_FormatSubstitution.l0 k (strB (Lib.join ((wordsS n v).take i) [32])) i n v) (strB (Lib.join (wordsS n v) [32])) := by
      intro d
      induction d with
      | zero =>
        intro i hi
        refine Ev.step (fun k => by rw [spec_FormatSubstitution.l0, if_neg (by omega)]) ?_
        refine Ev.step (f := fun _ => some (strB (Lib.join (wordsS n v) [32]))) (fun k => ?_) (Ev.now _)
        rw [spec_FormatSubstitution.j1, if_neg (by simp), List.take_of_length_le (by omega)]
      | succ d ih =>
        intro i hi
        have h1 : i < n.length := by omega
        have h2 : i < v.length := by omega
        have hki := hk i (by omega) (by omega)
        rw [List.getD_eq_getElem?_getD, List.getElem?_eq_getElem h1] at hki
        simp only [Option.getD_some] at hki
        have gn : GI (-1 - n[i]) := by unfold GI; omega
        have gvi := gv v[i] (List.getElem_mem h2)
        have ew : wrap64 (-1 - n[i]) = -1 - n[i] := w64 (by omega) (by omega)
        have l1 := fvL_len _ gn
        have l2 := fvL_len _ gvi
        have s1 := specFormatValue_ev _ gn
        have s2 := specFormatValue_ev _ gvi
        rw [fv_fvL] at s1 s2
        have ihx := ih (i + 1) (by omega)
        have hlen : ((wordsS n v).take i).length = i := by rw [List.length_take]; omega
        rw [wordsS_succ n v i h1 h2, join_snoc, hlen] at ihx
        have hz : i = 0 → Lib.join ((wordsS n v).take i) [32] = [] := by rintro rfl; rfl
        have hlj := join_len [32] 45 i ((wordsS n v).take i) hlen (fun x hx => hb x (List.mem_of_mem_take hx))
        simp only [List.length_cons, List.length_nil] at hlj
        generalize Lib.join ((wordsS n v).take i) [32] = out at hlj ihx hz ⊢
        refine Ev.step (fun k => by rw [spec_FormatSubstitution.l0, if_pos (by omega)]) (Ev.bind hval ?_)
        rw [cv]
        by_cases c0 : i = 0
        · have ho := hz c0
          subst ho
          rw [if_pos c0] at ihx
          unfold wordS at ihx
          refine Ev.step (fun k => by rw [spec_FormatSubstitution.j1, if_pos rfl, if_neg (by omega), if_pos (by omega), if_pos (by omega), rd_get n i h1, spec_NullValue.f, Option.bind_some, show (-1 : Int) - n[i] = -1 - n[i] from rfl, ew, w64_succ (by omega)]) (Ev.bind s1 ?_)
          simp only [e61, strB_append, strB_size, List.nil_append]
          refine Ev.congr (fun k => by rw [if_pos (by simp; omega), if_pos (by omega), if_pos (by omega), rd_get v i h2]) (Ev.bind s2 ?_)
          simp only [strB_append, strB_size, List.nil_append]
          refine Ev.congr (fun k => by rw [if_pos (by simp; omega)]) ihx
        · rw [if_neg c0] at ihx
          unfold wordS at ihx
          simp only [← List.append_assoc] at ihx
          refine Ev.step (fun k => by rw [spec_FormatSubstitution.j1, if_pos rfl, if_pos (by omega), if_pos (by rw [strB_size]; omega), if_pos (by omega), if_pos (by omega), rd_get n i h1, spec_NullValue.f, Option.bind_some, show (-1 : Int) - n[i] = -1 - n[i] from rfl, ew, w64_succ (by omega)]) (Ev.bind s1 ?_)
          simp only [e32, e61, strB_append, strB_size]
          refine Ev.congr (fun k => by rw [if_pos (by simp; omega), if_pos (by simp; omega), if_pos (by omega), rd_get v i h2]) (Ev.bind s2 ?_)
          simp only [strB_append, strB_size]
          refine Ev.congr (fun k => by rw [if_pos (by simp; omega)]) ihx
    exact Ev.congr (fun k => rfl) (loop n.length 0 (by omega))
theorem implFmtSub_ev (n v : List Int) (hn : n.length ≤ 1048576) (gv : ∀ x ∈ v, GI x) : Ev (fun k => impl_FormatSubstitution.f k n v) (fmtSub n v) := by
  refine Ev.congr (fun k => by rw [impl_FormatSubstitution.f]) (Ev.bind (implValidSub_ev n v (by omega)) ?_)
  unfold fmtSub
  cases cv : validSub n v with
  | false => simp only [Bool.false_eq_true, if_false]; exact Ev.now _
  | true =>
    simp only [if_true]
    have hv := cv
    unfold validSub at hv
    simp only [Bool.and_eq_true, decide_eq_true_eq] at hv
    obtain ⟨hl, hok⟩ := hv
    have hk := okSub_all n v n.length 0 hok
    have hb := wordsS_bound n v gv (fun j hj => hk j (by omega) (by omega))
    have hwl : (wordsS n v).length = n.length := by unfold wordsS; simp; omega
    have hjl := join_len [32] 45 n.length (wordsS n v) hwl hb
    simp only [List.length_cons, List.length_nil] at hjl
    have e61 : (⟨#[61]⟩ : ByteArray) = strB [61] := rfl
    have loop : ∀ (d i : Nat), i + d = n.length → Ev (fun k => impl_FormatSubstitution.l0 k (((wordsS n v).take i).map strB) n n.length i n v) (strB (Lib.join (wordsS n v) [32])) := by
      intro d
      induction d with
      | zero =>
        intro i hi
        refine Ev.step (f := fun _ => some (strB (Lib.join (wordsS n v) [32]))) (fun k => ?_) (Ev.now _)
        have em : (((wordsS n v).take i).map strB).map (fun x : ByteArray => x.data.toList) = wordsS n v := by
          rw [List.take_of_length_le (by omega), List.map_map]
          conv => rhs; rw [← List.map_id (wordsS n v)]
          exact List.map_congr_left (fun x _ => strB_data x)
        rw [impl_FormatSubstitution.l0, if_neg (by omega), strings_Join.f]
        have es : (⟨#[32]⟩ : ByteArray).data.toList = [32] := rfl
        rw [em, es, if_pos ⟨by simp; omega, by omega⟩]
        rfl
      | succ d ih =>
        intro i hi
        have h1 : i < n.length := by omega
        have h2 : i < v.length := by omega
        have hki := hk i (by omega) (by omega)
        rw [List.getD_eq_getElem?_getD, List.getElem?_eq_getElem h1] at hki
        simp only [Option.getD_some] at hki
        have gn : GI (-1 - n[i]) := by unfold GI; omega
        have gvi := gv v[i] (List.getElem_mem h2)
        have ew : wrap64 (-1 - n[i]) = -1 - n[i] := w64 (by omega) (by omega)
        have l1 := fvL_len _ gn
        have l2 := fvL_len _ gvi
        have s1 := implFormatValue_f _ gn
        have s2 := implFormatValue_f _ gvi
        rw [fv_fvL] at s1 s2
        have ihx := ih (i + 1) (by omega)
        rw [wordsS_succ n v i h1 h2, List.map_append] at ihx
        unfold wordS at ihx
        refine Ev.step (fun k => ?_) ihx
        rw [impl_FormatSubstitution.l0, if_pos (by omega), if_pos (by omega), if_pos (by omega), rd_get n i h1, impl_NullValue.f, Option.bind_some, show (-1 : Int) - n[i] = -1 - n[i] from rfl, ew, s1, Option.bind_some, if_pos (by rw [strB_size]; omega), if_pos (by omega), rd_get v i h2, s2, Option.bind_some]
        simp only [e61, strB_append, strB_size]
        rw [if_pos (by simp; omega), if_pos (by simp; omega), w64_succ (by omega)]
        rfl
    exact Ev.congr (fun k => rfl) (loop n.length 0 (by omega))

theorem FnExactFormatSubstitution (l0_0 : List Int) (l0_1 : List Int) (g0_0 : (GL GI) l0_0) (g0_1 : (GL GI) l0_1) : ∃ k, laws_FnExactFormatSubstitution.f k l0_0 l0_1 = some true := by
  obtain ⟨r, e, h⟩ := szSubstitution_f l0_0 l0_1 g0_0.1 g0_1.1 1048576 (by omega) (by omega)
  refine Ev.rounds (r := true) (Ev.congr (fun k => by rw [laws_FnExactFormatSubstitution.f, e, Option.bind_some]) ?_)
  rcases h with h | h
  · simp only [h, if_true]; exact Ev.now _
  · simp only [show ¬ r < 0 by omega, if_false]
    have t := toSubstitution_ev l0_0 l0_1 (by omega) (by omega)
    refine Ev.bind t (Ev.bind (specFmtSub_ev l0_0 l0_1 (by omega) g0_1.2) (Ev.bind t (Ev.bind (implFmtSub_ev l0_0 l0_1 (by omega) g0_1.2) ?_)))
    simp only [if_true]
    refine Ev.bind t (Ev.bind (eqSubstitution_ev l0_0 l0_1 (by omega) (by omega)) ?_)
    simp only [if_true]
    exact Ev.now _

end Go.Proofs.YtjphbdnfbkfgiaaDoor.Pure
