/- CompareFacts of the program and of the reference agree, for every two facts (past the law's own size bound it answers true itself). -/
import Derived.Test.YtaimpokajhkgnaaPFnExactCompareFactsx3
import Derived.Test.YtaimpokajhkgnaaOpens
import Derived.Test.YtaimpokajhkgnaaPlain
namespace Go.Proofs.Ytaimpokajhkgnaa.Pure
open Go.RowKit Go.Proofs.Ytaimpokajhkgnaa.PFnExactCompareFacts Go.Proofs.YtaimpokajhkgnaaW.PrintWords Go.Proofs.YtaimpokajhkgnaaW.PrintLast Go.Proofs.YtaimpokajhkgnaaW.PrintMore Go.Proofs.Ytaimpokajhkgnaa.Opens Go.Proofs.Ytaimpokajhkgnaa.Plain
set_option linter.unusedVariables false
set_option linter.unusedSimpArgs false

theorem szIntS_f (l : List Int) (hl : l.length ≤ 9223372036854775807) (a : Int) (h0 : 0 ≤ a) (h1 : a ≤ 1048576) :
    ∃ r, laws_szIntS.f l a = some r ∧ (r < 0 ∨ 0 ≤ r ∧ r + l.length ≤ a) := by
  unfold laws_szIntS.f
  rw [w64 (by omega) (by omega)]
  by_cases c : a - (l.length : Int) < 0
  · exact ⟨-1, by rw [if_pos c], .inl (by omega)⟩
  · exact ⟨a - l.length, by rw [if_neg c], .inr (by omega)⟩

theorem toIntS_ev (l : List Int) (hl : l.length ≤ 1048576) : Ev (fun k => laws_toIntS.f k l) l := by
  have loop : ∀ (d i : Nat), i + d = l.length → Ev (fun k => laws_toIntS.l0 k l ((l.take i).map id ++ List.replicate (l.length - i) 0) i) l := by
    intro d
    induction d with
    | zero =>
      intro i hi
      refine Ev.step (f := fun _ => some l) (fun k => ?_) (Ev.now _)
      rw [laws_toIntS.l0, if_neg (by omega)]
      simp [show l.length - i = 0 by omega, List.take_of_length_le (show l.length ≤ i by omega)]
    | succ d ih =>
      intro i hi
      refine Ev.step (f := fun k => laws_toIntS.l0 k l ((l.take (i + 1)).map id ++ List.replicate (l.length - (i + 1)) 0) ((i + 1 : Nat) : Int)) (fun k => ?_) (ih (i + 1) (by omega))
      rw [laws_toIntS.l0, if_pos (by omega), if_pos (by omega), if_pos (by rw [fill_len _ _ _ _ (by omega)]; omega), rd_get l i (by omega), Int.toNat_natCast, w64_succ (by omega)]
      have e := fill_step id l 0 i (by omega)
      rw [id_eq] at e
      rw [e]
  refine Ev.congr (f := fun k => laws_toIntS.l0 k l (List.replicate l.length 0) 0) (fun k => ?_) ?_
  · rw [laws_toIntS.f, if_pos (by omega), if_pos (by omega)]; rfl
  · have e := loop l.length 0 (by omega)
    simpa using e

theorem eqIntS_ev (l : List Int) (hl : l.length ≤ 140737488355328) : Ev (fun k => laws_eqIntS.f k l l) true := by
  have loop : ∀ (d i : Nat), i + d = l.length → Ev (fun k => laws_eqIntS.l0 k l l i) true := by
    intro d
    induction d with
    | zero =>
      intro i hi
      refine Ev.step (f := fun _ => some true) (fun k => ?_) (Ev.now _)
      rw [laws_eqIntS.l0, if_neg (by omega)]
    | succ d ih =>
      intro i hi
      refine Ev.step (f := fun k => laws_eqIntS.l0 k l l ((i + 1 : Nat) : Int)) (fun k => ?_) (ih (i + 1) (by omega))
      rw [laws_eqIntS.l0, if_pos (by omega), if_pos (by omega), if_pos (by omega), if_pos rfl, w64_succ (by omega)]
  refine Ev.congr (f := fun k => laws_eqIntS.l0 k l l 0) (fun k => ?_) (loop l.length 0 (by omega))
  rw [laws_eqIntS.f, if_pos rfl]

theorem szFact_f (r : Int) (v : List Int) (hv : v.length ≤ 9223372036854775807) (a : Int) (h0 : 0 ≤ a) (h1 : a ≤ 1048576) :
    ∃ s, laws_szFact.f r v a = some s ∧ (s < 0 ∨ 0 ≤ s ∧ s + v.length ≤ a) := by
  obtain ⟨s, e, h⟩ := szIntS_f v hv a h0 h1
  unfold laws_szFact.f
  rw [e, Option.bind_some]
  rcases h with h | h
  · exact ⟨-1, by rw [if_pos h], .inl (by omega)⟩
  · exact ⟨s, by rw [if_neg (by omega)], .inr h⟩
theorem toFact_ev (r : Int) (v : List Int) (hv : v.length ≤ 1048576) : Ev (fun k => laws_toFact.f k r v) (r, v) := by
  refine Ev.congr (fun k => by rw [laws_toFact.f]) ?_
  exact Ev.bind (toIntS_ev v hv) (Ev.now _)
theorem eqFact_ev (r : Int) (v : List Int) (hv : v.length ≤ 140737488355328) : Ev (fun k => laws_eqFact.f k r v r v) true := by
  refine Ev.congr (fun k => by rw [laws_eqFact.f, if_pos rfl]) ?_
  refine Ev.bind (eqIntS_ev v hv) ?_
  simp only [if_true]
  exact Ev.now _

/-- Lists of numbers, value by value; a proper prefix is less. -/
def cmpL : List Int → List Int → Int
  | [], [] => 0
  | [], _ :: _ => -1
  | _ :: _, [] => 1
  | a :: l, b :: m => if a < b then -1 else if a > b then 1 else cmpL l m
theorem l4Ints_ev (a b : List Int) (ha : a.length ≤ 140737488355328) (hb : b.length ≤ 140737488355328) : Ev (fun k => spec_l4Ints.f k a b) (cmpL a b) := by
  have stop : ∀ i : Nat, i ≤ a.length → i ≤ b.length → (i = a.length ∨ i = b.length) → Ev (fun k => spec_l4Ints.j1 k a b i false) (cmpL (a.drop i) (b.drop i)) := by
    intro i h1 h2 h
    refine Ev.step (f := fun _ => some (cmpL (a.drop i) (b.drop i))) (fun k => ?_) (Ev.now _)
    rw [spec_l4Ints.j1, if_neg (by simp)]
    by_cases c1 : i = a.length
    · have e1 : a.drop i = [] := by rw [List.drop_eq_nil_iff]; omega
      rw [e1]
      by_cases c2 : i = b.length
      · have e2 : b.drop i = [] := by rw [List.drop_eq_nil_iff]; omega
        rw [e2, if_neg (by omega), if_neg (by omega)]; rfl
      · rw [drop_get b i (by omega), if_pos (by omega)]; rfl
    · have c2 : i = b.length := by omega
      have e2 : b.drop i = [] := by rw [List.drop_eq_nil_iff]; omega
      rw [e2, drop_get a i (by omega), if_neg (by omega), if_pos (by omega)]; rfl
  have loop : ∀ (d i : Nat), i + d = a.length → i ≤ b.length → Ev (fun k => spec_l4Ints.l0 k a b i) (cmpL (a.drop i) (b.drop i)) := by
    intro d
    induction d with
    | zero =>
      intro i hi hb'
      refine Ev.step (f := fun k => spec_l4Ints.j1 k a b i false) (fun k => ?_) (stop i (by omega) hb' (.inl (by omega)))
      rw [spec_l4Ints.l0, if_neg (by omega)]
    | succ d ih =>
      intro i hi hb'
      by_cases c : i < b.length
      · refine Ev.step (f := fun k => spec_l4Ints.j1 k a b i true) (fun k => ?_) ?_
        · rw [spec_l4Ints.l0, if_pos (by omega), decide_eq_true (by omega)]
        · refine Ev.step (f := fun k => if a[i] < b[i] then some (-1) else if a[i] > b[i] then some 1 else spec_l4Ints.l0 k a b ((i + 1 : Nat) : Int)) (fun k => ?_) ?_
          · rw [spec_l4Ints.j1, if_pos rfl, if_pos (by omega), if_pos (by omega), if_pos (by omega), rd_get a i (by omega), rd_get b i c, w64_succ (by omega)]
          · rw [drop_get a i (by omega), drop_get b i c, cmpL]
            by_cases c1 : a[i] < b[i]
            · simp only [c1, if_true]; exact Ev.now _
            · by_cases c2 : a[i] > b[i]
              · simp only [c1, c2, if_true, if_false]; exact Ev.now _
              · simp only [c1, c2, if_false]; exact ih (i + 1) (by omega) (by omega)
      · refine Ev.step (f := fun k => spec_l4Ints.j1 k a b i false) (fun k => ?_) (stop i (by omega) hb' (.inr (by omega)))
        rw [spec_l4Ints.l0, if_pos (by omega), decide_eq_false (by omega)]
  exact Ev.congr (fun k => by rw [spec_l4Ints.f]; rfl) (loop a.length 0 (by omega) (by omega))

def cmpF (r : Int) (a : List Int) (r' : Int) (b : List Int) : Int := if r < r' then -1 else if r > r' then 1 else cmpL a b
theorem specCompare_ev (r : Int) (a : List Int) (r' : Int) (b : List Int) (ha : a.length ≤ 140737488355328) (hb : b.length ≤ 140737488355328) : Ev (fun k => spec_CompareFacts.f k r a r' b) (cmpF r a r' b) := by
  refine Ev.congr (fun k => by rw [spec_CompareFacts.f]) ?_
  unfold cmpF
  by_cases c1 : r < r'
  · simp only [c1, if_true]; exact Ev.now _
  · by_cases c2 : r > r'
    · simp only [c1, c2, if_true, if_false]; exact Ev.now _
    · simp only [c1, c2, if_false]
      exact Ev.bind (l4Ints_ev a b ha hb) (Ev.now _)

def cmpI (a b : Int) : Int := if a < b then -1 else if a > b then 1 else 0
theorem cmpCompare_f (a b : Int) : cmp_Compare_int.f a b = some (cmpI a b) := by
  unfold cmp_Compare_int.f cmp_isNaN_int.f cmpI
  simp only [bne_self_eq_false, Option.bind_some, Bool.false_eq_true, if_false]
  split
  · rfl
  · split <;> rfl
theorem cmpI_zero (a b : Int) : cmpI a b = 0 ↔ a = b := by
  unfold cmpI
  split
  · omega
  · split <;> omega
theorem slicesCompare_ev (a b : List Int) (ha : a.length ≤ 140737488355328) (hb : b.length ≤ 140737488355328) : Ev (fun k => slices_Compare_int_int.f k a b) (cmpL a b) := by
  have loop : ∀ (d i : Nat), i + d = a.length → i ≤ b.length → Ev (fun k => slices_Compare_int_int.l0 k a b a a.length i) (cmpL (a.drop i) (b.drop i)) := by
    intro d
    induction d with
    | zero =>
      intro i hi hb'
      have e1 : a.drop i = [] := by rw [List.drop_eq_nil_iff]; omega
      rw [e1]
      by_cases c2 : i = b.length
      · have e2 : b.drop i = [] := by rw [List.drop_eq_nil_iff]; omega
        rw [e2]
        refine Ev.step (f := fun _ => some 0) (fun k => ?_) (Ev.now _)
        rw [slices_Compare_int_int.l0, if_neg (by omega), if_neg (by omega)]
      · rw [drop_get b i (by omega)]
        refine Ev.step (f := fun _ => some (-1)) (fun k => ?_) (Ev.now _)
        rw [slices_Compare_int_int.l0, if_neg (by omega), if_pos (by omega)]
    | succ d ih =>
      intro i hi hb'
      rw [drop_get a i (by omega)]
      by_cases c : i < b.length
      · rw [drop_get b i c]
        refine Ev.step (f := fun k => if cmpI a[i] b[i] = 0 then slices_Compare_int_int.l0 k a b a a.length ((i + 1 : Nat) : Int) else some (cmpI a[i] b[i])) (fun k => ?_) ?_
        · rw [slices_Compare_int_int.l0, if_pos (by omega), if_pos (by omega), if_pos (by omega), if_neg (by omega), if_pos (by omega), rd_get a i (by omega), rd_get b i c, cmpCompare_f, Option.bind_some, w64_succ (by omega)]
        · by_cases c0 : cmpI a[i] b[i] = 0
          · simp only [c0, if_true]
            have e := (cmpI_zero _ _).1 c0
            rw [cmpL, if_neg (by omega), if_neg (by omega)]
            exact ih (i + 1) (by omega) (by omega)
          · simp only [c0, if_false]
            have e : cmpL (a[i] :: a.drop (i + 1)) (b[i] :: b.drop (i + 1)) = cmpI a[i] b[i] := by
              have h := (not_congr (cmpI_zero _ _)).1 c0
              rw [cmpL]; unfold cmpI
              by_cases c1 : a[i] < b[i]
              · rw [if_pos c1, if_pos c1]
              · rw [if_neg c1, if_neg c1, if_pos (by omega), if_pos (by omega)]
            rw [e]; exact Ev.now _
      · have e2 : b.drop i = [] := by rw [List.drop_eq_nil_iff]; omega
        rw [e2]
        refine Ev.step (f := fun _ => some 1) (fun k => ?_) (Ev.now _)
        rw [slices_Compare_int_int.l0, if_pos (by omega), if_pos (by omega), if_pos (by omega), if_pos (by omega)]
  exact Ev.congr (fun k => by rw [slices_Compare_int_int.f]; rfl) (loop a.length 0 (by omega) (by omega))
theorem cmpOr_ev (x y : Int) : Ev (fun k => cmp_Or_int.f k [x, y]) (if x = 0 then y else x) := by
  refine Ev.congr (fun k => by rw [cmp_Or_int.f]) ?_
  by_cases c : x = 0
  · rw [if_pos c]
    refine Ev.step (f := fun k => cmp_Or_int.l0 k 0 [x, y] 2 1) (fun k => ?_) ?_
    · rw [cmp_Or_int.l0, if_pos (by simp), if_pos (by omega), if_pos (by simp)]
      rw [show rd [x, y] 0 = x from rfl, if_pos c, w64 (by omega) (by omega)]; rfl
    · by_cases c2 : y = 0
      · refine Ev.step (f := fun k => cmp_Or_int.l0 k 0 [x, y] 2 2) (fun k => ?_) (Ev.step (f := fun _ => some y) (fun k => ?_) (Ev.now _))
        · rw [cmp_Or_int.l0, if_pos (by omega), if_pos (by omega), if_pos (by simp)]
          rw [show rd [x, y] 1 = y from rfl, if_pos c2, w64 (by omega) (by omega)]; rfl
        · rw [cmp_Or_int.l0, if_neg (by omega), c2]
      · refine Ev.step (f := fun _ => some y) (fun k => ?_) (Ev.now _)
        rw [cmp_Or_int.l0, if_pos (by omega), if_pos (by omega), if_pos (by simp)]
        rw [show rd [x, y] 1 = y from rfl, if_neg c2]
  · rw [if_neg c]
    refine Ev.step (f := fun _ => some x) (fun k => ?_) (Ev.now _)
    rw [cmp_Or_int.l0, if_pos (by simp), if_pos (by omega), if_pos (by simp)]
    rw [show rd [x, y] 0 = x from rfl, if_neg c]
theorem implCompare_ev (r : Int) (a : List Int) (r' : Int) (b : List Int) (ha : a.length ≤ 140737488355328) (hb : b.length ≤ 140737488355328) : Ev (fun k => impl_CompareFacts.f k r a r' b) (cmpF r a r' b) := by
  refine Ev.congr (fun k => by rw [impl_CompareFacts.f, cmpCompare_f, Option.bind_some]) ?_
  refine Ev.bind (slicesCompare_ev a b ha hb) ?_
  have h := cmpOr_ev (cmpI r r') (cmpL a b)
  have e : (if cmpI r r' = 0 then cmpL a b else cmpI r r') = cmpF r a r' b := by
    unfold cmpF cmpI
    by_cases c1 : r < r'
    · simp [c1]
    · by_cases c2 : r > r'
      · simp [c1, c2]
      · simp [c1, c2]
  rw [e] at h
  exact Ev.bind h (Ev.now _)

theorem FnExactCompareFacts (a0_0 : Int) (l0_1 : List Int) (a1_0 : Int) (l1_1 : List Int) (g0_0 : GI a0_0) (g0_1 : (GL GI) l0_1) (g1_0 : GI a1_0) (g1_1 : (GL GI) l1_1) : ∃ k, laws_FnExactCompareFacts.f k a0_0 l0_1 a1_0 l1_1 = some true := by
  obtain ⟨r, e, h⟩ := szFact_f a0_0 l0_1 g0_1.1 1048576 (by omega) (by omega)
  refine Ev.rounds (r := true) (Ev.congr (fun k => by rw [laws_FnExactCompareFacts.f, e, Option.bind_some]) ?_)
  rcases h with h | h
  · simp only [h, if_true]; exact Ev.now _
  · simp only [show ¬ r < 0 by omega, if_false]
    obtain ⟨r2, e2, h2⟩ := szFact_f a1_0 l1_1 g1_1.1 r (by omega) (by omega)
    refine Ev.congr (fun k => by rw [e2, Option.bind_some]) ?_
    rcases h2 with h2 | h2
    · simp only [h2, if_true]; exact Ev.now _
    · simp only [show ¬ r2 < 0 by omega, if_false]
      refine Ev.bind (toFact_ev _ _ (by omega)) (Ev.bind (toFact_ev _ _ (by omega)) (Ev.bind (specCompare_ev a0_0 l0_1 a1_0 l1_1 (by omega) (by omega)) (Ev.bind (toFact_ev _ _ (by omega)) (Ev.bind (toFact_ev _ _ (by omega)) (Ev.bind (implCompare_ev a0_0 l0_1 a1_0 l1_1 (by omega) (by omega)) ?_)))))
      simp only [if_true]
      refine Ev.bind (toFact_ev _ _ (by omega)) (Ev.bind (eqFact_ev a0_0 l0_1 (by omega)) ?_)
      simp only [if_true]
      refine Ev.bind (toFact_ev _ _ (by omega)) (Ev.bind (eqFact_ev a1_0 l1_1 (by omega)) ?_)
      simp only [if_true]
      exact Ev.now _

end Go.Proofs.Ytaimpokajhkgnaa.Pure
