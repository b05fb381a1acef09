/- EqualSubstitutions of the program and of the reference agree, for every two substitutions (past the law's own size bound it answers true itself). -/
import Derived.Test.YtaimpokajhkgnaaPFnExactEqualSubstitutionsx3
import Derived.Test.YtaimpokajhkgnaaOpens
import Derived.Test.YtaimpokajhkgnaaPlain
namespace Go.Proofs.Ytaimpokajhkgnaa.Pure
open Go.RowKit Go.Proofs.Ytaimpokajhkgnaa.PFnExactEqualSubstitutions Go.Proofs.YtaimpokajhkgnaaW.PrintWords Go.Proofs.YtaimpokajhkgnaaW.PrintLast Go.Proofs.YtaimpokajhkgnaaW.PrintMore Go.Proofs.Ytaimpokajhkgnaa.Opens Go.Proofs.Ytaimpokajhkgnaa.Plain
set_option linter.unusedVariables false
set_option linter.unusedSimpArgs false

theorem szIntS_f (l : List Int) (hl : l.length ≤ 9223372036854775807) (a : Int) (h0 : 0 ≤ a) (h1 : a ≤ 1048576) :
    ∃ r, laws_szIntS.f l a = some r ∧ (r < 0 ∨ 0 ≤ r ∧ r + l.length ≤ a) := by
  unfold laws_szIntS.f
  rw [w64 (by omega) (by omega)]
  by_cases c : a - (l.length : Int) < 0
  · exact ⟨-1, by rw [if_pos c], .inl (by omega)⟩
  · exact ⟨a - l.length, by rw [if_neg c], .inr (by omega)⟩

theorem toIntS_ev (l : List Int) (hl : l.length ≤ 1048576) : Ev (fun k => laws_toIntS.f k l) l := by
  have loop : ∀ (d i : Nat), i + d = l.length → Ev (fun k => laws_toIntS.l0 k l ((l.take i).map id ++ List.replicate (l.length - i) 0) i) l := by
    intro d
    induction d with
    | zero =>
      intro i hi
      refine Ev.step (f := fun _ => some l) (fun k => ?_) (Ev.now _)
      rw [laws_toIntS.l0, if_neg (by omega)]
      simp [show l.length - i = 0 by omega, List.take_of_length_le (show l.length ≤ i by omega)]
    | succ d ih =>
      intro i hi
      refine Ev.step (f := fun k => laws_toIntS.l0 k l ((l.take (i + 1)).map id ++ List.replicate (l.length - (i + 1)) 0) ((i + 1 : Nat) : Int)) (fun k => ?_) (ih (i + 1) (by omega))
      rw [laws_toIntS.l0, if_pos (by omega), if_pos (by omega), if_pos (by rw [fill_len _ _ _ _ (by omega)]; omega), rd_get l i (by omega), Int.toNat_natCast, w64_succ (by omega)]
      have e := fill_step id l 0 i (by omega)
      rw [id_eq] at e
      rw [e]
  refine Ev.congr (f := fun k => laws_toIntS.l0 k l (List.replicate l.length 0) 0) (fun k => ?_) ?_
  · rw [laws_toIntS.f, if_pos (by omega), if_pos (by omega)]; rfl
  · have e := loop l.length 0 (by omega)
    simpa using e

theorem eqIntS_ev (l : List Int) (hl : l.length ≤ 140737488355328) : Ev (fun k => laws_eqIntS.f k l l) true := by
  have loop : ∀ (d i : Nat), i + d = l.length → Ev (fun k => laws_eqIntS.l0 k l l i) true := by
    intro d
    induction d with
    | zero =>
      intro i hi
      refine Ev.step (f := fun _ => some true) (fun k => ?_) (Ev.now _)
      rw [laws_eqIntS.l0, if_neg (by omega)]
    | succ d ih =>
      intro i hi
      refine Ev.step (f := fun k => laws_eqIntS.l0 k l l ((i + 1 : Nat) : Int)) (fun k => ?_) (ih (i + 1) (by omega))
      rw [laws_eqIntS.l0, if_pos (by omega), if_pos (by omega), if_pos (by omega), if_pos rfl, w64_succ (by omega)]
  refine Ev.congr (f := fun k => laws_eqIntS.l0 k l l 0) (fun k => ?_) (loop l.length 0 (by omega))
  rw [laws_eqIntS.f, if_pos rfl]

theorem szSubstitution_f (n v : List Int) (hn : n.length ≤ 9223372036854775807) (hv : v.length ≤ 9223372036854775807) (a : Int) (h0 : 0 ≤ a) (h1 : a ≤ 1048576) :
    ∃ r, laws_szSubstitution.f n v a = some r ∧ (r < 0 ∨ 0 ≤ r ∧ r + n.length + v.length ≤ a) := by
  obtain ⟨r, e, h⟩ := szIntS_f n hn a h0 h1
  unfold laws_szSubstitution.f
  rw [e, Option.bind_some]
  rcases h with h | ⟨h, h'⟩
  · exact ⟨-1, by rw [if_pos h], .inl (by omega)⟩
  · obtain ⟨r2, e2, h2⟩ := szIntS_f v hv r h (by omega)
    rw [if_neg (by omega), e2, Option.bind_some]
    rcases h2 with h2 | ⟨h2, h2'⟩
    · exact ⟨-1, by rw [if_pos h2], .inl (by omega)⟩
    · exact ⟨r2, by rw [if_neg (by omega)], .inr (by omega)⟩
theorem toSubstitution_ev (n v : List Int) (hn : n.length ≤ 1048576) (hv : v.length ≤ 1048576) : Ev (fun k => laws_toSubstitution.f k n v) (n, v) := by
  refine Ev.congr (fun k => by rw [laws_toSubstitution.f]) ?_
  exact Ev.bind (toIntS_ev n hn) (Ev.bind (toIntS_ev v hv) (Ev.now _))
theorem eqSubstitution_ev (n v : List Int) (hn : n.length ≤ 140737488355328) (hv : v.length ≤ 140737488355328) : Ev (fun k => laws_eqSubstitution.f k n v n v) true := by
  refine Ev.congr (fun k => by rw [laws_eqSubstitution.f]) ?_
  refine Ev.bind (eqIntS_ev n hn) ?_
  simp only [if_true]
  refine Ev.bind (eqIntS_ev v hv) ?_
  simp only [if_true]
  exact Ev.now _

/-- Lists of numbers, value by value; a proper prefix is less. -/
def cmpL : List Int → List Int → Int
  | [], [] => 0
  | [], _ :: _ => -1
  | _ :: _, [] => 1
  | a :: l, b :: m => if a < b then -1 else if a > b then 1 else cmpL l m
theorem l4Ints_ev (a b : List Int) (ha : a.length ≤ 140737488355328) (hb : b.length ≤ 140737488355328) : Ev (fun k => spec_l4Ints.f k a b) (cmpL a b) := by
  have stop : ∀ i : Nat, i ≤ a.length → i ≤ b.length → (i = a.length ∨ i = b.length) → Ev (fun k => spec_l4Ints.j1 k a b i false) (cmpL (a.drop i) (b.drop i)) := by
    intro i h1 h2 h
    refine Ev.step (f := fun _ => some (cmpL (a.drop i) (b.drop i))) (fun k => ?_) (Ev.now _)
    rw [spec_l4Ints.j1, if_neg (by simp)]
    by_cases c1 : i = a.length
    · have e1 : a.drop i = [] := by rw [List.drop_eq_nil_iff]; omega
      rw [e1]
      by_cases c2 : i = b.length
      · have e2 : b.drop i = [] := by rw [List.drop_eq_nil_iff]; omega
        rw [e2, if_neg (by omega), if_neg (by omega)]; rfl
      · rw [drop_get b i (by omega), if_pos (by omega)]; rfl
    · have c2 : i = b.length := by omega
      have e2 : b.drop i = [] := by rw [List.drop_eq_nil_iff]; omega
      rw [e2, drop_get a i (by omega), if_neg (by omega), if_pos (by omega)]; rfl
  have loop : ∀ (d i : Nat), i + d = a.length → i ≤ b.length → Ev (fun k => spec_l4Ints.l0 k a b i) (cmpL (a.drop i) (b.drop i)) := by
    intro d
    induction d with
    | zero =>
      intro i hi hb'
      refine Ev.step (f := fun k => spec_l4Ints.j1 k a b i false) (fun k => ?_) (stop i (by omega) hb' (.inl (by omega)))
      rw [spec_l4Ints.l0, if_neg (by omega)]
    | succ d ih =>
      intro i hi hb'
      by_cases c : i < b.length
      · refine Ev.step (f := fun k => spec_l4Ints.j1 k a b i true) (fun k => ?_) ?_
        · rw [spec_l4Ints.l0, if_pos (by omega), decide_eq_true (by omega)]
        · refine Ev.step (f := fun k => if a[i] < b[i] then some (-1) else if a[i] > b[i] then some 1 else spec_l4Ints.l0 k a b ((i + 1 : Nat) : Int)) (fun k => ?_) ?_
          · rw [spec_l4Ints.j1, if_pos rfl, if_pos (by omega), if_pos (by omega), if_pos (by omega), rd_get a i (by omega), rd_get b i c, w64_succ (by omega)]
          · rw [drop_get a i (by omega), drop_get b i c, cmpL]
            by_cases c1 : a[i] < b[i]
            · simp only [c1, if_true]; exact Ev.now _
            · by_cases c2 : a[i] > b[i]
              · simp only [c1, c2, if_true, if_false]; exact Ev.now _
              · simp only [c1, c2, if_false]; exact ih (i + 1) (by omega) (by omega)
      · refine Ev.step (f := fun k => spec_l4Ints.j1 k a b i false) (fun k => ?_) (stop i (by omega) hb' (.inr (by omega)))
        rw [spec_l4Ints.l0, if_pos (by omega), decide_eq_false (by omega)]
  exact Ev.congr (fun k => by rw [spec_l4Ints.f]; rfl) (loop a.length 0 (by omega) (by omega))

theorem cmpL_zero : ∀ a b : List Int, cmpL a b = 0 ↔ a = b
  | [], [] => by simp [cmpL]
  | [], _ :: _ => by simp [cmpL]
  | _ :: _, [] => by simp [cmpL]
  | x :: l, y :: m => by
    rw [cmpL]
    by_cases c1 : x < y
    · rw [if_pos c1]; constructor
      · intro h; omega
      · intro h; injection h with h; omega
    · by_cases c2 : x > y
      · rw [if_neg c1, if_pos c2]; constructor
        · intro h; omega
        · intro h; injection h with h; omega
      · rw [if_neg c1, if_neg c2, cmpL_zero l m]
        have e : x = y := by omega
        simp [e]
theorem equalInts_ev (a b : List Int) (ha : a.length ≤ 140737488355328) : Ev (fun k => slices_Equal_int_int.f k a b) (decide (a = b)) := by
  by_cases c : a.length = b.length
  · have loop : ∀ (d i : Nat), i + d = a.length → Ev (fun k => slices_Equal_int_int.l0 k a b a.length i) (decide (a.drop i = b.drop i)) := by
      intro d
      induction d with
      | zero =>
        intro i hi
        have e1 : a.drop i = [] := by rw [List.drop_eq_nil_iff]; omega
        have e2 : b.drop i = [] := by rw [List.drop_eq_nil_iff]; omega
        rw [e1, e2]
        refine Ev.step (f := fun _ => some true) (fun k => ?_) (Ev.now _)
        rw [slices_Equal_int_int.l0, if_neg (by omega)]
      | succ d ih =>
        intro i hi
        rw [drop_get a i (by omega), drop_get b i (by omega)]
        refine Ev.step (f := fun k => if a[i] = b[i] then slices_Equal_int_int.l0 k a b a.length ((i + 1 : Nat) : Int) else some false) (fun k => ?_) ?_
        · rw [slices_Equal_int_int.l0, if_pos (by omega), if_pos (by omega), if_pos (by omega), if_pos (by omega), rd_get a i (by omega), rd_get b i (by omega), w64_succ (by omega)]
        · by_cases c1 : a[i] = b[i]
          · have e := ih (i + 1) (by omega)
            have e2 : decide (a[i] :: a.drop (i + 1) = b[i] :: b.drop (i + 1)) = decide (a.drop (i + 1) = b.drop (i + 1)) := by rw [c1]; exact decide_eq_decide.2 ⟨fun h => (List.cons.inj h).2, fun h => congrArg _ h⟩
            rw [e2]; simp only [c1, if_true]; exact e
          · have e2 : decide (a[i] :: a.drop (i + 1) = b[i] :: b.drop (i + 1)) = false := decide_eq_false (fun h => c1 (List.cons.inj h).1)
            rw [e2]; simp only [c1, if_false]; exact Ev.now _
    refine Ev.congr (fun k => by rw [slices_Equal_int_int.f, if_pos (by omega)]) ?_
    have e := loop a.length 0 (by omega)
    simpa using e
  · refine Ev.congr (f := fun _ => some false) (fun k => by rw [slices_Equal_int_int.f, if_neg (by omega)]) ?_
    have : a ≠ b := fun h => c (by rw [h])
    rw [decide_eq_false this]; exact Ev.now _

theorem FnExactEqualSubstitutions (l0_0 : List Int) (l0_1 : List Int) (l1_0 : List Int) (l1_1 : List Int) (g0_0 : (GL GI) l0_0) (g0_1 : (GL GI) l0_1) (g1_0 : (GL GI) l1_0) (g1_1 : (GL GI) l1_1) : ∃ k, laws_FnExactEqualSubstitutions.f k l0_0 l0_1 l1_0 l1_1 = some true := by
  obtain ⟨r, e, h⟩ := szSubstitution_f l0_0 l0_1 g0_0.1 g0_1.1 1048576 (by omega) (by omega)
  refine Ev.rounds (r := true) (Ev.congr (fun k => by rw [laws_FnExactEqualSubstitutions.f, e, Option.bind_some]) ?_)
  rcases h with h | h
  · simp only [h, if_true]; exact Ev.now _
  · simp only [show ¬ r < 0 by omega, if_false]
    obtain ⟨r2, e2, h2⟩ := szSubstitution_f l1_0 l1_1 g1_0.1 g1_1.1 r (by omega) (by omega)
    refine Ev.congr (fun k => by rw [e2, Option.bind_some]) ?_
    rcases h2 with h2 | h2
    · simp only [h2, if_true]; exact Ev.now _
    · simp only [show ¬ r2 < 0 by omega, if_false]
      have hs : Ev (fun k => spec_EqualSubstitutions.f k l0_0 l0_1 l1_0 l1_1) (decide (l0_0 = l1_0 ∧ l0_1 = l1_1)) := by
        refine Ev.congr (fun k => by rw [spec_EqualSubstitutions.f]) ?_
        refine Ev.bind (l4Ints_ev _ _ (by omega) (by omega)) ?_
        by_cases c : l0_0 = l1_0
        · simp only [(cmpL_zero _ _).2 c, if_true]
          refine Ev.bind (l4Ints_ev _ _ (by omega) (by omega)) ?_
          have e : (cmpL l0_1 l1_1 == 0) = decide (l0_0 = l1_0 ∧ l0_1 = l1_1) := by
            rw [Bool.eq_iff_iff]; simp [cmpL_zero, c]
          rw [e]; exact Ev.now _
        · have c' : ¬ cmpL l0_0 l1_0 = 0 := fun h => c ((cmpL_zero _ _).1 h)
          simp only [c', if_false]
          rw [decide_eq_false (fun h => c h.1)]; exact Ev.now _
      have hi : Ev (fun k => impl_EqualSubstitutions.f k l0_0 l0_1 l1_0 l1_1) (decide (l0_0 = l1_0 ∧ l0_1 = l1_1)) := by
        refine Ev.congr (fun k => by rw [impl_EqualSubstitutions.f]) ?_
        refine Ev.bind (equalInts_ev _ _ (by omega)) ?_
        by_cases c : l0_0 = l1_0
        · simp only [decide_eq_true c, if_true]
          refine Ev.bind (equalInts_ev _ _ (by omega)) ?_
          have e : decide (l0_1 = l1_1) = decide (l0_0 = l1_0 ∧ l0_1 = l1_1) := by simp [c]
          rw [e]; exact Ev.now _
        · simp only [decide_eq_false c, Bool.false_eq_true, if_false]
          rw [decide_eq_false (fun h => c h.1)]; exact Ev.now _
      refine Ev.bind (toSubstitution_ev _ _ (by omega) (by omega)) (Ev.bind (toSubstitution_ev _ _ (by omega) (by omega)) (Ev.bind hs (Ev.bind (toSubstitution_ev _ _ (by omega) (by omega)) (Ev.bind (toSubstitution_ev _ _ (by omega) (by omega)) (Ev.bind hi ?_)))))
      simp only [bne_self_eq_false, Bool.false_eq_true, if_false]
      refine Ev.bind (toSubstitution_ev _ _ (by omega) (by omega)) (Ev.bind (eqSubstitution_ev l0_0 l0_1 (by omega) (by omega)) ?_)
      simp only [if_true]
      refine Ev.bind (toSubstitution_ev _ _ (by omega) (by omega)) (Ev.bind (eqSubstitution_ev l1_0 l1_1 (by omega) (by omega)) ?_)
      simp only [if_true]
      exact Ev.now _

end Go.Proofs.Ytaimpokajhkgnaa.Pure
