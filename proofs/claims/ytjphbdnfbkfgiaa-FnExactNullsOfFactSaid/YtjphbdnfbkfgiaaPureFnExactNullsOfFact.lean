/- NullsOfFact of the program and of the reference agree, for every fact; what it hands back lies apart (past the law's own size bound it answers true itself). -/
import Derived.Test.YtjphbdnfbkfgiaaPFnExactNullsOfFactx1
import Derived.Test.YtjphbdnfbkfgiaaPFnExactNullsOfFactx2
import Derived.Test.YtjphbdnfbkfgiaaPFnExactNullsOfFactx3
import Derived.Test.YtjphbdnfbkfgiaaOpens
import Derived.Test.YtjphbdnfbkfgiaaPlain
namespace Go.Proofs.Ytjphbdnfbkfgiaa.Pure
open Go.RowKit Go.Proofs.Ytjphbdnfbkfgiaa.PFnExactNullsOfFact Go.Proofs.YtjphbdnfbkfgiaaW.PrintWords Go.Proofs.YtjphbdnfbkfgiaaW.PrintLast Go.Proofs.YtjphbdnfbkfgiaaW.PrintMore Go.Proofs.Ytjphbdnfbkfgiaa.Opens Go.Proofs.Ytjphbdnfbkfgiaa.Plain
set_option linter.unusedVariables false
set_option linter.unusedSimpArgs false

theorem l1In_f (a b c : Int) : spec_l1In.f a b c = some (decide (b ≤ a ∧ a ≤ c)) := by
  unfold spec_l1In.f
  by_cases h : b ≤ a <;> simp [h]

theorem within_f (a b c : Int) : impl_within.f a b c = some (decide (b ≤ a ∧ a ≤ c)) := by
  unfold impl_within.f
  by_cases h : b ≤ a <;> simp [h]

theorem szIntS_f (l : List Int) (hl : l.length ≤ 9223372036854775807) (a : Int) (h0 : 0 ≤ a) (h1 : a ≤ 1048576) :
    ∃ r, laws_szIntS.f l a = some r ∧ (r < 0 ∨ 0 ≤ r ∧ r + l.length ≤ a) := by
  unfold laws_szIntS.f
  rw [w64 (by omega) (by omega)]
  by_cases c : a - (l.length : Int) < 0
  · exact ⟨-1, by rw [if_pos c], .inl (by omega)⟩
  · exact ⟨a - l.length, by rw [if_neg c], .inr (by omega)⟩

theorem toIntS_ev (l : List Int) (hl : l.length ≤ 1048576) : Ev (fun k => laws_toIntS.f k l) l := by
  have loop : ∀ (d i : Nat), i + d = l.length → Ev (fun k => laws_toIntS.l0 k l ((l.take i).map id ++ List.replicate (l.length - i) 0) i) l := by
    intro d
    induction d with
    | zero =>
      intro i hi
      refine Ev.step (f := fun _ => some l) (fun k => ?_) (Ev.now _)
      rw [laws_toIntS.l0, if_neg (by omega)]
      simp [show l.length - i = 0 by omega, List.take_of_length_le (show l.length ≤ i by omega)]
    | succ d ih =>
      intro i hi
      refine Ev.step (f := fun k => laws_toIntS.l0 k l ((l.take (i + 1)).map id ++ List.replicate (l.length - (i + 1)) 0) ((i + 1 : Nat) : Int)) (fun k => ?_) (ih (i + 1) (by omega))
      rw [laws_toIntS.l0, if_pos (by omega), if_pos (by omega), if_pos (by rw [fill_len _ _ _ _ (by omega)]; omega), rd_get l i (by omega), Int.toNat_natCast, w64_succ (by omega)]
      have e := fill_step id l 0 i (by omega)
      rw [id_eq] at e
      rw [e]
  refine Ev.congr (f := fun k => laws_toIntS.l0 k l (List.replicate l.length 0) 0) (fun k => ?_) ?_
  · rw [laws_toIntS.f, if_pos (by omega), if_pos (by omega)]; rfl
  · have e := loop l.length 0 (by omega)
    simpa using e

theorem eqIntS_ev (l : List Int) (hl : l.length ≤ 140737488355328) : Ev (fun k => laws_eqIntS.f k l l) true := by
  have loop : ∀ (d i : Nat), i + d = l.length → Ev (fun k => laws_eqIntS.l0 k l l i) true := by
    intro d
    induction d with
    | zero =>
      intro i hi
      refine Ev.step (f := fun _ => some true) (fun k => ?_) (Ev.now _)
      rw [laws_eqIntS.l0, if_neg (by omega)]
    | succ d ih =>
      intro i hi
      refine Ev.step (f := fun k => laws_eqIntS.l0 k l l ((i + 1 : Nat) : Int)) (fun k => ?_) (ih (i + 1) (by omega))
      rw [laws_eqIntS.l0, if_pos (by omega), if_pos (by omega), if_pos (by omega), if_pos rfl, w64_succ (by omega)]
  refine Ev.congr (f := fun k => laws_eqIntS.l0 k l l 0) (fun k => ?_) (loop l.length 0 (by omega))
  rw [laws_eqIntS.f, if_pos rfl]

theorem szFact_f (r : Int) (v : List Int) (hv : v.length ≤ 9223372036854775807) (a : Int) (h0 : 0 ≤ a) (h1 : a ≤ 1048576) :
    ∃ s, laws_szFact.f r v a = some s ∧ (s < 0 ∨ 0 ≤ s ∧ s + v.length ≤ a) := by
  obtain ⟨s, e, h⟩ := szIntS_f v hv a h0 h1
  unfold laws_szFact.f
  rw [e, Option.bind_some]
  rcases h with h | h
  · exact ⟨-1, by rw [if_pos h], .inl (by omega)⟩
  · exact ⟨s, by rw [if_neg (by omega)], .inr h⟩
theorem toFact_ev (r : Int) (v : List Int) (hv : v.length ≤ 1048576) : Ev (fun k => laws_toFact.f k r v) (r, v) := by
  refine Ev.congr (fun k => by rw [laws_toFact.f]) ?_
  exact Ev.bind (toIntS_ev v hv) (Ev.now _)
theorem eqFact_ev (r : Int) (v : List Int) (hv : v.length ≤ 140737488355328) : Ev (fun k => laws_eqFact.f k r v r v) true := by
  refine Ev.congr (fun k => by rw [laws_eqFact.f, if_pos rfl]) ?_
  refine Ev.bind (eqIntS_ev v hv) ?_
  simp only [if_true]
  exact Ev.now _

theorem specNullNumber_f (x : Int) (h : GI x) : spec_NullNumber.f x = some (if -40 ≤ x ∧ x ≤ -1 then (-1 - x, true) else (0, false)) := by
  unfold GI at h
  unfold spec_NullNumber.f
  by_cases c : x ≥ 0
  · rw [if_pos c, if_neg (by omega)]
  · have e : wrap64 ((-1) - x) = -1 - x := w64 (by omega) (by omega)
    rw [if_neg c, e, l1In_f]
    simp only [Option.bind_some, decide_eq_true_eq]
    by_cases c2 : -40 ≤ x ∧ x ≤ -1
    · rw [if_pos c2, if_pos (by omega)]
    · rw [if_neg c2, if_neg (by omega)]

theorem implNullNumber_f (x : Int) (h : GI x) : impl_NullNumber.f x = some (if -40 ≤ x ∧ x ≤ -1 then (-1 - x, true) else (0, false)) := by
  unfold GI at h
  unfold impl_NullNumber.f
  rw [within_f]
  simp only [Option.bind_some, decide_eq_true_eq]
  have e : wrap64 ((-1) - x) = -1 - x := w64 (by omega) (by omega)
  rw [e]
  by_cases c2 : -40 ≤ x ∧ x ≤ -1
  · rw [if_pos c2, if_pos (by omega)]
  · rw [if_neg c2, if_neg (by omega)]

/-- The numbers from a on, n of them. -/
def seqI (a : Int) (n : Nat) : List Int := (List.range n).map (fun i : Nat => a + (i : Int))
theorem seqI_len (a : Int) (n : Nat) : (seqI a n).length = n := by unfold seqI; simp
theorem seqI_step (a : Int) (l : List Int) (i : Nat) (h : i < l.length) : (seqI a i ++ l.drop i).set i (a + i) = seqI a (i + 1) ++ l.drop (i + 1) := by
  unfold seqI
  rw [drop_get l i h, List.set_append_right _ _ (by simp), List.range_succ, List.map_append, List.append_assoc]
  have hz : i - ((List.range i).map (fun i : Nat => a + (i : Int))).length = 0 := by simp
  rw [hz, List.set_cons_zero]
  rfl
theorem seqI_rd (a : Int) (n i : Nat) (h : i < n) : rd (seqI a n) (i : Int) = a + i := by
  rw [rd_get _ i (by rw [seqI_len]; exact h)]
  unfold seqI
  simp
theorem markIntS_ev (l : List Int) (a : Int) (h0 : 0 ≤ a) (h1 : a + l.length ≤ 1125899906842624) : Ev (fun k => laws_markIntS.f k l a) (a + l.length, seqI a l.length) := by
  have loop : ∀ (d i : Nat), i + d = l.length → Ev (fun k => laws_markIntS.l0 k (seqI a i ++ l.drop i) (a + i) i) (a + l.length, seqI a l.length) := by
    intro d
    induction d with
    | zero =>
      intro i hi
      obtain rfl : i = l.length := by omega
      refine Ev.step (f := fun _ => some (a + l.length, seqI a l.length)) (fun k => ?_) (Ev.now _)
      rw [laws_markIntS.l0, if_neg (by rw [List.length_append, seqI_len, List.length_drop]; omega), List.drop_length, List.append_nil]
    | succ d ih =>
      intro i hi
      refine Ev.step (f := fun k => laws_markIntS.l0 k (seqI a (i + 1) ++ l.drop (i + 1)) (a + ((i + 1 : Nat) : Int)) ((i + 1 : Nat) : Int)) (fun k => ?_) (ih (i + 1) (by omega))
      rw [laws_markIntS.l0, if_pos (by rw [List.length_append, seqI_len, List.length_drop]; omega), if_pos (by omega), Int.toNat_natCast, seqI_step a l i (by omega), w64_succ (by omega), w64 (by omega) (by omega), show a + (i : Int) + 1 = a + ((i + 1 : Nat) : Int) by omega]
  refine Ev.congr (fun k => ?_) (loop l.length 0 (by omega))
  rw [laws_markIntS.f]
  simp [seqI]
theorem heldIntS_ev (a : Int) (n : Nat) (h0 : 0 ≤ a) (h1 : a + n ≤ 1125899906842624) : Ev (fun k => laws_heldIntS.f k (seqI a n) a) (a + n) := by
  have loop : ∀ (d i : Nat), i + d = n → Ev (fun k => laws_heldIntS.l0 k (seqI a n) (a + i) i) (a + n) := by
    intro d
    induction d with
    | zero =>
      intro i hi
      obtain rfl : i = n := by omega
      refine Ev.step (f := fun _ => some (a + i)) (fun k => ?_) (Ev.now _)
      rw [laws_heldIntS.l0, if_neg (by rw [seqI_len]; omega)]
    | succ d ih =>
      intro i hi
      refine Ev.step (f := fun k => laws_heldIntS.l0 k (seqI a n) (a + ((i + 1 : Nat) : Int)) ((i + 1 : Nat) : Int)) (fun k => ?_) (ih (i + 1) (by omega))
      rw [laws_heldIntS.l0, if_pos (by rw [seqI_len]; omega), if_pos (by omega), seqI_rd a n i (by omega), if_pos rfl, w64_succ (by omega), w64 (by omega) (by omega), show a + (i : Int) + 1 = a + ((i + 1 : Nat) : Int) by omega]
  refine Ev.congr (fun k => ?_) (loop n 0 (by omega))
  rw [laws_heldIntS.f]
  simp

theorem markFact_ev (r : Int) (v : List Int) (a : Int) (h0 : 0 ≤ a) (h1 : a + v.length ≤ 1125899906842624) : Ev (fun k => laws_markFact.f k r v a) (a + v.length, seqI a v.length) := by
  refine Ev.congr (fun k => by rw [laws_markFact.f]) ?_
  exact Ev.bind (markIntS_ev v a h0 h1) (Ev.now _)

/-- Put into an ascending list, each once. -/
def insU (x : Int) : List Int → List Int
  | [] => [x]
  | y :: l => if y < x then y :: insU x l else if y = x then y :: l else x :: y :: l
theorem mem_insU (x z : Int) : ∀ l : List Int, z ∈ insU x l ↔ z = x ∨ z ∈ l
  | [] => by simp [insU]
  | y :: l => by
    unfold insU
    by_cases c : y < x
    · rw [if_pos c, List.mem_cons, List.mem_cons, mem_insU x z l]
      constructor <;> rintro (h | h | h) <;> simp [h]
    · rw [if_neg c]
      by_cases c2 : y = x
      · rw [if_pos c2]; subst c2; simp
      · rw [if_neg c2]; simp
theorem insU_up (x : Int) : ∀ l : List Int, l.Pairwise (· < ·) → (insU x l).Pairwise (· < ·)
  | [], _ => by simp [insU]
  | y :: l, h => by
    rw [List.pairwise_cons] at h
    unfold insU
    by_cases c : y < x
    · rw [if_pos c, List.pairwise_cons]
      refine ⟨fun z hz => ?_, insU_up x l h.2⟩
      rcases (mem_insU x z l).1 hz with rfl | hz
      · exact c
      · exact h.1 z hz
    · rw [if_neg c]
      by_cases c2 : y = x
      · rw [if_pos c2, List.pairwise_cons]; exact h
      · rw [if_neg c2, List.pairwise_cons, List.pairwise_cons]
        refine ⟨fun z hz => ?_, h⟩
        rcases List.mem_cons.1 hz with rfl | hz
        · omega
        · have := h.1 z hz; omega
theorem insU_len (x : Int) : ∀ l : List Int, (insU x l).length ≤ l.length + 1
  | [] => by simp [insU]
  | y :: l => by
    have := insU_len x l
    unfold insU
    split
    · simp; omega
    · split <;> simp
/-- Two ascending lists with the same elements are one. -/
theorem up_ext : ∀ a b : List Int, a.Pairwise (· < ·) → b.Pairwise (· < ·) → (∀ x, x ∈ a ↔ x ∈ b) → a = b
  | [], [], _, _, _ => rfl
  | [], y :: b, _, _, h => absurd ((h y).2 (by simp)) (by simp)
  | x :: a, [], _, _, h => absurd ((h x).1 (by simp)) (by simp)
  | x :: a, y :: b, ha, hb, h => by
    rw [List.pairwise_cons] at ha hb
    have e : x = y := by
      rcases List.mem_cons.1 ((h x).1 (by simp)) with e | hx
      · exact e
      · rcases List.mem_cons.1 ((h y).2 (by simp)) with e | hy
        · exact e.symm
        · have h1 := hb.1 x hx
          have h2 := ha.1 y hy
          omega
    subst e
    rw [up_ext a b ha.2 hb.2 (fun z => ?_)]
    constructor
    · intro hz
      rcases List.mem_cons.1 ((h z).1 (List.mem_cons_of_mem _ hz)) with e | hz'
      · have := ha.1 z hz; omega
      · exact hz'
    · intro hz
      rcases List.mem_cons.1 ((h z).2 (List.mem_cons_of_mem _ hz)) with e | hz'
      · have := hb.1 z hz; omega
      · exact hz'
/-- An array in order, of which neighbours that are equal go: ascending, each once. -/
theorem compactUpTo_up (d : Array Int) (hs : ∀ i j, i < j → j < d.size → d[i]! ≤ d[j]!) : ∀ m, m ≤ d.size → (Go.Lib.compactUpTo d m).Pairwise (· < ·) ∧ (∀ x, x ∈ Go.Lib.compactUpTo d m ↔ ∃ j, j < m ∧ d[j]! = x) := by
  intro m
  induction m with
  | zero => intro _; simp [Go.Lib.compactUpTo]
  | succ m ih =>
    intro hm
    obtain ⟨h1, h2⟩ := ih (by omega)
    rw [Go.Lib.compactUpTo_succ]
    by_cases c : Go.Lib.keeps d m = true
    · rw [if_pos c]
      have hk : m = 0 ∨ d[m]! ≠ d[m - 1]! := by simpa [Go.Lib.keeps] using c
      refine ⟨?_, fun x => ?_⟩
      · rw [List.pairwise_append]
        refine ⟨h1, by simp, fun x hx y hy => ?_⟩
        obtain rfl : y = d[m]! := by simpa using hy
        obtain ⟨j, hj, rfl⟩ := (h2 x).1 hx
        rcases hk with hk | hk
        · omega
        · have a1 : d[m - 1]! ≤ d[m]! := hs (m - 1) m (by omega) (by omega)
          have a2 : d[j]! ≤ d[m - 1]! := by
            by_cases e : j = m - 1
            · rw [e]; exact Int.le_refl _
            · exact hs j (m - 1) (by omega) (by omega)
          omega
      · rw [List.mem_append, h2]
        constructor
        · rintro (⟨j, hj, e⟩ | h)
          · exact ⟨j, by omega, e⟩
          · exact ⟨m, by omega, (List.mem_singleton.1 h).symm⟩
        · rintro ⟨j, hj, e⟩
          by_cases c2 : j = m
          · subst c2; exact .inr (by simp [e])
          · exact .inl ⟨j, by omega, e⟩
    · rw [if_neg c, List.append_nil]
      refine ⟨h1, fun x => ?_⟩
      have hk : ¬ (m = 0 ∨ d[m]! ≠ d[m - 1]!) := by simpa [Go.Lib.keeps] using c
      have hm0 : m ≠ 0 := fun e => hk (.inl e)
      have he : d[m]! = d[m - 1]! := by
        by_cases e : d[m]! = d[m - 1]!
        · exact e
        · exact absurd (.inr e) hk
      rw [h2]
      constructor
      · rintro ⟨j, hj, e⟩; exact ⟨j, by omega, e⟩
      · rintro ⟨j, hj, e⟩
        by_cases c2 : j = m
        · subst c2; exact ⟨j - 1, by omega, by rw [← he]; exact e⟩
        · exact ⟨j, by omega, e⟩
/-- Sorted, then made sparse: what the two library calls come to. -/
def sortU (l : List Int) : List Int := Go.Lib.compact (l.mergeSort fun x y => decide (x ≤ y))
theorem sortU_up (l : List Int) : (sortU l).Pairwise (· < ·) ∧ ∀ x, x ∈ sortU l ↔ x ∈ l := by
  have hp := List.mergeSort_perm l (fun x y : Int => decide (x ≤ y))
  have ho : (l.mergeSort fun x y : Int => decide (x ≤ y)).Pairwise (fun x y => decide (x ≤ y) = true) := List.pairwise_mergeSort (fun a b c h1 h2 => by simp at *; omega) (fun a b => by simp; omega) l
  unfold sortU
  generalize hs : (l.mergeSort fun x y : Int => decide (x ≤ y)) = s at hp ho
  have hg : ∀ j, (h : j < s.length) → (s.toArray)[j]! = s[j] := fun j h => by simp [h]
  have h := compactUpTo_up s.toArray (fun i j hij hj => by
    have hj' : j < s.length := by simpa using hj
    rw [hg i (by omega), hg j hj']
    have := (List.pairwise_iff_getElem.1 ho) i j (by omega) hj' hij
    simpa using this) s.length (by simp)
  refine ⟨h.1, fun x => ?_⟩
  unfold Go.Lib.compact
  rw [h.2]
  rw [← hp.mem_iff]
  constructor
  · rintro ⟨j, hj, e⟩
    rw [hg j hj] at e
    exact e ▸ List.getElem_mem hj
  · intro hx
    obtain ⟨j, hj, e⟩ := List.mem_iff_getElem.1 hx
    exact ⟨j, hj, by rw [hg j hj]; exact e⟩
def isN (v : Int) : Bool := decide (-40 ≤ v ∧ v ≤ -1)
/-- The numbers of the nulls among values, as they come. -/
def nullsIn (l : List Int) : List Int := (l.filter isN).map (fun v => -1 - v)
/-- .. each once, ascending. -/
def nullsS (l : List Int) : List Int := sortU (nullsIn l)
theorem mem_nullsIn (l : List Int) (k : Int) : k ∈ nullsIn l ↔ (0 ≤ k ∧ k ≤ 39) ∧ (-1 - k) ∈ l := by
  unfold nullsIn isN
  rw [List.mem_map]
  constructor
  · rintro ⟨v, hv, rfl⟩
    rw [List.mem_filter, decide_eq_true_eq] at hv
    exact ⟨by omega, by rw [show -1 - (-1 - v) = v by omega]; exact hv.1⟩
  · rintro ⟨h1, h2⟩
    exact ⟨-1 - k, List.mem_filter.2 ⟨h2, by rw [decide_eq_true_eq]; omega⟩, by omega⟩
/-- An ascending list with just these elements is it. -/
theorem nullsS_unique (l out : List Int) (hu : out.Pairwise (· < ·)) (hm : ∀ k, k ∈ out ↔ k ∈ nullsIn l) : out = nullsS l := by
  obtain ⟨h1, h2⟩ := sortU_up (nullsIn l)
  exact up_ext _ _ hu h1 (fun k => by rw [hm, ← h2]; rfl)
theorem up_len : ∀ (l : List Int) (a : Int) (b : Nat), l.Pairwise (· < ·) → (∀ x ∈ l, a ≤ x ∧ x < a + b) → l.length ≤ b
  | [], _, _, _, _ => Nat.zero_le _
  | x :: l, a, b, h, hb => by
    rw [List.pairwise_cons] at h
    have hx := hb x (by simp)
    have := up_len l (x + 1) ((a + b - (x + 1)).toNat) h.2 (fun y hy => by
      have h1 := h.1 y hy
      have h2 := hb y (List.mem_cons_of_mem _ hy)
      omega)
    simp only [List.length_cons]
    omega
theorem nullsS_props (l : List Int) : (nullsS l).Pairwise (· < ·) ∧ (nullsS l).length ≤ 40 ∧ ∀ k ∈ nullsS l, 0 ≤ k ∧ k ≤ 39 := by
  obtain ⟨h1, h2⟩ := sortU_up (nullsIn l)
  have h3 : ∀ k ∈ nullsS l, 0 ≤ k ∧ k ≤ 39 := fun k hk => ((mem_nullsIn l k).1 ((h2 k).1 hk)).1
  exact ⟨h1, up_len _ 0 40 h1 (fun x hx => by have := h3 x hx; omega), h3⟩

theorem insU_at : ∀ (l : List Int) (x : Int) (i : Nat), (∀ j, (h : j < l.length) → j < i → l[j] < x) → (hi : i < l.length) → x < l[i] → insU x l = l.take i ++ x :: l.drop i
  | y :: l, x, 0, _, _, h => by
    have h' : x < y := h
    unfold insU
    rw [if_neg (by omega), if_neg (by omega)]
    rfl
  | y :: l, x, i + 1, hj, hi, h => by
    have h0 : y < x := hj 0 (by simp) (by omega)
    unfold insU
    rw [if_pos h0, insU_at l x i (fun j h1 h2 => hj (j + 1) (by simp; omega) (by omega)) (by simpa using hi) h]
    rfl
theorem insU_same : ∀ (l : List Int) (x : Int) (i : Nat), (∀ j, (h : j < l.length) → j < i → l[j] < x) → (hi : i < l.length) → l[i] = x → insU x l = l
  | y :: l, x, 0, _, _, h => by
    have h' : y = x := h
    unfold insU
    rw [if_neg (by omega), if_pos h']
  | y :: l, x, i + 1, hj, hi, h => by
    have h0 : y < x := hj 0 (by simp) (by omega)
    unfold insU
    rw [if_pos h0, insU_same l x i (fun j h1 h2 => hj (j + 1) (by simp; omega) (by omega)) (by simpa using hi) h]
theorem insU_end : ∀ (l : List Int) (x : Int), (∀ j, (h : j < l.length) → l[j] < x) → insU x l = l ++ [x]
  | [], x, _ => rfl
  | y :: l, x, hj => by
    have h0 : y < x := hj 0 (by simp)
    unfold insU
    rw [if_pos h0, insU_end l x (fun j h => hj (j + 1) (by simp; omega))]
    rfl
theorem l4Put_ev (l : List Int) (x : Int) (hl : l.length ≤ 1048576) : Ev (fun k => spec_l4Put.f k l x) (insU x l) := by
  have loop : ∀ (d i : Nat), i + d = l.length → (∀ j, (h : j < l.length) → j < i → l[j] < x) → Ev (fun k => spec_l4Put.l0 k l x i) (insU x l) := by
    intro d
    induction d with
    | zero =>
      intro i hi hj
      refine Ev.step (f := fun _ => some (insU x l)) (fun k => ?_) (Ev.now _)
      rw [spec_l4Put.l0, if_neg (by omega), insU_end l x (fun j h => hj j h (by omega))]
      obtain rfl : i = l.length := by omega
      simp only [Option.bind_some, Int.toNat_natCast, List.drop_length, List.take_length, List.nil_append, List.append_nil]
      rw [if_pos (by omega), if_pos (by omega), if_pos (by simp), if_pos (by simp; omega), if_pos (by simp; omega)]
    | succ d ih =>
      intro i hi hj
      have h1 : i < l.length := by omega
      by_cases c : l[i] < x
      · refine Ev.step (fun k => by rw [spec_l4Put.l0, if_pos (by omega), if_pos (by omega), rd_get l i h1, if_pos c, w64_succ (by omega)]) (ih (i + 1) (by omega) (fun j h h2 => ?_))
        by_cases e : j = i
        · subst e; exact c
        · exact hj j h (by omega)
      · by_cases c2 : l[i] = x
        · refine Ev.step (f := fun _ => some (insU x l)) (fun k => ?_) (Ev.now _)
          rw [spec_l4Put.l0, if_pos (by omega), if_pos (by omega), rd_get l i h1, if_neg c, if_pos c2, insU_same l x i hj h1 c2]
        · refine Ev.step (f := fun _ => some (insU x l)) (fun k => ?_) (Ev.now _)
          rw [spec_l4Put.l0, if_pos (by omega), if_pos (by omega), rd_get l i h1, if_neg c, if_neg c2, insU_at l x i hj h1 (by omega)]
          simp only [Option.bind_some, Int.toNat_natCast, List.nil_append]
          rw [if_pos (by omega), if_pos (by simp; omega), if_pos (by simp; omega), if_pos (by simp; omega)]
          simp
  refine Ev.congr (fun k => by rw [spec_l4Put.f]; rfl) (loop l.length 0 (by omega) (fun j h h2 => by omega))

theorem specNulls_ev (r : Int) (l : List Int) (hl : l.length ≤ 1048576) (gl : ∀ x ∈ l, GI x) : Ev (fun k => spec_NullsOfFact.f k r l) (nullsS l) := by
  have loop : ∀ (d i : Nat) (out : List Int), i + d = l.length → out.Pairwise (· < ·) → (∀ k, k ∈ out ↔ k ∈ nullsIn (l.take i)) → Ev (fun k => spec_NullsOfFact.l0 k out i r l) (nullsS l) := by
    intro d
    induction d with
    | zero =>
      intro i out hi hu hm
      refine Ev.step (f := fun _ => some (nullsS l)) (fun k => ?_) (Ev.now _)
      rw [List.take_of_length_le (by omega)] at hm
      rw [spec_NullsOfFact.l0, if_neg (by omega), nullsS_unique l out hu hm]
    | succ d ih =>
      intro i out hi hu hm
      have h1 : i < l.length := by omega
      have e := specNullNumber_f l[i] (gl _ (List.getElem_mem h1))
      have hlen : out.length ≤ 40 := up_len out 0 40 hu (fun x hx => by have := ((mem_nullsIn _ x).1 ((hm x).1 hx)).1; omega)
      have hm2 : ∀ k, k ∈ nullsIn (l.take (i + 1)) ↔ (k ∈ nullsIn (l.take i) ∨ ((0 ≤ k ∧ k ≤ 39) ∧ -1 - k = l[i])) := by
        intro k
        rw [mem_nullsIn, mem_nullsIn, List.take_succ_eq_append_getElem h1, List.mem_append, List.mem_singleton]
        constructor
        · rintro ⟨a, b | b⟩
          · exact .inl ⟨a, b⟩
          · exact .inr ⟨a, b⟩
        · rintro (⟨a, b⟩ | ⟨a, b⟩)
          · exact ⟨a, .inl b⟩
          · exact ⟨a, .inr b⟩
      by_cases c : -40 ≤ l[i] ∧ l[i] ≤ -1
      · rw [if_pos c] at e
        refine Ev.step (fun k => by rw [spec_NullsOfFact.l0, if_pos (by omega), if_pos (by omega), rd_get l i h1, e, Option.bind_some, if_pos rfl, w64_succ (by omega)]) (Ev.bind (l4Put_ev out (-1 - l[i]) (by omega)) (ih (i + 1) _ (by omega) (insU_up _ _ hu) (fun k => ?_)))
        rw [mem_insU, hm, hm2]
        constructor
        · rintro (h | h)
          · exact .inr ⟨by omega, by omega⟩
          · exact .inl h
        · rintro (h | h)
          · exact .inr h
          · exact .inl (by omega)
      · rw [if_neg c] at e
        refine Ev.step (fun k => by rw [spec_NullsOfFact.l0, if_pos (by omega), if_pos (by omega), rd_get l i h1, e, Option.bind_some, if_neg (by simp), w64_succ (by omega)]) (ih (i + 1) _ (by omega) hu (fun k => ?_))
        rw [hm, hm2]
        constructor
        · exact .inl
        · rintro (h | h)
          · exact h
          · omega
  exact Ev.congr (fun k => by rw [spec_NullsOfFact.f]; rfl) (loop l.length 0 [] (by omega) (by simp) (by simp [nullsIn]))
theorem implNullsOf_ev (l : List Int) (hl : l.length ≤ 1099511627775) (gl : ∀ x ∈ l, GI x) : Ev (fun k => impl_nullsOf.f k l) (nullsS l) := by
  have loop : ∀ (d i : Nat), i + d = l.length → Ev (fun k => impl_nullsOf.l0 k (nullsIn (l.take i)) l l.length i) (nullsS l) := by
    intro d
    induction d with
    | zero =>
      intro i hi
      refine Ev.step (f := fun _ => some (nullsS l)) (fun k => ?_) (Ev.now _)
      have hb : (nullsIn l).length ≤ l.length := by unfold nullsIn; rw [List.length_map]; exact List.length_filter_le _ _
      rw [impl_nullsOf.l0, if_neg (by omega), List.take_of_length_le (by omega), slices_Sort_int_int.f, if_pos (by omega), Option.bind_some, slices_Compact_int_int.f, if_pos (by rw [List.length_mergeSort]; omega)]
      rfl
    | succ d ih =>
      intro i hi
      have h1 : i < l.length := by omega
      have e := implNullNumber_f l[i] (gl _ (List.getElem_mem h1))
      have hb : (nullsIn (l.take i)).length ≤ i := by
        unfold nullsIn
        rw [List.length_map]
        exact Nat.le_trans (List.length_filter_le _ _) (by simp; omega)
      have ihx := ih (i + 1) (by omega)
      by_cases c : -40 ≤ l[i] ∧ l[i] ≤ -1
      · rw [if_pos c] at e
        have en : nullsIn (l.take (i + 1)) = nullsIn (l.take i) ++ [-1 - l[i]] := by
          unfold nullsIn
          rw [List.take_succ_eq_append_getElem h1, List.filter_append, List.map_append]
          simp [isN, c]
        rw [en] at ihx
        exact Ev.step (fun k => by rw [impl_nullsOf.l0, if_pos (by omega), if_pos (by omega), if_pos (by omega), rd_get l i h1, e, Option.bind_some, if_pos rfl, if_pos (by omega), w64_succ (by omega)]) ihx
      · rw [if_neg c] at e
        have en : nullsIn (l.take (i + 1)) = nullsIn (l.take i) := by
          unfold nullsIn
          rw [List.take_succ_eq_append_getElem h1, List.filter_append, List.map_append]
          simp [isN, c]
        rw [en] at ihx
        exact Ev.step (fun k => by rw [impl_nullsOf.l0, if_pos (by omega), if_pos (by omega), if_pos (by omega), rd_get l i h1, e, Option.bind_some, if_neg (by simp), w64_succ (by omega)]) ihx
  exact Ev.congr (fun k => by rw [impl_nullsOf.f]; rfl) (loop l.length 0 (by omega))

theorem implNullsFact_ev (r : Int) (l : List Int) (hl : l.length ≤ 1048576) (gl : ∀ x ∈ l, GI x) : Ev (fun k => impl_NullsOfFact.f k r l) (nullsS l) :=
  Ev.congr (fun k => by rw [impl_NullsOfFact.f]) (Ev.bind (implNullsOf_ev l (by omega) gl) (Ev.now _))
theorem FnExactNullsOfFact (a0_0 : Int) (l0_1 : List Int) (g0_0 : GI a0_0) (g0_1 : (GL GI) l0_1) : ∃ k, laws_FnExactNullsOfFact.f k a0_0 l0_1 = some true := by
  obtain ⟨r, e, h⟩ := szFact_f a0_0 l0_1 g0_1.1 1048576 (by omega) (by omega)
  refine Ev.rounds (r := true) (Ev.congr (fun k => by rw [laws_FnExactNullsOfFact.f, e, Option.bind_some]) ?_)
  rcases h with h | h
  · simp only [h, if_true]; exact Ev.now _
  · simp only [show ¬ r < 0 by omega, if_false]
    have t := toFact_ev a0_0 l0_1 (by omega)
    have im := implNullsFact_ev a0_0 l0_1 (by omega) g0_1.2
    have hlen := (nullsS_props l0_1).2.1
    have q := eqIntS_ev (nullsS l0_1) (by omega)
    have hm := markIntS_ev (nullsS l0_1) 1 (by omega) (by omega)
    have hh := heldIntS_ev 1 (nullsS l0_1).length (by omega) (by omega)
    have hlast : Ev (fun k => laws_FnExactNullsOfFact.j0 k (nullsS l0_1) (nullsS l0_1) (!true) a0_0 l0_1) true := by
      refine Ev.step (f := fun k => _) (fun k => by rw [laws_FnExactNullsOfFact.j0, if_neg (by simp)]) ?_
      refine Ev.bind hm (Ev.bind hh ?_)
      simp only [show ¬ (1 + ((nullsS l0_1).length : Int) < 0) by omega, if_false, if_true]
      refine Ev.bind t (Ev.bind im (Ev.bind q ?_))
      simp only [if_true]
      refine Ev.bind hh ?_
      simp only [show ¬ (1 + ((nullsS l0_1).length : Int) < 0) by omega, if_false]
      exact Ev.now _
    refine Ev.bind t (Ev.bind (specNulls_ev a0_0 l0_1 (by omega) g0_1.2) (Ev.bind t (Ev.bind im (Ev.bind q ?_))))
    simp only [if_true]
    refine Ev.bind t (Ev.bind (eqFact_ev a0_0 l0_1 (by omega)) ?_)
    simp only [if_true]
    refine Ev.bind (markFact_ev a0_0 l0_1 1 (by omega) (by omega)) ?_
    simp only [show ¬ (1 + (l0_1.length : Int) < 0) by omega, if_false]
    exact Ev.bind q hlast

end Go.Proofs.Ytjphbdnfbkfgiaa.Pure
