/- DecodeVarint of the program and of the reference agree, for every string (longer than 2^20 bytes the law itself answers true). -/
import Derived.Test.YtbmkfaejleleiaaPFnExactDecodeVarintx1
import Derived.Test.YtbmkfaejleleiaaPlain
namespace Go.Proofs.Ytbmkfaejleleiaa.Pure
open Go.RowKit Go.Proofs.Ytbmkfaejleleiaa.PFnExactDecodeVarint Go.Proofs.YtbmkfaejleleiaaW.PrintWords Go.Proofs.YtbmkfaejleleiaaW.PrintLast Go.Proofs.YtbmkfaejleleiaaW.PrintMore Go.Proofs.Ytbmkfaejleleiaa.Plain
set_option linter.unusedVariables false
set_option linter.unusedSimpArgs false

theorem l1In_f (a b c : Int) : spec_l1In.f a b c = some (decide (b ≤ a ∧ a ≤ c)) := by
  unfold spec_l1In.f
  by_cases h : b ≤ a <;> simp [h]

/-- The varint of n, with fuel for its groups. -/
def vi : Nat → Int → List Int
  | 0, n => [n % 256]
  | f + 1, n => if n < 128 then [n % 256] else (128 + n % 128) :: vi f (n / 128)
theorem or128 (y : Int) (h0 : 0 ≤ y) (h1 : y < 128) : Go.bits .or .u8 y 128 = 128 + y := by
  obtain ⟨a, rfl⟩ := Int.eq_ofNat_of_zero_le h0
  have e := (bits_nat .u8 8 (by decide) wraps_u8 a 128 (by omega) (by decide)).2
  have e' := (bits_nat .u8 8 (by decide) wraps_u8 128 a (by decide) (by omega)).2
  have k := bits_join .u8 8 (by decide) wraps_u8 7 128 a (by decide) (by decide) (by decide) h0 (by omega) (by omega)
  rw [Nat.or_comm] at e
  exact (e.trans e'.symm).trans k
theorem and127 (x : Int) (h0 : 0 ≤ x) (h1 : x ≤ 562949953421311) : Go.bits .and .i64 x 127 = x % 128 :=
  bits_mask .i64 63 (by decide) (fun n h0 h1 => by rw [IntKind.wrap_i64]; omega) 7 (by decide) x h0 (by omega)
theorem encVarintS_ev (f : Nat) : ∀ (n : Int) (acc : List Int), 0 ≤ n → n ≤ 562949953421311 → n < 128 ^ (f + 1) → acc.length + f < 100 →
    Ev (fun k => spec_EncodeVarint.l0 k n acc) (strOfNums (acc ++ vi f n)) := by
  induction f with
  | zero =>
    intro n acc h0 h1 h2 ha
    refine Ev.step (f := fun _ => some (strOfNums (acc ++ vi 0 n))) (fun k => ?_) (Ev.now _)
    rw [spec_EncodeVarint.l0, if_neg (by omega), if_pos (by omega)]; rfl
  | succ f ih =>
    intro n acc h0 h1 h2 ha
    by_cases c : n < 128
    · refine Ev.step (f := fun _ => some (strOfNums (acc ++ vi (f + 1) n))) (fun k => ?_) (Ev.now _)
      rw [spec_EncodeVarint.l0, if_neg (by omega), if_pos (by omega), vi, if_pos c]
    · have h3 : n / 128 < 128 ^ (f + 1) := by rw [Int.pow_succ] at h2; omega
      have e := ih (n / 128) (acc ++ [128 + n % 128]) (by omega) (by omega) h3 (by simp; omega)
      refine Ev.step (f := fun k => spec_EncodeVarint.l0 k (n / 128) (acc ++ [128 + n % 128])) (fun k => ?_) ?_
      · rw [spec_EncodeVarint.l0, if_pos (by omega), if_pos (by omega), Int.tdiv_eq_ediv_of_nonneg h0, Int.tmod_eq_emod_of_nonneg h0, w64 (by omega) (by omega : n / 128 ≤ _), w64 (by omega) (by omega : 128 + n % 128 ≤ _), Int.emod_eq_of_lt (by omega) (by omega : 128 + n % 128 < 256)]
      · rw [vi, if_neg c]; simpa [List.append_assoc] using e
/-- What both EncodeVarint answer. -/
def encVarint (n : Int) : ByteArray := if 0 ≤ n ∧ n ≤ 562949953421311 then strOfNums (vi 6 n) else (⟨#[]⟩ : ByteArray)
theorem encVarintS (n : Int) : Ev (fun k => spec_EncodeVarint.f k n) (encVarint n) := by
  unfold encVarint
  refine Ev.congr (f := fun k => if 0 ≤ n ∧ n ≤ 562949953421311 then spec_EncodeVarint.l0 k n [] else some (⟨#[]⟩ : ByteArray)) (fun k => ?_) ?_
  · rw [spec_EncodeVarint.f, l1In_f]; simp only [Option.bind_some, decide_eq_true_eq]
  by_cases h : 0 ≤ n ∧ n ≤ 562949953421311
  · simp only [h, and_self, if_true]
    exact encVarintS_ev 6 n [] h.1 h.2 (by have : (128 : Int) ^ 7 = 562949953421312 := by decide
                                           omega) (by simp)
  · simp only [h, if_false]; exact Ev.now _

/-- The number whose groups l holds, least first. -/
def val : List Int → Int
  | [] => 0
  | b :: l => b % 128 + 128 * val l
theorem val_cons (b : Int) (l : List Int) : val (b :: l) = b % 128 + 128 * val l := rfl
theorem val_nonneg (l : List Int) : 0 ≤ val l := by
  induction l with
  | nil => simp [val]
  | cons b l ih => simp only [val]; omega
theorem val_lt (l : List Int) : val l < 128 ^ l.length := by
  induction l with
  | nil => simp [val]
  | cons b l ih => simp only [val, List.length_cons, Int.pow_succ]; omega
theorem val_snoc (l : List Int) (b : Int) : val (l ++ [b]) = val l + 128 ^ l.length * (b % 128) := by
  induction l with
  | nil => simp [val]
  | cons a l ih => simp only [List.cons_append, val, ih, List.length_cons, Int.pow_succ]; rw [Int.mul_add, Int.mul_comm (128 ^ l.length) 128, Int.mul_assoc]; omega
/-- All groups but the last go on; the last ends, and it is not an idle zero. -/
def canon : List Int → Prop
  | [] => False
  | [b] => 0 ≤ b ∧ b < 128
  | b :: l => 128 ≤ b ∧ b < 256 ∧ canon l ∧ val l ≠ 0
theorem vi_canon (f : Nat) : ∀ n : Int, 0 ≤ n → n < 128 ^ (f + 1) → canon (vi f n) ∧ val (vi f n) = n := by
  induction f with
  | zero =>
    intro n h0 h1
    simp only [vi, canon, val]; omega
  | succ f ih =>
    intro n h0 h1
    rw [vi]
    by_cases c : n < 128
    · rw [if_pos c]; simp only [canon, val]; omega
    · rw [if_neg c]
      obtain ⟨c1, c2⟩ := ih (n / 128) (by omega) (by rw [Int.pow_succ] at h1; omega)
      have c3 : canon ((128 + n % 128) :: vi f (n / 128)) := by
        cases e : vi f (n / 128) with
        | nil => rw [e] at c1; exact absurd c1 (by simp [canon])
        | cons a l => rw [e] at c1 c2; exact ⟨by omega, by omega, c1, by rw [c2]; omega⟩
      refine ⟨c3, ?_⟩
      simp only [val, c2]; omega
theorem canon_inj : ∀ (l m : List Int), canon l → canon m → val l = val m → l = m
  | [], _, h, _, _ => absurd h (by simp [canon])
  | _, [], _, h, _ => absurd h (by simp [canon])
  | [a], [b], h, k, e => by simp only [canon, val] at h k e; rw [show a = b by omega]
  | [a], b :: c :: m, h, k, e => by
    exfalso
    have := val_nonneg (c :: m)
    obtain ⟨k1, k2, k3, k4⟩ := k
    simp only [canon] at h
    rw [val_cons b] at e
    simp only [val] at e h k4
    have := val_nonneg m
    omega
  | a :: c :: l, [b], h, k, e => by
    exfalso
    have := val_nonneg (c :: l)
    obtain ⟨k1, k2, k3, k4⟩ := h
    simp only [canon] at k
    rw [val_cons a] at e
    simp only [val] at e k k4
    have := val_nonneg l
    omega
  | a :: c :: l, b :: d :: m, h, k, e => by
    obtain ⟨h1, h2, h3, h4⟩ := h
    obtain ⟨k1, k2, k3, k4⟩ := k
    rw [val_cons a, val_cons b] at e
    have e1 : val (c :: l) = val (d :: m) := by omega
    have e2 : a = b := by omega
    rw [e2, canon_inj (c :: l) (d :: m) h3 k3 e1]
/-- EncodeVarint tells a list of groups again exactly where it is canonical. -/
theorem vi_val (l : List Int) (hl : 1 ≤ l.length) (h7 : l.length ≤ 7) : vi 6 (val l) = l ↔ canon l := by
  have h1 : val l < 128 ^ (6 + 1) := Int.lt_of_lt_of_le (val_lt l) (by
    have h := Nat.pow_le_pow_right (n := 128) (by omega) h7
    exact_mod_cast h)
  obtain ⟨c, e⟩ := vi_canon 6 (val l) (val_nonneg l) h1
  exact ⟨fun h => h ▸ c, fun h => canon_inj _ _ c h e⟩
/-- Groups that go on, and one more: canonical just where that one ends and is not an idle zero. -/
theorem canon_snoc (l : List Int) (b : Int) (hl : ∀ x ∈ l, 128 ≤ x ∧ x < 256) (hb : 0 ≤ b ∧ b < 256) : canon (l ++ [b]) ↔ b < 128 ∧ (l = [] ∨ b ≠ 0) := by
  induction l with
  | nil => simp [canon, hb.1]
  | cons a l ih =>
    have ha := hl a (by simp)
    have ih := ih (fun x hx => hl x (by simp [hx]))
    cases l with
    | nil =>
      simp only [List.nil_append, List.cons_append, canon, val]
      simp only [List.nil_append, canon, true_or, and_true] at ih
      constructor
      · rintro ⟨_, _, ⟨_, h⟩, k⟩; exact ⟨h, .inr (by omega)⟩
      · rintro ⟨h, k | k⟩
        · cases k
        · exact ⟨ha.1, ha.2, ⟨hb.1, h⟩, by omega⟩
    | cons c l =>
      simp only [List.cons_append, canon] at ih ⊢
      constructor
      · rintro ⟨_, _, h, _⟩
        obtain ⟨i1, i2⟩ := ih.1 h
        rcases i2 with i2 | i2
        · cases i2
        · exact ⟨i1, .inr i2⟩
      · rintro ⟨h, k⟩
        have k' : b ≠ 0 := by rcases k with k | k
                              · cases k
                              · exact k
        refine ⟨ha.1, ha.2, ih.2 ⟨h, .inr k'⟩, ?_⟩
        have hc := val_snoc (c :: l) b
        simp only [List.cons_append] at hc
        rw [hc]
        have hp : (0 : Int) < 128 ^ (c :: l).length := Int.pow_pos (by omega)
        have hm : 0 < 128 ^ (c :: l).length * (b % 128) := Int.mul_pos hp (by omega)
        have := val_nonneg (c :: l)
        omega
/-- A group that ends, and groups behind it: never canonical. -/
theorem canon_early (b : Int) (hb : b < 128) : ∀ (l m : List Int), m ≠ [] → ¬ canon (l ++ b :: m)
  | [], m, hm => by
    cases m with
    | nil => exact absurd rfl hm
    | cons c m => rintro ⟨h, _⟩; omega
  | [a], m, hm => by
    rintro ⟨_, _, h, _⟩
    exact canon_early b hb [] m hm h
  | a :: c :: l, m, hm => by
    rintro ⟨_, _, h, _⟩
    exact canon_early b hb (c :: l) m hm h
/-- What both DecodeVarint answer: the place where the search stands, with fuel. -/
def decVar (s : ByteArray) (i : Nat) : Nat → Int × Int
  | 0 => (0, 0)
  | d + 1 => if i < s.size then (if bt s i < 128 then (if i > 0 ∧ bt s i = 0 then (0, 0) else (val ((bytesOf s).take (i + 1)), (i + 1 : Int))) else decVar s (i + 1) d) else (0, 0)
theorem take_go {s : ByteArray} {i : Nat} (h : ∀ j, j < i → 128 ≤ bt s j) (hi : i ≤ s.size) : ∀ x ∈ (bytesOf s).take i, 128 ≤ x ∧ x < 256 := by
  induction i with
  | zero => simp
  | succ i ih =>
    intro x hx
    rw [take_bytes s i (by omega)] at hx
    rcases List.mem_append.1 hx with hx | hx
    · exact ih (fun j hj => h j (by omega)) (by omega) x hx
    · have := bt_range s i
      have := h i (by omega)
      simp at hx; omega
theorem take_length {s : ByteArray} {i : Nat} (hi : i ≤ s.size) : ((bytesOf s).take i).length = i := by
  rw [List.length_take, bytesOf_length]; omega
theorem extract_list (s : ByteArray) (i : Nat) : (s.extract 0 i).toList = (s.data.toList.take i) := by
  rw [toList_data]; simp
theorem strOf_take (s : ByteArray) (i : Nat) (xs : List Int) (hx : ∀ x ∈ xs, 0 ≤ x ∧ x ≤ 255) : (strOfNums xs).toList = (s.extract 0 i).toList ↔ xs = (bytesOf s).take i := by
  have e : bytesOf (s.extract 0 i) = (bytesOf s).take i := by simp [bytesOf, List.map_take]
  constructor
  · intro h
    have h' : strOfNums xs = s.extract 0 i := by
      rw [toList_data, toList_data] at h
      exact ByteArray.ext (Array.toList_inj.1 h)
    rw [← e, ← h', bytes_str hx]
  · intro h
    rw [← str_bytes (s.extract 0 i), e, h]
theorem vi_bytes (f : Nat) : ∀ n : Int, ∀ x ∈ vi f n, 0 ≤ x ∧ x ≤ 255 := by
  induction f with
  | zero => intro n x hx; simp [vi] at hx; omega
  | succ f ih =>
    intro n x hx
    rw [vi] at hx
    split at hx
    · simp at hx; omega
    · rcases List.mem_cons.1 hx with rfl | hx
      · omega
      · exact ih _ x hx
/-- The reference's inner loop: from group i down it reckons the number. -/
theorem decVarS_in (s : ByteArray) (m : Nat) (hm : m ≤ 7) (hs : m ≤ s.size) (r : Int × Int) (j : Nat) : ∀ (n : Int), j ≤ m → n = val (((bytesOf s).take m).drop j) →
    Ev (fun k => spec_DecodeVarint.l1 k s m (val ((bytesOf s).take m)) (-1)) r → Ev (fun k => spec_DecodeVarint.l1 k s m n ((j : Int) - 1)) r := by
  induction j with
  | zero => intro n _ hn h; rw [hn, List.drop_zero]; exact h
  | succ j ih =>
    intro n hj hn h
    have hb := bt_range s j
    have hlen : ((bytesOf s).take m).length = m := take_length hs
    have hd : ((bytesOf s).take m).drop j = bt s j :: ((bytesOf s).take m).drop (j + 1) := by
      rw [List.drop_eq_getElem_cons (by omega)]
      congr 1
      rw [List.getElem_take, ← rd_bytesOf]
      unfold rd
      simp [List.getD_eq_getElem?_getD, bytesOf_length, show j < s.size by omega]
    have hv : val (((bytesOf s).take m).drop j) = bt s j % 128 + 128 * n := by rw [hd, val, hn]
    have h7 : n < 128 ^ 6 := by
      rw [hn]
      refine Int.lt_of_lt_of_le (val_lt _) ?_
      have hq := Nat.pow_le_pow_right (n := 128) (by omega) (show (((bytesOf s).take m).drop (j + 1)).length ≤ 6 by simp [List.length_drop, hlen]; omega)
      exact_mod_cast hq
    have h0 : 0 ≤ n := by rw [hn]; exact val_nonneg _
    have hp : (128 : Int) ^ 6 = 4398046511104 := by decide
    have e := ih (bt s j % 128 + 128 * n) (by omega) hv.symm h
    refine Ev.step (f := fun k => spec_DecodeVarint.l1 k s m (bt s j % 128 + 128 * n) ((j : Int) - 1)) (fun k => ?_) e
    have hjj : (((j + 1 : Nat) : Int) - 1) = (j : Int) := by omega
    rw [hjj, spec_DecodeVarint.l1, if_pos (by omega), if_pos (by omega), if_pos (by omega), w64_bt, Int.tmod_eq_emod_of_nonneg hb.1, w64 (by omega) (by omega : n * 128 ≤ _), w64 (by omega) (by omega : n * 128 + bt s j % 128 ≤ _), w64 (by omega) (by omega : (j : Int) - 1 ≤ _)]
    congr 1
    omega
theorem encVarint_val (l : List Int) (h7 : l.length ≤ 7) : encVarint (val l) = strOfNums (vi 6 (val l)) := by
  have h1 : val l < 128 ^ 7 := Int.lt_of_lt_of_le (val_lt l) (by
    have h := Nat.pow_le_pow_right (n := 128) (by omega) h7
    exact_mod_cast h)
  have hp : (128 : Int) ^ 7 = 562949953421312 := by decide
  unfold encVarint
  rw [if_pos ⟨val_nonneg l, by omega⟩]
/-- One round of the reference: m groups are a varint, or the search goes on. -/
theorem decVarS_round (s : ByteArray) (m : Nat) (h1 : 1 ≤ m) (hm : m ≤ 7) (hs : m ≤ s.size) (r : Int × Int)
    (hy : canon ((bytesOf s).take m) → r = (val ((bytesOf s).take m), (m : Int))) (hn : ¬ canon ((bytesOf s).take m) → Ev (fun k => spec_DecodeVarint.l0 k s ((m + 1 : Nat) : Int)) r) :
    Ev (fun k => spec_DecodeVarint.l0 k s m) r := by
  have hlen : ((bytesOf s).take m).length = m := take_length hs
  refine Ev.step (f := fun k => spec_DecodeVarint.j1 k s m true) (fun k => ?_) ?_
  · rw [spec_DecodeVarint.l0, if_pos (by omega)]; simp [hs]
  refine Ev.step (f := fun k => spec_DecodeVarint.l1 k s m 0 ((m : Int) - 1)) (fun k => ?_) ?_
  · rw [spec_DecodeVarint.j1, if_pos rfl, w64 (by omega) (by omega)]
  refine decVarS_in s m hm hs r m 0 (Nat.le_refl _) (by rw [List.drop_of_length_le (by omega)]; rfl) ?_
  refine Ev.step (f := fun k => (spec_EncodeVarint.f k (val ((bytesOf s).take m))).bind fun t111 => (if t111.toList = (s.extract 0 m).toList then (some (val ((bytesOf s).take m), (m : Int))) else (spec_DecodeVarint.l0 k s ((m + 1 : Nat) : Int)))) (fun k => ?_) ?_
  · rw [spec_DecodeVarint.l1, if_neg (by omega)]
    congr 1
    funext t
    rw [if_pos (by omega), if_pos (by omega), Int.toNat_natCast, w64_succ (by omega)]
  refine Ev.bind (encVarintS _) ?_
  rw [encVarint_val _ (by omega)]
  have hiff := (strOf_take s m (vi 6 (val ((bytesOf s).take m))) (vi_bytes 6 _)).trans (vi_val _ (by omega) (by omega))
  by_cases c : canon ((bytesOf s).take m)
  · refine Ev.congr (f := fun _ => some r) (fun k => ?_) (Ev.now _)
    rw [if_pos (hiff.2 c), hy c]
  · refine Ev.congr (f := fun k => spec_DecodeVarint.l0 k s ((m + 1 : Nat) : Int)) (fun k => ?_) (hn c)
    rw [if_neg (fun h => c (hiff.1 h))]
/-- Behind a group that ends the reference finds nothing any more. -/
theorem decVarS_none (s : ByteArray) (i : Nat) (hi : i < s.size) (hb : bt s i < 128) (d : Nat) : ∀ m, i + 1 < m → m + d = 8 →
    Ev (fun k => spec_DecodeVarint.l0 k s m) (0, 0) := by
  have stop : ∀ m, 1 ≤ m → ¬ m ≤ s.size ∨ 8 ≤ m → Ev (fun k => spec_DecodeVarint.l0 k s (m : Nat)) (0, 0) := by
    intro m h1 h
    refine Ev.step (f := fun k => spec_DecodeVarint.j1 k s m false) (fun k => ?_) (Ev.step (f := fun _ => some (0, 0)) (fun k => ?_) (Ev.now _))
    · rw [spec_DecodeVarint.l0]
      by_cases c : (m : Int) ≤ 7
      · rw [if_pos c]
        have : decide ((m : Int) ≤ (s.size : Int)) = false := by simp; omega
        rw [this]
      · rw [if_neg c]
    · rw [spec_DecodeVarint.j1]; simp
  induction d with
  | zero => intro m h1 h2; exact stop m (by omega) (.inr (by omega))
  | succ d ih =>
    intro m h1 h2
    by_cases c : m ≤ s.size
    · refine decVarS_round s m (by omega) (by omega) c _ (fun h => ?_) (fun _ => ih (m + 1) (by omega) (by omega))
      exfalso
      have e : (bytesOf s).take m = (bytesOf s).take i ++ bt s i :: ((bytesOf s).take m).drop (i + 1) := by
        have e1 := (List.take_append_drop (i + 1) ((bytesOf s).take m)).symm
        rw [List.take_take, Nat.min_eq_left (by omega), take_bytes s i hi, List.append_assoc] at e1
        exact e1
      rw [e] at h
      refine canon_early _ hb _ _ ?_ h
      intro h0
      have := congrArg List.length h0
      simp [bytesOf_length] at this
      omega
    · exact stop m (by omega) (.inl c)
theorem decVarS_ev (s : ByteArray) (d : Nat) : ∀ i : Nat, i + d = 7 → (∀ j, j < i → 128 ≤ bt s j) → i ≤ s.size → Ev (fun k => spec_DecodeVarint.l0 k s ((i + 1 : Nat) : Int)) (decVar s i d) := by
  have stop : ∀ (m : Nat) (d : Nat), ¬ m ≤ s.size ∨ 8 ≤ m → Ev (fun k => spec_DecodeVarint.l0 k s (m : Nat)) (0, 0) := by
    intro m _ h
    refine Ev.step (f := fun k => spec_DecodeVarint.j1 k s m false) (fun k => ?_) (Ev.step (f := fun _ => some (0, 0)) (fun k => ?_) (Ev.now _))
    · rw [spec_DecodeVarint.l0]
      by_cases c : (m : Int) ≤ 7
      · rw [if_pos c]
        have : decide ((m : Int) ≤ (s.size : Int)) = false := by simp; omega
        rw [this]
      · rw [if_neg c]
    · rw [spec_DecodeVarint.j1]; simp
  induction d with
  | zero => intro i hi _ _; exact stop (i + 1) 0 (.inr (by omega))
  | succ d ih =>
    intro i hi hg hs
    rw [decVar]
    by_cases c : i < s.size
    · rw [if_pos c]
      have hb := bt_range s i
      have ht := take_bytes s i c
      have hc := canon_snoc ((bytesOf s).take i) (bt s i) (take_go hg hs) ⟨hb.1, by omega⟩
      have hnil : (bytesOf s).take i = [] ↔ i = 0 := by
        constructor
        · intro h
          have := congrArg List.length h
          rw [take_length hs] at this
          exact this
        · rintro rfl; rfl
      rw [← ht, hnil] at hc
      by_cases l : bt s i < 128
      · rw [if_pos l]
        by_cases z : i > 0 ∧ bt s i = 0
        · rw [if_pos z]
          refine decVarS_round s (i + 1) (by omega) (by omega) (by omega) _ (fun h => ?_) (fun _ => decVarS_none s i c l (8 - (i + 2)) (i + 2) (by omega) (by omega))
          have := (hc.1 h).2
          omega
        · rw [if_neg z]
          refine decVarS_round s (i + 1) (by omega) (by omega) (by omega) _ (fun _ => rfl) (fun h => ?_)
          exact absurd (hc.2 ⟨l, by omega⟩) h
      · rw [if_neg l]
        refine decVarS_round s (i + 1) (by omega) (by omega) (by omega) _ (fun h => absurd (hc.1 h).1 l) (fun _ => ?_)
        exact ih (i + 1) (by omega) (fun j hj => by
          by_cases e : j = i
          · rw [e]; omega
          · exact hg j (by omega)) (by omega)
    · rw [if_neg c]
      exact stop (i + 1) d (.inl (by omega))
theorem decVarintS (s : ByteArray) : Ev (fun k => spec_DecodeVarint.f k s) (decVar s 0 7) :=
  decVarS_ev s 7 0 rfl (fun j hj => by omega) (by omega)

theorem or_val (n y : Int) (i : Nat) (hi : i < 7) (h0 : 0 ≤ n) (h1 : n < 128 ^ i) (hy0 : 0 ≤ y) (hy1 : y < 128) : Go.bits .or .i64 n (y * 128 ^ i) = n + 128 ^ i * y ∧ n + 128 ^ i * y < 128 ^ (i + 1) ∧ y * 128 ^ i < 128 ^ (i + 1) := by
  have hp : (0 : Int) < 128 ^ i := Int.pow_pos (by omega)
  have hle : (128 : Int) ^ i ≤ 128 ^ 6 := by
    have h : i = 0 ∨ i = 1 ∨ i = 2 ∨ i = 3 ∨ i = 4 ∨ i = 5 ∨ i = 6 := by omega
    rcases h with rfl | rfl | rfl | rfl | rfl | rfl | rfl <;> decide
  have hp6 : (128 : Int) ^ 6 = 4398046511104 := by decide
  have hm : 128 ^ i * y ≤ 128 ^ i * 127 := Int.mul_le_mul_of_nonneg_left (by omega) (by omega)
  have hm0 : 0 ≤ 128 ^ i * y := Int.mul_nonneg (by omega) hy0
  have hs : (128 : Int) ^ (i + 1) = 128 ^ i * 128 := Int.pow_succ ..
  have hc : y * 128 ^ i = 128 ^ i * y := Int.mul_comm ..
  refine ⟨?_, by rw [hs]; omega, by rw [hc, hs]; omega⟩
  have hw : ∀ n : Int, 0 ≤ n → n < 2 ^ 63 → IntKind.i64.wrap n = n := fun n h0 h1 => by rw [IntKind.wrap_i64]; omega
  have e2 : (2 : Int) ^ (7 * i) = 128 ^ i := by rw [Int.pow_mul]; rfl
  have j := bits_join .i64 63 (by decide) hw (7 * i) (y * 128 ^ i) n (by rw [hc]; exact hm0) (by rw [e2]; exact Int.mul_emod_left ..) (by omega) h0 (by rw [e2]; exact h1) (by omega)
  obtain ⟨a, ha⟩ := Int.eq_ofNat_of_zero_le h0
  obtain ⟨b, hb⟩ := Int.eq_ofNat_of_zero_le (show 0 ≤ y * 128 ^ i by rw [hc]; exact hm0)
  have o1 := (bits_nat .i64 63 (by decide) hw a b (by omega) (by omega)).2
  have o2 := (bits_nat .i64 63 (by decide) hw b a (by omega) (by omega)).2
  rw [Nat.or_comm] at o1
  rw [ha, hb] at j ⊢
  rw [o1, ← o2, j, ← hb, hc]
  omega
theorem shl_val (y : Int) (i : Nat) (hi : i < 7) (hy0 : 0 ≤ y) (hy1 : y < 128) : shl .i64 y (wrap64 (7 * (i : Int))) = y * 128 ^ i := by
  have h := (or_val 0 y i hi (by omega) (Int.pow_pos (by omega)) hy0 hy1).2.2
  have hle : (128 : Int) ^ (i + 1) ≤ 128 ^ 7 := by
    have h : i = 0 ∨ i = 1 ∨ i = 2 ∨ i = 3 ∨ i = 4 ∨ i = 5 ∨ i = 6 := by omega
    rcases h with rfl | rfl | rfl | rfl | rfl | rfl | rfl <;> decide
  have hp7 : (128 : Int) ^ 7 = 562949953421312 := by decide
  have h0 : 0 ≤ y * 128 ^ i := Int.mul_nonneg hy0 (Int.pow_nonneg (by omega))
  rw [w64 (by omega) (by omega)]
  unfold shl
  have e : (7 * (i : Int)).toNat = 7 * i := by omega
  rw [Nat.min_eq_left (by simp [IntKind.bits]; omega), e, Int.pow_mul]
  have e2 : ((2 : Int) ^ 7) ^ i = 128 ^ i := rfl
  rw [e2, IntKind.wrap_i64]
  omega
theorem u8and127 (x : Int) (h0 : 0 ≤ x) (h1 : x ≤ 255) : Go.bits .and .u8 x 127 = x % 128 :=
  bits_mask .u8 8 (by decide) wraps_u8 7 (by decide) x h0 (by omega)
theorem decVarI_ev (s : ByteArray) (d : Nat) : ∀ i : Nat, i + d = 7 → i ≤ s.size → Ev (fun k => impl_DecodeVarint.l0 k s (val ((bytesOf s).take i)) (mn (s.size : Int) 7) i) (decVar s i d) := by
  induction d with
  | zero =>
    intro i hi _
    refine Ev.step (f := fun _ => some (0, 0)) (fun k => ?_) (Ev.now _)
    rw [impl_DecodeVarint.l0, if_neg (by unfold mn; omega)]
  | succ d ih =>
    intro i hi hs
    rw [decVar]
    by_cases c : i < s.size
    · rw [if_pos c]
      have hb := bt_range s i
      have ht := take_bytes s i c
      have hlen : ((bytesOf s).take i).length = i := take_length hs
      have hv0 := val_nonneg ((bytesOf s).take i)
      have hv1 : val ((bytesOf s).take i) < 128 ^ i := by have := val_lt ((bytesOf s).take i); rw [hlen] at this; exact this
      have hor := or_val (val ((bytesOf s).take i)) (bt s i % 128) i (by omega) hv0 hv1 (by omega) (by omega)
      have hle : (128 : Int) ^ (i + 1) ≤ 128 ^ 7 := by
        have h : i = 0 ∨ i = 1 ∨ i = 2 ∨ i = 3 ∨ i = 4 ∨ i = 5 ∨ i = 6 := by omega
        rcases h with rfl | rfl | rfl | rfl | rfl | rfl | rfl <;> decide
      have hp7 : (128 : Int) ^ 7 = 562949953421312 := by decide
      have hnew : Go.bits .or .i64 (val ((bytesOf s).take i)) (shl .i64 (wrap64 (Go.bits .and .u8 (bt s i) 127)) (wrap64 (7 * (i : Int)))) = val ((bytesOf s).take (i + 1)) := by
        rw [u8and127 _ hb.1 hb.2, w64 (by omega) (by omega : bt s i % 128 ≤ _), shl_val _ i (by omega) (by omega) (by omega), hor.1, ht, val_snoc, hlen]
      have hsmall : val ((bytesOf s).take (i + 1)) < 562949953421312 := by
        rw [ht, val_snoc, hlen]; omega
      by_cases l : bt s i < 128
      · rw [if_pos l]
        refine Ev.step (f := fun _ => some (if i > 0 ∧ bt s i = 0 then (0, 0) else (val ((bytesOf s).take (i + 1)), (i + 1 : Int)))) (fun k => ?_) (Ev.now _)
        rw [impl_DecodeVarint.l0, if_pos (by unfold mn; omega), if_pos (by omega), if_pos (by omega), if_pos (by rw [w64] <;> omega), if_pos l, hnew]
        by_cases z : i > 0
        · rw [if_pos (by omega : (i : Int) > 0)]
          by_cases z2 : bt s i = 0
          · rw [if_pos z2, if_pos ⟨z, z2⟩]
          · rw [if_neg z2, if_neg (by omega : ¬ val ((bytesOf s).take (i + 1)) > 562949953421311), if_neg (fun h => z2 h.2), w64 (by omega) (by omega)]
        · rw [if_neg (by omega : ¬ (i : Int) > 0), if_neg (by omega : ¬ val ((bytesOf s).take (i + 1)) > 562949953421311), if_neg (fun h => z h.1), w64 (by omega) (by omega)]
      · rw [if_neg l]
        refine Ev.step (f := fun k => impl_DecodeVarint.l0 k s (val ((bytesOf s).take (i + 1))) (mn (s.size : Int) 7) ((i + 1 : Nat) : Int)) (fun k => ?_) (ih (i + 1) (by omega) (by omega))
        rw [impl_DecodeVarint.l0, if_pos (by unfold mn; omega), if_pos (by omega), if_pos (by omega), if_pos (by rw [w64] <;> omega), if_neg l, hnew, w64_succ (by omega)]
    · rw [if_neg c]
      refine Ev.step (f := fun _ => some (0, 0)) (fun k => ?_) (Ev.now _)
      rw [impl_DecodeVarint.l0, if_neg (by unfold mn; omega)]
theorem decVarintI (s : ByteArray) : Ev (fun k => impl_DecodeVarint.f k s) (decVar s 0 7) :=
  decVarI_ev s 7 0 rfl (by omega)

theorem FnExactDecodeVarint : laws_FnExactDecodeVarint.Pure := by
  intro s _
  by_cases hs : (s.size : Int) > 1048576
  · exact ⟨0, by unfold laws_FnExactDecodeVarint.f; rw [if_pos hs]⟩
  · refine Ev.rounds (r := true) (Ev.congr (fun k => by unfold laws_FnExactDecodeVarint.f; rw [if_neg hs]) ?_)
    refine Ev.bind (decVarintS s) (Ev.bind (decVarintI s) ?_)
    rw [if_pos rfl, if_pos rfl]
    exact Ev.now _

end Go.Proofs.Ytbmkfaejleleiaa.Pure
