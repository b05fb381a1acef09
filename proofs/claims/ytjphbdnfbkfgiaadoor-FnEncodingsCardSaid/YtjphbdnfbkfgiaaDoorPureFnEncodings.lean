/- Each decoder gives back what was encoded, whatever bytes follow, and reads nothing else, at every drawn argument (past the law's own size bound it answers true itself). -/
import Derived.Test.YtjphbdnfbkfgiaaDoorPFnEncodingsx1
import Derived.Test.YtjphbdnfbkfgiaaDoorPFnEncodingsx2
import Derived.Test.YtjphbdnfbkfgiaaDoorPFnEncodingsx3
import Derived.Test.YtjphbdnfbkfgiaaDoorPFnEncodingsx4
import Derived.Test.YtjphbdnfbkfgiaaDoorPFnEncodingsx5
import Derived.Test.YtjphbdnfbkfgiaaDoorOpens
import Derived.Test.YtjphbdnfbkfgiaaDoorPlain
namespace Go.Proofs.YtjphbdnfbkfgiaaDoor.Pure
open Go.RowKit Go.Proofs.YtjphbdnfbkfgiaaDoor.PFnEncodings Go.Proofs.YtjphbdnfbkfgiaaDoorW.PrintWords Go.Proofs.YtjphbdnfbkfgiaaDoorW.PrintLast Go.Proofs.YtjphbdnfbkfgiaaDoorW.PrintMore Go.Proofs.YtjphbdnfbkfgiaaDoor.Opens Go.Proofs.YtjphbdnfbkfgiaaDoor.Plain
set_option linter.unusedVariables false
set_option linter.unusedSimpArgs false

theorem l1In_f (a b c : Int) : spec_l1In.f a b c = some (decide (b ≤ a ∧ a ≤ c)) := by
  unfold spec_l1In.f
  by_cases h : b ≤ a <;> simp [h]

theorem within_f (a b c : Int) : impl_within.f a b c = some (decide (b ≤ a ∧ a ≤ c)) := by
  unfold impl_within.f
  by_cases h : b ≤ a <;> simp [h]

/-- The varint of n, with fuel for its groups. -/
def vi : Nat → Int → List Int
  | 0, n => [n % 256]
  | f + 1, n => if n < 128 then [n % 256] else (128 + n % 128) :: vi f (n / 128)
theorem or128 (y : Int) (h0 : 0 ≤ y) (h1 : y < 128) : Go.bits .or .u8 y 128 = 128 + y := by
  obtain ⟨a, rfl⟩ := Int.eq_ofNat_of_zero_le h0
  have e := (bits_nat .u8 8 (by decide) wraps_u8 a 128 (by omega) (by decide)).2
  have e' := (bits_nat .u8 8 (by decide) wraps_u8 128 a (by decide) (by omega)).2
  have k := bits_join .u8 8 (by decide) wraps_u8 7 128 a (by decide) (by decide) (by decide) h0 (by omega) (by omega)
  rw [Nat.or_comm] at e
  exact (e.trans e'.symm).trans k
theorem and127 (x : Int) (h0 : 0 ≤ x) (h1 : x ≤ 562949953421311) : Go.bits .and .i64 x 127 = x % 128 :=
  bits_mask .i64 63 (by decide) (fun n h0 h1 => by rw [IntKind.wrap_i64]; omega) 7 (by decide) x h0 (by omega)
theorem encVarintS_ev (f : Nat) : ∀ (n : Int) (acc : List Int), 0 ≤ n → n ≤ 562949953421311 → n < 128 ^ (f + 1) → acc.length + f < 100 →
    Ev (fun k => spec_EncodeVarint.l0 k n acc) (strOfNums (acc ++ vi f n)) := by
  induction f with
  | zero =>
    intro n acc h0 h1 h2 ha
    refine Ev.step (f := fun _ => some (strOfNums (acc ++ vi 0 n))) (fun k => ?_) (Ev.now _)
    rw [spec_EncodeVarint.l0, if_neg (by omega), if_pos (by omega)]; rfl
  | succ f ih =>
    intro n acc h0 h1 h2 ha
    by_cases c : n < 128
    · refine Ev.step (f := fun _ => some (strOfNums (acc ++ vi (f + 1) n))) (fun k => ?_) (Ev.now _)
      rw [spec_EncodeVarint.l0, if_neg (by omega), if_pos (by omega), vi, if_pos c]
    · have h3 : n / 128 < 128 ^ (f + 1) := by rw [Int.pow_succ] at h2; omega
      have e := ih (n / 128) (acc ++ [128 + n % 128]) (by omega) (by omega) h3 (by simp; omega)
      refine Ev.step (f := fun k => spec_EncodeVarint.l0 k (n / 128) (acc ++ [128 + n % 128])) (fun k => ?_) ?_
      · rw [spec_EncodeVarint.l0, if_pos (by omega), if_pos (by omega), Int.tdiv_eq_ediv_of_nonneg h0, Int.tmod_eq_emod_of_nonneg h0, w64 (by omega) (by omega : n / 128 ≤ _), w64 (by omega) (by omega : 128 + n % 128 ≤ _), Int.emod_eq_of_lt (by omega) (by omega : 128 + n % 128 < 256)]
      · rw [vi, if_neg c]; simpa [List.append_assoc] using e
/-- What both EncodeVarint answer. -/
def encVarint (n : Int) : ByteArray := if 0 ≤ n ∧ n ≤ 562949953421311 then strOfNums (vi 6 n) else (⟨#[]⟩ : ByteArray)
theorem encVarintS (n : Int) : Ev (fun k => spec_EncodeVarint.f k n) (encVarint n) := by
  unfold encVarint
  refine Ev.congr (f := fun k => if 0 ≤ n ∧ n ≤ 562949953421311 then spec_EncodeVarint.l0 k n [] else some (⟨#[]⟩ : ByteArray)) (fun k => ?_) ?_
  · rw [spec_EncodeVarint.f, l1In_f]; simp only [Option.bind_some, decide_eq_true_eq]
  by_cases h : 0 ≤ n ∧ n ≤ 562949953421311
  · simp only [h, and_self, if_true]
    exact encVarintS_ev 6 n [] h.1 h.2 (by have : (128 : Int) ^ 7 = 562949953421312 := by decide
                                           omega) (by simp)
  · simp only [h, if_false]; exact Ev.now _

theorem encVarintI_ev (f : Nat) : ∀ (n : Int) (acc : List Int), 0 ≤ n → n ≤ 562949953421311 → n < 128 ^ (f + 1) → acc.length + f < 100 →
    Ev (fun k => impl_EncodeVarint.l0 k n acc) (strOfNums (acc ++ vi f n)) := by
  induction f with
  | zero =>
    intro n acc h0 h1 h2 ha
    refine Ev.step (f := fun _ => some (strOfNums (acc ++ vi 0 n))) (fun k => ?_) (Ev.now _)
    rw [impl_EncodeVarint.l0, if_neg (by omega), if_pos (by omega)]; rfl
  | succ f ih =>
    intro n acc h0 h1 h2 ha
    by_cases c : n < 128
    · refine Ev.step (f := fun _ => some (strOfNums (acc ++ vi (f + 1) n))) (fun k => ?_) (Ev.now _)
      rw [impl_EncodeVarint.l0, if_neg (by omega), if_pos (by omega), vi, if_pos c]
    · have h3 : n / 128 < 128 ^ (f + 1) := by rw [Int.pow_succ] at h2; omega
      have e := ih (n / 128) (acc ++ [128 + n % 128]) (by omega) (by omega) h3 (by simp; omega)
      refine Ev.step (f := fun k => impl_EncodeVarint.l0 k (n / 128) (acc ++ [128 + n % 128])) (fun k => ?_) ?_
      · rw [impl_EncodeVarint.l0, if_pos (by omega), if_pos (by omega), and127 n h0 h1, Int.emod_eq_of_lt (by omega) (by omega : n % 128 < 256), or128 _ (by omega) (by omega)]
      · rw [vi, if_neg c]; simpa [List.append_assoc] using e
theorem encVarintI (n : Int) : Ev (fun k => impl_EncodeVarint.f k n) (encVarint n) := by
  unfold encVarint
  refine Ev.congr (f := fun k => if 0 ≤ n ∧ n ≤ 562949953421311 then impl_EncodeVarint.l0 k n [] else some (⟨#[]⟩ : ByteArray)) (fun k => ?_) ?_
  · rw [impl_EncodeVarint.f, within_f]; simp only [Option.bind_some, decide_eq_true_eq]
  by_cases h : 0 ≤ n ∧ n ≤ 562949953421311
  · simp only [h, and_self, if_true]
    exact encVarintI_ev 6 n [] h.1 h.2 (by have : (128 : Int) ^ 7 = 562949953421312 := by decide
                                           omega) (by simp)
  · simp only [h, if_false]; exact Ev.now _

/-- The number whose groups l holds, least first. -/
def val : List Int → Int
  | [] => 0
  | b :: l => b % 128 + 128 * val l
theorem val_cons (b : Int) (l : List Int) : val (b :: l) = b % 128 + 128 * val l := rfl
theorem val_nonneg (l : List Int) : 0 ≤ val l := by
  induction l with
  | nil => simp [val]
  | cons b l ih => simp only [val]; omega
theorem val_lt (l : List Int) : val l < 128 ^ l.length := by
  induction l with
  | nil => simp [val]
  | cons b l ih => simp only [val, List.length_cons, Int.pow_succ]; omega
theorem val_snoc (l : List Int) (b : Int) : val (l ++ [b]) = val l + 128 ^ l.length * (b % 128) := by
  induction l with
  | nil => simp [val]
  | cons a l ih => simp only [List.cons_append, val, ih, List.length_cons, Int.pow_succ]; rw [Int.mul_add, Int.mul_comm (128 ^ l.length) 128, Int.mul_assoc]; omega
/-- All groups but the last go on; the last ends, and it is not an idle zero. -/
def canon : List Int → Prop
  | [] => False
  | [b] => 0 ≤ b ∧ b < 128
  | b :: l => 128 ≤ b ∧ b < 256 ∧ canon l ∧ val l ≠ 0
theorem vi_canon (f : Nat) : ∀ n : Int, 0 ≤ n → n < 128 ^ (f + 1) → canon (vi f n) ∧ val (vi f n) = n := by
  induction f with
  | zero =>
    intro n h0 h1
    simp only [vi, canon, val]; omega
  | succ f ih =>
    intro n h0 h1
    rw [vi]
    by_cases c : n < 128
    · rw [if_pos c]; simp only [canon, val]; omega
    · rw [if_neg c]
      obtain ⟨c1, c2⟩ := ih (n / 128) (by omega) (by rw [Int.pow_succ] at h1; omega)
      have c3 : canon ((128 + n % 128) :: vi f (n / 128)) := by
        cases e : vi f (n / 128) with
        | nil => rw [e] at c1; exact absurd c1 (by simp [canon])
        | cons a l => rw [e] at c1 c2; exact ⟨by omega, by omega, c1, by rw [c2]; omega⟩
      refine ⟨c3, ?_⟩
      simp only [val, c2]; omega
theorem canon_inj : ∀ (l m : List Int), canon l → canon m → val l = val m → l = m
  | [], _, h, _, _ => absurd h (by simp [canon])
  | _, [], _, h, _ => absurd h (by simp [canon])
  | [a], [b], h, k, e => by simp only [canon, val] at h k e; rw [show a = b by omega]
  | [a], b :: c :: m, h, k, e => by
    exfalso
    have := val_nonneg (c :: m)
    obtain ⟨k1, k2, k3, k4⟩ := k
    simp only [canon] at h
    rw [val_cons b] at e
    simp only [val] at e h k4
    have := val_nonneg m
    omega
  | a :: c :: l, [b], h, k, e => by
    exfalso
    have := val_nonneg (c :: l)
    obtain ⟨k1, k2, k3, k4⟩ := h
    simp only [canon] at k
    rw [val_cons a] at e
    simp only [val] at e k k4
    have := val_nonneg l
    omega
  | a :: c :: l, b :: d :: m, h, k, e => by
    obtain ⟨h1, h2, h3, h4⟩ := h
    obtain ⟨k1, k2, k3, k4⟩ := k
    rw [val_cons a, val_cons b] at e
    have e1 : val (c :: l) = val (d :: m) := by omega
    have e2 : a = b := by omega
    rw [e2, canon_inj (c :: l) (d :: m) h3 k3 e1]
/-- EncodeVarint tells a list of groups again exactly where it is canonical. -/
theorem vi_val (l : List Int) (hl : 1 ≤ l.length) (h7 : l.length ≤ 7) : vi 6 (val l) = l ↔ canon l := by
  have h1 : val l < 128 ^ (6 + 1) := Int.lt_of_lt_of_le (val_lt l) (by
    have h := Nat.pow_le_pow_right (n := 128) (by omega) h7
    exact_mod_cast h)
  obtain ⟨c, e⟩ := vi_canon 6 (val l) (val_nonneg l) h1
  exact ⟨fun h => h ▸ c, fun h => canon_inj _ _ c h e⟩
/-- Groups that go on, and one more: canonical just where that one ends and is not an idle zero. -/
theorem canon_snoc (l : List Int) (b : Int) (hl : ∀ x ∈ l, 128 ≤ x ∧ x < 256) (hb : 0 ≤ b ∧ b < 256) : canon (l ++ [b]) ↔ b < 128 ∧ (l = [] ∨ b ≠ 0) := by
  induction l with
  | nil => simp [canon, hb.1]
  | cons a l ih =>
    have ha := hl a (by simp)
    have ih := ih (fun x hx => hl x (by simp [hx]))
    cases l with
    | nil =>
      simp only [List.nil_append, List.cons_append, canon, val]
      simp only [List.nil_append, canon, true_or, and_true] at ih
      constructor
      · rintro ⟨_, _, ⟨_, h⟩, k⟩; exact ⟨h, .inr (by omega)⟩
      · rintro ⟨h, k | k⟩
        · cases k
        · exact ⟨ha.1, ha.2, ⟨hb.1, h⟩, by omega⟩
    | cons c l =>
      simp only [List.cons_append, canon] at ih ⊢
      constructor
      · rintro ⟨_, _, h, _⟩
        obtain ⟨i1, i2⟩ := ih.1 h
        rcases i2 with i2 | i2
        · cases i2
        · exact ⟨i1, .inr i2⟩
      · rintro ⟨h, k⟩
        have k' : b ≠ 0 := by rcases k with k | k
                              · cases k
                              · exact k
        refine ⟨ha.1, ha.2, ih.2 ⟨h, .inr k'⟩, ?_⟩
        have hc := val_snoc (c :: l) b
        simp only [List.cons_append] at hc
        rw [hc]
        have hp : (0 : Int) < 128 ^ (c :: l).length := Int.pow_pos (by omega)
        have hm : 0 < 128 ^ (c :: l).length * (b % 128) := Int.mul_pos hp (by omega)
        have := val_nonneg (c :: l)
        omega
/-- A group that ends, and groups behind it: never canonical. -/
theorem canon_early (b : Int) (hb : b < 128) : ∀ (l m : List Int), m ≠ [] → ¬ canon (l ++ b :: m)
  | [], m, hm => by
    cases m with
    | nil => exact absurd rfl hm
    | cons c m => rintro ⟨h, _⟩; omega
  | [a], m, hm => by
    rintro ⟨_, _, h, _⟩
    exact canon_early b hb [] m hm h
  | a :: c :: l, m, hm => by
    rintro ⟨_, _, h, _⟩
    exact canon_early b hb (c :: l) m hm h
/-- What both DecodeVarint answer: the place where the search stands, with fuel. -/
def decVar (s : ByteArray) (i : Nat) : Nat → Int × Int
  | 0 => (0, 0)
  | d + 1 => if i < s.size then (if bt s i < 128 then (if i > 0 ∧ bt s i = 0 then (0, 0) else (val ((bytesOf s).take (i + 1)), (i + 1 : Int))) else decVar s (i + 1) d) else (0, 0)
theorem take_go {s : ByteArray} {i : Nat} (h : ∀ j, j < i → 128 ≤ bt s j) (hi : i ≤ s.size) : ∀ x ∈ (bytesOf s).take i, 128 ≤ x ∧ x < 256 := by
  induction i with
  | zero => simp
  | succ i ih =>
    intro x hx
    rw [take_bytes s i (by omega)] at hx
    rcases List.mem_append.1 hx with hx | hx
    · exact ih (fun j hj => h j (by omega)) (by omega) x hx
    · have := bt_range s i
      have := h i (by omega)
      simp at hx; omega
theorem take_length {s : ByteArray} {i : Nat} (hi : i ≤ s.size) : ((bytesOf s).take i).length = i := by
  rw [List.length_take, bytesOf_length]; omega
theorem extract_list (s : ByteArray) (i : Nat) : (s.extract 0 i).toList = (s.data.toList.take i) := by
  rw [toList_data]; simp
theorem strOf_take (s : ByteArray) (i : Nat) (xs : List Int) (hx : ∀ x ∈ xs, 0 ≤ x ∧ x ≤ 255) : (strOfNums xs).toList = (s.extract 0 i).toList ↔ xs = (bytesOf s).take i := by
  have e : bytesOf (s.extract 0 i) = (bytesOf s).take i := by simp [bytesOf, List.map_take]
  constructor
  · intro h
    have h' : strOfNums xs = s.extract 0 i := by
      rw [toList_data, toList_data] at h
      exact ByteArray.ext (Array.toList_inj.1 h)
    rw [← e, ← h', bytes_str hx]
  · intro h
    rw [← str_bytes (s.extract 0 i), e, h]
theorem vi_bytes (f : Nat) : ∀ n : Int, ∀ x ∈ vi f n, 0 ≤ x ∧ x ≤ 255 := by
  induction f with
  | zero => intro n x hx; simp [vi] at hx; omega
  | succ f ih =>
    intro n x hx
    rw [vi] at hx
    split at hx
    · simp at hx; omega
    · rcases List.mem_cons.1 hx with rfl | hx
      · omega
      · exact ih _ x hx
theorem encVarint_val (l : List Int) (h7 : l.length ≤ 7) : encVarint (val l) = strOfNums (vi 6 (val l)) := by
  have h1 : val l < 128 ^ 7 := Int.lt_of_lt_of_le (val_lt l) (by
    have h := Nat.pow_le_pow_right (n := 128) (by omega) h7
    exact_mod_cast h)
  have hp : (128 : Int) ^ 7 = 562949953421312 := by decide
  unfold encVarint
  rw [if_pos ⟨val_nonneg l, by omega⟩]
theorem or_val (n y : Int) (i : Nat) (hi : i < 7) (h0 : 0 ≤ n) (h1 : n < 128 ^ i) (hy0 : 0 ≤ y) (hy1 : y < 128) : Go.bits .or .i64 n (y * 128 ^ i) = n + 128 ^ i * y ∧ n + 128 ^ i * y < 128 ^ (i + 1) ∧ y * 128 ^ i < 128 ^ (i + 1) := by
  have hp : (0 : Int) < 128 ^ i := Int.pow_pos (by omega)
  have hle : (128 : Int) ^ i ≤ 128 ^ 6 := by
    have h : i = 0 ∨ i = 1 ∨ i = 2 ∨ i = 3 ∨ i = 4 ∨ i = 5 ∨ i = 6 := by omega
    rcases h with rfl | rfl | rfl | rfl | rfl | rfl | rfl <;> decide
  have hp6 : (128 : Int) ^ 6 = 4398046511104 := by decide
  have hm : 128 ^ i * y ≤ 128 ^ i * 127 := Int.mul_le_mul_of_nonneg_left (by omega) (by omega)
  have hm0 : 0 ≤ 128 ^ i * y := Int.mul_nonneg (by omega) hy0
  have hs : (128 : Int) ^ (i + 1) = 128 ^ i * 128 := Int.pow_succ ..
  have hc : y * 128 ^ i = 128 ^ i * y := Int.mul_comm ..
  refine ⟨?_, by rw [hs]; omega, by rw [hc, hs]; omega⟩
  have hw : ∀ n : Int, 0 ≤ n → n < 2 ^ 63 → IntKind.i64.wrap n = n := fun n h0 h1 => by rw [IntKind.wrap_i64]; omega
  have e2 : (2 : Int) ^ (7 * i) = 128 ^ i := by rw [Int.pow_mul]; rfl
  have j := bits_join .i64 63 (by decide) hw (7 * i) (y * 128 ^ i) n (by rw [hc]; exact hm0) (by rw [e2]; exact Int.mul_emod_left ..) (by omega) h0 (by rw [e2]; exact h1) (by omega)
  obtain ⟨a, ha⟩ := Int.eq_ofNat_of_zero_le h0
  obtain ⟨b, hb⟩ := Int.eq_ofNat_of_zero_le (show 0 ≤ y * 128 ^ i by rw [hc]; exact hm0)
  have o1 := (bits_nat .i64 63 (by decide) hw a b (by omega) (by omega)).2
  have o2 := (bits_nat .i64 63 (by decide) hw b a (by omega) (by omega)).2
  rw [Nat.or_comm] at o1
  rw [ha, hb] at j ⊢
  rw [o1, ← o2, j, ← hb, hc]
  omega
theorem shl_val (y : Int) (i : Nat) (hi : i < 7) (hy0 : 0 ≤ y) (hy1 : y < 128) : shl .i64 y (wrap64 (7 * (i : Int))) = y * 128 ^ i := by
  have h := (or_val 0 y i hi (by omega) (Int.pow_pos (by omega)) hy0 hy1).2.2
  have hle : (128 : Int) ^ (i + 1) ≤ 128 ^ 7 := by
    have h : i = 0 ∨ i = 1 ∨ i = 2 ∨ i = 3 ∨ i = 4 ∨ i = 5 ∨ i = 6 := by omega
    rcases h with rfl | rfl | rfl | rfl | rfl | rfl | rfl <;> decide
  have hp7 : (128 : Int) ^ 7 = 562949953421312 := by decide
  have h0 : 0 ≤ y * 128 ^ i := Int.mul_nonneg hy0 (Int.pow_nonneg (by omega))
  rw [w64 (by omega) (by omega)]
  unfold shl
  have e : (7 * (i : Int)).toNat = 7 * i := by omega
  rw [Nat.min_eq_left (by simp [IntKind.bits]; omega), e, Int.pow_mul]
  have e2 : ((2 : Int) ^ 7) ^ i = 128 ^ i := rfl
  rw [e2, IntKind.wrap_i64]
  omega
theorem u8and127 (x : Int) (h0 : 0 ≤ x) (h1 : x ≤ 255) : Go.bits .and .u8 x 127 = x % 128 :=
  bits_mask .u8 8 (by decide) wraps_u8 7 (by decide) x h0 (by omega)
theorem decVarI_ev (s : ByteArray) (d : Nat) : ∀ i : Nat, i + d = 7 → i ≤ s.size → Ev (fun k => impl_DecodeVarint.l0 k s (val ((bytesOf s).take i)) (mn (s.size : Int) 7) i) (decVar s i d) := by
  induction d with
  | zero =>
    intro i hi _
    refine Ev.step (f := fun _ => some (0, 0)) (fun k => ?_) (Ev.now _)
    rw [impl_DecodeVarint.l0, if_neg (by unfold mn; omega)]
  | succ d ih =>
    intro i hi hs
    rw [decVar]
    by_cases c : i < s.size
    · rw [if_pos c]
      have hb := bt_range s i
      have ht := take_bytes s i c
      have hlen : ((bytesOf s).take i).length = i := take_length hs
      have hv0 := val_nonneg ((bytesOf s).take i)
      have hv1 : val ((bytesOf s).take i) < 128 ^ i := by have := val_lt ((bytesOf s).take i); rw [hlen] at this; exact this
      have hor := or_val (val ((bytesOf s).take i)) (bt s i % 128) i (by omega) hv0 hv1 (by omega) (by omega)
      have hle : (128 : Int) ^ (i + 1) ≤ 128 ^ 7 := by
        have h : i = 0 ∨ i = 1 ∨ i = 2 ∨ i = 3 ∨ i = 4 ∨ i = 5 ∨ i = 6 := by omega
        rcases h with rfl | rfl | rfl | rfl | rfl | rfl | rfl <;> decide
      have hp7 : (128 : Int) ^ 7 = 562949953421312 := by decide
      have hnew : Go.bits .or .i64 (val ((bytesOf s).take i)) (shl .i64 (wrap64 (Go.bits .and .u8 (bt s i) 127)) (wrap64 (7 * (i : Int)))) = val ((bytesOf s).take (i + 1)) := by
        rw [u8and127 _ hb.1 hb.2, w64 (by omega) (by omega : bt s i % 128 ≤ _), shl_val _ i (by omega) (by omega) (by omega), hor.1, ht, val_snoc, hlen]
      have hsmall : val ((bytesOf s).take (i + 1)) < 562949953421312 := by
        rw [ht, val_snoc, hlen]; omega
      by_cases l : bt s i < 128
      · rw [if_pos l]
        refine Ev.step (f := fun _ => some (if i > 0 ∧ bt s i = 0 then (0, 0) else (val ((bytesOf s).take (i + 1)), (i + 1 : Int)))) (fun k => ?_) (Ev.now _)
        rw [impl_DecodeVarint.l0, if_pos (by unfold mn; omega), if_pos (by omega), if_pos (by omega), if_pos (by rw [w64] <;> omega), if_pos l, hnew]
        by_cases z : i > 0
        · rw [if_pos (by omega : (i : Int) > 0)]
          by_cases z2 : bt s i = 0
          · rw [if_pos z2, if_pos ⟨z, z2⟩]
          · rw [if_neg z2, if_neg (by omega : ¬ val ((bytesOf s).take (i + 1)) > 562949953421311), if_neg (fun h => z2 h.2), w64 (by omega) (by omega)]
        · rw [if_neg (by omega : ¬ (i : Int) > 0), if_neg (by omega : ¬ val ((bytesOf s).take (i + 1)) > 562949953421311), if_neg (fun h => z h.1), w64 (by omega) (by omega)]
      · rw [if_neg l]
        refine Ev.step (f := fun k => impl_DecodeVarint.l0 k s (val ((bytesOf s).take (i + 1))) (mn (s.size : Int) 7) ((i + 1 : Nat) : Int)) (fun k => ?_) (ih (i + 1) (by omega) (by omega))
        rw [impl_DecodeVarint.l0, if_pos (by unfold mn; omega), if_pos (by omega), if_pos (by omega), if_pos (by rw [w64] <;> omega), if_neg l, hnew, w64_succ (by omega)]
    · rw [if_neg c]
      refine Ev.step (f := fun _ => some (0, 0)) (fun k => ?_) (Ev.now _)
      rw [impl_DecodeVarint.l0, if_neg (by unfold mn; omega)]
theorem decVarintI (s : ByteArray) : Ev (fun k => impl_DecodeVarint.f k s) (decVar s 0 7) :=
  decVarI_ev s 7 0 rfl (by omega)

/-- The last i bytes of n, the highest first. -/
def be (n : Int) : Nat → List Int
  | 0 => []
  | i + 1 => (n / 256 ^ i % 256) :: be n i
theorem be_length (n : Int) (i : Nat) : (be n i).length = i := by
  induction i with
  | zero => rfl
  | succ i ih => simp [be, ih]
theorem div_step (n : Int) (i : Nat) : n / 256 ^ i / 256 = n / 256 ^ (i + 1) := by
  rw [Int.pow_succ, Int.ediv_ediv_of_nonneg (Int.pow_nonneg (by omega))]
theorem div_small (n : Int) (i : Nat) (h0 : 0 ≤ n) (h1 : n ≤ 9223372036854775807) : 0 ≤ n / 256 ^ i ∧ n / 256 ^ i ≤ 9223372036854775807 :=
  ⟨Int.ediv_nonneg h0 (Int.pow_nonneg (by omega)), Int.le_trans (Int.ediv_le_self _ h0) h1⟩
theorem encFixedI_ev (n : Int) (h0 : 0 ≤ n) (h1 : n ≤ 9223372036854775807) (w : Nat) (hw : w ≤ 7) (j : Nat) : ∀ (i : Nat), i + j = w →
    Ev (fun k => impl_EncodeFixed.l0 k (n / 256 ^ i) (List.replicate j 0 ++ be n i) ((j : Int) - 1)) (strOfNums (be n w)) := by
  induction j with
  | zero =>
    intro i hi
    obtain rfl : i = w := by omega
    refine Ev.step (f := fun _ => some (strOfNums (be n i))) (fun k => ?_) (Ev.now _)
    rw [impl_EncodeFixed.l0, if_neg (by omega)]
    simp
  | succ j ih =>
    intro i hi
    have hd := div_small n i h0 h1
    have e := ih (i + 1) (by omega)
    refine Ev.step (f := fun k => impl_EncodeFixed.l0 k (n / 256 ^ (i + 1)) (List.replicate j 0 ++ be n (i + 1)) ((j : Int) - 1)) (fun k => ?_) e
    have hl : (List.replicate (j + 1) 0 ++ be n i).length = j + 1 + i := by simp [be_length]
    have hset : (List.replicate (j + 1) 0 ++ be n i).set j (n / 256 ^ i % 256) = List.replicate j 0 ++ be n (i + 1) := by
      rw [List.replicate_succ', List.append_assoc, List.set_append_right _ _ (by simp)]
      simp [be]
    rw [impl_EncodeFixed.l0, if_pos (by omega), if_pos (by omega), if_pos (by omega), div_step]
    have hj : (((j + 1 : Nat) : Int) - 1) = (j : Int) := by omega
    rw [hj, Int.toNat_natCast, hset, w64 (by omega) (by omega)]
/-- What both EncodeFixed answer. -/
def encFixed (n w : Int) : ByteArray := if 1 ≤ w ∧ w ≤ 7 ∧ 0 ≤ n ∧ ¬ n / 256 ^ w.toNat > 0 then strOfNums (be n w.toNat) else (⟨#[]⟩ : ByteArray)
theorem shr_div (n w : Int) (h0 : 1 ≤ w) (h1 : w ≤ 7) : shr .i64 n (wrap64 (8 * w)) = n / 256 ^ w.toNat := by
  rw [w64 (by omega) (by omega)]
  unfold shr
  have e : (8 * w).toNat = 8 * w.toNat := by omega
  rw [Nat.min_eq_left (by simp [IntKind.bits]; omega), e, Int.pow_mul]
  rfl
theorem encFixedI (n w : Int) (h1 : n ≤ 9223372036854775807) : Ev (fun k => impl_EncodeFixed.f k n w) (encFixed n w) := by
  unfold encFixed
  refine Ev.congr (f := fun k => if 1 ≤ w ∧ w ≤ 7 then (if n < 0 then impl_EncodeFixed.j0 k n w true else impl_EncodeFixed.j0 k n w (n / 256 ^ w.toNat != 0)) else impl_EncodeFixed.j0 k n w true) (fun k => ?_) ?_
  · rw [impl_EncodeFixed.f, within_f]; simp only [Option.bind_some, decide_eq_true_eq]
    by_cases h : 1 ≤ w ∧ w ≤ 7
    · rw [if_pos h, if_pos h, shr_div n w h.1 h.2, if_pos (by rw [w64] <;> omega : 0 ≤ wrap64 (8 * w))]
    · rw [if_neg h, if_neg h]
  have hj : ∀ n' w', Ev (fun k => impl_EncodeFixed.j0 k n' w' true) (⟨#[]⟩ : ByteArray) := by
    intro n' w'
    refine Ev.step (f := fun _ => some (⟨#[]⟩ : ByteArray)) (fun k => ?_) (Ev.now _)
    rw [impl_EncodeFixed.j0]; simp
  by_cases h : 1 ≤ w ∧ w ≤ 7
  · simp only [h, and_self, if_true, true_and]
    by_cases c : n < 0
    · rw [if_neg (by omega)]
      simp only [c, if_true]
      exact hj _ _
    · simp only [c, if_false]
      by_cases z : n / 256 ^ w.toNat > 0
      · rw [if_neg (by omega)]
        have e : (n / 256 ^ w.toNat != 0) = true := by simp; omega
        rw [e]
        exact hj _ _
      · have hp := (div_small n w.toNat (by omega) h1).1
        rw [if_pos ⟨by omega, z⟩]
        have e : (n / 256 ^ w.toNat != 0) = false := by simp; omega
        rw [e]
        refine Ev.step (f := fun k => impl_EncodeFixed.l0 k n (List.replicate w.toNat 0) (w - 1)) (fun k => ?_) ?_
        · rw [impl_EncodeFixed.j0, if_neg (by simp), if_pos (by omega), if_pos (by omega), w64 (by omega) (by omega)]
        · have e := encFixedI_ev n (by omega) h1 w.toNat (by omega) w.toNat 0 (by omega)
          rw [Int.toNat_of_nonneg (by omega), Int.pow_zero, Int.ediv_one, be, List.append_nil] at e
          exact e
  · rw [if_neg (by omega)]
    simp only [h, if_false]
    exact hj _ _

/-- d bytes of s from place i on, behind the number n. -/
def fx (s : ByteArray) (n : Int) (i : Nat) : Nat → Int
  | 0 => n
  | d + 1 => fx s (n * 256 + bt s i) (i + 1) d
theorem fx_bound (s : ByteArray) (d : Nat) : ∀ (n : Int) (i : Nat), 0 ≤ n → 0 ≤ fx s n i d ∧ fx s n i d < (n + 1) * 256 ^ d := by
  induction d with
  | zero => intro n i h; simp [fx]; omega
  | succ d ih =>
    intro n i h
    have hb := bt_range s i
    obtain ⟨h1, h2⟩ := ih (n * 256 + bt s i) (i + 1) (by omega)
    refine ⟨h1, Int.lt_of_lt_of_le h2 ?_⟩
    rw [Int.pow_succ, Int.mul_comm (256 ^ d) 256, ← Int.mul_assoc]
    exact Int.mul_le_mul_of_nonneg_right (by omega) (Int.pow_nonneg (by omega))
theorem or256 (x y : Int) (hx0 : 0 ≤ x) (hx1 : x < 9223372036854775807 / 256) (hy0 : 0 ≤ y) (hy1 : y ≤ 255) : Go.bits .or .i64 (x * 256) y = x * 256 + y :=
  bits_join .i64 63 (by decide) (fun n h0 h1 => by rw [IntKind.wrap_i64]; omega) 8 (x * 256) y (by omega) (by omega) (by omega) hy0 (by omega) (by omega)
theorem decFixed_pow (i : Nat) (h : i < 7) : (256 : Int) ^ i ≤ 256 ^ 6 := by
  have h : i = 0 ∨ i = 1 ∨ i = 2 ∨ i = 3 ∨ i = 4 ∨ i = 5 ∨ i = 6 := by omega
  rcases h with rfl | rfl | rfl | rfl | rfl | rfl | rfl <;> decide
theorem decFixedI_ev (s : ByteArray) (w : Nat) (hw : w ≤ 7) (hs : w ≤ s.size) (d : Nat) : ∀ (i : Nat) (n : Int), i + d = w → 0 ≤ n → n < 256 ^ i →
    Ev (fun k => impl_DecodeFixed.l0 k s n w i) (fx s n i d, true) := by
  induction d with
  | zero =>
    intro i n hi h0 h1
    refine Ev.step (f := fun _ => some (n, true)) (fun k => ?_) (Ev.now _)
    rw [impl_DecodeFixed.l0, if_neg (by omega)]
  | succ d ih =>
    intro i n hi h0 h1
    have hb := bt_range s i
    have hp := decFixed_pow i (by omega)
    have h2 : n < 281474976710656 := by have : (256 : Int) ^ 6 = 281474976710656 := by decide
                                        omega
    refine Ev.step (f := fun k => impl_DecodeFixed.l0 k s (n * 256 + bt s i) w ((i + 1 : Nat) : Int)) (fun k => ?_) (ih (i + 1) _ (by omega) (by omega) ?_)
    · rw [impl_DecodeFixed.l0, if_pos (by omega), if_pos (by omega), if_pos (by omega), w64_bt, w64 (by omega) (by omega : n * 256 ≤ _), or256 n _ h0 (by omega) hb.1 hb.2, w64_succ (by omega)]
    · rw [Int.pow_succ]; omega
/-- What both DecodeFixed answer. -/
def decFixed (s : ByteArray) (w : Int) : Int × Bool := if 1 ≤ w ∧ w ≤ 7 ∧ w ≤ s.size then (fx s 0 0 w.toNat, true) else (0, false)
theorem decFixedI (s : ByteArray) (w : Int) : Ev (fun k => impl_DecodeFixed.f k s w) (decFixed s w) := by
  unfold decFixed
  refine Ev.congr (f := fun k => if 1 ≤ w ∧ w ≤ 7 then impl_DecodeFixed.j0 k s w (decide ((s.size : Int) < w)) else impl_DecodeFixed.j0 k s w true) (fun k => ?_) ?_
  · rw [impl_DecodeFixed.f, within_f]; simp only [Option.bind_some, decide_eq_true_eq]
  by_cases h : 1 ≤ w ∧ w ≤ 7
  · simp only [h, and_self, if_true, true_and]
    by_cases c : (s.size : Int) < w
    · rw [if_neg (by omega)]
      refine Ev.step (f := fun _ => some (0, false)) (fun k => ?_) (Ev.now _)
      rw [impl_DecodeFixed.j0]; simp [c]
    · rw [if_pos (by omega)]
      refine Ev.step (f := fun k => impl_DecodeFixed.l0 k s 0 w 0) (fun k => ?_) ?_
      · rw [impl_DecodeFixed.j0]; simp [c]
      · have e := decFixedI_ev s w.toNat (by omega) (by omega) w.toNat 0 0 (by omega) (by omega) (by decide)
        rw [Int.toNat_of_nonneg (by omega)] at e
        exact e
  · rw [if_neg (by omega)]
    simp only [h, if_false]
    refine Ev.step (f := fun _ => some (0, false)) (fun k => ?_) (Ev.now _)
    rw [impl_DecodeFixed.j0]; simp

/-- The hexadecimal digit of a number from 0 to 15. -/
def hexDig (k : Int) : Int := bt (⟨#[48, 49, 50, 51, 52, 53, 54, 55, 56, 57, 97, 98, 99, 100, 101, 102]⟩ : ByteArray) k
def hexOf (l : List Int) : List Int := l.flatMap fun b => [hexDig (b / 16), hexDig (b % 16)]
theorem encHexI_ev (s : ByteArray) (hs : s.size ≤ 1048576) (d : Nat) : ∀ (i : Nat) (acc : List Int), i + d = s.size → acc.length = 2 * i →
    Ev (fun k => impl_EncodeHex.l0 k s acc s.size i) (strOfNums (acc ++ hexOf ((bytesOf s).drop i))) := by
  induction d with
  | zero =>
    intro i acc hi ha
    obtain rfl : i = s.size := by omega
    refine Ev.step (f := fun _ => some (strOfNums acc)) (fun k => ?_) ?_
    · rw [impl_EncodeHex.l0, if_neg (by omega)]
    · rw [drop_all]; simp only [hexOf, List.flatMap_nil, List.append_nil]; exact Ev.now _
  | succ d ih =>
    intro i acc hi ha
    have hlt : i < s.size := by omega
    have hb := bt_range s i
    have e := ih (i + 1) (acc ++ [hexDig (bt s i / 16), hexDig (bt s i % 16)]) (by omega) (by simp [ha]; omega)
    refine Ev.step (f := fun k => impl_EncodeHex.l0 k s (acc ++ [hexDig (bt s i / 16), hexDig (bt s i % 16)]) s.size ((i + 1 : Nat) : Int)) (fun k => ?_) ?_
    · rw [impl_EncodeHex.l0, if_pos (by omega), if_pos (by omega), if_pos (by omega), u8_and15 _ hb.1 (by omega), if_pos (by omega), if_pos (by omega), if_pos (by omega), if_pos (by omega)]
      simp only [Option.bind_some]
      rw [if_pos (by simp [ha]; omega), w64_succ (by omega)]
      rfl
    · rw [drop_bytes s i hlt]
      simp only [hexOf, List.flatMap_cons] at e ⊢
      simpa [List.append_assoc] using e
theorem encHexI (s : ByteArray) (hs : s.size ≤ 1048576) : Ev (fun k => impl_EncodeHex.f k s) (strOfNums (hexOf (bytesOf s))) := by
  have h := encHexI_ev s hs s.size 0 [] (by omega) rfl
  simpa [impl_EncodeHex.f] using h

/-- The number of a hexadecimal digit, or -1. -/
def hexNum (x : Int) : Int := if 48 ≤ x ∧ x ≤ 57 then x - 48 else if 97 ≤ x ∧ x ≤ 102 then x - 87 else -1
theorem hexNum_range (x : Int) : -1 ≤ hexNum x ∧ hexNum x ≤ 15 := by
  unfold hexNum
  split
  · omega
  · split <;> omega
theorem hexDig_val (k : Int) (h0 : 0 ≤ k) (h1 : k < 16) : hexDig k = if k < 10 then 48 + k else 87 + k := by
  have h : k = 0 ∨ k = 1 ∨ k = 2 ∨ k = 3 ∨ k = 4 ∨ k = 5 ∨ k = 6 ∨ k = 7 ∨ k = 8 ∨ k = 9 ∨ k = 10 ∨ k = 11 ∨ k = 12 ∨ k = 13 ∨ k = 14 ∨ k = 15 := by omega
  rcases h with rfl | rfl | rfl | rfl | rfl | rfl | rfl | rfl | rfl | rfl | rfl | rfl | rfl | rfl | rfl | rfl <;> decide
theorem half_ev (x : Int) (h0 : 0 ≤ x) (h1 : x ≤ 255) : Ev (fun k => impl_half.f k x) (hexNum x) := by
  have hj : ∀ b : Bool, Ev (fun k => impl_half.j0 k x b) (if b = true then (x - 48) % 256 else if x ≥ 97 then (if x ≤ 102 then ((x - 97) % 256) + 10 else -1) else -1) := by
    intro b
    refine Ev.step (f := fun _ => some (if b = true then (x - 48) % 256 else if x ≥ 97 then (if x ≤ 102 then ((x - 97) % 256) + 10 else -1) else -1)) (fun k => ?_) (Ev.now _)
    rw [impl_half.j0]
    split
    · rfl
    · split
      · split <;> rfl
      · rfl
  refine Ev.congr (f := fun k => impl_half.j0 k x (decide (48 ≤ x ∧ x ≤ 57))) (fun k => ?_) ?_
  · rw [impl_half.f]
    by_cases c : x ≥ 48
    · rw [if_pos c]; congr 1; simp; omega
    · rw [if_neg c]; congr 1; simp; omega
  · have e : (if decide (48 ≤ x ∧ x ≤ 57) = true then (x - 48) % 256 else if x ≥ 97 then (if x ≤ 102 then ((x - 97) % 256) + 10 else -1) else -1) = hexNum x := by
      unfold hexNum
      simp only [decide_eq_true_eq]
      split
      · omega
      · split
        · split
          · rw [if_pos (by omega)]; omega
          · rw [if_neg (by omega)]
        · rw [if_neg (by omega)]
    rw [← e]; exact hj _
/-- What both DecodeHex answer, from place i on with the bytes so far. -/
def unhex (s : ByteArray) (acc : List Int) (i : Nat) : Nat → ByteArray × Bool
  | 0 => (strOfNums acc, true)
  | d + 1 => if hexNum (bt s i) < 0 ∨ hexNum (bt s ((i : Int) + 1)) < 0 then ((⟨#[]⟩ : ByteArray), false) else unhex s (acc ++ [16 * hexNum (bt s i) + hexNum (bt s ((i : Int) + 1))]) (i + 2) d
def decHex (s : ByteArray) : ByteArray × Bool := if s.size % 2 = 1 then ((⟨#[]⟩ : ByteArray), false) else unhex s [] 0 (s.size / 2)
theorem decHexI_ev (s : ByteArray) (hs : s.size ≤ 1048576) : Ev (fun k => impl_DecodeHex.f k s) (decHex s) := by
  unfold decHex
  by_cases c : s.size % 2 = 1
  · rw [if_pos c]
    exact Ev.congr (f := fun _ => some ((⟨#[]⟩ : ByteArray), false)) (fun k => by rw [impl_DecodeHex.f, if_pos (by omega)]) (Ev.now _)
  · rw [if_neg c]
    have loop : ∀ (d i : Nat) (acc : List Int), i + 2 * d = s.size → acc.length ≤ i → Ev (fun k => impl_DecodeHex.l0 k s acc i) (unhex s acc i d) := by
      intro d
      induction d with
      | zero =>
        intro i acc hi ha
        refine Ev.step (f := fun _ => some (strOfNums acc, true)) (fun k => ?_) (Ev.now _)
        rw [impl_DecodeHex.l0, if_neg (by omega)]
      | succ d ih =>
        intro i acc hi ha
        have h1 := hexNum_range (bt s i)
        have h2 := hexNum_range (bt s ((i : Int) + 1))
        refine Ev.step (f := fun k => (impl_half.f k (bt s i)).bind fun a => (impl_half.f k (bt s ((i : Int) + 1))).bind fun b => if a < 0 then some ((⟨#[]⟩ : ByteArray), false) else if b < 0 then some ((⟨#[]⟩ : ByteArray), false) else impl_DecodeHex.l0 k s (acc ++ [(wrap64 (wrap64 (16 * a) + b)) % 256]) ((i + 2 : Nat) : Int)) (fun k => ?_) ?_
        · rw [impl_DecodeHex.l0, if_pos (by omega), if_pos (by omega), w64 (by omega) (by omega : (i : Int) + 1 ≤ _)]
          congr 1; funext a
          rw [if_pos (by omega), if_pos (by omega)]
          congr 1; funext b
          rw [w64 (by omega) (by omega : (i : Int) + 2 ≤ _)]
          split
          · rfl
          · split
            · rfl
            · rw [if_pos (by omega)]; rfl
        · have hb1 := bt_range s i
          have hb2 := bt_range s ((i : Int) + 1)
          refine Ev.bind (half_ev _ hb1.1 hb1.2) (Ev.bind (half_ev _ hb2.1 hb2.2) ?_)
          rw [unhex]
          by_cases c1 : hexNum (bt s i) < 0
          · simp only [c1, true_or, if_true]; exact Ev.now _
          · by_cases c2 : hexNum (bt s ((i : Int) + 1)) < 0
            · simp only [c1, c2, or_true, if_true, if_false]; exact Ev.now _
            · simp only [c1, c2, or_false, if_false]
              rw [w64 (by omega) (by omega : 16 * hexNum (bt s i) ≤ _), w64 (by omega) (by omega), Int.emod_eq_of_lt (by omega) (by omega)]
              exact ih (i + 2) _ (by omega) (by simp; omega)
    exact Ev.congr (fun k => by rw [impl_DecodeHex.f, if_neg (by omega)]; rfl) (loop (s.size / 2) 0 [] (by omega) (by simp))

/-- The digits of n, ahead of what stands already. -/
theorem digits_step (u : Nat) (h : 10 ≤ u) : Lib.decDigits u = Lib.decDigits (u / 10) ++ [UInt8.ofNat (48 + u % 10)] := by rw [Lib.decDigits, dif_neg (by omega)]
theorem digits_one (u : Nat) (h : u < 10) : Lib.decDigits u = [UInt8.ofNat (48 + u)] := by rw [Lib.decDigits, dif_pos h]
def strB (l : List UInt8) : ByteArray := ⟨l.toArray⟩
theorem strB_size (l : List UInt8) : (strB l).size = l.length := by simp [strB, ByteArray.size]
theorem strB_append (a b : List UInt8) : strB a ++ strB b = strB (a ++ b) := by
  apply ByteArray.ext
  simp [strB, ByteArray.data_append]
theorem str_one (d : Nat) : strOfNums [((48 + d : Nat) : Int) % 256] = strB [UInt8.ofNat (48 + d)] := by
  have e1 : (((48 + d : Nat) : Int) % 256).toNat = (48 + d) % 256 := by omega
  have e2 : UInt8.ofNat ((48 + d) % 256) = UInt8.ofNat (48 + d) := by apply UInt8.toNat_inj.1; simp
  unfold strOfNums strB
  simp only [List.map_cons, List.map_nil, e1, e2]
theorem digits_len (u : Nat) : (Lib.decDigits u).length ≤ u + 1 := by
  induction u using Nat.strongRecOn with
  | _ u ih =>
    by_cases h : u < 10
    · rw [digits_one u h]; simp
    · rw [digits_step u (by omega), List.length_append]
      have := ih (u / 10) (by omega)
      simp; omega
theorem digits_len20 (u : Nat) (h : u < 100000000000000000000) : (Lib.decDigits u).length ≤ 20 := by
  have key : ∀ (m u : Nat), u < 10 ^ (m + 1) → (Lib.decDigits u).length ≤ m + 1 := by
    intro m
    induction m with
    | zero => intro u h; rw [digits_one u (by omega)]; simp
    | succ m ih =>
      intro u h
      by_cases c : u < 10
      · rw [digits_one u c]; simp
      · rw [digits_step u (by omega), List.length_append]
        have := ih (u / 10) (by rw [Nat.pow_succ] at h; omega)
        simp; omega
  exact key 19 u (by simpa using h)
theorem digits_len9 (u : Nat) (h : u < 1000000000) : (Lib.decDigits u).length ≤ 9 := by
  have key : ∀ (m u : Nat), u < 10 ^ (m + 1) → (Lib.decDigits u).length ≤ m + 1 := by
    intro m
    induction m with
    | zero => intro u h; rw [digits_one u (by omega)]; simp
    | succ m ih =>
      intro u h
      by_cases c : u < 10
      · rw [digits_one u c]; simp
      · rw [digits_step u (by omega), List.length_append]
        have := ih (u / 10) (by rw [Nat.pow_succ] at h; omega)
        simp; omega
  exact key 8 u (by simpa using h)
theorem implFormat_f (x : Int) (h : GI x) : impl_FormatInt.f x = some (strB (Lib.itoa x)) := by
  unfold GI at h
  rw [impl_FormatInt.f, strconv_Itoa_61.f, if_pos (by omega)]
  rfl

theorem itoa_len (n : Int) (h : GI n) : (Lib.itoa n).length ≤ 21 := by
  unfold GI at h
  unfold Lib.itoa
  split
  · have := digits_len20 n.natAbs (by omega)
    simp; omega
  · have := digits_len20 n.toNat (by omega)
    omega

def isD (x : Int) : Bool := decide (48 ≤ x ∧ x ≤ 57)
def stepP (p : Int × Int) (x : Int) : Int × Int := if 48 ≤ x ∧ x ≤ 57 then (p.1 * 10 + (x - 48), p.2 + 1) else p
/-- What has been read stays below ten to the digits' number. -/
theorem step_bound (l : List Int) : ∀ (p : Int × Int) (c : Nat), 0 ≤ p.1 → p.2 = c → p.1 < (10 : Int) ^ c → ∃ c' : Nat, (l.foldl stepP p).2 = c' ∧ c ≤ c' ∧ c' ≤ c + l.length ∧ 0 ≤ (l.foldl stepP p).1 ∧ (l.foldl stepP p).1 < (10 : Int) ^ c' := by
  induction l with
  | nil => intro p c h0 h1 h2; exact ⟨c, h1, by omega, by simp, h0, h2⟩
  | cons x l ih =>
    intro p c h0 h1 h2
    rw [List.foldl_cons]
    by_cases hx : 48 ≤ x ∧ x ≤ 57
    · have e : stepP p x = (p.1 * 10 + (x - 48), p.2 + 1) := by unfold stepP; rw [if_pos hx]
      rw [e]
      obtain ⟨c', a, b, d, f, g⟩ := ih (p.1 * 10 + (x - 48), p.2 + 1) (c + 1) (by show 0 ≤ p.1 * 10 + (x - 48); omega) (by show p.2 + 1 = _; omega) (by
        show p.1 * 10 + (x - 48) < _
        rw [Int.pow_succ]
        generalize (10 : Int) ^ c = q at h2
        omega)
      exact ⟨c', a, by omega, by simp; omega, f, g⟩
    · have e : stepP p x = p := by unfold stepP; rw [if_neg hx]
      rw [e]
      obtain ⟨c', a, b, d, f, g⟩ := ih p c h0 h1 h2
      exact ⟨c', a, b, by simp; omega, f, g⟩
theorem pow_pos10 (m : Nat) : (0 : Int) < (10 : Int) ^ m := by
  induction m with
  | zero => decide
  | succ m ih => rw [Int.pow_succ]; generalize (10 : Int) ^ m = q at *; omega
theorem pow_le (i m : Nat) (h : i ≤ m) : (10 : Int) ^ i ≤ (10 : Int) ^ m := by
  induction m with
  | zero =>
    obtain rfl : i = 0 := by omega
    exact Int.le_refl _
  | succ m ih =>
    by_cases c : i = m + 1
    · subst c; exact Int.le_refl _
    · have h1 := ih (by omega)
      have h2 := pow_pos10 m
      rw [Int.pow_succ]
      generalize (10 : Int) ^ m = q at *
      omega
theorem ten11 : (10 : Int) ^ 11 = 100000000000 := by decide
theorem ten9 : (10 : Int) ^ 9 = 1000000000 := by decide
def fin (m : Int) (s : ByteArray) : Int × Bool := if (strB (Lib.itoa m)).toList = s.toList then (m, true) else (0, false)
def isNeg (s : ByteArray) : Bool := decide (0 < s.size ∧ bt s 0 = 45)
def fin2 (p : Int × Int) (s : ByteArray) : Int × Bool := if p.2 > 9 then (0, false) else if (s.size : Int) > 10 then (0, false) else fin (if isNeg s = true then -p.1 else p.1) s
def fin3 (t : List Int) (sg : Int) (s : ByteArray) : Int × Bool := if 1 ≤ t.length ∧ t.length ≤ 9 then (if t.all isD = true then fin (sg * (t.foldl stepP (0, 0)).1) s else (0, false)) else (0, false)
theorem implParseT_ev (s t : ByteArray) (sg : Int) (ht : t.size ≤ 1048576) (hsg : sg = 1 ∨ sg = -1) : Ev (fun k => impl_ParseInt.j1 k s t sg) (fin3 (bytesOf t) sg s) := by
  unfold fin3
  rw [bytesOf_length]
  have loop : t.size ≤ 9 → ∀ (d i : Nat) (n c : Int), i + d = t.size → 0 ≤ n → n < (10 : Int) ^ i → Ev (fun k => impl_ParseInt.l0 k s t sg n t.size i) (if ((bytesOf t).drop i).all isD = true then fin (sg * (((bytesOf t).drop i).foldl stepP (n, c)).1) s else (0, false)) := by
    intro h9 d
    induction d with
    | zero =>
      intro i n c hi h0 h1
      have e1 : (bytesOf t).drop i = [] := by rw [List.drop_eq_nil_iff, bytesOf_length]; omega
      have hp := pow_le i 9 (by omega)
      rw [ten9] at hp
      rw [e1, List.all_nil, if_pos rfl, List.foldl_nil]
      have hr : -1000000000 ≤ sg * n ∧ sg * n ≤ 1000000000 := by rcases hsg with rfl | rfl <;> omega
      refine Ev.step (f := fun _ => some (fin (sg * n) s)) (fun k => ?_) (Ev.now _)
      rw [impl_ParseInt.l0, if_neg (by omega), w64 (by omega) (by omega), implFormat_f _ (by unfold GI; omega), Option.bind_some]
      unfold fin
      split <;> rfl
    | succ d ih =>
      intro i n c hi h0 h1
      have hp := pow_le i 9 (by omega)
      rw [ten9] at hp
      have hb := bt_range t i
      rw [drop_bytes t i (by omega), List.all_cons, List.foldl_cons]
      by_cases hx : 48 ≤ bt t i ∧ bt t i ≤ 57
      · have es : stepP (n, c) (bt t i) = (n * 10 + (bt t i - 48), c + 1) := by unfold stepP; rw [if_pos hx]
        have ed : isD (bt t i) = true := decide_eq_true hx
        rw [es, ed, Bool.true_and]
        have hq : n * 10 + (bt t i - 48) < (10 : Int) ^ (i + 1) := by
          rw [Int.pow_succ]
          generalize (10 : Int) ^ i = q at h1 hp
          omega
        refine Ev.step (f := fun k => impl_ParseInt.l0 k s t sg (n * 10 + (bt t i - 48)) t.size ((i + 1 : Nat) : Int)) (fun k => ?_) (ih (i + 1) _ (c + 1) (by omega) (by omega) hq)
        rw [impl_ParseInt.l0, if_pos (by omega), if_pos (by omega), if_pos (by omega), if_neg (by omega), if_neg (by omega), w64_succ (by omega), w64 (x := 10 * n) (by omega) (by omega), w64 (by omega) (by omega), show 10 * n + (bt t i - 48) % 256 = n * 10 + (bt t i - 48) by omega]
      · have ed : isD (bt t i) = false := decide_eq_false hx
        rw [ed, Bool.false_and, if_neg (by simp)]
        refine Ev.step (f := fun _ => some (0, false)) (fun k => ?_) (Ev.now _)
        rw [impl_ParseInt.l0, if_pos (by omega), if_pos (by omega), if_pos (by omega)]
        by_cases c1 : bt t i < 48
        · rw [if_pos c1]
        · rw [if_neg c1, if_pos (by omega)]
  by_cases c1 : 1 ≤ t.size ∧ t.size ≤ 9
  · rw [if_pos c1]
    have e := loop c1.2 t.size 0 0 0 (by omega) (by omega) (by decide)
    rw [List.drop_zero] at e
    refine Ev.step (f := fun k => impl_ParseInt.l0 k s t sg 0 t.size 0) (fun k => ?_) e
    rw [impl_ParseInt.j1, within_f, Option.bind_some, if_pos (decide_eq_true (by omega))]
  · rw [if_neg c1]
    refine Ev.step (f := fun _ => some (0, false)) (fun k => ?_) (Ev.now _)
    rw [impl_ParseInt.j1, within_f, Option.bind_some, if_neg (by simp; omega)]
theorem bytes_tail (s : ByteArray) : bytesOf (s.extract 1 s.size) = (bytesOf s).drop 1 := by
  have e : (s.extract 1 s.size).data.toList = s.data.toList.drop 1 := by
    rw [ByteArray.data_extract, Array.toList_extract, List.extract_eq_take_drop, List.take_of_length_le]
    rw [List.length_drop, Array.length_toList]
    exact Nat.le_refl _
  unfold bytesOf
  rw [← List.map_drop, e]
theorem implParseInt_ev (s : ByteArray) (hs : s.size ≤ 1048576) : Ev (fun k => impl_ParseInt.f k s) (if isNeg s = true then fin3 ((bytesOf s).drop 1) (-1) s else fin3 (bytesOf s) 1 s) := by
  have hpos := implParseT_ev s s 1 hs (.inl rfl)
  by_cases hz : 0 < s.size
  · refine Ev.congr (fun k => by rw [impl_ParseInt.f, if_pos (by omega), if_pos (by omega)]) ?_
    by_cases c2 : bt s 0 = 45
    · have hn : isNeg s = true := decide_eq_true ⟨hz, c2⟩
      rw [if_pos hn, ← bytes_tail]
      have ht : (s.extract 1 s.size).size ≤ 1048576 := by simp; omega
      refine Ev.step (f := fun k => impl_ParseInt.j1 k s (s.extract 1 s.size) (-1)) (fun k => ?_) (implParseT_ev s _ (-1) ht (.inr rfl))
      rw [impl_ParseInt.j0, if_pos (by rw [c2]; rfl), if_pos (by omega)]
    · have hn : ¬ isNeg s = true := by unfold isNeg; rw [decide_eq_false (fun h => c2 h.2)]; simp
      rw [if_neg hn]
      refine Ev.step (f := fun k => impl_ParseInt.j1 k s s 1) (fun k => ?_) hpos
      rw [impl_ParseInt.j0, if_neg (by simpa using c2)]
  · have hn : ¬ isNeg s = true := by unfold isNeg; rw [decide_eq_false (fun h => hz h.1)]; simp
    rw [if_neg hn]
    refine Ev.congr (fun k => by rw [impl_ParseInt.f, if_neg (by omega)]) (Ev.step (f := fun k => impl_ParseInt.j1 k s s 1) (fun k => ?_) hpos)
    rw [impl_ParseInt.j0, if_neg (by simp)]

/-- The digits of u, as numbers. -/
def dig (u : Nat) : List Int := (Lib.decDigits u).map (fun b => (b.toNat : Int))
theorem dig_one (u : Nat) (h : u < 10) : dig u = [48 + (u : Int)] := by
  unfold dig; rw [digits_one u h]; simp; omega
theorem dig_step (u : Nat) (h : 10 ≤ u) : dig u = dig (u / 10) ++ [48 + ((u % 10 : Nat) : Int)] := by
  unfold dig; rw [digits_step u h]; simp; omega
theorem dig_all (u : Nat) : (dig u).all isD = true ∧ 1 ≤ (dig u).length ∧ (dig u).foldl stepP (0, 0) = ((u : Int), ((dig u).length : Int)) := by
  induction u using Nat.strongRecOn with
  | _ u ih =>
    by_cases h : u < 10
    · rw [dig_one u h]
      have hx : 48 ≤ 48 + (u : Int) ∧ 48 + (u : Int) ≤ 57 := by omega
      refine ⟨by simp [isD]; omega, by simp, ?_⟩
      rw [List.foldl_cons, List.foldl_nil]
      unfold stepP
      rw [if_pos hx]
      simp
      omega
    · obtain ⟨a, b, e⟩ := ih (u / 10) (by omega)
      rw [dig_step u (by omega)]
      have hx : 48 ≤ 48 + ((u % 10 : Nat) : Int) ∧ 48 + ((u % 10 : Nat) : Int) ≤ 57 := by omega
      refine ⟨by rw [List.all_append, a]; simp [isD]; omega, by simp, ?_⟩
      rw [List.foldl_append, e, List.foldl_cons, List.foldl_nil]
      unfold stepP
      rw [if_pos hx, List.length_append]
      refine Prod.ext ?_ ?_
      · show ((u / 10 : Nat) : Int) * 10 + (48 + ((u % 10 : Nat) : Int) - 48) = u
        omega
      · simp
theorem bytes_strB (l : List UInt8) : bytesOf (strB l) = l.map (fun b => (b.toNat : Int)) := by simp [bytesOf, strB]
theorem strB_of (s : ByteArray) (m : Int) (h : (strB (Lib.itoa m)).toList = s.toList) : s = strB (Lib.itoa m) := by
  apply ByteArray.ext
  rw [toList_data, toList_data] at h
  exact Array.toList_inj.1 h.symm
theorem parse_same (s : ByteArray) : fin2 (((bytesOf s).take 11).foldl stepP (0, 0)) s = (if isNeg s = true then fin3 ((bytesOf s).drop 1) (-1) s else fin3 (bytesOf s) 1 s) := by
  by_cases E : ∃ m : Int, -999999999 ≤ m ∧ m ≤ 999999999 ∧ s = strB (Lib.itoa m)
  · obtain ⟨m, h0, h1, rfl⟩ := E
    have hf : fin m (strB (Lib.itoa m)) = (m, true) := by unfold fin; rw [if_pos rfl]
    obtain ⟨ha, hl, hv⟩ := dig_all m.natAbs
    have hl9 : (dig m.natAbs).length ≤ 9 := by
      have : (Lib.decDigits m.natAbs).length ≤ 9 := digits_len9 _ (by omega)
      unfold dig; simpa using this
    by_cases cn : m < 0
    · have eb : bytesOf (strB (Lib.itoa m)) = 45 :: dig m.natAbs := by rw [bytes_strB]; unfold Lib.itoa dig; rw [if_pos cn]; rfl
      have es : (strB (Lib.itoa m)).size = (dig m.natAbs).length + 1 := by rw [← bytesOf_length, eb]; rfl
      have e0 : bt (strB (Lib.itoa m)) 0 = 45 := by
        have := drop_bytes (strB (Lib.itoa m)) 0 (by omega)
        rw [List.drop_zero, eb] at this
        exact (List.cons.inj this).1.symm
      have hn : isNeg (strB (Lib.itoa m)) = true := decide_eq_true ⟨by omega, e0⟩
      have h45 : stepP (0, 0) 45 = (0, 0) := by unfold stepP; rw [if_neg (by omega)]
      rw [if_pos hn, eb, List.take_of_length_le (by simp; omega), List.foldl_cons, h45, hv]
      unfold fin2 fin3
      rw [if_neg (by show ¬ (((dig m.natAbs).length : Int) > 9); omega), if_neg (by omega), if_pos hn]
      simp only [List.drop_succ_cons, List.drop_zero]
      rw [if_pos (by omega), if_pos ha, hv]
      have e1 : -(m.natAbs : Int) = m := by omega
      show fin (-(m.natAbs : Int)) _ = fin (-1 * (m.natAbs : Int)) _
      congr 1; omega
    · have eb : bytesOf (strB (Lib.itoa m)) = dig m.natAbs := by rw [bytes_strB]; unfold Lib.itoa dig; rw [if_neg cn]; congr 2; omega
      have es : (strB (Lib.itoa m)).size = (dig m.natAbs).length := by rw [← bytesOf_length, eb]
      have hn : ¬ isNeg (strB (Lib.itoa m)) = true := by
        unfold isNeg
        rw [decide_eq_true_eq]
        rintro ⟨h2, h3⟩
        have := drop_bytes (strB (Lib.itoa m)) 0 h2
        rw [List.drop_zero, eb, show ((0 : Nat) : Int) = 0 from rfl, h3] at this
        rw [this] at ha
        simp [isD] at ha
      rw [if_neg hn, eb, List.take_of_length_le (by omega), hv]
      unfold fin2 fin3
      rw [if_neg (by show ¬ (((dig m.natAbs).length : Int) > 9); omega), if_neg (by omega), if_neg hn, if_pos (by omega), if_pos ha, hv]
      show fin (m.natAbs : Int) _ = fin (1 * (m.natAbs : Int)) _
      congr 1; omega
  · have nofin : ∀ m : Int, -999999999 ≤ m → m ≤ 999999999 → fin m s = (0, false) := by
      intro m h0 h1
      unfold fin
      rw [if_neg (fun h => E ⟨m, h0, h1, strB_of s m h⟩)]
    have hleft : fin2 (((bytesOf s).take 11).foldl stepP (0, 0)) s = (0, false) := by
      obtain ⟨c', a, _, _, f, g⟩ := step_bound ((bytesOf s).take 11) (0, 0) 0 (by decide) rfl (by decide)
      generalize ((bytesOf s).take 11).foldl stepP (0, 0) = p at *
      unfold fin2
      by_cases c1 : p.2 > 9
      · rw [if_pos c1]
      · rw [if_neg c1]
        by_cases c2 : (s.size : Int) > 10
        · rw [if_pos c2]
        · rw [if_neg c2]
          have hp := pow_le c' 9 (by omega)
          rw [ten9] at hp
          apply nofin <;> split <;> omega
    have hright : ∀ (l : List Int) (sg : Int), (sg = 1 ∨ sg = -1) → fin3 l sg s = (0, false) := by
      intro l sg hsg
      unfold fin3
      by_cases c1 : 1 ≤ l.length ∧ l.length ≤ 9
      · rw [if_pos c1]
        by_cases c2 : l.all isD = true
        · rw [if_pos c2]
          obtain ⟨c', a, _, d, f, g⟩ := step_bound l (0, 0) 0 (by decide) rfl (by decide)
          have hp := pow_le c' 9 (by omega)
          rw [ten9] at hp
          generalize l.foldl stepP (0, 0) = p at *
          apply nofin <;> rcases hsg with rfl | rfl <;> omega
        · rw [if_neg c2]
      · rw [if_neg c1]
    rw [hleft]
    split
    · exact (hright _ _ (.inr rfl)).symm
    · exact (hright _ _ (.inl rfl)).symm

theorem and255 (x : Int) : 0 ≤ Go.bits .and .i64 x 255 ∧ Go.bits .and .i64 x 255 ≤ 255 := by
  have h255 : (BitVec.ofInt 64 255).toNat = 2 ^ 8 - 1 := by decide
  have key : (BitVec.ofInt 64 x &&& BitVec.ofInt 64 255).toNat = (x % ((2 ^ 64 : Nat) : Int)).toNat % 2 ^ 8 := by
    rw [BitVec.toNat_and, BitVec.toNat_ofInt, h255, Nat.and_two_pow_sub_one_eq_mod]
  have e : Go.bits .and .i64 x 255 = IntKind.i64.wrap (((BitVec.ofInt 64 x &&& BitVec.ofInt 64 255).toNat : Nat) : Int) := rfl
  rw [e, key, IntKind.wrap_i64]
  omega
/-- A drawn byte. -/
theorem l1Byte_f (b : List Int) (i h : Int) (hi : 0 ≤ i) (hb : b.length ≤ 9223372036854775807) : ∃ x i' h', spec_l1Byte.f b i h = some (x, i', h') ∧ (0 ≤ x ∧ x ≤ 255) ∧ 0 ≤ i' := by
  unfold spec_l1Byte.f
  by_cases c : i < (b.length : Int)
  · rw [if_pos c, if_pos hi]
    exact ⟨_, _, _, rfl, and255 _, by rw [w64 (by omega) (by omega)]; omega⟩
  · rw [if_neg c]
    exact ⟨_, _, _, rfl, and255 _, hi⟩
/-- A drawn number below n. -/
theorem l1Below_f (b : List Int) (i h n : Int) (hi : 0 ≤ i) (hb : b.length ≤ 9223372036854775807) (hn : n ≤ 9223372036854775807) : ∃ x i' h', spec_l1Below.f b i h n = some (x, i', h') ∧ 0 ≤ x ∧ (0 < n → x < n) ∧ (n ≤ 0 → x = 0) ∧ 0 ≤ i' := by
  unfold spec_l1Below.f
  by_cases c : n ≤ 0
  · rw [if_pos c]
    exact ⟨_, _, _, rfl, by omega, by omega, fun _ => rfl, hi⟩
  · rw [if_neg c]
    have tm : ∀ y : Int, 0 ≤ y → 0 ≤ Int.tmod y n ∧ Int.tmod y n < n := fun y hy => ⟨Int.tmod_nonneg n hy, Int.tmod_lt_of_pos y (by omega)⟩
    obtain ⟨x0, i0, h0, e0, hx0, hi0⟩ := l1Byte_f b i h hi hb
    by_cases c2 : n ≤ 256
    · rw [if_pos c2, e0, Option.bind_some, if_neg (by omega)]
      exact ⟨_, _, _, rfl, (tm _ hx0.1).1, fun _ => (tm _ hx0.1).2, fun h => absurd h c, hi0⟩
    · rw [if_neg c2, e0, Option.bind_some]
      obtain ⟨x1, i1, h1, e1, hx1, hi1⟩ := l1Byte_f b i0 h0 hi0 hb
      obtain ⟨x2, i2, h2, e2, hx2, hi2⟩ := l1Byte_f b i1 h1 hi1 hb
      obtain ⟨x3, i3, h3, e3, hx3, hi3⟩ := l1Byte_f b i2 h2 hi2 hb
      simp only [e1, e2, e3, Option.bind_some]
      rw [if_neg (by omega)]
      have hw : 0 ≤ wrap64 ((wrap64 ((wrap64 ((wrap64 (x0 * 16777216)) + (wrap64 (x1 * 65536)))) + (wrap64 (x2 * 256)))) + x3) := by
        rw [w64 (x := x0 * 16777216) (by omega) (by omega), w64 (x := x1 * 65536) (by omega) (by omega), w64 (x := x2 * 256) (by omega) (by omega), w64 (x := x0 * 16777216 + x1 * 65536) (by omega) (by omega), w64 (x := x0 * 16777216 + x1 * 65536 + x2 * 256) (by omega) (by omega), w64 (by omega) (by omega)]
        omega
      exact ⟨_, _, _, rfl, (tm _ hw).1, fun _ => (tm _ hw).2, fun h => absurd h c, hi3⟩
theorem l1PickInt_f (b : List Int) (i h : Int) (l : List Int) (hi : 0 ≤ i) (hb : b.length ≤ 9223372036854775807) (h0 : 0 < l.length) (hl : l.length ≤ 1000) : ∃ x i' h', spec_l1PickInt.f b i h l = some (x, i', h') ∧ x ∈ l ∧ 0 ≤ i' := by
  obtain ⟨x, i', h', e, hx, hx1, _, hi'⟩ := l1Below_f b i h l.length hi hb (by omega)
  have hx2 := hx1 (by omega)
  unfold spec_l1PickInt.f
  rw [e, Option.bind_some]
  refine ⟨_, _, _, by rw [if_pos hx, if_pos hx2], ?_, hi'⟩
  show rd l x ∈ l
  obtain ⟨j, rfl⟩ := Int.eq_ofNat_of_zero_le hx
  rw [rd_get l j (by omega)]
  exact List.getElem_mem _
/-- The reader of draws: all of the code, from its start. -/
theorem l1New_ev (b : List Int) (hb : b.length ≤ 1048576) : ∃ h, Ev (fun k => spec_l1New.f k b) (b, 0, h) := by
  have loop : ∀ (d i : Nat) (x : Int), i + d = b.length → ∃ h, Ev (fun k => spec_l1New.l0 k b x i) (b, 0, h) := by
    intro d
    induction d with
    | zero =>
      intro i x hi
      refine ⟨x, Ev.step (f := fun _ => some (b, 0, x)) (fun k => ?_) (Ev.now _)⟩
      rw [spec_l1New.l0, if_neg (by omega)]
    | succ d ih =>
      intro i x hi
      by_cases c : (i : Int) < 4000
      · obtain ⟨h, e⟩ := ih (i + 1) (Go.bits .and .i64 (wrap64 ((wrap64 ((wrap64 (x * 131)) + (wrap64 (rd b i)))) + 7)) 1073741823) (by omega)
        refine ⟨h, Ev.step (fun k => ?_) e⟩
        rw [spec_l1New.l0, if_pos (by omega), if_pos c, if_pos (by omega), w64_succ (by omega)]
      · refine ⟨x, Ev.step (f := fun _ => some (b, 0, x)) (fun k => ?_) (Ev.now _)⟩
        rw [spec_l1New.l0, if_pos (by omega), if_neg c]
  obtain ⟨h, e⟩ := loop b.length 0 (wrap64 (10101 + (b.length : Int))) (by omega)
  exact ⟨h, Ev.congr (fun k => by rw [spec_l1New.f]; rfl) e⟩

theorem size_strOf (l : List Int) : (strOfNums l).size = l.length := by simp [strOfNums, ByteArray.size]
/-- A drawn string of at most m bytes. -/
theorem l1Text_ev (b : List Int) (i h m : Int) (hi : 0 ≤ i) (hb : b.length ≤ 9223372036854775807) (hm0 : 0 ≤ m) (hm : m ≤ 1000) : ∃ s i' h', Ev (fun k => spec_l1Text.f k b i h m) (s, i', h') ∧ (s.size : Int) ≤ m ∧ 0 ≤ i' := by
  have loop : ∀ (d : Nat) (l : List Int) (q i h : Int), 0 ≤ i → l.length + d ≤ 2000 → ∃ s i' h', Ev (fun k => spec_l1Text.l0 k l q d b i h) (s, i', h') ∧ s.size ≤ l.length + d ∧ 0 ≤ i' := by
    intro d
    induction d with
    | zero =>
      intro l q i h hi hl
      refine ⟨strOfNums l, i, h, Ev.step (f := fun _ => some (strOfNums l, i, h)) (fun k => ?_) (Ev.now _), by rw [size_strOf]; omega, hi⟩
      rw [spec_l1Text.l0, if_neg (by omega)]
    | succ d ih =>
      intro l q i h hi hl
      obtain ⟨x, i', h', e, _, hi'⟩ := l1Byte_f b i h hi hb
      have key : ∀ y : Int, ∃ s i'' h'', Ev (fun k => if l.length < 140737488355328 then spec_l1Text.l0 k (l ++ [y]) q (wrap64 (((d + 1 : Nat) : Int) - 1)) b i' h' else none) (s, i'', h'') ∧ s.size ≤ l.length + (d + 1) ∧ 0 ≤ i'' := by
        intro y
        obtain ⟨s, a, c', es, hs, ha⟩ := ih (l ++ [y]) q i' h' hi' (by simp; omega)
        refine ⟨s, a, c', Ev.congr (fun k => ?_) es, by simp at hs; omega, ha⟩
        rw [if_pos (by omega), show wrap64 (((d + 1 : Nat) : Int) - 1) = (d : Int) by rw [w64 (by omega) (by omega)]; omega]
      have pick : ∃ y, ∀ k, spec_l1Text.l0 (k + 1) l q ((d + 1 : Nat) : Int) b i h = if l.length < 140737488355328 then spec_l1Text.l0 k (l ++ [y]) q (wrap64 (((d + 1 : Nat) : Int) - 1)) b i' h' else none := by
        by_cases c1 : q = 1
        · by_cases c2 : q = 2
          · omega
          · exact ⟨_, fun k => by rw [spec_l1Text.l0, if_pos (by omega), e, Option.bind_some, if_pos c1, if_neg c2]⟩
        · by_cases c2 : q = 2
          · exact ⟨_, fun k => by rw [spec_l1Text.l0, if_pos (by omega), e, Option.bind_some, if_neg c1, if_pos c2]⟩
          · exact ⟨_, fun k => by rw [spec_l1Text.l0, if_pos (by omega), e, Option.bind_some, if_neg c1, if_neg c2]⟩
      obtain ⟨y, hy⟩ := pick
      obtain ⟨s, a, c', es, hs, ha⟩ := key y
      exact ⟨s, a, c', Ev.step hy es, hs, ha⟩
  obtain ⟨q, i0, h0, e0, _, _, _, hi0⟩ := l1Below_f b i h 4 hi hb (by omega)
  obtain ⟨n, i1, h1, e1, hn0, hn1, _, hi1⟩ := l1Below_f b i0 h0 (m + 1) hi0 hb (by omega)
  obtain ⟨nn, rfl⟩ := Int.eq_ofNat_of_zero_le hn0
  have hn2 := hn1 (by omega)
  obtain ⟨s, a, c', es, hs, ha⟩ := loop nn [] q i1 h1 hi1 (by simp; omega)
  refine ⟨s, a, c', Ev.congr (fun k => ?_) es, by simp at hs; omega, ha⟩
  rw [spec_l1Text.f, e0, Option.bind_some, w64 (by omega) (by omega), e1, Option.bind_some]

theorem GIw {x : Int} (h : GI x) : wrap64 x = x := w64 h.1 h.2
theorem wrap64_GI (x : Int) : GI (wrap64 x) := by unfold GI wrap64; omega
/-- A drawn number. -/
theorem l1Num_f (b : List Int) (i h : Int) (hi : 0 ≤ i) (hb : b.length ≤ 9223372036854775807) : ∃ x i' h', spec_l1Num.f b i h = some (x, i', h') ∧ GI x ∧ 0 ≤ i' := by
  obtain ⟨q, i0, h0, e0, hq0, hq1, _, hi0⟩ := l1Below_f b i h 8 hi hb (by omega)
  unfold spec_l1Num.f
  rw [e0, Option.bind_some]
  by_cases c0 : q = 0
  · obtain ⟨x, i1, h1, e1, hx, hi1⟩ := l1PickInt_f b i0 h0 [(-1), 0, 127, 128, 255, 256, 16383, 16384, 65535, 65536, 562949953421311, 562949953421312, 999999999, 1000000000, (-999999999), 9223372036854775807, (-9223372036854775808)] hi0 hb (by simp) (by simp)
    rw [if_pos c0, e1, Option.bind_some]
    refine ⟨_, _, _, rfl, ?_, hi1⟩
    show GI x
    simp only [List.mem_cons, List.not_mem_nil, or_false] at hx
    unfold GI
    omega
  · rw [if_neg c0]
    by_cases c1 : q = 1
    · obtain ⟨x, i1, h1, e1, hx0, hx1, _, hi1⟩ := l1Below_f b i0 h0 1000000000 hi0 hb (by omega)
      obtain ⟨y, i2, h2, e2, hy0, hy1, _, hi2⟩ := l1Below_f b i1 h1 1000000000 hi1 hb (by omega)
      rw [if_pos c1, e1, Option.bind_some]
      simp only [e2, Option.bind_some]
      exact ⟨_, _, _, rfl, wrap64_GI _, hi2⟩
    · rw [if_neg c1]
      by_cases c2 : q = 2
      · obtain ⟨x, i1, h1, e1, hx0, hx1, _, hi1⟩ := l1Below_f b i0 h0 100000 hi0 hb (by omega)
        rw [if_pos c2, e1, Option.bind_some]
        exact ⟨_, _, _, rfl, wrap64_GI _, hi1⟩
      · obtain ⟨x, i1, h1, e1, hx0, hx1, _, hi1⟩ := l1Below_f b i0 h0 70000 hi0 hb (by omega)
        rw [if_neg c2, e1, Option.bind_some]
        exact ⟨_, _, _, rfl, by show GI x; have := hx1 (by omega); unfold GI; omega, hi1⟩
theorem drawNum_ev (b : List Int) (hb : b.length ≤ 1048576) : ∃ n, Ev (fun k => spec_DrawEncodeVarint.f k b) n ∧ GI n := by
  obtain ⟨h, e⟩ := l1New_ev b hb
  obtain ⟨x, i', h', e1, hx, _⟩ := l1Num_f b 0 h (by omega) (by omega)
  exact ⟨x, Ev.congr (fun k => by rw [spec_DrawEncodeVarint.f]) (Ev.bind e (Ev.congr (fun k => by simp only [e1, Option.bind_some]) (Ev.now x))), hx⟩
theorem drawText_ev (b : List Int) (hb : b.length ≤ 1048576) : ∃ s, Ev (fun k => spec_DrawEncodeHex.f k b) s ∧ s.size ≤ 40 := by
  obtain ⟨h, e⟩ := l1New_ev b hb
  obtain ⟨s, i', h', e1, hs, _⟩ := l1Text_ev b 0 h 40 (by omega) (by omega) (by omega) (by omega)
  exact ⟨s, Ev.congr (fun k => by rw [spec_DrawEncodeHex.f]) (Ev.bind e (Ev.bind e1 (Ev.now s))), by omega⟩
theorem vi_length (f : Nat) : ∀ n : Int, (vi f n).length ≤ f + 1 := by
  induction f with
  | zero => intro n; simp [vi]
  | succ f ih =>
    intro n
    rw [vi]
    split
    · simp
    · have := ih (n / 128); simp; omega
theorem encVarint_size (n : Int) : (encVarint n).size ≤ 7 := by
  unfold encVarint
  split
  · rw [size_strOf]; exact vi_length 6 n
  · decide
/-- A string spoiled: at most four bytes more. -/
theorem l1Spoil_ev (b : List Int) (i h : Int) (a : ByteArray) (hi : 0 ≤ i) (hb : b.length ≤ 9223372036854775807) (ha : a.size ≤ 1000) : ∃ s i' h', Ev (fun k => spec_l1Spoil.f k b i h a) (s, i', h') ∧ s.size ≤ 2000 := by
  by_cases c : (a.size : Int) = 0
  · obtain ⟨s, i1, h1, e1, hs, hi1⟩ := l1Text_ev b i h 3 hi hb (by omega) (by omega)
    exact ⟨s, i1, h1, Ev.congr (fun k => by rw [spec_l1Spoil.f, if_pos c]) (Ev.bind e1 (Ev.now _)), by omega⟩
  · obtain ⟨p, i1, h1, e1, hp0, hp1, _, hi1⟩ := l1Below_f b i h a.size hi hb (by omega)
    have hp2 := hp1 (by omega)
    obtain ⟨q, i2, h2, e2, hq0, hq1, _, hi2⟩ := l1Below_f b i1 h1 4 hi1 hb (by omega)
    obtain ⟨x, i3, h3, e3, hx, hi3⟩ := l1Byte_f b i2 h2 hi2 hb
    obtain ⟨y, i4, h4, e4, hy0, hy1, _, hi4⟩ := l1Below_f b i2 h2 255 hi2 hb (by omega)
    have w1 : wrap64 (p + 1) = p + 1 := w64 (by omega) (by omega)
    have pre : ∀ k, spec_l1Spoil.f k b i h a = _ := fun k => by rw [spec_l1Spoil.f, if_neg c, e1, Option.bind_some, e2, Option.bind_some]
    have s1 : (a.extract 0 p.toNat).size = p.toNat := by rw [ByteArray.size_extract]; omega
    have s2 : (a.extract (p + 1).toNat a.size).size = a.size - (p + 1).toNat := by rw [ByteArray.size_extract]; omega
    have s3 : (a.extract p.toNat a.size).size = a.size - p.toNat := by rw [ByteArray.size_extract]; omega
    have so : ∀ z : Int, (strOfNums [z]).size = 1 := fun z => by rw [size_strOf]; rfl
    by_cases q0 : q = 0
    · refine ⟨_, _, _, Ev.congr (fun k => by rw [pre k, if_pos q0, if_pos hp0, if_pos (by omega), w1, if_pos (by omega), if_pos (by omega), if_pos (by rw [s1, s2]; omega)]) (Ev.now _), ?_⟩
      rw [ByteArray.size_append, s1, s2]; omega
    · by_cases q1 : q = 1
      · refine ⟨_, _, _, Ev.congr (fun k => by rw [pre k, if_neg q0, if_pos q1, if_pos hp0, if_pos (by omega), e3, Option.bind_some, Option.bind_some, if_pos (by rw [s1, so]; omega), if_pos (by rw [ByteArray.size_append, s1, so, s3]; omega)]) (Ev.now _), ?_⟩
        rw [ByteArray.size_append, ByteArray.size_append, s1, so, s3]; omega
      · by_cases q2 : q = 2
        · refine ⟨_, _, _, Ev.congr (fun k => by rw [pre k, if_neg q0, if_neg q1, if_pos q2, if_pos hp0, if_pos (by omega)]) (Ev.now _), ?_⟩
          rw [s1]; omega
        · refine ⟨_, _, _, Ev.congr (fun k => by rw [pre k, if_neg q0, if_neg q1, if_neg q2, if_pos hp0, if_pos (by omega), if_pos hp2, e4, Option.bind_some, Option.bind_some, w1, if_pos (by rw [s1, so]; omega), if_pos (by omega), if_pos (by omega), if_pos (by rw [ByteArray.size_append, s1, so, s2]; omega)]) (Ev.now _), ?_⟩
          rw [ByteArray.size_append, ByteArray.size_append, s1, so, s2]; omega
theorem drawDec_ev (b : List Int) (hb : b.length ≤ 1048576) : ∃ s, Ev (fun k => spec_DrawDecodeVarint.f k b) s ∧ s.size ≤ 2000 := by
  obtain ⟨h, e⟩ := l1New_ev b hb
  obtain ⟨x, i1, h1, e1, hx, hi1⟩ := l1Num_f b 0 h (by omega) (by omega)
  obtain ⟨t, i2, h2, e2, ht, hi2⟩ := l1Text_ev b i1 h1 4 hi1 (by omega) (by omega) (by omega)
  obtain ⟨q, i3, h3, e3, hq0, _, _, hi3⟩ := l1Below_f b i2 h2 4 hi2 (by omega) (by omega)
  have hz := encVarint_size x
  have e4 : spec_l1Once.f b i2 h2 4 = some (q == 0, i3, h3) := by rw [spec_l1Once.f, e3, Option.bind_some]
  have hsz : (encVarint x ++ t).size ≤ 1000 := by rw [ByteArray.size_append]; omega
  cases c : (q == 0) with
  | true =>
    obtain ⟨s, i5, h5, e5, hs⟩ := l1Spoil_ev b i3 h3 (encVarint x ++ t) hi3 (by omega) hsz
    refine ⟨s, Ev.congr (fun k => by rw [spec_DrawDecodeVarint.f]) (Ev.bind e (Ev.congr (fun k => by simp only [e1, Option.bind_some]; rfl) (Ev.bind (encVarintS x) (Ev.bind e2 (Ev.congr (f := fun k => (spec_l1Spoil.f k b i3 h3 (encVarint x ++ t)).bind fun bt => some bt.1) (fun k => ?_) (Ev.bind e5 (Ev.now s))))))), hs⟩
    rw [if_pos (show (encVarint x).size + t.size ≤ 9223372036854775807 by omega)]
    simp only [e4, c, Option.bind_some, if_true]
  | false =>
    refine ⟨encVarint x ++ t, Ev.congr (fun k => by rw [spec_DrawDecodeVarint.f]) (Ev.bind e (Ev.congr (fun k => by simp only [e1, Option.bind_some]; rfl) (Ev.bind (encVarintS x) (Ev.bind e2 (Ev.congr (fun k => ?_) (Ev.now _)))))), by omega⟩
    rw [if_pos (show (encVarint x).size + t.size ≤ 9223372036854775807 by omega)]
    simp only [e4, c, Option.bind_some, Bool.false_eq_true, if_false]

theorem canon_get (l : List Int) (hc : canon l) (hb : ∀ x ∈ l, 0 ≤ x ∧ x ≤ 255) : 1 ≤ l.length ∧ (∀ i (h : i < l.length), i + 1 < l.length → 128 ≤ l[i]) ∧ ∀ i (h : i < l.length), i + 1 = l.length → l[i] < 128 ∧ (0 < i → l[i] ≠ 0) := by
  have h1 : 1 ≤ l.length := by
    cases l with
    | nil => exact hc.elim
    | cons a l => simp
  have h2 : ∀ i (h : i < l.length), i + 1 < l.length → 128 ≤ l[i] := by
    intro i h hi
    by_cases c : 128 ≤ l[i]
    · exact c
    · exfalso
      refine canon_early l[i] (by omega) (l.take i) (l.drop (i + 1)) (fun e => ?_) ?_
      · have := congrArg List.length e
        simp at this; omega
      · rw [← drop_get l i h, List.take_append_drop]
        exact hc
  refine ⟨h1, h2, fun i h hi => ?_⟩
  have e : l = l.take i ++ [l[i]] := by
    conv => lhs; rw [← List.take_append_drop i l, drop_get l i h, List.drop_of_length_le (by omega)]
  rw [e] at hc
  have hb' := hb l[i] (List.getElem_mem h)
  have k := (canon_snoc (l.take i) l[i] (fun x hx => by
    obtain ⟨j, hj, rfl⟩ := List.mem_iff_getElem.1 hx
    rw [List.getElem_take]
    simp at hj
    have := h2 j (by omega) (by omega)
    have := hb l[j] (List.getElem_mem (by omega))
    omega) (by omega)).1 hc
  refine ⟨k.1, fun hi0 => ?_⟩
  rcases k.2 with k2 | k2
  · have h5 : (l.take i).length = 0 := by rw [k2]; rfl
    rw [List.length_take] at h5
    omega
  · exact k2
theorem bt_take (s : ByteArray) (m i : Nat) (l : List Int) (e : (bytesOf s).take m = l) (hm : m ≤ s.size) (hi : i < m) : ∃ h : i < l.length, bt s i = l[i] := by
  have hl : l.length = m := by rw [← e, take_length hm]
  refine ⟨by omega, ?_⟩
  subst e
  rw [List.getElem_take, ← rd_bytesOf, rd_get _ i (by rw [bytesOf_length]; omega)]
/-- A canonical varint at the start is found. -/
theorem decVar_canon (s : ByteArray) (m : Nat) (l : List Int) (e : (bytesOf s).take m = l) (hm : m ≤ s.size) (h7 : m ≤ 7) (hc : canon l) : decVar s 0 7 = (val l, (m : Int)) := by
  have hb : ∀ x ∈ l, 0 ≤ x ∧ x ≤ 255 := fun x hx => mem_bytes (List.mem_of_mem_take (e ▸ hx))
  have hl : l.length = m := by rw [← e, take_length hm]
  obtain ⟨h1, h2, h3⟩ := canon_get l hc hb
  have loop : ∀ (d i : Nat), i + d = 7 → i < m → decVar s i d = (val l, (m : Int)) := by
    intro d
    induction d with
    | zero => intro i hi hm'; omega
    | succ d ih =>
      intro i hi hm'
      obtain ⟨hil, eb⟩ := bt_take s m i l e hm hm'
      rw [decVar, if_pos (by omega)]
      by_cases c : i + 1 = m
      · obtain ⟨k1, k2⟩ := h3 i hil (by omega)
        rw [if_pos (by omega), if_neg (by rintro ⟨a, b⟩; exact k2 a (by omega)), c, e]
        congr 1
        omega
      · have := h2 i hil (by omega)
        rw [if_neg (by omega)]
        exact ih (i + 1) (by omega) (by omega)
  exact loop 7 0 (by omega) (by omega)
/-- What is found is a canonical varint at the start. -/
theorem decVar_found (s : ByteArray) : decVar s 0 7 = (0, 0) ∨ ∃ m : Nat, 1 ≤ m ∧ m ≤ 7 ∧ m ≤ s.size ∧ canon ((bytesOf s).take m) ∧ decVar s 0 7 = (val ((bytesOf s).take m), (m : Int)) := by
  have loop : ∀ (d i : Nat), i + d = 7 → (∀ j, j < i → 128 ≤ bt s j) → i ≤ s.size → decVar s i d = (0, 0) ∨ ∃ m : Nat, 1 ≤ m ∧ m ≤ 7 ∧ m ≤ s.size ∧ canon ((bytesOf s).take m) ∧ decVar s i d = (val ((bytesOf s).take m), (m : Int)) := by
    intro d
    induction d with
    | zero => intro i _ _ _; exact .inl rfl
    | succ d ih =>
      intro i hi hj hs
      rw [decVar]
      by_cases c : i < s.size
      · rw [if_pos c]
        by_cases c2 : bt s i < 128
        · rw [if_pos c2]
          by_cases c3 : i > 0 ∧ bt s i = 0
          · rw [if_pos c3]; exact .inl rfl
          · rw [if_neg c3]
            refine .inr ⟨i + 1, by omega, by omega, by omega, ?_, rfl⟩
            rw [take_bytes s i c]
            have hr := bt_range s i
            refine (canon_snoc _ _ (take_go hj hs) (by omega)).2 ⟨c2, ?_⟩
            by_cases c4 : i = 0
            · left; subst c4; rfl
            · right; intro h; exact c3 ⟨by omega, h⟩
        · rw [if_neg c2]
          exact ih (i + 1) (by omega) (fun j hj' => by
            by_cases e : j = i
            · subst e; omega
            · exact hj j (by omega)) (by omega)
      · rw [if_neg c]; exact .inl rfl
  exact loop 7 0 (by omega) (fun j hj => by omega) (by omega)
theorem bytes_append (a b : ByteArray) : bytesOf (a ++ b) = bytesOf a ++ bytesOf b := by
  simp [bytesOf, ByteArray.data_append]
/-- A varint and what follows: the number and the varint's length. -/
theorem decVar_enc (n : Int) (tail : ByteArray) (h0 : 0 ≤ n) (h1 : n ≤ 562949953421311) : (encVarint n).toList ≠ [] ∧ decVar (encVarint n ++ tail) 0 7 = (n, ((encVarint n).size : Int)) := by
  have hp : (128 : Int) ^ (6 + 1) = 562949953421312 := by decide
  obtain ⟨hc, hv⟩ := vi_canon 6 n h0 (by omega)
  have e : encVarint n = strOfNums (vi 6 n) := by unfold encVarint; rw [if_pos ⟨h0, h1⟩]
  have hsz : (encVarint n).size = (vi 6 n).length := by rw [e, size_strOf]
  have hl := vi_length 6 n
  obtain ⟨g1, _, _⟩ := canon_get _ hc (vi_bytes 6 n)
  refine ⟨fun h => ?_, ?_⟩
  · have := congrArg List.length h
    rw [toList_data, Array.length_toList] at this
    have h2 : (encVarint n).size = 0 := this
    omega
  · have eb : (bytesOf (encVarint n ++ tail)).take (vi 6 n).length = vi 6 n := by
      rw [bytes_append, e, bytes_str (vi_bytes 6 n), List.take_left']
      rfl
    have k := decVar_canon (encVarint n ++ tail) (vi 6 n).length (vi 6 n) eb (by rw [ByteArray.size_append, hsz]; omega) hl hc
    rw [k, hv, hsz]
/-- What is read as a varint is one. -/
theorem decVar_back (s : ByteArray) : (decVar s 0 7).2 = 0 ∨ 0 < (decVar s 0 7).2 ∧ (decVar s 0 7).2 ≤ s.size ∧ (encVarint (decVar s 0 7).1).toList = (s.extract 0 (decVar s 0 7).2.toNat).toList := by
  rcases decVar_found s with e | ⟨m, h1, h7, hs, hc, e⟩
  · left; rw [e]
  · right
    rw [e]
    refine ⟨by show (0 : Int) < m; omega, by show (m : Int) ≤ s.size; omega, ?_⟩
    show (encVarint (val ((bytesOf s).take m))).toList = (s.extract 0 ((m : Int)).toNat).toList
    have hl : ((bytesOf s).take m).length = m := take_length hs
    rw [encVarint_val _ (by omega), Int.toNat_natCast]
    exact (strOf_take s m _ (vi_bytes 6 _)).2 ((vi_val _ (by omega) (by omega)).2 hc)
theorem encFixed7 (n : Int) (tail : ByteArray) : ((encFixed n 7).toList = [] ↔ (n < 0 ∨ 72057594037927936 ≤ n)) ∧ (¬ (n < 0 ∨ 72057594037927936 ≤ n) → (encFixed n 7).size = 7 ∧ decFixed (encFixed n 7 ++ tail) 7 = (n, true)) ∧ (encFixed n 7).size ≤ 7 := by
  have p7 : (256 : Int) ^ (7 : Int).toNat = 72057594037927936 := by decide
  by_cases c : n < 0 ∨ 72057594037927936 ≤ n
  · have e : encFixed n 7 = (⟨#[]⟩ : ByteArray) := by
      unfold encFixed
      rw [p7, if_neg (by omega)]
    rw [e]
    exact ⟨⟨fun _ => c, fun _ => by rw [toList_data]⟩, fun h => absurd c h, by decide⟩
  · have e : encFixed n 7 = strOfNums (be n 7) := by
      unfold encFixed
      rw [p7, if_pos (by omega)]
      rfl
    have hsz : (encFixed n 7).size = 7 := by rw [e, size_strOf, be_length]
    refine ⟨⟨fun h => ?_, fun h => absurd h c⟩, fun _ => ⟨hsz, ?_⟩, by omega⟩
    · have := congrArg List.length h
      rw [toList_data, Array.length_toList] at this
      have h2 : (encFixed n 7).size = 0 := this
      omega
    · have hbe : ∀ i : Nat, ∀ x ∈ be n i, 0 ≤ x ∧ x ≤ 255 := by
        intro i
        induction i with
        | zero => simp [be]
        | succ i ih =>
          intro x hx
          rcases List.mem_cons.1 hx with rfl | hx
          · omega
          · exact ih x hx
      have hs : (encFixed n 7 ++ tail).size = 7 + tail.size := by rw [ByteArray.size_append, hsz]
      have eb : bytesOf (encFixed n 7 ++ tail) = be n 7 ++ bytesOf tail := by rw [bytes_append, e, bytes_str (hbe 7)]
      have hb : ∀ (i : Nat) (h : i < 7), bt (encFixed n 7 ++ tail) i = (be n 7 ++ bytesOf tail).getD i 0 := by
        intro i h
        rw [← rd_bytesOf, eb]
        unfold rd
        rw [Int.toNat_natCast]
      have b0 := hb 0 (by omega)
      have b1 := hb 1 (by omega)
      have b2 := hb 2 (by omega)
      have b3 := hb 3 (by omega)
      have b4 := hb 4 (by omega)
      have b5 := hb 5 (by omega)
      have b6 := hb 6 (by omega)
      simp only [be, List.cons_append, List.getD_cons_zero, List.getD_cons_succ, List.nil_append] at b0 b1 b2 b3 b4 b5 b6
      have q1 : (256 : Int) ^ 1 = 256 := by decide
      have q2 : (256 : Int) ^ 2 = 65536 := by decide
      have q3 : (256 : Int) ^ 3 = 16777216 := by decide
      have q4 : (256 : Int) ^ 4 = 4294967296 := by decide
      have q5 : (256 : Int) ^ 5 = 1099511627776 := by decide
      have q6 : (256 : Int) ^ 6 = 281474976710656 := by decide
      rw [q6] at b0
      rw [q5] at b1
      rw [q4] at b2
      rw [q3] at b3
      rw [q2] at b4
      rw [q1] at b5
      rw [Int.pow_zero] at b6
      unfold decFixed
      rw [if_pos ⟨by omega, by omega, by rw [hs]; omega⟩]
      have ef : fx (encFixed n 7 ++ tail) 0 0 (7 : Int).toNat = n := by
        show fx (encFixed n 7 ++ tail) 0 0 7 = n
        simp only [fx, b0, b1, b2, b3, b4, b5, b6, Nat.zero_add, Nat.reduceAdd]
        omega
      rw [ef]
theorem hexOf_rd : ∀ (l : List Int) (i : Nat) (h : i < l.length), (hexOf l).getD (2 * i) 0 = hexDig (l[i] / 16) ∧ (hexOf l).getD (2 * i + 1) 0 = hexDig (l[i] % 16)
  | b :: l, 0, _ => ⟨rfl, rfl⟩
  | b :: l, i + 1, h => by
    have k := hexOf_rd l i (by simpa using h)
    have e : hexOf (b :: l) = hexDig (b / 16) :: hexDig (b % 16) :: hexOf l := rfl
    rw [e, show 2 * (i + 1) = 2 * i + 1 + 1 by omega]
    simp only [List.getD_cons_succ, List.getElem_cons_succ]
    exact k
theorem hexOf_len : ∀ l : List Int, (hexOf l).length = 2 * l.length
  | [] => rfl
  | b :: l => by
    have e : hexOf (b :: l) = hexDig (b / 16) :: hexDig (b % 16) :: hexOf l := rfl
    have := hexOf_len l
    rw [e]; simp only [List.length_cons]; omega
theorem hexDig_range (k : Int) (h0 : 0 ≤ k) (h1 : k < 16) : 0 ≤ hexDig k ∧ hexDig k ≤ 255 ∧ hexNum (hexDig k) = k := by
  rw [hexDig_val k h0 h1]
  unfold hexNum
  by_cases c : k < 10
  · rw [if_pos c, if_pos (by omega)]; omega
  · rw [if_neg c, if_neg (by omega), if_pos (by omega)]; omega
/-- DecodeHex behind EncodeHex. -/
theorem hex_back (s : ByteArray) : decHex (strOfNums (hexOf (bytesOf s))) = (s, true) := by
  have hl : (bytesOf s).length = s.size := bytesOf_length s
  have hb : ∀ x ∈ hexOf (bytesOf s), 0 ≤ x ∧ x ≤ 255 := by
    intro x hx
    unfold hexOf at hx
    obtain ⟨y, hy, hx⟩ := List.mem_flatMap.1 hx
    have hy' := mem_bytes hy
    have h1 := hexDig_range (y / 16) (by omega) (by omega)
    have h2 := hexDig_range (y % 16) (by omega) (by omega)
    simp only [List.mem_cons, List.not_mem_nil, or_false] at hx
    rcases hx with rfl | rfl
    · exact ⟨h1.1, h1.2.1⟩
    · exact ⟨h2.1, h2.2.1⟩
  have hsz : (strOfNums (hexOf (bytesOf s))).size = 2 * s.size := by rw [size_strOf, hexOf_len, hl]
  unfold decHex
  rw [if_neg (by omega), show (strOfNums (hexOf (bytesOf s))).size / 2 = s.size by omega]
  have hrd : ∀ j : Nat, bt (strOfNums (hexOf (bytesOf s))) j = (hexOf (bytesOf s)).getD j 0 := by
    intro j
    rw [← rd_bytesOf, bytes_str hb]
    unfold rd
    rw [Int.toNat_natCast]
  have loop : ∀ (d i : Nat), i + d = s.size → unhex (strOfNums (hexOf (bytesOf s))) ((bytesOf s).take i) (2 * i) d = (s, true) := by
    intro d
    induction d with
    | zero =>
      intro i hi
      rw [unhex, List.take_of_length_le (by omega), str_bytes]
    | succ d ih =>
      intro i hi
      have h1 : i < (bytesOf s).length := by omega
      obtain ⟨k1, k2⟩ := hexOf_rd (bytesOf s) i h1
      have hx := mem_bytes (List.getElem_mem h1)
      have r1 := hexDig_range ((bytesOf s)[i] / 16) (by omega) (by omega)
      have r2 := hexDig_range ((bytesOf s)[i] % 16) (by omega) (by omega)
      have b1 := hrd (2 * i)
      have b2 := hrd (2 * i + 1)
      rw [k1] at b1
      rw [k2] at b2
      rw [unhex, show ((2 * i : Nat) : Int) + 1 = ((2 * i + 1 : Nat) : Int) by omega, b1, b2, r1.2.2, r2.2.2, if_neg (by omega), show 16 * ((bytesOf s)[i] / 16) + (bytesOf s)[i] % 16 = (bytesOf s)[i] by omega, ← List.take_succ_eq_append_getElem h1, show 2 * i + 2 = 2 * (i + 1) by omega]
      exact ih (i + 1) (by omega)
  exact loop s.size 0 (by omega)
theorem dig_small (u : Nat) : (dig u).length ≤ 9 ↔ u < 1000000000 := by
  obtain ⟨ha, h1, hf⟩ := dig_all u
  constructor
  · intro h
    obtain ⟨c', e, _, hc, _, hlt⟩ := step_bound (dig u) (0, 0) 0 (by omega) rfl (by decide)
    rw [hf] at e hlt
    have e' : ((dig u).length : Int) = c' := e
    have h9 := pow_le c' 9 (by omega)
    rw [ten9] at h9
    have : (u : Int) < 10 ^ c' := hlt
    omega
  · intro h
    unfold dig
    rw [List.length_map]
    exact digits_len9 u h
/-- ParseInt behind FormatInt. -/
theorem parse_format (n : Int) (h : GI n) : ∀ p, p = (if isNeg (strB (Lib.itoa n)) = true then fin3 ((bytesOf (strB (Lib.itoa n))).drop 1) (-1) (strB (Lib.itoa n)) else fin3 (bytesOf (strB (Lib.itoa n))) 1 (strB (Lib.itoa n))) → (p.2 = decide (-1000000000 < n ∧ n < 1000000000)) ∧ (p.2 = true → p.1 = n) := by
  unfold GI at h
  rintro p rfl
  by_cases c : n < 0
  · have ei : Lib.itoa n = 45 :: Lib.decDigits n.natAbs := by unfold Lib.itoa; rw [if_pos c]
    have eb : bytesOf (strB (Lib.itoa n)) = 45 :: dig n.natAbs := by rw [bytes_strB, ei]; rfl
    have hsz : (strB (Lib.itoa n)).size = (Lib.decDigits n.natAbs).length + 1 := by rw [strB_size, ei]; rfl
    have hn : isNeg (strB (Lib.itoa n)) = true := by
      unfold isNeg
      rw [decide_eq_true_eq]
      refine ⟨by omega, ?_⟩
      have : bt (strB (Lib.itoa n)) ((0 : Nat) : Int) = rd (bytesOf (strB (Lib.itoa n))) ((0 : Nat) : Int) := by rw [rd_bytesOf]
      rw [eb] at this
      exact this
    rw [if_pos hn, eb]
    obtain ⟨ha, h1, hf⟩ := dig_all n.natAbs
    have hs := dig_small n.natAbs
    rw [show List.drop 1 (45 :: dig n.natAbs) = dig n.natAbs from rfl]
    unfold fin3
    by_cases c9 : (dig n.natAbs).length ≤ 9
    · have := hs.1 c9
      rw [if_pos ⟨h1, c9⟩, if_pos ha, hf]
      have e : (-1 : Int) * (n.natAbs : Int) = n := by omega
      unfold fin
      rw [e, if_pos rfl, decide_eq_true (by omega)]
      exact ⟨rfl, fun _ => rfl⟩
    · have : ¬ n.natAbs < 1000000000 := fun h => c9 (hs.2 h)
      rw [if_neg (fun h => c9 h.2), decide_eq_false (by omega)]
      exact ⟨rfl, fun h => by cases h⟩
  · have ei : Lib.itoa n = Lib.decDigits n.toNat := by unfold Lib.itoa; rw [if_neg c]
    have eb : bytesOf (strB (Lib.itoa n)) = dig n.toNat := by rw [bytes_strB, ei]; rfl
    obtain ⟨ha, h1, hf⟩ := dig_all n.toNat
    have hs := dig_small n.toNat
    have hn : isNeg (strB (Lib.itoa n)) = false := by
      unfold isNeg
      rw [decide_eq_false_iff_not]
      rintro ⟨_, h2⟩
      have e0 : bt (strB (Lib.itoa n)) ((0 : Nat) : Int) = rd (bytesOf (strB (Lib.itoa n))) ((0 : Nat) : Int) := by rw [rd_bytesOf]
      rw [eb, rd_get _ 0 (by omega)] at e0
      have hm : isD (dig n.toNat)[0] = true := List.all_eq_true.1 ha _ (List.getElem_mem (by omega))
      unfold isD at hm
      rw [decide_eq_true_eq] at hm
      have : bt (strB (Lib.itoa n)) 0 = (dig n.toNat)[0] := e0
      omega
    rw [if_neg (by rw [hn]; simp), eb]
    unfold fin3
    by_cases c9 : (dig n.toNat).length ≤ 9
    · have := hs.1 c9
      rw [if_pos ⟨h1, c9⟩, if_pos ha, hf]
      have e : (1 : Int) * (n.toNat : Int) = n := by omega
      unfold fin
      rw [e, if_pos rfl, decide_eq_true (by omega)]
      exact ⟨rfl, fun _ => rfl⟩
    · have : ¬ n.toNat < 1000000000 := fun h => c9 (hs.2 h)
      rw [if_neg (fun h => c9 h.2), decide_eq_false (by omega)]
      exact ⟨rfl, fun h => by cases h⟩

theorem toList_nil_iff (s : ByteArray) : s.toList = [] ↔ s.size = 0 := by
  rw [toList_data]
  constructor
  · intro h
    have := congrArg List.length h
    rw [Array.length_toList] at this
    exact this
  · intro h
    exact List.eq_nil_of_length_eq_zero (by rw [Array.length_toList]; exact h)
theorem FnEncodings (l0 : List Int) (g0 : (GL GU) l0) : ∃ k, laws_FnEncodings.f k l0 = some true := by
  by_cases cb : (l0.length : Int) > 1048576
  · refine ⟨0, ?_⟩
    rw [laws_FnEncodings.f, laws_big.f, decide_eq_true cb, Option.bind_some, if_pos rfl]
  · obtain ⟨n, en, hn⟩ := drawNum_ev l0 (by omega)
    obtain ⟨tail, et, ht⟩ := drawText_ev l0 (by omega)
    obtain ⟨dr, ed, hd⟩ := drawDec_ev l0 (by omega)
    have hv := encVarint_size n
    obtain ⟨f1, f2, f3⟩ := encFixed7 n tail
    have hn' := hn
    unfold GI at hn'
    -- the last part
    have h2 : Ev (fun k => laws_FnEncodings.j2 k l0 tail false) true := by
      refine Ev.step (fun k => by rw [laws_FnEncodings.j2, if_neg (by simp)]) ?_
      have hh : (strOfNums (hexOf (bytesOf tail))).size ≤ 1048576 := by rw [size_strOf, hexOf_len, bytesOf_length]; omega
      refine Ev.bind (encHexI tail (by omega)) (Ev.bind (decHexI_ev _ hh) (Ev.bind ed (Ev.bind (decVarintI dr) ?_)))
      rw [hex_back]
      simp only [if_true]
      rcases decVar_back dr with h | ⟨h1, h2, h3⟩
      · simp only [h, if_true]; exact Ev.now _
      · refine Ev.congr (fun k => by rw [if_neg (by omega), if_pos h1, if_pos h2]) (Ev.bind (encVarintI _) ?_)
        refine Ev.congr (fun k => by rw [if_pos (by omega), h3, beq_self_eq_true]) (Ev.now _)
    -- numbers as text
    have h1 : Ev (fun k => laws_FnEncodings.j1 k l0 n tail false) true := by
      have hl := itoa_len n hn
      refine Ev.step (fun k => by rw [laws_FnEncodings.j1, if_neg (by simp), implFormat_f n hn, Option.bind_some]) (Ev.bind (implParseInt_ev (strB (Lib.itoa n)) (by rw [strB_size]; omega)) ?_)
      obtain ⟨p1, p2⟩ := parse_format n hn _ rfl
      generalize (if isNeg (strB (Lib.itoa n)) = true then fin3 ((bytesOf (strB (Lib.itoa n))).drop 1) (-1) (strB (Lib.itoa n)) else fin3 (bytesOf (strB (Lib.itoa n))) 1 (strB (Lib.itoa n))) = p at p1 p2 ⊢
      obtain ⟨q, b⟩ := p
      simp only at p1 p2 ⊢
      by_cases c1 : n > -1000000000
      · by_cases c2 : n < 1000000000
        · rw [decide_eq_true (by omega)] at p1
          subst p1
          have e := p2 rfl
          subst e
          refine Ev.congr (fun k => ?_) h2
          simp [c1, c2]
        · rw [decide_eq_false (by omega)] at p1
          subst p1
          refine Ev.congr (fun k => ?_) h2
          simp [c1, c2]
      · rw [decide_eq_false (by omega)] at p1
        subst p1
        refine Ev.congr (fun k => ?_) h2
        simp [c1]
    -- numbers of fixed width
    have h0 : Ev (fun k => laws_FnEncodings.j0 k l0 n tail false) true := by
      refine Ev.step (fun k => by rw [laws_FnEncodings.j0, if_neg (by simp)]) (Ev.bind (encFixedI n 7 (by omega)) ?_)
      refine Ev.congr (fun k => by rw [if_pos (by omega)]) (Ev.bind (decFixedI (encFixed n 7 ++ tail) 7) ?_)
      by_cases c : n < 0 ∨ 72057594037927936 ≤ n
      · refine Ev.congr (fun k => ?_) h1
        rw [if_pos (f1.2 c)]
        rcases c with c | c
        · rw [if_pos c]
        · rw [if_neg (by omega), if_pos c]
      · obtain ⟨a, b⟩ := f2 c
        refine Ev.congr (fun k => ?_) h1
        rw [if_neg (fun h => c (f1.1 h)), b]
        simp only [if_true]
        rw [if_pos (by rw [a]; rfl), if_neg (by omega), if_neg (by omega)]
    refine Ev.rounds (r := true) (Ev.congr (fun k => by rw [laws_FnEncodings.f, laws_big.f, decide_eq_false cb, Option.bind_some, if_neg (by simp)]) (Ev.bind en (Ev.bind et (Ev.bind (encVarintI n) ?_))))
    refine Ev.congr (fun k => by rw [if_pos (by omega)]) (Ev.bind (decVarintI (encVarint n ++ tail)) ?_)
    by_cases c : 0 ≤ n ∧ n ≤ 562949953421311
    · obtain ⟨k1, k2⟩ := decVar_enc n tail c.1 c.2
      rw [k2]
      refine Ev.congr (fun k => ?_) h0
      rw [if_pos c.1, if_neg k1, if_pos c.2]
      simp
    · have e : encVarint n = (⟨#[]⟩ : ByteArray) := by unfold encVarint; rw [if_neg c]
      have e2 : (encVarint n).toList = [] := by rw [e, toList_data]
      refine Ev.congr (fun k => ?_) h0
      rw [e2]
      by_cases c0 : n ≥ 0
      · rw [if_pos c0, if_pos rfl, if_neg (by omega)]
      · rw [if_neg c0, if_pos rfl]

end Go.Proofs.YtjphbdnfbkfgiaaDoor.Pure
