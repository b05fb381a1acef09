/- ParseInt of the program and of the reference agree, for every string (longer than 2^20 bytes the law itself answers true). -/
import Derived.Test.YtjphbdnfbkfgiaaDoorPFnExactParseIntx1
import Derived.Test.YtjphbdnfbkfgiaaDoorPFnExactParseIntx2
import Derived.Test.YtjphbdnfbkfgiaaDoorOpens
import Derived.Test.YtjphbdnfbkfgiaaDoorPlain
namespace Go.Proofs.YtjphbdnfbkfgiaaDoor.Pure
open Go.RowKit Go.Proofs.YtjphbdnfbkfgiaaDoor.PFnExactParseInt Go.Proofs.YtjphbdnfbkfgiaaDoorW.PrintWords Go.Proofs.YtjphbdnfbkfgiaaDoorW.PrintLast Go.Proofs.YtjphbdnfbkfgiaaDoorW.PrintMore Go.Proofs.YtjphbdnfbkfgiaaDoor.Opens Go.Proofs.YtjphbdnfbkfgiaaDoor.Plain
set_option linter.unusedVariables false
set_option linter.unusedSimpArgs false

theorem within_f (a b c : Int) : impl_within.f a b c = some (decide (b ≤ a ∧ a ≤ c)) := by
  unfold impl_within.f
  by_cases h : b ≤ a <;> simp [h]

/-- The digits of n, ahead of what stands already. -/
theorem digits_step (u : Nat) (h : 10 ≤ u) : Lib.decDigits u = Lib.decDigits (u / 10) ++ [UInt8.ofNat (48 + u % 10)] := by rw [Lib.decDigits, dif_neg (by omega)]
theorem digits_one (u : Nat) (h : u < 10) : Lib.decDigits u = [UInt8.ofNat (48 + u)] := by rw [Lib.decDigits, dif_pos h]
def strB (l : List UInt8) : ByteArray := ⟨l.toArray⟩
theorem strB_size (l : List UInt8) : (strB l).size = l.length := by simp [strB, ByteArray.size]
theorem strB_append (a b : List UInt8) : strB a ++ strB b = strB (a ++ b) := by
  apply ByteArray.ext
  simp [strB, ByteArray.data_append]
theorem str_one (d : Nat) : strOfNums [((48 + d : Nat) : Int) % 256] = strB [UInt8.ofNat (48 + d)] := by
  have e1 : (((48 + d : Nat) : Int) % 256).toNat = (48 + d) % 256 := by omega
  have e2 : UInt8.ofNat ((48 + d) % 256) = UInt8.ofNat (48 + d) := by apply UInt8.toNat_inj.1; simp
  unfold strOfNums strB
  simp only [List.map_cons, List.map_nil, e1, e2]
theorem digits_len (u : Nat) : (Lib.decDigits u).length ≤ u + 1 := by
  induction u using Nat.strongRecOn with
  | _ u ih =>
    by_cases h : u < 10
    · rw [digits_one u h]; simp
    · rw [digits_step u (by omega), List.length_append]
      have := ih (u / 10) (by omega)
      simp; omega
theorem digits_len20 (u : Nat) (h : u < 100000000000000000000) : (Lib.decDigits u).length ≤ 20 := by
  have key : ∀ (m u : Nat), u < 10 ^ (m + 1) → (Lib.decDigits u).length ≤ m + 1 := by
    intro m
    induction m with
    | zero => intro u h; rw [digits_one u (by omega)]; simp
    | succ m ih =>
      intro u h
      by_cases c : u < 10
      · rw [digits_one u c]; simp
      · rw [digits_step u (by omega), List.length_append]
        have := ih (u / 10) (by rw [Nat.pow_succ] at h; omega)
        simp; omega
  exact key 19 u (by simpa using h)
theorem digits_len9 (u : Nat) (h : u < 1000000000) : (Lib.decDigits u).length ≤ 9 := by
  have key : ∀ (m u : Nat), u < 10 ^ (m + 1) → (Lib.decDigits u).length ≤ m + 1 := by
    intro m
    induction m with
    | zero => intro u h; rw [digits_one u (by omega)]; simp
    | succ m ih =>
      intro u h
      by_cases c : u < 10
      · rw [digits_one u c]; simp
      · rw [digits_step u (by omega), List.length_append]
        have := ih (u / 10) (by rw [Nat.pow_succ] at h; omega)
        simp; omega
  exact key 8 u (by simpa using h)
theorem l0_digits (u : Nat) : ∀ (x : Int) (out : List UInt8) (neg : Bool), x.natAbs = u → 0 < u → -9223372036854775808 ≤ x → x ≤ 9223372036854775807 → out.length + u + 1 ≤ 9223372036854775807 * 2 → out.length ≤ 30 →
    ∀ (hl : out.length + (Lib.decDigits u).length ≤ 30), Ev (fun k => spec_FormatInt.l0 k x (strB out) neg) (if neg = true then strB (45 :: (Lib.decDigits u ++ out)) else strB (Lib.decDigits u ++ out)) := by
  induction u using Nat.strongRecOn with
  | _ u ih =>
    intro x out neg hu h0 h1 h2 _ _ hl
    have hne : x ≠ 0 := by omega
    have hd : ∃ d : Nat, d = u % 10 ∧ (Int.tmod x 10).natAbs = d ∧ (Int.tdiv x 10).natAbs = u / 10 := by
      refine ⟨u % 10, rfl, ?_, ?_⟩
      · rw [Int.natAbs_tmod, hu]; rfl
      · rw [Int.natAbs_tdiv, hu]; rfl
    obtain ⟨d, hd1, hd2, hd3⟩ := hd
    have hd9 : d ≤ 9 := by omega
    -- what the round does
    have hround : ∀ k, spec_FormatInt.l0 (k + 1) x (strB out) neg = spec_FormatInt.l0 k (Int.tdiv x 10) (strB (UInt8.ofNat (48 + d) :: out)) neg := by
      intro k
      have hsz : (strB [UInt8.ofNat (48 + d)]).size + (strB out).size ≤ 9223372036854775807 := by
        rw [strB_size, strB_size]; simp; omega
      have hw : wrap64 (Int.tdiv x 10) = Int.tdiv x 10 := w64 (by omega) (by omega)
      rw [spec_FormatInt.l0, if_neg hne]
      by_cases c : Int.tmod x 10 < 0
      · have e1 : wrap64 (48 + wrap64 (-(Int.tmod x 10))) = ((48 + d : Nat) : Int) := by rw [w64 (x := -(Int.tmod x 10)) (by omega) (by omega), w64 (by omega) (by omega)]; omega
        rw [if_pos c, Option.bind_some, e1, str_one, if_pos hsz, hw, strB_append]
        rfl
      · have e1 : wrap64 (48 + Int.tmod x 10) = ((48 + d : Nat) : Int) := by rw [w64 (by omega) (by omega)]; omega
        rw [if_neg c, Option.bind_some, e1, str_one, if_pos hsz, hw, strB_append]
        rfl
    refine Ev.step hround ?_
    by_cases c : u < 10
    · have hz : Int.tdiv x 10 = 0 := by omega
      rw [hz, digits_one u c]
      have hdu : d = u := by omega
      rw [← hdu]
      refine Ev.step (f := fun _ => some (if neg = true then strB (45 :: ([UInt8.ofNat (48 + d)] ++ out)) else strB ([UInt8.ofNat (48 + d)] ++ out))) (fun k => ?_) (Ev.now _)
      rw [spec_FormatInt.l0, if_pos rfl]
      cases neg with
      | true =>
        rw [if_pos rfl, if_pos (by rw [strB_size]; simp; omega), if_pos rfl]
        congr 1
      | false => rfl
    · rw [digits_step u (by omega)] at hl ⊢
      rw [List.length_append] at hl
      have e := ih (u / 10) (by omega) (Int.tdiv x 10) (UInt8.ofNat (48 + d) :: out) neg hd3 (by omega) (by omega) (by omega) (by simp; omega) (by simp at hl ⊢; omega) (by simp at hl ⊢; omega)
      rw [hd1] at e ⊢
      simpa using e
theorem specFormat_ev (x : Int) (h : GI x) : Ev (fun k => spec_FormatInt.f k x) (strB (Lib.itoa x)) := by
  unfold GI at h
  by_cases c : x = 0
  · subst c
    refine Ev.congr (fun k => by rw [spec_FormatInt.f, if_pos rfl]) ?_
    have e : strB (Lib.itoa 0) = (⟨#[48]⟩ : ByteArray) := by unfold Lib.itoa; rw [if_neg (by omega), digits_one _ (by decide)]; rfl
    rw [e]; exact Ev.now _
  · have hl := digits_len20 x.natAbs (by omega)
    have e := l0_digits x.natAbs x [] (decide (x < 0)) rfl (by omega) (by omega) (by omega) (by simp; omega) (by simp) (by simp; omega)
    refine Ev.congr (fun k => by rw [spec_FormatInt.f, if_neg c]) ?_
    unfold Lib.itoa
    rw [List.append_nil, show strB [] = (⟨#[]⟩ : ByteArray) from rfl] at e
    by_cases cn : x < 0
    · rw [if_pos cn]
      simpa [cn] using e
    · rw [if_neg cn]
      have : x.toNat = x.natAbs := by omega
      rw [this]
      simpa [cn] using e
theorem implFormat_f (x : Int) (h : GI x) : impl_FormatInt.f x = some (strB (Lib.itoa x)) := by
  unfold GI at h
  rw [impl_FormatInt.f, strconv_Itoa_61.f, if_pos (by omega)]
  rfl

def isD (x : Int) : Bool := decide (48 ≤ x ∧ x ≤ 57)
def stepP (p : Int × Int) (x : Int) : Int × Int := if 48 ≤ x ∧ x ≤ 57 then (p.1 * 10 + (x - 48), p.2 + 1) else p
/-- What has been read stays below ten to the digits' number. -/
theorem step_bound (l : List Int) : ∀ (p : Int × Int) (c : Nat), 0 ≤ p.1 → p.2 = c → p.1 < (10 : Int) ^ c → ∃ c' : Nat, (l.foldl stepP p).2 = c' ∧ c ≤ c' ∧ c' ≤ c + l.length ∧ 0 ≤ (l.foldl stepP p).1 ∧ (l.foldl stepP p).1 < (10 : Int) ^ c' := by
  induction l with
  | nil => intro p c h0 h1 h2; exact ⟨c, h1, by omega, by simp, h0, h2⟩
  | cons x l ih =>
    intro p c h0 h1 h2
    rw [List.foldl_cons]
    by_cases hx : 48 ≤ x ∧ x ≤ 57
    · have e : stepP p x = (p.1 * 10 + (x - 48), p.2 + 1) := by unfold stepP; rw [if_pos hx]
      rw [e]
      obtain ⟨c', a, b, d, f, g⟩ := ih (p.1 * 10 + (x - 48), p.2 + 1) (c + 1) (by show 0 ≤ p.1 * 10 + (x - 48); omega) (by show p.2 + 1 = _; omega) (by
        show p.1 * 10 + (x - 48) < _
        rw [Int.pow_succ]
        generalize (10 : Int) ^ c = q at h2
        omega)
      exact ⟨c', a, by omega, by simp; omega, f, g⟩
    · have e : stepP p x = p := by unfold stepP; rw [if_neg hx]
      rw [e]
      obtain ⟨c', a, b, d, f, g⟩ := ih p c h0 h1 h2
      exact ⟨c', a, b, by simp; omega, f, g⟩
theorem pow_pos10 (m : Nat) : (0 : Int) < (10 : Int) ^ m := by
  induction m with
  | zero => decide
  | succ m ih => rw [Int.pow_succ]; generalize (10 : Int) ^ m = q at *; omega
theorem pow_le (i m : Nat) (h : i ≤ m) : (10 : Int) ^ i ≤ (10 : Int) ^ m := by
  induction m with
  | zero =>
    obtain rfl : i = 0 := by omega
    exact Int.le_refl _
  | succ m ih =>
    by_cases c : i = m + 1
    · subst c; exact Int.le_refl _
    · have h1 := ih (by omega)
      have h2 := pow_pos10 m
      rw [Int.pow_succ]
      generalize (10 : Int) ^ m = q at *
      omega
theorem ten11 : (10 : Int) ^ 11 = 100000000000 := by decide
theorem ten9 : (10 : Int) ^ 9 = 1000000000 := by decide
def fin (m : Int) (s : ByteArray) : Int × Bool := if (strB (Lib.itoa m)).toList = s.toList then (m, true) else (0, false)
def isNeg (s : ByteArray) : Bool := decide (0 < s.size ∧ bt s 0 = 45)
def fin2 (p : Int × Int) (s : ByteArray) : Int × Bool := if p.2 > 9 then (0, false) else if (s.size : Int) > 10 then (0, false) else fin (if isNeg s = true then -p.1 else p.1) s
theorem specParseInt_ev (s : ByteArray) (hs : s.size ≤ 1048576) : Ev (fun k => spec_ParseInt.f k s) (fin2 (((bytesOf s).take 11).foldl stepP (0, 0)) s) := by
  have j2 : ∀ (n c : Int) (b : Bool), 0 ≤ n → n < 100000000000 → b = isNeg s → Ev (fun k => spec_ParseInt.j2 k s n c b) (fin2 (n, c) s) := by
    intro n c b h0 h1 hb
    subst hb
    unfold fin2 fin
    cases hn : isNeg s with
    | true =>
      refine Ev.step (f := fun k => if c > 9 then some (0, false) else if (s.size : Int) > 10 then some (0, false) else (spec_FormatInt.f k (-n)).bind fun t => if t.toList = s.toList then some (-n, true) else some (0, false)) (fun k => ?_) ?_
      · rw [spec_ParseInt.j2, if_pos rfl, w64 (by omega) (by omega)]
      · by_cases c1 : c > 9
        · simp only [c1, if_true]; exact Ev.now _
        · by_cases c2 : (s.size : Int) > 10
          · simp only [c1, c2, if_true, if_false]; exact Ev.now _
          · simp only [c1, c2, if_false, if_true]
            refine Ev.bind (specFormat_ev (-n) (by unfold GI; omega)) ?_
            by_cases c3 : (strB (Lib.itoa (-n))).toList = s.toList
            · simp only [c3, if_true]; exact Ev.now _
            · simp only [c3, if_false]; exact Ev.now _
    | false =>
      refine Ev.step (f := fun k => if c > 9 then some (0, false) else if (s.size : Int) > 10 then some (0, false) else (spec_FormatInt.f k n).bind fun t => if t.toList = s.toList then some (n, true) else some (0, false)) (fun k => ?_) ?_
      · rw [spec_ParseInt.j2, if_neg (by simp)]
      · by_cases c1 : c > 9
        · simp only [c1, if_true]; exact Ev.now _
        · by_cases c2 : (s.size : Int) > 10
          · simp only [c1, c2, if_true, if_false]; exact Ev.now _
          · simp only [c1, c2, if_false, Bool.false_eq_true]
            refine Ev.bind (specFormat_ev n (by unfold GI; omega)) ?_
            by_cases c3 : (strB (Lib.itoa n)).toList = s.toList
            · simp only [c3, if_true]; exact Ev.now _
            · simp only [c3, if_false]; exact Ev.now _
  have stop : ∀ (n c : Int) (i : Nat), 0 ≤ n → n < 100000000000 → Ev (fun k => spec_ParseInt.j1 k s n c i false) (fin2 (n, c) s) := by
    intro n c i h0 h1
    by_cases hz : 0 < s.size
    · refine Ev.step (f := fun k => spec_ParseInt.j2 k s n c (bt s 0 == 45)) (fun k => ?_) (j2 n c _ h0 h1 ?_)
      · rw [spec_ParseInt.j1, if_neg (by simp), if_pos (by omega), if_pos (by omega)]
      · unfold isNeg
        by_cases c2 : bt s 0 = 45
        · rw [decide_eq_true ⟨hz, c2⟩, c2]; rfl
        · rw [decide_eq_false (fun h => c2 h.2)]; exact beq_eq_false_iff_ne.2 c2
    · refine Ev.step (f := fun k => spec_ParseInt.j2 k s n c false) (fun k => ?_) (j2 n c _ h0 h1 ?_)
      · rw [spec_ParseInt.j1, if_neg (by simp), if_neg (by omega)]
      · unfold isNeg; rw [decide_eq_false (fun h => hz h.1)]
  have loop : ∀ (d i : Nat) (n c : Int), i + d = min s.size 11 → 0 ≤ n → n < (10 : Int) ^ i → 0 ≤ c → c ≤ i → Ev (fun k => spec_ParseInt.l0 k s n c i) (fin2 ((((bytesOf s).take 11).drop i).foldl stepP (n, c)) s) := by
    intro d
    induction d with
    | zero =>
      intro i n c hi h0 h1 h2 h3
      have e1 : ((bytesOf s).take 11).drop i = [] := by rw [List.drop_eq_nil_iff, List.length_take, bytesOf_length]; omega
      have hp := pow_le i 11 (by omega)
      rw [ten11] at hp
      rw [e1, List.foldl_nil]
      refine Ev.step (f := fun k => spec_ParseInt.j1 k s n c i false) (fun k => ?_) (stop n c i h0 (by omega))
      rw [spec_ParseInt.l0]
      by_cases c1 : (i : Int) < (s.size : Int)
      · rw [if_pos c1, decide_eq_false (by omega)]
      · rw [if_neg c1]
    | succ d ih =>
      intro i n c hi h0 h1 h2 h3
      have hp := pow_le i 10 (by omega)
      have ht : (10 : Int) ^ 10 = 10000000000 := by decide
      rw [ht] at hp
      have e1 : ((bytesOf s).take 11).drop i = bt s i :: ((bytesOf s).take 11).drop (i + 1) := by
        rw [List.drop_take, drop_bytes s i (by omega), List.drop_take, show 11 - i = (11 - (i + 1)) + 1 by omega, List.take_succ_cons]
      have hb := bt_range s i
      rw [e1, List.foldl_cons]
      by_cases hx : 48 ≤ bt s i ∧ bt s i ≤ 57
      · have es : stepP (n, c) (bt s i) = (n * 10 + (bt s i - 48), c + 1) := by unfold stepP; rw [if_pos hx]
        rw [es]
        have hq : n * 10 + (bt s i - 48) < (10 : Int) ^ (i + 1) := by
          rw [Int.pow_succ]
          generalize (10 : Int) ^ i = q at h1 hp
          omega
        refine Ev.step (f := fun k => spec_ParseInt.j1 k s n c i true) (fun k => ?_) (Ev.step (f := fun k => spec_ParseInt.l0 k s (n * 10 + (bt s i - 48)) (c + 1) ((i + 1 : Nat) : Int)) (fun k => ?_) (ih (i + 1) _ _ (by omega) (by omega) hq (by omega) (by omega)))
        · rw [spec_ParseInt.l0, if_pos (by omega), decide_eq_true (by omega)]
        · rw [spec_ParseInt.j1, if_pos rfl, if_pos (by omega), if_pos (by omega), if_pos (by omega), if_pos (by omega), w64_succ (by omega), w64 (x := n * 10) (by omega) (by omega), w64 (by omega) (by omega), w64 (x := c + 1) (by omega) (by omega), show (bt s i - 48) % 256 = bt s i - 48 by omega]
      · have es : stepP (n, c) (bt s i) = (n, c) := by unfold stepP; rw [if_neg hx]
        rw [es]
        have hq : n < (10 : Int) ^ (i + 1) := by
          rw [Int.pow_succ]
          generalize (10 : Int) ^ i = q at h1 hp
          omega
        refine Ev.step (f := fun k => spec_ParseInt.j1 k s n c i true) (fun k => ?_) (Ev.step (f := fun k => spec_ParseInt.l0 k s n c ((i + 1 : Nat) : Int)) (fun k => ?_) (ih (i + 1) n c (by omega) h0 hq h2 (by omega)))
        · rw [spec_ParseInt.l0, if_pos (by omega), decide_eq_true (by omega)]
        · rw [spec_ParseInt.j1, if_pos rfl, if_pos (by omega), if_pos (by omega), w64_succ (by omega)]
          by_cases c1 : bt s i ≥ 48
          · rw [if_pos c1, if_neg (by omega)]
          · rw [if_neg c1]
  have e := loop (min s.size 11) 0 0 0 (by omega) (by omega) (by decide) (by omega) (by omega)
  exact Ev.congr (fun k => by rw [spec_ParseInt.f]; rfl) e
def fin3 (t : List Int) (sg : Int) (s : ByteArray) : Int × Bool := if 1 ≤ t.length ∧ t.length ≤ 9 then (if t.all isD = true then fin (sg * (t.foldl stepP (0, 0)).1) s else (0, false)) else (0, false)
theorem implParseT_ev (s t : ByteArray) (sg : Int) (ht : t.size ≤ 1048576) (hsg : sg = 1 ∨ sg = -1) : Ev (fun k => impl_ParseInt.j1 k s t sg) (fin3 (bytesOf t) sg s) := by
  unfold fin3
  rw [bytesOf_length]
  have loop : t.size ≤ 9 → ∀ (d i : Nat) (n c : Int), i + d = t.size → 0 ≤ n → n < (10 : Int) ^ i → Ev (fun k => impl_ParseInt.l0 k s t sg n t.size i) (if ((bytesOf t).drop i).all isD = true then fin (sg * (((bytesOf t).drop i).foldl stepP (n, c)).1) s else (0, false)) := by
    intro h9 d
    induction d with
    | zero =>
      intro i n c hi h0 h1
      have e1 : (bytesOf t).drop i = [] := by rw [List.drop_eq_nil_iff, bytesOf_length]; omega
      have hp := pow_le i 9 (by omega)
      rw [ten9] at hp
      rw [e1, List.all_nil, if_pos rfl, List.foldl_nil]
      have hr : -1000000000 ≤ sg * n ∧ sg * n ≤ 1000000000 := by rcases hsg with rfl | rfl <;> omega
      refine Ev.step (f := fun _ => some (fin (sg * n) s)) (fun k => ?_) (Ev.now _)
      rw [impl_ParseInt.l0, if_neg (by omega), w64 (by omega) (by omega), implFormat_f _ (by unfold GI; omega), Option.bind_some]
      unfold fin
      split <;> rfl
    | succ d ih =>
      intro i n c hi h0 h1
      have hp := pow_le i 9 (by omega)
      rw [ten9] at hp
      have hb := bt_range t i
      rw [drop_bytes t i (by omega), List.all_cons, List.foldl_cons]
      by_cases hx : 48 ≤ bt t i ∧ bt t i ≤ 57
      · have es : stepP (n, c) (bt t i) = (n * 10 + (bt t i - 48), c + 1) := by unfold stepP; rw [if_pos hx]
        have ed : isD (bt t i) = true := decide_eq_true hx
        rw [es, ed, Bool.true_and]
        have hq : n * 10 + (bt t i - 48) < (10 : Int) ^ (i + 1) := by
          rw [Int.pow_succ]
          generalize (10 : Int) ^ i = q at h1 hp
          omega
        refine Ev.step (f := fun k => impl_ParseInt.l0 k s t sg (n * 10 + (bt t i - 48)) t.size ((i + 1 : Nat) : Int)) (fun k => ?_) (ih (i + 1) _ (c + 1) (by omega) (by omega) hq)
        rw [impl_ParseInt.l0, if_pos (by omega), if_pos (by omega), if_pos (by omega), if_neg (by omega), if_neg (by omega), w64_succ (by omega), w64 (x := 10 * n) (by omega) (by omega), w64 (by omega) (by omega), show 10 * n + (bt t i - 48) % 256 = n * 10 + (bt t i - 48) by omega]
      · have ed : isD (bt t i) = false := decide_eq_false hx
        rw [ed, Bool.false_and, if_neg (by simp)]
        refine Ev.step (f := fun _ => some (0, false)) (fun k => ?_) (Ev.now _)
        rw [impl_ParseInt.l0, if_pos (by omega), if_pos (by omega), if_pos (by omega)]
        by_cases c1 : bt t i < 48
        · rw [if_pos c1]
        · rw [if_neg c1, if_pos (by omega)]
  by_cases c1 : 1 ≤ t.size ∧ t.size ≤ 9
  · rw [if_pos c1]
    have e := loop c1.2 t.size 0 0 0 (by omega) (by omega) (by decide)
    rw [List.drop_zero] at e
    refine Ev.step (f := fun k => impl_ParseInt.l0 k s t sg 0 t.size 0) (fun k => ?_) e
    rw [impl_ParseInt.j1, within_f, Option.bind_some, if_pos (decide_eq_true (by omega))]
  · rw [if_neg c1]
    refine Ev.step (f := fun _ => some (0, false)) (fun k => ?_) (Ev.now _)
    rw [impl_ParseInt.j1, within_f, Option.bind_some, if_neg (by simp; omega)]
theorem bytes_tail (s : ByteArray) : bytesOf (s.extract 1 s.size) = (bytesOf s).drop 1 := by
  have e : (s.extract 1 s.size).data.toList = s.data.toList.drop 1 := by
    rw [ByteArray.data_extract, Array.toList_extract, List.extract_eq_take_drop, List.take_of_length_le]
    rw [List.length_drop, Array.length_toList]
    exact Nat.le_refl _
  unfold bytesOf
  rw [← List.map_drop, e]
theorem implParseInt_ev (s : ByteArray) (hs : s.size ≤ 1048576) : Ev (fun k => impl_ParseInt.f k s) (if isNeg s = true then fin3 ((bytesOf s).drop 1) (-1) s else fin3 (bytesOf s) 1 s) := by
  have hpos := implParseT_ev s s 1 hs (.inl rfl)
  by_cases hz : 0 < s.size
  · refine Ev.congr (fun k => by rw [impl_ParseInt.f, if_pos (by omega), if_pos (by omega)]) ?_
    by_cases c2 : bt s 0 = 45
    · have hn : isNeg s = true := decide_eq_true ⟨hz, c2⟩
      rw [if_pos hn, ← bytes_tail]
      have ht : (s.extract 1 s.size).size ≤ 1048576 := by simp; omega
      refine Ev.step (f := fun k => impl_ParseInt.j1 k s (s.extract 1 s.size) (-1)) (fun k => ?_) (implParseT_ev s _ (-1) ht (.inr rfl))
      rw [impl_ParseInt.j0, if_pos (by rw [c2]; rfl), if_pos (by omega)]
    · have hn : ¬ isNeg s = true := by unfold isNeg; rw [decide_eq_false (fun h => c2 h.2)]; simp
      rw [if_neg hn]
      refine Ev.step (f := fun k => impl_ParseInt.j1 k s s 1) (fun k => ?_) hpos
      rw [impl_ParseInt.j0, if_neg (by simpa using c2)]
  · have hn : ¬ isNeg s = true := by unfold isNeg; rw [decide_eq_false (fun h => hz h.1)]; simp
    rw [if_neg hn]
    refine Ev.congr (fun k => by rw [impl_ParseInt.f, if_neg (by omega)]) (Ev.step (f := fun k => impl_ParseInt.j1 k s s 1) (fun k => ?_) hpos)
    rw [impl_ParseInt.j0, if_neg (by simp)]

/-- The digits of u, as numbers. -/
def dig (u : Nat) : List Int := (Lib.decDigits u).map (fun b => (b.toNat : Int))
theorem dig_one (u : Nat) (h : u < 10) : dig u = [48 + (u : Int)] := by
  unfold dig; rw [digits_one u h]; simp; omega
theorem dig_step (u : Nat) (h : 10 ≤ u) : dig u = dig (u / 10) ++ [48 + ((u % 10 : Nat) : Int)] := by
  unfold dig; rw [digits_step u h]; simp; omega
theorem dig_all (u : Nat) : (dig u).all isD = true ∧ 1 ≤ (dig u).length ∧ (dig u).foldl stepP (0, 0) = ((u : Int), ((dig u).length : Int)) := by
  induction u using Nat.strongRecOn with
  | _ u ih =>
    by_cases h : u < 10
    · rw [dig_one u h]
      have hx : 48 ≤ 48 + (u : Int) ∧ 48 + (u : Int) ≤ 57 := by omega
      refine ⟨by simp [isD]; omega, by simp, ?_⟩
      rw [List.foldl_cons, List.foldl_nil]
      unfold stepP
      rw [if_pos hx]
      simp
      omega
    · obtain ⟨a, b, e⟩ := ih (u / 10) (by omega)
      rw [dig_step u (by omega)]
      have hx : 48 ≤ 48 + ((u % 10 : Nat) : Int) ∧ 48 + ((u % 10 : Nat) : Int) ≤ 57 := by omega
      refine ⟨by rw [List.all_append, a]; simp [isD]; omega, by simp, ?_⟩
      rw [List.foldl_append, e, List.foldl_cons, List.foldl_nil]
      unfold stepP
      rw [if_pos hx, List.length_append]
      refine Prod.ext ?_ ?_
      · show ((u / 10 : Nat) : Int) * 10 + (48 + ((u % 10 : Nat) : Int) - 48) = u
        omega
      · simp
theorem bytes_strB (l : List UInt8) : bytesOf (strB l) = l.map (fun b => (b.toNat : Int)) := by simp [bytesOf, strB]
theorem strB_of (s : ByteArray) (m : Int) (h : (strB (Lib.itoa m)).toList = s.toList) : s = strB (Lib.itoa m) := by
  apply ByteArray.ext
  rw [toList_data, toList_data] at h
  exact Array.toList_inj.1 h.symm
theorem parse_same (s : ByteArray) : fin2 (((bytesOf s).take 11).foldl stepP (0, 0)) s = (if isNeg s = true then fin3 ((bytesOf s).drop 1) (-1) s else fin3 (bytesOf s) 1 s) := by
  by_cases E : ∃ m : Int, -999999999 ≤ m ∧ m ≤ 999999999 ∧ s = strB (Lib.itoa m)
  · obtain ⟨m, h0, h1, rfl⟩ := E
    have hf : fin m (strB (Lib.itoa m)) = (m, true) := by unfold fin; rw [if_pos rfl]
    obtain ⟨ha, hl, hv⟩ := dig_all m.natAbs
    have hl9 : (dig m.natAbs).length ≤ 9 := by
      have : (Lib.decDigits m.natAbs).length ≤ 9 := digits_len9 _ (by omega)
      unfold dig; simpa using this
    by_cases cn : m < 0
    · have eb : bytesOf (strB (Lib.itoa m)) = 45 :: dig m.natAbs := by rw [bytes_strB]; unfold Lib.itoa dig; rw [if_pos cn]; rfl
      have es : (strB (Lib.itoa m)).size = (dig m.natAbs).length + 1 := by rw [← bytesOf_length, eb]; rfl
      have e0 : bt (strB (Lib.itoa m)) 0 = 45 := by
        have := drop_bytes (strB (Lib.itoa m)) 0 (by omega)
        rw [List.drop_zero, eb] at this
        exact (List.cons.inj this).1.symm
      have hn : isNeg (strB (Lib.itoa m)) = true := decide_eq_true ⟨by omega, e0⟩
      have h45 : stepP (0, 0) 45 = (0, 0) := by unfold stepP; rw [if_neg (by omega)]
      rw [if_pos hn, eb, List.take_of_length_le (by simp; omega), List.foldl_cons, h45, hv]
      unfold fin2 fin3
      rw [if_neg (by show ¬ (((dig m.natAbs).length : Int) > 9); omega), if_neg (by omega), if_pos hn]
      simp only [List.drop_succ_cons, List.drop_zero]
      rw [if_pos (by omega), if_pos ha, hv]
      have e1 : -(m.natAbs : Int) = m := by omega
      show fin (-(m.natAbs : Int)) _ = fin (-1 * (m.natAbs : Int)) _
      congr 1; omega
    · have eb : bytesOf (strB (Lib.itoa m)) = dig m.natAbs := by rw [bytes_strB]; unfold Lib.itoa dig; rw [if_neg cn]; congr 2; omega
      have es : (strB (Lib.itoa m)).size = (dig m.natAbs).length := by rw [← bytesOf_length, eb]
      have hn : ¬ isNeg (strB (Lib.itoa m)) = true := by
        unfold isNeg
        rw [decide_eq_true_eq]
        rintro ⟨h2, h3⟩
        have := drop_bytes (strB (Lib.itoa m)) 0 h2
        rw [List.drop_zero, eb, show ((0 : Nat) : Int) = 0 from rfl, h3] at this
        rw [this] at ha
        simp [isD] at ha
      rw [if_neg hn, eb, List.take_of_length_le (by omega), hv]
      unfold fin2 fin3
      rw [if_neg (by show ¬ (((dig m.natAbs).length : Int) > 9); omega), if_neg (by omega), if_neg hn, if_pos (by omega), if_pos ha, hv]
      show fin (m.natAbs : Int) _ = fin (1 * (m.natAbs : Int)) _
      congr 1; omega
  · have nofin : ∀ m : Int, -999999999 ≤ m → m ≤ 999999999 → fin m s = (0, false) := by
      intro m h0 h1
      unfold fin
      rw [if_neg (fun h => E ⟨m, h0, h1, strB_of s m h⟩)]
    have hleft : fin2 (((bytesOf s).take 11).foldl stepP (0, 0)) s = (0, false) := by
      obtain ⟨c', a, _, _, f, g⟩ := step_bound ((bytesOf s).take 11) (0, 0) 0 (by decide) rfl (by decide)
      generalize ((bytesOf s).take 11).foldl stepP (0, 0) = p at *
      unfold fin2
      by_cases c1 : p.2 > 9
      · rw [if_pos c1]
      · rw [if_neg c1]
        by_cases c2 : (s.size : Int) > 10
        · rw [if_pos c2]
        · rw [if_neg c2]
          have hp := pow_le c' 9 (by omega)
          rw [ten9] at hp
          apply nofin <;> split <;> omega
    have hright : ∀ (l : List Int) (sg : Int), (sg = 1 ∨ sg = -1) → fin3 l sg s = (0, false) := by
      intro l sg hsg
      unfold fin3
      by_cases c1 : 1 ≤ l.length ∧ l.length ≤ 9
      · rw [if_pos c1]
        by_cases c2 : l.all isD = true
        · rw [if_pos c2]
          obtain ⟨c', a, _, d, f, g⟩ := step_bound l (0, 0) 0 (by decide) rfl (by decide)
          have hp := pow_le c' 9 (by omega)
          rw [ten9] at hp
          generalize l.foldl stepP (0, 0) = p at *
          apply nofin <;> rcases hsg with rfl | rfl <;> omega
        · rw [if_neg c2]
      · rw [if_neg c1]
    rw [hleft]
    split
    · exact (hright _ _ (.inr rfl)).symm
    · exact (hright _ _ (.inl rfl)).symm

theorem FnExactParseInt (a0 : ByteArray) (g0 : GS a0) : ∃ k, laws_FnExactParseInt.f k a0 = some true := by
  by_cases c : (a0.size : Int) > 1048576
  · exact ⟨0, by rw [laws_FnExactParseInt.f, if_pos c]⟩
  · have e := specParseInt_ev a0 (by omega)
    have e2 := implParseInt_ev a0 (by omega)
    rw [← parse_same a0] at e2
    refine Ev.rounds (r := true) (Ev.congr (fun k => by rw [laws_FnExactParseInt.f, if_neg c]) (Ev.bind e (Ev.bind e2 ?_)))
    simp only [if_true, bne_self_eq_false, Bool.false_eq_true, if_false]
    exact Ev.now _

end Go.Proofs.YtjphbdnfbkfgiaaDoor.Pure
