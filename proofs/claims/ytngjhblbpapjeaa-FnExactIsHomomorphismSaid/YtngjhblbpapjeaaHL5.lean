/- Walks: the laws' own marks. No condition. -/
import Derived.Test.YtngjhblbpapjeaaHL4
namespace Go.Proofs.Ytngjhblbpapjeaa.H
open Go Go.RowKit Go.Proofs.YtngjhblbpapjeaaW.PrintWords Go.Proofs.YtngjhblbpapjeaaW.PrintLast
open Go.Proofs.Ytngjhblbpapjeaa.Reg (On on_draw)
set_option maxHeartbeats 1000000
set_option maxRecDepth 100000
set_option linter.unusedVariables false
set_option linter.unusedSimpArgs false

/-- What a mark writes. -/
def markI (k : Int) : Nat → List Int
  | 0 => []
  | n + 1 => k :: markI (k + 1) n
theorem markI_len (k : Int) (n : Nat) : (markI k n).length = n := by
  induction n generalizing k with
  | zero => rfl
  | succ n ih => simp [markI, ih]
theorem markI_succ (k : Int) (n : Nat) : markI k (n + 1) = markI k n ++ [k + n] := by
  induction n generalizing k with
  | zero => simp [markI]
  | succ n ih =>
    have h := ih (k + 1)
    rw [markI, h, markI, show k + 1 + (n : Int) = k + ((n + 1 : Nat) : Int) by omega]; rfl
theorem markI_at (k : Int) (n i : Nat) (h : i < (markI k n).length) : (markI k n)[i] = k + i := by
  induction n generalizing k i with
  | zero => simp [markI] at h
  | succ n ih =>
    cases i with
    | zero => simp [markI]
    | succ i => simp only [markI, List.getElem_cons_succ]; rw [ih]; omega
theorem markI_inR (k : Int) (n : Nat) (h0 : 0 ≤ k) (h1 : k + n ≤ 10000000) : InR (markI k n) := fun x hx => by
  obtain ⟨i, hi, rfl⟩ := List.getElem_of_mem hx
  rw [markI_at]; rw [markI_len] at hi; omega
theorem markIntS_calls (w : World) (lo : Nat) (v : Value) (xs : List Int) (k0 : Int) (h : OI w lo v xs) (h0 : 0 ≤ k0) (h1 : k0 + xs.length ≤ 10000000) : Calls Try.prog 19 #[v, .int .i64 k0] w fun e w' => e = .returned (.int .i64 (k0 + xs.length)) ∧ OI w' lo v (markI k0 xs.length) ∧ Ex (fun b => some b = v.ownBlock) w w' := by
  rcases h.2 with ⟨rfl, hn⟩ | ⟨g, c, cur, rfl, hg⟩
  · obtain rfl : xs = [] := List.eq_nil_of_length_eq_zero hn
    go_enter Try.func19, Try.ntmps19
    go_wp2
    go_loop [5, 1] (fun v5 v1 => v5 = .int .i64 0 ∧ v1 = .int .i64 k0) (fun v _ => 0)
    case atStart => exact ⟨rfl, rfl⟩
    case round =>
      obtain ⟨rfl, rfl⟩ := hrel
      go_wp2
      go_ret
      exact ⟨by simp, h, Ex.refl _ _⟩
  · clear hg
    have h' := Aside0.mk h
    clear h
    go_enter Try.func19, Try.ntmps19
    go_wp2
    go_loopw [5, 1] (fun v5 v1 wr => ∃ (k : Nat) (cs : List Value), k ≤ xs.length ∧ v5 = .int .i64 k ∧ v1 = .int .i64 (k0 + k) ∧ Aside0 (wr.ownsRow lo 3 1 (.slice (some ⟨g, 0, none⟩) xs.length c) xs.length ((markI k0 k).flatMap encI ++ cs)) ∧ Ex (fun b => some b = some g) w wr) (fun v5 _ _ => xs.length - (intOf v5).toNat)
    case atStart => exact ⟨0, xs.flatMap encI, Nat.zero_le _, rfl, by simp, h', Ex.refl _ _⟩
    case round =>
      obtain ⟨k, cs, hk, rfl, rfl, hO, hE⟩ := hrel
      have hO2 := hO
      clear hO
      by_cases hlt : k < xs.length
      · have hcl := Aside0.mk (show 0 < cs.length by have := hO2.out.1; rw [List.length_append, flat_len (enc := encI) (sz := 1) (fun _ => rfl), markI_len] at this; omega)
        have hfz : wr.frozen? ⟨g, k, none⟩ = false := own_frozen hO2.out k
        obtain ⟨z, hz⟩ := own_some hO2.out k (by omega)
        have hw : IntKind.i64.wrap (k0 + (k : Int) + 1) = k0 + ((k + 1 : Nat) : Int) := by rw [IntWalk.i64_in _ (by omega)]; omega
        go_wp2
        obtain ⟨z0, cs', rfl⟩ : ∃ z0 cs', cs = z0 :: cs' := by
          cases cs with
          | nil => exact absurd hcl.out (by simp)
          | cons a b => exact ⟨a, b, rfl⟩
        refine ⟨⟨k + 1, cs', by omega, by go_num, by rfl, ⟨?_⟩, hE.trans (Ex.set wr _ _) (fun i _ e => by rw [e])⟩, by simp [intOf]; omega⟩
        have := (hO2.out.stored k (.int .i64 (k0 + k))).1
        rw [set1 k (by rw [flat_len (enc := encI) (sz := 1) (fun _ => rfl), markI_len]; omega)] at this
        rw [markI_succ, List.flatMap_append, List.append_assoc]
        exact this
      · go_wp2
        go_ret
        obtain rfl : k = xs.length := by omega
        have h1 := hO2.out
        have h2 := h1.1
        have h3 : cs = [] := by
          rw [List.length_append, flat_len (enc := encI) (sz := 1) (fun _ => rfl), markI_len] at h2
          exact List.eq_nil_of_length_eq_zero (by omega)
        subst h3
        rw [List.append_nil] at h1
        refine ⟨rfl, ?_, hE⟩
        show World.ownsRow _ _ _ _ _ (markI k0 xs.length).length _
        rw [markI_len]
        exact h1
theorem heldIntS_calls (w : World) (A c) (n : Nat) (k0 : Int) (h : Ints w A c (markI k0 n)) (h0 : 0 ≤ k0) (h1 : k0 + n ≤ 10000000) : Calls Try.prog 20 #[.slice A n c, .int .i64 k0] w fun e w' => e = .returned (.int .i64 (k0 + n)) ∧ On w w' := by
  have hl := markI_len k0 n
  go_enter Try.func20, Try.ntmps20
  go_wp2
  go_loopw [5, 1] (fun v5 v1 wr => ∃ k : Nat, k ≤ n ∧ v5 = .int .i64 k ∧ v1 = .int .i64 (k0 + k) ∧ On w wr) (fun v5 _ _ => n - (intOf v5).toNat)
  case atStart => exact ⟨0, Nat.zero_le _, rfl, by simp, On.refl _⟩
  case round =>
    obtain ⟨k, hk, rfl, rfl, hB⟩ := hrel
    by_cases hlt : k < n
    · obtain ⟨ad, rfl, hx⟩ := (h.on hB).at k (by rw [hl]; exact hlt)
      rw [markI_at] at hx
      have hw : IntKind.i64.wrap (k0 + (k : Int) + 1) = k0 + ((k + 1 : Nat) : Int) := by rw [IntWalk.i64_in _ (by omega)]; omega
      go_wp2
      go_roundw
      case rel => exact ⟨k + 1, by omega, by go_num, rfl, hB⟩
      case measure => simp [intOf]; omega
    · go_wp2
      go_ret
      exact ⟨ret_int (by omega), hB⟩
def mDig (m : Int) (s : ByteArray) : ByteArray := if h : 0 < m then mDig (m / 10) (strOfNums [48 + m % 10] ++ s) else s
termination_by m.toNat
decreasing_by omega
def mText (k : Int) : ByteArray := ⟨#[109]⟩ ++ mDig k ⟨#[]⟩
theorem markText_calls (w : World) (k : Int) (h0 : 1 ≤ k) (h1 : k ≤ 10000000) : Calls Try.prog 106 #[.int .i64 k] w fun e w' => e = .returned (.string (mText k)) ∧ On w w' := by
  have hb : decide (k ≤ 0) = false := decide_eq_false (by omega)
  go_enter Try.func106, Try.ntmps106
  go_wp2
  go_loopw [0, 3] (fun v0 v3 wr => ∃ (m : Int) (s : ByteArray), 0 ≤ m ∧ m ≤ 10000000 ∧ v0 = .int .i64 m ∧ v3 = .string s ∧ Aside0 (mDig m s = mDig k ⟨#[]⟩) ∧ s.size + m ≤ 10000000 ∧ On w wr) (fun v0 _ _ => (intOf v0).toNat)
  case atStart => exact ⟨k, _, by omega, h1, rfl, rfl, ⟨rfl⟩, by show ((0 : Nat) : Int) + k ≤ 10000000; omega, On.refl _⟩
  case round =>
    obtain ⟨m, s, hm0, hm1, rfl, rfl, hp, hsm, hB⟩ := hrel
    by_cases hpos : 0 < m
    · have hcv : (convert 60 9 (.slice (some ⟨wr.heap.size, 0, none⟩) 1 1)).run Try.prog (wr.alloc (.cells #[.int .u8 (48 + m % 10)] 5)) = .ok (.string (strOfNums [48 + m % 10])) (wr.alloc (.cells #[.int .u8 (48 + m % 10)] 5)) :=
        own_string (P := Try.prog) Try.underlying60 Try.underlying5 Try.underlying9 (own_lit wr 0 5 .u8 [48 + m % 10] (Nat.zero_le _) (by simp))
      have hst := Aside0.mk (show mDig (m / 10) (strOfNums [48 + m % 10] ++ s) = mDig k ⟨#[]⟩ by rw [← hp.out]; conv => rhs; rw [mDig, dif_pos hpos])
      have hs1 : (strOfNums [48 + m % 10]).size = 1 := rfl
      clear hp
      go_wp2
      exact ⟨⟨m / 10, _, by omega, by omega, rfl, rfl, hst, by rw [ByteArray.size_append, hs1]; omega, hB.trans (On.alloc (On.refl _) _)⟩, by simp [intOf]; omega⟩
    · have hst := Aside0.mk (show s = mDig k ⟨#[]⟩ by rw [← hp.out]; conv => rhs; rw [mDig, dif_neg hpos])
      clear hp
      go_wp2
      go_ret
      exact ⟨by show Ending.returned (.string _) = _; rw [hst.out]; rfl, hB⟩
end Go.Proofs.Ytngjhblbpapjeaa.H
