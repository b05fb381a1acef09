/- Walks and plain laws for the law FnExactParseFact, part 2 of 3: the texts HL1, HL3, HL2, HL4, HL5, HL6, HL7, HO2, HF3, HF4, HF5, HC2, HF6, HC3, HF7, HF8, HL8, HF9, HF12, HF11, HF10, HF13, HB4, HB5, HB6, HB7, HB8, HRegT, HL9 in one. No condition. -/
import Derived.Maps.AppendAt
import Derived.Lib.SliceRun
import Derived.Lib.IndexBytes
import Derived.Test.YtgemaohdlibboaaDoorZFnExactParseFact1
/- Walks: the laws' own helpers: how large, copies. No condition. -/
namespace Go.Proofs.YtgemaohdlibboaaDoor.H
open Go Go.RowKit Go.Proofs.YtgemaohdlibboaaDoorW.PrintWords Go.Proofs.YtgemaohdlibboaaDoorW.PrintLast
open Go.Proofs.YtgemaohdlibboaaDoor.Reg (On on_draw)
set_option maxHeartbeats 1000000
set_option maxRecDepth 100000
set_option linter.unusedVariables false
set_option linter.unusedSimpArgs false

/-- How much relations and facts weigh. -/
def wR (rs : List Rel) : Nat := (rs.map fun r => r.1.size + 1).sum
theorem wR_take (rs : List Rel) (k : Nat) (h : k < rs.length) : wR (rs.take (k + 1)) = wR (rs.take k) + (rs[k].1.size + 1) := by
  unfold wR; rw [List.take_succ_eq_append_getElem h, List.map_append, List.sum_append]; simp only [List.map_cons, List.map_nil, List.sum_cons, List.sum_nil, Nat.add_zero]
/-- A measure was taken: what is left, if anything. -/
structure Sz (n : Int) (m : Nat) (w : World) (e : Ending) (w' : World) : Prop where mk :: (out : ∃ q : Int, e = .returned (.int .i64 q) ∧ (0 ≤ q → q + m ≤ n) ∧ On w w')
theorem szRelation_calls (w : World) (r : Rel) (n : Int) (h0 : 0 ≤ n) (h1 : n ≤ 2000000) (hs : r.1.size ≤ 9223372036854775807) : Calls Tryd.prog 24 #[.agg #[.string r.1, .int .i64 r.2.1, .bool r.2.2], .int .i64 n] w (Sz n r.1.size w) := by
  have hw : IntKind.i64.wrap (n - (r.1.size : Int)) = n - r.1.size := IntWalk.i64_in _ (by omega)
  by_cases h : n - (r.1.size : Int) < 0
  · have hb : decide (n - (r.1.size : Int) < 0) = true := decide_eq_true h
    have hb2 : decide (n < (r.1.size : Int)) = true := decide_eq_true (by omega)
    go_enter Tryd.func24, Tryd.ntmps24
    go_wp2
    go_ret
    exact ⟨_, rfl, fun h => by omega, On.alloc (On.refl _) _⟩
  · have hb : decide (n - (r.1.size : Int) < 0) = false := decide_eq_false h
    have hb2 : decide (n < (r.1.size : Int)) = false := decide_eq_false (by omega)
    go_enter Tryd.func24, Tryd.ntmps24
    go_wp2
    go_ret
    exact ⟨_, rfl, fun h => by omega, On.alloc (On.refl _) _⟩
theorem szRelationS_calls (w : World) (A c) (rs : List Rel) (n : Int) (h0 : 0 ≤ n) (h1 : n ≤ 2000000) (h : Rels w A c rs) (hsz : ∀ r ∈ rs, r.1.size ≤ 9223372036854775807) : Calls Tryd.prog 10 #[.slice A rs.length c, .int .i64 n] w (Sz n (wR rs) w) := by
  have hmax := h.max
  have hw : IntKind.i64.wrap (n - (rs.length : Int)) = n - rs.length := IntWalk.i64_in _ (by omega)
  by_cases hn : n - (rs.length : Int) < 0
  · have hb : decide (n - (rs.length : Int) < 0) = true := decide_eq_true hn
    have hb2 : decide (n < (rs.length : Int)) = true := decide_eq_true (by omega)
    go_enter Tryd.func10, Tryd.ntmps10
    go_wp2
    go_ret
    exact ⟨_, rfl, fun h => by omega, On.refl _⟩
  · have hb : decide (n - (rs.length : Int) < 0) = false := decide_eq_false hn
    have hb2 : decide (n < (rs.length : Int)) = false := decide_eq_false (by omega)
    go_enter Tryd.func10, Tryd.ntmps10
    go_wp2
    go_loopw [5, 1] (fun v5 v1 wr => ∃ (k : Nat) (m : Int), k ≤ rs.length ∧ v5 = .int .i64 k ∧ v1 = .int .i64 m ∧ 0 ≤ m ∧ Aside0 (m + wR (rs.take k) + (rs.length - k) ≤ n) ∧ On w wr) (fun v5 _ _ => rs.length - (intOf v5).toNat)
    case atStart => exact ⟨0, _, Nat.zero_le _, rfl, rfl, by omega, ⟨by simp [wR]⟩, On.refl _⟩
    case round =>
      obtain ⟨k, m, hk, rfl, rfl, hm, hp, hB⟩ := hrel
      by_cases hlt : k < rs.length
      · obtain ⟨ad, rfl, hx0, hx1, hx2⟩ := (h.on hB).at k hlt
        have hst := Aside0.mk (wR_take rs k hlt)
        have hmn := Aside0.mk (show m ≤ n by have := hp.out; omega)
        have hsr := hsz _ (List.getElem_mem hlt)
        have hrest := Aside0.mk (show m + wR (rs.take (k + 1)) + (rs.length - (k + 1 : Nat)) ≤ n + rs[k].1.size by have := hp.out; have := hst.out; omega)
        clear hp
        go_wp2_with (go_at_call 24; refine (szRelation_calls wr rs[k] m hm (by have := hmn.out; omega) hsr).mono ?_; rintro e w3 ⟨q, rfl, hq0, hb3⟩; have hq := Aside0.mk hq0; clear hq0; by_cases hneg : q < 0)
        · go_ret
          exact ⟨_, rfl, fun h => by omega, hB.trans hb3⟩
        · go_roundw
          case rel => exact ⟨k + 1, q, by omega, by go_num, rfl, by omega, ⟨by have := hrest.out; have := hq.out (by omega); omega⟩, hB.trans hb3⟩
          case measure => simp [intOf]; omega
      · go_wp2
        go_ret
        refine ⟨_, rfl, fun h => ?_, hB⟩
        have h1 := hp.out
        rw [List.take_of_length_le (by omega)] at h1
        omega
theorem toRelation_calls (w : World) (r : Rel) : Calls Tryd.prog 28 #[.agg #[.string r.1, .int .i64 r.2.1, .bool r.2.2]] w fun e w' => e = .returned (.agg #[.string r.1, .int .i64 r.2.1, .bool r.2.2]) ∧ On w w' := by
  go_enter Tryd.func28, Tryd.ntmps28
  go_wp2
  refine bodyPost_ret (retR rfl rfl (g := w.heap.size + 1) (by have := heap_alloc2_old (w.alloc (.cells #[.string r.1, .int .i64 r.2.1, .bool r.2.2] 50)) (.cells #[.string r.1, .int .i64 r.2.1, .bool r.2.2] 42) (.cells #[.string r.1, .int .i64 r.2.1, .bool r.2.2] 42); simpa using this) rfl) rfl ?_
  exact ⟨rfl, On.alloc (On.alloc (On.alloc (On.refl _) _) _) _⟩
end Go.Proofs.YtgemaohdlibboaaDoor.H
/- Walks: the laws' own copies. No condition. -/
namespace Go.Proofs.YtgemaohdlibboaaDoor.H
open Go Go.RowKit Go.Proofs.YtgemaohdlibboaaDoorW.PrintWords Go.Proofs.YtgemaohdlibboaaDoorW.PrintLast
open Go.Proofs.YtgemaohdlibboaaDoor.Reg (On on_draw)
set_option maxHeartbeats 1000000
set_option maxRecDepth 100000
set_option linter.unusedVariables false
set_option linter.unusedSimpArgs false

theorem toRelationS_calls (w : World) (A c) (rs : List Rel) (h : Rels w A c rs) (hl : rs.length ≤ 2000000) : Calls Tryd.prog 12 #[.slice A rs.length c] w (Got fun v w' => OR w' w.heap.size v rs ∧ On w w') := by
  go_enter Tryd.func12, Tryd.ntmps12
  go_wp2_with (refine gate 7 ?_)
  refine ⟨mkRow 7 (m := rs.length) Tryd.underlying22 infoR rfl (by omega) (by omega) fun hO => ?_⟩
  obtain ⟨cs0, hcs0⟩ : ∃ cs0, madeCells (Value.agg #[.string ⟨#[]⟩, .int .i64 0, .bool false]).cells (rs.length * 3) = cs0 := ⟨_, rfl⟩
  rw [hcs0] at hO ⊢
  clear hcs0
  have hB := On.alloc (On.refl w) (.cells cs0 42)
  obtain ⟨w1, hw1⟩ : ∃ w1, w.alloc (.cells cs0 42) = w1 := ⟨_, rfl⟩
  rw [hw1] at hO hB ⊢
  clear hw1
  have hO' := Aside0.mk hO
  clear hO
  go_wp2
  go_loopw [4] (fun v wr => ∃ (k : Nat) (cs : List Value), k ≤ rs.length ∧ v = .int .i64 k ∧ Aside0 (wr.ownsRow w.heap.size 42 3 (.slice (some ⟨w.heap.size, 0, none⟩) rs.length rs.length) rs.length ((rs.take k).flatMap encR ++ cs)) ∧ On w wr) (fun v _ => rs.length - (intOf v).toNat)
  case atStart => exact ⟨0, _, Nat.zero_le _, rfl, by simpa using hO', hB⟩
  case round =>
    obtain ⟨k, cs, hk, rfl, hO, hB⟩ := hrel
    by_cases hlt : k < rs.length
    · obtain ⟨ad, rfl, hx0, hx1, hx2⟩ := (h.on hB).at k hlt
      have hcl := Aside0.mk (show 3 ≤ cs.length by have := hO.out.1; simp [flat_len (enc := encR) (sz := 3) (fun _ => rfl)] at this; omega)
      have hO2 := hO
      clear hO
      go_wp2_with (go_at_call 28; refine (toRelation_calls wr rs[k]).mono ?_; rintro e w2 ⟨rfl, hb2⟩; have hO3 := Aside0.mk (pw_own_below hO2.out hb2); have hfz := own_frozen hO3.out (k * 3); have hfz1 := own_frozen hO3.out (k * 3 + 1); have hfz2 := own_frozen hO3.out (k * 3 + 2); obtain ⟨z, hz⟩ := own_some hO3.out (k * 3) (by omega); obtain ⟨z1, hz1⟩ := own_some hO3.out (k * 3 + 1) (by omega); obtain ⟨z2, hz2⟩ := own_some hO3.out (k * 3 + 2) (by omega))
      obtain ⟨z0, z1, z2, hcs⟩ := split3 (cs := cs) (i := 0) (by have := hcl.out; omega)
      simp only [List.take_zero, List.nil_append, Nat.zero_add] at hcs
      refine ⟨⟨k + 1, cs.drop 3, by omega, by go_num, ⟨?_⟩, Reg.On.set (Reg.On.set (Reg.On.set (hB.trans hb2) (Nat.le_refl _) _) (Nat.le_refl _) _) (Nat.le_refl _) _⟩, by simp [intOf]; omega⟩
      have := ((hO3.out.stored (k * 3) (.string rs[k].1)).1.stored (k * 3 + 1) (.int .i64 rs[k].2.1)).1.stored (k * 3 + 2) (.bool rs[k].2.2) |>.1
      rw [hcs, set3 (k * 3) (by rw [flat_len (enc := encR) (sz := 3) (fun _ => rfl), List.length_take]; omega)] at this
      rw [flat_take_succ rs k hlt, List.append_assoc]
      exact this
    · have hO2 := hO
      clear hO
      go_wp2
      go_ret
      refine ⟨_, rfl, ?_, hB⟩
      have h1 := hO2.out
      have h2 := h1.1
      rw [List.take_of_length_le (by omega)] at h1 h2
      have h3 : cs = [] := by
        rw [List.length_append, flat_len (enc := encR) (sz := 3) (fun _ => rfl)] at h2
        exact List.eq_nil_of_length_eq_zero (by omega)
      subst h3
      rw [List.append_nil] at h1
      exact h1
end Go.Proofs.YtgemaohdlibboaaDoor.H
/- Walks: the laws' own copies. No condition. -/
namespace Go.Proofs.YtgemaohdlibboaaDoor.H
open Go Go.RowKit Go.Proofs.YtgemaohdlibboaaDoorW.PrintWords Go.Proofs.YtgemaohdlibboaaDoorW.PrintLast
open Go.Proofs.YtgemaohdlibboaaDoor.Reg (On on_draw)
set_option maxHeartbeats 1000000
set_option maxRecDepth 100000
set_option linter.unusedVariables false
set_option linter.unusedSimpArgs false

/-- An instance of the call's own, its facts' rows lying apart. -/
structure OIn (w : World) (lo : Nat) (v : Value) (rs : List Rel) (fs : List Fct) : Prop where mk :: (out : ∃ vr vf hs, v = .agg #[vr, vf] ∧ OR w lo vr rs ∧ OH w lo vf hs ∧ Sep w lo hs fs)
end Go.Proofs.YtgemaohdlibboaaDoor.H
/- Walks: the laws' own comparisons, of what is the same. No condition. -/
namespace Go.Proofs.YtgemaohdlibboaaDoor.H
open Go Go.RowKit Go.Proofs.YtgemaohdlibboaaDoorW.PrintWords Go.Proofs.YtgemaohdlibboaaDoorW.PrintLast
open Go.Proofs.YtgemaohdlibboaaDoor.Reg (On on_draw)
set_option maxHeartbeats 1000000
set_option maxRecDepth 100000
set_option linter.unusedVariables false
set_option linter.unusedSimpArgs false

theorem eqIntS_calls (w : World) (A c B d) (xs : List Int) (h1 : Ints w A c xs) (h2 : Ints w B d xs) : Calls Tryd.prog 34 #[.slice A xs.length c, .slice B xs.length d] w fun e w' => e = .returned (.bool true) ∧ On w w' := by
  have hmax := h1.max
  go_enter Tryd.func34, Tryd.ntmps34
  go_wp2
  go_loopw [5] (fun v wr => ∃ k : Nat, k ≤ xs.length ∧ v = .int .i64 k ∧ On w wr) (fun v _ => xs.length - (intOf v).toNat)
  case atStart => exact ⟨0, Nat.zero_le _, rfl, On.refl _⟩
  case round =>
    obtain ⟨k, hk, rfl, hB⟩ := hrel
    by_cases hlt : k < xs.length
    · obtain ⟨ad, rfl, hx⟩ := (h1.on hB).at k hlt
      obtain ⟨bd, rfl, hy⟩ := (h2.on hB).at k hlt
      go_wp2
      refine Reg.region [(0,.L),(1,.L),(2,.L),(3,.L),(4,.L),(5,.L),(6,.L),(7,.L),(8,.L)] [] (by kernel_rfl) (by kernel_rfl) ?_
      repeat first | refine sP ?_ | refine sS ?_ | refine sA ?_ | refine sL ?_ | refine sQ ?_ | refine sO ?_
      refine Reg.nil fun w2 hS => ?_
      go_wp2
      go_roundw
      case rel => exact ⟨k + 1, by omega, by go_num, hB.trans hS⟩
      case measure => simp [intOf]; omega
    · go_wp2
      go_ret
      exact ⟨rfl, hB⟩
theorem eqRelation_calls (w : World) (r : Rel) : Calls Tryd.prog 22 #[.agg #[.string r.1, .int .i64 r.2.1, .bool r.2.2], .agg #[.string r.1, .int .i64 r.2.1, .bool r.2.2]] w fun e w' => e = .returned (.bool true) ∧ On w w' := by
  go_enter Tryd.func22, Tryd.ntmps22
  go_wp2
  go_ret
  exact ⟨rfl, On.alloc (On.alloc (On.refl _) _) _⟩
theorem eqFact_calls (w : World) (A c B d) (f : Fct) (h1 : Ints w A c f.2) (h2 : Ints w B d f.2) : Calls Tryd.prog 14 #[.agg #[.int .i64 f.1, .slice A f.2.length c], .agg #[.int .i64 f.1, .slice B f.2.length d]] w fun e w' => e = .returned (.bool true) ∧ On w w' := by
  have hb := Aside0.mk (On.alloc (On.alloc (On.refl w) (.cells #[.int .i64 f.1, .slice A f.2.length c] 32)) (.cells #[.int .i64 f.1, .slice B f.2.length d] 32))
  go_enter Tryd.func14, Tryd.ntmps14
  go_wp2_with (go_at_call 34; refine (eqIntS_calls _ A c B d f.2 (h1.on hb.out) (h2.on hb.out)).mono ?_; rintro e w1 ⟨rfl, hb1⟩)
  go_ret
  exact ⟨rfl, hb.out.trans hb1⟩
theorem eqRelationS_calls (w : World) (A c B d) (rs : List Rel) (h1 : Rels w A c rs) (h2 : Rels w B d rs) : Calls Tryd.prog 7 #[.slice A rs.length c, .slice B rs.length d] w fun e w' => e = .returned (.bool true) ∧ On w w' := by
  have hmax := h1.max
  go_enter Tryd.func7, Tryd.ntmps7
  go_wp2
  go_loopw [5] (fun v wr => ∃ k : Nat, k ≤ rs.length ∧ v = .int .i64 k ∧ On w wr) (fun v _ => rs.length - (intOf v).toNat)
  case atStart => exact ⟨0, Nat.zero_le _, rfl, On.refl _⟩
  case round =>
    obtain ⟨k, hk, rfl, hB⟩ := hrel
    by_cases hlt : k < rs.length
    · obtain ⟨ad, rfl, hx0, hx1, hx2⟩ := (h1.on hB).at k hlt
      obtain ⟨bd, rfl, hy0, hy1, hy2⟩ := (h2.on hB).at k hlt
      go_wp2
      refine Reg.region [(0,.L),(1,.L),(2,.L),(3,.L),(4,.L),(5,.L),(6,.L),(7,.L),(8,.C),(9,.L)] [] (by kernel_rfl) (by kernel_rfl) ?_
      repeat first | refine sP ?_ | refine sS ?_ | refine sA ?_ | refine sL ?_ | refine sQ ?_ | refine sO ?_
      refine callC (.bool true) Tryd.func22 (fun w' hS => ?_) ?_
      focus exact eqRelation_calls w' rs[k]
      repeat first | refine sP ?_ | refine sS ?_ | refine sA ?_ | refine sL ?_ | refine sQ ?_ | refine sO ?_
      refine Reg.nil fun w2 hS => ?_
      go_wp2
      go_roundw
      case rel => exact ⟨k + 1, by omega, by go_num, hB.trans hS⟩
      case measure => simp [intOf]; omega
    · go_wp2
      go_ret
      exact ⟨rfl, hB⟩
end Go.Proofs.YtgemaohdlibboaaDoor.H
/- Walks: the laws' own marks. No condition. -/
namespace Go.Proofs.YtgemaohdlibboaaDoor.H
open Go Go.RowKit Go.Proofs.YtgemaohdlibboaaDoorW.PrintWords Go.Proofs.YtgemaohdlibboaaDoorW.PrintLast
open Go.Proofs.YtgemaohdlibboaaDoor.Reg (On on_draw)
set_option maxHeartbeats 1000000
set_option maxRecDepth 100000
set_option linter.unusedVariables false
set_option linter.unusedSimpArgs false

/-- What a mark writes. -/
def markI (k : Int) : Nat → List Int
  | 0 => []
  | n + 1 => k :: markI (k + 1) n
theorem markI_len (k : Int) (n : Nat) : (markI k n).length = n := by
  induction n generalizing k with
  | zero => rfl
  | succ n ih => simp [markI, ih]
theorem markI_succ (k : Int) (n : Nat) : markI k (n + 1) = markI k n ++ [k + n] := by
  induction n generalizing k with
  | zero => simp [markI]
  | succ n ih =>
    have h := ih (k + 1)
    rw [markI, h, markI, show k + 1 + (n : Int) = k + ((n + 1 : Nat) : Int) by omega]; rfl
theorem markI_at (k : Int) (n i : Nat) (h : i < (markI k n).length) : (markI k n)[i] = k + i := by
  induction n generalizing k i with
  | zero => simp [markI] at h
  | succ n ih =>
    cases i with
    | zero => simp [markI]
    | succ i => simp only [markI, List.getElem_cons_succ]; rw [ih]; omega
theorem markI_inR (k : Int) (n : Nat) (h0 : 0 ≤ k) (h1 : k + n ≤ 10000000) : InR (markI k n) := fun x hx => by
  obtain ⟨i, hi, rfl⟩ := List.getElem_of_mem hx
  rw [markI_at]; rw [markI_len] at hi; omega
theorem markIntS_calls (w : World) (lo : Nat) (v : Value) (xs : List Int) (k0 : Int) (h : OI w lo v xs) (h0 : 0 ≤ k0) (h1 : k0 + xs.length ≤ 10000000) : Calls Tryd.prog 35 #[v, .int .i64 k0] w fun e w' => e = .returned (.int .i64 (k0 + xs.length)) ∧ OI w' lo v (markI k0 xs.length) ∧ Ex (fun b => some b = v.ownBlock) w w' := by
  rcases h.2 with ⟨rfl, hn⟩ | ⟨g, c, cur, rfl, hg⟩
  · obtain rfl : xs = [] := List.eq_nil_of_length_eq_zero hn
    go_enter Tryd.func35, Tryd.ntmps35
    go_wp2
    go_loop [5, 1] (fun v5 v1 => v5 = .int .i64 0 ∧ v1 = .int .i64 k0) (fun v _ => 0)
    case atStart => exact ⟨rfl, rfl⟩
    case round =>
      obtain ⟨rfl, rfl⟩ := hrel
      go_wp2
      go_ret
      exact ⟨by simp, h, Ex.refl _ _⟩
  · clear hg
    have h' := Aside0.mk h
    clear h
    go_enter Tryd.func35, Tryd.ntmps35
    go_wp2
    go_loopw [5, 1] (fun v5 v1 wr => ∃ (k : Nat) (cs : List Value), k ≤ xs.length ∧ v5 = .int .i64 k ∧ v1 = .int .i64 (k0 + k) ∧ Aside0 (wr.ownsRow lo 3 1 (.slice (some ⟨g, 0, none⟩) xs.length c) xs.length ((markI k0 k).flatMap encI ++ cs)) ∧ Ex (fun b => some b = some g) w wr) (fun v5 _ _ => xs.length - (intOf v5).toNat)
    case atStart => exact ⟨0, xs.flatMap encI, Nat.zero_le _, rfl, by simp, h', Ex.refl _ _⟩
    case round =>
      obtain ⟨k, cs, hk, rfl, rfl, hO, hE⟩ := hrel
      have hO2 := hO
      clear hO
      by_cases hlt : k < xs.length
      · have hcl := Aside0.mk (show 0 < cs.length by have := hO2.out.1; rw [List.length_append, flat_len (enc := encI) (sz := 1) (fun _ => rfl), markI_len] at this; omega)
        have hfz : wr.frozen? ⟨g, k, none⟩ = false := own_frozen hO2.out k
        obtain ⟨z, hz⟩ := own_some hO2.out k (by omega)
        have hw : IntKind.i64.wrap (k0 + (k : Int) + 1) = k0 + ((k + 1 : Nat) : Int) := by rw [IntWalk.i64_in _ (by omega)]; omega
        go_wp2
        obtain ⟨z0, cs', rfl⟩ : ∃ z0 cs', cs = z0 :: cs' := by
          cases cs with
          | nil => exact absurd hcl.out (by simp)
          | cons a b => exact ⟨a, b, rfl⟩
        refine ⟨⟨k + 1, cs', by omega, by go_num, by rfl, ⟨?_⟩, hE.trans (Ex.set wr _ _) (fun i _ e => by rw [e])⟩, by simp [intOf]; omega⟩
        have := (hO2.out.stored k (.int .i64 (k0 + k))).1
        rw [set1 k (by rw [flat_len (enc := encI) (sz := 1) (fun _ => rfl), markI_len]; omega)] at this
        rw [markI_succ, List.flatMap_append, List.append_assoc]
        exact this
      · go_wp2
        go_ret
        obtain rfl : k = xs.length := by omega
        have h1 := hO2.out
        have h2 := h1.1
        have h3 : cs = [] := by
          rw [List.length_append, flat_len (enc := encI) (sz := 1) (fun _ => rfl), markI_len] at h2
          exact List.eq_nil_of_length_eq_zero (by omega)
        subst h3
        rw [List.append_nil] at h1
        refine ⟨rfl, ?_, hE⟩
        show World.ownsRow _ _ _ _ _ (markI k0 xs.length).length _
        rw [markI_len]
        exact h1
theorem heldIntS_calls (w : World) (A c) (n : Nat) (k0 : Int) (h : Ints w A c (markI k0 n)) (h0 : 0 ≤ k0) (h1 : k0 + n ≤ 10000000) : Calls Tryd.prog 36 #[.slice A n c, .int .i64 k0] w fun e w' => e = .returned (.int .i64 (k0 + n)) ∧ On w w' := by
  have hl := markI_len k0 n
  go_enter Tryd.func36, Tryd.ntmps36
  go_wp2
  go_loopw [5, 1] (fun v5 v1 wr => ∃ k : Nat, k ≤ n ∧ v5 = .int .i64 k ∧ v1 = .int .i64 (k0 + k) ∧ On w wr) (fun v5 _ _ => n - (intOf v5).toNat)
  case atStart => exact ⟨0, Nat.zero_le _, rfl, by simp, On.refl _⟩
  case round =>
    obtain ⟨k, hk, rfl, rfl, hB⟩ := hrel
    by_cases hlt : k < n
    · obtain ⟨ad, rfl, hx⟩ := (h.on hB).at k (by rw [hl]; exact hlt)
      rw [markI_at] at hx
      have hw : IntKind.i64.wrap (k0 + (k : Int) + 1) = k0 + ((k + 1 : Nat) : Int) := by rw [IntWalk.i64_in _ (by omega)]; omega
      go_wp2
      go_roundw
      case rel => exact ⟨k + 1, by omega, by go_num, rfl, hB⟩
      case measure => simp [intOf]; omega
    · go_wp2
      go_ret
      exact ⟨ret_int (by omega), hB⟩
def mDig (m : Int) (s : ByteArray) : ByteArray := if h : 0 < m then mDig (m / 10) (strOfNums [48 + m % 10] ++ s) else s
termination_by m.toNat
decreasing_by omega
def mText (k : Int) : ByteArray := ⟨#[109]⟩ ++ mDig k ⟨#[]⟩
theorem markText_calls (w : World) (k : Int) (h0 : 1 ≤ k) (h1 : k ≤ 10000000) : Calls Tryd.prog 23 #[.int .i64 k] w fun e w' => e = .returned (.string (mText k)) ∧ On w w' := by
  have hb : decide (k ≤ 0) = false := decide_eq_false (by omega)
  go_enter Tryd.func23, Tryd.ntmps23
  go_wp2
  go_loopw [0, 3] (fun v0 v3 wr => ∃ (m : Int) (s : ByteArray), 0 ≤ m ∧ m ≤ 10000000 ∧ v0 = .int .i64 m ∧ v3 = .string s ∧ Aside0 (mDig m s = mDig k ⟨#[]⟩) ∧ s.size + m ≤ 10000000 ∧ On w wr) (fun v0 _ _ => (intOf v0).toNat)
  case atStart => exact ⟨k, _, by omega, h1, rfl, rfl, ⟨rfl⟩, by show ((0 : Nat) : Int) + k ≤ 10000000; omega, On.refl _⟩
  case round =>
    obtain ⟨m, s, hm0, hm1, rfl, rfl, hp, hsm, hB⟩ := hrel
    by_cases hpos : 0 < m
    · have hcv : (convert 64 9 (.slice (some ⟨wr.heap.size, 0, none⟩) 1 1)).run Tryd.prog (wr.alloc (.cells #[.int .u8 (48 + m % 10)] 5)) = .ok (.string (strOfNums [48 + m % 10])) (wr.alloc (.cells #[.int .u8 (48 + m % 10)] 5)) :=
        own_string (P := Tryd.prog) Tryd.underlying64 Tryd.underlying5 Tryd.underlying9 (own_lit wr 0 5 .u8 [48 + m % 10] (Nat.zero_le _) (by simp))
      have hst := Aside0.mk (show mDig (m / 10) (strOfNums [48 + m % 10] ++ s) = mDig k ⟨#[]⟩ by rw [← hp.out]; conv => rhs; rw [mDig, dif_pos hpos])
      have hs1 : (strOfNums [48 + m % 10]).size = 1 := rfl
      clear hp
      go_wp2
      exact ⟨⟨m / 10, _, by omega, by omega, rfl, rfl, hst, by rw [ByteArray.size_append, hs1]; omega, hB.trans (On.alloc (On.refl _) _)⟩, by simp [intOf]; omega⟩
    · have hst := Aside0.mk (show s = mDig k ⟨#[]⟩ by rw [← hp.out]; conv => rhs; rw [mDig, dif_neg hpos])
      clear hp
      go_wp2
      go_ret
      exact ⟨by show Ending.returned (.string _) = _; rw [hst.out]; rfl, hB⟩
end Go.Proofs.YtgemaohdlibboaaDoor.H
/- Walks: the laws' own marks on relations and facts. No condition. -/
namespace Go.Proofs.YtgemaohdlibboaaDoor.H
open Go Go.RowKit Go.Proofs.YtgemaohdlibboaaDoorW.PrintWords Go.Proofs.YtgemaohdlibboaaDoorW.PrintLast
open Go.Proofs.YtgemaohdlibboaaDoor.Reg (On on_draw)
set_option maxHeartbeats 1000000
set_option maxRecDepth 100000
set_option linter.unusedVariables false
set_option linter.unusedSimpArgs false

def mRel (k : Int) : Rel := (mText k, k + 1, (k + 2) % 3 == 0)
def markR (k : Int) : Nat → List Rel
  | 0 => []
  | n + 1 => mRel k :: markR (k + 3) n
theorem markR_len (k : Int) (n : Nat) : (markR k n).length = n := by
  induction n generalizing k with
  | zero => rfl
  | succ n ih => simp [markR, ih]
theorem markR_succ (k : Int) (n : Nat) : markR k (n + 1) = markR k n ++ [mRel (k + 3 * n)] := by
  induction n generalizing k with
  | zero => simp [markR]
  | succ n ih =>
    have h := ih (k + 3)
    rw [markR, h, markR, show k + 3 + 3 * (n : Int) = k + 3 * ((n + 1 : Nat) : Int) by omega]; rfl
theorem own_ne_blk {w : World} {lo lo' e e' sz sz' n n' : Nat} {v v' : Value} {cs cs' : List Value} (h : w.ownsRow lo e sz v n cs) (h' : w.ownsRow lo' e' sz' v' n' cs') (hne : e ≠ e') {b : Nat} (hb : v.ownBlock = some b) : v'.ownBlock ≠ some b := fun hb' => by
  obtain ⟨c, hc⟩ := own_typed h b hb
  obtain ⟨c', hc'⟩ := own_typed h' b hb'
  rw [hc] at hc'
  injection hc' with hc'
  injection hc' with _ h3
  exact hne h3
theorem markRelationS_calls (w : World) (lo : Nat) (v : Value) (rs : List Rel) (k0 : Int) (h : OR w lo v rs) (h0 : 1 ≤ k0) (h1 : k0 + 3 * rs.length ≤ 10000000) : Calls Tryd.prog 8 #[v, .int .i64 k0] w fun e w' => e = .returned (.int .i64 (k0 + 3 * rs.length)) ∧ OR w' lo v (markR k0 rs.length) ∧ Ex (fun b => some b = v.ownBlock) w w' := by
  rcases h.2 with ⟨rfl, hn⟩ | ⟨g, c, cur, rfl, hg⟩
  · obtain rfl : rs = [] := List.eq_nil_of_length_eq_zero hn
    go_enter Tryd.func8, Tryd.ntmps8
    go_wp2
    go_loop [5, 1] (fun v5 v1 => v5 = .int .i64 0 ∧ v1 = .int .i64 k0) (fun v _ => 0)
    case atStart => exact ⟨rfl, rfl⟩
    case round =>
      obtain ⟨rfl, rfl⟩ := hrel
      go_wp2
      go_ret
      exact ⟨by simp, h, Ex.refl _ _⟩
  · clear hg
    have h' := Aside0.mk h
    clear h
    go_enter Tryd.func8, Tryd.ntmps8
    go_wp2
    go_loopw [5, 1] (fun v5 v1 wr => ∃ (k : Nat) (cs : List Value), k ≤ rs.length ∧ v5 = .int .i64 k ∧ v1 = .int .i64 (k0 + 3 * k) ∧ Aside0 (wr.ownsRow lo 42 3 (.slice (some ⟨g, 0, none⟩) rs.length c) rs.length ((markR k0 k).flatMap encR ++ cs)) ∧ Ex (fun b => some b = some g) w wr) (fun v5 _ _ => rs.length - (intOf v5).toNat)
    case atStart => exact ⟨0, rs.flatMap encR, Nat.zero_le _, rfl, by simp, h', Ex.refl _ _⟩
    case round =>
      obtain ⟨k, cs, hk, rfl, rfl, hO, hE⟩ := hrel
      have hO2 := hO
      clear hO
      by_cases hlt : k < rs.length
      · have hcl := Aside0.mk (show 3 ≤ cs.length by have := hO2.out.1; rw [List.length_append, flat_len (enc := encR) (sz := 3) (fun _ => rfl), markR_len] at this; omega)
        have hw1 : IntKind.i64.wrap (k0 + 3 * (k : Int) + 1) = k0 + 3 * k + 1 := by rw [IntWalk.i64_in _ (by omega)]
        have hw2 : IntKind.i64.wrap (k0 + 3 * (k : Int) + 1 + 1) = k0 + 3 * k + 2 := by rw [IntWalk.i64_in _ (by omega)]; omega
        have hw3 : IntKind.i64.wrap (k0 + 3 * (k : Int) + 2 + 1) = k0 + 3 * ((k + 1 : Nat) : Int) := by rw [IntWalk.i64_in _ (by omega)]; omega
        go_wp2_with (go_at_call 23; refine (markText_calls wr (k0 + 3 * k) (by omega) (by omega)).mono ?_; rintro e w2 ⟨rfl, hb2⟩; have hO3 := Aside0.mk (pw_own_below hO2.out hb2); have hfz := own_frozen hO3.out (k * 3); have hfz1 := own_frozen hO3.out (k * 3 + 1); have hfz2 := own_frozen hO3.out (k * 3 + 2); obtain ⟨z, hz⟩ := own_some hO3.out (k * 3) (by omega); obtain ⟨z1, hz1⟩ := own_some hO3.out (k * 3 + 1) (by omega); obtain ⟨z2, hz2⟩ := own_some hO3.out (k * 3 + 2) (by omega))
        obtain ⟨z0, z1, z2, hcs⟩ := split3 (cs := cs) (i := 0) (by have := hcl.out; omega)
        simp only [List.take_zero, List.nil_append, Nat.zero_add] at hcs
        refine ⟨⟨k + 1, cs.drop 3, by omega, by go_num, by rfl, ⟨?_⟩, (((hE.then_on hb2).trans (Ex.set _ _ _) (fun i _ e => by rw [e])).trans (Ex.set _ _ _) (fun i _ e => by rw [e])).trans (Ex.set _ _ _) (fun i _ e => by rw [e])⟩, by simp [intOf]; omega⟩
        have := ((hO3.out.stored (k * 3) (.string (mText (k0 + 3 * k)))).1.stored (k * 3 + 1) (.int .i64 (k0 + 3 * k + 1))).1.stored (k * 3 + 2) (.bool ((k0 + 3 * k + 2) % 3 == 0)) |>.1
        rw [hcs, set3 (k * 3) (by rw [flat_len (enc := encR) (sz := 3) (fun _ => rfl), markR_len])] at this
        rw [markR_succ, List.flatMap_append, List.append_assoc]
        exact this
      · go_wp2
        go_ret
        obtain rfl : k = rs.length := by omega
        have h1 := hO2.out
        have h2 := h1.1
        have h3 : cs = [] := by
          rw [List.length_append, flat_len (enc := encR) (sz := 3) (fun _ => rfl), markR_len] at h2
          exact List.eq_nil_of_length_eq_zero (by omega)
        subst h3
        rw [List.append_nil] at h1
        refine ⟨rfl, ?_, hE⟩
        show World.ownsRow _ _ _ _ _ (markR k0 rs.length).length _
        rw [markR_len]
        exact h1
end Go.Proofs.YtgemaohdlibboaaDoor.H
/- Walks: the laws' own marks on facts and instances. No condition. -/
namespace Go.Proofs.YtgemaohdlibboaaDoor.H
open Go Go.RowKit Go.Proofs.YtgemaohdlibboaaDoorW.PrintWords Go.Proofs.YtgemaohdlibboaaDoorW.PrintLast
open Go.Proofs.YtgemaohdlibboaaDoor.Reg (On on_draw)
set_option maxHeartbeats 1000000
set_option maxRecDepth 100000
set_option linter.unusedVariables false
set_option linter.unusedSimpArgs false

theorem set_hdr {hs : List Hdr} {i : Nat} (hi : i < hs.length) {x : Int} {j : Nat} {a : Hdr} (ha : (hs.set i (x, hs[i].2))[j]? = some a) : ∃ a', hs[j]? = some a' ∧ hdV a' = hdV a := by
  by_cases e : i = j
  · subst e
    rw [List.getElem?_set_self hi] at ha
    injection ha with ha; subst ha
    exact ⟨hs[i], List.getElem?_eq_getElem hi, rfl⟩
  · rw [List.getElem?_set_ne e] at ha
    exact ⟨a, ha, rfl⟩
/-- The blocks that a row of facts owns. -/
def FB (v : Value) (hs : List Hdr) (b : Nat) : Prop := some b = v.ownBlock ∨ ∃ (i : Nat) (a : Hdr), hs[i]? = some a ∧ some b = (hdV a).ownBlock
theorem FB.set {v : Value} {hs : List Hdr} {i : Nat} (hi : i < hs.length) {x : Int} {b : Nat} (h : FB v (hs.set i (x, hs[i].2)) b) : FB v hs b := by
  rcases h with h | ⟨j, a, ha, h⟩
  · exact .inl h
  · obtain ⟨a', ha', e⟩ := set_hdr hi ha
    exact .inr ⟨j, a', ha', by rw [e]; exact h⟩
end Go.Proofs.YtgemaohdlibboaaDoor.H
/- Cells of own rows: appended to, cut, cleared; rows of headers that are read. No condition. -/
namespace Go.Proofs.YtgemaohdlibboaaDoor.H
open Go Go.RowKit Go.Proofs.YtgemaohdlibboaaDoorW.PrintWords Go.Proofs.YtgemaohdlibboaaDoorW.PrintLast
open Go.Proofs.YtgemaohdlibboaaDoor.Reg (On on_draw)
set_option maxHeartbeats 1000000
set_option maxRecDepth 100000
set_option linter.unusedVariables false
set_option linter.unusedSimpArgs false

theorem flat_get {α : Type} {enc : α → List Value} {sz : Nat} (hl : ∀ x, (enc x).length = sz) : ∀ (xs : List α) (i r : Nat) (hi : i < xs.length), r < sz → (xs.flatMap enc)[i * sz + r]? = (enc xs[i])[r]?
  | [], _, _, hi, _ => absurd hi (Nat.not_lt_zero _)
  | x :: xs, 0, r, _, hr => by
    rw [List.flatMap_cons, Nat.zero_mul, Nat.zero_add, List.getElem?_append_left (by rw [hl]; exact hr)]; rfl
  | x :: xs, i + 1, r, hi, hr => by
    rw [List.flatMap_cons, List.getElem?_append_right (by rw [hl, Nat.add_mul]; omega), hl, show (i + 1) * sz + r - sz = i * sz + r by rw [Nat.add_mul]; omega]
    exact flat_get hl xs i r (by simpa using hi) hr
/-- A row of headers that is read. -/
structure RH (w : World) (A : Option Addr) (c : Nat) (hs : List Hdr) : Prop where
  cap : hs.length ≤ c
  max : hs.length ≤ 9223372036854775807
  cell : ∀ j u, (hs.flatMap encH)[j]? = some u → ∃ ad, A = some ad ∧ w.cell? (ad.add j) = some u
theorem RH.on {W w : World} {A : Option Addr} {c : Nat} {hs : List Hdr} (h : RH W A c hs) (hb : On W w) : RH w A c hs := ⟨h.cap, h.max, fun j u hu => by
  obtain ⟨ad, e, hc⟩ := h.cell j u hu
  exact ⟨ad, e, (hb.eq _ (by rw [hc]; rfl)).trans hc⟩⟩
theorem own_capmax {w : World} {lo e sz n : Nat} {A : Option Addr} {c : Nat} {cs : List Value} (h : w.ownsRow lo e sz (.slice A n c) n cs) : n ≤ c ∧ n ≤ 9223372036854775807 := by
  rcases h.2 with ⟨h1, h2⟩ | ⟨g, cap, cur, h1, _, _, h3, h4, _⟩
  · exact ⟨by omega, by omega⟩
  · injection h1 with h1 h5 h6
    have : maxLen = 9223372036854775807 := rfl
    exact ⟨by omega, by omega⟩
theorem OH.slice {w : World} {lo : Nat} {v : Value} {hs : List Hdr} (h : OH w lo v hs) : ∃ A c, v = .slice A hs.length c ∧ RH w A c hs := by
  obtain ⟨A, c, rfl⟩ := own_slice h
  obtain ⟨h1, h2⟩ := own_capmax h
  refine ⟨A, c, rfl, h1, h2, fun j u hu => ?_⟩
  rcases h.2 with ⟨h1, h3⟩ | ⟨g, cap, cur, h1, _⟩
  · obtain rfl : hs = [] := List.eq_nil_of_length_eq_zero h3
    simp at hu
  · injection h1 with h1 h5 h6
    subst h1
    exact ⟨_, rfl, h.cells rfl j u hu⟩
theorem blk_grown {W w1 : World} {row : Option Nat} {g : Nat} {o : Obj} (hg : W.grownBy w1 row) (h : W.heap[g]? = some o) (hne : some g ≠ row) : w1.heap[g]? = some o := (hg.block g (blk_lt h) hne).trans h
theorem OR.slice {w : World} {lo : Nat} {v : Value} {hs : List Rel} (h : OR w lo v hs) : ∃ A c, v = .slice A hs.length c := own_slice h
theorem Reads.take {w : World} {hs : List Hdr} {fs : List Fct} (h : Reads w hs fs) (k : Nat) : Reads w (hs.take k) (fs.take k) := ⟨by rw [List.length_take, List.length_take, h.len], fun i a f ha hf => by
  rw [List.getElem?_take] at ha hf
  split at ha
  · rename_i hk; rw [if_pos hk] at hf; exact h.at_ i a f ha hf
  · cases ha⟩
theorem Reads.drop {w : World} {hs : List Hdr} {fs : List Fct} (h : Reads w hs fs) (k : Nat) : Reads w (hs.drop k) (fs.drop k) := ⟨by rw [List.length_drop, List.length_drop, h.len], fun i a f ha hf => by
  rw [List.getElem?_drop] at ha hf
  exact h.at_ _ a f ha hf⟩
theorem Reads.append {w : World} {hs hs' : List Hdr} {fs fs' : List Fct} (h : Reads w hs fs) (h' : Reads w hs' fs') : Reads w (hs ++ hs') (fs ++ fs') := ⟨by rw [List.length_append, List.length_append, h.len, h'.len], fun i a f ha hf => by
  have hl := h.len
  rcases Nat.lt_or_ge i hs.length with hi | hi
  · rw [List.getElem?_append_left hi] at ha
    rw [List.getElem?_append_left (by omega)] at hf
    exact h.at_ i a f ha hf
  · rw [List.getElem?_append_right hi] at ha
    rw [List.getElem?_append_right (by omega), ← hl] at hf
    exact h'.at_ _ a f ha hf⟩
/-- Some of the facts whose rows lie apart. -/
theorem Sep.sub {w : World} {lo : Nat} {hs : List Hdr} {fs : List Fct} (h : Sep w lo hs fs) {qs : List (Hdr × Fct)} (hq : qs.Sublist (hs.zip fs)) : Sep w lo (qs.map Prod.fst) (qs.map Prod.snd) := by
  have hl := h.len
  have hmem : ∀ p ∈ qs, ∃ i, hs[i]? = some p.1 ∧ fs[i]? = some p.2 := fun p hp => by
    obtain ⟨i, hi, e⟩ := List.getElem_of_mem (hq.subset hp)
    rw [List.getElem_zip] at e
    have hi' : i < hs.length := by rw [List.length_zip] at hi; omega
    exact ⟨i, by rw [List.getElem?_eq_getElem hi', ← e], by rw [List.getElem?_eq_getElem (by omega), ← e]⟩
  have hpw : (hs.zip fs).Pairwise fun p q => ∀ k, (hdV p.1).ownBlock = some k → (hdV q.1).ownBlock ≠ some k := by
    rw [List.pairwise_iff_getElem]
    intro i j hi hj hij k h1 h2
    rw [List.getElem_zip] at h1 h2
    have hi' : i < hs.length := by rw [List.length_zip] at hi; omega
    have hj' : j < hs.length := by rw [List.length_zip] at hj; omega
    have := h.apart i j _ _ k (List.getElem?_eq_getElem hi') (List.getElem?_eq_getElem hj') h1 h2
    omega
  have hpq := hpw.sublist hq
  refine ⟨by simp, fun i a f ha hf => ?_, fun i j a b k ha hb h1 h2 => ?_⟩
  · rw [List.getElem?_map] at ha hf
    obtain ⟨p, hp, rfl⟩ := Option.map_eq_some_iff.1 ha
    rw [hp] at hf
    obtain rfl : p.2 = f := Option.some.inj hf
    obtain ⟨m, e1, e2⟩ := hmem p (List.mem_of_getElem? hp)
    exact h.at_ m _ _ e1 e2
  · rw [List.getElem?_map] at ha hb
    obtain ⟨p, hp, rfl⟩ := Option.map_eq_some_iff.1 ha
    obtain ⟨q, hq', rfl⟩ := Option.map_eq_some_iff.1 hb
    obtain ⟨hi, rfl⟩ := List.getElem?_eq_some_iff.1 hp
    obtain ⟨hj, rfl⟩ := List.getElem?_eq_some_iff.1 hq'
    rcases Nat.lt_trichotomy i j with c | c | c
    · exact absurd h2 (List.pairwise_iff_getElem.1 hpq i j hi hj c k h1)
    · exact c
    · exact absurd h1 (List.pairwise_iff_getElem.1 hpq j i hj hi c k h2)
theorem OIn.on {W w : World} {lo : Nat} {v : Value} {rs : List Rel} {fs : List Fct} (h : OIn W lo v rs fs) (hb : On W w) : OIn w lo v rs fs := by
  obtain ⟨vr, vf, hs, e, hR, hH, hS⟩ := h.out
  exact ⟨vr, vf, hs, e, pw_own_below hR hb, pw_own_below hH hb, hS.on hb⟩
theorem OIn.set {W : World} {lo : Nat} {v : Value} {rs : List Rel} {fs : List Fct} (h : OIn W lo v rs fs) {p : Addr} (hp : p.block < lo) (u : Value) : OIn (W.setCell p u) lo v rs fs := by
  obtain ⟨vr, vf, hs, e, hR, hH, hS⟩ := h.out
  exact ⟨vr, vf, hs, e, ownsRow_setCell_below hR hp u, ownsRow_setCell_below hH hp u, hS.set hp u⟩
/-! Appends, cell by cell. -/
section
variable {ops : Array Oper} {rest : List Oper} {o : Oper} {a : Act} {Q : Exit → Act → World → Prop} {W : World}
end
/-! Appends onto a row that is full (a literal): nothing old is written. -/
section
variable {ops : Array Oper} {rest : List Oper} {o : Oper} {a : Act} {Q : Exit → Act → World → Prop} {W : World}
end
/-- Literals. -/
theorem lit_own (W : World) (cs : Array Value) (e sz n lo : Nat) (hlo : lo ≤ W.heap.size) (hn : n ≤ 1000000) (hs : cs.size = n * sz) : (W.alloc (.cells cs e (0, 0))).ownsRow lo e sz (.slice (some ⟨W.heap.size, 0, none⟩) n n) n cs.toList :=
  World.ownsRow_lit W cs n hlo (by simp [maxLen]; omega) hs
end Go.Proofs.YtgemaohdlibboaaDoor.H
/- Rows of strings: read, of one's own, appended to, joined, cut out of a text. No condition. -/
namespace Go.Proofs.YtgemaohdlibboaaDoor.H
open Go Go.RowKit Go.Proofs.YtgemaohdlibboaaDoorW.PrintWords Go.Proofs.YtgemaohdlibboaaDoorW.PrintLast
open Go.Proofs.YtgemaohdlibboaaDoor.Reg (On on_draw)
set_option maxHeartbeats 4000000
set_option maxRecDepth 100000
set_option linter.unusedVariables false
set_option linter.unusedSimpArgs false

abbrev encS (x : List UInt8) : List Value := [.string (strB x)]
/-- A row of strings that is read. -/
structure Strs (w : World) (A : Option Addr) (c : Nat) (ss : List (List UInt8)) : Prop where
  cap : ss.length ≤ c
  max : ss.length ≤ 9223372036854775807
  cell : ∀ j, (hj : j < ss.length) → ∃ ad, A = some ad ∧ w.cell? (ad.add j) = some (.string (strB ss[j]))
theorem Strs.on {W w : World} {A : Option Addr} {c : Nat} {ss : List (List UInt8)} (h : Strs W A c ss) (hb : On W w) : Strs w A c ss := ⟨h.cap, h.max, fun j hj => by
  obtain ⟨ad, e, hc⟩ := h.cell j hj
  exact ⟨ad, e, (hb.eq _ (by rw [hc]; rfl)).trans hc⟩⟩
abbrev OSt (w : World) (lo : Nat) (v : Value) (ss : List (List UInt8)) : Prop := w.ownsRow lo 9 1 v ss.length (ss.flatMap encS)
theorem OSt.slice {w : World} {lo : Nat} {v : Value} {ss : List (List UInt8)} (h : OSt w lo v ss) : ∃ A c, v = .slice A ss.length c ∧ Strs w A c ss := by
  obtain ⟨A, c, rfl⟩ := own_slice h
  obtain ⟨h1, h2⟩ := own_capmax h
  refine ⟨A, c, rfl, h1, h2, fun j hj => ?_⟩
  have hg : (ss.flatMap encS)[j]? = some (.string (strB ss[j])) := by
    have := flat_get (enc := encS) (sz := 1) (fun _ => rfl) ss j 0 hj (by omega)
    rw [Nat.mul_one, Nat.add_zero] at this
    rw [this]; rfl
  rcases h.2 with ⟨h1, h3⟩ | ⟨g, cap, cur, h1, _⟩
  · omega
  · injection h1 with h1 h5 h6
    subst h1
    exact ⟨_, rfl, h.cells rfl j _ hg⟩
theorem OSt.same {w : World} {lo c n : Nat} {A : Option Addr} {ss : List (List UInt8)} (h : OSt w lo (.slice A n c) ss) : n = ss.length ∧ Strs w A c ss := by
  obtain ⟨A', c', e, h'⟩ := OSt.slice h
  injection e with e1 e2 e3
  subst e1 e3
  exact ⟨e2, h'⟩
theorem infoS : (Tryd.prog.info? 9).map (fun i => (i.zero, i.size, i.bytes)) = some (some (.string ⟨#[]⟩), 1, 16) := by kernel_rfl
section
variable {ops : Array Oper} {rest : List Oper} {o : Oper} {a : Act} {Q : Exit → Act → World → Prop} {W : World}
/-- append of a string onto strings of one's own. -/
theorem apS1 (N : Tmp) {s x : Operand} {v : Value} {g base : Nat} {xs zs : List (List UInt8)} {y : List UInt8} (hz : xs ++ [y] = zs)
    (HO : OSt W base v xs) (HR : W.cell? ⟨g, 0, none⟩ = some (.string (strB y))) (hbase : base ≤ W.heap.size) (hl : xs.length ≤ 10000000)
    (h : ∀ v1 w1, OSt w1 base v1 zs → W.grownBy w1 v.ownBlock → wpList Tryd.prog ops Q rest (a.put (some N) v1) w1)
    (hop : o.op = .call { callee := .builtin .append, args := #[s, x], argTypes := #[39, 39] } := by rfl)
    (hd : o.dst = some N := by rfl) (hg : o.guard = none := by rfl) (hs : a.eval s = v := by rfl) (hx : a.eval x = .slice (some ⟨g, 0, none⟩) 1 1 := by rfl) : wpList Tryd.prog ops Q (o :: rest) a W := by
  subst hz
  obtain ⟨i0, hi, hzz⟩ := Option.map_eq_some_iff.1 infoS
  simp only [Prod.mk.injEq] at hzz
  obtain ⟨hz0, hz1, hz2⟩ := hzz
  refine wpList_append_own_at W hg s x 39 hop base 9 i0 _ 1 16 Tryd.underlying39 hi hz0 hz1 hz2 rfl (by omega) v xs.length _ hs HO ⟨g, 0, none⟩ 1 1 (encS y) hx rfl (fun j u hu => ?_) (fun u hu => ?_) (by simp [maxLen]; omega) (by omega) hbase fun v1 w1 h1 h2 _ _ => ?_
  · have hj : j = 0 := by have := (List.getElem?_eq_some_iff.1 hu).1; simp at this; omega
    subst hj
    simp at hu
    subst hu
    exact HR
  · simp only [List.mem_cons, List.not_mem_nil, or_false] at hu
    subst hu
    rfl
  · rw [hd]
    refine h v1 w1 ?_ h2
    show World.ownsRow _ _ _ _ _ (xs ++ [y]).length _
    rw [show (xs ++ [y]).flatMap encS = xs.flatMap encS ++ encS y by simp, List.length_append]
    exact h1
end
section
variable {ops : Array Oper} {rest : List Oper} {o : Oper} {a : Act} {Q : Exit → Act → World → Prop} {W : World}
/-- A literal of one string. -/
theorem litS1 (N : Tmp) {y : List UInt8} (h : wpList Tryd.prog ops Q rest (a.put (some N) (.slice (some ⟨W.heap.size, 0, none⟩) 1 1)) (W.alloc (.cells #[.string (strB y)] 9 (0, 0))))
    (hd : o.dst = some N := by rfl) (hg : o.guard = none := by rfl) (hr : (execOp a.eval o).run Tryd.prog W = .ok (.value (.slice (some ⟨W.heap.size, 0, none⟩) 1 1)) (W.alloc (.cells #[.string (strB y)] 9 (0, 0))) := by first | (go_simp; done) | (go_simp; rfl)) : wpList Tryd.prog ops Q (o :: rest) a W :=
  Kd.event_run hg hr (by rw [hd]; exact h)
end
/-- A string of a text cut out, laid into a row. -/
theorem lit_S (w : World) (y : List UInt8) : (w.alloc (.cells #[.string (strB y)] 9 (0, 0))).cell? ⟨w.heap.size, 0, none⟩ = some (.string (strB y)) := by
  have := blk_cell (loc_new w #[.string (strB y)] 9) 0
  rw [this]; rfl
theorem ownS0 {W : World} {g lo : Nat} (hg : g = W.heap.size) (hlo : lo ≤ W.heap.size) : OSt (W.alloc (.cells #[] 9 (0, 0))) lo (.slice (some ⟨g, 0, none⟩) 0 0) [] := by
  subst hg
  exact own_lower (World.ownsRow_lit (base := W.heap.size) (e := 9) (size := 1) W #[] 0 (Nat.le_refl _) (by simp [maxLen]) (by simp)) hlo
theorem Join_calls (w : World) (A : Option Addr) (c : Nat) (ss : List (List UInt8)) (s : List UInt8) (h : Strs w A c ss) (hl : ss.length ≤ 1000000) (hb : (Lib.join ss s).length ≤ 1000000000) :
    Calls Tryd.prog 43 #[.slice A ss.length c, .string (strB s)] w fun e w' => e = .returned (.string (strB (Lib.join ss s))) ∧ On w w' := by
  by_cases hz : ss.length = 0
  · obtain rfl : ss = [] := List.eq_nil_of_length_eq_zero hz
    exact (Tryd.strings_Join_none A c (strB s) w).mono fun e w' ⟨he, hw⟩ => by subst hw; exact ⟨by rw [he, join_nil']; rfl, On.refl _⟩
  · obtain ⟨ad, rfl, h0⟩ := h.cell 0 (by omega)
    have hs : ad.spot = none := by
      cases hsp : ad.spot with
      | none => rfl
      | some q =>
        exfalso
        have e0 : ad.add 0 = ad := by unfold Addr.add; rw [if_pos rfl]
        rw [e0] at h0
        unfold World.cell? at h0
        split at h0
        · rw [hsp] at h0; simp at h0
        · cases h0
    obtain ⟨b, o, sp⟩ := ad
    obtain rfl : sp = none := hs
    have hbk : b < w.heap.size := by
      have := World.block_lt_of_cell? w _ h0
      unfold Addr.add at this
      simpa using this
    have hm : (ss.map strB).map (fun x : ByteArray => x.data.toList) = ss := by
      rw [List.map_map]
      conv => rhs; rw [← List.map_id ss]
      exact List.map_congr_left (fun x _ => strB_data x)
    have key := Tryd.strings_Join b o c (ss.map strB) (strB s) w (fun j y hj => ?_) hbk (by simp; omega) (by simpa using h.cap) (by rw [hm, strB_data]; omega)
    · rw [hm, strB_data, List.length_map] at key
      exact key
    · rw [List.getElem?_map] at hj
      obtain ⟨x, hx, rfl⟩ := Option.map_eq_some_iff.1 hj
      have hjl := (List.getElem?_eq_some_iff.1 hx).1
      obtain ⟨ad', e, h1⟩ := h.cell j hjl
      injection e with e
      subst e
      have e2 : (⟨b, o, none⟩ : Addr).add j = ⟨b, o + j, none⟩ := by unfold Addr.add; split <;> simp_all
      rw [e2] at h1
      rw [h1, (List.getElem?_eq_some_iff.1 hx).2]
end Go.Proofs.YtgemaohdlibboaaDoor.H
/- Walks: relations written, on both sides. No condition. -/
namespace Go.Proofs.YtgemaohdlibboaaDoor.H
open Go Go.RowKit Go.Proofs.YtgemaohdlibboaaDoorW.PrintWords Go.Proofs.YtgemaohdlibboaaDoorW.PrintLast
open Go.Proofs.YtgemaohdlibboaaDoor.Reg (On on_draw)
set_option maxHeartbeats 4000000
set_option maxRecDepth 100000
set_option linter.unusedVariables false
set_option linter.unusedSimpArgs false

/-- The sum of two lengths is an int. -/
theorem szOk {a b : List UInt8} (h : a.length + b.length ≤ 1000000000000) : (9223372036854775807 < (strB a).size + (strB b).size) = False := eq_false (by rw [strB_size, strB_size]; omega)
theorem szOk1 {a : List UInt8} (h : a.length ≤ 1000000000000) : (9223372036854775807 < (strB a).size + 1) = False := eq_false (by rw [strB_size]; omega)
theorem cat1 (a : List UInt8) (c : UInt8) : strB a ++ (⟨#[c]⟩ : ByteArray) = strB (a ++ [c]) := by rw [show (⟨#[c]⟩ : ByteArray) = strB [c] from rfl, strB_append]
end Go.Proofs.YtgemaohdlibboaaDoor.H
/- Walks: relations written by the program. No condition. -/
namespace Go.Proofs.YtgemaohdlibboaaDoor.H
open Go Go.RowKit Go.Proofs.YtgemaohdlibboaaDoorW.PrintWords Go.Proofs.YtgemaohdlibboaaDoorW.PrintLast
open Go.Proofs.YtgemaohdlibboaaDoor.Reg (On on_draw)
set_option maxHeartbeats 4000000
set_option maxRecDepth 100000
set_option linter.unusedVariables false
set_option linter.unusedSimpArgs false

end Go.Proofs.YtgemaohdlibboaaDoor.H
/- Walks: the program's own valid facts and their order. No condition. -/
namespace Go.Proofs.YtgemaohdlibboaaDoor.H
open Go Go.RowKit Go.Proofs.YtgemaohdlibboaaDoorW.PrintWords Go.Proofs.YtgemaohdlibboaaDoorW.PrintLast
open Go.Proofs.YtgemaohdlibboaaDoor.Reg (On on_draw)
set_option maxHeartbeats 1000000
set_option maxRecDepth 100000
set_option linter.unusedVariables false
set_option linter.unusedSimpArgs false

theorem badValue_calls (w : World) (v : Int) : Calls Tryd.prog 71 #[.int .i64 v] w fun e w' => e = .returned (.bool (!okVal v)) ∧ On w w' := by
  go_enter Tryd.func71, Tryd.ntmps71
  go_wp2_with (go_at_call 67; refine (iIsValidValue_calls _ _).mono ?_; rintro e w1 ⟨rfl, hb1⟩)
  go_ret
  exact ⟨rfl, hb1⟩
theorem IndexFuncV_calls (w : World) (A c) (vs : List Int) (h : Ints w A c vs) : Calls Tryd.prog 82 #[.slice A vs.length c, .func (.func 71) #[] #[]] w fun e w' => e = .returned (.int .i64 (idxFrom (fun v => !okVal v) vs 0)) ∧ On w w' := by
  have hmax := h.max
  go_enter Tryd.func82, Tryd.ntmps82
  go_wp2
  go_loopw [8] (fun v wr => ∃ k : Nat, k ≤ vs.length ∧ v = .int .i64 k ∧ Hid (idxFrom (fun v => !okVal v) (vs.drop k) k = idxFrom (fun v => !okVal v) vs 0) ∧ On w wr) (fun v _ => vs.length - (intOf v).toNat)
  case atStart => exact ⟨0, Nat.zero_le _, rfl, rfl, On.refl _⟩
  case round =>
    obtain ⟨k, hk, rfl, hp, hB⟩ := hrel
    by_cases hlt : k < vs.length
    · obtain ⟨ad, rfl, hx⟩ := (h.on hB).at k hlt
      have hst := Aside0.mk ((idxFrom_step (fun v => !okVal v) vs k hlt).symm.trans hp.out)
      clear hp
      cases hv : okVal vs[k] with
      | false =>
        have hv' := Aside0.mk hv
        clear hv
        go_wp2_with (go_at_call 71; refine (badValue_calls _ _).mono ?_; rintro e w3 ⟨rfl, hb3⟩; rw [hv'.out])
        go_ret
        exact ⟨ret_int (by have := hst.out; rw [hv'.out, if_pos (by rfl)] at this; exact this), hB.trans hb3⟩
      | true =>
        have hv' := Aside0.mk hv
        clear hv
        go_wp2_with (go_at_call 71; refine (badValue_calls _ _).mono ?_; rintro e w3 ⟨rfl, hb3⟩; rw [hv'.out])
        go_roundw
        case rel => exact ⟨k + 1, by omega, by go_num, (by have := hst.out; rwa [hv'.out, if_neg (by simp)] at this : _ = _), hB.trans hb3⟩
        case measure => simp [intOf]; omega
    · go_wp2
      go_ret
      exact ⟨ret_int (by rw [← hp.out, List.drop_of_length_le (by omega)]; rfl), hB⟩
theorem ContainsFuncV_calls (w : World) (A c) (vs : List Int) (h : Ints w A c vs) : Calls Tryd.prog 70 #[.slice A vs.length c, .func (.func 71) #[] #[]] w fun e w' => e = .returned (.bool (vs.any fun v => !okVal v)) ∧ On w w' := by
  go_enter Tryd.func70, Tryd.ntmps70
  go_wp2_with (go_at_call 82; refine (IndexFuncV_calls w A c vs h).mono ?_; rintro e w3 ⟨rfl, hb3⟩)
  go_ret
  exact ⟨ret_bool (idxFrom_any _ vs 0), hb3⟩
theorem iIsValidFact_calls (w : World) (A c) (rs : List Rel) (B d) (f : Fct) (h0 : Rels w A c rs) (h1 : Ints w B d f.2) : Calls Tryd.prog 51 #[.slice A rs.length c, .agg #[.int .i64 f.1, .slice B f.2.length d]] w fun e w' => e = .returned (.bool (okFact rs f)) ∧ On w w' := by
  have hm0 := h0.max
  have hm1 := h1.max
  have hw1 : IntKind.i64.wrap ((rs.length : Int) - 1) = (rs.length : Int) - 1 := IntWalk.i64_in _ (by omega)
  cases hr : okRels rs with
  | false =>
    have hr' := Aside0.mk hr
    clear hr
    go_enter Tryd.func51, Tryd.ntmps51
    go_wp2
    refine Reg.region [(0,.L),(1,.C),(2,.L),(3,.L),(4,.L),(5,.L),(6,.L),(7,.L),(8,.L),(9,.C),(10,.L),(11,.L),(12,.L),(13,.L),(14,.L),(15,.L),(16,.L),(17,.L),(18,.L),(19,.L),(20,.L),(21,.L),(22,.L),(23,.L)] [] (by kernel_rfl) (by kernel_rfl) ?_
    repeat first | refine sP ?_ | refine sS ?_ | refine sA ?_ | refine sL ?_ | refine sQ ?_ | refine sO ?_
    refine callC (.bool false) Tryd.func41 (fun w' hS => ?_) ?_
    focus exact (iAreValidRelations_calls w' A c rs (h0.on ((On.alloc (On.refl _) _).trans hS))).mono fun e w'' h => ⟨by rw [h.1, hr'.out], h.2⟩
    repeat first | refine sP ?_ | refine sS ?_ | refine sA ?_ | refine sL ?_ | refine sQ ?_ | refine sO ?_
    refine Reg.nil fun w2 hS => ?_
    go_wp2
    go_ret
    exact ⟨ret_bool (by simp [okFact, hr'.out]), (On.alloc (On.refl _) _).trans hS⟩
  | true =>
    have hr' := Aside0.mk hr
    clear hr
    cases hi : within f.1 0 ((rs.length : Int) - 1) with
    | false =>
      have hi' := Aside0.mk hi
      clear hi
      go_enter Tryd.func51, Tryd.ntmps51
      go_wp2
      refine Reg.region [(0,.L),(1,.C),(2,.L),(3,.L),(4,.L),(5,.L),(6,.L),(7,.L),(8,.L),(9,.C),(10,.L),(11,.L),(12,.L),(13,.L),(14,.L),(15,.L),(16,.L),(17,.L),(18,.L),(19,.L),(20,.L),(21,.L),(22,.L),(23,.L)] [] (by kernel_rfl) (by kernel_rfl) ?_
      repeat first | refine sP ?_ | refine sS ?_ | refine sA ?_ | refine sL ?_ | refine sQ ?_ | refine sO ?_
      refine callC (.bool true) Tryd.func41 (fun w' hS => ?_) ?_
      focus exact (iAreValidRelations_calls w' A c rs (h0.on ((On.alloc (On.refl _) _).trans hS))).mono fun e w'' h => ⟨by rw [h.1, hr'.out], h.2⟩
      repeat first | refine sP ?_ | refine sS ?_ | refine sA ?_ | refine sL ?_ | refine sQ ?_ | refine sO ?_
      refine callC (.bool false) Tryd.func69 (fun w' hS => ?_) ?_
      focus exact (within_calls w' _ _ _).mono fun e w'' h => ⟨by rw [h.1, hi'.out], h.2⟩
      repeat first | refine sP ?_ | refine sS ?_ | refine sA ?_ | refine sL ?_ | refine sQ ?_ | refine sO ?_
      refine Reg.nil fun w2 hS => ?_
      go_wp2
      go_ret
      exact ⟨ret_bool (by have := hi'.out; simp [within] at this; simp [okFact]; intros; omega), (On.alloc (On.refl _) _).trans hS⟩
    | true =>
      have hi' := Aside0.mk hi
      have hi2 : 0 ≤ f.1 ∧ f.1 ≤ (rs.length : Int) - 1 := by simpa [within] using hi
      clear hi
      rcases f with ⟨r, vs⟩
      obtain ⟨m, rfl⟩ : ∃ m : Nat, r = m := ⟨r.toNat, by omega⟩
      have hm : m < rs.length := by omega
      have har : arity rs (m : Int) = rs[m].2.1 := by simp [arity, hm]
      clear hi2
      dsimp only at *
      obtain ⟨ad, rfl, hx0, hx1, hx2⟩ := h0.at m hm
      have hbx := Aside0.mk (On.alloc (On.refl w) (.cells #[.int .i64 m, .slice B vs.length d] 32))
      have hx1' := (hbx.out.eq _ (by rw [hx1]; rfl)).trans hx1
      clear hx0 hx1 hx2
      cases hl : decide ((vs.length : Int) = rs[m].2.1) with
      | false =>
        have hl1 : ((vs.length : Int) == rs[m].2.1) = false := hl
        have hl2 : ((vs.length : Int) != rs[m].2.1) = true := by simp [bne, hl1]
        have hl' := Aside0.mk hl
        clear hl
        go_enter Tryd.func51, Tryd.ntmps51
        go_wp2
        refine Reg.region [(0,.L),(1,.C),(2,.L),(3,.L),(4,.L),(5,.L),(6,.L),(7,.L),(8,.L),(9,.C),(10,.L),(11,.L),(12,.L),(13,.L),(14,.L),(15,.L),(16,.L),(17,.L),(18,.L),(19,.L),(20,.L),(21,.L),(22,.L),(23,.L)] [] (by kernel_rfl) (by kernel_rfl) ?_
        repeat first | refine sP ?_ | refine sS ?_ | refine sA ?_ | refine sL ?_ | refine sQ ?_ | refine sO ?_
        refine callC (.bool true) Tryd.func41 (fun w' hS => ?_) ?_
        focus exact (iAreValidRelations_calls w' (some ad) c rs (h0.on (hbx.out.trans hS))).mono fun e w'' h => ⟨by rw [h.1, hr'.out], h.2⟩
        repeat first | refine sP ?_ | refine sS ?_ | refine sA ?_ | refine sL ?_ | refine sQ ?_ | refine sO ?_
        refine callC (.bool true) Tryd.func69 (fun w' hS => ?_) ?_
        focus exact (within_calls w' _ _ _).mono fun e w'' h => ⟨by rw [h.1, hi'.out], h.2⟩
        repeat first | refine sP ?_ | refine sS ?_ | refine sA ?_ | refine sL ?_ | refine sQ ?_ | refine sO ?_
        refine Reg.nil fun w2 hS => ?_
        go_wp2
        go_ret
        have e1 : decide ((vs.length : Int) = arity rs (m : Int)) = false := by rw [har]; exact hl'.out
        exact ⟨ret_bool (by symm; unfold okFact; dsimp only; rw [e1, Bool.and_false, Bool.false_and]), hbx.out.trans hS⟩
      | true =>
        have hl0 : (vs.length : Int) = rs[m].2.1 := of_decide_eq_true hl
        have hl1 : ((vs.length : Int) == rs[m].2.1) = true := by simpa using hl0
        have hl2 : ((vs.length : Int) != rs[m].2.1) = false := by simp [bne, hl1]
        have hl' := Aside0.mk hl
        clear hl hl0
        go_enter Tryd.func51, Tryd.ntmps51
        go_wp2
        refine Reg.region [(0,.L),(1,.C),(2,.L),(3,.L),(4,.L),(5,.L),(6,.L),(7,.L),(8,.L),(9,.C),(10,.L),(11,.L),(12,.L),(13,.L),(14,.L),(15,.L),(16,.L),(17,.L),(18,.L),(19,.L),(20,.L),(21,.L),(22,.L),(23,.L)] [] (by kernel_rfl) (by kernel_rfl) ?_
        repeat first | refine sP ?_ | refine sS ?_ | refine sA ?_ | refine sL ?_ | refine sQ ?_ | refine sO ?_
        refine callC (.bool true) Tryd.func41 (fun w' hS => ?_) ?_
        focus exact (iAreValidRelations_calls w' (some ad) c rs (h0.on (hbx.out.trans hS))).mono fun e w'' h => ⟨by rw [h.1, hr'.out], h.2⟩
        repeat first | refine sP ?_ | refine sS ?_ | refine sA ?_ | refine sL ?_ | refine sQ ?_ | refine sO ?_
        refine callC (.bool true) Tryd.func69 (fun w' hS => ?_) ?_
        focus exact (within_calls w' _ _ _).mono fun e w'' h => ⟨by rw [h.1, hi'.out], h.2⟩
        repeat first | refine sP ?_ | refine sS ?_ | refine sA ?_ | refine sL ?_ | refine sQ ?_ | refine sO ?_
        refine Reg.nil fun w2 hS => ?_
        clear hx1'
        have hL2 := Loc.on hS (loc1 w #[.int .i64 m, .slice B vs.length d] 32)
        have hc0 := blk_cell hL2.1
        have hB2 := Aside0.mk (hbx.out.trans hS)
        cases hv : vs.any (fun v => !okVal v) with
        | true =>
          have hv' := Aside0.mk hv
          clear hv
          go_wp2_with (go_at_call 70; refine (ContainsFuncV_calls w2 B d vs (h1.on hB2.out)).mono ?_; rintro e w3 ⟨rfl, hb3⟩; rw [hv'.out])
          go_ret
          exact ⟨ret_bool (by have : vs.all okVal = false := by have := hv'.out; rw [List.any_eq_not_all_not] at this; simpa using this
                              simp only [okFact, this, Bool.and_false]), hB2.out.trans hb3⟩
        | false =>
          have hv' := Aside0.mk hv
          clear hv
          go_wp2_with (go_at_call 70; refine (ContainsFuncV_calls w2 B d vs (h1.on hB2.out)).mono ?_; rintro e w3 ⟨rfl, hb3⟩; rw [hv'.out])
          go_ret
          exact ⟨ret_bool (by have : vs.all okVal = true := by have := hv'.out; rw [List.any_eq_not_all_not] at this; simpa using this
                              have hl3 := beq_iff_eq.1 hl1; simp [okFact, this, hr'.out, har, hm, hl3]), hB2.out.trans hb3⟩
end Go.Proofs.YtgemaohdlibboaaDoor.H
/- Walks: facts written, on both sides. No condition. -/
namespace Go.Proofs.YtgemaohdlibboaaDoor.H
open Go Go.RowKit Go.Proofs.YtgemaohdlibboaaDoorW.PrintWords Go.Proofs.YtgemaohdlibboaaDoorW.PrintLast
open Go.Proofs.YtgemaohdlibboaaDoor.Reg (On on_draw)
set_option maxHeartbeats 4000000
set_option maxRecDepth 100000
set_option linter.unusedVariables false
set_option linter.unusedSimpArgs false

def txtF (vs : List Int) (k : Nat) : List UInt8 := Lib.join ((vs.take k).map fvL) [44]
theorem txtF_succ (vs : List Int) (k : Nat) (h : k < vs.length) : txtF vs (k + 1) = (if k = 0 then [] else txtF vs k ++ [44]) ++ fvL vs[k] := by
  unfold txtF
  rw [List.take_succ_eq_append_getElem h, List.map_append, List.map_cons, List.map_nil, join_snoc, List.length_map, List.length_take, Nat.min_eq_left (by omega)]
  by_cases c : k = 0
  · rw [if_pos c, if_pos c]; rfl
  · rw [if_neg c, if_neg c]
theorem txtF_len (vs : List Int) (k : Nat) (h : vs.length ≤ 3) : (txtF vs k).length ≤ 20 := by
  have := join_len [44] 3 _ ((vs.take k).map fvL) rfl (fun x hx => by
    obtain ⟨v, hv, rfl⟩ := List.mem_map.1 hx
    exact fvL_len v)
  rw [List.length_map, List.length_take] at this
  unfold txtF
  simp at this ⊢
  omega
theorem txtF_all (vs : List Int) (k : Nat) (h : vs.length ≤ k) : txtF vs k = Lib.join (vs.map fvL) [44] := by unfold txtF; rw [List.take_of_length_le h]
theorem fmtF_cat {rs : List Rel} {f : Fct} {b : UInt8} (h : okFact rs f = true) (hb : nameL rs f.1 = [b]) : fmtF rs f = ([b, 40] ++ Lib.join (f.2.map fvL) [44]) ++ [41] := by
  unfold fmtF; rw [if_pos h, hb]; simp
theorem fvs_take (vs : List Int) (k : Nat) (h : k < vs.length) : (vs.take (k + 1)).map fvL = (vs.take k).map fvL ++ [fvL vs[k]] := by
  rw [List.take_succ_eq_append_getElem h, List.map_append]; rfl
theorem sFormatFact_calls (w : World) (A : Option Addr) (c : Nat) (rs : List Rel) (h : Rels w A c rs) (A1 c1) (f : Fct) (h1 : Ints w A1 c1 f.2) : Calls Tryd.prog 27 #[.slice A rs.length c, .agg #[.int .i64 f.1, .slice A1 f.2.length c1]] w fun e w' => e = .returned (.string (strB (fmtF rs f))) ∧ On w w' := by
  have h' := Aside0.mk h
  have h1' := Aside0.mk h1
  clear h h1
  cases ho : okFact rs f with
  | false =>
    have hb := Aside0.mk (On.alloc (On.refl w) (.cells #[.int .i64 f.1, .slice A1 f.2.length c1] 32 (0, 0)))
    have ho' := Aside0.mk ho
    clear ho
    go_enter Tryd.func27, Tryd.ntmps27
    go_wp2_with (go_at_call 45; refine (IsValidFact_calls _ A c rs A1 c1 f (h'.out.on hb.out) (h1'.out.on hb.out)).mono ?_; rintro e w1 ⟨rfl, hb1⟩; rw [ho'.out])
    go_ret
    exact ⟨by unfold fmtF; rw [if_neg (by rw [ho'.out]; simp)]; rfl, hb.out.trans hb1⟩
  | true =>
    have ho' := Aside0.mk ho
    obtain ⟨rn, hrn, e1, e2, ⟨b, e3, -, -⟩, -, hvs⟩ := okFact_parts ho
    have hcat := Aside0.mk (fmtF_cat ho (e2.trans e3))
    have hl3 := Aside0.mk (okFact_len ho)
    obtain ⟨i, vs⟩ := f
    simp only at e1 hvs hcat hl3
    subst e1
    have hrn' := Aside0.mk hrn
    have hnm := Aside0.mk (show rs[rn].1 = strB [b] by rw [← e3, strB_self])
    have hvs' := Aside0.mk hvs
    have hbx := Aside0.mk (loc1 w #[.int .i64 (rn : Int), .slice A1 vs.length c1] 32)
    have hB0 := Aside0.mk (On.alloc (On.refl w) (.cells #[.int .i64 (rn : Int), .slice A1 vs.length c1] 32 (0, 0)))
    obtain ⟨w0, hw0⟩ : ∃ w0, w.alloc (.cells #[.int .i64 (rn : Int), .slice A1 vs.length c1] 32 (0, 0)) = w0 := ⟨_, rfl⟩
    clear ho e2 e3 hvs hw0
    have hmx := h1'.out.max
    go_enter Tryd.func27, Tryd.ntmps27
    go_wp2_with (go_at_call 45; refine Stop.out ?_)
    refine ⟨(IsValidFact_calls _ A c rs A1 c1 ((rn : Int), vs) (h'.out.on hB0.out) (h1'.out.on hB0.out)).mono ?_⟩
    rintro e w1 ⟨rfl, hb1⟩
    rw [ho'.out]
    have hB1 := Aside0.mk (hB0.out.trans hb1)
    have hbx1 := Aside0.mk (blk_below hbx.out.1 hb1)
    have hq0 := blk_cell hbx1.out
    obtain ⟨ad, hA, x0, -, -⟩ := (h'.out.on hB1.out).at rn hrn'.out
    subst hA
    rw [hnm.out] at x0
    have hrb := hrn'.out
    have c1' := cat1 [b] 40
    have z1' := szOk1 (a := [b]) (by simp)
    clear hb1
    go_wp2
    clear hq0 x0 c1' z1' hrb
    go_loopw [5, 6] (fun v5 v6 wr => ∃ (k : Nat) (s : List UInt8), k ≤ vs.length ∧ v5 = .string (strB s) ∧ v6 = .int .i64 k ∧ Aside0 (s = [b, 40] ++ txtF vs k) ∧ On w1 wr) (fun _ v6 _ => vs.length - (intOf v6).toNat)
    case atStart => exact ⟨0, _, Nat.zero_le _, rfl, rfl, ⟨by unfold txtF; simp [join_nil']⟩, On.refl _⟩
    case round =>
      obtain ⟨k, s, hk, rfl, rfl, hs, hB⟩ := hrel
      have hB' := Aside0.mk hB
      have hsl := Aside0.mk (show s.length ≤ 30 by rw [hs.out]; have := txtF_len vs k hl3.out; simp; omega)
      have hbxr := Aside0.mk (blk_below hbx1.out hB)
      have hq0 := blk_cell hbxr.out
      clear hB
      by_cases hlt : k < vs.length
      · obtain ⟨ad2, rfl, x2⟩ := (h1'.out.on (hB1.out.trans hB'.out)).at k hlt
        have hk' := Aside0.mk hlt
        have hstep := Aside0.mk (txtF_succ vs k hlt)
        have hbd := Aside0.mk (h1'.out.bd k hlt)
        obtain ⟨v, hv⟩ : ∃ v, vs[k] = v := ⟨_, rfl⟩
        rw [hv] at x2 hstep hbd
        clear hv
        have hs' := Aside0.mk hs.out
        clear hs
        have hfl := Aside0.mk (fvL_len v)
        by_cases hk0 : 0 < k
        · have hkb : decide ((0 : Int) < (k : Int)) = true := decide_eq_true (by omega)
          have hkn : decide (0 < k) = true := decide_eq_true hk0
          have c2 := cat1 s 44
          have z2 := szOk1 (a := s) (by have := hsl.out; omega)
          obtain ⟨t, ht⟩ : ∃ t, s ++ [44] = t := ⟨_, rfl⟩
          have htl := Aside0.mk (show t.length ≤ 31 by rw [← ht]; have := hsl.out; simp; omega)
          have hfin := Aside0.mk (show t ++ fvL v = [b, 40] ++ txtF vs (k + 1) by rw [hstep.out, if_neg (by omega), ← ht, hs'.out]; simp)
          rw [ht] at c2
          clear ht hk0
          have c3 := strB_append t (fvL v)
          have z3 := szOk (a := t) (b := fvL v) (by have := htl.out; have := hfl.out; omega)
          go_wp2_with (go_at_call 44; refine (sFormatValue_calls _ v hbd.out).mono ?_; rintro e w3 ⟨rfl, hb3⟩)
          exact ⟨⟨k + 1, _, by have := hk'.out; omega, rfl, by go_num, ⟨hfin.out⟩, hB'.out.trans hb3⟩, by simp [intOf]; have := hk'.out; omega⟩
        · have hkb : decide ((0 : Int) < (k : Int)) = false := decide_eq_false (by omega)
          have hkn : decide (0 < k) = false := decide_eq_false hk0
          have hfin := Aside0.mk (show s ++ fvL v = [b, 40] ++ txtF vs (k + 1) by rw [hstep.out, if_pos (by omega), hs'.out, show k = 0 by omega]; simp [txtF, join_nil'])
          clear hk0
          have c3 := strB_append s (fvL v)
          have z3 := szOk (a := s) (b := fvL v) (by have := hsl.out; have := hfl.out; omega)
          go_wp2_with (go_at_call 44; refine (sFormatValue_calls _ v hbd.out).mono ?_; rintro e w3 ⟨rfl, hb3⟩)
          exact ⟨⟨k + 1, _, by have := hk'.out; omega, rfl, by go_num, ⟨hfin.out⟩, hB'.out.trans hb3⟩, by simp [intOf]; have := hk'.out; omega⟩
      · have c4 := cat1 s 41
        have z4 := szOk1 (a := s) (by have := hsl.out; omega)
        have hfin := Aside0.mk (show s ++ [41] = fmtF rs ((rn : Int), vs) by rw [hcat.out, hs.out, txtF_all vs k (by omega)])
        clear hs
        go_wp2
        go_ret
        exact ⟨by rw [← hfin.out]; rfl, hB1.out.trans hB'.out⟩
theorem iFormatFact_calls (w : World) (A : Option Addr) (c : Nat) (rs : List Rel) (h : Rels w A c rs) (A1 c1) (f : Fct) (h1 : Ints w A1 c1 f.2) : Calls Tryd.prog 33 #[.slice A rs.length c, .agg #[.int .i64 f.1, .slice A1 f.2.length c1]] w fun e w' => e = .returned (.string (strB (fmtF rs f))) ∧ On w w' := by
  have h' := Aside0.mk h
  have h1' := Aside0.mk h1
  clear h h1
  cases ho : okFact rs f with
  | false =>
    have hb := Aside0.mk (On.alloc (On.refl w) (.cells #[.int .i64 f.1, .slice A1 f.2.length c1] 32 (0, 0)))
    have ho' := Aside0.mk ho
    clear ho
    go_enter Tryd.func33, Tryd.ntmps33
    go_wp2_with (go_at_call 51; refine (iIsValidFact_calls _ A c rs A1 c1 f (h'.out.on hb.out) (h1'.out.on hb.out)).mono ?_; rintro e w1 ⟨rfl, hb1⟩; rw [ho'.out])
    go_ret
    exact ⟨by unfold fmtF; rw [if_neg (by rw [ho'.out]; simp)]; rfl, hb.out.trans hb1⟩
  | true =>
    have ho' := Aside0.mk ho
    obtain ⟨rn, hrn, e1, e2, ⟨b, e3, -, -⟩, -, hvs⟩ := okFact_parts ho
    have hcat := Aside0.mk (fmtF_cat ho (e2.trans e3))
    have hl3 := Aside0.mk (okFact_len ho)
    obtain ⟨i, vs⟩ := f
    simp only at e1 hvs hcat hl3
    subst e1
    have hrn' := Aside0.mk hrn
    have hnm := Aside0.mk (show rs[rn].1 = strB [b] by rw [← e3, strB_self])
    have hvs' := Aside0.mk hvs
    have hbx := Aside0.mk (loc1 w #[.int .i64 (rn : Int), .slice A1 vs.length c1] 32)
    have hB0 := Aside0.mk (On.alloc (On.refl w) (.cells #[.int .i64 (rn : Int), .slice A1 vs.length c1] 32 (0, 0)))
    obtain ⟨w0, hw0⟩ : ∃ w0, w.alloc (.cells #[.int .i64 (rn : Int), .slice A1 vs.length c1] 32 (0, 0)) = w0 := ⟨_, rfl⟩
    clear ho e2 e3 hvs hw0
    have hmx := h1'.out.max
    go_enter Tryd.func33, Tryd.ntmps33
    go_wp2_with (go_at_call 51; refine Stop.out ?_)
    refine ⟨(iIsValidFact_calls _ A c rs A1 c1 ((rn : Int), vs) (h'.out.on hB0.out) (h1'.out.on hB0.out)).mono ?_⟩
    rintro e w1 ⟨rfl, hb1⟩
    rw [ho'.out]
    have hB1 := Aside0.mk (hB0.out.trans hb1)
    have hbx1 := Aside0.mk (blk_below hbx.out.1 hb1)
    have hq0 := blk_cell (blk_below hbx1.out (On.alloc (On.refl w1) (.cells #[] 9 (0, 0))))
    clear hb1
    go_wp2
    clear hq0
    go_loopw [5, 16] (fun v5 v16 wr => ∃ k : Nat, k ≤ vs.length ∧ v16 = .int .i64 k ∧ OSt wr w1.heap.size v5 ((vs.take k).map fvL) ∧ On w1 wr) (fun _ v16 _ => vs.length - (intOf v16).toNat)
    case atStart => exact ⟨0, Nat.zero_le _, rfl, ownS0 rfl (Nat.le_refl _), On.alloc (On.refl _) _⟩
    case round =>
      obtain ⟨k, hk, rfl, hO, hB⟩ := hrel
      have hB' := Aside0.mk hB
      obtain ⟨ls, hls⟩ : ∃ ls, (vs.take k).map fvL = ls := ⟨_, rfl⟩
      rw [hls] at hO
      have hls' := Aside0.mk hls
      have hO' := Aside0.mk hO
      clear hB hO hls
      by_cases hlt : k < vs.length
      · obtain ⟨ad2, rfl, x2⟩ := (h1'.out.on (hB1.out.trans hB'.out)).at k hlt
        have hk' := Aside0.mk hlt
        have hstep := Aside0.mk (fvs_take vs k hlt)
        have hbd := Aside0.mk (h1'.out.bd k hlt)
        obtain ⟨v, hv⟩ : ∃ v, vs[k] = v := ⟨_, rfl⟩
        rw [hv] at x2 hstep hbd
        clear hv
        go_wp2_with (go_at_call 50; refine Stop.out ?_)
        refine ⟨(iFormatValue_calls _ v hbd.out).mono ?_⟩
        rintro e w2 ⟨rfl, hb3⟩
        have hb3' := Aside0.mk hb3
        clear hb3 x2
        go_wp2_with (refine gate 23 ?_)
        refine ⟨litS1 23 (y := fvL v) ?_⟩
        have hOA := Aside0.mk (own_ex hO'.out (Ex.of_on (S := fun _ => False) (hb3'.out.trans (On.alloc (On.refl w2) (.cells #[.string (strB (fvL v))] 9 (0, 0))))) (fun _ _ h => h))
        have hBA := Aside0.mk (hB'.out.trans (hb3'.out.trans (On.alloc (On.refl w2) (.cells #[.string (strB (fvL v))] 9 (0, 0)))))
        obtain ⟨ys, hys⟩ : ∃ ys, ls ++ [fvL v] = ys := ⟨_, rfl⟩
        have hys' := Aside0.mk hys
        refine apS1 24 hys hOA.out (lit_S w2 (fvL v)) hBA.out.size (by have := hl3.out; rw [← hls'.out]; simp; omega) fun v3 w3 hO3 hg3 => ?_
        have hO3' := Aside0.mk hO3
        have hB3 := Aside0.mk (Ex.on hBA.out (Ex.of_grown hg3) (fun i e => own_base hO'.out i e.symm))
        clear hys hO3 hg3
        go_wp2
        refine ⟨⟨k + 1, by have := hk'.out; omega, by go_num, ?_, hB3.out⟩, by simp [intOf]; have := hk'.out; omega⟩
        rw [hstep.out, hls'.out, hys'.out]; exact hO3'.out
      · have e1 : vs.take k = vs := List.take_of_length_le (by omega)
        have hls2 := Aside0.mk (show vs.map fvL = ls by rw [← hls'.out, e1])
        clear e1
        obtain ⟨Aq, cq, rfl⟩ := own_slice hO'.out
        have hSt' := Aside0.mk (OSt.same hO'.out).2
        have hjl := Aside0.mk (show (Lib.join ls [44]).length ≤ 20 by rw [← hls2.out]; have := txtF_len vs vs.length hl3.out; rwa [txtF_all vs _ (Nat.le_refl _)] at this)
        have hll := Aside0.mk (show ls.length ≤ 1000000 by rw [← hls2.out]; have := hl3.out; simp; omega)
        have hbxr := Aside0.mk (blk_below hbx1.out hB'.out)
        have hq0 := blk_cell hbxr.out
        obtain ⟨ad, hA, x0, -, -⟩ := (h'.out.on (hB1.out.trans hB'.out)).at rn hrn'.out
        subst hA
        rw [hnm.out] at x0
        have hrb := hrn'.out
        have c1' := cat1 [b] 40
        have z1' := szOk1 (a := [b]) (by simp)
        obtain ⟨j, hj⟩ : ∃ j, Lib.join ls [44] = j := ⟨_, rfl⟩
        have hj' := Aside0.mk hj
        rw [hj] at hjl
        have c5 := strB_append [b, 40] j
        have z5 := szOk (a := [b, 40]) (b := j) (by have := hjl.out; simp; omega)
        obtain ⟨x, hx⟩ : ∃ x, [b, 40] ++ j = x := ⟨_, rfl⟩
        have hxl := Aside0.mk (show x.length ≤ 30 by rw [← hx]; have := hjl.out; simp; omega)
        rw [hx] at c5
        have hfin := Aside0.mk (show x ++ [41] = fmtF rs ((rn : Int), vs) by rw [hcat.out, ← hx, ← hj, hls2.out])
        have c6 := cat1 x 41
        have z6 := szOk1 (a := x) (by have := hxl.out; omega)
        clear hj hx
        go_wp2
        refine Reg.region [(0,.L),(1,.L),(2,.L),(3,.L),(4,.L),(5,.L),(6,.L),(7,.L),(8,.C),(9,.L),(10,.L)] [11] (by kernel_rfl) (by kernel_rfl) ?_
        repeat first | refine sP ?_ | refine sS ?_ | refine sA ?_ | refine sL ?_ | refine sQ ?_ | refine sO ?_
        refine callC (.string (strB j)) Tryd.func43 (fun w' hS => ?_) ?_
        focus (have h := Join_calls w' Aq cq ls [44] (hSt'.out.on hS) hll.out (by rw [hj'.out]; have := hjl.out; omega); rw [hj'.out] at h; exact h)
        repeat first | refine sP ?_ | refine sS ?_ | refine sA ?_ | refine sL ?_ | refine sQ ?_ | refine sO ?_
        refine Reg.tail_ fun w2 hS => ?_
        go_wp2
        go_ret
        exact ⟨by rw [← hfin.out]; rfl, (hB1.out.trans hB'.out).trans hS⟩
end Go.Proofs.YtgemaohdlibboaaDoor.H
/- Walks: the program's own search for facts. No condition. -/
namespace Go.Proofs.YtgemaohdlibboaaDoor.H
open Go Go.RowKit Go.Proofs.YtgemaohdlibboaaDoorW.PrintWords Go.Proofs.YtgemaohdlibboaaDoorW.PrintLast
open Go.Proofs.YtgemaohdlibboaaDoor.Reg (On on_draw)
set_option maxHeartbeats 1000000
set_option maxRecDepth 100000
set_option linter.unusedVariables false
set_option linter.unusedSimpArgs false

/-- A call of a closure. -/
theorem goesC {ops : Array Oper} {rest : List Oper} {o : Oper} {a : Act} {Q : Exit → Act → World → Prop} {w : World} (N : Tmp) {x : Operand} {f : FuncId} {fn : Func} {xs : Array Operand} {ts : Array TypeId} {caps args : Array Value} (hf : Tryd.prog.funcs[f]? = some fn) (hname : (fn.name == "runtime.NumGoroutine") = false) (hb : fn.body.isSome = true)
    (h : Calls Tryd.prog f args w fun e w' => ∃ v, e = .returned v ∧ wpList Tryd.prog ops Q rest (a.put (some N) v) w')
    (hop : o.op = .call { callee := .value x, args := xs, argTypes := ts } := by rfl) (hx : a.eval x = .func (.func f) #[] caps := by rfl) (hargs : xs.map a.eval ++ caps = args := by (try simp only [List.map_toArray, List.map_cons, List.map_nil]); rfl)
    (hd : o.dst = some N := by rfl) (hg : o.guard = none := by rfl) : wpList Tryd.prog ops Q (o :: rest) a w := by
  refine wpList_plain hg fun K hK => ?_
  have he := enters_ hf hname hb args w
  have hrun : (execOp a.eval o).run Tryd.prog w = .ok (.enter f args) w := by
    unfold execOp
    simp [hop, resolve, Deferred.ofValue, invoke, hx, hargs, he]
  unfold Oper.wp
  rw [hrun, Oper.upon_enter]
  refine h.mono fun e w'' hh => ?_
  obtain ⟨v, rfl, hk⟩ := hh
  rw [← hd] at hk
  exact hK _ _ hk
end Go.Proofs.YtgemaohdlibboaaDoor.H
/- Walks: texts cut, relations looked up, on both sides. No condition. -/
namespace Go.Proofs.YtgemaohdlibboaaDoor.H
open Go Go.RowKit Go.Proofs.YtgemaohdlibboaaDoorW.PrintWords Go.Proofs.YtgemaohdlibboaaDoorW.PrintLast
open Go.Proofs.YtgemaohdlibboaaDoor.Reg (On on_draw)
set_option maxHeartbeats 4000000
set_option maxRecDepth 100000
set_option linter.unusedVariables false
set_option linter.unusedSimpArgs false

theorem encS_map (ss : List (List UInt8)) : (ss.map strB).map Value.string = ss.flatMap encS := by
  induction ss with
  | nil => rfl
  | cons x ss ih => simp at ih ⊢; exact ih
theorem Split_calls (w : World) (s : List UInt8) (c : UInt8) (hl : s.length ≤ 2000000) : Calls Tryd.prog 19 #[.string (strB s), .string (strB [c])] w (Got fun v w' => OSt w' w.heap.size v (cutS c s) ∧ On w w') := by
  have hsz : (strB s).size < 4294967281 := by rw [strB_size]; omega
  have h1 : 1 ≤ (strB [c]).size := by rw [strB_size]; simp
  have hle := Lib.countB_le (strB [c]) h1 (strB s).size (strB s) (Nat.le_refl _)
  have hlen := Lib.splitB_all (strB [c]) h1 0 _ (strB s) rfl
  have hI : ∀ (x : ByteArray) (cs : Array Value), x.size ≤ (strB s).size → Calls Tryd.prog 55 #[.string x, .string (strB [c])] (w.alloc (.cells cs 9 (0, 0))) fun e w' => e = .returned (.int .i64 (Lib.indexB x (strB [c]))) ∧ w' = w.alloc (.cells cs 9 (0, 0)) := fun x cs _ => by
    have h := Tryd.strings_Index_one x c (w.alloc (.cells cs 9 (0, 0)))
    have e : Lib.indexB x (strB [c]) = Lib.indexByte x.data.toList c := by
      show Lib.index x.data.toList (strB [c]).data.toList = _
      rw [strB_data, Lib.index_one]
    rw [e]
    exact h
  have hC : Calls Tryd.prog 54 #[.string (strB s), .string (strB [c])] w fun e w' => e = .returned (.int .i64 (Lib.countB (strB s) (strB [c]))) ∧ w' = w := by
    refine (Tryd.strings_Count_one (strB s) c w).mono fun e w' ⟨he, hw⟩ => ⟨?_, hw⟩
    rw [he]
    show _ = Ending.returned (Value.int .i64 ((Lib.count (strB s).data.toList (strB [c]).data.toList : Nat) : Int))
    rw [strB_data [c], Lib.count_one]
    rfl
  have key := Any.strings_genSplit_core Tryd.lays221 (by kernel_rfl) (strB s) (strB [c]) 0 (-1) (Lib.countB (strB s) (strB [c]) + 1) w hsz h1 (Nat.zero_le _) hI hC (by decide) (by decide) (by rw [if_pos (by decide)]; omega)
  rw [Nat.add_sub_cancel, hlen] at key
  have e2 : Lib.cellsOf (Lib.splitB (strB [c]) 0 (Lib.countB (strB s) (strB [c])) (strB s)) (Lib.countB (strB s) (strB [c]) + 1) = ((Lib.splitB (strB [c]) 0 (Lib.countB (strB s) (strB [c])) (strB s)).map Value.string).toArray := by rw [← hlen]; exact Lib.cellsOf_full _
  rw [e2, splitB_cut, encS_map] at key
  have hn : Lib.countB (strB s) (strB [c]) + 1 = (cutS c s).length := by rw [← hlen, splitB_cut, List.length_map]
  rw [hn] at key
  have key2 : Calls Tryd.prog 39 #[.string (strB s), .string (strB [c]), .int .i64 0, .int .i64 (-1)] w fun e w' => e = .returned (.slice (some ⟨w.heap.size, 0, none⟩) (cutS c s).length (cutS c s).length) ∧ w' = w.alloc (.cells ((cutS c s).flatMap encS).toArray 9 (0, 0)) := key
  have hO := World.ownsRow_lit (base := w.heap.size) (e := 9) (size := 1) w ((cutS c s).flatMap encS).toArray (cutS c s).length (Nat.le_refl _) (by simp [maxLen]; rw [← hn]; rw [strB_size] at hle; omega) (by rw [List.size_toArray, flat_len (enc := encS) (sz := 1) (fun _ => rfl)])
  have hO' := Aside0.mk hO
  clear hO key hI hC e2 hlen hle h1 hsz hn
  go_enter Tryd.func19, Tryd.ntmps19
  go_wp2_with (go_at_call 39; refine key2.mono ?_; rintro e w1 ⟨rfl, rfl⟩)
  go_ret
  exact ⟨_, rfl, hO'.out, On.alloc (On.refl _) _⟩
theorem idx_beq (rs : List Rel) (nm : List UInt8) (k : Nat) (h : k < rs.length) : (rs[k].1.toList == (strB nm).toList) = decide (rs[k].1.data.toList = nm) := by
  rw [ByteArray.toList_eq, ByteArray.toList_eq, strB_data, Bool.eq_iff_iff]; simp
abbrev nmP (nm : List UInt8) : Rel → Bool := fun r => decide (r.1.data.toList = nm)
theorem sRelationIndex_calls (w : World) (A : Option Addr) (c : Nat) (rs : List Rel) (h : Rels w A c rs) (nm : List UInt8) : Calls Tryd.prog 25 #[.slice A rs.length c, .string (strB nm)] w fun e w' => e = .returned (.int .i64 (idxFrom (nmP nm) rs 0)) ∧ On w w' := by
  have hmax := h.max
  go_enter Tryd.func25, Tryd.ntmps25
  go_wp2
  go_loopw [5] (fun v wr => ∃ k : Nat, k ≤ rs.length ∧ v = .int .i64 k ∧ Hid (idxFrom (nmP nm) (rs.drop k) k = idxFrom (nmP nm) rs 0) ∧ On w wr) (fun v _ => rs.length - (intOf v).toNat)
  case atStart => exact ⟨0, Nat.zero_le _, rfl, rfl, On.refl _⟩
  case round =>
    obtain ⟨k, hk, rfl, hp, hB⟩ := hrel
    by_cases hlt : k < rs.length
    · obtain ⟨ad, rfl, hx0, hx1, hx2⟩ := (h.on hB).at k hlt
      have hst := Aside0.mk ((idxFrom_step (nmP nm) rs k hlt).symm.trans hp.out)
      have hbq := idx_beq rs nm k hlt
      clear hp hx1 hx2
      cases hv : decide (rs[k].1.data.toList = nm) with
      | true =>
        rw [hv] at hbq
        have hv' := Aside0.mk (show nmP nm rs[k] = true from hv)
        clear hv
        go_wp2
        go_ret
        exact ⟨ret_int (by have := hst.out; rw [hv'.out, if_pos rfl] at this; exact this), hB⟩
      | false =>
        rw [hv] at hbq
        have hv' := Aside0.mk (show nmP nm rs[k] = false from hv)
        clear hv
        go_wp2
        exact ⟨⟨k + 1, by omega, by go_num, (by have := hst.out; rwa [hv'.out, if_neg (by simp)] at this : _ = _), hB⟩, by simp [intOf]; omega⟩
    · go_wp2
      go_ret
      exact ⟨ret_int (by rw [← hp.out, List.drop_of_length_le (by omega)]; rfl), hB⟩
theorem RelIdx1_calls (w : World) (r : Rel) (nm : List UInt8) (b : Nat) (hb0 : w.heap[b]? = some (.cells #[.string (strB nm)] 9 (0, 0))) : Calls Tryd.prog 48 #[.agg #[.string r.1, .int .i64 r.2.1, .bool r.2.2], .pointer (some ⟨b, 0, none⟩)] w fun e w' => e = .returned (.bool (nmP nm r)) ∧ On w w' := by
  have hb := Aside0.mk (On.alloc (On.refl w) (.cells #[.string r.1, .int .i64 r.2.1, .bool r.2.2] 42))
  have hc := blk_cell (blk_below hb0 hb.out)
  have hlt := Aside0.mk (blk_lt hb0)
  have hbq : (r.1.toList == (strB nm).toList) = nmP nm r := by
    rw [ByteArray.toList_eq, ByteArray.toList_eq, strB_data, Bool.eq_iff_iff]; simp [nmP]
  have hbq' := Aside0.mk hbq
  clear hb0 hbq
  go_enter Tryd.func48, Tryd.ntmps48
  go_wp2
  go_ret
  exact ⟨ret_bool hbq'.out, hb.out⟩
theorem IndexFuncR_calls (w : World) (A c) (fs : List Rel) (h : Rels w A c fs) {fn : FuncId} {F : Func} (caps : Array Value) (p : Rel → Bool) (hf : Tryd.prog.funcs[fn]? = some F) (hname : (F.name == "runtime.NumGoroutine") = false) (hbd : F.body.isSome = true)
    (hcl : ∀ (w' : World), On w w' → ∀ (r : Rel), Calls Tryd.prog fn (#[.agg #[.string r.1, .int .i64 r.2.1, .bool r.2.2]] ++ caps) w' fun e w'' => e = .returned (.bool (p r)) ∧ On w' w'') :
    Calls Tryd.prog 47 #[.slice A fs.length c, .func (.func fn) #[] caps] w fun e w' => e = .returned (.int .i64 (idxFrom p fs 0)) ∧ On w w' := by
  have hmax := h.max
  go_enter Tryd.func47, Tryd.ntmps47
  go_wp2
  go_loopw [8] (fun v wr => ∃ k : Nat, k ≤ fs.length ∧ v = .int .i64 k ∧ Hid (idxFrom p (fs.drop k) k = idxFrom p fs 0) ∧ On w wr) (fun v _ => fs.length - (intOf v).toNat)
  case atStart => exact ⟨0, Nat.zero_le _, rfl, rfl, On.refl _⟩
  case round =>
    obtain ⟨k, hk, rfl, hp, hB⟩ := hrel
    by_cases hlt : k < fs.length
    · obtain ⟨ad, rfl, hx0, hx1, hx2⟩ := (h.on hB).at k hlt
      have hst := Aside0.mk ((idxFrom_step p fs k hlt).symm.trans hp.out)
      clear hp
      have hc2 := Aside0.mk (hcl wr hB fs[k])
      cases hv : p fs[k] with
      | true =>
        rw [hv] at hc2
        have hv' := Aside0.mk hv
        clear hv
        go_wp2_with (refine gate 16 ?_)
        refine ⟨goesC 16 hf hname hbd (hc2.out.mono fun e w2 h2 => ⟨_, h2.1, ?_⟩)⟩
        have hb2 := Aside0.mk h2.2
        clear h2
        go_wp2
        go_ret
        exact ⟨ret_int (by have := hst.out; rw [hv'.out, if_pos rfl] at this; exact this), hB.trans hb2.out⟩
      | false =>
        rw [hv] at hc2
        have hv' := Aside0.mk hv
        clear hv
        go_wp2_with (refine gate 16 ?_)
        refine ⟨goesC 16 hf hname hbd (hc2.out.mono fun e w2 h2 => ⟨_, h2.1, ?_⟩)⟩
        have hb2 := Aside0.mk h2.2
        clear h2
        go_wp2
        exact ⟨⟨k + 1, by omega, by go_num, (by have := hst.out; rwa [hv'.out, if_neg (by simp)] at this : _ = _), hB.trans hb2.out⟩, by simp [intOf]; omega⟩
    · go_wp2
      go_ret
      exact ⟨ret_int (by rw [← hp.out, List.drop_of_length_le (by omega)]; rfl), hB⟩
theorem iRelationIndex_calls (w : World) (A : Option Addr) (c : Nat) (rs : List Rel) (h : Rels w A c rs) (nm : List UInt8) : Calls Tryd.prog 30 #[.slice A rs.length c, .string (strB nm)] w fun e w' => e = .returned (.int .i64 (idxFrom (nmP nm) rs 0)) ∧ On w w' := by
  have hb := Aside0.mk (On.alloc (On.refl w) (.cells #[.string (strB nm)] 9))
  have hL := Aside0.mk (loc_new w #[.string (strB nm)] 9)
  go_enter Tryd.func30, Tryd.ntmps30
  go_wp2_with (go_at_call 47; refine (IndexFuncR_calls _ A c rs (h.on hb.out) (fn := 48) #[.pointer (some ⟨w.heap.size, 0, none⟩)] (nmP nm) Tryd.func48 (by kernel_rfl) rfl (fun w' hw r => RelIdx1_calls w' r nm w.heap.size (blk_below hL.out hw))).mono ?_; rintro e w3 ⟨rfl, hb3⟩)
  go_ret
  exact ⟨rfl, hb.out.trans hb3⟩
end Go.Proofs.YtgemaohdlibboaaDoor.H
/- Walks: texts cut at a sign, on both sides. No condition. -/
namespace Go.Proofs.YtgemaohdlibboaaDoor.H
open Go Go.RowKit Go.Proofs.YtgemaohdlibboaaDoorW.PrintWords Go.Proofs.YtgemaohdlibboaaDoorW.PrintLast
open Go.Proofs.YtgemaohdlibboaaDoor.Reg (On on_draw)
set_option maxHeartbeats 4000000
set_option maxRecDepth 100000
set_option linter.unusedVariables false
set_option linter.unusedSimpArgs false

theorem TrimSuffix_calls (w : World) (s : List UInt8) (hl : s.length ≤ 2000000) : Calls Tryd.prog 31 #[.string (strB s), .string (strB [41])] w fun e w' => e = .returned (.string (strB (Lib.trimSuffix s [41]))) ∧ On w w' := by
  refine (Tryd.strings_TrimSuffix (strB s) (strB [41]) w (by rw [strB_size]; omega)).mono fun e w' ⟨he, hw⟩ => ?_
  subst hw
  rw [he, strB_data, strB_data]
  exact ⟨rfl, On.refl _⟩
theorem sliteCut_calls (w : World) (s : List UInt8) (c : UInt8) (hl : s.length ≤ 2000000) : Calls Tryd.prog 46 #[.string (strB s), .string (strB [c])] w fun e w' => e = .returned (.tuple #[.string (strB (Lib.cut s [c]).1), .string (strB (Lib.cut s [c]).2.1), .bool (Lib.cut s [c]).2.2]) ∧ On w w' := by
  have hix := Aside0.mk (Tryd.stringslite_Index_one (strB s) c)
  rcases cut_cases c s with h | ⟨a, b, h, h2⟩
  · have hcut := Aside0.mk (cut_none h)
    have hi := Aside0.mk (show Lib.indexByte (strB s).data.toList c = -1 by rw [strB_data, ← Lib.index_one, index_none h])
    clear h
    go_enter Tryd.func46, Tryd.ntmps46
    go_wp2_with (go_at_call 65; refine (hix.out _).mono ?_; rintro e w1 ⟨rfl, rfl⟩; rw [hi.out])
    go_ret3
    exact ⟨by rw [hcut.out]; rfl, On.refl _⟩
  · have hcut := Aside0.mk (show Lib.cut s [c] = (a, b, true) by rw [h]; exact cut_app b h2)
    have hi := Aside0.mk (show Lib.indexByte (strB s).data.toList c = (a.length : Int) by rw [strB_data, ← Lib.index_one, h, index_app b h2])
    have hsl : s.length = a.length + 1 + b.length := by rw [h]; simp; omega
    have e1 : (strB s).extract 0 a.length = strB a := by rw [strB_extract, h]; simp
    have e2 : (strB s).extract (a.length + 1) (strB s).size = strB b := by rw [strB_rest, h]; simp
    have hss : (strB s).size = s.length := strB_size s
    have hs1 : (strB [c]).size = 1 := by rw [strB_size]; rfl
    have b1 : (a.length : Int) ≤ ((strB s).size : Int) := by rw [hss]; omega
    have b2 : (a.length : Int) + 1 ≤ ((strB s).size : Int) := by rw [hss]; omega
    have hs := Aside0.mk (And.intro hsl hss)
    have bn1 : a.length ≤ (strB s).size := by rw [hss]; omega
    have bn2 : a.length + 1 ≤ (strB s).size := by rw [hss]; omega
    have hwr : IntKind.i64.wrap ((a.length : Int) + 1) = ((a.length + 1 : Nat) : Int) := by rw [IntWalk.i64_in _ (by omega)]; omega
    clear h h2 hsl hss
    go_enter Tryd.func46, Tryd.ntmps46
    go_wp2_with (go_at_call 65; refine (hix.out _).mono ?_; rintro e w1 ⟨rfl, rfl⟩; rw [hi.out])
    refine Reg.region [(0,.P),(1,.P),(2,.P),(3,.P),(4,.P),(5,.P),(6,.P),(7,.P),(8,.P)] [9,10,11] (by kernel_rfl) (by kernel_rfl) ?_
    repeat first | refine sP ?_ | refine sS ?_ | refine sA ?_ | refine sL ?_ | refine sQ ?_ | refine sO ?_
    refine Reg.tail_ fun w2 hS => ?_
    go_wp2
    go_ret3
    exact ⟨by rw [hcut.out]; rfl, hS⟩
theorem Cut_calls (w : World) (s : List UInt8) (c : UInt8) (hl : s.length ≤ 2000000) : Calls Tryd.prog 29 #[.string (strB s), .string (strB [c])] w fun e w' => e = .returned (.tuple #[.string (strB (Lib.cut s [c]).1), .string (strB (Lib.cut s [c]).2.1), .bool (Lib.cut s [c]).2.2]) ∧ On w w' := by
  go_enter Tryd.func29, Tryd.ntmps29
  go_wp2_with (go_at_call 46; refine (sliteCut_calls _ s c hl).mono ?_; rintro e w1 ⟨rfl, hb1⟩)
  go_ret3
  exact ⟨rfl, hb1⟩
theorem cutS_hit {c : UInt8} {s : List UInt8} {i : Nat} (h : i < s.length) (hc : s[i] = c) : cutS c (s.drop i) = [] :: cutS c (s.drop (i + 1)) := by
  rw [List.drop_eq_getElem_cons h, cutS, if_pos hc]
theorem cutS_miss {c : UInt8} {s : List UInt8} {i : Nat} (h : i < s.length) (hc : s[i] ≠ c) : cutS c (s.drop i) = preP [s[i]] (cutS c (s.drop (i + 1))) := by
  rw [List.drop_eq_getElem_cons h, cutS, if_neg hc]
theorem take_one {s : List UInt8} {fr i : Nat} (h : i < s.length) (hf : fr ≤ i) : (s.drop fr).take (i + 1 - fr) = (s.drop fr).take (i - fr) ++ [s[i]] := by
  rw [show i + 1 - fr = (i - fr) + 1 by omega, List.take_succ_eq_append_getElem (by simp; omega), List.getElem_drop]
  simp only [show fr + (i - fr) = i by omega]
theorem strB_get (s : List UInt8) (i : Nat) (h : i < s.length) (k : i < (strB s).size) : (strB s)[i]'k = s[i]'h := by
  simp [strB, ByteArray.getElem_eq_getElem_data]
theorem strB_at (s : List UInt8) (i : Nat) (h : i < s.length) (b : UInt8) (hb : s[i] = b) : ∀ k : i < (strB s).size, (((strB s)[i]'k).toNat : Int) = (b.toNat : Int) := fun k => by
  rw [strB_get s i h k, hb]
theorem l3Cut_calls (w : World) (s : List UInt8) (c : UInt8) (hl : s.length ≤ 2000000) : Calls Tryd.prog 17 #[.string (strB s), .int .u8 (c.toNat : Int)] w (Got fun v w' => OSt w' w.heap.size v (cutS c s) ∧ On w w') := by
  have hss := Aside0.mk (strB_size s)
  have hl' := Aside0.mk hl
  clear hl
  go_enter Tryd.func17, Tryd.ntmps17
  go_wp2
  go_loopw [5, 6, 7] (fun v5 v6 v7 wr => ∃ (i fr : Nat) (ls : List (List UInt8)), fr ≤ i ∧ i ≤ s.length ∧ v6 = .int .i64 fr ∧ v7 = .int .i64 i ∧ OSt wr w.heap.size v5 ls ∧ ls.length ≤ i ∧ Aside0 (ls ++ preP ((s.drop fr).take (i - fr)) (cutS c (s.drop i)) = cutS c s) ∧ On w wr) (fun _ _ v7 _ => s.length - (intOf v7).toNat)
  case atStart => exact ⟨0, 0, [], Nat.le_refl _, Nat.zero_le _, rfl, rfl, ownS0 rfl (Nat.le_refl _), Nat.le_refl _, ⟨by simp [preP_nil]⟩, On.alloc (On.refl _) _⟩
  case round =>
    obtain ⟨i, fr, ls, hf, hi, rfl, rfl, hO, hll, hp, hB⟩ := hrel
    have hO' := Aside0.mk hO
    have hB' := Aside0.mk hB
    have hfi := Aside0.mk (And.intro hf hll)
    clear hO hB hll
    by_cases hlt : i < s.length
    · have hb1 : i < (strB s).size := by rw [hss.out]; exact hlt
      have hlt' := Aside0.mk hlt
      have hwk := Aside0.mk (show wrap64 ((i : Int) + 1) = ((i + 1 : Nat) : Int) by rw [IntWalk.wrap64_in _ (by have := hl'.out; omega)]; omega)
      have hil := Aside0.mk (show i + 1 ≤ s.length from hlt)
      obtain ⟨b, hbb⟩ : ∃ b, s[i]'hlt = b := ⟨_, rfl⟩
      have hat := strB_at s i hlt b hbb
      by_cases hc : b = c
      · have hce := Aside0.mk (cutS_hit hlt (hbb.trans hc))
        have hbc : ((b.toNat : Int) == (c.toNat : Int)) = true := by rw [hc]; simp
        have hbe : ((b.toNat : Int) = (c.toNat : Int)) = True := eq_true (by rw [hc])
        have e1 : (strB s).extract fr i = strB ((s.drop fr).take (i - fr)) := strB_extract s fr i
        have hz1 : (i : Int) ≤ ((strB s).size : Int) := by omega
        have hz2 : fr ≤ i := hf
        clear hc hbb hlt
        go_wp2_with (refine gate 25 ?_)
        refine ⟨litS1 25 (y := (s.drop fr).take (i - fr)) ?_⟩
        have hOA := Aside0.mk (own_ex hO'.out (Ex.of_on (S := fun _ => False) (On.alloc (On.refl wr) (.cells #[.string (strB ((s.drop fr).take (i - fr)))] 9 (0, 0)))) (fun _ _ h => h))
        have hBA := Aside0.mk (hB'.out.trans (On.alloc (On.refl wr) (.cells #[.string (strB ((s.drop fr).take (i - fr)))] 9 (0, 0))))
        obtain ⟨ys, hys⟩ : ∃ ys, ls ++ [(s.drop fr).take (i - fr)] = ys := ⟨_, rfl⟩
        have hys' := Aside0.mk hys
        refine apS1 26 hys hOA.out (lit_S wr ((s.drop fr).take (i - fr))) hBA.out.size (by have := hfi.out; have := hlt'.out; have := hl'.out; omega) fun v3 w3 hO3 hg3 => ?_
        have hO3' := Aside0.mk hO3
        have hB3 := Aside0.mk (Ex.on hBA.out (Ex.of_grown hg3) (fun i e => own_base hO'.out i e.symm))
        clear hys hO3 hg3
        go_wp2
        refine ⟨⟨i + 1, i + 1, ys, Nat.le_refl _, hil.out, by rw [hwk.out], by rw [hwk.out], hO3'.out, by rw [← hys'.out]; have := hfi.out; simp; omega, ⟨?_⟩, hB3.out⟩, by rw [hwk.out]; simp [intOf]; have := hil.out; omega⟩
        have := hp.out
        rw [hce.out, preP, List.append_nil] at this
        rw [← hys'.out, Nat.sub_self, List.take_zero, preP_nil, List.append_assoc]
        exact this
      · have hce := Aside0.mk (cutS_miss hlt (by rw [hbb]; exact hc))
        have hto := Aside0.mk (take_one hlt hf)
        rw [hbb] at hce hto
        have hbc : ((b.toNat : Int) == (c.toNat : Int)) = false := by simp; exact fun e => hc (UInt8.toNat_inj.1 (by omega))
        have hbe : ((b.toNat : Int) = (c.toNat : Int)) = False := eq_false (fun e => hc (UInt8.toNat_inj.1 (by omega)))
        clear hc hbb hlt
        go_wp2
        refine ⟨⟨i + 1, fr, ls, by have := hfi.out; omega, hil.out, rfl, by rw [hwk.out], hO'.out, by have := hfi.out; omega, ⟨by rw [hto.out]; have := hp.out; rw [hce.out, preP_preP] at this; exact this⟩, hB'.out⟩, by rw [hwk.out]; simp [intOf]; have := hil.out; omega⟩
    · have e1 : (strB s).extract fr (strB s).size = strB (s.drop fr) := strB_rest s fr
      have hz1 : fr ≤ (strB s).size := by rw [hss.out]; omega
      have hz3 : (fr : Int) ≤ ((strB s).size : Int) := by omega
      have hz2 : ¬ i < (strB s).size := by rw [hss.out]; exact hlt
      have hfin := Aside0.mk (show ls ++ [s.drop fr] = cutS c s by
        have h := hp.out
        rw [List.drop_eq_nil_of_le (by omega : s.length ≤ i), cutS, preP, List.append_nil, List.take_of_length_le (by simp; omega)] at h
        exact h)
      have hii := Aside0.mk (And.intro hi hlt)
      clear hlt hi hp
      go_wp2_with (refine gate 33 ?_)
      refine ⟨litS1 33 (y := s.drop fr) ?_⟩
      have hOA := Aside0.mk (own_ex hO'.out (Ex.of_on (S := fun _ => False) (On.alloc (On.refl wr) (.cells #[.string (strB (s.drop fr))] 9 (0, 0)))) (fun _ _ h => h))
      have hBA := Aside0.mk (hB'.out.trans (On.alloc (On.refl wr) (.cells #[.string (strB (s.drop fr))] 9 (0, 0))))
      refine apS1 34 hfin.out hOA.out (lit_S wr (s.drop fr)) hBA.out.size (by have := hfi.out; have := hl'.out; have := hii.out; omega) fun v3 w3 hO3 hg3 => ?_
      have hO3' := Aside0.mk hO3
      have hB3 := Aside0.mk (Ex.on hBA.out (Ex.of_grown hg3) (fun i e => own_base hO'.out i e.symm))
      clear hO3 hg3
      go_wp2
      go_ret
      exact ⟨_, rfl, hO3'.out, hB3.out⟩
end Go.Proofs.YtgemaohdlibboaaDoor.H
/- Walks: marks of instances, and whether they hold. No condition. -/
namespace Go.Proofs.YtgemaohdlibboaaDoor.H
open Go Go.RowKit Go.Proofs.YtgemaohdlibboaaDoorW.PrintWords Go.Proofs.YtgemaohdlibboaaDoorW.PrintLast
open Go.Proofs.YtgemaohdlibboaaDoor.Reg (On on_draw)
set_option maxHeartbeats 1000000
set_option maxRecDepth 100000
set_option linter.unusedVariables false
set_option linter.unusedSimpArgs false

/-- The blocks of an instance. -/
def IB (vr vf : Value) (hs : List Hdr) (b : Nat) : Prop := some b = vr.ownBlock ∨ FB vf hs b
theorem FB.lt {w : World} {lo lo2 : Nat} {vf : Value} {hs : List Hdr} {fs : List Fct} (h : OH w lo2 vf hs) (hS : Sep w lo hs fs) {b : Nat} (hb : FB vf hs b) : b < w.heap.size := by
  rcases hb with e | ⟨i, a, ha, e⟩
  · exact own_lt h b e.symm
  · exact (hS.lt ha e.symm).2
theorem markFact_calls (w : World) (lo : Nat) (v : Value) (f : Fct) (k0 : Int) (h : OI w lo v f.2) (h0 : 0 ≤ k0) (h1 : k0 + f.2.length ≤ 10000000) : Calls Tryd.prog 15 #[.agg #[.int .i64 f.1, v], .int .i64 k0] w fun e w' => e = .returned (.int .i64 (k0 + f.2.length)) ∧ OI w' lo v (markI k0 f.2.length) ∧ Ex (fun b => some b = v.ownBlock) w w' := by
  obtain ⟨A1, c1, rfl⟩ := own_slice h
  have hb := Aside0.mk (On.alloc (On.refl w) (.cells #[.int .i64 f.1, .slice A1 f.2.length c1] 32))
  go_enter Tryd.func15, Tryd.ntmps15
  go_wp2_with (go_at_call 35; refine (markIntS_calls _ lo _ f.2 k0 (pw_own_below h hb.out) h0 h1).mono ?_; rintro e w1 ⟨rfl, hO, hE⟩; have hO' := Aside0.mk hO; have hE' := Aside0.mk hE; clear hO hE)
  go_ret
  exact ⟨rfl, hO'.out, (Ex.of_on hb.out).trans hE'.out (fun _ _ h => h)⟩
end Go.Proofs.YtgemaohdlibboaaDoor.H
/- Walks: the program reads relations. No condition. -/
namespace Go.Proofs.YtgemaohdlibboaaDoor.H
open Go Go.RowKit Go.Proofs.YtgemaohdlibboaaDoorW.PrintWords Go.Proofs.YtgemaohdlibboaaDoorW.PrintLast
open Go.Proofs.YtgemaohdlibboaaDoor.Reg (On on_draw)
set_option maxHeartbeats 4000000
set_option maxRecDepth 100000
set_option linter.unusedVariables false
set_option linter.unusedSimpArgs false

theorem OR.same2 {w : World} {lo : Nat} {A : Option Addr} {n c : Nat} {rs : List Rel} (h : OR w lo (.slice A n c) rs) : n = rs.length ∧ Rels w A c rs := by
  obtain ⟨A', c', e, hR⟩ := OR.rd h
  injection e with e1 e2 e3
  subst e1 e3
  exact ⟨e2, hR⟩
section
variable {ops : Array Oper} {rest : List Oper} {o : Oper} {a : Act} {Q : Exit → Act → World → Prop} {W : World}
end
theorem str_bne (a b : List UInt8) : ((strB a).toList != (strB b).toList) = decide (a ≠ b) := by
  rw [bne, str_beq]; by_cases h : a = b <;> simp [h]
end Go.Proofs.YtgemaohdlibboaaDoor.H
/- What a reader of facts answers, plain. No condition. -/
namespace Go.Proofs.YtgemaohdlibboaaDoor.H
open Go Go.RowKit Go.Proofs.YtgemaohdlibboaaDoorW.PrintWords Go.Proofs.YtgemaohdlibboaaDoorW.PrintLast
open Go.Proofs.YtgemaohdlibboaaDoor.Reg (On on_draw)
set_option maxRecDepth 100000
set_option linter.unusedVariables false
set_option linter.unusedSimpArgs false

theorem own1I2 (W : World) (x : Int) : OI (W.alloc (.cells #[.int .i64 x] 3 (0, 0))) W.heap.size (.slice (some ⟨W.heap.size, 0, none⟩) 1 1) [x] := lit_own W #[.int .i64 x] 3 1 1 W.heap.size (Nat.le_refl _) (by omega) rfl
theorem lit_RI2 {W w : World} {x : Int} (hx : -9223372036854775808 ≤ x ∧ x ≤ 9223372036854775807) (hb : On (W.alloc (.cells #[.int .i64 x] 3 (0, 0))) w) : kInts.C w (some ⟨W.heap.size, 0, none⟩) 1 [x] := by
  obtain ⟨A, c, e, h⟩ := OI.rd (pw_own_below (own1I2 W x) hb) (fun y hy => by simp at hy; subst hy; exact hx)
  injection e with e1 e2 e3
  subst e1
  exact h.2.1
theorem ints_of {w : World} {lo n c : Nat} {A : Option Addr} {xs : List Int} (h : OI w lo (.slice A n c) xs) (hr : InR xs) : Ints w A c xs := by
  obtain ⟨A1, c1, e, h1⟩ := h.rd hr
  injection e with e1 e2 e3
  subst e1; subst e3
  exact h1
def vsW (ws : List (List UInt8)) : List Int := ws.map fun w => (parV w).1
theorem parV_wide (s : List UInt8) : -9223372036854775808 ≤ (parV s).1 ∧ (parV s).1 ≤ 9223372036854775807 := by have := parV_bd s; omega
theorem vsW_inR (ws : List (List UInt8)) : InR (vsW ws) := fun x hx => by
  obtain ⟨w, _, rfl⟩ := List.mem_map.1 hx
  exact parV_wide w
theorem vsW_succ (ws : List (List UInt8)) (k : Nat) (h : k < ws.length) : vsW (ws.take (k + 1)) = vsW (ws.take k) ++ [(parV ws[k]).1] := by
  unfold vsW; rw [List.take_succ_eq_append_getElem h, List.map_append]; rfl
theorem cut_rest_len (s : List UInt8) (c : UInt8) : (Lib.cut s [c]).2.1.length ≤ s.length := by
  unfold Lib.cut; split <;> simp
theorem trim_len (s t : List UInt8) : (Lib.trimSuffix s t).length ≤ s.length := by
  unfold Lib.trimSuffix; split <;> simp
theorem pf_A {rs : List Rel} {s : List UInt8} {f : Fct} (h : fmtF rs f = s) (hs : s ≠ []) : parF rs s = (f, true) := by
  have hok : okFact rs f = true := by
    cases hb : okFact rs f with
    | true => rfl
    | false => exact absurd (by rw [← h]; unfold fmtF; rw [hb]; rfl) hs
  rw [← h]; exact parF_fmt hok
theorem pf_F {rs : List Rel} {s : List UInt8} (h : (parF rs s).2 = false) : parF rs s = ((0, []), false) := Prod.ext (parF_true.2 h).1 h
/-- The words of a fact's text. -/
def wsF (s : List UInt8) : List (List UInt8) := cutS 44 ((s.drop 2).take (s.length - 3))
theorem pf_B {rs : List Rel} {s : List UInt8} (h : (parF rs s).2 = true) : 3 ≤ s.length ∧ (∀ w ∈ wsF s, (parV w).2 = true) ∧ parF rs s = ((idxFrom (nmP (s.take 1)) rs 0, vsW (wsF s)), true) ∧ fmtF rs (idxFrom (nmP (s.take 1)) rs 0, vsW (wsF s)) = s := by
  obtain ⟨hok, hf⟩ := parF_true.1 h
  obtain ⟨f, hf'⟩ : ∃ f, (parF rs s).1 = f := ⟨_, rfl⟩
  rw [hf'] at hok hf
  obtain ⟨b, e, hb1, hb2, hn⟩ := fmtF_ok hok
  obtain ⟨k, hk, e1, e2, _, hne, hv⟩ := okFact_parts hok
  rw [hf] at e
  have ht : s.take 1 = [b] := by rw [e]; rfl
  have hd : (s.drop 2).take (s.length - 3) = Lib.join (f.2.map fvL) [44] := by rw [e]; simp
  have hcs : cutS 44 (Lib.join (f.2.map fvL) [44]) = f.2.map fvL := cutS_join _ (by simpa using hne) (fun w hw h44 => by
    obtain ⟨v, hv', rfl⟩ := List.mem_map.1 hw
    have := (fvL_bytes (hv v hv')).1 44 h44
    simp at this)
  have hw : wsF s = f.2.map fvL := by unfold wsF; rw [hd, hcs]
  have hix : idxFrom (nmP [b]) rs 0 = f.1 := by rw [e1, ← hn, e2]; exact idx_name (okFact_rels hok) k hk
  have hvs : vsW (f.2.map fvL) = f.2 := by
    unfold vsW; rw [List.map_map]
    have hmap : f.2.map ((fun w => (parV w).1) ∘ fvL) = f.2.map id := List.map_congr_left fun v hv' => by
      show (parV (fvL v)).1 = v
      rw [parV_fmt (hv v hv')]
    rw [hmap, List.map_id]
  have hfe : (idxFrom (nmP (s.take 1)) rs 0, vsW (wsF s)) = f := by rw [ht, hix, hw, hvs]
  refine ⟨by rw [e]; simp, fun w hm => ?_, ?_, by rw [hfe, hf]⟩
  · rw [hw] at hm
    obtain ⟨v, hv', rfl⟩ := List.mem_map.1 hm
    rw [parV_fmt (hv v hv')]
  · rw [hfe, ← hf']; exact Prod.ext rfl h
theorem pf_len {rs : List Rel} {s : List UInt8} (h : s.length < 3) : parF rs s = ((0, []), false) := pf_F (by
  cases hb : (parF rs s).2 with
  | false => rfl
  | true => have := (pf_B hb).1; omega)
theorem pf_word {rs : List Rel} {s : List UInt8} {w : List UInt8} (hm : w ∈ wsF s) (h : (parV w).2 = false) : parF rs s = ((0, []), false) := pf_F (by
  cases hb : (parF rs s).2 with
  | false => rfl
  | true => have := (pf_B hb).2.1 w hm; rw [h] at this; cases this)
theorem pf_ne {rs : List Rel} {s : List UInt8} (h : fmtF rs (idxFrom (nmP (s.take 1)) rs 0, vsW (wsF s)) ≠ s) : parF rs s = ((0, []), false) := pf_F (by
  cases hb : (parF rs s).2 with
  | false => rfl
  | true => exact absurd (pf_B hb).2.2.2 h)
end Go.Proofs.YtgemaohdlibboaaDoor.H
/- Walks: the program reads a fact. No condition. -/
namespace Go.Proofs.YtgemaohdlibboaaDoor.H
open Go Go.RowKit Go.Proofs.YtgemaohdlibboaaDoorW.PrintWords Go.Proofs.YtgemaohdlibboaaDoorW.PrintLast
open Go.Proofs.YtgemaohdlibboaaDoor.Reg (On on_draw)
set_option maxHeartbeats 4000000
set_option maxRecDepth 100000
set_option linter.unusedVariables false
set_option linter.unusedSimpArgs false

section
variable {fn : Func} {p u : Tmp} {tmps : Array Value} {w : World} {g : Nat} {t : TypeId} {cs : Array Value} {fr : Nat × Nat}
theorem retFB (h : fn.results = #[.cell p 32, .tmp u]) (hp : tmps.getD p undef = .pointer (some ⟨g, 0, none⟩)) (hg : w.heap[g]? = some (.cells cs t fr)) (hs : cs.size = 2) : (results fn tmps).run Tryd.prog w = .ok (.tuple #[.agg cs, tmps.getD u undef]) w :=
  results_ct h tmps w g t cs fr _ hp hg Tryd.underlying32 rfl (by rw [hs]; kernel_rfl)
end
theorem iParseFact_calls (w : World) (A : Option Addr) (c : Nat) (rs : List Rel) (h : Rels w A c rs) (s : List UInt8) (hl : s.length ≤ 1048576) : Calls Tryd.prog 13 #[.slice A rs.length c, .string (strB s)] w (Got fun v w' => ∃ v1, v = .tuple #[.agg #[.int .i64 (parF rs s).1.1, v1], .bool (parF rs s).2] ∧ OI w' w.heap.size v1 (parF rs s).1.2 ∧ On w w') := by
  have hl' := Aside0.mk hl
  have h' := Aside0.mk h
  clear hl h
  have hb0 := Aside0.mk (On.alloc (On.refl w) (.cells #[.int .i64 0, .slice none 0 0] 32 (0, 0)))
  have hL0 := Aside0.mk (loc_new w #[.int .i64 0, .slice none 0 0] 32)
  have hc2l := Aside0.mk (cut_rest_len s 40)
  have hpf := Aside0.mk (show parF rs s = if (Lib.cut s [40]).2.2 = true ∧ fmtF rs (idxFrom (nmP (Lib.cut s [40]).1) rs 0, vsW (cutS 44 (Lib.trimSuffix (Lib.cut s [40]).2.1 [41]))) = s then ((idxFrom (nmP (Lib.cut s [40]).1) rs 0, vsW (cutS 44 (Lib.trimSuffix (Lib.cut s [40]).2.1 [41]))), true) else ((0, []), false) from rfl)
  have hct' := Aside0.mk (Cut_calls (w.alloc (.cells #[.int .i64 0, .slice none 0 0] 32 (0, 0))) s 40 (by have := hl'.out; omega))
  obtain ⟨ct, hct⟩ : ∃ ct, Lib.cut s [40] = ct := ⟨_, rfl⟩
  rw [hct] at hpf hc2l hct'
  clear hct
  obtain ⟨s1, s2, s3⟩ := ct
  simp only at hpf hc2l hct'
  go_enter Tryd.func13, Tryd.ntmps13
  go_wp2_with (go_at_call 29; refine Stop.out ?_)
  refine ⟨(hct'.out).mono ?_⟩
  rintro e w1 ⟨rfl, hb1⟩
  replace hL0 := Aside0.mk (blk_below hL0.out hb1)
  replace hb0 := Aside0.mk (hb0.out.trans hb1)
  clear hb1
  go_wp2_with (go_at_call 30; refine Stop.out ?_)
  refine ⟨(iRelationIndex_calls _ A c rs (h'.out.on hb0.out) s1).mono ?_⟩
  rintro e w2 ⟨rfl, hb1⟩
  replace hL0 := Aside0.mk (blk_below hL0.out hb1)
  replace hb0 := Aside0.mk (hb0.out.trans hb1)
  clear hb1
  obtain ⟨ix, hix⟩ : ∃ ix, idxFrom (nmP s1) rs 0 = ix := ⟨_, rfl⟩
  rw [hix] at hpf ⊢
  clear hix
  have hfill := alloc_fill w2
  go_wp2_with (go_at_call 31; refine Stop.out ?_)
  clear hfill
  have hyb := Aside0.mk (loc_new w2 #[.int .i64 ix, .slice none 0 0] 32)
  have hBy := Aside0.mk (On.alloc (On.refl w2) (.cells #[.int .i64 ix, .slice none 0 0] 32))
  have hsy := Aside0.mk (show (w2.alloc (.cells #[.int .i64 ix, .slice none 0 0] 32 (0, 0))).heap.size = w2.heap.size + 1 by simp only [World.size_alloc])
  obtain ⟨Wy, hWy⟩ : ∃ Wy, w2.alloc (.cells #[.int .i64 ix, .slice none 0 0] 32 (0, 0)) = Wy := ⟨_, rfl⟩
  rw [hWy] at hyb hBy hsy ⊢
  clear hWy
  refine ⟨(TrimSuffix_calls Wy s2 (by have := hc2l.out; have := hl'.out; omega)).mono ?_⟩
  rintro e w3 ⟨rfl, hb3⟩
  have hB3 := Aside0.mk (hBy.out.trans hb3)
  have hy3 := Aside0.mk (blk_below hyb.out hb3)
  have hs3 := Aside0.mk (show w2.heap.size + 1 ≤ w3.heap.size by have := hsy.out; have := hb3.size; omega)
  have htl := Aside0.mk (trim_len s2 [41])
  obtain ⟨tx, htx⟩ : ∃ tx, Lib.trimSuffix s2 [41] = tx := ⟨_, rfl⟩
  rw [htx] at hpf htl ⊢
  clear htx hb3 hyb hBy hsy
  go_wp2_with (go_at_call 19; refine Stop.out ?_)
  refine ⟨(Split_calls _ tx 44 (by have := htl.out; have := hc2l.out; have := hl'.out; omega)).mono ?_⟩
  rintro e w4 ⟨v, rfl, hO, hb4⟩
  have hwl := Aside0.mk (cutS_len 44 tx)
  obtain ⟨ws, hws⟩ : ∃ ws, cutS 44 tx = ws := ⟨_, rfl⟩
  rw [hws] at hO hpf hwl
  clear hws
  obtain ⟨A2, n2, rfl, hSt⟩ := OSt.slice hO
  have hmx : ws.length ≤ 9223372036854775807 := hSt.max
  have hO4 := Aside0.mk (own_lower hO hs3.out)
  have hB4 := Aside0.mk (hB3.out.trans hb4)
  have hy4 := Aside0.mk (blk_below hy3.out hb4)
  have hs4 := Aside0.mk (show w2.heap.size + 1 ≤ w4.heap.size by have := hs3.out; have := hb4.size; omega)
  have hwl' := Aside0.mk (show ws.length ≤ 1048577 by have := hwl.out; have := htl.out; have := hc2l.out; have := hl'.out; omega)
  clear hO hSt hb4 hB3 hy3 hs3 htl hwl
  go_wp2
  go_loopw [28] (fun v wr => ∃ (k : Nat) (xs : List Int) (A' : Option Addr) (c' : Nat), k ≤ ws.length ∧ v = .int .i64 k ∧ Aside0 (xs = vsW (ws.take k)) ∧ Aside0 (OI wr (w2.heap.size + 1) (.slice A' xs.length c') xs) ∧ Aside0 (OSt wr (w2.heap.size + 1) (.slice A2 ws.length n2) ws) ∧ Aside0 (w2.heap.size + 1 ≤ wr.heap.size) ∧ Aside0 (Ex (fun b => w2.heap.size ≤ b) w2 wr) ∧ wr.heap[w2.heap.size]? = some (.cells #[.int .i64 ix, .slice A' xs.length c'] 32 (0, 0))) (fun v _ => ws.length - (intOf v).toNat)
  case atStart => exact ⟨0, [], none, 0, Nat.zero_le _, rfl, ⟨rfl⟩, ⟨World.ownsRow_nil _ _ _ _⟩, hO4, hs4, ⟨Ex.of_on hB4.out⟩, hy4.out⟩
  case round =>
    obtain ⟨k, xs, A', c', hk, rfl, hxs, hO, hOs, hsz, hE, hy⟩ := hrel
    have hlen := Aside0.mk (show xs.length = k by rw [hxs.out, vsW, List.length_map, List.length_take]; omega)
    have hB := Aside0.mk (Ex.to_on hE.out fun i hi => hi)
    have hLr := Aside0.mk (blk_below hL0.out hB.out)
    have hBw := Aside0.mk (hb0.out.trans hB.out)
    have hcy := blk_cell hy
    have hy' := Aside0.mk hy
    clear hy
    by_cases hlt : k < ws.length
    · obtain ⟨ad, rfl, hx⟩ := (OSt.same hOs.out).2.cell k hlt
      obtain ⟨vv, hvv⟩ : ∃ vv, (parV ws[k]).1 = vv := ⟨_, rfl⟩
      have hvb := Aside0.mk (show -9223372036854775808 ≤ vv ∧ vv ≤ 9223372036854775807 by rw [← hvv]; exact parV_wide _)
      have hsuc := Aside0.mk (vsW_succ ws k hlt)
      have hpc := Aside0.mk (fun W => iParseValue_calls W ws[k])
      obtain ⟨wd, hwd⟩ : ∃ wd, ws[k] = wd := ⟨_, rfl⟩
      rw [hwd] at hx hvv hpc
      rw [hwd, hvv] at hsuc
      rw [hvv] at hpc
      clear hwd hvv
      go_wp2_with (go_at_call 32; refine Stop.out ?_)
      refine ⟨(hpc.out _).mono ?_⟩
      rintro e w5 ⟨rfl, hb5⟩
      have hE5 := Aside0.mk (hE.out.then_on hb5)
      have hO5 := Aside0.mk (pw_own_below hO.out hb5)
      have hOs5 := Aside0.mk (pw_own_below hOs.out hb5)
      have hsz5 := Aside0.mk (Nat.le_trans hsz.out hb5.size)
      have hy5 := Aside0.mk (blk_below hy'.out hb5)
      have hcy5 := blk_cell hy5.out
      clear hb5 hx hcy
      go_wp2_with (refine gate 41 ?_)
      have hB7 := Aside0.mk (On.alloc (On.refl w5) (.cells #[.int .i64 vv] 3 (0, 0)))
      have hR7 := Aside0.mk (lit_RI2 hvb.out (On.refl (w5.alloc (.cells #[.int .i64 vv] 3 (0, 0)))))
      generalize w5.alloc (.cells #[.int .i64 vv] 3 (0, 0)) = w7 at hB7 hR7 ⊢
      have hO7 := Aside0.mk (pw_own_below hO5.out hB7.out)
      have hOs7 := Aside0.mk (pw_own_below hOs5.out hB7.out)
      obtain ⟨zs, hz⟩ : ∃ zs, xs ++ [vv] = zs := ⟨_, rfl⟩
      have hz' := Aside0.mk hz
      refine ⟨apI 41 hz (OI.to hO7.out) hR7.out (Nat.le_trans hsz5.out hB7.out.size) (by have := hlen.out; have := hwl'.out; omega) fun v8 w8 hO8' hg8 hat8 => ?_⟩
      have hO8 := OI.of hO8'
      obtain ⟨A8, c8, rfl⟩ := own_slice hO8
      have hgy : some w2.heap.size ≠ Value.ownBlock (.slice A' xs.length c') := fun e => by have := own_base hO.out _ e.symm; omega
      have hk8 := blk_grown hg8 (blk_below hy5.out hB7.out) hgy
      have hcy8 := blk_cell hk8
      have hf8 := blk_frozen hk8
      have hk8' := Aside0.mk hk8
      have hOs8 := Aside0.mk (own_ex hOs7.out (Ex.of_grown hg8) (fun i hi e => own_ne_blk hOs7.out hO7.out (by decide) hi e.symm))
      have hO8' := Aside0.mk hO8
      have hg8' := Aside0.mk hg8
      clear hk8 hgy hcy5 hz hat8 hO8 hg8
      go_wp2
      refine ⟨⟨k + 1, zs, A8, c8, by omega, by go_num, ⟨?_⟩, ⟨ownsRow_setCell_below hO8'.out (by simp) _⟩, ⟨ownsRow_setCell_below hOs8.out (by simp) _⟩, ⟨?_⟩, ⟨?_⟩, blk_set hk8'.out 1 _⟩, by simp [intOf]; omega⟩
      · rw [← hz'.out, hsuc.out, hxs.out]
      · have h3 := hg8'.out.size; have h4 := hB7.out.size; have := hsz5.out; simp [World.setCell]; omega
      · exact ((hE5.out.then_on hB7.out).trans (Ex.of_grown hg8'.out) (fun i _ e => by have := own_base hO7.out i e.symm; omega)).trans (Ex.set _ _ _) (fun i _ e => by have h : i = w2.heap.size := e; omega)
    · have e1 : ws.take k = ws := List.take_of_length_le (by omega)
      rw [e1] at hxs
      have hI := Aside0.mk (ints_of hO.out (by rw [hxs.out]; exact vsW_inR ws))
      have hpx := Aside0.mk (show parF rs s = if s3 = true ∧ fmtF rs (ix, xs) = s then ((ix, xs), true) else ((0, []), false) by rw [hxs.out]; exact hpf.out)
      have hgl := Aside0.mk (blk_lt hL0.out)
      clear e1
      cases s3 with
      | false =>
        have hq := Aside0.mk (show parF rs s = ((0, []), false) by rw [hpx.out, if_neg (by simp)])
        have hcr : ∀ i, wr.cell? ⟨w.heap.size, i, none⟩ = _ := blk_cell hLr.out
        have hfr : ∀ i, wr.frozen? ⟨w.heap.size, i, none⟩ = _ := blk_frozen hLr.out
        go_wp2
        refine bodyPost_ret (retFB rfl rfl (g := w.heap.size) (blk_set (blk_set hLr.out 0 _) 1 _) rfl) rfl ?_
        exact ⟨_, rfl, .slice none 0 0, by rw [hq.out]; rfl, by rw [hq.out]; exact World.ownsRow_nil _ _ _ _, Reg.On.set (Reg.On.set hBw.out (by simp) _) (by simp) _⟩
      | true =>
        by_cases e : fmtF rs (ix, xs) = s
        · have hq := Aside0.mk (show parF rs s = ((ix, xs), true) by rw [hpx.out, if_pos ⟨rfl, e⟩])
          have hbn : ((strB (fmtF rs (ix, xs))).toList != (strB s).toList) = false := by rw [str_bne]; simp [e]
          have hbm : ((strB (fmtF rs (ix, xs))).toList == (strB s).toList) = true := by rw [str_beq]; simp [e]
          have hbo : ((strB (fmtF rs (ix, xs))).toList = (strB s).toList) = True := eq_true (beq_iff_eq.1 hbm)
          have he := Aside0.mk e
          clear e
          go_wp2_with (go_at_call 33; refine Stop.out ?_)
          refine ⟨(iFormatFact_calls _ A c rs (h'.out.on hBw.out) A' c' (ix, xs) hI.out).mono ?_⟩
          rintro e w6 ⟨rfl, hb6⟩
          have hy6 := Aside0.mk (blk_below hy'.out hb6)
          have hL6 := Aside0.mk (blk_below hLr.out hb6)
          have hcy6 := blk_cell hy6.out
          have hcr : ∀ i, w6.cell? ⟨w.heap.size, i, none⟩ = _ := blk_cell hL6.out
          have hfr : ∀ i, w6.frozen? ⟨w.heap.size, i, none⟩ = _ := blk_frozen hL6.out
          have hb6' := Aside0.mk hb6
          clear hb6 hcy
          go_wp2
          refine bodyPost_ret (retFB rfl rfl (g := w.heap.size) (blk_set (blk_set hL6.out 0 _) 1 _) rfl) rfl ?_
          exact ⟨_, rfl, .slice A' xs.length c', by rw [hq.out]; rfl, by rw [hq.out]; exact own_lower (ownsRow_setCell_below (ownsRow_setCell_below (pw_own_below hO.out hb6'.out) (by have := hgl.out; simp; omega) _) (by have := hgl.out; simp; omega) _) (by have := hgl.out; omega), Reg.On.set (Reg.On.set (hBw.out.trans hb6'.out) (by simp) _) (by simp) _⟩
        · have hq := Aside0.mk (show parF rs s = ((0, []), false) by rw [hpx.out, if_neg (fun h => e h.2)])
          have hbn : ((strB (fmtF rs (ix, xs))).toList != (strB s).toList) = true := by rw [str_bne]; simp [e]
          have hbm : ((strB (fmtF rs (ix, xs))).toList == (strB s).toList) = false := by rw [str_beq]; simp [e]
          have hbo : ((strB (fmtF rs (ix, xs))).toList = (strB s).toList) = False := eq_false (fun h => by rw [h] at hbm; simp at hbm)
          have he := Aside0.mk e
          clear e
          go_wp2_with (go_at_call 33; refine Stop.out ?_)
          refine ⟨(iFormatFact_calls _ A c rs (h'.out.on hBw.out) A' c' (ix, xs) hI.out).mono ?_⟩
          rintro e w6 ⟨rfl, hb6⟩
          have hL6 := Aside0.mk (blk_below hLr.out hb6)
          have hcr : ∀ i, w6.cell? ⟨w.heap.size, i, none⟩ = _ := blk_cell hL6.out
          have hfr : ∀ i, w6.frozen? ⟨w.heap.size, i, none⟩ = _ := blk_frozen hL6.out
          have hb6' := Aside0.mk hb6
          clear hb6 hcy
          go_wp2
          refine bodyPost_ret (retFB rfl rfl (g := w.heap.size) (blk_set (blk_set hL6.out 0 _) 1 _) rfl) rfl ?_
          exact ⟨_, rfl, .slice none 0 0, by rw [hq.out]; rfl, by rw [hq.out]; exact World.ownsRow_nil _ _ _ _, Reg.On.set (Reg.On.set (hBw.out.trans hb6'.out) (by simp) _) (by simp) _⟩
end Go.Proofs.YtgemaohdlibboaaDoor.H
/- Walks: the reference reads relations. No condition. -/
namespace Go.Proofs.YtgemaohdlibboaaDoor.H
open Go Go.RowKit Go.Proofs.YtgemaohdlibboaaDoorW.PrintWords Go.Proofs.YtgemaohdlibboaaDoorW.PrintLast
open Go.Proofs.YtgemaohdlibboaaDoor.Reg (On on_draw)
set_option maxHeartbeats 4000000
set_option maxRecDepth 100000
set_option linter.unusedVariables false
set_option linter.unusedSimpArgs false

end Go.Proofs.YtgemaohdlibboaaDoor.H
/- Walks: the reference reads a fact. No condition. -/
namespace Go.Proofs.YtgemaohdlibboaaDoor.H
open Go Go.RowKit Go.Proofs.YtgemaohdlibboaaDoorW.PrintWords Go.Proofs.YtgemaohdlibboaaDoorW.PrintLast
open Go.Proofs.YtgemaohdlibboaaDoor.Reg (On on_draw)
set_option maxHeartbeats 4000000
set_option maxRecDepth 100000
set_option linter.unusedVariables false
set_option linter.unusedSimpArgs false

theorem sParseFact_calls (w : World) (A : Option Addr) (c : Nat) (rs : List Rel) (h : Rels w A c rs) (s : List UInt8) (hl : s.length ≤ 1048576) : Calls Tryd.prog 11 #[.slice A rs.length c, .string (strB s)] w (Got fun v w' => ∃ v1, v = .tuple #[.agg #[.int .i64 (parF rs s).1.1, v1], .bool (parF rs s).2] ∧ OI w' w.heap.size v1 (parF rs s).1.2 ∧ On w w') := by
  have hl' := Aside0.mk hl
  have h' := Aside0.mk h
  clear hl h
  have hb0 := Aside0.mk (On.alloc (On.refl w) (.cells #[.int .i64 0, .slice none 0 0] 32 (0, 0)))
  have hL0 := Aside0.mk (loc_new w #[.int .i64 0, .slice none 0 0] 32)
  by_cases h3 : s.length < 3
  · have hq := Aside0.mk (pf_len (rs := rs) h3)
    have c1 : ((strB s).size < 3) = True := eq_true (by rw [strB_size]; omega)
    have c2 : (((strB s).size : Int) < 3) = True := eq_true (by rw [strB_size]; omega)
    clear h3
    go_enter Tryd.func11, Tryd.ntmps11
    have hcr := blk_cell hL0.out
    have hfr := blk_frozen hL0.out
    go_wp2
    refine bodyPost_ret (retFB rfl rfl (g := w.heap.size) hL0.out rfl) rfl ?_
    exact ⟨_, rfl, .slice none 0 0, by rw [hq.out]; rfl, by rw [hq.out]; exact World.ownsRow_nil _ _ _ _, hb0.out⟩
  · have c1 : ((strB s).size < 3) = False := eq_false (by rw [strB_size]; omega)
    have c2 : (((strB s).size : Int) < 3) = False := eq_false (by rw [strB_size]; omega)
    have hnn := Aside0.mk (show s ≠ [] from fun e => h3 (by rw [e]; simp))
    have e1 : (strB s).extract 0 1 = strB (s.take 1) := by rw [strB_extract]; rfl
    have e2 : (strB s).extract 2 ((strB s).size - 1) = strB ((s.drop 2).take (s.length - 3)) := by rw [strB_extract, strB_size]; rfl
    have hz1 : (1 ≤ (strB s).size) = True := eq_true (by rw [strB_size]; omega)
    have hz2 : 2 ≤ (strB s).size - 1 := by rw [strB_size]; omega
    have hwr : wrap64 (((strB s).size : Int) - 1) = (((strB s).size - 1 : Nat) : Int) := by rw [strB_size, IntWalk.wrap64_in _ (by have := hl'.out; omega)]; omega
    have hwl := Aside0.mk (cutS_len 44 ((s.drop 2).take (s.length - 3)))
    have htl := Aside0.mk (show ((s.drop 2).take (s.length - 3)).length ≤ 1048576 by have := hl'.out; simp; omega)
    have hne := Aside0.mk (fun (e : fmtF rs (idxFrom (nmP (s.take 1)) rs 0, vsW (wsF s)) ≠ s) => pf_ne (rs := rs) e)
    have hye := Aside0.mk (fun (e : fmtF rs (idxFrom (nmP (s.take 1)) rs 0, vsW (wsF s)) = s) => pf_A (rs := rs) e hnn.out)
    have hwd := Aside0.mk (fun (x : List UInt8) (hm : x ∈ wsF s) (e : (parV x).2 = false) => pf_word (rs := rs) hm e)
    obtain ⟨t1, ht1⟩ : ∃ t1, s.take 1 = t1 := ⟨_, rfl⟩
    obtain ⟨tx, htx⟩ : ∃ tx, (s.drop 2).take (s.length - 3) = tx := ⟨_, rfl⟩
    have hwf : wsF s = cutS 44 tx := by unfold wsF; rw [htx]
    rw [ht1] at e1 hne hye
    rw [htx] at e2 hwl htl
    rw [hwf] at hne hye hwd
    have hsl : ∀ wx, (Instr.slice 9 (.string (strB s)) (some (.int .i64 2)) (some (.int .i64 (((strB s).size - 1 : Nat) : Int))) none).run Tryd.prog wx = .ok (.string (strB tx)) wx := fun wx => by
      have h := run_slice_string (P := Tryd.prog) wx 9 (strB s) .i64 .i64 2 (((strB s).size - 1 : Nat) : Int) Tryd.underlying9 (by omega) (by omega) (by omega)
      rw [h, ← e2]; rfl
    clear h3 ht1 htx hwf
    go_enter Tryd.func11, Tryd.ntmps11
    go_wp2_with (go_at_call 25; refine Stop.out ?_)
    refine ⟨(sRelationIndex_calls _ A c rs (h'.out.on hb0.out) t1).mono ?_⟩
    rintro e w2 ⟨rfl, hb1⟩
    replace hL0 := Aside0.mk (blk_below hL0.out hb1)
    replace hb0 := Aside0.mk (hb0.out.trans hb1)
    clear hb1
    obtain ⟨ix, hix⟩ : ∃ ix, idxFrom (nmP t1) rs 0 = ix := ⟨_, rfl⟩
    rw [hix] at hne hye ⊢
    clear hix
    have hfill := alloc_fill w2
    go_wp2_with (go_at_call 17; refine Stop.out ?_)
    clear hfill
    have hyb := Aside0.mk (loc_new w2 #[.int .i64 ix, .slice none 0 0] 32)
    have hBy := Aside0.mk (On.alloc (On.refl w2) (.cells #[.int .i64 ix, .slice none 0 0] 32))
    have hsy := Aside0.mk (show (w2.alloc (.cells #[.int .i64 ix, .slice none 0 0] 32 (0, 0))).heap.size = w2.heap.size + 1 by simp only [World.size_alloc])
    obtain ⟨Wy, hWy⟩ : ∃ Wy, w2.alloc (.cells #[.int .i64 ix, .slice none 0 0] 32 (0, 0)) = Wy := ⟨_, rfl⟩
    rw [hWy] at hyb hBy hsy ⊢
    clear hWy
    refine ⟨(l3Cut_calls Wy tx 44 (by have := htl.out; omega)).mono ?_⟩
    rintro e w4 ⟨v, rfl, hO, hb4⟩
    obtain ⟨ws, hws⟩ : ∃ ws, cutS 44 tx = ws := ⟨_, rfl⟩
    rw [hws] at hO hne hye hwd hwl
    clear hws
    obtain ⟨A2, n2, rfl, hSt⟩ := OSt.slice hO
    have hmx : ws.length ≤ 9223372036854775807 := hSt.max
    have hO4 := Aside0.mk (own_lower hO (Nat.le_of_eq hsy.out.symm))
    have hB4 := Aside0.mk (hBy.out.trans hb4)
    have hy4 := Aside0.mk (blk_below hyb.out hb4)
    have hs4 := Aside0.mk (show w2.heap.size + 1 ≤ w4.heap.size by have := hsy.out; have := hb4.size; omega)
    have hwl' := Aside0.mk (show ws.length ≤ 1048577 by have := hwl.out; have := htl.out; omega)
    clear hO hSt hb4 hBy hyb hsy htl hwl
    clear c1 c2 e1 e2 hz1 hz2 hwr hsl
    go_wp2
    go_loopw [8] (fun v wr => ∃ (k : Nat) (xs : List Int) (A' : Option Addr) (c' : Nat), k ≤ ws.length ∧ v = .int .i64 k ∧ Aside0 (xs = vsW (ws.take k)) ∧ Aside0 (OI wr (w2.heap.size + 1) (.slice A' xs.length c') xs) ∧ Aside0 (OSt wr (w2.heap.size + 1) (.slice A2 ws.length n2) ws) ∧ Aside0 (w2.heap.size + 1 ≤ wr.heap.size) ∧ Aside0 (Ex (fun b => w2.heap.size ≤ b) w2 wr) ∧ wr.heap[w2.heap.size]? = some (.cells #[.int .i64 ix, .slice A' xs.length c'] 32 (0, 0))) (fun v _ => ws.length - (intOf v).toNat)
    case atStart => exact ⟨0, [], none, 0, Nat.zero_le _, rfl, ⟨rfl⟩, ⟨World.ownsRow_nil _ _ _ _⟩, hO4, hs4, ⟨Ex.of_on hB4.out⟩, hy4.out⟩
    case round =>
      obtain ⟨k, xs, A', c', hk, rfl, hxs, hO, hOs, hsz, hE, hy⟩ := hrel
      have hlen := Aside0.mk (show xs.length = k by rw [hxs.out, vsW, List.length_map, List.length_take]; omega)
      have hB := Aside0.mk (Ex.to_on hE.out fun i hi => hi)
      have hLr := Aside0.mk (blk_below hL0.out hB.out)
      have hBw := Aside0.mk (hb0.out.trans hB.out)
      have hy' := Aside0.mk hy
      clear hy
      by_cases hlt : k < ws.length
      · obtain ⟨ad, rfl, hx⟩ := (OSt.same hOs.out).2.cell k hlt
        have hmem := Aside0.mk (hwd.out _ (List.getElem_mem hlt))
        obtain ⟨vv, hvv⟩ : ∃ vv, (parV ws[k]).1 = vv := ⟨_, rfl⟩
        obtain ⟨vb, hvb0⟩ : ∃ vb, (parV ws[k]).2 = vb := ⟨_, rfl⟩
        have hvb := Aside0.mk (show -9223372036854775808 ≤ vv ∧ vv ≤ 9223372036854775807 by rw [← hvv]; exact parV_wide _)
        have hsuc := Aside0.mk (vsW_succ ws k hlt)
        have hpc := Aside0.mk (fun W => sParseValue_calls W ws[k])
        obtain ⟨wd, hwd'⟩ : ∃ wd, ws[k] = wd := ⟨_, rfl⟩
        rw [hwd'] at hx hvv hpc hvb0 hmem
        rw [hwd', hvv] at hsuc
        rw [hvv, hvb0] at hpc
        rw [hvb0] at hmem
        clear hwd' hvv hvb0
        go_wp2_with (go_at_call 26; refine Stop.out ?_)
        refine ⟨(hpc.out _).mono ?_⟩
        rintro e w5 ⟨rfl, hb5⟩
        have hE5 := Aside0.mk (hE.out.then_on hb5)
        have hO5 := Aside0.mk (pw_own_below hO.out hb5)
        have hOs5 := Aside0.mk (pw_own_below hOs.out hb5)
        have hsz5 := Aside0.mk (Nat.le_trans hsz.out hb5.size)
        have hy5 := Aside0.mk (blk_below hy'.out hb5)
        have hL6 := Aside0.mk (blk_below hLr.out hb5)
        have hb6' := Aside0.mk hb5
        clear hb5 hx
        cases vb with
        | false =>
          have hq := Aside0.mk (hmem.out rfl)
          have hcr : ∀ i, w5.cell? ⟨w.heap.size, i, none⟩ = _ := blk_cell hL6.out
          have hfr : ∀ i, w5.frozen? ⟨w.heap.size, i, none⟩ = _ := blk_frozen hL6.out
          go_wp2
          refine bodyPost_ret (retFB rfl rfl (g := w.heap.size) (blk_set (blk_set hL6.out 0 _) 1 _) rfl) rfl ?_
          exact ⟨_, rfl, .slice none 0 0, by rw [hq.out]; rfl, by rw [hq.out]; exact World.ownsRow_nil _ _ _ _, Reg.On.set (Reg.On.set (hBw.out.trans hb6'.out) (by simp) _) (by simp) _⟩
        | true =>
          have hcy5 := blk_cell hy5.out
          go_wp2_with (refine gate 47 ?_)
          have hB7 := Aside0.mk (On.alloc (On.refl w5) (.cells #[.int .i64 vv] 3 (0, 0)))
          have hR7 := Aside0.mk (lit_RI2 hvb.out (On.refl (w5.alloc (.cells #[.int .i64 vv] 3 (0, 0)))))
          generalize w5.alloc (.cells #[.int .i64 vv] 3 (0, 0)) = w7 at hB7 hR7 ⊢
          have hO7 := Aside0.mk (pw_own_below hO5.out hB7.out)
          have hOs7 := Aside0.mk (pw_own_below hOs5.out hB7.out)
          obtain ⟨zs, hz⟩ : ∃ zs, xs ++ [vv] = zs := ⟨_, rfl⟩
          have hz' := Aside0.mk hz
          refine ⟨apI 47 hz (OI.to hO7.out) hR7.out (Nat.le_trans hsz5.out hB7.out.size) (by have := hlen.out; have := hwl'.out; omega) fun v8 w8 hO8' hg8 hat8 => ?_⟩
          have hO8 := OI.of hO8'
          obtain ⟨A8, c8, rfl⟩ := own_slice hO8
          have hgy : some w2.heap.size ≠ Value.ownBlock (.slice A' xs.length c') := fun e => by have := own_base hO.out _ e.symm; omega
          have hk8 := blk_grown hg8 (blk_below hy5.out hB7.out) hgy
          have hcy8 := blk_cell hk8
          have hf8 := blk_frozen hk8
          have hk8' := Aside0.mk hk8
          have hOs8 := Aside0.mk (own_ex hOs7.out (Ex.of_grown hg8) (fun i hi e => own_ne_blk hOs7.out hO7.out (by decide) hi e.symm))
          have hO8' := Aside0.mk hO8
          have hg8' := Aside0.mk hg8
          clear hk8 hgy hcy5 hz hat8 hO8 hg8
          go_wp2
          refine ⟨⟨k + 1, zs, A8, c8, by omega, by go_num, ⟨?_⟩, ⟨ownsRow_setCell_below hO8'.out (by simp) _⟩, ⟨ownsRow_setCell_below hOs8.out (by simp) _⟩, ⟨?_⟩, ⟨?_⟩, blk_set hk8'.out 1 _⟩, by simp [intOf]; omega⟩
          · rw [← hz'.out, hsuc.out, hxs.out]
          · have h3 := hg8'.out.size; have h4 := hB7.out.size; have := hsz5.out; simp [World.setCell]; omega
          · exact ((hE5.out.then_on hB7.out).trans (Ex.of_grown hg8'.out) (fun i _ e => by have := own_base hO7.out i e.symm; omega)).trans (Ex.set _ _ _) (fun i _ e => by have h : i = w2.heap.size := e; omega)
      · have e1 : ws.take k = ws := List.take_of_length_le (by omega)
        rw [e1] at hxs
        have hI := Aside0.mk (ints_of hO.out (by rw [hxs.out]; exact vsW_inR ws))
        rw [← hxs.out] at hne hye
        have hgl := Aside0.mk (blk_lt hL0.out)
        have hcy := blk_cell hy'.out
        clear e1
        by_cases e : fmtF rs (ix, xs) = s
        · have hq := Aside0.mk (hye.out e)
          have hbn : ((strB (fmtF rs (ix, xs))).toList != (strB s).toList) = false := by rw [str_bne]; simp [e]
          have hbm : ((strB (fmtF rs (ix, xs))).toList == (strB s).toList) = true := by rw [str_beq]; simp [e]
          have hbo : ((strB (fmtF rs (ix, xs))).toList = (strB s).toList) = True := eq_true (beq_iff_eq.1 hbm)
          have he := Aside0.mk e
          clear e
          go_wp2_with (go_at_call 27; refine Stop.out ?_)
          refine ⟨(sFormatFact_calls _ A c rs (h'.out.on hBw.out) A' c' (ix, xs) hI.out).mono ?_⟩
          rintro e w6 ⟨rfl, hb6⟩
          have hy6 := Aside0.mk (blk_below hy'.out hb6)
          have hL6 := Aside0.mk (blk_below hLr.out hb6)
          have hcy6 := blk_cell hy6.out
          have hcr : ∀ i, w6.cell? ⟨w.heap.size, i, none⟩ = _ := blk_cell hL6.out
          have hfr : ∀ i, w6.frozen? ⟨w.heap.size, i, none⟩ = _ := blk_frozen hL6.out
          have hb6' := Aside0.mk hb6
          clear hb6 hcy
          go_wp2
          refine bodyPost_ret (retFB rfl rfl (g := w.heap.size) (blk_set (blk_set hL6.out 0 _) 1 _) rfl) rfl ?_
          exact ⟨_, rfl, .slice A' xs.length c', by rw [hq.out]; rfl, by rw [hq.out]; exact own_lower (ownsRow_setCell_below (ownsRow_setCell_below (pw_own_below hO.out hb6'.out) (by have := hgl.out; simp; omega) _) (by have := hgl.out; simp; omega) _) (by have := hgl.out; omega), Reg.On.set (Reg.On.set (hBw.out.trans hb6'.out) (by simp) _) (by simp) _⟩
        · have hq := Aside0.mk (hne.out e)
          have hbn : ((strB (fmtF rs (ix, xs))).toList != (strB s).toList) = true := by rw [str_bne]; simp [e]
          have hbm : ((strB (fmtF rs (ix, xs))).toList == (strB s).toList) = false := by rw [str_beq]; simp [e]
          have hbo : ((strB (fmtF rs (ix, xs))).toList = (strB s).toList) = False := eq_false (fun h => by rw [h] at hbm; simp at hbm)
          have he := Aside0.mk e
          clear e
          go_wp2_with (go_at_call 27; refine Stop.out ?_)
          refine ⟨(sFormatFact_calls _ A c rs (h'.out.on hBw.out) A' c' (ix, xs) hI.out).mono ?_⟩
          rintro e w6 ⟨rfl, hb6⟩
          have hL6 := Aside0.mk (blk_below hLr.out hb6)
          have hcr : ∀ i, w6.cell? ⟨w.heap.size, i, none⟩ = _ := blk_cell hL6.out
          have hfr : ∀ i, w6.frozen? ⟨w.heap.size, i, none⟩ = _ := blk_frozen hL6.out
          have hb6' := Aside0.mk hb6
          clear hb6 hcy
          go_wp2
          refine bodyPost_ret (retFB rfl rfl (g := w.heap.size) (blk_set (blk_set hL6.out 0 _) 1 _) rfl) rfl ?_
          exact ⟨_, rfl, .slice none 0 0, by rw [hq.out]; rfl, by rw [hq.out]; exact World.ownsRow_nil _ _ _ _, Reg.On.set (Reg.On.set (hBw.out.trans hb6'.out) (by simp) _) (by simp) _⟩
end Go.Proofs.YtgemaohdlibboaaDoor.H
/- Walks: nulls. No condition. -/
namespace Go.Proofs.YtgemaohdlibboaaDoor.H
open Go Go.RowKit Go.Proofs.YtgemaohdlibboaaDoorW.PrintWords Go.Proofs.YtgemaohdlibboaaDoorW.PrintLast
open Go.Proofs.YtgemaohdlibboaaDoor.Reg (On on_draw)
set_option maxHeartbeats 1000000
set_option maxRecDepth 100000
set_option linter.unusedVariables false
set_option linter.unusedSimpArgs false

end Go.Proofs.YtgemaohdlibboaaDoor.H
/- Walks: valid instances. No condition. -/
namespace Go.Proofs.YtgemaohdlibboaaDoor.H
open Go Go.RowKit Go.Proofs.YtgemaohdlibboaaDoorW.PrintWords Go.Proofs.YtgemaohdlibboaaDoorW.PrintLast
open Go.Proofs.YtgemaohdlibboaaDoor.Reg (On on_draw)
set_option maxHeartbeats 8000000
set_option maxRecDepth 100000
set_option linter.unusedVariables false
set_option linter.unusedSimpArgs false

end Go.Proofs.YtgemaohdlibboaaDoor.H
/- Walks: nulls of instances. No condition. -/
namespace Go.Proofs.YtgemaohdlibboaaDoor.H
open Go Go.RowKit Go.Proofs.YtgemaohdlibboaaDoorW.PrintWords Go.Proofs.YtgemaohdlibboaaDoorW.PrintLast
open Go.Proofs.YtgemaohdlibboaaDoor.Reg (On on_draw)
set_option maxHeartbeats 1000000
set_option maxRecDepth 100000
set_option linter.unusedVariables false
set_option linter.unusedSimpArgs false

end Go.Proofs.YtgemaohdlibboaaDoor.H
/- Walks: the reference's place of a fact, copies. No condition. -/
namespace Go.Proofs.YtgemaohdlibboaaDoor.H
open Go Go.RowKit Go.Proofs.YtgemaohdlibboaaDoorW.PrintWords Go.Proofs.YtgemaohdlibboaaDoorW.PrintLast
open Go.Proofs.YtgemaohdlibboaaDoor.Reg (On on_draw)
set_option maxHeartbeats 1000000
set_option maxRecDepth 100000
set_option linter.unusedVariables false
set_option linter.unusedSimpArgs false

section
variable {fn : Func} {p u : Tmp} {tmps : Array Value} {w : World} {g : Nat} {t : TypeId} {cs : Array Value} {fr : Nat × Nat}
end
theorem blk_ex {S : Nat → Prop} {W w : World} {g : Nat} {o : Obj} (h : Ex S W w) (hg : W.heap[g]? = some o) (hn : ¬ S g) : w.heap[g]? = some o := (h.block g (blk_lt hg) hn).trans hg
theorem Fcts.ex {S : Nat → Prop} {w0 W w : World} {A : Option Addr} {c : Nat} {fs : List Fct} (h : Fcts w0 A c fs) (hb : On w0 W) (hE : Ex S W w) (hS : ∀ i, S i → w0.heap.size ≤ i) : Fcts w A c fs := h.on (Ex.on hb hE hS)
end Go.Proofs.YtgemaohdlibboaaDoor.H
/- Walks: the reference takes a fact out; restricts. No condition. -/
namespace Go.Proofs.YtgemaohdlibboaaDoor.H
open Go Go.RowKit Go.Proofs.YtgemaohdlibboaaDoorW.PrintWords Go.Proofs.YtgemaohdlibboaaDoorW.PrintLast
open Go.Proofs.YtgemaohdlibboaaDoor.Reg (On on_draw)
set_option maxHeartbeats 1000000
set_option maxRecDepth 100000
set_option linter.unusedVariables false
set_option linter.unusedSimpArgs false

/-- An instance that is read. -/
structure RIn (w : World) (v : Value) (rs : List Rel) (fs : List Fct) : Prop where mk :: (out : ∃ A0 c0 A1 c1, v = .agg #[.slice A0 rs.length c0, .slice A1 fs.length c1] ∧ Rels w A0 c0 rs ∧ Fcts w A1 c1 fs)
theorem RIn.on {W w : World} {v : Value} {rs : List Rel} {fs : List Fct} (h : RIn W v rs fs) (hb : On W w) : RIn w v rs fs := by
  obtain ⟨A0, c0, A1, c1, e, h0, h1⟩ := h.out
  exact ⟨A0, c0, A1, c1, e, h0.on hb, h1.on hb⟩
theorem RH.take {w : World} {A : Option Addr} {c : Nat} {hs : List Hdr} (h : RH w A c hs) (k : Nat) (hk : k ≤ hs.length) : RH w A c (hs.take k) := by
  have hl : (hs.take k).length = k := by rw [List.length_take]; omega
  refine ⟨by rw [hl]; have := h.cap; omega, by rw [hl]; have := h.max; omega, fun j u hu => h.cell j u ?_⟩
  have e : hs.flatMap encH = (hs.take k).flatMap encH ++ (hs.drop k).flatMap encH := by rw [← List.flatMap_append, List.take_append_drop]
  rw [e, List.getElem?_append_left (List.getElem?_eq_some_iff.1 hu).1]; exact hu
theorem RH.drop {w : World} {A : Option Addr} {c : Nat} {hs : List Hdr} (h : RH w A c hs) (k : Nat) (hk : k ≤ hs.length) : RH w (if c = k then A else A.map (·.add (k * 2))) (c - k) (hs.drop k) := by
  have hl : (hs.drop k).length = hs.length - k := List.length_drop
  have hcap := h.cap
  have e : hs.flatMap encH = (hs.take k).flatMap encH ++ (hs.drop k).flatMap encH := by rw [← List.flatMap_append, List.take_append_drop]
  have hl2 : ((hs.take k).flatMap encH).length = k * 2 := by rw [flat_len (enc := encH) (sz := 2) (fun _ => rfl), List.length_take]; congr 1; omega
  refine ⟨by rw [hl]; omega, by rw [hl]; have := h.max; omega, fun j u hu => ?_⟩
  obtain ⟨ad, e2, hc⟩ := h.cell (k * 2 + j) u (by rw [e, List.getElem?_append_right (by omega), hl2, show k * 2 + j - k * 2 = j by omega]; exact hu)
  subst e2
  have hlt : 0 < (hs.drop k).length := by
    have := (List.getElem?_eq_some_iff.1 hu).1
    rw [flat_len (enc := encH) (sz := 2) (fun _ => rfl)] at this
    omega
  rw [if_neg (by omega)]
  exact ⟨_, rfl, by rw [Addr.add_add]; exact hc⟩
section
variable {ops : Array Oper} {Q : Exit → Act → World → Prop} {i : Nat} {tail : List Nat} {l : List (Nat × Reg.K)} {a : Act} {W : World} {o : Oper} {N : Tmp}
end
end Go.Proofs.YtgemaohdlibboaaDoor.H
/- The rule for regions that draw their order, where two operations that make memory may come up at once. No condition. -/
namespace Go.Proofs.YtgemaohdlibboaaDoor.Reg
open Go Go.RowKit
variable {P : Program} {ops : Array Oper} {Q : Exit → Act → World → Prop} {md : Region.Mode}
/-! Two operations that make memory may come up at once: both ways are walked. -/
inductive Tr where
  | leaf (l : List (Nat × K))
  | s (i : Nat) (k : K) (p : Tr)
  | two (i j : Nat) (p q : Tr)
def Tr.len : Tr → Nat
  | .leaf l => l.length
  | .s _ _ p => p.len + 1
  | .two _ _ p _ => p.len + 1
/-! The moves over a tree. -/
section
variable {i j : Nat} {tail : List Nat} {p q : Tr} {a : Act} {W : World} {o : Oper} {N : Tmp}
end
end Go.Proofs.YtgemaohdlibboaaDoor.Reg
namespace Go.Proofs.YtgemaohdlibboaaDoor.H
open Go Go.RowKit Go.Proofs.YtgemaohdlibboaaDoorW.PrintWords Go.Proofs.YtgemaohdlibboaaDoorW.PrintLast
open Go.Proofs.YtgemaohdlibboaaDoor.Reg (On on_draw)
section
variable {P : Program} {ops : Array Oper} {Q : Exit → Act → World → Prop} {i j : Nat} {tail : List Nat} {p q : Reg.Tr} {a a' : Act} {W : World} {o o' : Oper} {N : Tmp}
end
end Go.Proofs.YtgemaohdlibboaaDoor.H
/- The laws' own functions, told alike for each kind of datum. No condition. -/
namespace Go.Proofs.YtgemaohdlibboaaDoor.H
open Go Go.RowKit Go.Proofs.YtgemaohdlibboaaDoorW.PrintWords Go.Proofs.YtgemaohdlibboaaDoorW.PrintLast
open Go.Proofs.YtgemaohdlibboaaDoor.Reg (On on_draw)
set_option maxHeartbeats 1000000
set_option maxRecDepth 100000
set_option linter.unusedVariables false
set_option linter.unusedSimpArgs false

theorem OIn.ex {S : Nat → Prop} {W w : World} {lo : Nat} {v : Value} {rs : List Rel} {fs : List Fct} (h : OIn W lo v rs fs) (k : Ex S W w) (hS : ∀ b, S b → b < lo) : OIn w lo v rs fs := by
  obtain ⟨vr, vf, hs, e, hR, hH, hSp⟩ := h.out
  refine ⟨vr, vf, hs, e, own_ex hR k (fun i hi h => ?_), own_ex hH k (fun i hi h => ?_), hSp.ex k (fun i a b ha hb h => ?_)⟩
  · have := own_base hR i hi; have := hS _ h; omega
  · have := own_base hH i hi; have := hS _ h; omega
  · have := (hSp.lt ha hb).1; have := hS _ h; omega
/-- An instance of one's own whose blocks lie in a range. -/
structure OIb (w : World) (lo hi : Nat) (v : Value) (rs : List Rel) (fs : List Fct) : Prop where mk :: (out : ∃ vr vf hs, v = .agg #[vr, vf] ∧ OR w lo vr rs ∧ OH w lo vf hs ∧ Sep w lo hs fs ∧ ∀ b, IB vr vf hs b → b < hi)
theorem OIn.b {w : World} {lo : Nat} {v : Value} {rs : List Rel} {fs : List Fct} (h : OIn w lo v rs fs) : OIb w lo w.heap.size v rs fs := by
  obtain ⟨vr, vf, hs, e, hR, hH, hS⟩ := h.out
  refine ⟨vr, vf, hs, e, hR, hH, hS, fun b hb => ?_⟩
  rcases hb with e | e | ⟨i, a, ha, e⟩
  · exact own_lt hR b e.symm
  · exact own_lt hH b e.symm
  · exact (hS.lt ha e.symm).2
theorem OIb.n {w : World} {lo hi : Nat} {v : Value} {rs : List Rel} {fs : List Fct} (h : OIb w lo hi v rs fs) : OIn w lo v rs fs := by
  obtain ⟨vr, vf, hs, e, hR, hH, hS, _⟩ := h.out
  exact ⟨vr, vf, hs, e, hR, hH, hS⟩
theorem OIb.on {W w : World} {lo hi : Nat} {v : Value} {rs : List Rel} {fs : List Fct} (h : OIb W lo hi v rs fs) (hb : On W w) : OIb w lo hi v rs fs := by
  obtain ⟨vr, vf, hs, e, hR, hH, hS, hh⟩ := h.out
  exact ⟨vr, vf, hs, e, pw_own_below hR hb, pw_own_below hH hb, hS.on hb, hh⟩
theorem OIb.ex {S : Nat → Prop} {W w : World} {lo hi : Nat} {v : Value} {rs : List Rel} {fs : List Fct} (h : OIb W lo hi v rs fs) (k : Ex S W w) (hS : ∀ b, lo ≤ b → b < hi → ¬ S b) : OIb w lo hi v rs fs := by
  obtain ⟨vr, vf, hs, e, hR, hH, hSp, hh⟩ := h.out
  exact ⟨vr, vf, hs, e, own_ex hR k (fun i hi h => hS i (own_base hR i hi) (hh i (.inl hi.symm)) h), own_ex hH k (fun i hi h => hS i (own_base hH i hi) (hh i (.inr (.inl hi.symm))) h), hSp.ex k (fun i a b ha hb h => hS b (hSp.lt ha hb).1 (hh b (.inr (.inr ⟨i, a, ha, hb.symm⟩))) h), hh⟩
theorem OIb.set {W : World} {lo hi g j : Nat} {v u : Value} {rs : List Rel} {fs : List Fct} (h : OIb W lo hi v rs fs) (hg : g < lo ∨ hi ≤ g) : OIb (W.setCell ⟨g, j, none⟩ u) lo hi v rs fs :=
  h.ex (Ex.set W ⟨g, j, none⟩ u) (fun b h1 h2 h3 => by have h4 : b = g := h3; omega)
/-- One fact. -/
structure RFa (w : World) (v : Value) (f : Fct) : Prop where mk :: (out : ∃ A c, v = .agg #[.int .i64 f.1, .slice A f.2.length c] ∧ Ints w A c f.2)
structure OFa (w : World) (lo : Nat) (v : Value) (f : Fct) : Prop where mk :: (out : ∃ v1, v = .agg #[.int .i64 f.1, v1] ∧ OI w lo v1 f.2 ∧ InR f.2)
theorem RFa.on {W w : World} {v : Value} {f : Fct} (h : RFa W v f) (hb : On W w) : RFa w v f := by
  obtain ⟨A, c, e, h0⟩ := h.out
  exact ⟨A, c, e, h0.on hb⟩
theorem OFa.on {W w : World} {lo : Nat} {v : Value} {f : Fct} (h : OFa W lo v f) (hb : On W w) : OFa w lo v f := by
  obtain ⟨v1, e, h0, h1⟩ := h.out
  exact ⟨v1, e, pw_own_below h0 hb, h1⟩
theorem OFa.ex {S : Nat → Prop} {W w : World} {lo : Nat} {v : Value} {f : Fct} (h : OFa W lo v f) (k : Ex S W w) (hS : ∀ b, S b → b < lo) : OFa w lo v f := by
  obtain ⟨v1, e, h0, h1⟩ := h.out
  refine ⟨v1, e, own_ex h0 k (fun i hi h => ?_), h1⟩
  have := own_base h0 i hi; have := hS _ h; omega
/-- One fact of one's own whose block lies in a range. -/
structure OFb (w : World) (lo hi : Nat) (v : Value) (f : Fct) : Prop where mk :: (out : ∃ v1, v = .agg #[.int .i64 f.1, v1] ∧ OI w lo v1 f.2 ∧ InR f.2 ∧ ∀ b, v1.ownBlock = some b → b < hi)
theorem OFa.b {w : World} {lo : Nat} {v : Value} {f : Fct} (h : OFa w lo v f) : OFb w lo w.heap.size v f := by
  obtain ⟨v1, e, h0, h1⟩ := h.out
  exact ⟨v1, e, h0, h1, fun b hb => own_lt h0 b hb⟩
theorem OFb.on {W w : World} {lo hi : Nat} {v : Value} {f : Fct} (h : OFb W lo hi v f) (hb : On W w) : OFb w lo hi v f := by
  obtain ⟨v1, e, h0, h1, h2⟩ := h.out
  exact ⟨v1, e, pw_own_below h0 hb, h1, h2⟩
theorem OFb.ex {S : Nat → Prop} {W w : World} {lo hi : Nat} {v : Value} {f : Fct} (h : OFb W lo hi v f) (k : Ex S W w) (hS : ∀ b, lo ≤ b → b < hi → ¬ S b) : OFb w lo hi v f := by
  obtain ⟨v1, e, h0, h1, h2⟩ := h.out
  exact ⟨v1, e, own_ex h0 k (fun i hi h => hS i (own_base h0 i hi) (h2 i hi) h), h1, h2⟩
end Go.Proofs.YtgemaohdlibboaaDoor.H
