/- Walks and plain laws for the law FnInsertDelete, part 2 of 6: the texts HL1, HL3, HL2, HL4, HL5, HL6, HL7, HB6, HO2, HD2, HB7, HB8 in one. No condition. -/
import Derived.Maps.AppendAt
import Derived.Lib.SliceRun
import Derived.Test.YtngjhblbpapjeaaGreatZFnInsertDelete1
/- Walks: the laws' own helpers: how large, copies. No condition. -/
namespace Go.Proofs.YtngjhblbpapjeaaGreat.H
open Go Go.RowKit Go.Proofs.YtngjhblbpapjeaaGreatW.PrintWords Go.Proofs.YtngjhblbpapjeaaGreatW.PrintLast
open Go.Proofs.YtngjhblbpapjeaaGreat.Reg (On on_draw)
set_option maxHeartbeats 1000000
set_option maxRecDepth 100000
set_option linter.unusedVariables false
set_option linter.unusedSimpArgs false

/-- How much relations and facts weigh. -/
def wR (rs : List Rel) : Nat := (rs.map fun r => r.1.size + 1).sum
def wF (fs : List Fct) : Nat := (fs.map fun f => f.2.length + 1).sum
theorem wR_take (rs : List Rel) (k : Nat) (h : k < rs.length) : wR (rs.take (k + 1)) = wR (rs.take k) + (rs[k].1.size + 1) := by
  unfold wR; rw [List.take_succ_eq_append_getElem h, List.map_append, List.sum_append]; simp only [List.map_cons, List.map_nil, List.sum_cons, List.sum_nil, Nat.add_zero]
theorem wF_take (fs : List Fct) (k : Nat) (h : k < fs.length) : wF (fs.take (k + 1)) = wF (fs.take k) + (fs[k].2.length + 1) := by
  unfold wF; rw [List.take_succ_eq_append_getElem h, List.map_append, List.sum_append]; simp only [List.map_cons, List.map_nil, List.sum_cons, List.sum_nil, Nat.add_zero]
/-- A measure was taken: what is left, if anything. -/
structure Sz (n : Int) (m : Nat) (w : World) (e : Ending) (w' : World) : Prop where mk :: (out : ∃ q : Int, e = .returned (.int .i64 q) ∧ (0 ≤ q → q + m ≤ n) ∧ On w w')
theorem szRelation_calls (w : World) (r : Rel) (n : Int) (h0 : 0 ≤ n) (h1 : n ≤ 2000000) (hs : r.1.size ≤ 9223372036854775807) : Calls Tryz.prog 99 #[.agg #[.string r.1, .int .i64 r.2.1, .bool r.2.2], .int .i64 n] w (Sz n r.1.size w) := by
  have hw : IntKind.i64.wrap (n - (r.1.size : Int)) = n - r.1.size := IntWalk.i64_in _ (by omega)
  by_cases h : n - (r.1.size : Int) < 0
  · have hb : decide (n - (r.1.size : Int) < 0) = true := decide_eq_true h
    have hb2 : decide (n < (r.1.size : Int)) = true := decide_eq_true (by omega)
    go_enter Tryz.func99, Tryz.ntmps99
    go_wp2
    go_ret
    exact ⟨_, rfl, fun h => by omega, On.alloc (On.refl _) _⟩
  · have hb : decide (n - (r.1.size : Int) < 0) = false := decide_eq_false h
    have hb2 : decide (n < (r.1.size : Int)) = false := decide_eq_false (by omega)
    go_enter Tryz.func99, Tryz.ntmps99
    go_wp2
    go_ret
    exact ⟨_, rfl, fun h => by omega, On.alloc (On.refl _) _⟩
theorem szIntS_calls (w : World) (A c) (xs : List Int) (n : Int) (h0 : 0 ≤ n) (h1 : n ≤ 2000000) (h : Ints w A c xs) : Calls Tryz.prog 61 #[.slice A xs.length c, .int .i64 n] w (Sz n xs.length w) := by
  have hmax := h.max
  have hw : IntKind.i64.wrap (n - (xs.length : Int)) = n - xs.length := IntWalk.i64_in _ (by omega)
  by_cases h : n - (xs.length : Int) < 0
  · have hb : decide (n - (xs.length : Int) < 0) = true := decide_eq_true h
    have hb2 : decide (n < (xs.length : Int)) = true := decide_eq_true (by omega)
    go_enter Tryz.func61, Tryz.ntmps61
    go_wp2
    go_ret
    exact ⟨_, rfl, fun h => by omega, On.refl _⟩
  · have hb : decide (n - (xs.length : Int) < 0) = false := decide_eq_false h
    have hb2 : decide (n < (xs.length : Int)) = false := decide_eq_false (by omega)
    go_enter Tryz.func61, Tryz.ntmps61
    go_wp2
    go_ret
    exact ⟨_, rfl, fun h => by omega, On.refl _⟩
theorem szFact_calls (w : World) (A c) (f : Fct) (n : Int) (h0 : 0 ≤ n) (h1 : n ≤ 2000000) (h : Ints w A c f.2) : Calls Tryz.prog 20 #[.agg #[.int .i64 f.1, .slice A f.2.length c], .int .i64 n] w (Sz n f.2.length w) := by
  have hb := Aside0.mk (On.alloc (On.refl w) (.cells #[.int .i64 f.1, .slice A f.2.length c] 45))
  go_enter Tryz.func20, Tryz.ntmps20
  go_wp2_with (go_at_call 61; refine (szIntS_calls _ _ _ f.2 _ h0 h1 (h.on hb.out)).mono ?_; rintro e w1 ⟨q, rfl, hq, hb1⟩)
  all_goals
    go_ret
    exact ⟨_, rfl, fun h => by first | exact hq (by omega) | omega, hb.out.trans hb1⟩
theorem szRelationS_calls (w : World) (A c) (rs : List Rel) (n : Int) (h0 : 0 ≤ n) (h1 : n ≤ 2000000) (h : Rels w A c rs) (hsz : ∀ r ∈ rs, r.1.size ≤ 9223372036854775807) : Calls Tryz.prog 59 #[.slice A rs.length c, .int .i64 n] w (Sz n (wR rs) w) := by
  have hmax := h.max
  have hw : IntKind.i64.wrap (n - (rs.length : Int)) = n - rs.length := IntWalk.i64_in _ (by omega)
  by_cases hn : n - (rs.length : Int) < 0
  · have hb : decide (n - (rs.length : Int) < 0) = true := decide_eq_true hn
    have hb2 : decide (n < (rs.length : Int)) = true := decide_eq_true (by omega)
    go_enter Tryz.func59, Tryz.ntmps59
    go_wp2
    go_ret
    exact ⟨_, rfl, fun h => by omega, On.refl _⟩
  · have hb : decide (n - (rs.length : Int) < 0) = false := decide_eq_false hn
    have hb2 : decide (n < (rs.length : Int)) = false := decide_eq_false (by omega)
    go_enter Tryz.func59, Tryz.ntmps59
    go_wp2
    go_loopw [5, 1] (fun v5 v1 wr => ∃ (k : Nat) (m : Int), k ≤ rs.length ∧ v5 = .int .i64 k ∧ v1 = .int .i64 m ∧ 0 ≤ m ∧ Aside0 (m + wR (rs.take k) + (rs.length - k) ≤ n) ∧ On w wr) (fun v5 _ _ => rs.length - (intOf v5).toNat)
    case atStart => exact ⟨0, _, Nat.zero_le _, rfl, rfl, by omega, ⟨by simp [wR]⟩, On.refl _⟩
    case round =>
      obtain ⟨k, m, hk, rfl, rfl, hm, hp, hB⟩ := hrel
      by_cases hlt : k < rs.length
      · obtain ⟨ad, rfl, hx0, hx1, hx2⟩ := (h.on hB).at k hlt
        have hst := Aside0.mk (wR_take rs k hlt)
        have hmn := Aside0.mk (show m ≤ n by have := hp.out; omega)
        have hsr := hsz _ (List.getElem_mem hlt)
        have hrest := Aside0.mk (show m + wR (rs.take (k + 1)) + (rs.length - (k + 1 : Nat)) ≤ n + rs[k].1.size by have := hp.out; have := hst.out; omega)
        clear hp
        go_wp2_with (go_at_call 99; refine (szRelation_calls wr rs[k] m hm (by have := hmn.out; omega) hsr).mono ?_; rintro e w3 ⟨q, rfl, hq0, hb3⟩; have hq := Aside0.mk hq0; clear hq0; by_cases hneg : q < 0)
        · go_ret
          exact ⟨_, rfl, fun h => by omega, hB.trans hb3⟩
        · go_roundw
          case rel => exact ⟨k + 1, q, by omega, by go_num, rfl, by omega, ⟨by have := hrest.out; have := hq.out (by omega); omega⟩, hB.trans hb3⟩
          case measure => simp [intOf]; omega
      · go_wp2
        go_ret
        refine ⟨_, rfl, fun h => ?_, hB⟩
        have h1 := hp.out
        rw [List.take_of_length_le (by omega)] at h1
        omega
theorem toRelation_calls (w : World) (r : Rel) : Calls Tryz.prog 100 #[.agg #[.string r.1, .int .i64 r.2.1, .bool r.2.2]] w fun e w' => e = .returned (.agg #[.string r.1, .int .i64 r.2.1, .bool r.2.2]) ∧ On w w' := by
  go_enter Tryz.func100, Tryz.ntmps100
  go_wp2
  refine bodyPost_ret (retR rfl rfl (g := w.heap.size + 1) (by have := heap_alloc2_old (w.alloc (.cells #[.string r.1, .int .i64 r.2.1, .bool r.2.2] 112)) (.cells #[.string r.1, .int .i64 r.2.1, .bool r.2.2] 81) (.cells #[.string r.1, .int .i64 r.2.1, .bool r.2.2] 81); simpa using this) rfl) rfl ?_
  exact ⟨rfl, On.alloc (On.alloc (On.alloc (On.refl _) _) _) _⟩
theorem toIntS_calls (w : World) (A c) (xs : List Int) (h : Ints w A c xs) (hl : xs.length ≤ 2000000) : Calls Tryz.prog 64 #[.slice A xs.length c] w (Got fun v w' => OI w' w.heap.size v xs ∧ On w w') := by
  go_enter Tryz.func64, Tryz.ntmps64
  go_wp2_with (refine gate 7 ?_)
  refine ⟨mkRow 7 (m := xs.length) Tryz.underlying28 infoI rfl (by omega) (by omega) fun hO => ?_⟩
  have hB := On.alloc (On.refl w) (.cells (madeCells (Value.int .i64 0).cells (xs.length * 1)) 3)
  obtain ⟨w1, hw1⟩ : ∃ w1, w.alloc (.cells (madeCells (Value.int .i64 0).cells (xs.length * 1)) 3) = w1 := ⟨_, rfl⟩
  rw [hw1] at hO hB ⊢
  clear hw1
  have hO' := Aside0.mk hO
  clear hO
  go_wp2
  go_loopw [4] (fun v wr => ∃ (k : Nat) (cs : List Value), k ≤ xs.length ∧ v = .int .i64 k ∧ Aside0 (wr.ownsRow w.heap.size 3 1 (.slice (some ⟨w.heap.size, 0, none⟩) xs.length xs.length) xs.length ((xs.take k).flatMap encI ++ cs)) ∧ On w wr) (fun v _ => xs.length - (intOf v).toNat)
  case atStart => exact ⟨0, _, Nat.zero_le _, rfl, by simpa using hO', hB⟩
  case round =>
    obtain ⟨k, cs, hk, rfl, hO, hB⟩ := hrel
    by_cases hlt : k < xs.length
    · obtain ⟨ad, rfl, hx⟩ := (h.on hB).at k hlt
      have hcl := Aside0.mk (show 0 < cs.length by have := hO.out.1; simp [flat_len (enc := encI) (sz := 1) (fun _ => rfl)] at this; omega)
      have hfz : wr.frozen? ⟨w.heap.size, k, none⟩ = false := own_frozen hO.out k
      obtain ⟨z, hz⟩ := own_some hO.out k (by omega)
      have hO2 := hO
      clear hO
      go_wp2
      obtain ⟨z0, cs', rfl⟩ : ∃ z0 cs', cs = z0 :: cs' := by
        cases cs with
        | nil => exact absurd hcl.out (by simp)
        | cons a b => exact ⟨a, b, rfl⟩
      refine ⟨⟨k + 1, cs', by omega, by go_num, ⟨?_⟩, Reg.On.set hB (Nat.le_refl _) _⟩, by simp [intOf]; omega⟩
      have := (hO2.out.stored k (.int .i64 xs[k])).1
      rw [set1 k (by simp [flat_len (enc := encI) (sz := 1) (fun _ => rfl)]; omega)] at this
      rw [flat_take_succ xs k hlt, List.append_assoc]
      exact this
    · have hO2 := hO
      clear hO
      go_wp2
      go_ret
      refine ⟨_, rfl, ?_, hB⟩
      have h1 := hO2.out
      have h2 := h1.1
      rw [List.take_of_length_le (by omega)] at h1 h2
      have h3 : cs = [] := by
        rw [List.length_append, flat_len (enc := encI) (sz := 1) (fun _ => rfl)] at h2
        exact List.eq_nil_of_length_eq_zero (by omega)
      subst h3
      rw [List.append_nil] at h1
      exact h1
theorem szFactS_calls (w : World) (A c) (fs : List Fct) (n : Int) (h0 : 0 ≤ n) (h1 : n ≤ 2000000) (h : Fcts w A c fs) : Calls Tryz.prog 60 #[.slice A fs.length c, .int .i64 n] w (Sz n (wF fs) w) := by
  have hmax := h.max
  have hw : IntKind.i64.wrap (n - (fs.length : Int)) = n - fs.length := IntWalk.i64_in _ (by omega)
  by_cases hn : n - (fs.length : Int) < 0
  · have hb : decide (n - (fs.length : Int) < 0) = true := decide_eq_true hn
    have hb2 : decide (n < (fs.length : Int)) = true := decide_eq_true (by omega)
    go_enter Tryz.func60, Tryz.ntmps60
    go_wp2
    go_ret
    exact ⟨_, rfl, fun h => by omega, On.refl _⟩
  · have hb : decide (n - (fs.length : Int) < 0) = false := decide_eq_false hn
    have hb2 : decide (n < (fs.length : Int)) = false := decide_eq_false (by omega)
    go_enter Tryz.func60, Tryz.ntmps60
    go_wp2
    go_loopw [5, 1] (fun v5 v1 wr => ∃ (k : Nat) (m : Int), k ≤ fs.length ∧ v5 = .int .i64 k ∧ v1 = .int .i64 m ∧ 0 ≤ m ∧ Aside0 (m + wF (fs.take k) + (fs.length - k) ≤ n) ∧ On w wr) (fun v5 _ _ => fs.length - (intOf v5).toNat)
    case atStart => exact ⟨0, _, Nat.zero_le _, rfl, rfl, by omega, ⟨by simp [wF]⟩, On.refl _⟩
    case round =>
      obtain ⟨k, m, hk, rfl, rfl, hm, hp, hB⟩ := hrel
      by_cases hlt : k < fs.length
      · obtain ⟨ad, A1, c1, rfl, hx0, hx1, hx2⟩ := (h.on hB).at k hlt
        have hst := Aside0.mk (wF_take fs k hlt)
        have hmn := Aside0.mk (show m ≤ n by have := hp.out; omega)
        have hrest := Aside0.mk (show m + wF (fs.take (k + 1)) + (fs.length - (k + 1 : Nat)) ≤ n + fs[k].2.length by have := hp.out; have := hst.out; omega)
        clear hp
        go_wp2_with (go_at_call 20; refine (szFact_calls wr A1 c1 fs[k] m hm (by have := hmn.out; omega) hx2).mono ?_; rintro e w3 ⟨q, rfl, hq0, hb3⟩; have hq := Aside0.mk hq0; clear hq0; by_cases hneg : q < 0)
        · go_ret
          exact ⟨_, rfl, fun h => by omega, hB.trans hb3⟩
        · go_roundw
          case rel => exact ⟨k + 1, q, by omega, by go_num, rfl, by omega, ⟨by have := hrest.out; have := hq.out (by omega); omega⟩, hB.trans hb3⟩
          case measure => simp [intOf]; omega
      · go_wp2
        go_ret
        refine ⟨_, rfl, fun h => ?_, hB⟩
        have h1 := hp.out
        rw [List.take_of_length_le (by omega)] at h1
        omega
end Go.Proofs.YtngjhblbpapjeaaGreat.H
/- Walks: the laws' own copies. No condition. -/
namespace Go.Proofs.YtngjhblbpapjeaaGreat.H
open Go Go.RowKit Go.Proofs.YtngjhblbpapjeaaGreatW.PrintWords Go.Proofs.YtngjhblbpapjeaaGreatW.PrintLast
open Go.Proofs.YtngjhblbpapjeaaGreat.Reg (On on_draw)
set_option maxHeartbeats 1000000
set_option maxRecDepth 100000
set_option linter.unusedVariables false
set_option linter.unusedSimpArgs false

theorem toRelationS_calls (w : World) (A c) (rs : List Rel) (h : Rels w A c rs) (hl : rs.length ≤ 2000000) : Calls Tryz.prog 62 #[.slice A rs.length c] w (Got fun v w' => OR w' w.heap.size v rs ∧ On w w') := by
  go_enter Tryz.func62, Tryz.ntmps62
  go_wp2_with (refine gate 7 ?_)
  refine ⟨mkRow 7 (m := rs.length) Tryz.underlying24 infoR rfl (by omega) (by omega) fun hO => ?_⟩
  obtain ⟨cs0, hcs0⟩ : ∃ cs0, madeCells (Value.agg #[.string ⟨#[]⟩, .int .i64 0, .bool false]).cells (rs.length * 3) = cs0 := ⟨_, rfl⟩
  rw [hcs0] at hO ⊢
  clear hcs0
  have hB := On.alloc (On.refl w) (.cells cs0 81)
  obtain ⟨w1, hw1⟩ : ∃ w1, w.alloc (.cells cs0 81) = w1 := ⟨_, rfl⟩
  rw [hw1] at hO hB ⊢
  clear hw1
  have hO' := Aside0.mk hO
  clear hO
  go_wp2
  go_loopw [4] (fun v wr => ∃ (k : Nat) (cs : List Value), k ≤ rs.length ∧ v = .int .i64 k ∧ Aside0 (wr.ownsRow w.heap.size 81 3 (.slice (some ⟨w.heap.size, 0, none⟩) rs.length rs.length) rs.length ((rs.take k).flatMap encR ++ cs)) ∧ On w wr) (fun v _ => rs.length - (intOf v).toNat)
  case atStart => exact ⟨0, _, Nat.zero_le _, rfl, by simpa using hO', hB⟩
  case round =>
    obtain ⟨k, cs, hk, rfl, hO, hB⟩ := hrel
    by_cases hlt : k < rs.length
    · obtain ⟨ad, rfl, hx0, hx1, hx2⟩ := (h.on hB).at k hlt
      have hcl := Aside0.mk (show 3 ≤ cs.length by have := hO.out.1; simp [flat_len (enc := encR) (sz := 3) (fun _ => rfl)] at this; omega)
      have hO2 := hO
      clear hO
      go_wp2_with (go_at_call 100; refine (toRelation_calls wr rs[k]).mono ?_; rintro e w2 ⟨rfl, hb2⟩; have hO3 := Aside0.mk (pw_own_below hO2.out hb2); have hfz := own_frozen hO3.out (k * 3); have hfz1 := own_frozen hO3.out (k * 3 + 1); have hfz2 := own_frozen hO3.out (k * 3 + 2); obtain ⟨z, hz⟩ := own_some hO3.out (k * 3) (by omega); obtain ⟨z1, hz1⟩ := own_some hO3.out (k * 3 + 1) (by omega); obtain ⟨z2, hz2⟩ := own_some hO3.out (k * 3 + 2) (by omega))
      obtain ⟨z0, z1, z2, hcs⟩ := split3 (cs := cs) (i := 0) (by have := hcl.out; omega)
      simp only [List.take_zero, List.nil_append, Nat.zero_add] at hcs
      refine ⟨⟨k + 1, cs.drop 3, by omega, by go_num, ⟨?_⟩, Reg.On.set (Reg.On.set (Reg.On.set (hB.trans hb2) (Nat.le_refl _) _) (Nat.le_refl _) _) (Nat.le_refl _) _⟩, by simp [intOf]; omega⟩
      have := ((hO3.out.stored (k * 3) (.string rs[k].1)).1.stored (k * 3 + 1) (.int .i64 rs[k].2.1)).1.stored (k * 3 + 2) (.bool rs[k].2.2) |>.1
      rw [hcs, set3 (k * 3) (by rw [flat_len (enc := encR) (sz := 3) (fun _ => rfl), List.length_take]; omega)] at this
      rw [flat_take_succ rs k hlt, List.append_assoc]
      exact this
    · have hO2 := hO
      clear hO
      go_wp2
      go_ret
      refine ⟨_, rfl, ?_, hB⟩
      have h1 := hO2.out
      have h2 := h1.1
      rw [List.take_of_length_le (by omega)] at h1 h2
      have h3 : cs = [] := by
        rw [List.length_append, flat_len (enc := encR) (sz := 3) (fun _ => rfl)] at h2
        exact List.eq_nil_of_length_eq_zero (by omega)
      subst h3
      rw [List.append_nil] at h1
      exact h1
end Go.Proofs.YtngjhblbpapjeaaGreat.H
/- Walks: the laws' own copies. No condition. -/
namespace Go.Proofs.YtngjhblbpapjeaaGreat.H
open Go Go.RowKit Go.Proofs.YtngjhblbpapjeaaGreatW.PrintWords Go.Proofs.YtngjhblbpapjeaaGreatW.PrintLast
open Go.Proofs.YtngjhblbpapjeaaGreat.Reg (On on_draw)
set_option maxHeartbeats 1000000
set_option maxRecDepth 100000
set_option linter.unusedVariables false
set_option linter.unusedSimpArgs false

theorem toFact_calls (w : World) (A c) (f : Fct) (h : Ints w A c f.2) (hl : f.2.length ≤ 2000000) : Calls Tryz.prog 22 #[.agg #[.int .i64 f.1, .slice A f.2.length c]] w (Got fun v w' => ∃ v1, v = .agg #[.int .i64 f.1, v1] ∧ OI w' w.heap.size v1 f.2 ∧ On w w') := by
  have hb := Aside0.mk (On.alloc (On.alloc (On.alloc (On.refl w) (.cells #[.int .i64 f.1, .slice A f.2.length c] 45)) (.cells #[.int .i64 0, .slice none 0 0] 30)) (.cells #[.int .i64 f.1, .slice none 0 0] 30))
  have hL := Aside0.mk (loc3 w #[.int .i64 f.1, .slice A f.2.length c] #[.int .i64 0, .slice none 0 0] #[.int .i64 f.1, .slice none 0 0] 45 30 30)
  go_enter Tryz.func22, Tryz.ntmps22
  go_wp2_with (go_at_call 64; refine (toIntS_calls _ A c f.2 (h.on hb.out) hl).mono ?_; rintro e w1 ⟨v1, rfl, hO, hb1⟩; obtain ⟨A1, c1, rfl⟩ := own_slice hO; have hL1 := Aside0.mk (Loc.on hb1 hL.out); have hc1 := blk_cell hL1.out.2.1; have hc2 : ∀ i, w1.cell? ⟨w.heap.size + 1 + 1, i, none⟩ = _ := blk_cell hL1.out.2.2.1; have hf1 := blk_frozen hL1.out.2.1; have hf2 : ∀ i, w1.frozen? ⟨w.heap.size + 1 + 1, i, none⟩ = false := blk_frozen hL1.out.2.2.1; have hO' := Aside0.mk hO; clear hO)
  refine bodyPost_ret (retF rfl rfl (g := w.heap.size + 1) (blk_set (blk_set (blk_far hL1.out.2.1 (p := ⟨w.heap.size + 1 + 1, 1, none⟩) (by simp) _) 0 _) 1 _) rfl) rfl ?_
  have hsz : (((w.alloc (.cells #[.int .i64 f.1, .slice A f.2.length c] 45)).alloc (.cells #[.int .i64 0, .slice none 0 0] 30)).alloc (.cells #[.int .i64 f.1, .slice none 0 0] 30)).heap.size = w.heap.size + 3 := by simp
  have hO := hO'.out
  rw [hsz] at hO
  exact ⟨_, rfl, _, rfl, own_lower (ownsRow_setCell_below (ownsRow_setCell_below (ownsRow_setCell_below hO (by simp) _) (by simp) _) (by simp) _) (by omega), Reg.On.set (Reg.On.set (Reg.On.set (hb.out.trans hb1) (by simp; omega) _) (by simp) _) (by simp) _⟩
theorem toFactS_calls (w : World) (A c) (fs : List Fct) (h : Fcts w A c fs) (hl : fs.length ≤ 2000000) (hl2 : ∀ f ∈ fs, f.2.length ≤ 2000000) : Calls Tryz.prog 63 #[.slice A fs.length c] w (Got fun v w' => ∃ hs, OH w' w.heap.size v hs ∧ Sep w' (w.heap.size + 1) hs fs ∧ (∃ n c, v = .slice (some ⟨w.heap.size, 0, none⟩) n c) ∧ On w w') := by
  go_enter Tryz.func63, Tryz.ntmps63
  go_wp2_with (refine gate 7 ?_)
  refine ⟨mkRow 7 (m := fs.length) Tryz.underlying25 infoF rfl (by omega) (by omega) fun hO => ?_⟩
  obtain ⟨cs0, hcs0⟩ : ∃ cs0, madeCells (Value.agg #[.int .i64 0, .slice none 0 0]).cells (fs.length * 2) = cs0 := ⟨_, rfl⟩
  rw [hcs0] at hO ⊢
  clear hcs0
  have hB := On.alloc (On.refl w) (.cells cs0 30)
  have hsz : (w.alloc (.cells cs0 30)).heap.size = w.heap.size + 1 := by simp
  obtain ⟨w1, hw1⟩ : ∃ w1, w.alloc (.cells cs0 30) = w1 := ⟨_, rfl⟩
  rw [hw1] at hO hB hsz ⊢
  clear hw1
  have hO' := Aside0.mk hO
  have hsz' := Aside0.mk hsz
  clear hO hsz
  go_wp2
  go_loopw [4] (fun v wr => ∃ (k : Nat) (hs : List Hdr) (cs : List Value), k ≤ fs.length ∧ v = .int .i64 k ∧ Aside0 (wr.ownsRow w.heap.size 30 2 (.slice (some ⟨w.heap.size, 0, none⟩) fs.length fs.length) fs.length (hs.flatMap encH ++ cs)) ∧ Aside0 (Sep wr (w.heap.size + 1) hs (fs.take k)) ∧ Aside0 (w.heap.size + 1 ≤ wr.heap.size) ∧ On w wr) (fun v _ => fs.length - (intOf v).toNat)
  case atStart => exact ⟨0, [], _, Nat.zero_le _, rfl, by simpa using hO', ⟨Sep.nil _ _⟩, ⟨by rw [hsz'.out]; exact Nat.le_refl _⟩, hB⟩
  case round =>
    obtain ⟨k, hs, cs, hk, rfl, hO, hS, hwr, hB⟩ := hrel
    have hlen := Aside0.mk (show hs.length = k by have := hS.out.len; rw [List.length_take] at this; omega)
    by_cases hlt : k < fs.length
    · obtain ⟨ad, A1, c1, rfl, hx0, hx1, hx2⟩ := (h.on hB).at k hlt
      have hcl := Aside0.mk (show 2 ≤ cs.length by have h1 := hO.out.1; have h2 := hlen.out; rw [List.length_append, flat_len (enc := encH) (sz := 2) (fun _ => rfl)] at h1; omega)
      have hO2 := hO
      have hl3 := hl2 _ (List.getElem_mem hlt)
      clear hO
      go_wp2_with (go_at_call 22; refine (toFact_calls wr A1 c1 fs[k] hx2 hl3).mono ?_; rintro e w2 ⟨v0, rfl, v1, rfl, hO1, hb2⟩; obtain ⟨A2, c2, rfl⟩ := own_slice hO1; have hO4 := Aside0.mk hO1; clear hO1; have hO3 := Aside0.mk (pw_own_below hO2.out hb2); have hfz := own_frozen hO3.out (k * 2); have hfz1 := own_frozen hO3.out (k * 2 + 1); obtain ⟨z, hz⟩ := own_some hO3.out (k * 2) (by omega); obtain ⟨z1, hz1⟩ := own_some hO3.out (k * 2 + 1) (by omega))
      obtain ⟨z0, z1, hcs⟩ := split2 (cs := cs) (i := 0) (by have := hcl.out; omega)
      simp only [List.take_zero, List.nil_append, Nat.zero_add] at hcs
      have hS2 := Sep.snoc (a := (fs[k].1, A2, fs[k].2.length, c2)) hS.out hb2 hwr.out rfl hO4.out hx2.2.2
      refine ⟨⟨k + 1, hs ++ [(fs[k].1, A2, fs[k].2.length, c2)], cs.drop 2, by omega, by go_num, ⟨?_⟩, ⟨?_⟩, ⟨?_⟩, Reg.On.set (Reg.On.set (hB.trans hb2) (Nat.le_refl _) _) (Nat.le_refl _) _⟩, by simp [intOf]; omega⟩
      · have := ((hO3.out.stored (k * 2) (.int .i64 fs[k].1)).1.stored (k * 2 + 1) (.slice A2 fs[k].2.length c2)).1
        rw [hcs, set2 (k * 2) (by rw [flat_len (enc := encH) (sz := 2) (fun _ => rfl), hlen.out])] at this
        rw [List.flatMap_append, List.append_assoc]
        exact this
      · rw [List.take_succ_eq_append_getElem hlt]
        exact Sep.set (Sep.set hS2 (Nat.lt_succ_self _) _) (Nat.lt_succ_self _) _
      · have := hb2.size; have := hwr.out; simp [World.setCell]; omega
    · have hO2 := hO
      clear hO
      go_wp2
      go_ret
      have h1 := hO2.out
      have h2 := h1.1
      have h4 := hlen.out
      have h5 := hS.out
      rw [List.take_of_length_le (by omega)] at h5
      have h3 : cs = [] := by
        rw [List.length_append, flat_len (enc := encH) (sz := 2) (fun _ => rfl)] at h2
        exact List.eq_nil_of_length_eq_zero (by omega)
      subst h3
      rw [List.append_nil] at h1
      refine ⟨_, rfl, hs, ?_, h5, ⟨_, _, rfl⟩, hB⟩
      show World.ownsRow _ _ _ _ _ hs.length _
      rw [show hs.length = fs.length by omega]
      exact h1
/-- An instance of the call's own, its facts' rows lying apart. -/
structure OIn (w : World) (lo : Nat) (v : Value) (rs : List Rel) (fs : List Fct) : Prop where mk :: (out : ∃ vr vf hs, v = .agg #[vr, vf] ∧ OR w lo vr rs ∧ OH w lo vf hs ∧ Sep w lo hs fs)
theorem toInstance_calls (w : World) (A0 c0 A1 c1) (rs : List Rel) (fs : List Fct) (h0 : Rels w A0 c0 rs) (h1 : Fcts w A1 c1 fs) (hl0 : rs.length ≤ 2000000) (hl : fs.length ≤ 2000000) (hl2 : ∀ f ∈ fs, f.2.length ≤ 2000000) : Calls Tryz.prog 21 #[.agg #[.slice A0 rs.length c0, .slice A1 fs.length c1]] w (Got fun v w' => OIn w' w.heap.size v rs fs ∧ On w w') := by
  have hb := Aside0.mk (On.alloc (On.alloc (On.alloc (On.refl w) (.cells #[.slice A0 rs.length c0, .slice A1 fs.length c1] 44)) (.cells #[.slice none 0 0, .slice none 0 0] 27)) (.cells #[.slice none 0 0, .slice none 0 0] 27))
  have hL := Aside0.mk (loc3 w #[.slice A0 rs.length c0, .slice A1 fs.length c1] #[.slice none 0 0, .slice none 0 0] #[.slice none 0 0, .slice none 0 0] 44 27 27)
  go_enter Tryz.func21, Tryz.ntmps21
  go_wp2_with (first | (go_at_call 62; refine (toRelationS_calls _ A0 c0 rs (h0.on hb.out) hl0).mono ?_; rintro e w1 ⟨v1, rfl, hO, hb1⟩; obtain ⟨A2, c2, rfl⟩ := own_slice hO; have hL1 := Aside0.mk (Loc.on hb1 hL.out); have hc0 := blk_cell hL1.out.1; have hc1 := blk_cell hL1.out.2.1; have hc2 : ∀ i, w1.cell? ⟨w.heap.size + 1 + 1, i, none⟩ = _ := blk_cell hL1.out.2.2.1; have hf1 := blk_frozen hL1.out.2.1; have hf2 : ∀ i, w1.frozen? ⟨w.heap.size + 1 + 1, i, none⟩ = false := blk_frozen hL1.out.2.2.1; have hO' := Aside0.mk hO; clear hO) | (go_at_call 63; have hB2 := Aside0.mk (Reg.On.set (hb.out.trans hb1) (p := ⟨w.heap.size + 1 + 1, 0, none⟩) (by simp; omega) (.slice A2 rs.length c2)); refine (toFactS_calls _ A1 c1 fs (h1.on hB2.out) hl hl2).mono ?_; rintro e w3 ⟨v3, rfl, hs, hO3, hS3, ⟨n3, c3, rfl⟩, hb3⟩; clear hc0 hc1 hc2 hf1 hf2; have hk1 := blk_below (blk_far hL1.out.2.1 (p := ⟨w.heap.size + 1 + 1, 0, none⟩) (by simp) (.slice A2 rs.length c2)) hb3; have hk2 : w3.heap[w.heap.size + 1 + 1]? = some (.cells #[.slice A2 rs.length c2, .slice none 0 0] 27 (0, 0)) := blk_below (blk_set hL1.out.2.2.1 0 (.slice A2 rs.length c2)) hb3; have hc1 := blk_cell hk1; have hc2 := blk_cell hk2; have hf1 := blk_frozen hk1; have hf2 := blk_frozen hk2; have hk1' := Aside0.mk hk1; clear hk1 hk2; have hO3' := Aside0.mk hO3; clear hO3; have hb3' := Aside0.mk hb3; clear hb3))
  have hsz : (((w.alloc (.cells #[.slice A0 rs.length c0, .slice A1 fs.length c1] 44)).alloc (.cells #[.slice none 0 0, .slice none 0 0] 27)).alloc (.cells #[.slice none 0 0, .slice none 0 0] 27)).heap.size = w.heap.size + 3 := by simp
  have hO := hO'.out
  rw [hsz] at hO
  have hsz1 := hb1.size
  rw [hsz] at hsz1
  have hsz2 : (w1.setCell ⟨w.heap.size + 1 + 1, 0, none⟩ (.slice A2 rs.length c2)).heap.size = w1.heap.size := by simp [World.setCell]
  have hO4 := hO3'.out
  rw [hsz2] at hO4 hS3
  refine bodyPost_ret (retI rfl rfl (g := w.heap.size + 1) (blk_set (blk_set (blk_far hk1'.out (p := ⟨w.heap.size + 1 + 1, 1, none⟩) (by simp) _) 0 _) 1 _) rfl) rfl ?_
  refine ⟨_, rfl, ⟨_, _, hs, rfl, ?_, ?_, ?_⟩, ?_⟩
  · have h5 := pw_own_below (ownsRow_setCell_below hO (a := ⟨w.heap.size + 1 + 1, 0, none⟩) (by simp) (.slice A2 rs.length c2)) hb3'.out
    exact own_lower (ownsRow_setCell_below (ownsRow_setCell_below (ownsRow_setCell_below h5 (by simp) _) (by simp) _) (by simp) _) (by omega)
  · exact own_lower (ownsRow_setCell_below (ownsRow_setCell_below (ownsRow_setCell_below hO4 (by simp; omega) _) (by simp; omega) _) (by simp; omega) _) (by omega)
  · exact Sep.lower (Sep.set (Sep.set (Sep.set hS3 (by simp; omega) _) (by simp; omega) _) (by simp; omega) _) (by omega)
  · exact Reg.On.set (Reg.On.set (Reg.On.set (hB2.out.trans hb3'.out) (by simp; omega) _) (by simp) _) (by simp) _
theorem szInstance_calls (w : World) (A0 c0 A1 c1) (rs : List Rel) (fs : List Fct) (n : Int) (h0 : 0 ≤ n) (h1 : n ≤ 2000000) (hr : Rels w A0 c0 rs) (hf : Fcts w A1 c1 fs) (hsz : ∀ r ∈ rs, r.1.size ≤ 9223372036854775807) : Calls Tryz.prog 19 #[.agg #[.slice A0 rs.length c0, .slice A1 fs.length c1], .int .i64 n] w (Sz n (wR rs + wF fs) w) := by
  have hb := Aside0.mk (On.alloc (On.refl w) (.cells #[.slice A0 rs.length c0, .slice A1 fs.length c1] 44))
  go_enter Tryz.func19, Tryz.ntmps19
  go_wp2_with (first | (go_at_call 59; refine (szRelationS_calls _ A0 c0 rs n h0 h1 (hr.on hb.out) hsz).mono ?_; rintro e w1 ⟨q, rfl, hq0, hb1⟩; have hq := Aside0.mk hq0; clear hq0; have hc0 := blk_cell (Loc.on hb1 (loc1 w #[.slice A0 rs.length c0, .slice A1 fs.length c1] 44)).1; by_cases hneg : q < 0) | (go_at_call 60; refine (szFactS_calls _ A1 c1 fs q (by omega) (by have := hq.out (by omega); omega) (hf.on (hb.out.trans hb1))).mono ?_; rintro e w2 ⟨q2, rfl, hq0, hb2⟩; have hq2 := Aside0.mk hq0; clear hq0; by_cases hneg2 : q2 < 0))
  all_goals
    go_ret
    first | exact ⟨_, rfl, fun h => by omega, (hb.out.trans hb1).trans hb2⟩ | exact ⟨_, rfl, fun h => by omega, hb.out.trans hb1⟩ | exact ⟨_, rfl, fun h => by have := hq.out (by omega); have := hq2.out (by omega); omega, (hb.out.trans hb1).trans hb2⟩
end Go.Proofs.YtngjhblbpapjeaaGreat.H
/- Walks: the laws' own comparisons, of what is the same. No condition. -/
namespace Go.Proofs.YtngjhblbpapjeaaGreat.H
open Go Go.RowKit Go.Proofs.YtngjhblbpapjeaaGreatW.PrintWords Go.Proofs.YtngjhblbpapjeaaGreatW.PrintLast
open Go.Proofs.YtngjhblbpapjeaaGreat.Reg (On on_draw)
set_option maxHeartbeats 1000000
set_option maxRecDepth 100000
set_option linter.unusedVariables false
set_option linter.unusedSimpArgs false

theorem eqIntS_calls (w : World) (A c B d) (xs : List Int) (h1 : Ints w A c xs) (h2 : Ints w B d xs) : Calls Tryz.prog 67 #[.slice A xs.length c, .slice B xs.length d] w fun e w' => e = .returned (.bool true) ∧ On w w' := by
  have hmax := h1.max
  go_enter Tryz.func67, Tryz.ntmps67
  go_wp2
  go_loopw [5] (fun v wr => ∃ k : Nat, k ≤ xs.length ∧ v = .int .i64 k ∧ On w wr) (fun v _ => xs.length - (intOf v).toNat)
  case atStart => exact ⟨0, Nat.zero_le _, rfl, On.refl _⟩
  case round =>
    obtain ⟨k, hk, rfl, hB⟩ := hrel
    by_cases hlt : k < xs.length
    · obtain ⟨ad, rfl, hx⟩ := (h1.on hB).at k hlt
      obtain ⟨bd, rfl, hy⟩ := (h2.on hB).at k hlt
      go_wp2
      refine Reg.region [(0,.L),(1,.L),(2,.L),(3,.L),(4,.L),(5,.L),(6,.L),(7,.L),(8,.L)] [] (by kernel_rfl) (by kernel_rfl) ?_
      repeat first | refine sP ?_ | refine sS ?_ | refine sA ?_ | refine sL ?_ | refine sQ ?_ | refine sO ?_
      refine Reg.nil fun w2 hS => ?_
      go_wp2
      go_roundw
      case rel => exact ⟨k + 1, by omega, by go_num, hB.trans hS⟩
      case measure => simp [intOf]; omega
    · go_wp2
      go_ret
      exact ⟨rfl, hB⟩
theorem eqRelation_calls (w : World) (r : Rel) : Calls Tryz.prog 101 #[.agg #[.string r.1, .int .i64 r.2.1, .bool r.2.2], .agg #[.string r.1, .int .i64 r.2.1, .bool r.2.2]] w fun e w' => e = .returned (.bool true) ∧ On w w' := by
  go_enter Tryz.func101, Tryz.ntmps101
  go_wp2
  go_ret
  exact ⟨rfl, On.alloc (On.alloc (On.refl _) _) _⟩
theorem eqFact_calls (w : World) (A c B d) (f : Fct) (h1 : Ints w A c f.2) (h2 : Ints w B d f.2) : Calls Tryz.prog 24 #[.agg #[.int .i64 f.1, .slice A f.2.length c], .agg #[.int .i64 f.1, .slice B f.2.length d]] w fun e w' => e = .returned (.bool true) ∧ On w w' := by
  have hb := Aside0.mk (On.alloc (On.alloc (On.refl w) (.cells #[.int .i64 f.1, .slice A f.2.length c] 30)) (.cells #[.int .i64 f.1, .slice B f.2.length d] 30))
  go_enter Tryz.func24, Tryz.ntmps24
  go_wp2_with (go_at_call 67; refine (eqIntS_calls _ A c B d f.2 (h1.on hb.out) (h2.on hb.out)).mono ?_; rintro e w1 ⟨rfl, hb1⟩)
  go_ret
  exact ⟨rfl, hb.out.trans hb1⟩
theorem eqRelationS_calls (w : World) (A c B d) (rs : List Rel) (h1 : Rels w A c rs) (h2 : Rels w B d rs) : Calls Tryz.prog 65 #[.slice A rs.length c, .slice B rs.length d] w fun e w' => e = .returned (.bool true) ∧ On w w' := by
  have hmax := h1.max
  go_enter Tryz.func65, Tryz.ntmps65
  go_wp2
  go_loopw [5] (fun v wr => ∃ k : Nat, k ≤ rs.length ∧ v = .int .i64 k ∧ On w wr) (fun v _ => rs.length - (intOf v).toNat)
  case atStart => exact ⟨0, Nat.zero_le _, rfl, On.refl _⟩
  case round =>
    obtain ⟨k, hk, rfl, hB⟩ := hrel
    by_cases hlt : k < rs.length
    · obtain ⟨ad, rfl, hx0, hx1, hx2⟩ := (h1.on hB).at k hlt
      obtain ⟨bd, rfl, hy0, hy1, hy2⟩ := (h2.on hB).at k hlt
      go_wp2
      refine Reg.region [(0,.L),(1,.L),(2,.L),(3,.L),(4,.L),(5,.L),(6,.L),(7,.L),(8,.C),(9,.L)] [] (by kernel_rfl) (by kernel_rfl) ?_
      repeat first | refine sP ?_ | refine sS ?_ | refine sA ?_ | refine sL ?_ | refine sQ ?_ | refine sO ?_
      refine callC (.bool true) Tryz.func101 (fun w' hS => ?_) ?_
      focus exact eqRelation_calls w' rs[k]
      repeat first | refine sP ?_ | refine sS ?_ | refine sA ?_ | refine sL ?_ | refine sQ ?_ | refine sO ?_
      refine Reg.nil fun w2 hS => ?_
      go_wp2
      go_roundw
      case rel => exact ⟨k + 1, by omega, by go_num, hB.trans hS⟩
      case measure => simp [intOf]; omega
    · go_wp2
      go_ret
      exact ⟨rfl, hB⟩
theorem eqFactS_calls (w : World) (A c B d) (fs : List Fct) (h1 : Fcts w A c fs) (h2 : Fcts w B d fs) : Calls Tryz.prog 66 #[.slice A fs.length c, .slice B fs.length d] w fun e w' => e = .returned (.bool true) ∧ On w w' := by
  have hmax := h1.max
  go_enter Tryz.func66, Tryz.ntmps66
  go_wp2
  go_loopw [5] (fun v wr => ∃ k : Nat, k ≤ fs.length ∧ v = .int .i64 k ∧ On w wr) (fun v _ => fs.length - (intOf v).toNat)
  case atStart => exact ⟨0, Nat.zero_le _, rfl, On.refl _⟩
  case round =>
    obtain ⟨k, hk, rfl, hB⟩ := hrel
    by_cases hlt : k < fs.length
    · obtain ⟨ad, A1, c1, rfl, hx0, hx1, hx2⟩ := (h1.on hB).at k hlt
      obtain ⟨bd, B1, d1, rfl, hy0, hy1, hy2⟩ := (h2.on hB).at k hlt
      go_wp2
      refine Reg.region [(0,.L),(1,.L),(2,.L),(3,.L),(4,.L),(5,.L),(6,.L),(7,.L),(8,.C),(9,.L)] [] (by kernel_rfl) (by kernel_rfl) ?_
      repeat first | refine sP ?_ | refine sS ?_ | refine sA ?_ | refine sL ?_ | refine sQ ?_ | refine sO ?_
      refine callC (.bool true) Tryz.func24 (fun w' hS => ?_) ?_
      focus exact eqFact_calls w' A1 c1 B1 d1 fs[k] (hx2.on hS) (hy2.on hS)
      repeat first | refine sP ?_ | refine sS ?_ | refine sA ?_ | refine sL ?_ | refine sQ ?_ | refine sO ?_
      refine Reg.nil fun w2 hS => ?_
      go_wp2
      go_roundw
      case rel => exact ⟨k + 1, by omega, by go_num, hB.trans hS⟩
      case measure => simp [intOf]; omega
    · go_wp2
      go_ret
      exact ⟨rfl, hB⟩
theorem eqInstance_calls (w : World) (A0 c0 A1 c1 B0 d0 B1 d1) (rs : List Rel) (fs : List Fct) (h0 : Rels w A0 c0 rs) (h1 : Fcts w A1 c1 fs) (h2 : Rels w B0 d0 rs) (h3 : Fcts w B1 d1 fs) : Calls Tryz.prog 23 #[.agg #[.slice A0 rs.length c0, .slice A1 fs.length c1], .agg #[.slice B0 rs.length d0, .slice B1 fs.length d1]] w fun e w' => e = .returned (.bool true) ∧ On w w' := by
  have hb := Aside0.mk (On.alloc (On.alloc (On.refl w) (.cells #[.slice A0 rs.length c0, .slice A1 fs.length c1] 27)) (.cells #[.slice B0 rs.length d0, .slice B1 fs.length d1] 27))
  have hL := Aside0.mk (loc2 w #[.slice A0 rs.length c0, .slice A1 fs.length c1] #[.slice B0 rs.length d0, .slice B1 fs.length d1] 27 27)
  go_enter Tryz.func23, Tryz.ntmps23
  go_wp2_with (first | (go_at_call 65; refine (eqRelationS_calls _ A0 c0 B0 d0 rs (h0.on hb.out) (h2.on hb.out)).mono ?_; rintro e w1 ⟨rfl, hb1⟩; have hL1 := Loc.on hb1 hL.out; have hc0 := blk_cell hL1.1; have hc1 := blk_cell hL1.2.1; have hL2 := Aside0.mk hL1; clear hL1) | (go_at_call 66; refine (eqFactS_calls _ A1 c1 B1 d1 fs (h1.on (hb.out.trans hb1)) (h3.on (hb.out.trans hb1))).mono ?_; rintro e w2 ⟨rfl, hb2⟩))
  go_ret
  exact ⟨rfl, (hb.out.trans hb1).trans hb2⟩
end Go.Proofs.YtngjhblbpapjeaaGreat.H
/- Walks: the laws' own marks. No condition. -/
namespace Go.Proofs.YtngjhblbpapjeaaGreat.H
open Go Go.RowKit Go.Proofs.YtngjhblbpapjeaaGreatW.PrintWords Go.Proofs.YtngjhblbpapjeaaGreatW.PrintLast
open Go.Proofs.YtngjhblbpapjeaaGreat.Reg (On on_draw)
set_option maxHeartbeats 1000000
set_option maxRecDepth 100000
set_option linter.unusedVariables false
set_option linter.unusedSimpArgs false

/-- What a mark writes. -/
def markI (k : Int) : Nat → List Int
  | 0 => []
  | n + 1 => k :: markI (k + 1) n
theorem markI_len (k : Int) (n : Nat) : (markI k n).length = n := by
  induction n generalizing k with
  | zero => rfl
  | succ n ih => simp [markI, ih]
theorem markI_succ (k : Int) (n : Nat) : markI k (n + 1) = markI k n ++ [k + n] := by
  induction n generalizing k with
  | zero => simp [markI]
  | succ n ih =>
    have h := ih (k + 1)
    rw [markI, h, markI, show k + 1 + (n : Int) = k + ((n + 1 : Nat) : Int) by omega]; rfl
theorem markI_at (k : Int) (n i : Nat) (h : i < (markI k n).length) : (markI k n)[i] = k + i := by
  induction n generalizing k i with
  | zero => simp [markI] at h
  | succ n ih =>
    cases i with
    | zero => simp [markI]
    | succ i => simp only [markI, List.getElem_cons_succ]; rw [ih]; omega
theorem markI_inR (k : Int) (n : Nat) (h0 : 0 ≤ k) (h1 : k + n ≤ 10000000) : InR (markI k n) := fun x hx => by
  obtain ⟨i, hi, rfl⟩ := List.getElem_of_mem hx
  rw [markI_at]; rw [markI_len] at hi; omega
theorem markIntS_calls (w : World) (lo : Nat) (v : Value) (xs : List Int) (k0 : Int) (h : OI w lo v xs) (h0 : 0 ≤ k0) (h1 : k0 + xs.length ≤ 10000000) : Calls Tryz.prog 70 #[v, .int .i64 k0] w fun e w' => e = .returned (.int .i64 (k0 + xs.length)) ∧ OI w' lo v (markI k0 xs.length) ∧ Ex (fun b => some b = v.ownBlock) w w' := by
  rcases h.2 with ⟨rfl, hn⟩ | ⟨g, c, cur, rfl, hg⟩
  · obtain rfl : xs = [] := List.eq_nil_of_length_eq_zero hn
    go_enter Tryz.func70, Tryz.ntmps70
    go_wp2
    go_loop [5, 1] (fun v5 v1 => v5 = .int .i64 0 ∧ v1 = .int .i64 k0) (fun v _ => 0)
    case atStart => exact ⟨rfl, rfl⟩
    case round =>
      obtain ⟨rfl, rfl⟩ := hrel
      go_wp2
      go_ret
      exact ⟨by simp, h, Ex.refl _ _⟩
  · clear hg
    have h' := Aside0.mk h
    clear h
    go_enter Tryz.func70, Tryz.ntmps70
    go_wp2
    go_loopw [5, 1] (fun v5 v1 wr => ∃ (k : Nat) (cs : List Value), k ≤ xs.length ∧ v5 = .int .i64 k ∧ v1 = .int .i64 (k0 + k) ∧ Aside0 (wr.ownsRow lo 3 1 (.slice (some ⟨g, 0, none⟩) xs.length c) xs.length ((markI k0 k).flatMap encI ++ cs)) ∧ Ex (fun b => some b = some g) w wr) (fun v5 _ _ => xs.length - (intOf v5).toNat)
    case atStart => exact ⟨0, xs.flatMap encI, Nat.zero_le _, rfl, by simp, h', Ex.refl _ _⟩
    case round =>
      obtain ⟨k, cs, hk, rfl, rfl, hO, hE⟩ := hrel
      have hO2 := hO
      clear hO
      by_cases hlt : k < xs.length
      · have hcl := Aside0.mk (show 0 < cs.length by have := hO2.out.1; rw [List.length_append, flat_len (enc := encI) (sz := 1) (fun _ => rfl), markI_len] at this; omega)
        have hfz : wr.frozen? ⟨g, k, none⟩ = false := own_frozen hO2.out k
        obtain ⟨z, hz⟩ := own_some hO2.out k (by omega)
        have hw : IntKind.i64.wrap (k0 + (k : Int) + 1) = k0 + ((k + 1 : Nat) : Int) := by rw [IntWalk.i64_in _ (by omega)]; omega
        go_wp2
        obtain ⟨z0, cs', rfl⟩ : ∃ z0 cs', cs = z0 :: cs' := by
          cases cs with
          | nil => exact absurd hcl.out (by simp)
          | cons a b => exact ⟨a, b, rfl⟩
        refine ⟨⟨k + 1, cs', by omega, by go_num, by rfl, ⟨?_⟩, hE.trans (Ex.set wr _ _) (fun i _ e => by rw [e])⟩, by simp [intOf]; omega⟩
        have := (hO2.out.stored k (.int .i64 (k0 + k))).1
        rw [set1 k (by rw [flat_len (enc := encI) (sz := 1) (fun _ => rfl), markI_len]; omega)] at this
        rw [markI_succ, List.flatMap_append, List.append_assoc]
        exact this
      · go_wp2
        go_ret
        obtain rfl : k = xs.length := by omega
        have h1 := hO2.out
        have h2 := h1.1
        have h3 : cs = [] := by
          rw [List.length_append, flat_len (enc := encI) (sz := 1) (fun _ => rfl), markI_len] at h2
          exact List.eq_nil_of_length_eq_zero (by omega)
        subst h3
        rw [List.append_nil] at h1
        refine ⟨rfl, ?_, hE⟩
        show World.ownsRow _ _ _ _ _ (markI k0 xs.length).length _
        rw [markI_len]
        exact h1
theorem heldIntS_calls (w : World) (A c) (n : Nat) (k0 : Int) (h : Ints w A c (markI k0 n)) (h0 : 0 ≤ k0) (h1 : k0 + n ≤ 10000000) : Calls Tryz.prog 103 #[.slice A n c, .int .i64 k0] w fun e w' => e = .returned (.int .i64 (k0 + n)) ∧ On w w' := by
  have hl := markI_len k0 n
  go_enter Tryz.func103, Tryz.ntmps103
  go_wp2
  go_loopw [5, 1] (fun v5 v1 wr => ∃ k : Nat, k ≤ n ∧ v5 = .int .i64 k ∧ v1 = .int .i64 (k0 + k) ∧ On w wr) (fun v5 _ _ => n - (intOf v5).toNat)
  case atStart => exact ⟨0, Nat.zero_le _, rfl, by simp, On.refl _⟩
  case round =>
    obtain ⟨k, hk, rfl, rfl, hB⟩ := hrel
    by_cases hlt : k < n
    · obtain ⟨ad, rfl, hx⟩ := (h.on hB).at k (by rw [hl]; exact hlt)
      rw [markI_at] at hx
      have hw : IntKind.i64.wrap (k0 + (k : Int) + 1) = k0 + ((k + 1 : Nat) : Int) := by rw [IntWalk.i64_in _ (by omega)]; omega
      go_wp2
      go_roundw
      case rel => exact ⟨k + 1, by omega, by go_num, rfl, hB⟩
      case measure => simp [intOf]; omega
    · go_wp2
      go_ret
      exact ⟨ret_int (by omega), hB⟩
def mDig (m : Int) (s : ByteArray) : ByteArray := if h : 0 < m then mDig (m / 10) (strOfNums [48 + m % 10] ++ s) else s
termination_by m.toNat
decreasing_by omega
def mText (k : Int) : ByteArray := ⟨#[109]⟩ ++ mDig k ⟨#[]⟩
theorem markText_calls (w : World) (k : Int) (h0 : 1 ≤ k) (h1 : k ≤ 10000000) : Calls Tryz.prog 102 #[.int .i64 k] w fun e w' => e = .returned (.string (mText k)) ∧ On w w' := by
  have hb : decide (k ≤ 0) = false := decide_eq_false (by omega)
  go_enter Tryz.func102, Tryz.ntmps102
  go_wp2
  go_loopw [0, 3] (fun v0 v3 wr => ∃ (m : Int) (s : ByteArray), 0 ≤ m ∧ m ≤ 10000000 ∧ v0 = .int .i64 m ∧ v3 = .string s ∧ Aside0 (mDig m s = mDig k ⟨#[]⟩) ∧ s.size + m ≤ 10000000 ∧ On w wr) (fun v0 _ _ => (intOf v0).toNat)
  case atStart => exact ⟨k, _, by omega, h1, rfl, rfl, ⟨rfl⟩, by show ((0 : Nat) : Int) + k ≤ 10000000; omega, On.refl _⟩
  case round =>
    obtain ⟨m, s, hm0, hm1, rfl, rfl, hp, hsm, hB⟩ := hrel
    by_cases hpos : 0 < m
    · have hcv : (convert 22 9 (.slice (some ⟨wr.heap.size, 0, none⟩) 1 1)).run Tryz.prog (wr.alloc (.cells #[.int .u8 (48 + m % 10)] 5)) = .ok (.string (strOfNums [48 + m % 10])) (wr.alloc (.cells #[.int .u8 (48 + m % 10)] 5)) :=
        own_string (P := Tryz.prog) Tryz.underlying22 Tryz.underlying5 Tryz.underlying9 (own_lit wr 0 5 .u8 [48 + m % 10] (Nat.zero_le _) (by simp))
      have hst := Aside0.mk (show mDig (m / 10) (strOfNums [48 + m % 10] ++ s) = mDig k ⟨#[]⟩ by rw [← hp.out]; conv => rhs; rw [mDig, dif_pos hpos])
      have hs1 : (strOfNums [48 + m % 10]).size = 1 := rfl
      clear hp
      go_wp2
      exact ⟨⟨m / 10, _, by omega, by omega, rfl, rfl, hst, by rw [ByteArray.size_append, hs1]; omega, hB.trans (On.alloc (On.refl _) _)⟩, by simp [intOf]; omega⟩
    · have hst := Aside0.mk (show s = mDig k ⟨#[]⟩ by rw [← hp.out]; conv => rhs; rw [mDig, dif_neg hpos])
      clear hp
      go_wp2
      go_ret
      exact ⟨by show Ending.returned (.string _) = _; rw [hst.out]; rfl, hB⟩
end Go.Proofs.YtngjhblbpapjeaaGreat.H
/- Walks: the laws' own marks on relations and facts. No condition. -/
namespace Go.Proofs.YtngjhblbpapjeaaGreat.H
open Go Go.RowKit Go.Proofs.YtngjhblbpapjeaaGreatW.PrintWords Go.Proofs.YtngjhblbpapjeaaGreatW.PrintLast
open Go.Proofs.YtngjhblbpapjeaaGreat.Reg (On on_draw)
set_option maxHeartbeats 1000000
set_option maxRecDepth 100000
set_option linter.unusedVariables false
set_option linter.unusedSimpArgs false

def mRel (k : Int) : Rel := (mText k, k + 1, (k + 2) % 3 == 0)
def markR (k : Int) : Nat → List Rel
  | 0 => []
  | n + 1 => mRel k :: markR (k + 3) n
theorem markR_len (k : Int) (n : Nat) : (markR k n).length = n := by
  induction n generalizing k with
  | zero => rfl
  | succ n ih => simp [markR, ih]
theorem markR_succ (k : Int) (n : Nat) : markR k (n + 1) = markR k n ++ [mRel (k + 3 * n)] := by
  induction n generalizing k with
  | zero => simp [markR]
  | succ n ih =>
    have h := ih (k + 3)
    rw [markR, h, markR, show k + 3 + 3 * (n : Int) = k + 3 * ((n + 1 : Nat) : Int) by omega]; rfl
theorem markR_at (k : Int) (n i : Nat) (h : i < (markR k n).length) : (markR k n)[i] = mRel (k + 3 * i) := by
  induction n generalizing k i with
  | zero => simp [markR] at h
  | succ n ih =>
    cases i with
    | zero => simp [markR]
    | succ i => simp only [markR, List.getElem_cons_succ]; rw [ih]; congr 1; omega
theorem own_ne_blk {w : World} {lo lo' e e' sz sz' n n' : Nat} {v v' : Value} {cs cs' : List Value} (h : w.ownsRow lo e sz v n cs) (h' : w.ownsRow lo' e' sz' v' n' cs') (hne : e ≠ e') {b : Nat} (hb : v.ownBlock = some b) : v'.ownBlock ≠ some b := fun hb' => by
  obtain ⟨c, hc⟩ := own_typed h b hb
  obtain ⟨c', hc'⟩ := own_typed h' b hb'
  rw [hc] at hc'
  injection hc' with hc'
  injection hc' with _ h3
  exact hne h3
theorem flatR_at {rs : List Rel} {i : Nat} (hi : i < rs.length) : (rs.flatMap encR)[i * 3]? = some (.string rs[i].1) ∧ (rs.flatMap encR)[i * 3 + 1]? = some (.int .i64 rs[i].2.1) ∧ (rs.flatMap encR)[i * 3 + 2]? = some (.bool rs[i].2.2) := by
  have e : rs.flatMap encR = (rs.take i).flatMap encR ++ encR rs[i] ++ (rs.drop (i + 1)).flatMap encR := by
    rw [← flat_take_succ rs i hi, ← List.flatMap_append, List.take_append_drop]
  have hl : ((rs.take i).flatMap encR).length = i * 3 := by rw [flat_len (enc := encR) (sz := 3) (fun _ => rfl), List.length_take, Nat.min_eq_left (by omega)]
  rw [e, List.append_assoc]
  refine ⟨?_, ?_, ?_⟩ <;> rw [List.getElem?_append_right (by omega), hl]
  · simp
  · rw [show i * 3 + 1 - i * 3 = 1 by omega]; rfl
  · rw [show i * 3 + 2 - i * 3 = 2 by omega]; rfl
theorem flatH_at {hs : List Hdr} {i : Nat} (hi : i < hs.length) : (hs.flatMap encH)[i * 2]? = some (.int .i64 hs[i].1) ∧ (hs.flatMap encH)[i * 2 + 1]? = some (hdV hs[i]) := by
  have e : hs.flatMap encH = (hs.take i).flatMap encH ++ encH hs[i] ++ (hs.drop (i + 1)).flatMap encH := by
    rw [← flat_take_succ hs i hi, ← List.flatMap_append, List.take_append_drop]
  have hl : ((hs.take i).flatMap encH).length = i * 2 := by rw [flat_len (enc := encH) (sz := 2) (fun _ => rfl), List.length_take, Nat.min_eq_left (by omega)]
  rw [e, List.append_assoc]
  refine ⟨?_, ?_⟩ <;> rw [List.getElem?_append_right (by omega), hl]
  · simp
  · rw [show i * 2 + 1 - i * 2 = 1 by omega]; rfl
theorem flatH_set0 (hs : List Hdr) (i : Nat) (hi : i < hs.length) (x : Int) : (hs.flatMap encH).set (i * 2) (.int .i64 x) = (hs.set i (x, hs[i].2)).flatMap encH := by
  have e : hs.flatMap encH = (hs.take i).flatMap encH ++ encH hs[i] ++ (hs.drop (i + 1)).flatMap encH := by
    rw [← flat_take_succ hs i hi, ← List.flatMap_append, List.take_append_drop]
  have hl : ((hs.take i).flatMap encH).length = i * 2 := by rw [flat_len (enc := encH) (sz := 2) (fun _ => rfl), List.length_take, Nat.min_eq_left (by omega)]
  rw [e, List.append_assoc, show encH hs[i] ++ (hs.drop (i + 1)).flatMap encH = .int .i64 hs[i].1 :: hdV hs[i] :: (hs.drop (i + 1)).flatMap encH from rfl, set1 _ hl]
  rw [List.set_eq_take_append_cons_drop, if_pos hi, List.flatMap_append, List.flatMap_cons]
  rfl
theorem markRelationS_calls (w : World) (lo : Nat) (v : Value) (rs : List Rel) (k0 : Int) (h : OR w lo v rs) (h0 : 1 ≤ k0) (h1 : k0 + 3 * rs.length ≤ 10000000) : Calls Tryz.prog 68 #[v, .int .i64 k0] w fun e w' => e = .returned (.int .i64 (k0 + 3 * rs.length)) ∧ OR w' lo v (markR k0 rs.length) ∧ Ex (fun b => some b = v.ownBlock) w w' := by
  rcases h.2 with ⟨rfl, hn⟩ | ⟨g, c, cur, rfl, hg⟩
  · obtain rfl : rs = [] := List.eq_nil_of_length_eq_zero hn
    go_enter Tryz.func68, Tryz.ntmps68
    go_wp2
    go_loop [5, 1] (fun v5 v1 => v5 = .int .i64 0 ∧ v1 = .int .i64 k0) (fun v _ => 0)
    case atStart => exact ⟨rfl, rfl⟩
    case round =>
      obtain ⟨rfl, rfl⟩ := hrel
      go_wp2
      go_ret
      exact ⟨by simp, h, Ex.refl _ _⟩
  · clear hg
    have h' := Aside0.mk h
    clear h
    go_enter Tryz.func68, Tryz.ntmps68
    go_wp2
    go_loopw [5, 1] (fun v5 v1 wr => ∃ (k : Nat) (cs : List Value), k ≤ rs.length ∧ v5 = .int .i64 k ∧ v1 = .int .i64 (k0 + 3 * k) ∧ Aside0 (wr.ownsRow lo 81 3 (.slice (some ⟨g, 0, none⟩) rs.length c) rs.length ((markR k0 k).flatMap encR ++ cs)) ∧ Ex (fun b => some b = some g) w wr) (fun v5 _ _ => rs.length - (intOf v5).toNat)
    case atStart => exact ⟨0, rs.flatMap encR, Nat.zero_le _, rfl, by simp, h', Ex.refl _ _⟩
    case round =>
      obtain ⟨k, cs, hk, rfl, rfl, hO, hE⟩ := hrel
      have hO2 := hO
      clear hO
      by_cases hlt : k < rs.length
      · have hcl := Aside0.mk (show 3 ≤ cs.length by have := hO2.out.1; rw [List.length_append, flat_len (enc := encR) (sz := 3) (fun _ => rfl), markR_len] at this; omega)
        have hw1 : IntKind.i64.wrap (k0 + 3 * (k : Int) + 1) = k0 + 3 * k + 1 := by rw [IntWalk.i64_in _ (by omega)]
        have hw2 : IntKind.i64.wrap (k0 + 3 * (k : Int) + 1 + 1) = k0 + 3 * k + 2 := by rw [IntWalk.i64_in _ (by omega)]; omega
        have hw3 : IntKind.i64.wrap (k0 + 3 * (k : Int) + 2 + 1) = k0 + 3 * ((k + 1 : Nat) : Int) := by rw [IntWalk.i64_in _ (by omega)]; omega
        go_wp2_with (go_at_call 102; refine (markText_calls wr (k0 + 3 * k) (by omega) (by omega)).mono ?_; rintro e w2 ⟨rfl, hb2⟩; have hO3 := Aside0.mk (pw_own_below hO2.out hb2); have hfz := own_frozen hO3.out (k * 3); have hfz1 := own_frozen hO3.out (k * 3 + 1); have hfz2 := own_frozen hO3.out (k * 3 + 2); obtain ⟨z, hz⟩ := own_some hO3.out (k * 3) (by omega); obtain ⟨z1, hz1⟩ := own_some hO3.out (k * 3 + 1) (by omega); obtain ⟨z2, hz2⟩ := own_some hO3.out (k * 3 + 2) (by omega))
        obtain ⟨z0, z1, z2, hcs⟩ := split3 (cs := cs) (i := 0) (by have := hcl.out; omega)
        simp only [List.take_zero, List.nil_append, Nat.zero_add] at hcs
        refine ⟨⟨k + 1, cs.drop 3, by omega, by go_num, by rfl, ⟨?_⟩, (((hE.then_on hb2).trans (Ex.set _ _ _) (fun i _ e => by rw [e])).trans (Ex.set _ _ _) (fun i _ e => by rw [e])).trans (Ex.set _ _ _) (fun i _ e => by rw [e])⟩, by simp [intOf]; omega⟩
        have := ((hO3.out.stored (k * 3) (.string (mText (k0 + 3 * k)))).1.stored (k * 3 + 1) (.int .i64 (k0 + 3 * k + 1))).1.stored (k * 3 + 2) (.bool ((k0 + 3 * k + 2) % 3 == 0)) |>.1
        rw [hcs, set3 (k * 3) (by rw [flat_len (enc := encR) (sz := 3) (fun _ => rfl), markR_len])] at this
        rw [markR_succ, List.flatMap_append, List.append_assoc]
        exact this
      · go_wp2
        go_ret
        obtain rfl : k = rs.length := by omega
        have h1 := hO2.out
        have h2 := h1.1
        have h3 : cs = [] := by
          rw [List.length_append, flat_len (enc := encR) (sz := 3) (fun _ => rfl), markR_len] at h2
          exact List.eq_nil_of_length_eq_zero (by omega)
        subst h3
        rw [List.append_nil] at h1
        refine ⟨rfl, ?_, hE⟩
        show World.ownsRow _ _ _ _ _ (markR k0 rs.length).length _
        rw [markR_len]
        exact h1
theorem heldRelationS_calls (w : World) (A c) (n : Nat) (k0 : Int) (h : Rels w A c (markR k0 n)) (h0 : 1 ≤ k0) (h1 : k0 + 3 * n ≤ 10000000) : Calls Tryz.prog 71 #[.slice A n c, .int .i64 k0] w fun e w' => e = .returned (.int .i64 (k0 + 3 * n)) ∧ On w w' := by
  have hl := markR_len k0 n
  go_enter Tryz.func71, Tryz.ntmps71
  go_wp2
  go_loopw [5, 1] (fun v5 v1 wr => ∃ k : Nat, k ≤ n ∧ v5 = .int .i64 k ∧ v1 = .int .i64 (k0 + 3 * k) ∧ On w wr) (fun v5 _ _ => n - (intOf v5).toNat)
  case atStart => exact ⟨0, Nat.zero_le _, rfl, by simp, On.refl _⟩
  case round =>
    obtain ⟨k, hk, rfl, rfl, hB⟩ := hrel
    by_cases hlt : k < n
    · obtain ⟨ad, rfl, hx0, hx1, hx2⟩ := (h.on hB).at k (by rw [hl]; exact hlt)
      rw [markR_at] at hx0 hx1 hx2
      have hw1 : IntKind.i64.wrap (k0 + 3 * (k : Int) + 1) = k0 + 3 * k + 1 := by rw [IntWalk.i64_in _ (by omega)]
      have hw2 : IntKind.i64.wrap (k0 + 3 * (k : Int) + 1 + 1) = k0 + 3 * k + 2 := by rw [IntWalk.i64_in _ (by omega)]; omega
      have hw3 : IntKind.i64.wrap (k0 + 3 * (k : Int) + 2 + 1) = k0 + 3 * ((k + 1 : Nat) : Int) := by rw [IntWalk.i64_in _ (by omega)]; omega
      replace hx0 : wr.cell? (ad.add (k * 3)) = some (.string (mText (k0 + 3 * k))) := hx0
      replace hx1 : wr.cell? ⟨(ad.add (k * 3)).block, (ad.add (k * 3)).off + 1, none⟩ = some (.int .i64 (k0 + 3 * k + 1)) := hx1
      replace hx2 : wr.cell? ⟨(ad.add (k * 3)).block, (ad.add (k * 3)).off + 2, none⟩ = some (.bool ((k0 + 3 * k + 2) % 3 == 0)) := hx2
      go_wp2
      refine Reg.region [(0,.L),(1,.L),(2,.L),(3,.L),(4,.L),(5,.L),(6,.C),(7,.L)] [] (by kernel_rfl) (by kernel_rfl) ?_
      repeat first | refine sP ?_ | refine sS ?_ | refine sA ?_ | refine sL ?_ | refine sQ ?_ | refine sO ?_
      refine callC (.string (mText (k0 + 3 * k))) Tryz.func102 (fun w' hS => ?_) ?_
      focus exact markText_calls w' (k0 + 3 * k) (by omega) (by omega)
      repeat first | refine sP ?_ | refine sS ?_ | refine sA ?_ | refine sL ?_ | refine sQ ?_ | refine sO ?_
      refine Reg.nil fun w2 hS => ?_
      have hx1' := (hS.eq _ (by rw [hx1]; rfl)).trans hx1
      have hx2' := (hS.eq _ (by rw [hx2]; rfl)).trans hx2
      go_wp2
      go_roundw
      case rel => exact ⟨k + 1, by omega, by go_num, rfl, hB.trans hS⟩
      case measure => simp [intOf]; omega
    · go_wp2
      go_ret
      exact ⟨ret_int (by omega), hB⟩
end Go.Proofs.YtngjhblbpapjeaaGreat.H
/- Walks: the laws' own marks on facts and instances. No condition. -/
namespace Go.Proofs.YtngjhblbpapjeaaGreat.H
open Go Go.RowKit Go.Proofs.YtngjhblbpapjeaaGreatW.PrintWords Go.Proofs.YtngjhblbpapjeaaGreatW.PrintLast
open Go.Proofs.YtngjhblbpapjeaaGreat.Reg (On on_draw)
set_option maxHeartbeats 1000000
set_option maxRecDepth 100000
set_option linter.unusedVariables false
set_option linter.unusedSimpArgs false

def markF (k : Int) : List Nat → List Fct
  | [] => []
  | m :: l => (k, markI (k + 1) m) :: markF (k + 1 + m) l
def cF (l : List Nat) : Nat := (l.map (· + 1)).sum
theorem markF_len (k : Int) (l : List Nat) : (markF k l).length = l.length := by
  induction l generalizing k with
  | nil => rfl
  | cons m l ih => simp [markF, ih]
theorem cF_snoc (l : List Nat) (m : Nat) : cF (l ++ [m]) = cF l + (m + 1) := by simp [cF]
theorem markF_snoc (k : Int) (l : List Nat) (m : Nat) : markF k (l ++ [m]) = markF k l ++ [(k + cF l, markI (k + cF l + 1) m)] := by
  induction l generalizing k with
  | nil => simp [markF, cF]
  | cons a l ih =>
    have h := ih (k + 1 + a)
    have e : k + 1 + (a : Int) + cF l = k + cF (a :: l) := by simp [cF]; omega
    rw [List.cons_append, markF, h, markF, e]; rfl
theorem cF_take_le (l : List Nat) (k : Nat) : cF (l.take k) ≤ cF l := by
  conv => rhs; rw [← List.take_append_drop k l]
  simp only [cF, List.map_append, List.sum_append]; omega
abbrev lens (fs : List Fct) : List Nat := fs.map fun f => f.2.length
theorem cF_lens (fs : List Fct) : cF (lens fs) = wF fs := by simp [cF, lens, wF, Function.comp_def]
theorem wF_len (fs : List Fct) : fs.length ≤ wF fs := by
  unfold wF
  induction fs with
  | nil => simp
  | cons f fs ih => simp at ih ⊢; omega
theorem Sep.ne_row {W : World} {lo lo' : Nat} {hs hs' : List Hdr} {fs : List Fct} {vf : Value} (h : Sep W lo hs fs) (hO : OH W lo' vf hs') {i b : Nat} {a : Hdr} (ha : hs[i]? = some a) (hb : (hdV a).ownBlock = some b) : vf.ownBlock ≠ some b := by
  have hi : i < fs.length := by rw [← h.len]; exact (List.getElem?_eq_some_iff.1 ha).1
  exact own_ne_blk (h.at_ i a fs[i] ha (List.getElem?_eq_getElem hi)).2.1 hO (by decide) hb
theorem set_hdr {hs : List Hdr} {i : Nat} (hi : i < hs.length) {x : Int} {j : Nat} {a : Hdr} (ha : (hs.set i (x, hs[i].2))[j]? = some a) : ∃ a', hs[j]? = some a' ∧ hdV a' = hdV a := by
  by_cases e : i = j
  · subst e
    rw [List.getElem?_set_self hi] at ha
    injection ha with ha; subst ha
    exact ⟨hs[i], List.getElem?_eq_getElem hi, rfl⟩
  · rw [List.getElem?_set_ne e] at ha
    exact ⟨a, ha, rfl⟩
/-- One fact's number and row are written anew. -/
theorem Sep.upd {W w : World} {lo : Nat} {hs : List Hdr} {fs : List Fct} (h : Sep W lo hs fs) {i : Nat} (hi : i < hs.length) {x : Int} {ys : List Int} (hw : ∀ (j : Nat) (a : Hdr) (b : Nat), j ≠ i → hs[j]? = some a → (hdV a).ownBlock = some b → w.heap[b]? = W.heap[b]?) (hO : OI w lo (hdV hs[i]) ys) (hR : InR ys) : Sep w lo (hs.set i (x, hs[i].2)) (fs.set i (x, ys)) := by
  refine ⟨by simp [h.len], fun j a f ha hf => ?_, fun j j' a b k ha hb h1 h2 => ?_⟩
  · by_cases e : i = j
    · subst e
      rw [List.getElem?_set_self hi] at ha
      rw [List.getElem?_set_self (by rw [← h.len]; exact hi)] at hf
      injection ha with ha; injection hf with hf; subst ha hf
      exact ⟨rfl, hO, hR⟩
    · rw [List.getElem?_set_ne e] at ha hf
      obtain ⟨h1, h2, h3⟩ := h.at_ j a f ha hf
      exact ⟨h1, own_move h2 fun b hb => hw j a b (Ne.symm e) ha hb, h3⟩
  · obtain ⟨a', ha', e1⟩ := set_hdr hi ha
    obtain ⟨b', hb', e2⟩ := set_hdr hi hb
    exact h.apart j j' a' b' k ha' hb' (by rw [e1]; exact h1) (by rw [e2]; exact h2)
/-- The blocks that a row of facts owns. -/
def FB (v : Value) (hs : List Hdr) (b : Nat) : Prop := some b = v.ownBlock ∨ ∃ (i : Nat) (a : Hdr), hs[i]? = some a ∧ some b = (hdV a).ownBlock
theorem FB.set {v : Value} {hs : List Hdr} {i : Nat} (hi : i < hs.length) {x : Int} {b : Nat} (h : FB v (hs.set i (x, hs[i].2)) b) : FB v hs b := by
  rcases h with h | ⟨j, a, ha, h⟩
  · exact .inl h
  · obtain ⟨a', ha', e⟩ := set_hdr hi ha
    exact .inr ⟨j, a', ha', by rw [e]; exact h⟩
theorem set_mid {α : Type} (P r : List α) (f y : α) (i : Nat) (hi : P.length = i) : (P ++ f :: r).set i y = P ++ y :: r := by subst hi; simp
theorem markFactS_calls (w : World) (lo lo2 : Nat) (v : Value) (hs : List Hdr) (fs : List Fct) (k0 : Int) (h : OH w lo2 v hs) (hS : Sep w lo hs fs) (h0 : 0 ≤ k0) (h1 : k0 + wF fs ≤ 10000000) : Calls Tryz.prog 69 #[v, .int .i64 k0] w fun e w' => e = .returned (.int .i64 (k0 + wF fs)) ∧ (∃ hs', OH w' lo2 v hs' ∧ Sep w' lo hs' (markF k0 (lens fs)) ∧ ∀ b, FB v hs' b → FB v hs b) ∧ Ex (FB v hs) w w' := by
  have hlen := hS.len
  rcases h.2 with ⟨rfl, hn⟩ | ⟨g, c, cur, rfl, hg⟩
  · obtain rfl : hs = [] := List.eq_nil_of_length_eq_zero hn
    obtain rfl : fs = [] := List.eq_nil_of_length_eq_zero hlen.symm
    go_enter Tryz.func69, Tryz.ntmps69
    go_wp2
    go_loop [5, 1] (fun v5 v1 => v5 = .int .i64 0 ∧ v1 = .int .i64 k0) (fun v _ => 0)
    case atStart => exact ⟨rfl, rfl⟩
    case round =>
      obtain ⟨rfl, rfl⟩ := hrel
      go_wp2
      go_ret
      exact ⟨by simp [wF], ⟨[], h, hS, fun _ h => h⟩, Ex.refl _ _⟩
  · clear hg
    have h' := Aside0.mk h
    have hS' := Aside0.mk hS
    clear h hS
    have hlen' := Aside0.mk hlen
    have hlmax : hs.length ≤ 10000000 := by have : fs.length ≤ wF fs := wF_len fs; omega
    clear hlen
    go_enter Tryz.func69, Tryz.ntmps69
    go_wp2
    go_loopw [5, 1] (fun v5 v1 wr => ∃ (k : Nat) (hs' : List Hdr), k ≤ hs.length ∧ v5 = .int .i64 k ∧ v1 = .int .i64 (k0 + cF ((lens fs).take k)) ∧ Aside0 (hs'.length = hs.length) ∧ Aside0 (OH wr lo2 (.slice (some ⟨g, 0, none⟩) hs.length c) hs') ∧ Aside0 (Sep wr lo hs' (markF k0 ((lens fs).take k) ++ fs.drop k)) ∧ Aside0 (∀ b, FB (.slice (some ⟨g, 0, none⟩) hs.length c) hs' b → FB (.slice (some ⟨g, 0, none⟩) hs.length c) hs b) ∧ Aside0 (Ex (FB (.slice (some ⟨g, 0, none⟩) hs.length c) hs) w wr)) (fun v5 _ _ => hs.length - (intOf v5).toNat)
    case atStart => exact ⟨0, hs, Nat.zero_le _, rfl, by simp [cF], ⟨rfl⟩, h', by simpa [markF] using hS', ⟨fun _ h => h⟩, ⟨Ex.refl _ _⟩⟩
    case round =>
      obtain ⟨k, hs', hk, rfl, rfl, hl, hO, hS, hF, hE⟩ := hrel
      have hO2 := hO
      clear hO
      obtain ⟨m, hm⟩ : ∃ m : Int, k0 + cF ((lens fs).take k) = m := ⟨_, rfl⟩
      by_cases hlt : k < hs.length
      · have hk1 : k < hs'.length := by rw [hl.out]; exact hlt
        have hkf : k < fs.length := by rw [← hlen'.out]; exact hlt
        have hcm := Aside0.mk (show cF ((lens fs).take (k + 1)) = cF ((lens fs).take k) + (fs[k].2.length + 1) by rw [List.take_succ_eq_append_getElem (by simpa using hkf), cF_snoc]; simp)
        have hle := Aside0.mk (show k0 + cF ((lens fs).take (k + 1)) ≤ 10000000 by have := cF_take_le (lens fs) (k + 1); rw [cF_lens] at this; omega)
        have hm0 := Aside0.mk (show 0 ≤ m ∧ m + 1 + fs[k].2.length ≤ 10000000 by have := hle.out; rw [hcm.out] at this; omega)
        have hO3 := Aside0.mk (show wr.ownsRow lo2 30 2 (.slice (some ⟨g, 0, none⟩) hs.length c) hs.length (hs'.flatMap encH) by have := hO2.out; unfold OH at this; rw [hl.out] at this; exact this)
        have hfz := own_frozen hO3.out (k * 2)
        obtain ⟨hz0, hz1⟩ := flatH_at hk1
        have hz2 := (hO3.out.cellAt (k * 2) (by omega)).trans hz0
        have hz3 := (hO3.out.cellAt (k * 2 + 1) (by omega)).trans hz1
        clear hz0 hz1
        obtain ⟨A1, n1, c1, hA⟩ : ∃ A n c, hdV hs'[k] = .slice A n c := ⟨_, _, _, rfl⟩
        rw [hA] at hz3
        have hw1 : IntKind.i64.wrap (m + 1) = m + 1 := by have := hm0.out; rw [IntWalk.i64_in _ (by omega)]
        have hFk : (markF k0 ((lens fs).take k) ++ fs.drop k)[k]? = some fs[k] := by
          rw [List.getElem?_append_right (by rw [markF_len, List.length_take]; omega), markF_len, List.length_take, List.getElem?_drop]
          simp only [lens, List.length_map, Nat.min_eq_left (show k ≤ fs.length by omega), Nat.sub_self, Nat.add_zero]
          exact List.getElem?_eq_getElem hkf
        have hOk := Aside0.mk (own_ex (hS.out.at_ k hs'[k] fs[k] (List.getElem?_eq_getElem hk1) hFk).2.1 (Ex.set wr ⟨g, k * 2, none⟩ (.int .i64 m)) (fun b hb e => hS.out.ne_row hO2.out (List.getElem?_eq_getElem hk1) hb (by rw [e]; rfl)))
        clear hFk
        rw [hA] at hOk
        have hA' := Aside0.mk hA
        clear hA
        rw [hm]
        go_wp2_with (go_at_call 70; refine (markIntS_calls _ lo _ fs[k].2 (m + 1) hOk.out (by have := hm0.out; omega) (by have := hm0.out; omega)).mono ?_; rintro e w2 ⟨rfl, hO5, hE5⟩; have hO6 := Aside0.mk hO5; have hE6 := Aside0.mk hE5; clear hO5 hE5)
        have hne : ∀ b, some b = (hdV hs'[k]).ownBlock → b ≠ g := fun b hb e => hS.out.ne_row hO2.out (List.getElem?_eq_getElem hk1) hb.symm (by rw [e]; rfl)
        have hE7 := hE6.out
        rw [← hA'.out] at hE7
        have hO7 := hO6.out
        rw [← hA'.out] at hO7
        have hS7 := Sep.upd (w := w2) (x := m) (ys := markI (m + 1) fs[k].2.length) hS.out hk1 (fun j a b hj ha hb => by
          have hb1 : b ≠ g := fun e => hS.out.ne_row hO2.out ha hb (by rw [e]; rfl)
          have hb2 : b < wr.heap.size := (hS.out.lt ha hb).2
          rw [hE7.block b (by simpa [World.setCell] using hb2) (fun e => hj (hS.out.apart j k a hs'[k] b ha (List.getElem?_eq_getElem hk1) hb e.symm))]
          exact Below.heap_setCell wr ⟨g, k * 2, none⟩ _ b hb1) hO7 (markI_inR _ _ (by have := hm0.out; omega) (by have := hm0.out; omega))
        refine ⟨⟨k + 1, hs'.set k (m, hs'[k].2), by omega, by go_num, ?_, ⟨by rw [List.length_set]; exact hl.out⟩, ⟨?_⟩, ⟨?_⟩, ⟨fun b hb => hF.out b (FB.set hk1 hb)⟩, ⟨(hE.out.trans (Ex.set wr _ _) (fun i _ e => .inl (by rw [e]; rfl))).trans hE7 (fun i _ e => hF.out i (.inr ⟨k, hs'[k], List.getElem?_eq_getElem hk1, e⟩))⟩⟩, by simp [intOf]; omega⟩
        · have h1 := hcm.out
          congr 1
          rw [h1]; omega
        · have h1 := (hO3.out.stored (k * 2) (.int .i64 m)).1
          rw [flatH_set0 hs' k hk1 m] at h1
          have h2 := own_ex h1 hE7 (fun b hb e => hne b e (by injection hb with hb; exact hb.symm))
          show World.ownsRow _ _ _ _ _ (hs'.set k (m, hs'[k].2)).length _
          rw [List.length_set, hl.out]
          exact h2
        · have e1 : (lens fs).take (k + 1) = (lens fs).take k ++ [fs[k].2.length] := by rw [List.take_succ_eq_append_getElem (by simpa using hkf)]; simp
          rw [List.drop_eq_getElem_cons hkf, set_mid _ _ _ _ k (by rw [markF_len, List.length_take]; simp; omega)] at hS7
          rw [e1, markF_snoc, hm, List.append_assoc]
          exact hS7
      · go_wp2
        go_ret
        obtain rfl : k = hs.length := by omega
        have e1 : (lens fs).take hs.length = lens fs := List.take_of_length_le (by simp [hlen'.out])
        have e2 : fs.drop hs.length = [] := List.drop_of_length_le (by rw [hlen'.out]; exact Nat.le_refl _)
        refine ⟨?_, ⟨hs', hO2.out, ?_, hF.out⟩, hE.out⟩
        · show Ending.returned (.int .i64 _) = _
          rw [e1, cF_lens]
        · have := hS.out
          rw [e1, e2, List.append_nil] at this
          exact this
end Go.Proofs.YtngjhblbpapjeaaGreat.H
/- Walks: nulls of instances. No condition. -/
namespace Go.Proofs.YtngjhblbpapjeaaGreat.H
open Go Go.RowKit Go.Proofs.YtngjhblbpapjeaaGreatW.PrintWords Go.Proofs.YtngjhblbpapjeaaGreatW.PrintLast
open Go.Proofs.YtngjhblbpapjeaaGreat.Reg (On on_draw)
set_option maxHeartbeats 1000000
set_option maxRecDepth 100000
set_option linter.unusedVariables false
set_option linter.unusedSimpArgs false

def putAll : List Int → List Int → List Int
  | out, [] => out
  | out, x :: l => putAll (put out x) l
def nulsIFrom : List Int → List Fct → List Int
  | out, [] => out
  | out, f :: l => nulsIFrom (putAll out (nuls f.2)) l
def nulsI (fs : List Fct) : List Int := nulsIFrom [] fs
theorem putAll_step (out l : List Int) (k : Nat) (h : k < l.length) : putAll out (l.drop k) = putAll (put out l[k]) (l.drop (k + 1)) := by
  rw [List.drop_eq_getElem_cons h]; rfl
theorem nulsIFrom_step (out : List Int) (fs : List Fct) (k : Nat) (h : k < fs.length) : nulsIFrom out (fs.drop k) = nulsIFrom (putAll out (nuls fs[k].2)) (fs.drop (k + 1)) := by
  rw [List.drop_eq_getElem_cons h]; rfl
theorem nulsFrom_ok (out vs : List Int) (h : ∀ x ∈ out, 0 ≤ x ∧ x ≤ 39) : (∀ x ∈ nulsFrom out vs, 0 ≤ x ∧ x ≤ 39) ∧ (nulsFrom out vs).length ≤ out.length + vs.length := by
  induction vs generalizing out with
  | nil => exact ⟨h, by simp [nulsFrom]⟩
  | cons v vs ih =>
    unfold nulsFrom
    split
    · have h2 := ih (put out (nulNum v)) (fun x hx => by
        rcases put_mem hx with hx | rfl
        · exact h x hx
        · exact nulNum_bd v)
      have := put_length out (nulNum v)
      exact ⟨h2.1, by simp only [List.length_cons]; omega⟩
    · have h2 := ih out h
      exact ⟨h2.1, by simp only [List.length_cons]; omega⟩
theorem nuls_ok (vs : List Int) : (∀ x ∈ nuls vs, 0 ≤ x ∧ x ≤ 39) ∧ (nuls vs).length ≤ vs.length := by
  have := nulsFrom_ok [] vs (fun x hx => by cases hx)
  exact ⟨this.1, Nat.le_trans this.2 (by simp)⟩
theorem inR_of {xs : List Int} (h : ∀ x ∈ xs, 0 ≤ x ∧ x ≤ 39) : InR xs := fun x hx => by have := h x hx; omega
end Go.Proofs.YtngjhblbpapjeaaGreat.H
/- Cells of own rows: appended to, cut, cleared; rows of headers that are read. No condition. -/
namespace Go.Proofs.YtngjhblbpapjeaaGreat.H
open Go Go.RowKit Go.Proofs.YtngjhblbpapjeaaGreatW.PrintWords Go.Proofs.YtngjhblbpapjeaaGreatW.PrintLast
open Go.Proofs.YtngjhblbpapjeaaGreat.Reg (On on_draw)
set_option maxHeartbeats 1000000
set_option maxRecDepth 100000
set_option linter.unusedVariables false
set_option linter.unusedSimpArgs false

theorem flat_get {α : Type} {enc : α → List Value} {sz : Nat} (hl : ∀ x, (enc x).length = sz) : ∀ (xs : List α) (i r : Nat) (hi : i < xs.length), r < sz → (xs.flatMap enc)[i * sz + r]? = (enc xs[i])[r]?
  | [], _, _, hi, _ => absurd hi (Nat.not_lt_zero _)
  | x :: xs, 0, r, _, hr => by
    rw [List.flatMap_cons, Nat.zero_mul, Nat.zero_add, List.getElem?_append_left (by rw [hl]; exact hr)]; rfl
  | x :: xs, i + 1, r, hi, hr => by
    rw [List.flatMap_cons, List.getElem?_append_right (by rw [hl, Nat.add_mul]; omega), hl, show (i + 1) * sz + r - sz = i * sz + r by rw [Nat.add_mul]; omega]
    exact flat_get hl xs i r (by simpa using hi) hr
theorem flat_div {α : Type} {enc : α → List Value} {sz : Nat} (hs : 0 < sz) (hl : ∀ x, (enc x).length = sz) (xs : List α) (j : Nat) (u : Value) (h : (xs.flatMap enc)[j]? = some u) : ∃ i r, ∃ hi : i < xs.length, r < sz ∧ j = i * sz + r ∧ (enc xs[i])[r]? = some u := by
  have hj : j < xs.length * sz := by
    have := (List.getElem?_eq_some_iff.1 h).1
    rwa [flat_len hl] at this
  have hi : j / sz < xs.length := (Nat.div_lt_iff_lt_mul hs).2 hj
  have e : j = j / sz * sz + j % sz := by rw [Nat.mul_comm]; exact (Nat.div_add_mod j sz).symm
  refine ⟨j / sz, j % sz, hi, Nat.mod_lt _ hs, e, ?_⟩
  rw [← flat_get hl xs _ _ hi (Nat.mod_lt _ hs), ← e]
  exact h
/-- A row of headers that is read. -/
structure RH (w : World) (A : Option Addr) (c : Nat) (hs : List Hdr) : Prop where
  cap : hs.length ≤ c
  max : hs.length ≤ 9223372036854775807
  cell : ∀ j u, (hs.flatMap encH)[j]? = some u → ∃ ad, A = some ad ∧ w.cell? (ad.add j) = some u
theorem RH.on {W w : World} {A : Option Addr} {c : Nat} {hs : List Hdr} (h : RH W A c hs) (hb : On W w) : RH w A c hs := ⟨h.cap, h.max, fun j u hu => by
  obtain ⟨ad, e, hc⟩ := h.cell j u hu
  exact ⟨ad, e, (hb.eq _ (by rw [hc]; rfl)).trans hc⟩⟩
theorem own_capmax {w : World} {lo e sz n : Nat} {A : Option Addr} {c : Nat} {cs : List Value} (h : w.ownsRow lo e sz (.slice A n c) n cs) : n ≤ c ∧ n ≤ 9223372036854775807 := by
  rcases h.2 with ⟨h1, h2⟩ | ⟨g, cap, cur, h1, _, _, h3, h4, _⟩
  · exact ⟨by omega, by omega⟩
  · injection h1 with h1 h5 h6
    have : maxLen = 9223372036854775807 := rfl
    exact ⟨by omega, by omega⟩
theorem OH.slice {w : World} {lo : Nat} {v : Value} {hs : List Hdr} (h : OH w lo v hs) : ∃ A c, v = .slice A hs.length c ∧ RH w A c hs := by
  obtain ⟨A, c, rfl⟩ := own_slice h
  obtain ⟨h1, h2⟩ := own_capmax h
  refine ⟨A, c, rfl, h1, h2, fun j u hu => ?_⟩
  rcases h.2 with ⟨h1, h3⟩ | ⟨g, cap, cur, h1, _⟩
  · obtain rfl : hs = [] := List.eq_nil_of_length_eq_zero h3
    simp at hu
  · injection h1 with h1 h5 h6
    subst h1
    exact ⟨_, rfl, h.cells rfl j u hu⟩
theorem OH.rh {w : World} {lo c : Nat} {A : Option Addr} {n : Nat} {hs : List Hdr} (h : OH w lo (.slice A n c) hs) : n = hs.length ∧ RH w A c hs := by
  obtain ⟨A', c', e, h'⟩ := OH.slice h
  injection e with e1 e2 e3
  subst e1 e3
  exact ⟨e2, h'⟩
theorem blk_grown {W w1 : World} {row : Option Nat} {g : Nat} {o : Obj} (hg : W.grownBy w1 row) (h : W.heap[g]? = some o) (hne : some g ≠ row) : w1.heap[g]? = some o := (hg.block g (blk_lt h) hne).trans h
theorem OR.slice {w : World} {lo : Nat} {v : Value} {hs : List Rel} (h : OR w lo v hs) : ∃ A c, v = .slice A hs.length c := own_slice h
theorem RH.fcts {w : World} {A : Option Addr} {c : Nat} {hs : List Hdr} {fs : List Fct} (h : RH w A c hs) (hr : Reads w hs fs) : Fcts w A c fs := by
  have hlen := hr.len
  refine ⟨by rw [← hlen]; exact h.cap, ⟨rfl, by rw [← hlen]; exact h.max, fun h0 => ?_⟩, hr.inF⟩
  obtain ⟨ad, rfl, _⟩ := h.cell 0 (.int .i64 (hs[0]'(by omega)).1) (by
    have := flat_get (enc := encH) (sz := 2) (fun _ => rfl) hs 0 0 (by omega) (by omega)
    rw [Nat.zero_mul] at this
    rw [this]; rfl)
  refine ⟨ad, rfl, fun j f hj => ?_⟩
  have hj' : j < hs.length := by rw [hlen]; exact (List.getElem?_eq_some_iff.1 hj).1
  obtain ⟨e1, e2, e3⟩ := hr.at_ j hs[j] f (List.getElem?_eq_getElem hj') hj
  refine ⟨encH hs[j], rfl, ⟨[.int .i64 hs[j].1], [hdV hs[j]], rfl, by rw [e1]; rfl, hs[j].2.1, hs[j].2.2.2, by rw [← e2], e3.1, e3.2.1⟩, fun i u hu => ?_⟩
  have hi : i < 2 := (List.getElem?_eq_some_iff.1 hu).1
  obtain ⟨ad', e, hc⟩ := h.cell (j * 2 + i) u (by rw [flat_get (enc := encH) (sz := 2) (fun _ => rfl) hs j i hj' hi]; exact hu)
  injection e with e
  subst e
  exact hc
theorem Fcts.hdrs {w : World} {A : Option Addr} {c : Nat} {fs : List Fct} (h : Fcts w A c fs) : ∃ hs, RH w A c hs ∧ Reads w hs fs := by
  have key : ∀ k, k ≤ fs.length → ∃ hs : List Hdr, hs.length = k ∧ ∀ (i : Nat) (hi : i < k) (hl : i < hs.length) (hf : i < fs.length), hs[i].1 = fs[i].1 ∧ hs[i].2.2.1 = fs[i].2.length ∧ Ints w hs[i].2.1 hs[i].2.2.2 fs[i].2 ∧ ∃ ad, A = some ad ∧ w.cell? (ad.add (i * 2)) = some (.int .i64 hs[i].1) ∧ w.cell? (ad.add (i * 2 + 1)) = some (hdV hs[i]) := by
    intro k
    induction k with
    | zero => intro _; exact ⟨[], rfl, fun i hi => by omega⟩
    | succ k ih =>
      intro hk
      obtain ⟨hs, hl, hh⟩ := ih (by omega)
      obtain ⟨ad, A1, c1, rfl, h1, h2, h3⟩ := h.at k (by omega)
      refine ⟨hs ++ [(fs[k].1, A1, fs[k].2.length, c1)], by simp [hl], fun i hi hl' hf => ?_⟩
      rcases Nat.lt_or_ge i k with h4 | h4
      · have := hh i h4 (by omega) hf
        rw [List.getElem_append_left (by omega)]
        exact this
      · obtain rfl : i = k := by omega
        have e0 : (hs ++ [(fs[i].1, A1, fs[i].2.length, c1)])[i]'hl' = (fs[i].1, A1, fs[i].2.length, c1) := by rw [List.getElem_append_right (by omega)]; simp [hl]
        rw [e0]
        exact ⟨rfl, rfl, h3, ad, rfl, h1, by rw [add_field _ _ 1 (by omega)]; exact h2⟩
  obtain ⟨hs, hl, hh⟩ := key fs.length (Nat.le_refl _)
  refine ⟨hs, ⟨by rw [hl]; exact h.1, by rw [hl]; exact h.max, fun j u hu => ?_⟩, ⟨hl, fun i a f ha hf => ?_⟩⟩
  · obtain ⟨i, r, hi, hr, rfl, hv⟩ := flat_div (enc := encH) (sz := 2) (by omega) (fun _ => rfl) hs j u hu
    obtain ⟨_, _, _, ad, e, c0, c1⟩ := hh i (by omega) hi (by omega)
    refine ⟨ad, e, ?_⟩
    match r, hr, hv with
    | 0, _, hv => obtain rfl : Value.int .i64 hs[i].1 = u := Option.some.inj hv; exact c0
    | 1, _, hv => obtain rfl : hdV hs[i] = u := Option.some.inj hv; exact c1
  · obtain ⟨hi, rfl⟩ := List.getElem?_eq_some_iff.1 ha
    obtain ⟨hj, rfl⟩ := List.getElem?_eq_some_iff.1 hf
    obtain ⟨e1, e2, e3, _⟩ := hh i (by omega) hi hj
    exact ⟨e1, e2, e3⟩
theorem Reads.take {w : World} {hs : List Hdr} {fs : List Fct} (h : Reads w hs fs) (k : Nat) : Reads w (hs.take k) (fs.take k) := ⟨by rw [List.length_take, List.length_take, h.len], fun i a f ha hf => by
  rw [List.getElem?_take] at ha hf
  split at ha
  · rename_i hk; rw [if_pos hk] at hf; exact h.at_ i a f ha hf
  · cases ha⟩
theorem Reads.drop {w : World} {hs : List Hdr} {fs : List Fct} (h : Reads w hs fs) (k : Nat) : Reads w (hs.drop k) (fs.drop k) := ⟨by rw [List.length_drop, List.length_drop, h.len], fun i a f ha hf => by
  rw [List.getElem?_drop] at ha hf
  exact h.at_ _ a f ha hf⟩
theorem Reads.append {w : World} {hs hs' : List Hdr} {fs fs' : List Fct} (h : Reads w hs fs) (h' : Reads w hs' fs') : Reads w (hs ++ hs') (fs ++ fs') := ⟨by rw [List.length_append, List.length_append, h.len, h'.len], fun i a f ha hf => by
  have hl := h.len
  rcases Nat.lt_or_ge i hs.length with hi | hi
  · rw [List.getElem?_append_left hi] at ha
    rw [List.getElem?_append_left (by omega)] at hf
    exact h.at_ i a f ha hf
  · rw [List.getElem?_append_right hi] at ha
    rw [List.getElem?_append_right (by omega), ← hl] at hf
    exact h'.at_ _ a f ha hf⟩
/-- Some of the facts whose rows lie apart. -/
theorem Sep.sub {w : World} {lo : Nat} {hs : List Hdr} {fs : List Fct} (h : Sep w lo hs fs) {qs : List (Hdr × Fct)} (hq : qs.Sublist (hs.zip fs)) : Sep w lo (qs.map Prod.fst) (qs.map Prod.snd) := by
  have hl := h.len
  have hmem : ∀ p ∈ qs, ∃ i, hs[i]? = some p.1 ∧ fs[i]? = some p.2 := fun p hp => by
    obtain ⟨i, hi, e⟩ := List.getElem_of_mem (hq.subset hp)
    rw [List.getElem_zip] at e
    have hi' : i < hs.length := by rw [List.length_zip] at hi; omega
    exact ⟨i, by rw [List.getElem?_eq_getElem hi', ← e], by rw [List.getElem?_eq_getElem (by omega), ← e]⟩
  have hpw : (hs.zip fs).Pairwise fun p q => ∀ k, (hdV p.1).ownBlock = some k → (hdV q.1).ownBlock ≠ some k := by
    rw [List.pairwise_iff_getElem]
    intro i j hi hj hij k h1 h2
    rw [List.getElem_zip] at h1 h2
    have hi' : i < hs.length := by rw [List.length_zip] at hi; omega
    have hj' : j < hs.length := by rw [List.length_zip] at hj; omega
    have := h.apart i j _ _ k (List.getElem?_eq_getElem hi') (List.getElem?_eq_getElem hj') h1 h2
    omega
  have hpq := hpw.sublist hq
  refine ⟨by simp, fun i a f ha hf => ?_, fun i j a b k ha hb h1 h2 => ?_⟩
  · rw [List.getElem?_map] at ha hf
    obtain ⟨p, hp, rfl⟩ := Option.map_eq_some_iff.1 ha
    rw [hp] at hf
    obtain rfl : p.2 = f := Option.some.inj hf
    obtain ⟨m, e1, e2⟩ := hmem p (List.mem_of_getElem? hp)
    exact h.at_ m _ _ e1 e2
  · rw [List.getElem?_map] at ha hb
    obtain ⟨p, hp, rfl⟩ := Option.map_eq_some_iff.1 ha
    obtain ⟨q, hq', rfl⟩ := Option.map_eq_some_iff.1 hb
    obtain ⟨hi, rfl⟩ := List.getElem?_eq_some_iff.1 hp
    obtain ⟨hj, rfl⟩ := List.getElem?_eq_some_iff.1 hq'
    rcases Nat.lt_trichotomy i j with c | c | c
    · exact absurd h2 (List.pairwise_iff_getElem.1 hpq i j hi hj c k h1)
    · exact c
    · exact absurd h1 (List.pairwise_iff_getElem.1 hpq j i hj hi c k h2)
theorem Sep.erase {w : World} {lo : Nat} {hs : List Hdr} {fs : List Fct} (h : Sep w lo hs fs) (k : Nat) : Sep w lo (hs.take k ++ hs.drop (k + 1)) (fs.take k ++ fs.drop (k + 1)) := by
  have hq : ((hs.zip fs).take k ++ (hs.zip fs).drop (k + 1)).Sublist (hs.zip fs) := by
    rw [← List.eraseIdx_eq_take_drop_succ]; exact List.eraseIdx_sublist ..
  have := h.sub hq
  rw [List.map_append, List.map_append, List.map_take, List.map_take, List.map_drop, List.map_drop, List.map_fst_zip (by rw [h.len]; exact Nat.le_refl _), List.map_snd_zip (by rw [h.len]; exact Nat.le_refl _)] at this
  exact this
theorem OIn.on {W w : World} {lo : Nat} {v : Value} {rs : List Rel} {fs : List Fct} (h : OIn W lo v rs fs) (hb : On W w) : OIn w lo v rs fs := by
  obtain ⟨vr, vf, hs, e, hR, hH, hS⟩ := h.out
  exact ⟨vr, vf, hs, e, pw_own_below hR hb, pw_own_below hH hb, hS.on hb⟩
theorem OIn.set {W : World} {lo : Nat} {v : Value} {rs : List Rel} {fs : List Fct} (h : OIn W lo v rs fs) {p : Addr} (hp : p.block < lo) (u : Value) : OIn (W.setCell p u) lo v rs fs := by
  obtain ⟨vr, vf, hs, e, hR, hH, hS⟩ := h.out
  exact ⟨vr, vf, hs, e, ownsRow_setCell_below hR hp u, ownsRow_setCell_below hH hp u, hS.set hp u⟩
theorem OIn.lower {w : World} {lo lo' : Nat} {v : Value} {rs : List Rel} {fs : List Fct} (h : OIn w lo v rs fs) (hl : lo' ≤ lo) : OIn w lo' v rs fs := by
  obtain ⟨vr, vf, hs, e, hR, hH, hS⟩ := h.out
  exact ⟨vr, vf, hs, e, own_lower hR hl, own_lower hH hl, hS.lower hl⟩
/-! Appends, cell by cell. -/
section
variable {ops : Array Oper} {rest : List Oper} {o : Oper} {a : Act} {Q : Exit → Act → World → Prop} {W : World}
theorem ap_none (N : Tmp) {e sz bytes t c base n : Nat} {z v : Value} {xs : List Value} {s x : Operand} (ht : Tryz.prog.underlying t = some (.slice e)) (hinfo : (Tryz.prog.info? e).map (fun i => (i.zero, i.size, i.bytes)) = some (some z, sz, bytes)) (HO : W.ownsRow base e sz v n xs)
    (h : wpList Tryz.prog ops Q rest (a.put (some N) v) W)
    (hop : o.op = .call { callee := .builtin .append, args := #[s, x], argTypes := #[t, t] }) (hd : o.dst = some N) (hg : o.guard = none) (hs : a.eval s = v) (hx : a.eval x = .slice none 0 c) : wpList Tryz.prog ops Q (o :: rest) a W := by
  obtain ⟨i0, hi, hzz⟩ := Option.map_eq_some_iff.1 hinfo
  have hr : (Builtin.append_ #[t, t] o.type #[v, .slice none 0 c]).run Tryz.prog W = .ok v W := by
    rcases HO.2 with ⟨rfl, hn⟩ | ⟨g, cap, cur, rfl, _, _, hnc, _⟩
    · simp [Builtin.append_, run_underlying ht, sizeOf, typeInfo, hi, Builtin.lenOf, Builtin.firstCells]
    · simp [Builtin.append_, run_underlying ht, sizeOf, typeInfo, hi, Builtin.lenOf, Builtin.firstCells, hnc, storeCells]
  refine wpList_plain hg fun K hK => ?_
  unfold Oper.wp execOp
  simp only [hop, resolve, invoke, builtin, Sem.run_bind, Sem.run_pure, Result.andThen_ok, List.map_toArray, List.map_cons, List.map_nil, hs, hx, hr]
  refine hK _ _ ?_
  rw [hd]; exact h
/-- append of headers that are read onto headers of one's own. -/
theorem apH (N : Tmp) {s x : Operand} {v : Value} {A : Option Addr} {c base : Nat} {xs ys zs : List Hdr} (hz : xs ++ ys = zs)
    (HO : OH W base v xs) (HR : RH W A c ys) (hbase : base ≤ W.heap.size) (hl : xs.length + ys.length ≤ 1000000000)
    (h : ∀ v1 w1, OH w1 base v1 zs → W.grownBy w1 v.ownBlock → wpList Tryz.prog ops Q rest (a.put (some N) v1) w1)
    (hop : o.op = .call { callee := .builtin .append, args := #[s, x], argTypes := #[25, 25] } := by rfl)
    (hd : o.dst = some N := by rfl) (hg : o.guard = none := by rfl) (hs : a.eval s = v := by rfl) (hx : a.eval x = .slice A ys.length c := by rfl) : wpList Tryz.prog ops Q (o :: rest) a W := by
  subst hz
  obtain ⟨i0, hi, hzz⟩ := Option.map_eq_some_iff.1 infoF
  simp only [Prod.mk.injEq] at hzz
  obtain ⟨hz0, hz1, hz2⟩ := hzz
  have hnil : ys = [] → wpList Tryz.prog ops Q (o :: rest) a W := by
    rintro rfl
    rw [List.append_nil] at h
    cases A with
    | none => exact ap_none N Tryz.underlying25 infoF HO (h v W HO (World.grownBy.refl W _)) hop hd hg hs hx
    | some ad =>
      refine wpList_append_own_at W hg s x 25 hop base 30 i0 _ 2 32 Tryz.underlying25 hi hz0 hz1 hz2 rfl (by omega) v xs.length _ hs HO ad 0 c [] hx rfl (by simp) (by simp) (by simp at hl; simp [maxLen]; omega) (by simp at hl; omega) hbase fun v1 w1 h1 h2 _ _ => ?_
      rw [hd]
      exact h v1 w1 (by simpa using h1) h2
  cases A with
  | none =>
    refine hnil ?_
    cases ys with
    | nil => rfl
    | cons y ys => obtain ⟨_, e, _⟩ := HR.cell 0 _ rfl; cases e
  | some ad =>
    refine wpList_append_own_at W hg s x 25 hop base 30 i0 _ 2 32 Tryz.underlying25 hi hz0 hz1 hz2 rfl (by omega) v xs.length _ hs HO ad ys.length c (ys.flatMap encH) hx (flat_len (enc := encH) (sz := 2) (fun _ => rfl) ys) (fun j u hu => ?_) (fun u hu => ?_) (by simp [maxLen]; omega) (by omega) hbase fun v1 w1 h1 h2 _ _ => ?_
    · obtain ⟨ad', e, hc⟩ := HR.cell j u hu
      injection e with e; subst e; exact hc
    · obtain ⟨y, _, hy⟩ := List.mem_flatMap.1 hu
      simp only [List.mem_cons, List.not_mem_nil, or_false] at hy
      rcases hy with rfl | rfl <;> rfl
    · rw [hd]
      refine h v1 w1 ?_ h2
      have e : (xs ++ ys).flatMap encH = xs.flatMap encH ++ ys.flatMap encH := List.flatMap_append
      show World.ownsRow _ _ _ _ _ (xs ++ ys).length _
      rw [e, List.length_append]
      exact h1
/-- The same at relations. -/
theorem apR (N : Tmp) {s x : Operand} {v : Value} {A : Option Addr} {c base : Nat} {xs ys zs : List Rel} (hz : xs ++ ys = zs)
    (HO : OR W base v xs) (HR : Rels W A c ys) (hbase : base ≤ W.heap.size) (hl : xs.length + ys.length ≤ 1000000000)
    (h : ∀ v1 w1, OR w1 base v1 zs → W.grownBy w1 v.ownBlock → wpList Tryz.prog ops Q rest (a.put (some N) v1) w1)
    (hop : o.op = .call { callee := .builtin .append, args := #[s, x], argTypes := #[24, 24] } := by rfl)
    (hd : o.dst = some N := by rfl) (hg : o.guard = none := by rfl) (hs : a.eval s = v := by rfl) (hx : a.eval x = .slice A ys.length c := by rfl) : wpList Tryz.prog ops Q (o :: rest) a W := by
  subst hz
  obtain ⟨i0, hi, hzz⟩ := Option.map_eq_some_iff.1 infoR
  simp only [Prod.mk.injEq] at hzz
  obtain ⟨hz0, hz1, hz2⟩ := hzz
  cases A with
  | none =>
    obtain rfl : ys = [] := by
      cases ys with
      | nil => rfl
      | cons y ys => obtain ⟨_, e, _⟩ := HR.at 0 (by simp); cases e
    rw [List.append_nil] at h
    exact ap_none N Tryz.underlying24 infoR HO (h v W HO (World.grownBy.refl W _)) hop hd hg hs hx
  | some ad =>
    refine wpList_append_own_at W hg s x 24 hop base 81 i0 _ 3 32 Tryz.underlying24 hi hz0 hz1 hz2 rfl (by omega) v xs.length _ hs HO ad ys.length c (ys.flatMap encR) hx (flat_len (enc := encR) (sz := 3) (fun _ => rfl) ys) (fun j u hu => ?_) (fun u hu => ?_) (by simp [maxLen]; omega) (by omega) hbase fun v1 w1 h1 h2 _ _ => ?_
    · obtain ⟨i, r, hi, hr, rfl, hv⟩ := flat_div (enc := encR) (sz := 3) (by omega) (fun _ => rfl) ys j u hu
      obtain ⟨ad', e, c0, c1, c2⟩ := HR.at i hi
      injection e with e; subst e
      match r, hr with
      | 0, _ => obtain rfl : Value.string ys[i].1 = u := Option.some.inj hv; exact c0
      | 1, _ => obtain rfl : Value.int .i64 ys[i].2.1 = u := Option.some.inj hv; rw [add_field _ _ 1 (by omega)]; exact c1
      | 2, _ => obtain rfl : Value.bool ys[i].2.2 = u := Option.some.inj hv; rw [add_field _ _ 2 (by omega)]; exact c2
    · obtain ⟨y, _, hy⟩ := List.mem_flatMap.1 hu
      simp only [List.mem_cons, List.not_mem_nil, or_false] at hy
      rcases hy with rfl | rfl | rfl <;> rfl
    · rw [hd]
      refine h v1 w1 ?_ h2
      have e : (xs ++ ys).flatMap encR = xs.flatMap encR ++ ys.flatMap encR := List.flatMap_append
      show World.ownsRow _ _ _ _ _ (xs ++ ys).length _
      rw [e, List.length_append]
      exact h1
end
/-! Appends onto a row that is full (a literal): nothing old is written. -/
theorem run_append_full {P : Program} (w : World) (base : Nat) (t ty e : TypeId) (i : TypeInfo) (z : Value) (size bytes : Nat) (ht : P.underlying t = some (.slice e)) (hi : P.info? e = some i) (hz : i.zero = some z)
    (hsize : i.size = size) (hby : i.bytes = bytes) (hzs : z.cells.size = size) (hsz : 0 < size)
    (g n : Nat) (xs : List Value) (hown : w.ownsRow base e size (.slice (some ⟨g, 0, none⟩) n n) n xs)
    (a : Addr) (m c : Nat) (news : List Value) (hl : news.length = m * size) (hnews : ∀ j u, news[j]? = some u → w.cell? (a.add j) = some u) (h1 : ∀ u ∈ news, u.oneCell' = true)
    (h63 : n + m ≤ maxLen) (hbytes : (n + m) * bytes ≤ 140737488355328) (hbase : base ≤ w.heap.size) :
    ∃ v' w', (Builtin.append_ #[t, t] ty #[.slice (some ⟨g, 0, none⟩) n n, .slice (some a) m c]).run P w = .ok v' w' ∧ w'.ownsRow base e size v' (n + m) (xs ++ news) ∧ w.grownBy w' none := by
  subst hsize
  subst hby
  by_cases hm : m = 0
  · subst hm
    obtain rfl : news = [] := List.eq_nil_of_length_eq_zero (by simpa using hl)
    refine ⟨_, w, ?_, by simpa using hown, World.grownBy.refl w _⟩
    simp [Builtin.append_, run_underlying ht, sizeOf, typeInfo, hi, Builtin.lenOf, Builtin.firstCells, loadCells, loadCellsFrom, storeCells]
  · have hsmall : n + m ≤ 9223372036854775807 := by simp only [maxLen] at h63; omega
    have holds : ∀ j u, xs[j]? = some u → w.cell? ((⟨g, 0, none⟩ : Addr).add j) = some u := hown.cells (g := g) rfl
    have hr := run_append_grow (P := P) w t ty e i z ht hi hz ⟨g, 0, none⟩ n n xs hown.1 holds a m c news hl hnews (by omega) (by omega) (growslice_fits (by omega) hbytes)
    have hge := grownCap_ge w (n + m) n e
    have hcm : grownCap w (n + m) n e ≤ maxLen := grownCap_le_maxLen w (n + m) n e h63
    have hlen : (xs ++ news).length = (n + m) * i.size := by rw [List.length_append, hown.1, hl, Nat.add_mul]
    refine ⟨_, _, hr, ⟨hlen, .inr ⟨w.heap.size, _, _, rfl, hbase, heap_alloc_new w.drew _, hge, hcm, ?_, ?_⟩⟩, ⟨rfl, rfl, rfl, by simp, fun k hk _ => Below.heap_alloc w.drew _ k hk⟩⟩
    · simp only [Array.size_append, List.size_toArray, size_zeroCells, hzs, hown.1, hl, ← Nat.add_mul]
      congr 1
      omega
    · simp only [Array.toList_append, List.append_assoc]
      rw [← List.append_assoc, ← hlen]
      exact List.take_left
section
variable {ops : Array Oper} {rest : List Oper} {o : Oper} {a : Act} {Q : Exit → Act → World → Prop} {W : World}
theorem apFull (N : Tmp) {e sz bytes t c base n g m : Nat} {z : Value} {xs news : List Value} {A : Option Addr} {s x : Operand} (ht : Tryz.prog.underlying t = some (.slice e)) (hinfo : (Tryz.prog.info? e).map (fun i => (i.zero, i.size, i.bytes)) = some (some z, sz, bytes)) (hzs : z.cells.size = sz) (hsz : 0 < sz) (HO : W.ownsRow base e sz (.slice (some ⟨g, 0, none⟩) n n) n xs)
    (hl : news.length = m * sz) (hnews : ∀ j u, news[j]? = some u → ∃ ad, A = some ad ∧ W.cell? (ad.add j) = some u) (h1 : ∀ u ∈ news, u.oneCell' = true) (hb : (n + m) * bytes ≤ 140737488355328) (hnm : n + m ≤ 9223372036854775807) (hbase : base ≤ W.heap.size)
    (h : ∀ v1 w1, w1.ownsRow base e sz v1 (n + m) (xs ++ news) → On W w1 → wpList Tryz.prog ops Q rest (a.put (some N) v1) w1)
    (hop : o.op = .call { callee := .builtin .append, args := #[s, x], argTypes := #[t, t] }) (hd : o.dst = some N) (hg : o.guard = none) (hs : a.eval s = .slice (some ⟨g, 0, none⟩) n n) (hx : a.eval x = .slice A m c) : wpList Tryz.prog ops Q (o :: rest) a W := by
  cases A with
  | none =>
    obtain rfl : m = 0 := by
      rcases Nat.eq_zero_or_pos m with h0 | h0
      · exact h0
      · have hp : 0 < news.length := by rw [hl]; exact Nat.mul_pos h0 hsz
        obtain ⟨_, e, _⟩ := hnews 0 _ (List.getElem?_eq_getElem hp)
        cases e
    obtain rfl : news = [] := List.eq_nil_of_length_eq_zero (by simpa using hl)
    exact ap_none N ht hinfo HO (h _ W (by simpa using HO) (On.refl _)) hop hd hg hs hx
  | some ad =>
    obtain ⟨i0, hi, hzz⟩ := Option.map_eq_some_iff.1 hinfo
    simp only [Prod.mk.injEq] at hzz
    obtain ⟨hz0, hz1, hz2⟩ := hzz
    obtain ⟨v', w', hr, h2, h3⟩ := run_append_full (P := Tryz.prog) W base t o.type e i0 z sz bytes ht hi hz0 hz1 hz2 hzs hsz g n xs HO ad m c news hl (fun j u hu => by obtain ⟨ad', e, hc⟩ := hnews j u hu; injection e with e; subst e; exact hc) h1 (by simp only [maxLen]; omega) hb hbase
    refine wpList_plain hg fun K hK => ?_
    unfold Oper.wp execOp
    simp only [hop, resolve, invoke, builtin, Sem.run_bind, Sem.run_pure, Result.andThen_ok, List.map_toArray, List.map_cons, List.map_nil, hs, hx, hr]
    refine hK _ _ ?_
    rw [hd]
    exact h v' w' h2 (on_grown (On.refl _) h3 fun k hk => by cases hk)
theorem apHf (N : Tmp) {s x : Operand} {A : Option Addr} {c base g n : Nat} {xs ys zs : List Hdr} (hz : xs ++ ys = zs) (HO : OH W base (.slice (some ⟨g, 0, none⟩) n n) xs) (hn : xs.length = n) (HR : RH W A c ys) (hbase : base ≤ W.heap.size) (hl : n + ys.length ≤ 1000000000)
    (h : ∀ v1 w1, OH w1 base v1 zs → On W w1 → wpList Tryz.prog ops Q rest (a.put (some N) v1) w1)
    (hop : o.op = .call { callee := .builtin .append, args := #[s, x], argTypes := #[25, 25] } := by rfl)
    (hd : o.dst = some N := by rfl) (hg : o.guard = none := by rfl) (hs : a.eval s = .slice (some ⟨g, 0, none⟩) n n := by rfl) (hx : a.eval x = .slice A ys.length c := by rfl) : wpList Tryz.prog ops Q (o :: rest) a W := by
  subst hz hn
  refine apFull N Tryz.underlying25 infoF rfl (by omega) HO (flat_len (enc := encH) (sz := 2) (fun _ => rfl) ys) HR.cell (fun u hu => ?_) (by omega) (by omega) hbase (fun v1 w1 h1 h2 => h v1 w1 ?_ h2) hop hd hg hs hx
  · obtain ⟨y, _, hy⟩ := List.mem_flatMap.1 hu
    simp only [List.mem_cons, List.not_mem_nil, or_false] at hy
    rcases hy with rfl | rfl <;> rfl
  · show World.ownsRow _ _ _ _ _ (xs ++ ys).length _
    rw [show (xs ++ ys).flatMap encH = xs.flatMap encH ++ ys.flatMap encH from List.flatMap_append, List.length_append]
    exact h1
theorem apRf (N : Tmp) {s x : Operand} {A : Option Addr} {c base g n : Nat} {xs ys zs : List Rel} (hz : xs ++ ys = zs) (HO : OR W base (.slice (some ⟨g, 0, none⟩) n n) xs) (hn : xs.length = n) (HR : Rels W A c ys) (hbase : base ≤ W.heap.size) (hl : n + ys.length ≤ 1000000000)
    (h : ∀ v1 w1, OR w1 base v1 zs → On W w1 → wpList Tryz.prog ops Q rest (a.put (some N) v1) w1)
    (hop : o.op = .call { callee := .builtin .append, args := #[s, x], argTypes := #[24, 24] } := by rfl)
    (hd : o.dst = some N := by rfl) (hg : o.guard = none := by rfl) (hs : a.eval s = .slice (some ⟨g, 0, none⟩) n n := by rfl) (hx : a.eval x = .slice A ys.length c := by rfl) : wpList Tryz.prog ops Q (o :: rest) a W := by
  subst hz hn
  refine apFull N Tryz.underlying24 infoR rfl (by omega) HO (flat_len (enc := encR) (sz := 3) (fun _ => rfl) ys) (fun j u hu => ?_) (fun u hu => ?_) (by omega) (by omega) hbase (fun v1 w1 h1 h2 => h v1 w1 ?_ h2) hop hd hg hs hx
  · obtain ⟨i, r, hi, hr, rfl, hv⟩ := flat_div (enc := encR) (sz := 3) (by omega) (fun _ => rfl) ys j u hu
    obtain ⟨ad', e, c0, c1, c2⟩ := HR.at i hi
    refine ⟨ad', e, ?_⟩
    match r, hr, hv with
    | 0, _, hv => obtain rfl : Value.string ys[i].1 = u := Option.some.inj hv; exact c0
    | 1, _, hv => obtain rfl : Value.int .i64 ys[i].2.1 = u := Option.some.inj hv; rw [add_field _ _ 1 (by omega)]; exact c1
    | 2, _, hv => obtain rfl : Value.bool ys[i].2.2 = u := Option.some.inj hv; rw [add_field _ _ 2 (by omega)]; exact c2
  · obtain ⟨y, _, hy⟩ := List.mem_flatMap.1 hu
    simp only [List.mem_cons, List.not_mem_nil, or_false] at hy
    rcases hy with rfl | rfl | rfl <;> rfl
  · show World.ownsRow _ _ _ _ _ (xs ++ ys).length _
    rw [show (xs ++ ys).flatMap encR = xs.flatMap encR ++ ys.flatMap encR from List.flatMap_append, List.length_append]
    exact h1
theorem apIf (N : Tmp) {s x : Operand} {A : Option Addr} {c base g n : Nat} {xs ys zs : List Int} (hz : xs ++ ys = zs) (HO : OI W base (.slice (some ⟨g, 0, none⟩) n n) xs) (hn : xs.length = n) (HR : Ints W A c ys) (hbase : base ≤ W.heap.size) (hl : n + ys.length ≤ 10000000000)
    (h : ∀ v1 w1, OI w1 base v1 zs → On W w1 → wpList Tryz.prog ops Q rest (a.put (some N) v1) w1)
    (hop : o.op = .call { callee := .builtin .append, args := #[s, x], argTypes := #[28, 28] } := by rfl)
    (hd : o.dst = some N := by rfl) (hg : o.guard = none := by rfl) (hs : a.eval s = .slice (some ⟨g, 0, none⟩) n n := by rfl) (hx : a.eval x = .slice A ys.length c := by rfl) : wpList Tryz.prog ops Q (o :: rest) a W := by
  subst hz hn
  refine apFull N Tryz.underlying28 infoI rfl (by omega) HO (flat_len (enc := encI) (sz := 1) (fun _ => rfl) ys) (fun j u hu => ?_) (fun u hu => ?_) (by omega) (by omega) hbase (fun v1 w1 h1 h2 => h v1 w1 ?_ h2) hop hd hg hs hx
  · obtain ⟨i, r, hi, hr, rfl, hv⟩ := flat_div (enc := encI) (sz := 1) (by omega) (fun _ => rfl) ys j u hu
    obtain ⟨ad', e, c0⟩ := HR.at i hi
    refine ⟨ad', e, ?_⟩
    obtain rfl : r = 0 := by omega
    obtain rfl : Value.int .i64 ys[i] = u := Option.some.inj hv
    rw [show i * 1 + 0 = i by omega]; exact c0
  · obtain ⟨y, _, hy⟩ := List.mem_flatMap.1 hu
    simp only [List.mem_cons, List.not_mem_nil, or_false] at hy
    rcases hy with rfl; rfl
  · show World.ownsRow _ _ _ _ _ (xs ++ ys).length _
    rw [show (xs ++ ys).flatMap encI = xs.flatMap encI ++ ys.flatMap encI from List.flatMap_append, List.length_append]
    exact h1
end
/-- Literals. -/
theorem lit_own (W : World) (cs : Array Value) (e sz n lo : Nat) (hlo : lo ≤ W.heap.size) (hn : n ≤ 1000000) (hs : cs.size = n * sz) : (W.alloc (.cells cs e (0, 0))).ownsRow lo e sz (.slice (some ⟨W.heap.size, 0, none⟩) n n) n cs.toList :=
  World.ownsRow_lit W cs n hlo (by simp [maxLen]; omega) hs
theorem lit_own' (g : Nat) (W : World) (hg : g = W.heap.size) (cs : Array Value) (e sz n lo : Nat) (hlo : lo ≤ W.heap.size) (hn : n ≤ 1000000) (hs : cs.size = n * sz) : (W.alloc (.cells cs e (0, 0))).ownsRow lo e sz (.slice (some ⟨g, 0, none⟩) n n) n cs.toList := by
  subst hg; exact lit_own W cs e sz n lo hlo hn hs
theorem lit_H (W : World) (r : Int) (A : Option Addr) (n c : Nat) : OH (W.alloc (.cells #[.int .i64 r, .slice A n c] 30 (0, 0))) W.heap.size (.slice (some ⟨W.heap.size, 0, none⟩) 1 1) [(r, A, n, c)] :=
  lit_own W #[.int .i64 r, .slice A n c] 30 2 1 W.heap.size (Nat.le_refl _) (by omega) rfl
theorem lit_RH {W w : World} {r : Int} {A : Option Addr} {n c : Nat} (hb : On (W.alloc (.cells #[.int .i64 r, .slice A n c] 30 (0, 0))) w) : RH w (some ⟨W.heap.size, 0, none⟩) 1 [(r, A, n, c)] :=
  (OH.rh (n := 1) (pw_own_below (lit_H W r A n c) hb)).2
theorem own_grows {w W w1 : World} {lo e sz n : Nat} {v : Value} {cs : List Value} (h : On w W) (hO : W.ownsRow lo e sz v n cs) (hg : W.grownBy w1 v.ownBlock) (hlo : w.heap.size ≤ lo) : On w w1 :=
  on_grown h hg fun k hk => Nat.le_trans hlo (own_base hO k hk)
end Go.Proofs.YtngjhblbpapjeaaGreat.H
/- Facts in order: compared, found, laid in, taken out. Plain. No condition. -/
namespace Go.Proofs.YtngjhblbpapjeaaGreat.H
open Go Go.RowKit Go.Proofs.YtngjhblbpapjeaaGreatW.PrintWords Go.Proofs.YtngjhblbpapjeaaGreatW.PrintLast
set_option linter.unusedVariables false
set_option linter.unusedSimpArgs false

theorem ints_eq : ∀ a b : List Int, ints a b = 0 ↔ a = b
  | [], [] => by simp [ints]
  | [], _ :: _ => by simp [ints]
  | _ :: _, [] => by simp [ints]
  | x :: a, y :: b => by
    have ih := ints_eq a b
    unfold ints
    by_cases h1 : x < y
    · rw [if_pos h1]; constructor
      · intro h; omega
      · intro h; injection h with h _; omega
    · rw [if_neg h1]
      by_cases h2 : y < x
      · rw [if_pos h2]; constructor
        · intro h; omega
        · intro h; injection h with h _; omega
      · rw [if_neg h2, ih, List.cons.injEq]
        constructor
        · intro h; exact ⟨by omega, h⟩
        · intro h; exact h.2
theorem ints_neg : ∀ a b : List Int, ints b a = - ints a b
  | [], [] => rfl
  | [], _ :: _ => rfl
  | _ :: _, [] => rfl
  | x :: a, y :: b => by
    have ih := ints_neg a b
    unfold ints
    by_cases h1 : x < y
    · have h2 : ¬ y < x := by omega
      simp [h1, h2]
    · by_cases h2 : y < x
      · simp [h1, h2]
      · simp [h1, h2, ih]
theorem ints_trans : ∀ a b c : List Int, ints a b < 0 → ints b c < 0 → ints a c < 0
  | [], [], _, h, _ => by simp [ints] at h
  | [], _ :: _, [], _, h => by simp [ints] at h
  | [], _ :: _, _ :: _, _, _ => by simp [ints]
  | _ :: _, [], _, h, _ => by simp [ints] at h
  | _ :: _, _ :: _, [], _, h => by simp [ints] at h
  | x :: a, y :: b, z :: c, h1, h2 => by
    have ih := ints_trans a b c
    unfold ints at h1 h2 ⊢
    by_cases e1 : x < y
    · by_cases e2 : y < z
      · rw [if_pos (by omega)]; omega
      · rw [if_neg e2] at h2
        by_cases e3 : z < y
        · rw [if_pos e3] at h2; omega
        · rw [if_pos (by omega)]; omega
    · rw [if_neg e1] at h1
      by_cases e1' : y < x
      · rw [if_pos e1'] at h1; omega
      · rw [if_neg e1'] at h1
        by_cases e2 : y < z
        · rw [if_pos (by omega)]; omega
        · rw [if_neg e2] at h2
          by_cases e3 : z < y
          · rw [if_pos e3] at h2; omega
          · rw [if_neg e3] at h2
            rw [if_neg (by omega), if_neg (by omega)]
            exact ih h1 h2
theorem cmpF_eq (f g : Fct) : cmpF f g = 0 ↔ f = g := by
  rcases f with ⟨a, x⟩; rcases g with ⟨b, y⟩
  simp only [cmpF, Prod.mk.injEq]
  by_cases h1 : a < b
  · rw [if_pos h1]; constructor
    · intro h; omega
    · intro h; omega
  · rw [if_neg h1]
    by_cases h2 : b < a
    · rw [if_pos h2]; constructor
      · intro h; omega
      · intro h; omega
    · rw [if_neg h2, ints_eq]
      constructor
      · intro h; exact ⟨by omega, h⟩
      · intro h; exact h.2
theorem cmpF_self (f : Fct) : cmpF f f = 0 := (cmpF_eq f f).2 rfl
theorem cmpF_neg (f g : Fct) : cmpF g f = - cmpF f g := by
  unfold cmpF
  by_cases h1 : f.1 < g.1
  · have h2 : ¬ g.1 < f.1 := by omega
    simp [h1, h2]
  · by_cases h2 : g.1 < f.1
    · simp [h1, h2]
    · simp [h1, h2, ints_neg f.2 g.2]
theorem cmpF_trans (f g h : Fct) (h1 : cmpF f g < 0) (h2 : cmpF g h < 0) : cmpF f h < 0 := by
  unfold cmpF at *
  by_cases e1 : f.1 < g.1
  · by_cases e2 : g.1 < h.1
    · rw [if_pos (by omega)]; omega
    · rw [if_neg e2] at h2
      by_cases e3 : h.1 < g.1
      · rw [if_pos e3] at h2; omega
      · rw [if_pos (by omega)]; omega
  · rw [if_neg e1] at h1
    by_cases e1' : g.1 < f.1
    · rw [if_pos e1'] at h1; omega
    · rw [if_neg e1'] at h1
      by_cases e2 : g.1 < h.1
      · rw [if_pos (by omega)]; omega
      · rw [if_neg e2] at h2
        by_cases e3 : h.1 < g.1
        · rw [if_pos e3] at h2; omega
        · rw [if_neg e3] at h2
          rw [if_neg (by omega), if_neg (by omega)]
          exact ints_trans _ _ _ h1 h2
/-- Ascending, each once. -/
abbrev Asc (l : List Fct) : Prop := l.Pairwise fun f g => cmpF f g < 0
theorem asc_ext : ∀ a b : List Fct, Asc a → Asc b → (∀ x, x ∈ a ↔ x ∈ b) → a = b
  | [], [], _, _, _ => rfl
  | [], y :: b, _, _, h => absurd ((h y).2 (by simp)) (by simp)
  | x :: a, [], _, _, h => absurd ((h x).1 (by simp)) (by simp)
  | x :: a, y :: b, ha, hb, h => by
    rw [Asc, List.pairwise_cons] at ha hb
    have e : x = y := by
      rcases List.mem_cons.1 ((h x).1 (by simp)) with e | hx
      · exact e
      · rcases List.mem_cons.1 ((h y).2 (by simp)) with e | hy
        · exact e.symm
        · have h1 := hb.1 x hx
          have h2 := ha.1 y hy
          rw [cmpF_neg] at h1; omega
    subst e
    rw [asc_ext a b ha.2 hb.2 (fun z => ?_)]
    constructor
    · intro hz
      rcases List.mem_cons.1 ((h z).1 (List.mem_cons_of_mem _ hz)) with e | hz'
      · have := ha.1 z hz; rw [e, cmpF_self] at this; omega
      · exact hz'
    · intro hz
      rcases List.mem_cons.1 ((h z).2 (List.mem_cons_of_mem _ hz)) with e | hz'
      · have := hb.1 z hz; rw [e, cmpF_self] at this; omega
      · exact hz'
theorem placeFrom_lt (f : Fct) : ∀ (l : List Fct) (i : Nat), (placeFrom f l i = -1 ∧ f ∉ l) ∨ ∃ k, ∃ h : k < l.length, placeFrom f l i = ((i + k : Nat) : Int) ∧ l[k] = f ∧ ∀ j, (hj : j < k) → l[j]'(by omega) ≠ f
  | [], _ => .inl ⟨rfl, by simp⟩
  | g :: l, i => by
    unfold placeFrom
    by_cases h : cmpF g f = 0
    · rw [if_pos h]
      exact .inr ⟨0, by simp, by simp, by simpa using (cmpF_eq g f).1 h, fun j hj => by omega⟩
    · rw [if_neg h]
      have hgf : g ≠ f := fun e => h ((cmpF_eq g f).2 e)
      rcases placeFrom_lt f l (i + 1) with ⟨e, hn⟩ | ⟨k, hk, e, ha, hb⟩
      · exact .inl ⟨e, by simp only [List.mem_cons, not_or]; exact ⟨fun e => hgf e.symm, hn⟩⟩
      · refine .inr ⟨k + 1, by simp; omega, by rw [e]; congr 1; omega, by simpa using ha, fun j hj => ?_⟩
        cases j with
        | zero => simpa using hgf
        | succ j => simpa using hb j (by omega)
theorem place_spec (l : List Fct) (f : Fct) : (place l f = -1 ∧ f ∉ l) ∨ ∃ k, ∃ h : k < l.length, place l f = (k : Int) ∧ l[k] = f ∧ ∀ j, (hj : j < k) → l[j]'(by omega) ≠ f := by
  have := placeFrom_lt f l 0
  simpa [place] using this
def hasF (fs : List Fct) (g : Fct) : Bool := fs.any fun f => cmpF f g == 0
theorem hasF_mem (fs : List Fct) (g : Fct) : hasF fs g = true ↔ g ∈ fs := by
  unfold hasF
  rw [List.any_eq_true]
  constructor
  · rintro ⟨f, hf, h⟩
    rw [beq_iff_eq, cmpF_eq] at h
    exact h ▸ hf
  · intro h; exact ⟨g, h, by rw [cmpF_self]; rfl⟩
theorem hasF_place (fs : List Fct) (g : Fct) : hasF fs g = decide (0 ≤ place fs g) := by
  rcases place_spec fs g with ⟨e, h⟩ | ⟨k, hk, e, h, _⟩
  · rw [e]
    have : hasF fs g = false := by
      cases h2 : hasF fs g with
      | false => rfl
      | true => exact absurd ((hasF_mem fs g).1 h2) h
    rw [this]; rfl
  · rw [e, (hasF_mem fs g).2 (h ▸ List.getElem_mem hk)]
    symm; exact decide_eq_true (by omega)
/-- All but g. -/
def delF (fs : List Fct) (g : Fct) : List Fct := fs.filter fun f => !(cmpF f g == 0)
theorem delF_at (fs : List Fct) (g : Fct) (h : Asc fs) (k : Nat) (hk : k < fs.length) (hg : fs[k] = g) : delF fs g = fs.take k ++ fs.drop (k + 1) := by
  have e := List.take_append_drop k fs
  rw [List.drop_eq_getElem_cons hk, hg] at e
  have h' := h
  rw [← e] at h'
  rw [Asc, List.pairwise_append, List.pairwise_cons] at h'
  obtain ⟨_, ⟨h2, _⟩, h3⟩ := h'
  have e1 : (fs.take k).filter (fun f => !(cmpF f g == 0)) = fs.take k := List.filter_eq_self.2 fun f hf => by
    have := h3 f hf g (by simp)
    simp; omega
  have e2 : (fs.drop (k + 1)).filter (fun f => !(cmpF f g == 0)) = fs.drop (k + 1) := List.filter_eq_self.2 fun f hf => by
    have := h2 f hf
    rw [cmpF_neg] at this
    simp; omega
  unfold delF
  conv => lhs; rw [← e]
  rw [List.filter_append, List.filter_cons_of_neg (by simp [cmpF_self]), e1, e2]
/-- A fact laid into a row that is in order. -/
def putF (l : List Fct) (x : Fct) : List Fct := match l with
  | [] => [x]
  | y :: r => if cmpF y x < 0 then y :: putF r x else if cmpF y x = 0 then y :: r else x :: y :: r
theorem mem_putF (x z : Fct) : ∀ l : List Fct, z ∈ putF l x ↔ z = x ∨ z ∈ l
  | [] => by simp [putF]
  | y :: l => by
    unfold putF
    by_cases c : cmpF y x < 0
    · rw [if_pos c, List.mem_cons, List.mem_cons, mem_putF x z l]
      constructor <;> rintro (h | h | h) <;> simp [h]
    · rw [if_neg c]
      by_cases c2 : cmpF y x = 0
      · rw [if_pos c2]; rw [cmpF_eq] at c2; subst c2; simp
      · rw [if_neg c2]; simp
theorem putF_asc (x : Fct) : ∀ l : List Fct, Asc l → Asc (putF l x)
  | [], _ => by simp [putF, Asc]
  | y :: l, h => by
    rw [Asc, List.pairwise_cons] at h
    unfold putF
    by_cases c : cmpF y x < 0
    · rw [if_pos c, Asc, List.pairwise_cons]
      refine ⟨fun z hz => ?_, putF_asc x l h.2⟩
      rcases (mem_putF x z l).1 hz with rfl | hz
      · exact c
      · exact h.1 z hz
    · rw [if_neg c]
      by_cases c2 : cmpF y x = 0
      · rw [if_pos c2, Asc, List.pairwise_cons]; exact h
      · rw [if_neg c2, Asc, List.pairwise_cons, List.pairwise_cons]
        have hxy : cmpF x y < 0 := by rw [cmpF_neg]; omega
        refine ⟨fun z hz => ?_, h⟩
        rcases List.mem_cons.1 hz with rfl | hz
        · exact hxy
        · exact cmpF_trans _ _ _ hxy (h.1 z hz)
/-- Facts in ascending order, each once. -/
def setF (l : List Fct) : List Fct := l.foldl putF []
theorem foldl_putF (l out : List Fct) (h : Asc out) : Asc (l.foldl putF out) ∧ ∀ x, x ∈ l.foldl putF out ↔ x ∈ out ∨ x ∈ l := by
  induction l generalizing out with
  | nil => exact ⟨h, fun x => by simp⟩
  | cons y l ih =>
    obtain ⟨h1, h2⟩ := ih _ (putF_asc y out h)
    refine ⟨h1, fun x => ?_⟩
    rw [List.foldl_cons, h2, mem_putF, List.mem_cons]
    constructor
    · rintro ((h | h) | h)
      · exact .inr (.inl h)
      · exact .inl h
      · exact .inr (.inr h)
    · rintro (h | h | h)
      · exact .inl (.inr h)
      · exact .inl (.inl h)
      · exact .inr h
theorem setF_spec (l : List Fct) : Asc (setF l) ∧ ∀ x, x ∈ setF l ↔ x ∈ l := by
  have := foldl_putF l [] List.Pairwise.nil
  exact ⟨this.1, fun x => by rw [setF, this.2]; simp⟩
theorem setF_asc (l : List Fct) (h : Asc l) : setF l = l := asc_ext _ _ (setF_spec l).1 h (setF_spec l).2
theorem setF_put (fs : List Fct) (f : Fct) (h : Asc fs) : setF (fs ++ [f]) = putF fs f := by
  unfold setF
  rw [List.foldl_append]
  have := setF_asc fs h
  unfold setF at this
  rw [this]; rfl
theorem putF_has (fs : List Fct) (f : Fct) (h : Asc fs) (hm : f ∈ fs) : putF fs f = fs :=
  asc_ext _ _ (putF_asc f fs h) h fun x => by
    rw [mem_putF]
    constructor
    · rintro (rfl | h)
      · exact hm
      · exact h
    · exact .inr
theorem putF_split (l : List Fct) (x : Fct) (k : Nat) (hk : k ≤ l.length) (hlt : ∀ j, (h : j < k) → cmpF (l[j]'(by omega)) x < 0) : putF l x = l.take k ++ putF (l.drop k) x := by
  induction k generalizing l with
  | zero => simp
  | succ k ih =>
    cases l with
    | nil => simp at hk
    | cons y r =>
      have h0 := hlt 0 (by omega)
      simp only [List.getElem_cons_zero] at h0
      have := ih r (by simpa using hk) (fun j h => by have := hlt (j + 1) (by omega); simpa using this)
      rw [putF, if_pos h0, this]
      simp
theorem putF_at (l : List Fct) (x : Fct) (k : Nat) (hk : k ≤ l.length) (hlt : ∀ j, (h : j < k) → cmpF (l[j]'(by omega)) x < 0) (h1 : ∀ h : k < l.length, ¬ cmpF l[k] x < 0) (hn : x ∉ l) : putF l x = l.take k ++ x :: l.drop k := by
  rw [putF_split l x k hk hlt]
  rcases Nat.lt_or_ge k l.length with hk' | hk'
  · rw [List.drop_eq_getElem_cons hk', putF, if_neg (h1 hk'), if_neg (fun e => hn (by have := (cmpF_eq _ _).1 e; rw [← this]; exact List.getElem_mem hk'))]
  · rw [List.drop_of_length_le hk']; rfl
theorem delF_put (fs : List Fct) (f : Fct) (h : Asc fs) (hn : f ∉ fs) : delF (putF fs f) f = fs := by
  refine asc_ext _ _ ((putF_asc f fs h).sublist List.filter_sublist) h fun x => ?_
  unfold delF
  rw [List.mem_filter, mem_putF]
  simp only [Bool.not_eq_true', beq_eq_false_iff_ne, ne_eq, cmpF_eq]
  constructor
  · rintro ⟨rfl | h, h2⟩
    · exact absurd rfl h2
    · exact h
  · intro hx; exact ⟨.inr hx, fun e => hn (e ▸ hx)⟩
theorem put_delF (fs : List Fct) (f : Fct) (h : Asc fs) (hm : f ∈ fs) : putF (delF fs f) f = fs := by
  refine asc_ext _ _ (putF_asc f _ (h.sublist List.filter_sublist)) h fun x => ?_
  unfold delF
  rw [mem_putF, List.mem_filter]
  simp only [Bool.not_eq_true', beq_eq_false_iff_ne, ne_eq, cmpF_eq]
  constructor
  · rintro (rfl | h)
    · exact hm
    · exact h.1
  · intro hx
    by_cases e : x = f
    · exact .inl e
    · exact .inr ⟨hx, e⟩
end Go.Proofs.YtngjhblbpapjeaaGreat.H
/- Walks: the reference's place of a fact, copies. No condition. -/
namespace Go.Proofs.YtngjhblbpapjeaaGreat.H
open Go Go.RowKit Go.Proofs.YtngjhblbpapjeaaGreatW.PrintWords Go.Proofs.YtngjhblbpapjeaaGreatW.PrintLast
open Go.Proofs.YtngjhblbpapjeaaGreat.Reg (On on_draw)
set_option maxHeartbeats 1000000
set_option maxRecDepth 100000
set_option linter.unusedVariables false
set_option linter.unusedSimpArgs false

section
variable {fn : Func} {p u : Tmp} {tmps : Array Value} {w : World} {g : Nat} {t : TypeId} {cs : Array Value} {fr : Nat × Nat}
theorem retIB (h : fn.results = #[.cell p 27, .tmp u]) (hp : tmps.getD p undef = .pointer (some ⟨g, 0, none⟩)) (hg : w.heap[g]? = some (.cells cs t fr)) (hs : cs.size = 2) : (results fn tmps).run Tryz.prog w = .ok (.tuple #[.agg cs, tmps.getD u undef]) w :=
  results_ct h tmps w g t cs fr _ hp hg Tryz.underlying27 rfl (by rw [hs]; kernel_rfl)
end
/-- A step that makes memory at most and hands back one value, nothing else coming up. -/
theorem stepM {P : Program} {ops : Array Oper} {Q : Exit → Act → World → Prop} {i : Nat} {tail : List Nat} {l : List (Nat × Reg.K)} {a : Act} {W : World} {o : Oper}
    (h : ∀ w, On W w → wpList P ops (Exit.then (fun a' w' => On W w' ∧ Reg.Ord P ops Q tail l a' w') Q) [o] a w) (hi : ops[i]? = some o := by rfl)
    (hw : Region.wanted o (yielded ops a.tmps) = true := by rfl) : Reg.Ord P ops Q tail ((i, .N) :: l) a W := Reg.stepN h hi hw
theorem l5Place_calls (w : World) (A0 n0 c0 A1 c1 A2 c2) (fs : List Fct) (f : Fct) (h1 : Fcts w A1 c1 fs) (h2 : Ints w A2 c2 f.2) :
    Calls Tryz.prog 53 #[.agg #[.slice A0 n0 c0, .slice A1 fs.length c1], .agg #[.int .i64 f.1, .slice A2 f.2.length c2]] w fun e w' => e = .returned (.int .i64 (place fs f)) ∧ On w w' := by
  have hmax := h1.max
  go_enter Tryz.func53, Tryz.ntmps53
  go_wp2
  go_loopw [5] (fun v5 wr => ∃ k : Nat, k ≤ fs.length ∧ v5 = .int .i64 k ∧ Hid (placeFrom f (fs.drop k) k = place fs f) ∧ On w wr ∧ Loc wr [(w.heap.size, #[.slice A0 n0 c0, .slice A1 fs.length c1], 27), (w.heap.size + 1, #[.int .i64 f.1, .slice A2 f.2.length c2], 30)]) (fun v5 _ => fs.length - (intOf v5).toNat)
  case atStart => exact ⟨0, Nat.zero_le _, rfl, rfl, On.alloc (On.alloc (On.refl _) _) _, loc2 _ _ _ _ _⟩
  case round =>
    obtain ⟨k, hk, rfl, hp, hB, hL⟩ := hrel
    have hc0 := blk_cell hL.1
    have hc1 := blk_cell hL.2.1
    have hl := Aside0.mk hL
    clear hL
    by_cases hlt : k < fs.length
    · obtain ⟨ad, A3, c3, rfl, hx0, hx1, hx2⟩ := (h1.on hB).at k hlt
      have hp' : Hid ((if cmpF fs[k] f = 0 then (k : Int) else placeFrom f (fs.drop (k + 1)) (k + 1)) = place fs f) := by have := hp.out; rwa [List.drop_eq_getElem_cons hlt] at this
      clear hp
      go_wp2
      refine Reg.region [(0,.L),(1,.L),(2,.L),(3,.L),(4,.L),(5,.L),(6,.C),(7,.L)] [] (by kernel_rfl) (by kernel_rfl) ?_
      repeat first | refine sP ?_ | refine sS ?_ | refine sA ?_ | refine sL ?_ | refine sQ ?_ | refine sO ?_
      refine callC (.int .i64 (cmpF fs[k] f)) Tryz.func13 (fun w' hS => ?_) ?_
      focus exact (CompareFacts_calls w' _ _ _ _ fs[k] f (hx2.on hS) ((h2.on hB).on hS))
      repeat first | refine sP ?_ | refine sS ?_ | refine sA ?_ | refine sL ?_ | refine sQ ?_ | refine sO ?_
      refine Reg.nil fun w2 hS => ?_
      by_cases h0 : cmpF fs[k] f = 0
      · have h0' : (cmpF fs[k] f == 0) = true := by simpa using h0
        go_wp2
        go_ret
        exact ⟨by rw [← hp'.out, if_pos h0]; rfl, hB.trans hS⟩
      · have h0' : (cmpF fs[k] f == 0) = false := by simpa using h0
        go_wp2
        go_roundw
        case rel => exact ⟨k + 1, by omega, by go_num, (by rw [← hp'.out, if_neg h0] : _ = _), hB.trans hS, Loc.on hS hl.out⟩
        case measure => simp [intOf]; omega
    · go_wp2
      go_ret
      exact ⟨by rw [← hp.out, List.drop_of_length_le (by omega)]; rfl, hB⟩
theorem sContainsFact_calls (w : World) (A0 c0 A1 c1) (rs : List Rel) (fs : List Fct) (h0 : Rels w A0 c0 rs) (h1 : Fcts w A1 c1 fs) (A2 c2) (g : Fct) (h2 : Ints w A2 c2 g.2) :
    Calls Tryz.prog 40 #[.agg #[.slice A0 rs.length c0, .slice A1 fs.length c1], .agg #[.int .i64 g.1, .slice A2 g.2.length c2]] w fun e w' => e = .returned (.bool (okInst rs fs && hasF fs g)) ∧ On w w' := by
  have hb := Aside0.mk (On.alloc (On.alloc (On.refl w) (.cells #[.slice A0 rs.length c0, .slice A1 fs.length c1] 27)) (.cells #[.int .i64 g.1, .slice A2 g.2.length c2] 30))
  have hL := Aside0.mk (loc2 w #[.slice A0 rs.length c0, .slice A1 fs.length c1] #[.int .i64 g.1, .slice A2 g.2.length c2] 27 30)
  cases ho : okInst rs fs with
  | false =>
    have ho' := Aside0.mk ho
    clear ho
    go_enter Tryz.func40, Tryz.ntmps40
    go_wp2_with (go_at_call 39; refine (IsValidInstance_calls _ A0 c0 A1 c1 rs fs (h0.on hb.out) (h1.on hb.out)).mono ?_; rintro e w1 ⟨rfl, hb1⟩; rw [ho'.out])
    go_ret
    exact ⟨by simp, hb.out.trans hb1⟩
  | true =>
    have ho' := Aside0.mk ho
    clear ho
    go_enter Tryz.func40, Tryz.ntmps40
    go_wp2_with (first | (go_at_call 39; refine (IsValidInstance_calls _ A0 c0 A1 c1 rs fs (h0.on hb.out) (h1.on hb.out)).mono ?_; rintro e w1 ⟨rfl, hb1⟩; rw [ho'.out]; have hL1 := Loc.on hb1 hL.out; have hc0 := blk_cell hL1.1; have hc1 := blk_cell hL1.2.1; clear hL1) | (go_at_call 53; refine (l5Place_calls w1 A0 rs.length c0 A1 c1 A2 c2 fs g (h1.on (hb.out.trans hb1)) (h2.on (hb.out.trans hb1))).mono ?_; rintro e w2 ⟨rfl, hb2⟩))
    go_ret
    exact ⟨ret_bool (by rw [hasF_place]; simp), (hb.out.trans hb1).trans hb2⟩
theorem l5Fact_calls (w : World) (A c) (f : Fct) (h : Ints w A c f.2) (hl : f.2.length ≤ 2000000) : Calls Tryz.prog 84 #[.agg #[.int .i64 f.1, .slice A f.2.length c]] w (Got fun v w' => ∃ v1, v = .agg #[.int .i64 f.1, v1] ∧ OI w' w.heap.size v1 f.2 ∧ On w w') := by
  have hb := Aside0.mk (On.alloc (On.alloc (On.refl w) (.cells #[.int .i64 f.1, .slice A f.2.length c] 30)) (.cells #[.int .i64 0, .slice none 0 0] 30))
  have hL := Aside0.mk (loc2 w #[.int .i64 f.1, .slice A f.2.length c] #[.int .i64 0, .slice none 0 0] 30 30)
  go_enter Tryz.func84, Tryz.ntmps84
  go_wp2
  refine Reg.region [(0,.L),(1,.L),(3,.L),(4,.L),(2,.N),(5,.N),(6,.L)] [7] (by kernel_rfl) (by kernel_rfl) ?_
  repeat first | refine sP ?_ | refine sS ?_ | refine sA ?_ | refine sL ?_ | refine sQ ?_ | refine sO ?_
  refine stepM (fun w1 hS => ?_)
  go_wp2
  refine ⟨hS.trans (On.alloc (On.refl _) _), ?_⟩
  repeat first | refine sP ?_ | refine sS ?_ | refine sA ?_ | refine sL ?_ | refine sQ ?_ | refine sO ?_
  refine stepM (fun w2 hS2 => ?_)
  refine apIf 8 (List.nil_append _) (pw_own_below (lit_own w1 #[] 3 1 0 w1.heap.size (Nat.le_refl _) (by omega) rfl) hS2) rfl (h.on ((hb.out.trans hS).trans ((On.alloc (On.refl _) _).trans hS2))) (by have := hS2.size; simp at this; omega) (by omega) fun v3 w3 hO3 hb3 => ?_
  refine ⟨hS2.trans hb3, ?_⟩
  obtain ⟨A3, c3, rfl⟩ := own_slice hO3
  simp only [Act.put, List.setIfInBounds_toArray, List.set_cons_zero, List.set_cons_succ]
  repeat first | refine sP ?_ | refine sS ?_ | refine sA ?_ | refine sL ?_ | refine sQ ?_ | refine sO ?_
  refine Reg.tail_ fun w4 hS4 => ?_
  have hk := (Loc.on ((hS.trans (On.alloc (On.refl _) _)).trans (hS2.trans (hb3.trans hS4))) hL.out).2.1
  have hc := blk_cell hk
  have hf := blk_frozen hk
  have hk' := Aside0.mk hk
  clear hk
  go_wp2
  have hsz := hS.size
  simp only [World.size_alloc] at hsz
  refine bodyPost_ret (retF rfl rfl (g := w.heap.size + 1) (blk_set (blk_set hk'.out 0 _) 1 _) rfl) rfl ?_
  exact ⟨_, rfl, _, rfl, own_lower (ownsRow_setCell_below (ownsRow_setCell_below (pw_own_below hO3 hS4) (by simp; omega) _) (by simp; omega) _) (by omega), Reg.On.set (Reg.On.set (((hb.out.trans hS).trans (On.alloc (On.refl _) _)).trans (hS2.trans (hb3.trans hS4))) (by simp) _) (by simp) _⟩
theorem blk_ex {S : Nat → Prop} {W w : World} {g : Nat} {o : Obj} (h : Ex S W w) (hg : W.heap[g]? = some o) (hn : ¬ S g) : w.heap[g]? = some o := (h.block g (blk_lt hg) hn).trans hg
theorem Fcts.ex {S : Nat → Prop} {w0 W w : World} {A : Option Addr} {c : Nat} {fs : List Fct} (h : Fcts w0 A c fs) (hb : On w0 W) (hE : Ex S W w) (hS : ∀ i, S i → w0.heap.size ≤ i) : Fcts w A c fs := h.on (Ex.on hb hE hS)
/-- The row of copies, one more. -/
theorem copy_more {lo : Nat} {hs : List Hdr} {fs : List Fct} {A' A2 : Option Addr} {c' c2 : Nat} {r : Int} {vs : List Int} {wr w2 w5 w6 : World} (hS : Sep wr lo hs fs) (hlo : lo ≤ wr.heap.size) (hO : OH wr lo (.slice A' hs.length c') hs) (h2 : OI w2 wr.heap.size (.slice A2 vs.length c2) vs) (hR : InR vs) (hb : On wr w2) (hb5 : On w2 w5)
    (hg : w5.grownBy w6 (Value.ownBlock (.slice A' hs.length c'))) : Sep w6 lo (hs ++ [(r, A2, vs.length, c2)]) (fs ++ [(r, vs)]) := by
  have h5 := Sep.snoc (a := (r, A2, vs.length, c2)) (f := (r, vs)) hS (hb.trans hb5) hlo rfl (pw_own_below h2 hb5) hR
  refine Sep.ex h5 (Ex.of_grown hg) (fun i a b ha hbk e => ?_)
  have hlt := own_lt hO b e.symm
  have hab := (h5.at_ i a _ ha (List.getElem?_eq_getElem (by rw [← h5.len]; exact (List.getElem?_eq_some_iff.1 ha).1))).2.1
  have := own_ne_blk hab (pw_own_below hO (hb.trans hb5)) (by decide) hbk
  exact this e.symm
theorem l5Copy_calls (w : World) (A0 c0 A1 c1) (rs : List Rel) (fs : List Fct) (h0 : Rels w A0 c0 rs) (h1 : Fcts w A1 c1 fs) (hl0 : rs.length ≤ 2000000) (hl : fs.length ≤ 2000000) (hl2 : ∀ f ∈ fs, f.2.length ≤ 2000000) : Calls Tryz.prog 38 #[.agg #[.slice A0 rs.length c0, .slice A1 fs.length c1]] w (Got fun v w' => OIn w' w.heap.size v rs fs ∧ On w w') := by
  have hb := Aside0.mk (On.alloc (On.alloc (On.refl w) (.cells #[.slice A0 rs.length c0, .slice A1 fs.length c1] 27)) (.cells #[.slice none 0 0, .slice none 0 0] 27))
  have hL := Aside0.mk (loc2 w #[.slice A0 rs.length c0, .slice A1 fs.length c1] #[.slice none 0 0, .slice none 0 0] 27 27)
  go_enter Tryz.func38, Tryz.ntmps38
  go_wp2_with (refine gate 8 ?_)
  refine ⟨apRf 8 (List.nil_append _) (lit_own' (w.heap.size + 1 + 1) _ (by simp) #[] 81 3 0 (w.heap.size + 2) (by simp) (by omega) rfl) rfl (h0.on (hb.out.trans (On.alloc (On.refl _) _))) (by simp) (by omega) fun v1 w1 hO1 hb1 => ?_⟩
  obtain ⟨Ar, cr, rfl⟩ := own_slice hO1
  have hfill := alloc_fill w1
  go_wp2
  clear hfill
  have hbL := Aside0.mk (Loc.on ((On.alloc (On.refl _) _).trans hb1) hL.out)
  have hB1 := Aside0.mk (hb.out.trans ((On.alloc (On.refl _) _).trans hb1))
  have hOR := Aside0.mk hO1
  clear hb1 hO1
  have hyb := Aside0.mk (loc_new w1 #[.slice Ar rs.length cr, .slice none 0 0] 27)
  have hBy := Aside0.mk (On.alloc (On.refl w1) (.cells #[.slice Ar rs.length cr, .slice none 0 0] 27))
  have hsy := Aside0.mk (show (w1.alloc (.cells #[.slice Ar rs.length cr, .slice none 0 0] 27)).heap.size = w1.heap.size + 1 by simp)
  obtain ⟨Wy, hWy⟩ : ∃ Wy, w1.alloc (.cells #[.slice Ar rs.length cr, .slice none 0 0] 27) = Wy := ⟨_, rfl⟩
  rw [hWy] at hyb hBy hsy ⊢
  clear hWy
  go_loopw [4] (fun v wr => ∃ (k : Nat) (hs : List Hdr) (A' : Option Addr) (c' : Nat), k ≤ fs.length ∧ v = .int .i64 k ∧ Aside0 (OH wr (w1.heap.size + 1) (.slice A' hs.length c') hs) ∧ Aside0 (Sep wr (w1.heap.size + 1) hs (fs.take k)) ∧ Aside0 (w1.heap.size + 1 ≤ wr.heap.size) ∧ Aside0 (Ex (fun b => w1.heap.size ≤ b) w1 wr) ∧ wr.heap[w1.heap.size]? = some (.cells #[.slice Ar rs.length cr, .slice A' hs.length c'] 27 (0, 0))) (fun v _ => fs.length - (intOf v).toNat)
  case atStart => exact ⟨0, [], none, 0, Nat.zero_le _, rfl, ⟨World.ownsRow_nil _ _ _ _⟩, ⟨Sep.nil _ _⟩, ⟨by rw [hsy.out]; exact Nat.le_refl _⟩, ⟨Ex.of_on hBy.out⟩, hyb.out⟩
  case round =>
    obtain ⟨k, hs, A', c', hk, rfl, hO, hS, hsz, hE, hy⟩ := hrel
    have hlen := Aside0.mk (show hs.length = k by have := hS.out.len; rw [List.length_take] at this; omega)
    have hB := Aside0.mk (Ex.on hB1.out hE.out (fun i hi => by have := hB1.out.size; omega))
    have hLr := Aside0.mk (show Loc wr _ from Loc.on (Ex.to_on hE.out (fun i hi => hi)) hbL.out)
    have hc0 := blk_cell hLr.out.1
    have hcy := blk_cell hy
    have hy' := Aside0.mk hy
    clear hy
    by_cases hlt : k < fs.length
    · obtain ⟨ad, A3, c3, rfl, hx0, hx1, hx2⟩ := (h1.on hB.out).at k hlt
      go_wp2
      refine Reg.region [(0,.L),(1,.L),(2,.L),(3,.L),(4,.L),(5,.L),(6,.L),(7,.N),(8,.N)] [9,10,11] (by kernel_rfl) (by kernel_rfl) ?_
      repeat first | refine sP ?_ | refine sS ?_ | refine sA ?_ | refine sL ?_ | refine sQ ?_ | refine sO ?_
      refine callN Tryz.func84 (fun w2 hS2 => ?_)
      focus
        refine (l5Fact_calls w2 A3 c3 fs[k] (hx2.on hS2) (hl2 _ (List.getElem_mem hlt))).mono ?_
        rintro e w3 ⟨v3, rfl, v4, rfl, hO4, hb3⟩
        obtain ⟨A4, c4, rfl⟩ := own_slice hO4
        refine ⟨_, rfl, hb3, fun a' ha => ?_⟩
        simp only [Act.put, List.setIfInBounds_toArray, List.set_cons_zero, List.set_cons_succ] at ha
        subst ha
        repeat first | refine sP ?_ | refine sS ?_ | refine sA ?_ | refine sL ?_ | refine sQ ?_ | refine sO ?_
        refine stepM (fun w4 hS4 => ?_)
        go_wp2
        refine ⟨hS4.trans (On.alloc (On.refl _) _), ?_⟩
        refine Reg.tail_ fun w5 hS5 => ?_
        have hB5 := Aside0.mk ((hS2.trans (hb3.trans (hS4.trans (On.alloc (On.refl _) _)))).trans hS5)
        have hlit := Aside0.mk (lit_RH hS5)
        have hO5 := Aside0.mk (pw_own_below hO.out hB5.out)
        obtain ⟨zs, hz⟩ : ∃ zs, hs ++ [(fs[k].1, A4, fs[k].2.length, c4)] = zs := ⟨_, rfl⟩
        have hz' := Aside0.mk hz
        refine apH 26 hz hO5.out hlit.out (Nat.le_trans hsz.out hB5.out.size) (by have := hlen.out; simp; omega) fun v6 w6 hO6 hg6 => ?_
        obtain ⟨A6, c6, rfl⟩ := own_slice hO6
        have hgy : some w1.heap.size ≠ Value.ownBlock (.slice A' hs.length c') := fun e => by have := own_base hO.out _ e.symm; omega
        have hk6 := blk_grown hg6 (blk_below hy'.out hB5.out) hgy
        have hcy6 := blk_cell hk6
        have hf6 := blk_frozen hk6
        have hk6' := Aside0.mk hk6
        have hS6 := Aside0.mk (copy_more (r := fs[k].1) (vs := fs[k].2) hS.out hsz.out hO.out (own_lower hO4 hS2.size) (hx2.2.2) (hS2.trans hb3) (hS4.trans ((On.alloc (On.refl _) _).trans hS5)) hg6)
        have hS6 := Aside0.mk (hz ▸ hS6.out)
        clear hk6 hgy hcy hz
        go_wp2
        refine ⟨⟨k + 1, zs, A6, c6, by omega, by go_num, ⟨ownsRow_setCell_below hO6 (Nat.lt_succ_self _) _⟩, ⟨?_⟩, ⟨?_⟩, ⟨?_⟩, blk_set hk6'.out 1 _⟩, by simp [intOf]; omega⟩
        · rw [List.take_succ_eq_append_getElem hlt]
          exact Sep.set hS6.out (Nat.lt_succ_self _) _
        · have h3 := hg6.size; have h4 := hB5.out.size; have := hsz.out; simp [World.setCell]; omega
        · exact ((hE.out.then_on hB5.out).trans (Ex.of_grown hg6) (fun i _ e => by have := own_base hO5.out i e.symm; omega)).trans (Ex.set _ _ _) (fun i _ e => by subst e; exact Nat.le_refl _)
    · have e1 : fs.take k = fs := List.take_of_length_le (by omega)
      rw [e1] at hS
      have hcr := blk_cell hLr.out.2.1
      have hfr := blk_frozen hLr.out.2.1
      go_wp2
      have hs1 := hBy.out.size
      have hs2 := hLr.out.2.1
      refine bodyPost_ret (retI rfl rfl (g := w.heap.size + 1) (blk_set (blk_set hLr.out.2.1 0 _) 1 _) rfl) rfl ?_
      have hw1 := blk_lt hbL.out.2.1
      refine ⟨_, rfl, ⟨_, _, hs, rfl, ?_, ?_, ?_⟩, ?_⟩
      · have h5 := own_ex hOR.out hE.out (fun i hi h => by have := own_lt hOR.out i hi; omega)
        exact own_lower (ownsRow_setCell_below (ownsRow_setCell_below h5 (by simp) _) (by simp) _) (by omega)
      · exact own_lower (ownsRow_setCell_below (ownsRow_setCell_below hO.out (by simp; omega) _) (by simp; omega) _) (by omega)
      · exact Sep.lower (Sep.set (Sep.set hS.out (by simp; omega) _) (by simp; omega) _) (by omega)
      · exact Reg.On.set (Reg.On.set hB.out (by simp) _) (by simp) _
end Go.Proofs.YtngjhblbpapjeaaGreat.H
/- Walks: the reference takes a fact out; restricts. No condition. -/
namespace Go.Proofs.YtngjhblbpapjeaaGreat.H
open Go Go.RowKit Go.Proofs.YtngjhblbpapjeaaGreatW.PrintWords Go.Proofs.YtngjhblbpapjeaaGreatW.PrintLast
open Go.Proofs.YtngjhblbpapjeaaGreat.Reg (On on_draw)
set_option maxHeartbeats 1000000
set_option maxRecDepth 100000
set_option linter.unusedVariables false
set_option linter.unusedSimpArgs false

/-- An instance that is read. -/
structure RIn (w : World) (v : Value) (rs : List Rel) (fs : List Fct) : Prop where mk :: (out : ∃ A0 c0 A1 c1, v = .agg #[.slice A0 rs.length c0, .slice A1 fs.length c1] ∧ Rels w A0 c0 rs ∧ Fcts w A1 c1 fs)
theorem RIn.on {W w : World} {v : Value} {rs : List Rel} {fs : List Fct} (h : RIn W v rs fs) (hb : On W w) : RIn w v rs fs := by
  obtain ⟨A0, c0, A1, c1, e, h0, h1⟩ := h.out
  exact ⟨A0, c0, A1, c1, e, h0.on hb, h1.on hb⟩
theorem OIn.read {w : World} {lo : Nat} {v : Value} {rs : List Rel} {fs : List Fct} (h : OIn w lo v rs fs) : RIn w v rs fs := by
  obtain ⟨vr, vf, hs, rfl, hR, hH, hS⟩ := h.out
  obtain ⟨A0, c0, rfl, h0⟩ := OR.rd hR
  obtain ⟨A1, c1, rfl, h1⟩ := OH.rd hH hS.reads
  exact ⟨A0, c0, A1, c1, rfl, h0, h1⟩
theorem RH.take {w : World} {A : Option Addr} {c : Nat} {hs : List Hdr} (h : RH w A c hs) (k : Nat) (hk : k ≤ hs.length) : RH w A c (hs.take k) := by
  have hl : (hs.take k).length = k := by rw [List.length_take]; omega
  refine ⟨by rw [hl]; have := h.cap; omega, by rw [hl]; have := h.max; omega, fun j u hu => h.cell j u ?_⟩
  have e : hs.flatMap encH = (hs.take k).flatMap encH ++ (hs.drop k).flatMap encH := by rw [← List.flatMap_append, List.take_append_drop]
  rw [e, List.getElem?_append_left (List.getElem?_eq_some_iff.1 hu).1]; exact hu
theorem RH.drop {w : World} {A : Option Addr} {c : Nat} {hs : List Hdr} (h : RH w A c hs) (k : Nat) (hk : k ≤ hs.length) : RH w (if c = k then A else A.map (·.add (k * 2))) (c - k) (hs.drop k) := by
  have hl : (hs.drop k).length = hs.length - k := List.length_drop
  have hcap := h.cap
  have e : hs.flatMap encH = (hs.take k).flatMap encH ++ (hs.drop k).flatMap encH := by rw [← List.flatMap_append, List.take_append_drop]
  have hl2 : ((hs.take k).flatMap encH).length = k * 2 := by rw [flat_len (enc := encH) (sz := 2) (fun _ => rfl), List.length_take]; congr 1; omega
  refine ⟨by rw [hl]; omega, by rw [hl]; have := h.max; omega, fun j u hu => ?_⟩
  obtain ⟨ad, e2, hc⟩ := h.cell (k * 2 + j) u (by rw [e, List.getElem?_append_right (by omega), hl2, show k * 2 + j - k * 2 = j by omega]; exact hu)
  subst e2
  have hlt : 0 < (hs.drop k).length := by
    have := (List.getElem?_eq_some_iff.1 hu).1
    rw [flat_len (enc := encH) (sz := 2) (fun _ => rfl)] at this
    omega
  rw [if_neg (by omega)]
  exact ⟨_, rfl, by rw [Addr.add_add]; exact hc⟩
section
variable {ops : Array Oper} {Q : Exit → Act → World → Prop} {i : Nat} {tail : List Nat} {l : List (Nat × Reg.K)} {a : Act} {W : World} {o : Oper} {N : Tmp}
/-- Cuts of rows of facts. -/
theorem sTo {x y : Operand} {A : Option Addr} {n c k : Nat} (hk : k ≤ n) (hc : n ≤ c) (h : Reg.Ord Tryz.prog ops Q tail l (a.put (some N) (.slice A k c)) W) (hi : ops[i]? = some o := by rfl) (hN : o.dst = some N := by rfl) (hw : Region.wanted o (yielded ops a.tmps) = true := by rfl)
    (hop : o.op = .slice 25 x none (some y) none := by rfl) (hx : a.eval x = .slice A n c := by rfl) (hy : a.eval y = .int .i64 (k : Int) := by rfl) : Reg.Ord Tryz.prog ops Q tail ((i, .L) :: l) a W := by
  obtain ⟨i0, hi0, _, hsz, _⟩ := info_parts infoF
  have hcut := cut_to (P := Tryz.prog) 25 30 .i64 Tryz.underlying25 hi0 A n c (k : Int) (by omega) (by omega) hc
  refine Reg.stepL (v := .slice A k c) (fun w _ => ?_) h hi hN hw
  unfold execOp
  simp only [hop, hx, hy, Option.map_some, Option.map_none]
  have := hcut w
  simp only [Int.toNat_natCast] at this
  go_simp
theorem sFrom {x y : Operand} {A A' : Option Addr} {n c k m c' : Nat} (hA : (if c = k then A else A.map (·.add (k * 2))) = A') (hm : n - k = m) (hc' : c - k = c') (hk : k ≤ n) (hc : n ≤ c) (h : Reg.Ord Tryz.prog ops Q tail l (a.put (some N) (.slice A' m c')) W) (hi : ops[i]? = some o := by rfl) (hN : o.dst = some N := by rfl) (hw : Region.wanted o (yielded ops a.tmps) = true := by rfl)
    (hop : o.op = .slice 25 x (some y) none none := by rfl) (hx : a.eval x = .slice A n c := by rfl) (hy : a.eval y = .int .i64 (k : Int) := by rfl) : Reg.Ord Tryz.prog ops Q tail ((i, .L) :: l) a W := by
  subst hA hm hc'
  obtain ⟨i0, hi0, _, hsz, _⟩ := info_parts infoF
  have hcut := cut_from (P := Tryz.prog) 25 30 .i64 Tryz.underlying25 hi0 2 hsz A n c (k : Int) (by omega) (by omega)
  refine Reg.stepL (v := .slice (if c = k then A else A.map (·.add (k * 2))) (n - k) (c - k)) (fun w _ => ?_) h hi hN hw
  unfold execOp
  simp only [hop, hx, hy, Option.map_some, Option.map_none]
  have := hcut w
  simp only [Int.toNat_natCast] at this
  go_simp
end
/-- What is left of an instance's facts without g. -/
def delI (rs : List Rel) (fs : List Fct) (g : Fct) : List Fct := if okInst rs fs && hasF fs g then delF fs g else fs
theorem factsFrom_asc {rs : List Rel} : ∀ {p : Option Fct} {fs : List Fct}, factsFrom rs p fs = true → Asc fs ∧ ∀ q, p = some q → ∀ f ∈ fs, cmpF q f < 0
  | _, [], _ => ⟨List.Pairwise.nil, fun _ _ _ h => by cases h⟩
  | p, f :: fs, h => by
    simp only [factsFrom, Bool.and_eq_true] at h
    obtain ⟨h1, h2⟩ := factsFrom_asc h.2
    refine ⟨List.pairwise_cons.2 ⟨h2 f rfl, h1⟩, fun q hq g hg => ?_⟩
    subst hq
    have hqf : cmpF q f < 0 := by
      have := h.1; simp only [okNext, okPrev, Bool.and_eq_true, decide_eq_true_eq] at this; exact this.1.2
    rcases List.mem_cons.1 hg with rfl | hg
    · exact hqf
    · exact cmpF_trans _ _ _ hqf (h2 f rfl g hg)
theorem okInst_asc {rs : List Rel} {fs : List Fct} (h : okInst rs fs = true) : Asc fs := by
  simp only [okInst, Bool.and_eq_true] at h; exact (factsFrom_asc h.1).1
theorem okInst_len {rs : List Rel} {fs : List Fct} (h : okInst rs fs = true) : rs.length ≤ 6 ∧ fs.length ≤ 30 := by
  simp only [okInst, okRels, Bool.and_eq_true, decide_eq_true_eq] at h; exact ⟨h.2.1.2, h.2.2⟩
theorem sDeleteFact_calls (w : World) (A0 c0 A1 c1) (rs : List Rel) (fs : List Fct) (h0 : Rels w A0 c0 rs) (h1 : Fcts w A1 c1 fs) (A2 c2) (g : Fct) (h2 : Ints w A2 c2 g.2) (hl0 : rs.length ≤ 2000000) (hl : fs.length ≤ 2000000) (hl2 : ∀ f ∈ fs, f.2.length ≤ 2000000) :
    Calls Tryz.prog 15 #[.agg #[.slice A0 rs.length c0, .slice A1 fs.length c1], .agg #[.int .i64 g.1, .slice A2 g.2.length c2]] w (Got fun v w' => ∃ v1, v = .tuple #[v1, .bool (okInst rs fs && hasF fs g)] ∧ OIn w' w.heap.size v1 rs (delI rs fs g) ∧ On w w') := by
  have hb := Aside0.mk (On.alloc (On.alloc (On.alloc (On.refl w) (.cells #[.slice A0 rs.length c0, .slice A1 fs.length c1] 27)) (.cells #[.int .i64 g.1, .slice A2 g.2.length c2] 30)) (.cells #[.slice none 0 0, .slice none 0 0] 27))
  have hL := Aside0.mk (loc3 w #[.slice A0 rs.length c0, .slice A1 fs.length c1] #[.int .i64 g.1, .slice A2 g.2.length c2] #[.slice none 0 0, .slice none 0 0] 27 30 27)
  have hsz3 := Aside0.mk (show (((w.alloc (.cells #[.slice A0 rs.length c0, .slice A1 fs.length c1] 27)).alloc (.cells #[.int .i64 g.1, .slice A2 g.2.length c2] 30)).alloc (.cells #[.slice none 0 0, .slice none 0 0] 27)).heap.size = w.heap.size + 3 by simp)
  cases ho : okInst rs fs && hasF fs g with
  | false =>
    have ho' := Aside0.mk ho
    clear ho
    go_enter Tryz.func15, Tryz.ntmps15
    go_wp2_with (first
      | (go_at_call 38; refine (l5Copy_calls _ A0 c0 A1 c1 rs fs (h0.on hb.out) (h1.on hb.out) hl0 hl hl2).mono ?_; rintro e w1 ⟨v1, rfl, ⟨vr, vf, hs, rfl, hR, hH, hS⟩, hb1⟩; obtain ⟨Ar, cr, rfl⟩ := own_slice hR; obtain ⟨Af, cf, rfl⟩ := own_slice hH; have hfill := alloc_fill w1; have hI := Aside0.mk (OIn.mk ⟨_, _, hs, rfl, hR, hH, hS⟩); have hB1 := Aside0.mk (hb1.trans (On.alloc (On.refl _) (.cells #[.slice Ar rs.length cr, .slice Af hs.length cf] 27))); have hL1 := Aside0.mk (Loc.on hB1.out hL.out); have hc0 := blk_cell hL1.out.1; have hc1 := blk_cell hL1.out.2.1; have hY1 := Aside0.mk (loc_new w1 #[.slice Ar rs.length cr, .slice Af hs.length cf] 27); clear hR hH hS)
      | (go_at_call 40; refine (sContainsFact_calls _ A0 c0 A1 c1 rs fs (h0.on (hb.out.trans hB1.out)) (h1.on (hb.out.trans hB1.out)) A2 c2 g (h2.on (hb.out.trans hB1.out))).mono ?_; rintro e w2 ⟨rfl, hb2⟩; rw [ho'.out]; have hL2 := Aside0.mk (Loc.on (hB1.out.trans hb2) hL.out); have hy := blk_cell (blk_below hY1.out hb2); have hcr : ∀ i, w2.cell? ⟨w.heap.size + 1 + 1, i, none⟩ = _ := blk_cell hL2.out.2.2.1; have hfr : ∀ i, w2.frozen? ⟨w.heap.size + 1 + 1, i, none⟩ = _ := blk_frozen hL2.out.2.2.1; have hI2 := Aside0.mk (hI.out.on ((On.alloc (On.refl _) _).trans hb2)); clear hc0 hc1 hfill))
    refine bodyPost_ret (retIB rfl rfl (g := w.heap.size + 2) (blk_set (blk_set hL2.out.2.2.1 0 _) 1 _) rfl) rfl ?_
    have hI3 := hI2.out
    rw [hsz3.out] at hI3
    refine ⟨_, rfl, _, rfl, ?_, Reg.On.set (Reg.On.set (hb.out.trans (hB1.out.trans hb2)) (by simp; omega) _) (by simp; omega) _⟩
    unfold delI; rw [ho'.out, if_neg (by simp)]
    exact OIn.lower (OIn.set (OIn.set hI3 (by simp) _) (by simp) _) (by omega)
  | true =>
    have hg : g ∈ fs := (hasF_mem fs g).1 (Bool.and_eq_true_iff.1 ho).2
    have hasc := okInst_asc (Bool.and_eq_true_iff.1 ho).1
    have hle := okInst_len (Bool.and_eq_true_iff.1 ho).1
    rcases place_spec fs g with ⟨_, hn⟩ | ⟨k, hk, hpl, hkg, _⟩
    · exact absurd hg hn
    have hdel := Aside0.mk (show delI rs fs g = fs.take k ++ fs.drop (k + 1) by unfold delI; rw [ho, if_pos rfl, delF_at fs g hasc k hk hkg])
    have ho' := Aside0.mk ho
    clear ho hg hasc hkg
    go_enter Tryz.func15, Tryz.ntmps15
    go_wp2_with (first
      | (go_at_call 38; refine (l5Copy_calls _ A0 c0 A1 c1 rs fs (h0.on hb.out) (h1.on hb.out) hl0 hl hl2).mono ?_; rintro e w1 ⟨v1, rfl, ⟨vr, vf, hs, rfl, hR, hH, hS⟩, hb1⟩; obtain ⟨Ar, cr, rfl⟩ := own_slice hR; obtain ⟨Af, cf, rfl⟩ := own_slice hH; have hfill := alloc_fill w1; have hR1 := Aside0.mk hR; have hH1 := Aside0.mk hH; have hS1 := Aside0.mk hS; have hlen := Aside0.mk hS.len; have hB1 := Aside0.mk (hb1.trans (On.alloc (On.refl _) (.cells #[.slice Ar rs.length cr, .slice Af hs.length cf] 27))); have hL1 := Aside0.mk (Loc.on hB1.out hL.out); have hc0 := blk_cell hL1.out.1; have hc1 := blk_cell hL1.out.2.1; have hY1 := Aside0.mk (loc_new w1 #[.slice Ar rs.length cr, .slice Af hs.length cf] 27); clear hR hH hS)
      | (go_at_call 40; refine (sContainsFact_calls _ A0 c0 A1 c1 rs fs (h0.on (hb.out.trans hB1.out)) (h1.on (hb.out.trans hB1.out)) A2 c2 g (h2.on (hb.out.trans hB1.out))).mono ?_; rintro e w2 ⟨rfl, hb2⟩; rw [ho'.out]; have hL2 := Aside0.mk (Loc.on (hB1.out.trans hb2) hL.out); have hy := blk_cell (blk_below hY1.out hb2); have hcg := blk_cell hL2.out.2.1; have hb2' := Aside0.mk ((On.alloc (On.refl w1) (.cells #[.slice Ar rs.length cr, .slice Af hs.length cf] 27)).trans hb2); have hF2 := Aside0.mk ((OH.rh (pw_own_below hH1.out hb2'.out)).2.fcts ((hS1.out.on hb2'.out).reads)); clear hc0 hc1 hfill)
      | (go_at_call 53; rw [hlen.out]; refine (l5Place_calls w2 Ar rs.length cr Af cf A2 c2 fs g hF2.out (h2.on (hb.out.trans (hB1.out.trans hb2)))).mono ?_; rintro e w3 ⟨rfl, hb3⟩; rw [hpl]; have hL3 := Aside0.mk (Loc.on hb3 hL2.out); have hY3 := Aside0.mk (blk_below (blk_below hY1.out hb2) hb3); have hy3 := blk_cell hY3.out; clear hy hcg))
    have hH3 := Aside0.mk (pw_own_below hH1.out (hb2'.out.trans hb3))
    have hS3 := Aside0.mk (hS1.out.on (hb2'.out.trans hb3))
    have hRH := Aside0.mk (OH.rh hH3.out).2
    have hkk := Aside0.mk (show k < hs.length by rw [hlen.out]; exact hk)
    have hcap := hRH.out.cap
    have hB3 := Aside0.mk (hB1.out.trans (hb2.trans hb3))
    refine Reg.region [(1,.L),(2,.L),(3,.L),(4,.L),(6,.L),(7,.L),(8,.L),(9,.L),(10,.L),(0,.N),(5,.N)] [11,12,13] (by kernel_rfl) (by kernel_rfl) ?_
    repeat first | refine sP ?_ | refine sS ?_ | refine sA ?_ | refine sL ?_ | refine sQ ?_ | refine sO ?_
    refine sTo (k := k) (Nat.le_of_lt hkk.out) hcap ?_
    simp only [Act.put, List.setIfInBounds_toArray, List.set_cons_zero, List.set_cons_succ]
    repeat first | refine sP ?_ | refine sS ?_ | refine sA ?_ | refine sL ?_ | refine sQ ?_ | refine sO ?_
    obtain ⟨xs, hxs⟩ : ∃ xs, hs.take k = xs := ⟨_, rfl⟩
    obtain ⟨ys, hys⟩ : ∃ ys, hs.drop (k + 1) = ys := ⟨_, rfl⟩
    obtain ⟨Ad, hAd⟩ : ∃ Ad, (if cf = k + 1 then Af else Af.map (·.add ((k + 1) * 2))) = Ad := ⟨_, rfl⟩
    obtain ⟨cd, hcd⟩ : ∃ cd, cf - (k + 1) = cd := ⟨_, rfl⟩
    refine sFrom (k := k + 1) (m := ys.length) hAd (by rw [← hys, List.length_drop]) hcd hkk.out hcap ?_
    have hRx := Aside0.mk (hxs ▸ hRH.out.take k (Nat.le_of_lt hkk.out))
    have hRy := Aside0.mk (show RH w3 Ad cd ys from hAd ▸ hcd ▸ hys ▸ hRH.out.drop (k + 1) hkk.out)
    have hxl := Aside0.mk (show xs.length = k by rw [← hxs, List.length_take]; have := hkk.out; omega)
    have hxys := Aside0.mk (show hs.take k ++ hs.drop (k + 1) = xs ++ ys by rw [hxs, hys])
    clear hxs hys hAd hcd hcap
    simp only [Act.put, List.setIfInBounds_toArray, List.set_cons_zero, List.set_cons_succ]
    refine stepM (fun w4 hS4 => ?_)
    go_wp2
    refine ⟨hS4.trans (On.alloc (On.refl _) _), ?_⟩
    refine stepM (fun w5 hS5 => ?_)
    have hS35 := Aside0.mk (hS4.trans ((On.alloc (On.refl _) _).trans hS5))
    refine apHf 23 (List.nil_append xs) (pw_own_below (lit_own w4 #[] 30 2 0 w4.heap.size (Nat.le_refl _) (by omega) rfl) hS5) rfl (hRx.out.on hS35.out) (Nat.le_trans (by simp) hS5.size) (by have := hxl.out; omega) (fun v6 w6 hO6 hb6 => ?_) (hx := by rw [hxl.out]; rfl)
    refine ⟨hS5.trans hb6, ?_⟩
    obtain ⟨A6, c6, rfl⟩ := own_slice hO6
    simp only [Act.put, List.setIfInBounds_toArray, List.set_cons_zero, List.set_cons_succ]
    refine Reg.tail_ fun w7 hS7 => ?_
    have hB7 := Aside0.mk (hS35.out.trans (hb6.trans hS7))
    have hO7 := Aside0.mk (pw_own_below hO6 hS7)
    have hs34 := hS4.size
    have hs45 := ((On.alloc (On.refl w4) (.cells #[] 30)).trans hS5).size
    have hw13 : w.heap.size + 3 ≤ w1.heap.size := by have := hb1.size; rwa [hsz3.out] at this
    have hw1l : w1.heap.size < w3.heap.size := blk_lt hY3.out
    have hge : ∀ i, some i = Value.ownBlock (.slice A6 xs.length c6) → w4.heap.size ≤ i := fun i e => own_base hO6 i e.symm
    have hge' := Aside0.mk hge
    obtain ⟨zs, hzs⟩ : ∃ zs, xs ++ ys = zs := ⟨_, rfl⟩
    have hzl : xs.length + ys.length ≤ 1000000000 := by have h5 := congrArg List.length hxys.out; rw [List.length_append, List.length_append, List.length_take, List.length_drop] at h5; have := hlen.out; omega
    refine apH 29 hzs hO7.out (hRy.out.on hB7.out) (by have := (hb6.trans hS7).size; omega) hzl fun v8 w8 hO8 hg8 => ?_
    obtain ⟨A8, c8, rfl⟩ := own_slice hO8
    have hy8 := blk_grown hg8 (blk_below hY3.out hB7.out) (fun e => by have := hge _ e; have := blk_lt hY1.out; have := (hb2'.out.trans hb3).size; have := blk_lt hY3.out; omega)
    have hr8 := blk_grown hg8 (Loc.on hB7.out hL3.out).2.2.1 (fun e => by have := hge _ e; have := blk_lt hL3.out.2.2.1; omega)
    have hcy := blk_cell hy8
    have hfy := blk_frozen hy8
    have hcr : ∀ i, w8.cell? ⟨w.heap.size + 1 + 1, i, none⟩ = _ := blk_cell hr8
    have hfr : ∀ i, w8.frozen? ⟨w.heap.size + 1 + 1, i, none⟩ = _ := blk_frozen hr8
    have hr8' := Aside0.mk hr8
    have hne := Aside0.mk (show w.heap.size + 2 ≠ w1.heap.size by have := hb1.size; rw [hsz3.out] at this; omega)
    have hne1 : ¬ (w.heap.size + 1 + 1 = w1.heap.size) := hne.out
    have hne2 : ¬ (w1.heap.size = w.heap.size + 1 + 1) := fun e => hne.out e.symm
    have hy8' := Aside0.mk hy8
    clear hy8 hr8 hge hy3 hzl
    go_wp2
    refine bodyPost_ret (retIB rfl rfl (g := w.heap.size + 2) (blk_set (blk_set (blk_far hr8'.out (by simpa using hne1) _) 0 _) 1 _) rfl) rfl ?_
    have hEx : Ex (fun b => w1.heap.size = b ∨ w4.heap.size ≤ b) w3 (w8.setCell ⟨w1.heap.size, 1, none⟩ (.slice A8 zs.length c8)) :=
      ((Ex.of_on hB7.out).trans (Ex.of_grown hg8) (fun i _ e => .inr (hge'.out i e))).trans (Ex.set _ _ _) (fun i _ e => .inl e.symm)
    have hI : OIn (w8.setCell ⟨w1.heap.size, 1, none⟩ (.slice A8 zs.length c8)) (w.heap.size + 3) (.agg #[.slice Ar rs.length cr, .slice A8 zs.length c8]) rs (fs.take k ++ fs.drop (k + 1)) := by
      have hR3 := pw_own_below hR1.out (hb2'.out.trans hb3)
      have hy3' := blk_lt hY3.out
      rw [hsz3.out] at hR3
      have hS9 := hS3.out.erase k
      rw [hxys.out, hzs, hsz3.out] at hS9
      refine ⟨_, _, zs, rfl, own_ex hR3 hEx (fun i hi h => ?_), own_lower (own_ex hO8 (Ex.set _ _ _) (fun i hi h => ?_)) (by omega), hS9.ex hEx (fun i a b ha hb h => ?_)⟩
      · have := own_lt hR1.out i hi; omega
      · have h7 := own_base hO8 i hi; have h8 : i = w1.heap.size := h; omega
      · have h1 := (hS1.out.erase k)
        rw [hxys.out, hzs] at h1
        have := h1.lt ha hb; omega
    rw [hdel.out]
    refine ⟨_, rfl, _, rfl, OIn.lower (OIn.set (OIn.set hI (by simp) _) (by simp) _) (by omega), Reg.On.set (Reg.On.set (Ex.on (hb.out.trans (hB1.out.trans (hb2.trans hb3))) hEx (fun i h => by omega)) (by simp; omega) _) (by simp; omega) _⟩
/-- The facts of the source's relations, or of the others. -/
def resF (rs : List Rel) (fs : List Fct) (b : Bool) : List Fct := fs.filter fun f => srcOf rs f.1 == b
def resI (rs : List Rel) (fs : List Fct) (b : Bool) : List Fct := if okInst rs fs then resF rs fs b else []
def resR (rs : List Rel) (fs : List Fct) : List Rel := if okInst rs fs then rs else []
theorem resF_step (rs : List Rel) (fs : List Fct) (b : Bool) (k : Nat) (h : k < fs.length) : resF rs (fs.take (k + 1)) b = resF rs (fs.take k) b ++ (if srcOf rs fs[k].1 == b then [fs[k]] else []) := by
  unfold resF; rw [List.take_succ_eq_append_getElem h, List.filter_append, List.filter_cons]; split <;> simp
theorem factsFrom_mem {rs : List Rel} : ∀ {p : Option Fct} {fs : List Fct}, factsFrom rs p fs = true → ∀ f ∈ fs, okFact rs f = true
  | _, [], _, f, hf => by cases hf
  | p, g :: fs, h, f, hf => by
    simp only [factsFrom, okNext, Bool.and_eq_true] at h
    rcases List.mem_cons.1 hf with rfl | hf
    · exact h.1.1.1
    · exact factsFrom_mem h.2 f hf
theorem okInst_mem {rs : List Rel} {fs : List Fct} (h : okInst rs fs = true) : ∀ f ∈ fs, okFact rs f = true := by
  simp only [okInst, Bool.and_eq_true] at h; exact factsFrom_mem h.1
end Go.Proofs.YtngjhblbpapjeaaGreat.H
