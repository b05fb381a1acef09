/- Walks: the laws' own helpers: how large, copies. No condition. -/
import Derived.Test.YtngjhblbpapjeaaHO
import Derived.Test.YtngjhblbpapjeaaHB1
namespace Go.Proofs.Ytngjhblbpapjeaa.H
open Go Go.RowKit Go.Proofs.YtngjhblbpapjeaaW.PrintWords Go.Proofs.YtngjhblbpapjeaaW.PrintLast
open Go.Proofs.Ytngjhblbpapjeaa.Reg (On on_draw)
set_option maxHeartbeats 1000000
set_option maxRecDepth 100000
set_option linter.unusedVariables false
set_option linter.unusedSimpArgs false

/-- How much relations and facts weigh. -/
def wR (rs : List Rel) : Nat := (rs.map fun r => r.1.size + 1).sum
def wF (fs : List Fct) : Nat := (fs.map fun f => f.2.length + 1).sum
theorem wR_take (rs : List Rel) (k : Nat) (h : k < rs.length) : wR (rs.take (k + 1)) = wR (rs.take k) + (rs[k].1.size + 1) := by
  unfold wR; rw [List.take_succ_eq_append_getElem h, List.map_append, List.sum_append]; simp only [List.map_cons, List.map_nil, List.sum_cons, List.sum_nil, Nat.add_zero]
theorem wF_take (fs : List Fct) (k : Nat) (h : k < fs.length) : wF (fs.take (k + 1)) = wF (fs.take k) + (fs[k].2.length + 1) := by
  unfold wF; rw [List.take_succ_eq_append_getElem h, List.map_append, List.sum_append]; simp only [List.map_cons, List.map_nil, List.sum_cons, List.sum_nil, Nat.add_zero]
/-- A measure was taken: what is left, if anything. -/
structure Sz (n : Int) (m : Nat) (w : World) (e : Ending) (w' : World) : Prop where mk :: (out : ∃ q : Int, e = .returned (.int .i64 q) ∧ (0 ≤ q → q + m ≤ n) ∧ On w w')
theorem szRelation_calls (w : World) (r : Rel) (n : Int) (h0 : 0 ≤ n) (h1 : n ≤ 2000000) (hs : r.1.size ≤ 9223372036854775807) : Calls Try.prog 99 #[.agg #[.string r.1, .int .i64 r.2.1, .bool r.2.2], .int .i64 n] w (Sz n r.1.size w) := by
  have hw : IntKind.i64.wrap (n - (r.1.size : Int)) = n - r.1.size := IntWalk.i64_in _ (by omega)
  by_cases h : n - (r.1.size : Int) < 0
  · have hb : decide (n - (r.1.size : Int) < 0) = true := decide_eq_true h
    have hb2 : decide (n < (r.1.size : Int)) = true := decide_eq_true (by omega)
    go_enter Try.func99, Try.ntmps99
    go_wp2
    go_ret
    exact ⟨_, rfl, fun h => by omega, On.alloc (On.refl _) _⟩
  · have hb : decide (n - (r.1.size : Int) < 0) = false := decide_eq_false h
    have hb2 : decide (n < (r.1.size : Int)) = false := decide_eq_false (by omega)
    go_enter Try.func99, Try.ntmps99
    go_wp2
    go_ret
    exact ⟨_, rfl, fun h => by omega, On.alloc (On.refl _) _⟩
theorem szIntS_calls (w : World) (A c) (xs : List Int) (n : Int) (h0 : 0 ≤ n) (h1 : n ≤ 2000000) (h : Ints w A c xs) : Calls Try.prog 72 #[.slice A xs.length c, .int .i64 n] w (Sz n xs.length w) := by
  have hmax := h.max
  have hw : IntKind.i64.wrap (n - (xs.length : Int)) = n - xs.length := IntWalk.i64_in _ (by omega)
  by_cases h : n - (xs.length : Int) < 0
  · have hb : decide (n - (xs.length : Int) < 0) = true := decide_eq_true h
    have hb2 : decide (n < (xs.length : Int)) = true := decide_eq_true (by omega)
    go_enter Try.func72, Try.ntmps72
    go_wp2
    go_ret
    exact ⟨_, rfl, fun h => by omega, On.refl _⟩
  · have hb : decide (n - (xs.length : Int) < 0) = false := decide_eq_false h
    have hb2 : decide (n < (xs.length : Int)) = false := decide_eq_false (by omega)
    go_enter Try.func72, Try.ntmps72
    go_wp2
    go_ret
    exact ⟨_, rfl, fun h => by omega, On.refl _⟩
theorem szFact_calls (w : World) (A c) (f : Fct) (n : Int) (h0 : 0 ≤ n) (h1 : n ≤ 2000000) (h : Ints w A c f.2) : Calls Try.prog 31 #[.agg #[.int .i64 f.1, .slice A f.2.length c], .int .i64 n] w (Sz n f.2.length w) := by
  have hb := Aside0.mk (On.alloc (On.refl w) (.cells #[.int .i64 f.1, .slice A f.2.length c] 51))
  go_enter Try.func31, Try.ntmps31
  go_wp2_with (go_at_call 72; refine (szIntS_calls _ _ _ f.2 _ h0 h1 (h.on hb.out)).mono ?_; rintro e w1 ⟨q, rfl, hq, hb1⟩)
  all_goals
    go_ret
    exact ⟨_, rfl, fun h => by first | exact hq (by omega) | omega, hb.out.trans hb1⟩
theorem szRelationS_calls (w : World) (A c) (rs : List Rel) (n : Int) (h0 : 0 ≤ n) (h1 : n ≤ 2000000) (h : Rels w A c rs) (hsz : ∀ r ∈ rs, r.1.size ≤ 9223372036854775807) : Calls Try.prog 54 #[.slice A rs.length c, .int .i64 n] w (Sz n (wR rs) w) := by
  have hmax := h.max
  have hw : IntKind.i64.wrap (n - (rs.length : Int)) = n - rs.length := IntWalk.i64_in _ (by omega)
  by_cases hn : n - (rs.length : Int) < 0
  · have hb : decide (n - (rs.length : Int) < 0) = true := decide_eq_true hn
    have hb2 : decide (n < (rs.length : Int)) = true := decide_eq_true (by omega)
    go_enter Try.func54, Try.ntmps54
    go_wp2
    go_ret
    exact ⟨_, rfl, fun h => by omega, On.refl _⟩
  · have hb : decide (n - (rs.length : Int) < 0) = false := decide_eq_false hn
    have hb2 : decide (n < (rs.length : Int)) = false := decide_eq_false (by omega)
    go_enter Try.func54, Try.ntmps54
    go_wp2
    go_loopw [5, 1] (fun v5 v1 wr => ∃ (k : Nat) (m : Int), k ≤ rs.length ∧ v5 = .int .i64 k ∧ v1 = .int .i64 m ∧ 0 ≤ m ∧ Aside0 (m + wR (rs.take k) + (rs.length - k) ≤ n) ∧ On w wr) (fun v5 _ _ => rs.length - (intOf v5).toNat)
    case atStart => exact ⟨0, _, Nat.zero_le _, rfl, rfl, by omega, ⟨by simp [wR]⟩, On.refl _⟩
    case round =>
      obtain ⟨k, m, hk, rfl, rfl, hm, hp, hB⟩ := hrel
      by_cases hlt : k < rs.length
      · obtain ⟨ad, rfl, hx0, hx1, hx2⟩ := (h.on hB).at k hlt
        have hst := Aside0.mk (wR_take rs k hlt)
        have hmn := Aside0.mk (show m ≤ n by have := hp.out; omega)
        have hsr := hsz _ (List.getElem_mem hlt)
        have hrest := Aside0.mk (show m + wR (rs.take (k + 1)) + (rs.length - (k + 1 : Nat)) ≤ n + rs[k].1.size by have := hp.out; have := hst.out; omega)
        clear hp
        go_wp2_with (go_at_call 99; refine (szRelation_calls wr rs[k] m hm (by have := hmn.out; omega) hsr).mono ?_; rintro e w3 ⟨q, rfl, hq0, hb3⟩; have hq := Aside0.mk hq0; clear hq0; by_cases hneg : q < 0)
        · go_ret
          exact ⟨_, rfl, fun h => by omega, hB.trans hb3⟩
        · go_roundw
          case rel => exact ⟨k + 1, q, by omega, by go_num, rfl, by omega, ⟨by have := hrest.out; have := hq.out (by omega); omega⟩, hB.trans hb3⟩
          case measure => simp [intOf]; omega
      · go_wp2
        go_ret
        refine ⟨_, rfl, fun h => ?_, hB⟩
        have h1 := hp.out
        rw [List.take_of_length_le (by omega)] at h1
        omega
theorem toRelation_calls (w : World) (r : Rel) : Calls Try.prog 101 #[.agg #[.string r.1, .int .i64 r.2.1, .bool r.2.2]] w fun e w' => e = .returned (.agg #[.string r.1, .int .i64 r.2.1, .bool r.2.2]) ∧ On w w' := by
  go_enter Try.func101, Try.ntmps101
  go_wp2
  refine bodyPost_ret (retR rfl rfl (g := w.heap.size + 1) (by have := heap_alloc2_old (w.alloc (.cells #[.string r.1, .int .i64 r.2.1, .bool r.2.2] 105)) (.cells #[.string r.1, .int .i64 r.2.1, .bool r.2.2] 87) (.cells #[.string r.1, .int .i64 r.2.1, .bool r.2.2] 87); simpa using this) rfl) rfl ?_
  exact ⟨rfl, On.alloc (On.alloc (On.alloc (On.refl _) _) _) _⟩
theorem toIntS_calls (w : World) (A c) (xs : List Int) (h : Ints w A c xs) (hl : xs.length ≤ 2000000) : Calls Try.prog 78 #[.slice A xs.length c] w (Got fun v w' => OI w' w.heap.size v xs ∧ On w w') := by
  go_enter Try.func78, Try.ntmps78
  go_wp2_with (refine gate 7 ?_)
  refine ⟨mkRow 7 (m := xs.length) Try.underlying27 infoI rfl (by omega) (by omega) fun hO => ?_⟩
  have hB := On.alloc (On.refl w) (.cells (madeCells (Value.int .i64 0).cells (xs.length * 1)) 3)
  obtain ⟨w1, hw1⟩ : ∃ w1, w.alloc (.cells (madeCells (Value.int .i64 0).cells (xs.length * 1)) 3) = w1 := ⟨_, rfl⟩
  rw [hw1] at hO hB ⊢
  clear hw1
  have hO' := Aside0.mk hO
  clear hO
  go_wp2
  go_loopw [4] (fun v wr => ∃ (k : Nat) (cs : List Value), k ≤ xs.length ∧ v = .int .i64 k ∧ Aside0 (wr.ownsRow w.heap.size 3 1 (.slice (some ⟨w.heap.size, 0, none⟩) xs.length xs.length) xs.length ((xs.take k).flatMap encI ++ cs)) ∧ On w wr) (fun v _ => xs.length - (intOf v).toNat)
  case atStart => exact ⟨0, _, Nat.zero_le _, rfl, by simpa using hO', hB⟩
  case round =>
    obtain ⟨k, cs, hk, rfl, hO, hB⟩ := hrel
    by_cases hlt : k < xs.length
    · obtain ⟨ad, rfl, hx⟩ := (h.on hB).at k hlt
      have hcl := Aside0.mk (show 0 < cs.length by have := hO.out.1; simp [flat_len (enc := encI) (sz := 1) (fun _ => rfl)] at this; omega)
      have hfz : wr.frozen? ⟨w.heap.size, k, none⟩ = false := own_frozen hO.out k
      obtain ⟨z, hz⟩ := own_some hO.out k (by omega)
      have hO2 := hO
      clear hO
      go_wp2
      obtain ⟨z0, cs', rfl⟩ : ∃ z0 cs', cs = z0 :: cs' := by
        cases cs with
        | nil => exact absurd hcl.out (by simp)
        | cons a b => exact ⟨a, b, rfl⟩
      refine ⟨⟨k + 1, cs', by omega, by go_num, ⟨?_⟩, Reg.On.set hB (Nat.le_refl _) _⟩, by simp [intOf]; omega⟩
      have := (hO2.out.stored k (.int .i64 xs[k])).1
      rw [set1 k (by simp [flat_len (enc := encI) (sz := 1) (fun _ => rfl)]; omega)] at this
      rw [flat_take_succ xs k hlt, List.append_assoc]
      exact this
    · have hO2 := hO
      clear hO
      go_wp2
      go_ret
      refine ⟨_, rfl, ?_, hB⟩
      have h1 := hO2.out
      have h2 := h1.1
      rw [List.take_of_length_le (by omega)] at h1 h2
      have h3 : cs = [] := by
        rw [List.length_append, flat_len (enc := encI) (sz := 1) (fun _ => rfl)] at h2
        exact List.eq_nil_of_length_eq_zero (by omega)
      subst h3
      rw [List.append_nil] at h1
      exact h1
theorem szFactS_calls (w : World) (A c) (fs : List Fct) (n : Int) (h0 : 0 ≤ n) (h1 : n ≤ 2000000) (h : Fcts w A c fs) : Calls Try.prog 55 #[.slice A fs.length c, .int .i64 n] w (Sz n (wF fs) w) := by
  have hmax := h.max
  have hw : IntKind.i64.wrap (n - (fs.length : Int)) = n - fs.length := IntWalk.i64_in _ (by omega)
  by_cases hn : n - (fs.length : Int) < 0
  · have hb : decide (n - (fs.length : Int) < 0) = true := decide_eq_true hn
    have hb2 : decide (n < (fs.length : Int)) = true := decide_eq_true (by omega)
    go_enter Try.func55, Try.ntmps55
    go_wp2
    go_ret
    exact ⟨_, rfl, fun h => by omega, On.refl _⟩
  · have hb : decide (n - (fs.length : Int) < 0) = false := decide_eq_false hn
    have hb2 : decide (n < (fs.length : Int)) = false := decide_eq_false (by omega)
    go_enter Try.func55, Try.ntmps55
    go_wp2
    go_loopw [5, 1] (fun v5 v1 wr => ∃ (k : Nat) (m : Int), k ≤ fs.length ∧ v5 = .int .i64 k ∧ v1 = .int .i64 m ∧ 0 ≤ m ∧ Aside0 (m + wF (fs.take k) + (fs.length - k) ≤ n) ∧ On w wr) (fun v5 _ _ => fs.length - (intOf v5).toNat)
    case atStart => exact ⟨0, _, Nat.zero_le _, rfl, rfl, by omega, ⟨by simp [wF]⟩, On.refl _⟩
    case round =>
      obtain ⟨k, m, hk, rfl, rfl, hm, hp, hB⟩ := hrel
      by_cases hlt : k < fs.length
      · obtain ⟨ad, A1, c1, rfl, hx0, hx1, hx2⟩ := (h.on hB).at k hlt
        have hst := Aside0.mk (wF_take fs k hlt)
        have hmn := Aside0.mk (show m ≤ n by have := hp.out; omega)
        have hrest := Aside0.mk (show m + wF (fs.take (k + 1)) + (fs.length - (k + 1 : Nat)) ≤ n + fs[k].2.length by have := hp.out; have := hst.out; omega)
        clear hp
        go_wp2_with (go_at_call 31; refine (szFact_calls wr A1 c1 fs[k] m hm (by have := hmn.out; omega) hx2).mono ?_; rintro e w3 ⟨q, rfl, hq0, hb3⟩; have hq := Aside0.mk hq0; clear hq0; by_cases hneg : q < 0)
        · go_ret
          exact ⟨_, rfl, fun h => by omega, hB.trans hb3⟩
        · go_roundw
          case rel => exact ⟨k + 1, q, by omega, by go_num, rfl, by omega, ⟨by have := hrest.out; have := hq.out (by omega); omega⟩, hB.trans hb3⟩
          case measure => simp [intOf]; omega
      · go_wp2
        go_ret
        refine ⟨_, rfl, fun h => ?_, hB⟩
        have h1 := hp.out
        rw [List.take_of_length_le (by omega)] at h1
        omega
end Go.Proofs.Ytngjhblbpapjeaa.H
