/- Walks: the laws' own comparisons, of what is the same. No condition. -/
import Derived.Test.YtngjhblbpapjeaaHL2
namespace Go.Proofs.Ytngjhblbpapjeaa.H
open Go Go.RowKit Go.Proofs.YtngjhblbpapjeaaW.PrintWords Go.Proofs.YtngjhblbpapjeaaW.PrintLast
open Go.Proofs.Ytngjhblbpapjeaa.Reg (On on_draw)
set_option maxHeartbeats 1000000
set_option maxRecDepth 100000
set_option linter.unusedVariables false
set_option linter.unusedSimpArgs false

theorem eqIntS_calls (w : World) (A c B d) (xs : List Int) (h1 : Ints w A c xs) (h2 : Ints w B d xs) : Calls Try.prog 16 #[.slice A xs.length c, .slice B xs.length d] w fun e w' => e = .returned (.bool true) ∧ On w w' := by
  have hmax := h1.max
  go_enter Try.func16, Try.ntmps16
  go_wp2
  go_loopw [5] (fun v wr => ∃ k : Nat, k ≤ xs.length ∧ v = .int .i64 k ∧ On w wr) (fun v _ => xs.length - (intOf v).toNat)
  case atStart => exact ⟨0, Nat.zero_le _, rfl, On.refl _⟩
  case round =>
    obtain ⟨k, hk, rfl, hB⟩ := hrel
    by_cases hlt : k < xs.length
    · obtain ⟨ad, rfl, hx⟩ := (h1.on hB).at k hlt
      obtain ⟨bd, rfl, hy⟩ := (h2.on hB).at k hlt
      go_wp2
      refine Reg.region [(0,.L),(1,.L),(2,.L),(3,.L),(4,.L),(5,.L),(6,.L),(7,.L),(8,.L)] [] (by kernel_rfl) (by kernel_rfl) ?_
      repeat first | refine sP ?_ | refine sS ?_ | refine sA ?_ | refine sL ?_ | refine sQ ?_ | refine sO ?_
      refine Reg.nil fun w2 hS => ?_
      go_wp2
      go_roundw
      case rel => exact ⟨k + 1, by omega, by go_num, hB.trans hS⟩
      case measure => simp [intOf]; omega
    · go_wp2
      go_ret
      exact ⟨rfl, hB⟩
theorem eqRelation_calls (w : World) (r : Rel) : Calls Try.prog 105 #[.agg #[.string r.1, .int .i64 r.2.1, .bool r.2.2], .agg #[.string r.1, .int .i64 r.2.1, .bool r.2.2]] w fun e w' => e = .returned (.bool true) ∧ On w w' := by
  go_enter Try.func105, Try.ntmps105
  go_wp2
  go_ret
  exact ⟨rfl, On.alloc (On.alloc (On.refl _) _) _⟩
theorem eqFact_calls (w : World) (A c B d) (f : Fct) (h1 : Ints w A c f.2) (h2 : Ints w B d f.2) : Calls Try.prog 35 #[.agg #[.int .i64 f.1, .slice A f.2.length c], .agg #[.int .i64 f.1, .slice B f.2.length d]] w fun e w' => e = .returned (.bool true) ∧ On w w' := by
  have hb := Aside0.mk (On.alloc (On.alloc (On.refl w) (.cells #[.int .i64 f.1, .slice A f.2.length c] 55)) (.cells #[.int .i64 f.1, .slice B f.2.length d] 55))
  go_enter Try.func35, Try.ntmps35
  go_wp2_with (go_at_call 16; refine (eqIntS_calls _ A c B d f.2 (h1.on hb.out) (h2.on hb.out)).mono ?_; rintro e w1 ⟨rfl, hb1⟩)
  go_ret
  exact ⟨rfl, hb.out.trans hb1⟩
theorem eqRelationS_calls (w : World) (A c B d) (rs : List Rel) (h1 : Rels w A c rs) (h2 : Rels w B d rs) : Calls Try.prog 61 #[.slice A rs.length c, .slice B rs.length d] w fun e w' => e = .returned (.bool true) ∧ On w w' := by
  have hmax := h1.max
  go_enter Try.func61, Try.ntmps61
  go_wp2
  go_loopw [5] (fun v wr => ∃ k : Nat, k ≤ rs.length ∧ v = .int .i64 k ∧ On w wr) (fun v _ => rs.length - (intOf v).toNat)
  case atStart => exact ⟨0, Nat.zero_le _, rfl, On.refl _⟩
  case round =>
    obtain ⟨k, hk, rfl, hB⟩ := hrel
    by_cases hlt : k < rs.length
    · obtain ⟨ad, rfl, hx0, hx1, hx2⟩ := (h1.on hB).at k hlt
      obtain ⟨bd, rfl, hy0, hy1, hy2⟩ := (h2.on hB).at k hlt
      go_wp2
      refine Reg.region [(0,.L),(1,.L),(2,.L),(3,.L),(4,.L),(5,.L),(6,.L),(7,.L),(8,.C),(9,.L)] [] (by kernel_rfl) (by kernel_rfl) ?_
      repeat first | refine sP ?_ | refine sS ?_ | refine sA ?_ | refine sL ?_ | refine sQ ?_ | refine sO ?_
      refine callC (.bool true) Try.func105 (fun w' hS => ?_) ?_
      focus exact eqRelation_calls w' rs[k]
      repeat first | refine sP ?_ | refine sS ?_ | refine sA ?_ | refine sL ?_ | refine sQ ?_ | refine sO ?_
      refine Reg.nil fun w2 hS => ?_
      go_wp2
      go_roundw
      case rel => exact ⟨k + 1, by omega, by go_num, hB.trans hS⟩
      case measure => simp [intOf]; omega
    · go_wp2
      go_ret
      exact ⟨rfl, hB⟩
theorem eqFactS_calls (w : World) (A c B d) (fs : List Fct) (h1 : Fcts w A c fs) (h2 : Fcts w B d fs) : Calls Try.prog 62 #[.slice A fs.length c, .slice B fs.length d] w fun e w' => e = .returned (.bool true) ∧ On w w' := by
  have hmax := h1.max
  go_enter Try.func62, Try.ntmps62
  go_wp2
  go_loopw [5] (fun v wr => ∃ k : Nat, k ≤ fs.length ∧ v = .int .i64 k ∧ On w wr) (fun v _ => fs.length - (intOf v).toNat)
  case atStart => exact ⟨0, Nat.zero_le _, rfl, On.refl _⟩
  case round =>
    obtain ⟨k, hk, rfl, hB⟩ := hrel
    by_cases hlt : k < fs.length
    · obtain ⟨ad, A1, c1, rfl, hx0, hx1, hx2⟩ := (h1.on hB).at k hlt
      obtain ⟨bd, B1, d1, rfl, hy0, hy1, hy2⟩ := (h2.on hB).at k hlt
      go_wp2
      refine Reg.region [(0,.L),(1,.L),(2,.L),(3,.L),(4,.L),(5,.L),(6,.L),(7,.L),(8,.C),(9,.L)] [] (by kernel_rfl) (by kernel_rfl) ?_
      repeat first | refine sP ?_ | refine sS ?_ | refine sA ?_ | refine sL ?_ | refine sQ ?_ | refine sO ?_
      refine callC (.bool true) Try.func35 (fun w' hS => ?_) ?_
      focus exact eqFact_calls w' A1 c1 B1 d1 fs[k] (hx2.on hS) (hy2.on hS)
      repeat first | refine sP ?_ | refine sS ?_ | refine sA ?_ | refine sL ?_ | refine sQ ?_ | refine sO ?_
      refine Reg.nil fun w2 hS => ?_
      go_wp2
      go_roundw
      case rel => exact ⟨k + 1, by omega, by go_num, hB.trans hS⟩
      case measure => simp [intOf]; omega
    · go_wp2
      go_ret
      exact ⟨rfl, hB⟩
theorem eqInstance_calls (w : World) (A0 c0 A1 c1 B0 d0 B1 d1) (rs : List Rel) (fs : List Fct) (h0 : Rels w A0 c0 rs) (h1 : Fcts w A1 c1 fs) (h2 : Rels w B0 d0 rs) (h3 : Fcts w B1 d1 fs) : Calls Try.prog 17 #[.agg #[.slice A0 rs.length c0, .slice A1 fs.length c1], .agg #[.slice B0 rs.length d0, .slice B1 fs.length d1]] w fun e w' => e = .returned (.bool true) ∧ On w w' := by
  have hb := Aside0.mk (On.alloc (On.alloc (On.refl w) (.cells #[.slice A0 rs.length c0, .slice A1 fs.length c1] 32)) (.cells #[.slice B0 rs.length d0, .slice B1 fs.length d1] 32))
  have hL := Aside0.mk (loc2 w #[.slice A0 rs.length c0, .slice A1 fs.length c1] #[.slice B0 rs.length d0, .slice B1 fs.length d1] 32 32)
  go_enter Try.func17, Try.ntmps17
  go_wp2_with (first | (go_at_call 61; refine (eqRelationS_calls _ A0 c0 B0 d0 rs (h0.on hb.out) (h2.on hb.out)).mono ?_; rintro e w1 ⟨rfl, hb1⟩; have hL1 := Loc.on hb1 hL.out; have hc0 := blk_cell hL1.1; have hc1 := blk_cell hL1.2.1; have hL2 := Aside0.mk hL1; clear hL1) | (go_at_call 62; refine (eqFactS_calls _ A1 c1 B1 d1 fs (h1.on (hb.out.trans hb1)) (h3.on (hb.out.trans hb1))).mono ?_; rintro e w2 ⟨rfl, hb2⟩))
  go_ret
  exact ⟨rfl, (hb.out.trans hb1).trans hb2⟩
end Go.Proofs.Ytngjhblbpapjeaa.H
