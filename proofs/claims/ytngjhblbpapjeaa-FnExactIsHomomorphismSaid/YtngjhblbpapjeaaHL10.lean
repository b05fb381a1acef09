/- Walks: the laws' own substitutions: size, copy, comparison. No condition. -/
import Derived.Test.YtngjhblbpapjeaaHL9
namespace Go.Proofs.Ytngjhblbpapjeaa.H
open Go Go.RowKit Go.Proofs.YtngjhblbpapjeaaW.PrintWords Go.Proofs.YtngjhblbpapjeaaW.PrintLast
open Go.Proofs.Ytngjhblbpapjeaa.Reg (On on_draw)
set_option maxHeartbeats 4000000
set_option maxRecDepth 100000
set_option linter.unusedVariables false
set_option linter.unusedSimpArgs false

section
variable {fn : Func} {p : Tmp} {tmps : Array Value} {w : World} {g : Nat} {t : TypeId} {cs : Array Value} {fr : Nat × Nat}
theorem retSu (h : fn.results = #[.cell p 45]) (hp : tmps.getD p undef = .pointer (some ⟨g, 0, none⟩)) (hg : w.heap[g]? = some (.cells cs t fr)) (hs : cs.size = 2) : (results fn tmps).run Try.prog w = .ok (.agg cs) w :=
  results_cell_row h tmps w g t cs fr _ hp hg Try.underlying45 rfl (by rw [hs]; kernel_rfl)
end
theorem szSubstitution_calls (w : World) (A0 c0 A1 c1) (ns vs : List Int) (n : Int) (h0 : 0 ≤ n) (h1 : n ≤ 2000000) (hr : Ints w A0 c0 ns) (hf : Ints w A1 c1 vs) : Calls Try.prog 24 #[.agg #[.slice A0 ns.length c0, .slice A1 vs.length c1], .int .i64 n] w (Sz n (ns.length + vs.length) w) := by
  have hb := Aside0.mk (On.alloc (On.refl w) (.cells #[.slice A0 ns.length c0, .slice A1 vs.length c1] 42))
  go_enter Try.func24, Try.ntmps24
  go_wp2_with (first | (go_at_call 72; refine (szIntS_calls _ A1 c1 vs q (by omega) (by have := hq.out (by omega); omega) (hf.on (hb.out.trans hb1))).mono ?_; rintro e w2 ⟨q2, rfl, hq0, hb2⟩; have hq2 := Aside0.mk hq0; clear hq0; by_cases hneg2 : q2 < 0) | (go_at_call 72; refine (szIntS_calls _ A0 c0 ns n h0 h1 (hr.on hb.out)).mono ?_; rintro e w1 ⟨q, rfl, hq0, hb1⟩; have hq := Aside0.mk hq0; clear hq0; have hc0 := blk_cell (Loc.on hb1 (loc1 w #[.slice A0 ns.length c0, .slice A1 vs.length c1] 42)).1; by_cases hneg : q < 0))
  all_goals
    go_ret
    first | exact ⟨_, rfl, fun h => by omega, (hb.out.trans hb1).trans hb2⟩ | exact ⟨_, rfl, fun h => by omega, hb.out.trans hb1⟩ | exact ⟨_, rfl, fun h => by have := hq.out (by omega); have := hq2.out (by omega); omega, (hb.out.trans hb1).trans hb2⟩
theorem toSubstitution_calls (w : World) (A0 c0 A1 c1) (ns vs : List Int) (h0 : Ints w A0 c0 ns) (h1 : Ints w A1 c1 vs) (hl0 : ns.length ≤ 2000000) (hl : vs.length ≤ 2000000) : Calls Try.prog 26 #[.agg #[.slice A0 ns.length c0, .slice A1 vs.length c1]] w (Got fun v w' => ∃ v1 v2, v = .agg #[v1, v2] ∧ OI w' w.heap.size v1 ns ∧ OI w' w.heap.size v2 vs ∧ On w w') := by
  have hb := Aside0.mk (On.alloc (On.alloc (On.alloc (On.refl w) (.cells #[.slice A0 ns.length c0, .slice A1 vs.length c1] 42)) (.cells #[.slice none 0 0, .slice none 0 0] 45)) (.cells #[.slice none 0 0, .slice none 0 0] 45))
  have hL := Aside0.mk (loc3 w #[.slice A0 ns.length c0, .slice A1 vs.length c1] #[.slice none 0 0, .slice none 0 0] #[.slice none 0 0, .slice none 0 0] 42 45 45)
  go_enter Try.func26, Try.ntmps26
  go_wp2_with (first | (go_at_call 78; have hB2 := Aside0.mk (Reg.On.set (hb.out.trans hb1) (p := ⟨w.heap.size + 1 + 1, 0, none⟩) (by simp; omega) (.slice A2 ns.length c2)); refine (toIntS_calls _ A1 c1 vs (h1.on hB2.out) hl).mono ?_; rintro e w3 ⟨v3, rfl, hO3, hb3⟩; obtain ⟨A3, c3, rfl⟩ := own_slice hO3; clear hc0 hc1 hc2 hf1 hf2; have hk1 := blk_below (blk_far hL1.out.2.1 (p := ⟨w.heap.size + 1 + 1, 0, none⟩) (by simp) (.slice A2 ns.length c2)) hb3; have hk2 : w3.heap[w.heap.size + 1 + 1]? = some (.cells #[.slice A2 ns.length c2, .slice none 0 0] 45 (0, 0)) := blk_below (blk_set hL1.out.2.2.1 0 (.slice A2 ns.length c2)) hb3; have hc1 := blk_cell hk1; have hc2 := blk_cell hk2; have hf1 := blk_frozen hk1; have hf2 := blk_frozen hk2; have hk1' := Aside0.mk hk1; clear hk1 hk2; have hO3' := Aside0.mk hO3; clear hO3; have hb3' := Aside0.mk hb3; clear hb3) | (go_at_call 78; refine (toIntS_calls _ A0 c0 ns (h0.on hb.out) hl0).mono ?_; rintro e w1 ⟨v1, rfl, hO, hb1⟩; obtain ⟨A2, c2, rfl⟩ := own_slice hO; have hL1 := Aside0.mk (Loc.on hb1 hL.out); have hc0 := blk_cell hL1.out.1; have hc1 := blk_cell hL1.out.2.1; have hc2 : ∀ i, w1.cell? ⟨w.heap.size + 1 + 1, i, none⟩ = _ := blk_cell hL1.out.2.2.1; have hf1 := blk_frozen hL1.out.2.1; have hf2 : ∀ i, w1.frozen? ⟨w.heap.size + 1 + 1, i, none⟩ = false := blk_frozen hL1.out.2.2.1; have hO' := Aside0.mk hO; clear hO))
  have hsz : (((w.alloc (.cells #[.slice A0 ns.length c0, .slice A1 vs.length c1] 42)).alloc (.cells #[.slice none 0 0, .slice none 0 0] 45)).alloc (.cells #[.slice none 0 0, .slice none 0 0] 45)).heap.size = w.heap.size + 3 := by simp
  have hO := hO'.out
  rw [hsz] at hO
  have hsz1 := hb1.size
  rw [hsz] at hsz1
  have hsz2 : (w1.setCell ⟨w.heap.size + 1 + 1, 0, none⟩ (.slice A2 ns.length c2)).heap.size = w1.heap.size := by simp [World.setCell]
  have hO4 := hO3'.out
  rw [hsz2] at hO4
  refine bodyPost_ret (retSu rfl rfl (g := w.heap.size + 1) (blk_set (blk_set (blk_far hk1'.out (p := ⟨w.heap.size + 1 + 1, 1, none⟩) (by simp) _) 0 _) 1 _) rfl) rfl ?_
  refine ⟨_, rfl, _, _, rfl, ?_, ?_, ?_⟩
  · have h5 := pw_own_below (ownsRow_setCell_below hO (a := ⟨w.heap.size + 1 + 1, 0, none⟩) (by simp) (.slice A2 ns.length c2)) hb3'.out
    exact own_lower (ownsRow_setCell_below (ownsRow_setCell_below (ownsRow_setCell_below h5 (by simp) _) (by simp) _) (by simp) _) (by omega)
  · exact own_lower (ownsRow_setCell_below (ownsRow_setCell_below (ownsRow_setCell_below hO4 (by simp; omega) _) (by simp; omega) _) (by simp; omega) _) (by omega)
  · exact Reg.On.set (Reg.On.set (Reg.On.set (hB2.out.trans hb3'.out) (by simp; omega) _) (by simp) _) (by simp) _
theorem eqSubstitution_calls (w : World) (A0 c0 A1 c1 B0 d0 B1 d1) (ns vs : List Int) (h0 : Ints w A0 c0 ns) (h1 : Ints w A1 c1 vs) (h2 : Ints w B0 d0 ns) (h3 : Ints w B1 d1 vs) : Calls Try.prog 28 #[.agg #[.slice A0 ns.length c0, .slice A1 vs.length c1], .agg #[.slice B0 ns.length d0, .slice B1 vs.length d1]] w fun e w' => e = .returned (.bool true) ∧ On w w' := by
  have hb := Aside0.mk (On.alloc (On.alloc (On.refl w) (.cells #[.slice A0 ns.length c0, .slice A1 vs.length c1] 45)) (.cells #[.slice B0 ns.length d0, .slice B1 vs.length d1] 45))
  have hL := Aside0.mk (loc2 w #[.slice A0 ns.length c0, .slice A1 vs.length c1] #[.slice B0 ns.length d0, .slice B1 vs.length d1] 45 45)
  go_enter Try.func28, Try.ntmps28
  go_wp2_with (first | (go_at_call 16; refine (eqIntS_calls _ A1 c1 B1 d1 vs (h1.on (hb.out.trans hb1)) (h3.on (hb.out.trans hb1))).mono ?_; rintro e w2 ⟨rfl, hb2⟩) | (go_at_call 16; refine (eqIntS_calls _ A0 c0 B0 d0 ns (h0.on hb.out) (h2.on hb.out)).mono ?_; rintro e w1 ⟨rfl, hb1⟩; have hL1 := Loc.on hb1 hL.out; have hc0 := blk_cell hL1.1; have hc1 := blk_cell hL1.2.1; have hL2 := Aside0.mk hL1; clear hL1))
  go_ret
  exact ⟨rfl, (hb.out.trans hb1).trans hb2⟩
/-! In values. -/
structure RSu (w : World) (v : Value) (ns vs : List Int) : Prop where mk :: (out : ∃ A c B d, v = .agg #[.slice A ns.length c, .slice B vs.length d] ∧ Ints w A c ns ∧ Ints w B d vs)
structure OSb (w : World) (lo hi : Nat) (v : Value) (ns vs : List Int) : Prop where mk :: (out : ∃ v1 v2, v = .agg #[v1, v2] ∧ OI w lo v1 ns ∧ OI w lo v2 vs ∧ InR ns ∧ InR vs ∧ (∀ b, v1.ownBlock = some b → b < hi) ∧ ∀ b, v2.ownBlock = some b → b < hi)
structure OSu (w : World) (lo : Nat) (v : Value) (ns vs : List Int) : Prop where mk :: (out : ∃ v1 v2, v = .agg #[v1, v2] ∧ OI w lo v1 ns ∧ OI w lo v2 vs ∧ InR ns ∧ InR vs)
theorem OSu.b {w : World} {lo : Nat} {v : Value} {ns vs : List Int} (h : OSu w lo v ns vs) : OSb w lo w.heap.size v ns vs := by
  obtain ⟨v1, v2, e, h0, h1, h2, h3⟩ := h.out
  exact ⟨v1, v2, e, h0, h1, h2, h3, fun b hb => own_lt h0 b hb, fun b hb => own_lt h1 b hb⟩
theorem OSb.read {w : World} {lo hi : Nat} {v : Value} {ns vs : List Int} (h : OSb w lo hi v ns vs) : RSu w v ns vs := by
  obtain ⟨v1, v2, e, h0, h1, h2, h3, _⟩ := h.out
  obtain ⟨A, c, rfl, k0⟩ := OI.rd h0 h2
  obtain ⟨B, d, rfl, k1⟩ := OI.rd h1 h3
  exact ⟨A, c, B, d, e, k0, k1⟩
theorem OSu.read {w : World} {lo : Nat} {v : Value} {ns vs : List Int} (h : OSu w lo v ns vs) : RSu w v ns vs := h.b.read
theorem OSb.on {W w : World} {lo hi : Nat} {v : Value} {ns vs : List Int} (h : OSb W lo hi v ns vs) (hb : On W w) : OSb w lo hi v ns vs := by
  obtain ⟨v1, v2, e, h0, h1, h2, h3, h4, h5⟩ := h.out
  exact ⟨v1, v2, e, pw_own_below h0 hb, pw_own_below h1 hb, h2, h3, h4, h5⟩
theorem OSb.ex {S : Nat → Prop} {W w : World} {lo hi : Nat} {v : Value} {ns vs : List Int} (h : OSb W lo hi v ns vs) (k : Ex S W w) (hS : ∀ b, lo ≤ b → b < hi → ¬ S b) : OSb w lo hi v ns vs := by
  obtain ⟨v1, v2, e, h0, h1, h2, h3, h4, h5⟩ := h.out
  exact ⟨v1, v2, e, own_ex h0 k (fun i hi h => hS i (own_base h0 i hi) (h4 i hi) h), own_ex h1 k (fun i hi h => hS i (own_base h1 i hi) (h5 i hi) h), h2, h3, h4, h5⟩
theorem RSu.on {W w : World} {v : Value} {ns vs : List Int} (h : RSu W v ns vs) (hb : On W w) : RSu w v ns vs := by
  obtain ⟨A, c, B, d, e, h0, h1⟩ := h.out
  exact ⟨A, c, B, d, e, h0.on hb, h1.on hb⟩
theorem RSu.shape {w : World} {v : Value} {ns vs : List Int} (h : RSu w v ns vs) : ∃ A n c B m d, v = .agg #[.slice A n c, .slice B m d] := by
  obtain ⟨A, c, B, d, e, _⟩ := h.out
  exact ⟨_, _, _, _, _, _, e⟩
theorem szS_calls (w : World) (v : Value) (ns vs : List Int) (n : Int) (h0 : 0 ≤ n) (h1 : n ≤ 2000000) (h : RSu w v ns vs) : Calls Try.prog 24 #[v, .int .i64 n] w (Sz n (ns.length + vs.length) w) := by
  obtain ⟨A, c, B, d, rfl, k0, k1⟩ := h.out
  exact szSubstitution_calls w A c B d ns vs n h0 h1 k0 k1
theorem toS_calls (w : World) (v : Value) (ns vs : List Int) (h : RSu w v ns vs) (hl : ns.length + vs.length ≤ 1048576) : Calls Try.prog 26 #[v] w (Got fun v w' => OSu w' w.heap.size v ns vs ∧ On w w') := by
  obtain ⟨A, c, B, d, rfl, k0, k1⟩ := h.out
  refine (toSubstitution_calls w A c B d ns vs k0 k1 (by omega) (by omega)).mono fun e w' hh => ?_
  obtain ⟨v, rfl, v1, v2, rfl, hO, hO2, hb⟩ := hh
  exact ⟨_, rfl, ⟨v1, v2, rfl, hO, hO2, k0.2.2, k1.2.2⟩, hb⟩
theorem eqS_calls (w : World) (v u : Value) (ns vs : List Int) (h : RSu w v ns vs) (k : RSu w u ns vs) : Calls Try.prog 28 #[v, u] w fun e w' => e = .returned (.bool true) ∧ On w w' := by
  obtain ⟨A, c, B, d, rfl, h0, h1⟩ := h.out
  obtain ⟨A2, c2, B2, d2, rfl, k0, k1⟩ := k.out
  exact eqSubstitution_calls w A c B d A2 c2 B2 d2 ns vs h0 h1 k0 k1
end Go.Proofs.Ytngjhblbpapjeaa.H
