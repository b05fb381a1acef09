/- Walks: the laws' own copies. No condition. -/
import Derived.Test.YtngjhblbpapjeaaHL3
namespace Go.Proofs.Ytngjhblbpapjeaa.H
open Go Go.RowKit Go.Proofs.YtngjhblbpapjeaaW.PrintWords Go.Proofs.YtngjhblbpapjeaaW.PrintLast
open Go.Proofs.Ytngjhblbpapjeaa.Reg (On on_draw)
set_option maxHeartbeats 1000000
set_option maxRecDepth 100000
set_option linter.unusedVariables false
set_option linter.unusedSimpArgs false

theorem toFact_calls (w : World) (A c) (f : Fct) (h : Ints w A c f.2) (hl : f.2.length ≤ 2000000) : Calls Try.prog 33 #[.agg #[.int .i64 f.1, .slice A f.2.length c]] w (Got fun v w' => ∃ v1, v = .agg #[.int .i64 f.1, v1] ∧ OI w' w.heap.size v1 f.2 ∧ On w w') := by
  have hb := Aside0.mk (On.alloc (On.alloc (On.alloc (On.refl w) (.cells #[.int .i64 f.1, .slice A f.2.length c] 51)) (.cells #[.int .i64 0, .slice none 0 0] 55)) (.cells #[.int .i64 f.1, .slice none 0 0] 55))
  have hL := Aside0.mk (loc3 w #[.int .i64 f.1, .slice A f.2.length c] #[.int .i64 0, .slice none 0 0] #[.int .i64 f.1, .slice none 0 0] 51 55 55)
  go_enter Try.func33, Try.ntmps33
  go_wp2_with (go_at_call 78; refine (toIntS_calls _ A c f.2 (h.on hb.out) hl).mono ?_; rintro e w1 ⟨v1, rfl, hO, hb1⟩; obtain ⟨A1, c1, rfl⟩ := own_slice hO; have hL1 := Aside0.mk (Loc.on hb1 hL.out); have hc1 := blk_cell hL1.out.2.1; have hc2 : ∀ i, w1.cell? ⟨w.heap.size + 1 + 1, i, none⟩ = _ := blk_cell hL1.out.2.2.1; have hf1 := blk_frozen hL1.out.2.1; have hf2 : ∀ i, w1.frozen? ⟨w.heap.size + 1 + 1, i, none⟩ = false := blk_frozen hL1.out.2.2.1; have hO' := Aside0.mk hO; clear hO)
  refine bodyPost_ret (retF rfl rfl (g := w.heap.size + 1) (blk_set (blk_set (blk_far hL1.out.2.1 (p := ⟨w.heap.size + 1 + 1, 1, none⟩) (by simp) _) 0 _) 1 _) rfl) rfl ?_
  have hsz : (((w.alloc (.cells #[.int .i64 f.1, .slice A f.2.length c] 51)).alloc (.cells #[.int .i64 0, .slice none 0 0] 55)).alloc (.cells #[.int .i64 f.1, .slice none 0 0] 55)).heap.size = w.heap.size + 3 := by simp
  have hO := hO'.out
  rw [hsz] at hO
  exact ⟨_, rfl, _, rfl, own_lower (ownsRow_setCell_below (ownsRow_setCell_below (ownsRow_setCell_below hO (by simp) _) (by simp) _) (by simp) _) (by omega), Reg.On.set (Reg.On.set (Reg.On.set (hb.out.trans hb1) (by simp; omega) _) (by simp) _) (by simp) _⟩
theorem toFactS_calls (w : World) (A c) (fs : List Fct) (h : Fcts w A c fs) (hl : fs.length ≤ 2000000) (hl2 : ∀ f ∈ fs, f.2.length ≤ 2000000) : Calls Try.prog 59 #[.slice A fs.length c] w (Got fun v w' => ∃ hs, OH w' w.heap.size v hs ∧ Sep w' (w.heap.size + 1) hs fs ∧ (∃ n c, v = .slice (some ⟨w.heap.size, 0, none⟩) n c) ∧ On w w') := by
  go_enter Try.func59, Try.ntmps59
  go_wp2_with (refine gate 7 ?_)
  refine ⟨mkRow 7 (m := fs.length) Try.underlying30 infoF rfl (by omega) (by omega) fun hO => ?_⟩
  obtain ⟨cs0, hcs0⟩ : ∃ cs0, madeCells (Value.agg #[.int .i64 0, .slice none 0 0]).cells (fs.length * 2) = cs0 := ⟨_, rfl⟩
  rw [hcs0] at hO ⊢
  clear hcs0
  have hB := On.alloc (On.refl w) (.cells cs0 55)
  have hsz : (w.alloc (.cells cs0 55)).heap.size = w.heap.size + 1 := by simp
  obtain ⟨w1, hw1⟩ : ∃ w1, w.alloc (.cells cs0 55) = w1 := ⟨_, rfl⟩
  rw [hw1] at hO hB hsz ⊢
  clear hw1
  have hO' := Aside0.mk hO
  have hsz' := Aside0.mk hsz
  clear hO hsz
  go_wp2
  go_loopw [4] (fun v wr => ∃ (k : Nat) (hs : List Hdr) (cs : List Value), k ≤ fs.length ∧ v = .int .i64 k ∧ Aside0 (wr.ownsRow w.heap.size 55 2 (.slice (some ⟨w.heap.size, 0, none⟩) fs.length fs.length) fs.length (hs.flatMap encH ++ cs)) ∧ Aside0 (Sep wr (w.heap.size + 1) hs (fs.take k)) ∧ Aside0 (w.heap.size + 1 ≤ wr.heap.size) ∧ On w wr) (fun v _ => fs.length - (intOf v).toNat)
  case atStart => exact ⟨0, [], _, Nat.zero_le _, rfl, by simpa using hO', ⟨Sep.nil _ _⟩, ⟨by rw [hsz'.out]; exact Nat.le_refl _⟩, hB⟩
  case round =>
    obtain ⟨k, hs, cs, hk, rfl, hO, hS, hwr, hB⟩ := hrel
    have hlen := Aside0.mk (show hs.length = k by have := hS.out.len; rw [List.length_take] at this; omega)
    by_cases hlt : k < fs.length
    · obtain ⟨ad, A1, c1, rfl, hx0, hx1, hx2⟩ := (h.on hB).at k hlt
      have hcl := Aside0.mk (show 2 ≤ cs.length by have h1 := hO.out.1; have h2 := hlen.out; rw [List.length_append, flat_len (enc := encH) (sz := 2) (fun _ => rfl)] at h1; omega)
      have hO2 := hO
      have hl3 := hl2 _ (List.getElem_mem hlt)
      clear hO
      go_wp2_with (go_at_call 33; refine (toFact_calls wr A1 c1 fs[k] hx2 hl3).mono ?_; rintro e w2 ⟨v0, rfl, v1, rfl, hO1, hb2⟩; obtain ⟨A2, c2, rfl⟩ := own_slice hO1; have hO4 := Aside0.mk hO1; clear hO1; have hO3 := Aside0.mk (pw_own_below hO2.out hb2); have hfz := own_frozen hO3.out (k * 2); have hfz1 := own_frozen hO3.out (k * 2 + 1); obtain ⟨z, hz⟩ := own_some hO3.out (k * 2) (by omega); obtain ⟨z1, hz1⟩ := own_some hO3.out (k * 2 + 1) (by omega))
      obtain ⟨z0, z1, hcs⟩ := split2 (cs := cs) (i := 0) (by have := hcl.out; omega)
      simp only [List.take_zero, List.nil_append, Nat.zero_add] at hcs
      have hS2 := Sep.snoc (a := (fs[k].1, A2, fs[k].2.length, c2)) hS.out hb2 hwr.out rfl hO4.out hx2.2.2
      refine ⟨⟨k + 1, hs ++ [(fs[k].1, A2, fs[k].2.length, c2)], cs.drop 2, by omega, by go_num, ⟨?_⟩, ⟨?_⟩, ⟨?_⟩, Reg.On.set (Reg.On.set (hB.trans hb2) (Nat.le_refl _) _) (Nat.le_refl _) _⟩, by simp [intOf]; omega⟩
      · have := ((hO3.out.stored (k * 2) (.int .i64 fs[k].1)).1.stored (k * 2 + 1) (.slice A2 fs[k].2.length c2)).1
        rw [hcs, set2 (k * 2) (by rw [flat_len (enc := encH) (sz := 2) (fun _ => rfl), hlen.out])] at this
        rw [List.flatMap_append, List.append_assoc]
        exact this
      · rw [List.take_succ_eq_append_getElem hlt]
        exact Sep.set (Sep.set hS2 (Nat.lt_succ_self _) _) (Nat.lt_succ_self _) _
      · have := hb2.size; have := hwr.out; simp [World.setCell]; omega
    · have hO2 := hO
      clear hO
      go_wp2
      go_ret
      have h1 := hO2.out
      have h2 := h1.1
      have h4 := hlen.out
      have h5 := hS.out
      rw [List.take_of_length_le (by omega)] at h5
      have h3 : cs = [] := by
        rw [List.length_append, flat_len (enc := encH) (sz := 2) (fun _ => rfl)] at h2
        exact List.eq_nil_of_length_eq_zero (by omega)
      subst h3
      rw [List.append_nil] at h1
      refine ⟨_, rfl, hs, ?_, h5, ⟨_, _, rfl⟩, hB⟩
      show World.ownsRow _ _ _ _ _ hs.length _
      rw [show hs.length = fs.length by omega]
      exact h1
/-- An instance of the call's own, its facts' rows lying apart. -/
structure OIn (w : World) (lo : Nat) (v : Value) (rs : List Rel) (fs : List Fct) : Prop where mk :: (out : ∃ vr vf hs, v = .agg #[vr, vf] ∧ OR w lo vr rs ∧ OH w lo vf hs ∧ Sep w lo hs fs)
theorem toInstance_calls (w : World) (A0 c0 A1 c1) (rs : List Rel) (fs : List Fct) (h0 : Rels w A0 c0 rs) (h1 : Fcts w A1 c1 fs) (hl0 : rs.length ≤ 2000000) (hl : fs.length ≤ 2000000) (hl2 : ∀ f ∈ fs, f.2.length ≤ 2000000) : Calls Try.prog 14 #[.agg #[.slice A0 rs.length c0, .slice A1 fs.length c1]] w (Got fun v w' => OIn w' w.heap.size v rs fs ∧ On w w') := by
  have hb := Aside0.mk (On.alloc (On.alloc (On.alloc (On.refl w) (.cells #[.slice A0 rs.length c0, .slice A1 fs.length c1] 25)) (.cells #[.slice none 0 0, .slice none 0 0] 32)) (.cells #[.slice none 0 0, .slice none 0 0] 32))
  have hL := Aside0.mk (loc3 w #[.slice A0 rs.length c0, .slice A1 fs.length c1] #[.slice none 0 0, .slice none 0 0] #[.slice none 0 0, .slice none 0 0] 25 32 32)
  go_enter Try.func14, Try.ntmps14
  go_wp2_with (first | (go_at_call 58; refine (toRelationS_calls _ A0 c0 rs (h0.on hb.out) hl0).mono ?_; rintro e w1 ⟨v1, rfl, hO, hb1⟩; obtain ⟨A2, c2, rfl⟩ := own_slice hO; have hL1 := Aside0.mk (Loc.on hb1 hL.out); have hc0 := blk_cell hL1.out.1; have hc1 := blk_cell hL1.out.2.1; have hc2 : ∀ i, w1.cell? ⟨w.heap.size + 1 + 1, i, none⟩ = _ := blk_cell hL1.out.2.2.1; have hf1 := blk_frozen hL1.out.2.1; have hf2 : ∀ i, w1.frozen? ⟨w.heap.size + 1 + 1, i, none⟩ = false := blk_frozen hL1.out.2.2.1; have hO' := Aside0.mk hO; clear hO) | (go_at_call 59; have hB2 := Aside0.mk (Reg.On.set (hb.out.trans hb1) (p := ⟨w.heap.size + 1 + 1, 0, none⟩) (by simp; omega) (.slice A2 rs.length c2)); refine (toFactS_calls _ A1 c1 fs (h1.on hB2.out) hl hl2).mono ?_; rintro e w3 ⟨v3, rfl, hs, hO3, hS3, ⟨n3, c3, rfl⟩, hb3⟩; clear hc0 hc1 hc2 hf1 hf2; have hk1 := blk_below (blk_far hL1.out.2.1 (p := ⟨w.heap.size + 1 + 1, 0, none⟩) (by simp) (.slice A2 rs.length c2)) hb3; have hk2 : w3.heap[w.heap.size + 1 + 1]? = some (.cells #[.slice A2 rs.length c2, .slice none 0 0] 32 (0, 0)) := blk_below (blk_set hL1.out.2.2.1 0 (.slice A2 rs.length c2)) hb3; have hc1 := blk_cell hk1; have hc2 := blk_cell hk2; have hf1 := blk_frozen hk1; have hf2 := blk_frozen hk2; have hk1' := Aside0.mk hk1; clear hk1 hk2; have hO3' := Aside0.mk hO3; clear hO3; have hb3' := Aside0.mk hb3; clear hb3))
  have hsz : (((w.alloc (.cells #[.slice A0 rs.length c0, .slice A1 fs.length c1] 25)).alloc (.cells #[.slice none 0 0, .slice none 0 0] 32)).alloc (.cells #[.slice none 0 0, .slice none 0 0] 32)).heap.size = w.heap.size + 3 := by simp
  have hO := hO'.out
  rw [hsz] at hO
  have hsz1 := hb1.size
  rw [hsz] at hsz1
  have hsz2 : (w1.setCell ⟨w.heap.size + 1 + 1, 0, none⟩ (.slice A2 rs.length c2)).heap.size = w1.heap.size := by simp [World.setCell]
  have hO4 := hO3'.out
  rw [hsz2] at hO4 hS3
  refine bodyPost_ret (retI rfl rfl (g := w.heap.size + 1) (blk_set (blk_set (blk_far hk1'.out (p := ⟨w.heap.size + 1 + 1, 1, none⟩) (by simp) _) 0 _) 1 _) rfl) rfl ?_
  refine ⟨_, rfl, ⟨_, _, hs, rfl, ?_, ?_, ?_⟩, ?_⟩
  · have h5 := pw_own_below (ownsRow_setCell_below hO (a := ⟨w.heap.size + 1 + 1, 0, none⟩) (by simp) (.slice A2 rs.length c2)) hb3'.out
    exact own_lower (ownsRow_setCell_below (ownsRow_setCell_below (ownsRow_setCell_below h5 (by simp) _) (by simp) _) (by simp) _) (by omega)
  · exact own_lower (ownsRow_setCell_below (ownsRow_setCell_below (ownsRow_setCell_below hO4 (by simp; omega) _) (by simp; omega) _) (by simp; omega) _) (by omega)
  · exact Sep.lower (Sep.set (Sep.set (Sep.set hS3 (by simp; omega) _) (by simp; omega) _) (by simp; omega) _) (by omega)
  · exact Reg.On.set (Reg.On.set (Reg.On.set (hB2.out.trans hb3'.out) (by simp; omega) _) (by simp) _) (by simp) _
theorem szInstance_calls (w : World) (A0 c0 A1 c1) (rs : List Rel) (fs : List Fct) (n : Int) (h0 : 0 ≤ n) (h1 : n ≤ 2000000) (hr : Rels w A0 c0 rs) (hf : Fcts w A1 c1 fs) (hsz : ∀ r ∈ rs, r.1.size ≤ 9223372036854775807) : Calls Try.prog 12 #[.agg #[.slice A0 rs.length c0, .slice A1 fs.length c1], .int .i64 n] w (Sz n (wR rs + wF fs) w) := by
  have hb := Aside0.mk (On.alloc (On.refl w) (.cells #[.slice A0 rs.length c0, .slice A1 fs.length c1] 25))
  go_enter Try.func12, Try.ntmps12
  go_wp2_with (first | (go_at_call 54; refine (szRelationS_calls _ A0 c0 rs n h0 h1 (hr.on hb.out) hsz).mono ?_; rintro e w1 ⟨q, rfl, hq0, hb1⟩; have hq := Aside0.mk hq0; clear hq0; have hc0 := blk_cell (Loc.on hb1 (loc1 w #[.slice A0 rs.length c0, .slice A1 fs.length c1] 25)).1; by_cases hneg : q < 0) | (go_at_call 55; refine (szFactS_calls _ A1 c1 fs q (by omega) (by have := hq.out (by omega); omega) (hf.on (hb.out.trans hb1))).mono ?_; rintro e w2 ⟨q2, rfl, hq0, hb2⟩; have hq2 := Aside0.mk hq0; clear hq0; by_cases hneg2 : q2 < 0))
  all_goals
    go_ret
    first | exact ⟨_, rfl, fun h => by omega, (hb.out.trans hb1).trans hb2⟩ | exact ⟨_, rfl, fun h => by omega, hb.out.trans hb1⟩ | exact ⟨_, rfl, fun h => by have := hq.out (by omega); have := hq2.out (by omega); omega, (hb.out.trans hb1).trans hb2⟩
end Go.Proofs.Ytngjhblbpapjeaa.H
