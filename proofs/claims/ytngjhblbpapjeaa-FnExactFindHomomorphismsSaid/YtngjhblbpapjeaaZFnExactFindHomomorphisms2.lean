/- Walks and plain laws for the law FnExactFindHomomorphisms, part 2 of 6: the texts HL3, HL2, HL4, HL5, HL6, HL7, HB6, HD3, HD4, HB5, HO2, HB7 in one. No condition. -/
import Derived.Maps.AppendAt
import Derived.Lib.SliceRun
import Derived.Test.YtngjhblbpapjeaaZFnExactFindHomomorphisms1
/- Walks: the laws' own copies. No condition. -/
namespace Go.Proofs.Ytngjhblbpapjeaa.H
open Go Go.RowKit Go.Proofs.YtngjhblbpapjeaaW.PrintWords Go.Proofs.YtngjhblbpapjeaaW.PrintLast
open Go.Proofs.Ytngjhblbpapjeaa.Reg (On on_draw)
set_option maxHeartbeats 1000000
set_option maxRecDepth 100000
set_option linter.unusedVariables false
set_option linter.unusedSimpArgs false

theorem toRelationS_calls (w : World) (A c) (rs : List Rel) (h : Rels w A c rs) (hl : rs.length ≤ 2000000) : Calls Try.prog 58 #[.slice A rs.length c] w (Got fun v w' => OR w' w.heap.size v rs ∧ On w w') := by
  go_enter Try.func58, Try.ntmps58
  go_wp2_with (refine gate 7 ?_)
  refine ⟨mkRow 7 (m := rs.length) Try.underlying29 infoR rfl (by omega) (by omega) fun hO => ?_⟩
  obtain ⟨cs0, hcs0⟩ : ∃ cs0, madeCells (Value.agg #[.string ⟨#[]⟩, .int .i64 0, .bool false]).cells (rs.length * 3) = cs0 := ⟨_, rfl⟩
  rw [hcs0] at hO ⊢
  clear hcs0
  have hB := On.alloc (On.refl w) (.cells cs0 87)
  obtain ⟨w1, hw1⟩ : ∃ w1, w.alloc (.cells cs0 87) = w1 := ⟨_, rfl⟩
  rw [hw1] at hO hB ⊢
  clear hw1
  have hO' := Aside0.mk hO
  clear hO
  go_wp2
  go_loopw [4] (fun v wr => ∃ (k : Nat) (cs : List Value), k ≤ rs.length ∧ v = .int .i64 k ∧ Aside0 (wr.ownsRow w.heap.size 87 3 (.slice (some ⟨w.heap.size, 0, none⟩) rs.length rs.length) rs.length ((rs.take k).flatMap encR ++ cs)) ∧ On w wr) (fun v _ => rs.length - (intOf v).toNat)
  case atStart => exact ⟨0, _, Nat.zero_le _, rfl, by simpa using hO', hB⟩
  case round =>
    obtain ⟨k, cs, hk, rfl, hO, hB⟩ := hrel
    by_cases hlt : k < rs.length
    · obtain ⟨ad, rfl, hx0, hx1, hx2⟩ := (h.on hB).at k hlt
      have hcl := Aside0.mk (show 3 ≤ cs.length by have := hO.out.1; simp [flat_len (enc := encR) (sz := 3) (fun _ => rfl)] at this; omega)
      have hO2 := hO
      clear hO
      go_wp2_with (go_at_call 101; refine (toRelation_calls wr rs[k]).mono ?_; rintro e w2 ⟨rfl, hb2⟩; have hO3 := Aside0.mk (pw_own_below hO2.out hb2); have hfz := own_frozen hO3.out (k * 3); have hfz1 := own_frozen hO3.out (k * 3 + 1); have hfz2 := own_frozen hO3.out (k * 3 + 2); obtain ⟨z, hz⟩ := own_some hO3.out (k * 3) (by omega); obtain ⟨z1, hz1⟩ := own_some hO3.out (k * 3 + 1) (by omega); obtain ⟨z2, hz2⟩ := own_some hO3.out (k * 3 + 2) (by omega))
      obtain ⟨z0, z1, z2, hcs⟩ := split3 (cs := cs) (i := 0) (by have := hcl.out; omega)
      simp only [List.take_zero, List.nil_append, Nat.zero_add] at hcs
      refine ⟨⟨k + 1, cs.drop 3, by omega, by go_num, ⟨?_⟩, Reg.On.set (Reg.On.set (Reg.On.set (hB.trans hb2) (Nat.le_refl _) _) (Nat.le_refl _) _) (Nat.le_refl _) _⟩, by simp [intOf]; omega⟩
      have := ((hO3.out.stored (k * 3) (.string rs[k].1)).1.stored (k * 3 + 1) (.int .i64 rs[k].2.1)).1.stored (k * 3 + 2) (.bool rs[k].2.2) |>.1
      rw [hcs, set3 (k * 3) (by rw [flat_len (enc := encR) (sz := 3) (fun _ => rfl), List.length_take]; omega)] at this
      rw [flat_take_succ rs k hlt, List.append_assoc]
      exact this
    · have hO2 := hO
      clear hO
      go_wp2
      go_ret
      refine ⟨_, rfl, ?_, hB⟩
      have h1 := hO2.out
      have h2 := h1.1
      rw [List.take_of_length_le (by omega)] at h1 h2
      have h3 : cs = [] := by
        rw [List.length_append, flat_len (enc := encR) (sz := 3) (fun _ => rfl)] at h2
        exact List.eq_nil_of_length_eq_zero (by omega)
      subst h3
      rw [List.append_nil] at h1
      exact h1
end Go.Proofs.Ytngjhblbpapjeaa.H
/- Walks: the laws' own copies. No condition. -/
namespace Go.Proofs.Ytngjhblbpapjeaa.H
open Go Go.RowKit Go.Proofs.YtngjhblbpapjeaaW.PrintWords Go.Proofs.YtngjhblbpapjeaaW.PrintLast
open Go.Proofs.Ytngjhblbpapjeaa.Reg (On on_draw)
set_option maxHeartbeats 1000000
set_option maxRecDepth 100000
set_option linter.unusedVariables false
set_option linter.unusedSimpArgs false

theorem toFact_calls (w : World) (A c) (f : Fct) (h : Ints w A c f.2) (hl : f.2.length ≤ 2000000) : Calls Try.prog 33 #[.agg #[.int .i64 f.1, .slice A f.2.length c]] w (Got fun v w' => ∃ v1, v = .agg #[.int .i64 f.1, v1] ∧ OI w' w.heap.size v1 f.2 ∧ On w w') := by
  have hb := Aside0.mk (On.alloc (On.alloc (On.alloc (On.refl w) (.cells #[.int .i64 f.1, .slice A f.2.length c] 51)) (.cells #[.int .i64 0, .slice none 0 0] 55)) (.cells #[.int .i64 f.1, .slice none 0 0] 55))
  have hL := Aside0.mk (loc3 w #[.int .i64 f.1, .slice A f.2.length c] #[.int .i64 0, .slice none 0 0] #[.int .i64 f.1, .slice none 0 0] 51 55 55)
  go_enter Try.func33, Try.ntmps33
  go_wp2_with (go_at_call 78; refine (toIntS_calls _ A c f.2 (h.on hb.out) hl).mono ?_; rintro e w1 ⟨v1, rfl, hO, hb1⟩; obtain ⟨A1, c1, rfl⟩ := own_slice hO; have hL1 := Aside0.mk (Loc.on hb1 hL.out); have hc1 := blk_cell hL1.out.2.1; have hc2 : ∀ i, w1.cell? ⟨w.heap.size + 1 + 1, i, none⟩ = _ := blk_cell hL1.out.2.2.1; have hf1 := blk_frozen hL1.out.2.1; have hf2 : ∀ i, w1.frozen? ⟨w.heap.size + 1 + 1, i, none⟩ = false := blk_frozen hL1.out.2.2.1; have hO' := Aside0.mk hO; clear hO)
  refine bodyPost_ret (retF rfl rfl (g := w.heap.size + 1) (blk_set (blk_set (blk_far hL1.out.2.1 (p := ⟨w.heap.size + 1 + 1, 1, none⟩) (by simp) _) 0 _) 1 _) rfl) rfl ?_
  have hsz : (((w.alloc (.cells #[.int .i64 f.1, .slice A f.2.length c] 51)).alloc (.cells #[.int .i64 0, .slice none 0 0] 55)).alloc (.cells #[.int .i64 f.1, .slice none 0 0] 55)).heap.size = w.heap.size + 3 := by simp
  have hO := hO'.out
  rw [hsz] at hO
  exact ⟨_, rfl, _, rfl, own_lower (ownsRow_setCell_below (ownsRow_setCell_below (ownsRow_setCell_below hO (by simp) _) (by simp) _) (by simp) _) (by omega), Reg.On.set (Reg.On.set (Reg.On.set (hb.out.trans hb1) (by simp; omega) _) (by simp) _) (by simp) _⟩
theorem toFactS_calls (w : World) (A c) (fs : List Fct) (h : Fcts w A c fs) (hl : fs.length ≤ 2000000) (hl2 : ∀ f ∈ fs, f.2.length ≤ 2000000) : Calls Try.prog 59 #[.slice A fs.length c] w (Got fun v w' => ∃ hs, OH w' w.heap.size v hs ∧ Sep w' (w.heap.size + 1) hs fs ∧ (∃ n c, v = .slice (some ⟨w.heap.size, 0, none⟩) n c) ∧ On w w') := by
  go_enter Try.func59, Try.ntmps59
  go_wp2_with (refine gate 7 ?_)
  refine ⟨mkRow 7 (m := fs.length) Try.underlying30 infoF rfl (by omega) (by omega) fun hO => ?_⟩
  obtain ⟨cs0, hcs0⟩ : ∃ cs0, madeCells (Value.agg #[.int .i64 0, .slice none 0 0]).cells (fs.length * 2) = cs0 := ⟨_, rfl⟩
  rw [hcs0] at hO ⊢
  clear hcs0
  have hB := On.alloc (On.refl w) (.cells cs0 55)
  have hsz : (w.alloc (.cells cs0 55)).heap.size = w.heap.size + 1 := by simp
  obtain ⟨w1, hw1⟩ : ∃ w1, w.alloc (.cells cs0 55) = w1 := ⟨_, rfl⟩
  rw [hw1] at hO hB hsz ⊢
  clear hw1
  have hO' := Aside0.mk hO
  have hsz' := Aside0.mk hsz
  clear hO hsz
  go_wp2
  go_loopw [4] (fun v wr => ∃ (k : Nat) (hs : List Hdr) (cs : List Value), k ≤ fs.length ∧ v = .int .i64 k ∧ Aside0 (wr.ownsRow w.heap.size 55 2 (.slice (some ⟨w.heap.size, 0, none⟩) fs.length fs.length) fs.length (hs.flatMap encH ++ cs)) ∧ Aside0 (Sep wr (w.heap.size + 1) hs (fs.take k)) ∧ Aside0 (w.heap.size + 1 ≤ wr.heap.size) ∧ On w wr) (fun v _ => fs.length - (intOf v).toNat)
  case atStart => exact ⟨0, [], _, Nat.zero_le _, rfl, by simpa using hO', ⟨Sep.nil _ _⟩, ⟨by rw [hsz'.out]; exact Nat.le_refl _⟩, hB⟩
  case round =>
    obtain ⟨k, hs, cs, hk, rfl, hO, hS, hwr, hB⟩ := hrel
    have hlen := Aside0.mk (show hs.length = k by have := hS.out.len; rw [List.length_take] at this; omega)
    by_cases hlt : k < fs.length
    · obtain ⟨ad, A1, c1, rfl, hx0, hx1, hx2⟩ := (h.on hB).at k hlt
      have hcl := Aside0.mk (show 2 ≤ cs.length by have h1 := hO.out.1; have h2 := hlen.out; rw [List.length_append, flat_len (enc := encH) (sz := 2) (fun _ => rfl)] at h1; omega)
      have hO2 := hO
      have hl3 := hl2 _ (List.getElem_mem hlt)
      clear hO
      go_wp2_with (go_at_call 33; refine (toFact_calls wr A1 c1 fs[k] hx2 hl3).mono ?_; rintro e w2 ⟨v0, rfl, v1, rfl, hO1, hb2⟩; obtain ⟨A2, c2, rfl⟩ := own_slice hO1; have hO4 := Aside0.mk hO1; clear hO1; have hO3 := Aside0.mk (pw_own_below hO2.out hb2); have hfz := own_frozen hO3.out (k * 2); have hfz1 := own_frozen hO3.out (k * 2 + 1); obtain ⟨z, hz⟩ := own_some hO3.out (k * 2) (by omega); obtain ⟨z1, hz1⟩ := own_some hO3.out (k * 2 + 1) (by omega))
      obtain ⟨z0, z1, hcs⟩ := split2 (cs := cs) (i := 0) (by have := hcl.out; omega)
      simp only [List.take_zero, List.nil_append, Nat.zero_add] at hcs
      have hS2 := Sep.snoc (a := (fs[k].1, A2, fs[k].2.length, c2)) hS.out hb2 hwr.out rfl hO4.out hx2.2.2
      refine ⟨⟨k + 1, hs ++ [(fs[k].1, A2, fs[k].2.length, c2)], cs.drop 2, by omega, by go_num, ⟨?_⟩, ⟨?_⟩, ⟨?_⟩, Reg.On.set (Reg.On.set (hB.trans hb2) (Nat.le_refl _) _) (Nat.le_refl _) _⟩, by simp [intOf]; omega⟩
      · have := ((hO3.out.stored (k * 2) (.int .i64 fs[k].1)).1.stored (k * 2 + 1) (.slice A2 fs[k].2.length c2)).1
        rw [hcs, set2 (k * 2) (by rw [flat_len (enc := encH) (sz := 2) (fun _ => rfl), hlen.out])] at this
        rw [List.flatMap_append, List.append_assoc]
        exact this
      · rw [List.take_succ_eq_append_getElem hlt]
        exact Sep.set (Sep.set hS2 (Nat.lt_succ_self _) _) (Nat.lt_succ_self _) _
      · have := hb2.size; have := hwr.out; simp [World.setCell]; omega
    · have hO2 := hO
      clear hO
      go_wp2
      go_ret
      have h1 := hO2.out
      have h2 := h1.1
      have h4 := hlen.out
      have h5 := hS.out
      rw [List.take_of_length_le (by omega)] at h5
      have h3 : cs = [] := by
        rw [List.length_append, flat_len (enc := encH) (sz := 2) (fun _ => rfl)] at h2
        exact List.eq_nil_of_length_eq_zero (by omega)
      subst h3
      rw [List.append_nil] at h1
      refine ⟨_, rfl, hs, ?_, h5, ⟨_, _, rfl⟩, hB⟩
      show World.ownsRow _ _ _ _ _ hs.length _
      rw [show hs.length = fs.length by omega]
      exact h1
/-- An instance of the call's own, its facts' rows lying apart. -/
structure OIn (w : World) (lo : Nat) (v : Value) (rs : List Rel) (fs : List Fct) : Prop where mk :: (out : ∃ vr vf hs, v = .agg #[vr, vf] ∧ OR w lo vr rs ∧ OH w lo vf hs ∧ Sep w lo hs fs)
theorem toInstance_calls (w : World) (A0 c0 A1 c1) (rs : List Rel) (fs : List Fct) (h0 : Rels w A0 c0 rs) (h1 : Fcts w A1 c1 fs) (hl0 : rs.length ≤ 2000000) (hl : fs.length ≤ 2000000) (hl2 : ∀ f ∈ fs, f.2.length ≤ 2000000) : Calls Try.prog 14 #[.agg #[.slice A0 rs.length c0, .slice A1 fs.length c1]] w (Got fun v w' => OIn w' w.heap.size v rs fs ∧ On w w') := by
  have hb := Aside0.mk (On.alloc (On.alloc (On.alloc (On.refl w) (.cells #[.slice A0 rs.length c0, .slice A1 fs.length c1] 25)) (.cells #[.slice none 0 0, .slice none 0 0] 32)) (.cells #[.slice none 0 0, .slice none 0 0] 32))
  have hL := Aside0.mk (loc3 w #[.slice A0 rs.length c0, .slice A1 fs.length c1] #[.slice none 0 0, .slice none 0 0] #[.slice none 0 0, .slice none 0 0] 25 32 32)
  go_enter Try.func14, Try.ntmps14
  go_wp2_with (first | (go_at_call 58; refine (toRelationS_calls _ A0 c0 rs (h0.on hb.out) hl0).mono ?_; rintro e w1 ⟨v1, rfl, hO, hb1⟩; obtain ⟨A2, c2, rfl⟩ := own_slice hO; have hL1 := Aside0.mk (Loc.on hb1 hL.out); have hc0 := blk_cell hL1.out.1; have hc1 := blk_cell hL1.out.2.1; have hc2 : ∀ i, w1.cell? ⟨w.heap.size + 1 + 1, i, none⟩ = _ := blk_cell hL1.out.2.2.1; have hf1 := blk_frozen hL1.out.2.1; have hf2 : ∀ i, w1.frozen? ⟨w.heap.size + 1 + 1, i, none⟩ = false := blk_frozen hL1.out.2.2.1; have hO' := Aside0.mk hO; clear hO) | (go_at_call 59; have hB2 := Aside0.mk (Reg.On.set (hb.out.trans hb1) (p := ⟨w.heap.size + 1 + 1, 0, none⟩) (by simp; omega) (.slice A2 rs.length c2)); refine (toFactS_calls _ A1 c1 fs (h1.on hB2.out) hl hl2).mono ?_; rintro e w3 ⟨v3, rfl, hs, hO3, hS3, ⟨n3, c3, rfl⟩, hb3⟩; clear hc0 hc1 hc2 hf1 hf2; have hk1 := blk_below (blk_far hL1.out.2.1 (p := ⟨w.heap.size + 1 + 1, 0, none⟩) (by simp) (.slice A2 rs.length c2)) hb3; have hk2 : w3.heap[w.heap.size + 1 + 1]? = some (.cells #[.slice A2 rs.length c2, .slice none 0 0] 32 (0, 0)) := blk_below (blk_set hL1.out.2.2.1 0 (.slice A2 rs.length c2)) hb3; have hc1 := blk_cell hk1; have hc2 := blk_cell hk2; have hf1 := blk_frozen hk1; have hf2 := blk_frozen hk2; have hk1' := Aside0.mk hk1; clear hk1 hk2; have hO3' := Aside0.mk hO3; clear hO3; have hb3' := Aside0.mk hb3; clear hb3))
  have hsz : (((w.alloc (.cells #[.slice A0 rs.length c0, .slice A1 fs.length c1] 25)).alloc (.cells #[.slice none 0 0, .slice none 0 0] 32)).alloc (.cells #[.slice none 0 0, .slice none 0 0] 32)).heap.size = w.heap.size + 3 := by simp
  have hO := hO'.out
  rw [hsz] at hO
  have hsz1 := hb1.size
  rw [hsz] at hsz1
  have hsz2 : (w1.setCell ⟨w.heap.size + 1 + 1, 0, none⟩ (.slice A2 rs.length c2)).heap.size = w1.heap.size := by simp [World.setCell]
  have hO4 := hO3'.out
  rw [hsz2] at hO4 hS3
  refine bodyPost_ret (retI rfl rfl (g := w.heap.size + 1) (blk_set (blk_set (blk_far hk1'.out (p := ⟨w.heap.size + 1 + 1, 1, none⟩) (by simp) _) 0 _) 1 _) rfl) rfl ?_
  refine ⟨_, rfl, ⟨_, _, hs, rfl, ?_, ?_, ?_⟩, ?_⟩
  · have h5 := pw_own_below (ownsRow_setCell_below hO (a := ⟨w.heap.size + 1 + 1, 0, none⟩) (by simp) (.slice A2 rs.length c2)) hb3'.out
    exact own_lower (ownsRow_setCell_below (ownsRow_setCell_below (ownsRow_setCell_below h5 (by simp) _) (by simp) _) (by simp) _) (by omega)
  · exact own_lower (ownsRow_setCell_below (ownsRow_setCell_below (ownsRow_setCell_below hO4 (by simp; omega) _) (by simp; omega) _) (by simp; omega) _) (by omega)
  · exact Sep.lower (Sep.set (Sep.set (Sep.set hS3 (by simp; omega) _) (by simp; omega) _) (by simp; omega) _) (by omega)
  · exact Reg.On.set (Reg.On.set (Reg.On.set (hB2.out.trans hb3'.out) (by simp; omega) _) (by simp) _) (by simp) _
theorem szInstance_calls (w : World) (A0 c0 A1 c1) (rs : List Rel) (fs : List Fct) (n : Int) (h0 : 0 ≤ n) (h1 : n ≤ 2000000) (hr : Rels w A0 c0 rs) (hf : Fcts w A1 c1 fs) (hsz : ∀ r ∈ rs, r.1.size ≤ 9223372036854775807) : Calls Try.prog 12 #[.agg #[.slice A0 rs.length c0, .slice A1 fs.length c1], .int .i64 n] w (Sz n (wR rs + wF fs) w) := by
  have hb := Aside0.mk (On.alloc (On.refl w) (.cells #[.slice A0 rs.length c0, .slice A1 fs.length c1] 25))
  go_enter Try.func12, Try.ntmps12
  go_wp2_with (first | (go_at_call 54; refine (szRelationS_calls _ A0 c0 rs n h0 h1 (hr.on hb.out) hsz).mono ?_; rintro e w1 ⟨q, rfl, hq0, hb1⟩; have hq := Aside0.mk hq0; clear hq0; have hc0 := blk_cell (Loc.on hb1 (loc1 w #[.slice A0 rs.length c0, .slice A1 fs.length c1] 25)).1; by_cases hneg : q < 0) | (go_at_call 55; refine (szFactS_calls _ A1 c1 fs q (by omega) (by have := hq.out (by omega); omega) (hf.on (hb.out.trans hb1))).mono ?_; rintro e w2 ⟨q2, rfl, hq0, hb2⟩; have hq2 := Aside0.mk hq0; clear hq0; by_cases hneg2 : q2 < 0))
  all_goals
    go_ret
    first | exact ⟨_, rfl, fun h => by omega, (hb.out.trans hb1).trans hb2⟩ | exact ⟨_, rfl, fun h => by omega, hb.out.trans hb1⟩ | exact ⟨_, rfl, fun h => by have := hq.out (by omega); have := hq2.out (by omega); omega, (hb.out.trans hb1).trans hb2⟩
end Go.Proofs.Ytngjhblbpapjeaa.H
/- Walks: the laws' own comparisons, of what is the same. No condition. -/
namespace Go.Proofs.Ytngjhblbpapjeaa.H
open Go Go.RowKit Go.Proofs.YtngjhblbpapjeaaW.PrintWords Go.Proofs.YtngjhblbpapjeaaW.PrintLast
open Go.Proofs.Ytngjhblbpapjeaa.Reg (On on_draw)
set_option maxHeartbeats 1000000
set_option maxRecDepth 100000
set_option linter.unusedVariables false
set_option linter.unusedSimpArgs false

theorem eqIntS_calls (w : World) (A c B d) (xs : List Int) (h1 : Ints w A c xs) (h2 : Ints w B d xs) : Calls Try.prog 16 #[.slice A xs.length c, .slice B xs.length d] w fun e w' => e = .returned (.bool true) ∧ On w w' := by
  have hmax := h1.max
  go_enter Try.func16, Try.ntmps16
  go_wp2
  go_loopw [5] (fun v wr => ∃ k : Nat, k ≤ xs.length ∧ v = .int .i64 k ∧ On w wr) (fun v _ => xs.length - (intOf v).toNat)
  case atStart => exact ⟨0, Nat.zero_le _, rfl, On.refl _⟩
  case round =>
    obtain ⟨k, hk, rfl, hB⟩ := hrel
    by_cases hlt : k < xs.length
    · obtain ⟨ad, rfl, hx⟩ := (h1.on hB).at k hlt
      obtain ⟨bd, rfl, hy⟩ := (h2.on hB).at k hlt
      go_wp2
      refine Reg.region [(0,.L),(1,.L),(2,.L),(3,.L),(4,.L),(5,.L),(6,.L),(7,.L),(8,.L)] [] (by kernel_rfl) (by kernel_rfl) ?_
      repeat first | refine sP ?_ | refine sS ?_ | refine sA ?_ | refine sL ?_ | refine sQ ?_ | refine sO ?_
      refine Reg.nil fun w2 hS => ?_
      go_wp2
      go_roundw
      case rel => exact ⟨k + 1, by omega, by go_num, hB.trans hS⟩
      case measure => simp [intOf]; omega
    · go_wp2
      go_ret
      exact ⟨rfl, hB⟩
theorem eqRelation_calls (w : World) (r : Rel) : Calls Try.prog 105 #[.agg #[.string r.1, .int .i64 r.2.1, .bool r.2.2], .agg #[.string r.1, .int .i64 r.2.1, .bool r.2.2]] w fun e w' => e = .returned (.bool true) ∧ On w w' := by
  go_enter Try.func105, Try.ntmps105
  go_wp2
  go_ret
  exact ⟨rfl, On.alloc (On.alloc (On.refl _) _) _⟩
theorem eqFact_calls (w : World) (A c B d) (f : Fct) (h1 : Ints w A c f.2) (h2 : Ints w B d f.2) : Calls Try.prog 35 #[.agg #[.int .i64 f.1, .slice A f.2.length c], .agg #[.int .i64 f.1, .slice B f.2.length d]] w fun e w' => e = .returned (.bool true) ∧ On w w' := by
  have hb := Aside0.mk (On.alloc (On.alloc (On.refl w) (.cells #[.int .i64 f.1, .slice A f.2.length c] 55)) (.cells #[.int .i64 f.1, .slice B f.2.length d] 55))
  go_enter Try.func35, Try.ntmps35
  go_wp2_with (go_at_call 16; refine (eqIntS_calls _ A c B d f.2 (h1.on hb.out) (h2.on hb.out)).mono ?_; rintro e w1 ⟨rfl, hb1⟩)
  go_ret
  exact ⟨rfl, hb.out.trans hb1⟩
theorem eqRelationS_calls (w : World) (A c B d) (rs : List Rel) (h1 : Rels w A c rs) (h2 : Rels w B d rs) : Calls Try.prog 61 #[.slice A rs.length c, .slice B rs.length d] w fun e w' => e = .returned (.bool true) ∧ On w w' := by
  have hmax := h1.max
  go_enter Try.func61, Try.ntmps61
  go_wp2
  go_loopw [5] (fun v wr => ∃ k : Nat, k ≤ rs.length ∧ v = .int .i64 k ∧ On w wr) (fun v _ => rs.length - (intOf v).toNat)
  case atStart => exact ⟨0, Nat.zero_le _, rfl, On.refl _⟩
  case round =>
    obtain ⟨k, hk, rfl, hB⟩ := hrel
    by_cases hlt : k < rs.length
    · obtain ⟨ad, rfl, hx0, hx1, hx2⟩ := (h1.on hB).at k hlt
      obtain ⟨bd, rfl, hy0, hy1, hy2⟩ := (h2.on hB).at k hlt
      go_wp2
      refine Reg.region [(0,.L),(1,.L),(2,.L),(3,.L),(4,.L),(5,.L),(6,.L),(7,.L),(8,.C),(9,.L)] [] (by kernel_rfl) (by kernel_rfl) ?_
      repeat first | refine sP ?_ | refine sS ?_ | refine sA ?_ | refine sL ?_ | refine sQ ?_ | refine sO ?_
      refine callC (.bool true) Try.func105 (fun w' hS => ?_) ?_
      focus exact eqRelation_calls w' rs[k]
      repeat first | refine sP ?_ | refine sS ?_ | refine sA ?_ | refine sL ?_ | refine sQ ?_ | refine sO ?_
      refine Reg.nil fun w2 hS => ?_
      go_wp2
      go_roundw
      case rel => exact ⟨k + 1, by omega, by go_num, hB.trans hS⟩
      case measure => simp [intOf]; omega
    · go_wp2
      go_ret
      exact ⟨rfl, hB⟩
theorem eqFactS_calls (w : World) (A c B d) (fs : List Fct) (h1 : Fcts w A c fs) (h2 : Fcts w B d fs) : Calls Try.prog 62 #[.slice A fs.length c, .slice B fs.length d] w fun e w' => e = .returned (.bool true) ∧ On w w' := by
  have hmax := h1.max
  go_enter Try.func62, Try.ntmps62
  go_wp2
  go_loopw [5] (fun v wr => ∃ k : Nat, k ≤ fs.length ∧ v = .int .i64 k ∧ On w wr) (fun v _ => fs.length - (intOf v).toNat)
  case atStart => exact ⟨0, Nat.zero_le _, rfl, On.refl _⟩
  case round =>
    obtain ⟨k, hk, rfl, hB⟩ := hrel
    by_cases hlt : k < fs.length
    · obtain ⟨ad, A1, c1, rfl, hx0, hx1, hx2⟩ := (h1.on hB).at k hlt
      obtain ⟨bd, B1, d1, rfl, hy0, hy1, hy2⟩ := (h2.on hB).at k hlt
      go_wp2
      refine Reg.region [(0,.L),(1,.L),(2,.L),(3,.L),(4,.L),(5,.L),(6,.L),(7,.L),(8,.C),(9,.L)] [] (by kernel_rfl) (by kernel_rfl) ?_
      repeat first | refine sP ?_ | refine sS ?_ | refine sA ?_ | refine sL ?_ | refine sQ ?_ | refine sO ?_
      refine callC (.bool true) Try.func35 (fun w' hS => ?_) ?_
      focus exact eqFact_calls w' A1 c1 B1 d1 fs[k] (hx2.on hS) (hy2.on hS)
      repeat first | refine sP ?_ | refine sS ?_ | refine sA ?_ | refine sL ?_ | refine sQ ?_ | refine sO ?_
      refine Reg.nil fun w2 hS => ?_
      go_wp2
      go_roundw
      case rel => exact ⟨k + 1, by omega, by go_num, hB.trans hS⟩
      case measure => simp [intOf]; omega
    · go_wp2
      go_ret
      exact ⟨rfl, hB⟩
theorem eqInstance_calls (w : World) (A0 c0 A1 c1 B0 d0 B1 d1) (rs : List Rel) (fs : List Fct) (h0 : Rels w A0 c0 rs) (h1 : Fcts w A1 c1 fs) (h2 : Rels w B0 d0 rs) (h3 : Fcts w B1 d1 fs) : Calls Try.prog 17 #[.agg #[.slice A0 rs.length c0, .slice A1 fs.length c1], .agg #[.slice B0 rs.length d0, .slice B1 fs.length d1]] w fun e w' => e = .returned (.bool true) ∧ On w w' := by
  have hb := Aside0.mk (On.alloc (On.alloc (On.refl w) (.cells #[.slice A0 rs.length c0, .slice A1 fs.length c1] 32)) (.cells #[.slice B0 rs.length d0, .slice B1 fs.length d1] 32))
  have hL := Aside0.mk (loc2 w #[.slice A0 rs.length c0, .slice A1 fs.length c1] #[.slice B0 rs.length d0, .slice B1 fs.length d1] 32 32)
  go_enter Try.func17, Try.ntmps17
  go_wp2_with (first | (go_at_call 61; refine (eqRelationS_calls _ A0 c0 B0 d0 rs (h0.on hb.out) (h2.on hb.out)).mono ?_; rintro e w1 ⟨rfl, hb1⟩; have hL1 := Loc.on hb1 hL.out; have hc0 := blk_cell hL1.1; have hc1 := blk_cell hL1.2.1; have hL2 := Aside0.mk hL1; clear hL1) | (go_at_call 62; refine (eqFactS_calls _ A1 c1 B1 d1 fs (h1.on (hb.out.trans hb1)) (h3.on (hb.out.trans hb1))).mono ?_; rintro e w2 ⟨rfl, hb2⟩))
  go_ret
  exact ⟨rfl, (hb.out.trans hb1).trans hb2⟩
end Go.Proofs.Ytngjhblbpapjeaa.H
/- Walks: the laws' own marks. No condition. -/
namespace Go.Proofs.Ytngjhblbpapjeaa.H
open Go Go.RowKit Go.Proofs.YtngjhblbpapjeaaW.PrintWords Go.Proofs.YtngjhblbpapjeaaW.PrintLast
open Go.Proofs.Ytngjhblbpapjeaa.Reg (On on_draw)
set_option maxHeartbeats 1000000
set_option maxRecDepth 100000
set_option linter.unusedVariables false
set_option linter.unusedSimpArgs false

/-- What a mark writes. -/
def markI (k : Int) : Nat → List Int
  | 0 => []
  | n + 1 => k :: markI (k + 1) n
theorem markI_len (k : Int) (n : Nat) : (markI k n).length = n := by
  induction n generalizing k with
  | zero => rfl
  | succ n ih => simp [markI, ih]
theorem markI_succ (k : Int) (n : Nat) : markI k (n + 1) = markI k n ++ [k + n] := by
  induction n generalizing k with
  | zero => simp [markI]
  | succ n ih =>
    have h := ih (k + 1)
    rw [markI, h, markI, show k + 1 + (n : Int) = k + ((n + 1 : Nat) : Int) by omega]; rfl
theorem markI_at (k : Int) (n i : Nat) (h : i < (markI k n).length) : (markI k n)[i] = k + i := by
  induction n generalizing k i with
  | zero => simp [markI] at h
  | succ n ih =>
    cases i with
    | zero => simp [markI]
    | succ i => simp only [markI, List.getElem_cons_succ]; rw [ih]; omega
theorem markI_inR (k : Int) (n : Nat) (h0 : 0 ≤ k) (h1 : k + n ≤ 10000000) : InR (markI k n) := fun x hx => by
  obtain ⟨i, hi, rfl⟩ := List.getElem_of_mem hx
  rw [markI_at]; rw [markI_len] at hi; omega
theorem markIntS_calls (w : World) (lo : Nat) (v : Value) (xs : List Int) (k0 : Int) (h : OI w lo v xs) (h0 : 0 ≤ k0) (h1 : k0 + xs.length ≤ 10000000) : Calls Try.prog 19 #[v, .int .i64 k0] w fun e w' => e = .returned (.int .i64 (k0 + xs.length)) ∧ OI w' lo v (markI k0 xs.length) ∧ Ex (fun b => some b = v.ownBlock) w w' := by
  rcases h.2 with ⟨rfl, hn⟩ | ⟨g, c, cur, rfl, hg⟩
  · obtain rfl : xs = [] := List.eq_nil_of_length_eq_zero hn
    go_enter Try.func19, Try.ntmps19
    go_wp2
    go_loop [5, 1] (fun v5 v1 => v5 = .int .i64 0 ∧ v1 = .int .i64 k0) (fun v _ => 0)
    case atStart => exact ⟨rfl, rfl⟩
    case round =>
      obtain ⟨rfl, rfl⟩ := hrel
      go_wp2
      go_ret
      exact ⟨by simp, h, Ex.refl _ _⟩
  · clear hg
    have h' := Aside0.mk h
    clear h
    go_enter Try.func19, Try.ntmps19
    go_wp2
    go_loopw [5, 1] (fun v5 v1 wr => ∃ (k : Nat) (cs : List Value), k ≤ xs.length ∧ v5 = .int .i64 k ∧ v1 = .int .i64 (k0 + k) ∧ Aside0 (wr.ownsRow lo 3 1 (.slice (some ⟨g, 0, none⟩) xs.length c) xs.length ((markI k0 k).flatMap encI ++ cs)) ∧ Ex (fun b => some b = some g) w wr) (fun v5 _ _ => xs.length - (intOf v5).toNat)
    case atStart => exact ⟨0, xs.flatMap encI, Nat.zero_le _, rfl, by simp, h', Ex.refl _ _⟩
    case round =>
      obtain ⟨k, cs, hk, rfl, rfl, hO, hE⟩ := hrel
      have hO2 := hO
      clear hO
      by_cases hlt : k < xs.length
      · have hcl := Aside0.mk (show 0 < cs.length by have := hO2.out.1; rw [List.length_append, flat_len (enc := encI) (sz := 1) (fun _ => rfl), markI_len] at this; omega)
        have hfz : wr.frozen? ⟨g, k, none⟩ = false := own_frozen hO2.out k
        obtain ⟨z, hz⟩ := own_some hO2.out k (by omega)
        have hw : IntKind.i64.wrap (k0 + (k : Int) + 1) = k0 + ((k + 1 : Nat) : Int) := by rw [IntWalk.i64_in _ (by omega)]; omega
        go_wp2
        obtain ⟨z0, cs', rfl⟩ : ∃ z0 cs', cs = z0 :: cs' := by
          cases cs with
          | nil => exact absurd hcl.out (by simp)
          | cons a b => exact ⟨a, b, rfl⟩
        refine ⟨⟨k + 1, cs', by omega, by go_num, by rfl, ⟨?_⟩, hE.trans (Ex.set wr _ _) (fun i _ e => by rw [e])⟩, by simp [intOf]; omega⟩
        have := (hO2.out.stored k (.int .i64 (k0 + k))).1
        rw [set1 k (by rw [flat_len (enc := encI) (sz := 1) (fun _ => rfl), markI_len]; omega)] at this
        rw [markI_succ, List.flatMap_append, List.append_assoc]
        exact this
      · go_wp2
        go_ret
        obtain rfl : k = xs.length := by omega
        have h1 := hO2.out
        have h2 := h1.1
        have h3 : cs = [] := by
          rw [List.length_append, flat_len (enc := encI) (sz := 1) (fun _ => rfl), markI_len] at h2
          exact List.eq_nil_of_length_eq_zero (by omega)
        subst h3
        rw [List.append_nil] at h1
        refine ⟨rfl, ?_, hE⟩
        show World.ownsRow _ _ _ _ _ (markI k0 xs.length).length _
        rw [markI_len]
        exact h1
theorem heldIntS_calls (w : World) (A c) (n : Nat) (k0 : Int) (h : Ints w A c (markI k0 n)) (h0 : 0 ≤ k0) (h1 : k0 + n ≤ 10000000) : Calls Try.prog 20 #[.slice A n c, .int .i64 k0] w fun e w' => e = .returned (.int .i64 (k0 + n)) ∧ On w w' := by
  have hl := markI_len k0 n
  go_enter Try.func20, Try.ntmps20
  go_wp2
  go_loopw [5, 1] (fun v5 v1 wr => ∃ k : Nat, k ≤ n ∧ v5 = .int .i64 k ∧ v1 = .int .i64 (k0 + k) ∧ On w wr) (fun v5 _ _ => n - (intOf v5).toNat)
  case atStart => exact ⟨0, Nat.zero_le _, rfl, by simp, On.refl _⟩
  case round =>
    obtain ⟨k, hk, rfl, rfl, hB⟩ := hrel
    by_cases hlt : k < n
    · obtain ⟨ad, rfl, hx⟩ := (h.on hB).at k (by rw [hl]; exact hlt)
      rw [markI_at] at hx
      have hw : IntKind.i64.wrap (k0 + (k : Int) + 1) = k0 + ((k + 1 : Nat) : Int) := by rw [IntWalk.i64_in _ (by omega)]; omega
      go_wp2
      go_roundw
      case rel => exact ⟨k + 1, by omega, by go_num, rfl, hB⟩
      case measure => simp [intOf]; omega
    · go_wp2
      go_ret
      exact ⟨ret_int (by omega), hB⟩
def mDig (m : Int) (s : ByteArray) : ByteArray := if h : 0 < m then mDig (m / 10) (strOfNums [48 + m % 10] ++ s) else s
termination_by m.toNat
decreasing_by omega
def mText (k : Int) : ByteArray := ⟨#[109]⟩ ++ mDig k ⟨#[]⟩
theorem markText_calls (w : World) (k : Int) (h0 : 1 ≤ k) (h1 : k ≤ 10000000) : Calls Try.prog 106 #[.int .i64 k] w fun e w' => e = .returned (.string (mText k)) ∧ On w w' := by
  have hb : decide (k ≤ 0) = false := decide_eq_false (by omega)
  go_enter Try.func106, Try.ntmps106
  go_wp2
  go_loopw [0, 3] (fun v0 v3 wr => ∃ (m : Int) (s : ByteArray), 0 ≤ m ∧ m ≤ 10000000 ∧ v0 = .int .i64 m ∧ v3 = .string s ∧ Aside0 (mDig m s = mDig k ⟨#[]⟩) ∧ s.size + m ≤ 10000000 ∧ On w wr) (fun v0 _ _ => (intOf v0).toNat)
  case atStart => exact ⟨k, _, by omega, h1, rfl, rfl, ⟨rfl⟩, by show ((0 : Nat) : Int) + k ≤ 10000000; omega, On.refl _⟩
  case round =>
    obtain ⟨m, s, hm0, hm1, rfl, rfl, hp, hsm, hB⟩ := hrel
    by_cases hpos : 0 < m
    · have hcv : (convert 60 9 (.slice (some ⟨wr.heap.size, 0, none⟩) 1 1)).run Try.prog (wr.alloc (.cells #[.int .u8 (48 + m % 10)] 5)) = .ok (.string (strOfNums [48 + m % 10])) (wr.alloc (.cells #[.int .u8 (48 + m % 10)] 5)) :=
        own_string (P := Try.prog) Try.underlying60 Try.underlying5 Try.underlying9 (own_lit wr 0 5 .u8 [48 + m % 10] (Nat.zero_le _) (by simp))
      have hst := Aside0.mk (show mDig (m / 10) (strOfNums [48 + m % 10] ++ s) = mDig k ⟨#[]⟩ by rw [← hp.out]; conv => rhs; rw [mDig, dif_pos hpos])
      have hs1 : (strOfNums [48 + m % 10]).size = 1 := rfl
      clear hp
      go_wp2
      exact ⟨⟨m / 10, _, by omega, by omega, rfl, rfl, hst, by rw [ByteArray.size_append, hs1]; omega, hB.trans (On.alloc (On.refl _) _)⟩, by simp [intOf]; omega⟩
    · have hst := Aside0.mk (show s = mDig k ⟨#[]⟩ by rw [← hp.out]; conv => rhs; rw [mDig, dif_neg hpos])
      clear hp
      go_wp2
      go_ret
      exact ⟨by show Ending.returned (.string _) = _; rw [hst.out]; rfl, hB⟩
end Go.Proofs.Ytngjhblbpapjeaa.H
/- Walks: the laws' own marks on relations and facts. No condition. -/
namespace Go.Proofs.Ytngjhblbpapjeaa.H
open Go Go.RowKit Go.Proofs.YtngjhblbpapjeaaW.PrintWords Go.Proofs.YtngjhblbpapjeaaW.PrintLast
open Go.Proofs.Ytngjhblbpapjeaa.Reg (On on_draw)
set_option maxHeartbeats 1000000
set_option maxRecDepth 100000
set_option linter.unusedVariables false
set_option linter.unusedSimpArgs false

def mRel (k : Int) : Rel := (mText k, k + 1, (k + 2) % 3 == 0)
def markR (k : Int) : Nat → List Rel
  | 0 => []
  | n + 1 => mRel k :: markR (k + 3) n
theorem markR_len (k : Int) (n : Nat) : (markR k n).length = n := by
  induction n generalizing k with
  | zero => rfl
  | succ n ih => simp [markR, ih]
theorem markR_succ (k : Int) (n : Nat) : markR k (n + 1) = markR k n ++ [mRel (k + 3 * n)] := by
  induction n generalizing k with
  | zero => simp [markR]
  | succ n ih =>
    have h := ih (k + 3)
    rw [markR, h, markR, show k + 3 + 3 * (n : Int) = k + 3 * ((n + 1 : Nat) : Int) by omega]; rfl
theorem markR_at (k : Int) (n i : Nat) (h : i < (markR k n).length) : (markR k n)[i] = mRel (k + 3 * i) := by
  induction n generalizing k i with
  | zero => simp [markR] at h
  | succ n ih =>
    cases i with
    | zero => simp [markR]
    | succ i => simp only [markR, List.getElem_cons_succ]; rw [ih]; congr 1; omega
theorem own_ne_blk {w : World} {lo lo' e e' sz sz' n n' : Nat} {v v' : Value} {cs cs' : List Value} (h : w.ownsRow lo e sz v n cs) (h' : w.ownsRow lo' e' sz' v' n' cs') (hne : e ≠ e') {b : Nat} (hb : v.ownBlock = some b) : v'.ownBlock ≠ some b := fun hb' => by
  obtain ⟨c, hc⟩ := own_typed h b hb
  obtain ⟨c', hc'⟩ := own_typed h' b hb'
  rw [hc] at hc'
  injection hc' with hc'
  injection hc' with _ h3
  exact hne h3
theorem flatR_at {rs : List Rel} {i : Nat} (hi : i < rs.length) : (rs.flatMap encR)[i * 3]? = some (.string rs[i].1) ∧ (rs.flatMap encR)[i * 3 + 1]? = some (.int .i64 rs[i].2.1) ∧ (rs.flatMap encR)[i * 3 + 2]? = some (.bool rs[i].2.2) := by
  have e : rs.flatMap encR = (rs.take i).flatMap encR ++ encR rs[i] ++ (rs.drop (i + 1)).flatMap encR := by
    rw [← flat_take_succ rs i hi, ← List.flatMap_append, List.take_append_drop]
  have hl : ((rs.take i).flatMap encR).length = i * 3 := by rw [flat_len (enc := encR) (sz := 3) (fun _ => rfl), List.length_take, Nat.min_eq_left (by omega)]
  rw [e, List.append_assoc]
  refine ⟨?_, ?_, ?_⟩ <;> rw [List.getElem?_append_right (by omega), hl]
  · simp
  · rw [show i * 3 + 1 - i * 3 = 1 by omega]; rfl
  · rw [show i * 3 + 2 - i * 3 = 2 by omega]; rfl
theorem flatH_at {hs : List Hdr} {i : Nat} (hi : i < hs.length) : (hs.flatMap encH)[i * 2]? = some (.int .i64 hs[i].1) ∧ (hs.flatMap encH)[i * 2 + 1]? = some (hdV hs[i]) := by
  have e : hs.flatMap encH = (hs.take i).flatMap encH ++ encH hs[i] ++ (hs.drop (i + 1)).flatMap encH := by
    rw [← flat_take_succ hs i hi, ← List.flatMap_append, List.take_append_drop]
  have hl : ((hs.take i).flatMap encH).length = i * 2 := by rw [flat_len (enc := encH) (sz := 2) (fun _ => rfl), List.length_take, Nat.min_eq_left (by omega)]
  rw [e, List.append_assoc]
  refine ⟨?_, ?_⟩ <;> rw [List.getElem?_append_right (by omega), hl]
  · simp
  · rw [show i * 2 + 1 - i * 2 = 1 by omega]; rfl
theorem flatH_set0 (hs : List Hdr) (i : Nat) (hi : i < hs.length) (x : Int) : (hs.flatMap encH).set (i * 2) (.int .i64 x) = (hs.set i (x, hs[i].2)).flatMap encH := by
  have e : hs.flatMap encH = (hs.take i).flatMap encH ++ encH hs[i] ++ (hs.drop (i + 1)).flatMap encH := by
    rw [← flat_take_succ hs i hi, ← List.flatMap_append, List.take_append_drop]
  have hl : ((hs.take i).flatMap encH).length = i * 2 := by rw [flat_len (enc := encH) (sz := 2) (fun _ => rfl), List.length_take, Nat.min_eq_left (by omega)]
  rw [e, List.append_assoc, show encH hs[i] ++ (hs.drop (i + 1)).flatMap encH = .int .i64 hs[i].1 :: hdV hs[i] :: (hs.drop (i + 1)).flatMap encH from rfl, set1 _ hl]
  rw [List.set_eq_take_append_cons_drop, if_pos hi, List.flatMap_append, List.flatMap_cons]
  rfl
theorem markRelationS_calls (w : World) (lo : Nat) (v : Value) (rs : List Rel) (k0 : Int) (h : OR w lo v rs) (h0 : 1 ≤ k0) (h1 : k0 + 3 * rs.length ≤ 10000000) : Calls Try.prog 63 #[v, .int .i64 k0] w fun e w' => e = .returned (.int .i64 (k0 + 3 * rs.length)) ∧ OR w' lo v (markR k0 rs.length) ∧ Ex (fun b => some b = v.ownBlock) w w' := by
  rcases h.2 with ⟨rfl, hn⟩ | ⟨g, c, cur, rfl, hg⟩
  · obtain rfl : rs = [] := List.eq_nil_of_length_eq_zero hn
    go_enter Try.func63, Try.ntmps63
    go_wp2
    go_loop [5, 1] (fun v5 v1 => v5 = .int .i64 0 ∧ v1 = .int .i64 k0) (fun v _ => 0)
    case atStart => exact ⟨rfl, rfl⟩
    case round =>
      obtain ⟨rfl, rfl⟩ := hrel
      go_wp2
      go_ret
      exact ⟨by simp, h, Ex.refl _ _⟩
  · clear hg
    have h' := Aside0.mk h
    clear h
    go_enter Try.func63, Try.ntmps63
    go_wp2
    go_loopw [5, 1] (fun v5 v1 wr => ∃ (k : Nat) (cs : List Value), k ≤ rs.length ∧ v5 = .int .i64 k ∧ v1 = .int .i64 (k0 + 3 * k) ∧ Aside0 (wr.ownsRow lo 87 3 (.slice (some ⟨g, 0, none⟩) rs.length c) rs.length ((markR k0 k).flatMap encR ++ cs)) ∧ Ex (fun b => some b = some g) w wr) (fun v5 _ _ => rs.length - (intOf v5).toNat)
    case atStart => exact ⟨0, rs.flatMap encR, Nat.zero_le _, rfl, by simp, h', Ex.refl _ _⟩
    case round =>
      obtain ⟨k, cs, hk, rfl, rfl, hO, hE⟩ := hrel
      have hO2 := hO
      clear hO
      by_cases hlt : k < rs.length
      · have hcl := Aside0.mk (show 3 ≤ cs.length by have := hO2.out.1; rw [List.length_append, flat_len (enc := encR) (sz := 3) (fun _ => rfl), markR_len] at this; omega)
        have hw1 : IntKind.i64.wrap (k0 + 3 * (k : Int) + 1) = k0 + 3 * k + 1 := by rw [IntWalk.i64_in _ (by omega)]
        have hw2 : IntKind.i64.wrap (k0 + 3 * (k : Int) + 1 + 1) = k0 + 3 * k + 2 := by rw [IntWalk.i64_in _ (by omega)]; omega
        have hw3 : IntKind.i64.wrap (k0 + 3 * (k : Int) + 2 + 1) = k0 + 3 * ((k + 1 : Nat) : Int) := by rw [IntWalk.i64_in _ (by omega)]; omega
        go_wp2_with (go_at_call 106; refine (markText_calls wr (k0 + 3 * k) (by omega) (by omega)).mono ?_; rintro e w2 ⟨rfl, hb2⟩; have hO3 := Aside0.mk (pw_own_below hO2.out hb2); have hfz := own_frozen hO3.out (k * 3); have hfz1 := own_frozen hO3.out (k * 3 + 1); have hfz2 := own_frozen hO3.out (k * 3 + 2); obtain ⟨z, hz⟩ := own_some hO3.out (k * 3) (by omega); obtain ⟨z1, hz1⟩ := own_some hO3.out (k * 3 + 1) (by omega); obtain ⟨z2, hz2⟩ := own_some hO3.out (k * 3 + 2) (by omega))
        obtain ⟨z0, z1, z2, hcs⟩ := split3 (cs := cs) (i := 0) (by have := hcl.out; omega)
        simp only [List.take_zero, List.nil_append, Nat.zero_add] at hcs
        refine ⟨⟨k + 1, cs.drop 3, by omega, by go_num, by rfl, ⟨?_⟩, (((hE.then_on hb2).trans (Ex.set _ _ _) (fun i _ e => by rw [e])).trans (Ex.set _ _ _) (fun i _ e => by rw [e])).trans (Ex.set _ _ _) (fun i _ e => by rw [e])⟩, by simp [intOf]; omega⟩
        have := ((hO3.out.stored (k * 3) (.string (mText (k0 + 3 * k)))).1.stored (k * 3 + 1) (.int .i64 (k0 + 3 * k + 1))).1.stored (k * 3 + 2) (.bool ((k0 + 3 * k + 2) % 3 == 0)) |>.1
        rw [hcs, set3 (k * 3) (by rw [flat_len (enc := encR) (sz := 3) (fun _ => rfl), markR_len])] at this
        rw [markR_succ, List.flatMap_append, List.append_assoc]
        exact this
      · go_wp2
        go_ret
        obtain rfl : k = rs.length := by omega
        have h1 := hO2.out
        have h2 := h1.1
        have h3 : cs = [] := by
          rw [List.length_append, flat_len (enc := encR) (sz := 3) (fun _ => rfl), markR_len] at h2
          exact List.eq_nil_of_length_eq_zero (by omega)
        subst h3
        rw [List.append_nil] at h1
        refine ⟨rfl, ?_, hE⟩
        show World.ownsRow _ _ _ _ _ (markR k0 rs.length).length _
        rw [markR_len]
        exact h1
theorem heldRelationS_calls (w : World) (A c) (n : Nat) (k0 : Int) (h : Rels w A c (markR k0 n)) (h0 : 1 ≤ k0) (h1 : k0 + 3 * n ≤ 10000000) : Calls Try.prog 70 #[.slice A n c, .int .i64 k0] w fun e w' => e = .returned (.int .i64 (k0 + 3 * n)) ∧ On w w' := by
  have hl := markR_len k0 n
  go_enter Try.func70, Try.ntmps70
  go_wp2
  go_loopw [5, 1] (fun v5 v1 wr => ∃ k : Nat, k ≤ n ∧ v5 = .int .i64 k ∧ v1 = .int .i64 (k0 + 3 * k) ∧ On w wr) (fun v5 _ _ => n - (intOf v5).toNat)
  case atStart => exact ⟨0, Nat.zero_le _, rfl, by simp, On.refl _⟩
  case round =>
    obtain ⟨k, hk, rfl, rfl, hB⟩ := hrel
    by_cases hlt : k < n
    · obtain ⟨ad, rfl, hx0, hx1, hx2⟩ := (h.on hB).at k (by rw [hl]; exact hlt)
      rw [markR_at] at hx0 hx1 hx2
      have hw1 : IntKind.i64.wrap (k0 + 3 * (k : Int) + 1) = k0 + 3 * k + 1 := by rw [IntWalk.i64_in _ (by omega)]
      have hw2 : IntKind.i64.wrap (k0 + 3 * (k : Int) + 1 + 1) = k0 + 3 * k + 2 := by rw [IntWalk.i64_in _ (by omega)]; omega
      have hw3 : IntKind.i64.wrap (k0 + 3 * (k : Int) + 2 + 1) = k0 + 3 * ((k + 1 : Nat) : Int) := by rw [IntWalk.i64_in _ (by omega)]; omega
      replace hx0 : wr.cell? (ad.add (k * 3)) = some (.string (mText (k0 + 3 * k))) := hx0
      replace hx1 : wr.cell? ⟨(ad.add (k * 3)).block, (ad.add (k * 3)).off + 1, none⟩ = some (.int .i64 (k0 + 3 * k + 1)) := hx1
      replace hx2 : wr.cell? ⟨(ad.add (k * 3)).block, (ad.add (k * 3)).off + 2, none⟩ = some (.bool ((k0 + 3 * k + 2) % 3 == 0)) := hx2
      go_wp2
      refine Reg.region [(0,.L),(1,.L),(2,.L),(3,.L),(4,.L),(5,.L),(6,.C),(7,.L)] [] (by kernel_rfl) (by kernel_rfl) ?_
      repeat first | refine sP ?_ | refine sS ?_ | refine sA ?_ | refine sL ?_ | refine sQ ?_ | refine sO ?_
      refine callC (.string (mText (k0 + 3 * k))) Try.func106 (fun w' hS => ?_) ?_
      focus exact markText_calls w' (k0 + 3 * k) (by omega) (by omega)
      repeat first | refine sP ?_ | refine sS ?_ | refine sA ?_ | refine sL ?_ | refine sQ ?_ | refine sO ?_
      refine Reg.nil fun w2 hS => ?_
      have hx1' := (hS.eq _ (by rw [hx1]; rfl)).trans hx1
      have hx2' := (hS.eq _ (by rw [hx2]; rfl)).trans hx2
      go_wp2
      go_roundw
      case rel => exact ⟨k + 1, by omega, by go_num, rfl, hB.trans hS⟩
      case measure => simp [intOf]; omega
    · go_wp2
      go_ret
      exact ⟨ret_int (by omega), hB⟩
end Go.Proofs.Ytngjhblbpapjeaa.H
/- Walks: the laws' own marks on facts and instances. No condition. -/
namespace Go.Proofs.Ytngjhblbpapjeaa.H
open Go Go.RowKit Go.Proofs.YtngjhblbpapjeaaW.PrintWords Go.Proofs.YtngjhblbpapjeaaW.PrintLast
open Go.Proofs.Ytngjhblbpapjeaa.Reg (On on_draw)
set_option maxHeartbeats 1000000
set_option maxRecDepth 100000
set_option linter.unusedVariables false
set_option linter.unusedSimpArgs false

def markF (k : Int) : List Nat → List Fct
  | [] => []
  | m :: l => (k, markI (k + 1) m) :: markF (k + 1 + m) l
def cF (l : List Nat) : Nat := (l.map (· + 1)).sum
theorem markF_len (k : Int) (l : List Nat) : (markF k l).length = l.length := by
  induction l generalizing k with
  | nil => rfl
  | cons m l ih => simp [markF, ih]
theorem cF_snoc (l : List Nat) (m : Nat) : cF (l ++ [m]) = cF l + (m + 1) := by simp [cF]
theorem markF_snoc (k : Int) (l : List Nat) (m : Nat) : markF k (l ++ [m]) = markF k l ++ [(k + cF l, markI (k + cF l + 1) m)] := by
  induction l generalizing k with
  | nil => simp [markF, cF]
  | cons a l ih =>
    have h := ih (k + 1 + a)
    have e : k + 1 + (a : Int) + cF l = k + cF (a :: l) := by simp [cF]; omega
    rw [List.cons_append, markF, h, markF, e]; rfl
theorem cF_take_le (l : List Nat) (k : Nat) : cF (l.take k) ≤ cF l := by
  conv => rhs; rw [← List.take_append_drop k l]
  simp only [cF, List.map_append, List.sum_append]; omega
abbrev lens (fs : List Fct) : List Nat := fs.map fun f => f.2.length
theorem cF_lens (fs : List Fct) : cF (lens fs) = wF fs := by simp [cF, lens, wF, Function.comp_def]
theorem wF_len (fs : List Fct) : fs.length ≤ wF fs := by
  unfold wF
  induction fs with
  | nil => simp
  | cons f fs ih => simp at ih ⊢; omega
theorem Sep.ne_row {W : World} {lo lo' : Nat} {hs hs' : List Hdr} {fs : List Fct} {vf : Value} (h : Sep W lo hs fs) (hO : OH W lo' vf hs') {i b : Nat} {a : Hdr} (ha : hs[i]? = some a) (hb : (hdV a).ownBlock = some b) : vf.ownBlock ≠ some b := by
  have hi : i < fs.length := by rw [← h.len]; exact (List.getElem?_eq_some_iff.1 ha).1
  exact own_ne_blk (h.at_ i a fs[i] ha (List.getElem?_eq_getElem hi)).2.1 hO (by decide) hb
theorem set_hdr {hs : List Hdr} {i : Nat} (hi : i < hs.length) {x : Int} {j : Nat} {a : Hdr} (ha : (hs.set i (x, hs[i].2))[j]? = some a) : ∃ a', hs[j]? = some a' ∧ hdV a' = hdV a := by
  by_cases e : i = j
  · subst e
    rw [List.getElem?_set_self hi] at ha
    injection ha with ha; subst ha
    exact ⟨hs[i], List.getElem?_eq_getElem hi, rfl⟩
  · rw [List.getElem?_set_ne e] at ha
    exact ⟨a, ha, rfl⟩
/-- One fact's number and row are written anew. -/
theorem Sep.upd {W w : World} {lo : Nat} {hs : List Hdr} {fs : List Fct} (h : Sep W lo hs fs) {i : Nat} (hi : i < hs.length) {x : Int} {ys : List Int} (hw : ∀ (j : Nat) (a : Hdr) (b : Nat), j ≠ i → hs[j]? = some a → (hdV a).ownBlock = some b → w.heap[b]? = W.heap[b]?) (hO : OI w lo (hdV hs[i]) ys) (hR : InR ys) : Sep w lo (hs.set i (x, hs[i].2)) (fs.set i (x, ys)) := by
  refine ⟨by simp [h.len], fun j a f ha hf => ?_, fun j j' a b k ha hb h1 h2 => ?_⟩
  · by_cases e : i = j
    · subst e
      rw [List.getElem?_set_self hi] at ha
      rw [List.getElem?_set_self (by rw [← h.len]; exact hi)] at hf
      injection ha with ha; injection hf with hf; subst ha hf
      exact ⟨rfl, hO, hR⟩
    · rw [List.getElem?_set_ne e] at ha hf
      obtain ⟨h1, h2, h3⟩ := h.at_ j a f ha hf
      exact ⟨h1, own_move h2 fun b hb => hw j a b (Ne.symm e) ha hb, h3⟩
  · obtain ⟨a', ha', e1⟩ := set_hdr hi ha
    obtain ⟨b', hb', e2⟩ := set_hdr hi hb
    exact h.apart j j' a' b' k ha' hb' (by rw [e1]; exact h1) (by rw [e2]; exact h2)
/-- The blocks that a row of facts owns. -/
def FB (v : Value) (hs : List Hdr) (b : Nat) : Prop := some b = v.ownBlock ∨ ∃ (i : Nat) (a : Hdr), hs[i]? = some a ∧ some b = (hdV a).ownBlock
theorem FB.set {v : Value} {hs : List Hdr} {i : Nat} (hi : i < hs.length) {x : Int} {b : Nat} (h : FB v (hs.set i (x, hs[i].2)) b) : FB v hs b := by
  rcases h with h | ⟨j, a, ha, h⟩
  · exact .inl h
  · obtain ⟨a', ha', e⟩ := set_hdr hi ha
    exact .inr ⟨j, a', ha', by rw [e]; exact h⟩
theorem set_mid {α : Type} (P r : List α) (f y : α) (i : Nat) (hi : P.length = i) : (P ++ f :: r).set i y = P ++ y :: r := by subst hi; simp
theorem markFactS_calls (w : World) (lo lo2 : Nat) (v : Value) (hs : List Hdr) (fs : List Fct) (k0 : Int) (h : OH w lo2 v hs) (hS : Sep w lo hs fs) (h0 : 0 ≤ k0) (h1 : k0 + wF fs ≤ 10000000) : Calls Try.prog 64 #[v, .int .i64 k0] w fun e w' => e = .returned (.int .i64 (k0 + wF fs)) ∧ (∃ hs', OH w' lo2 v hs' ∧ Sep w' lo hs' (markF k0 (lens fs)) ∧ ∀ b, FB v hs' b → FB v hs b) ∧ Ex (FB v hs) w w' := by
  have hlen := hS.len
  rcases h.2 with ⟨rfl, hn⟩ | ⟨g, c, cur, rfl, hg⟩
  · obtain rfl : hs = [] := List.eq_nil_of_length_eq_zero hn
    obtain rfl : fs = [] := List.eq_nil_of_length_eq_zero hlen.symm
    go_enter Try.func64, Try.ntmps64
    go_wp2
    go_loop [5, 1] (fun v5 v1 => v5 = .int .i64 0 ∧ v1 = .int .i64 k0) (fun v _ => 0)
    case atStart => exact ⟨rfl, rfl⟩
    case round =>
      obtain ⟨rfl, rfl⟩ := hrel
      go_wp2
      go_ret
      exact ⟨by simp [wF], ⟨[], h, hS, fun _ h => h⟩, Ex.refl _ _⟩
  · clear hg
    have h' := Aside0.mk h
    have hS' := Aside0.mk hS
    clear h hS
    have hlen' := Aside0.mk hlen
    have hlmax : hs.length ≤ 10000000 := by have : fs.length ≤ wF fs := wF_len fs; omega
    clear hlen
    go_enter Try.func64, Try.ntmps64
    go_wp2
    go_loopw [5, 1] (fun v5 v1 wr => ∃ (k : Nat) (hs' : List Hdr), k ≤ hs.length ∧ v5 = .int .i64 k ∧ v1 = .int .i64 (k0 + cF ((lens fs).take k)) ∧ Aside0 (hs'.length = hs.length) ∧ Aside0 (OH wr lo2 (.slice (some ⟨g, 0, none⟩) hs.length c) hs') ∧ Aside0 (Sep wr lo hs' (markF k0 ((lens fs).take k) ++ fs.drop k)) ∧ Aside0 (∀ b, FB (.slice (some ⟨g, 0, none⟩) hs.length c) hs' b → FB (.slice (some ⟨g, 0, none⟩) hs.length c) hs b) ∧ Aside0 (Ex (FB (.slice (some ⟨g, 0, none⟩) hs.length c) hs) w wr)) (fun v5 _ _ => hs.length - (intOf v5).toNat)
    case atStart => exact ⟨0, hs, Nat.zero_le _, rfl, by simp [cF], ⟨rfl⟩, h', by simpa [markF] using hS', ⟨fun _ h => h⟩, ⟨Ex.refl _ _⟩⟩
    case round =>
      obtain ⟨k, hs', hk, rfl, rfl, hl, hO, hS, hF, hE⟩ := hrel
      have hO2 := hO
      clear hO
      obtain ⟨m, hm⟩ : ∃ m : Int, k0 + cF ((lens fs).take k) = m := ⟨_, rfl⟩
      by_cases hlt : k < hs.length
      · have hk1 : k < hs'.length := by rw [hl.out]; exact hlt
        have hkf : k < fs.length := by rw [← hlen'.out]; exact hlt
        have hcm := Aside0.mk (show cF ((lens fs).take (k + 1)) = cF ((lens fs).take k) + (fs[k].2.length + 1) by rw [List.take_succ_eq_append_getElem (by simpa using hkf), cF_snoc]; simp)
        have hle := Aside0.mk (show k0 + cF ((lens fs).take (k + 1)) ≤ 10000000 by have := cF_take_le (lens fs) (k + 1); rw [cF_lens] at this; omega)
        have hm0 := Aside0.mk (show 0 ≤ m ∧ m + 1 + fs[k].2.length ≤ 10000000 by have := hle.out; rw [hcm.out] at this; omega)
        have hO3 := Aside0.mk (show wr.ownsRow lo2 55 2 (.slice (some ⟨g, 0, none⟩) hs.length c) hs.length (hs'.flatMap encH) by have := hO2.out; unfold OH at this; rw [hl.out] at this; exact this)
        have hfz := own_frozen hO3.out (k * 2)
        obtain ⟨hz0, hz1⟩ := flatH_at hk1
        have hz2 := (hO3.out.cellAt (k * 2) (by omega)).trans hz0
        have hz3 := (hO3.out.cellAt (k * 2 + 1) (by omega)).trans hz1
        clear hz0 hz1
        obtain ⟨A1, n1, c1, hA⟩ : ∃ A n c, hdV hs'[k] = .slice A n c := ⟨_, _, _, rfl⟩
        rw [hA] at hz3
        have hw1 : IntKind.i64.wrap (m + 1) = m + 1 := by have := hm0.out; rw [IntWalk.i64_in _ (by omega)]
        have hFk : (markF k0 ((lens fs).take k) ++ fs.drop k)[k]? = some fs[k] := by
          rw [List.getElem?_append_right (by rw [markF_len, List.length_take]; omega), markF_len, List.length_take, List.getElem?_drop]
          simp only [lens, List.length_map, Nat.min_eq_left (show k ≤ fs.length by omega), Nat.sub_self, Nat.add_zero]
          exact List.getElem?_eq_getElem hkf
        have hOk := Aside0.mk (own_ex (hS.out.at_ k hs'[k] fs[k] (List.getElem?_eq_getElem hk1) hFk).2.1 (Ex.set wr ⟨g, k * 2, none⟩ (.int .i64 m)) (fun b hb e => hS.out.ne_row hO2.out (List.getElem?_eq_getElem hk1) hb (by rw [e]; rfl)))
        clear hFk
        rw [hA] at hOk
        have hA' := Aside0.mk hA
        clear hA
        rw [hm]
        go_wp2_with (go_at_call 19; refine (markIntS_calls _ lo _ fs[k].2 (m + 1) hOk.out (by have := hm0.out; omega) (by have := hm0.out; omega)).mono ?_; rintro e w2 ⟨rfl, hO5, hE5⟩; have hO6 := Aside0.mk hO5; have hE6 := Aside0.mk hE5; clear hO5 hE5)
        have hne : ∀ b, some b = (hdV hs'[k]).ownBlock → b ≠ g := fun b hb e => hS.out.ne_row hO2.out (List.getElem?_eq_getElem hk1) hb.symm (by rw [e]; rfl)
        have hE7 := hE6.out
        rw [← hA'.out] at hE7
        have hO7 := hO6.out
        rw [← hA'.out] at hO7
        have hS7 := Sep.upd (w := w2) (x := m) (ys := markI (m + 1) fs[k].2.length) hS.out hk1 (fun j a b hj ha hb => by
          have hb1 : b ≠ g := fun e => hS.out.ne_row hO2.out ha hb (by rw [e]; rfl)
          have hb2 : b < wr.heap.size := (hS.out.lt ha hb).2
          rw [hE7.block b (by simpa [World.setCell] using hb2) (fun e => hj (hS.out.apart j k a hs'[k] b ha (List.getElem?_eq_getElem hk1) hb e.symm))]
          exact Below.heap_setCell wr ⟨g, k * 2, none⟩ _ b hb1) hO7 (markI_inR _ _ (by have := hm0.out; omega) (by have := hm0.out; omega))
        refine ⟨⟨k + 1, hs'.set k (m, hs'[k].2), by omega, by go_num, ?_, ⟨by rw [List.length_set]; exact hl.out⟩, ⟨?_⟩, ⟨?_⟩, ⟨fun b hb => hF.out b (FB.set hk1 hb)⟩, ⟨(hE.out.trans (Ex.set wr _ _) (fun i _ e => .inl (by rw [e]; rfl))).trans hE7 (fun i _ e => hF.out i (.inr ⟨k, hs'[k], List.getElem?_eq_getElem hk1, e⟩))⟩⟩, by simp [intOf]; omega⟩
        · have h1 := hcm.out
          congr 1
          rw [h1]; omega
        · have h1 := (hO3.out.stored (k * 2) (.int .i64 m)).1
          rw [flatH_set0 hs' k hk1 m] at h1
          have h2 := own_ex h1 hE7 (fun b hb e => hne b e (by injection hb with hb; exact hb.symm))
          show World.ownsRow _ _ _ _ _ (hs'.set k (m, hs'[k].2)).length _
          rw [List.length_set, hl.out]
          exact h2
        · have e1 : (lens fs).take (k + 1) = (lens fs).take k ++ [fs[k].2.length] := by rw [List.take_succ_eq_append_getElem (by simpa using hkf)]; simp
          rw [List.drop_eq_getElem_cons hkf, set_mid _ _ _ _ k (by rw [markF_len, List.length_take]; simp; omega)] at hS7
          rw [e1, markF_snoc, hm, List.append_assoc]
          exact hS7
      · go_wp2
        go_ret
        obtain rfl : k = hs.length := by omega
        have e1 : (lens fs).take hs.length = lens fs := List.take_of_length_le (by simp [hlen'.out])
        have e2 : fs.drop hs.length = [] := List.drop_of_length_le (by rw [hlen'.out]; exact Nat.le_refl _)
        refine ⟨?_, ⟨hs', hO2.out, ?_, hF.out⟩, hE.out⟩
        · show Ending.returned (.int .i64 _) = _
          rw [e1, cF_lens]
        · have := hS.out
          rw [e1, e2, List.append_nil] at this
          exact this
end Go.Proofs.Ytngjhblbpapjeaa.H
/- Walks: nulls of instances. No condition. -/
namespace Go.Proofs.Ytngjhblbpapjeaa.H
open Go Go.RowKit Go.Proofs.YtngjhblbpapjeaaW.PrintWords Go.Proofs.YtngjhblbpapjeaaW.PrintLast
open Go.Proofs.Ytngjhblbpapjeaa.Reg (On on_draw)
set_option maxHeartbeats 1000000
set_option maxRecDepth 100000
set_option linter.unusedVariables false
set_option linter.unusedSimpArgs false

def putAll : List Int → List Int → List Int
  | out, [] => out
  | out, x :: l => putAll (put out x) l
def nulsIFrom : List Int → List Fct → List Int
  | out, [] => out
  | out, f :: l => nulsIFrom (putAll out (nuls f.2)) l
def nulsI (fs : List Fct) : List Int := nulsIFrom [] fs
theorem putAll_step (out l : List Int) (k : Nat) (h : k < l.length) : putAll out (l.drop k) = putAll (put out l[k]) (l.drop (k + 1)) := by
  rw [List.drop_eq_getElem_cons h]; rfl
theorem nulsIFrom_step (out : List Int) (fs : List Fct) (k : Nat) (h : k < fs.length) : nulsIFrom out (fs.drop k) = nulsIFrom (putAll out (nuls fs[k].2)) (fs.drop (k + 1)) := by
  rw [List.drop_eq_getElem_cons h]; rfl
theorem nulsFrom_ok (out vs : List Int) (h : ∀ x ∈ out, 0 ≤ x ∧ x ≤ 39) : (∀ x ∈ nulsFrom out vs, 0 ≤ x ∧ x ≤ 39) ∧ (nulsFrom out vs).length ≤ out.length + vs.length := by
  induction vs generalizing out with
  | nil => exact ⟨h, by simp [nulsFrom]⟩
  | cons v vs ih =>
    unfold nulsFrom
    split
    · have h2 := ih (put out (nulNum v)) (fun x hx => by
        rcases put_mem hx with hx | rfl
        · exact h x hx
        · exact nulNum_bd v)
      have := put_length out (nulNum v)
      exact ⟨h2.1, by simp only [List.length_cons]; omega⟩
    · have h2 := ih out h
      exact ⟨h2.1, by simp only [List.length_cons]; omega⟩
theorem nuls_ok (vs : List Int) : (∀ x ∈ nuls vs, 0 ≤ x ∧ x ≤ 39) ∧ (nuls vs).length ≤ vs.length := by
  have := nulsFrom_ok [] vs (fun x hx => by cases hx)
  exact ⟨this.1, Nat.le_trans this.2 (by simp)⟩
theorem inR_of {xs : List Int} (h : ∀ x ∈ xs, 0 ≤ x ∧ x ≤ 39) : InR xs := fun x hx => by have := h x hx; omega
theorem sNullsOfInstance_calls (w : World) (A0 n0 c0 A1 c1) (fs : List Fct) (h1 : Fcts w A1 c1 fs) (hl : wF fs ≤ 10000000) : Calls Try.prog 13 #[.agg #[.slice A0 n0 c0, .slice A1 fs.length c1]] w (Got fun v' w' => OInts w' w.heap.size v' (nulsI fs) ∧ On w w') := by
  have hmax : fs.length ≤ 10000000 := by have := wF_len fs; omega
  go_enter Try.func13, Try.ntmps13
  go_wp2
  go_loopw [3, 4] (fun v3 v4 wr => ∃ (k : Nat) (out : List Int), k ≤ fs.length ∧ v4 = .int .i64 k ∧ Aside0 (OInts wr w.heap.size v3 out) ∧ Aside0 (nulsIFrom out (fs.drop k) = nulsI fs) ∧ Aside0 (out.length ≤ wF (fs.take k)) ∧ Aside0 (InR out) ∧ On w wr ∧ Loc wr [(w.heap.size, #[.slice A0 n0 c0, .slice A1 fs.length c1], 32)]) (fun _ v4 _ => fs.length - (intOf v4).toNat)
  case atStart => exact ⟨0, [], Nat.zero_le _, rfl, ⟨own0' (by simp) (by simp)⟩, ⟨rfl⟩, ⟨Nat.zero_le _⟩, ⟨fun x hx => by cases hx⟩, On.alloc (On.alloc (On.refl _) _) _, Loc.on (On.alloc (On.refl _) _) (loc1 _ _ _)⟩
  case round =>
    obtain ⟨k, out, hk, rfl, hO, hp, hlen, hR, hB, hL⟩ := hrel
    have hc0 := blk_cell hL.1
    have hL' := Aside0.mk hL
    clear hL
    by_cases hlt : k < fs.length
    · obtain ⟨ad, A3, c3, rfl, hx0, hx1, hx2'⟩ := (h1.on hB).at k hlt
      have hst := Aside0.mk ((nulsIFrom_step out fs k hlt).symm.trans hp.out)
      have hwt := Aside0.mk (wF_take fs k hlt)
      have hwl := Aside0.mk (show wF (fs.take (k + 1)) ≤ 10000000 by have h5 : wF (fs.take (k + 1)) ≤ wF fs := (by have := cF_take_le (lens fs) (k + 1); rw [cF_lens, ← List.map_take] at this; rw [← cF_lens]; exact this); omega)
      have hok := Aside0.mk (nuls_ok fs[k].2)
      clear hp
      go_wp2_with (go_at_call 56; refine (NullsOfFact_calls wr A3 c3 fs[k].1 fs[k].2 hx2' (by have := hwl.out; have := hwt.out; omega)).mono ?_; rintro e w2 ⟨v5, rfl, hO5, hb5⟩; obtain ⟨A5, c5, rfl, hI5⟩ := OInts.slice hO5 (inR_of hok.out.1); clear hO5)
      have hI := Aside0.mk hI5
      go_loopw [3, 6] (fun v3 v6 wq => ∃ (j : Nat) (out2 : List Int), j ≤ (nuls fs[k].2).length ∧ v6 = .int .i64 j ∧ Aside0 (OInts wq w.heap.size v3 out2) ∧ Aside0 (putAll out2 ((nuls fs[k].2).drop j) = putAll out (nuls fs[k].2)) ∧ Aside0 (out2.length ≤ out.length + j) ∧ Aside0 (InR out2) ∧ On w2 wq) (fun _ v6 _ => (nuls fs[k].2).length - (intOf v6).toNat)
      case atStart => exact ⟨0, out, Nat.zero_le _, rfl, ⟨OInts.on hO.out hb5⟩, ⟨rfl⟩, ⟨Nat.le_refl _⟩, hR, On.refl _⟩
      case round =>
        obtain ⟨j, out2, hj, rfl, hO2, hp2, hlen2, hR2, hB2⟩ := hrel
        by_cases hlt2 : j < (nuls fs[k].2).length
        · obtain ⟨ad5, rfl, hy⟩ := (hI.out.on hB2).at j hlt2
          have hjb := hok.out.1 _ (List.getElem_mem hlt2)
          have hst2 := Aside0.mk ((putAll_step out2 _ j hlt2).symm.trans hp2.out)
          have hjl : (nuls fs[k].2).length ≤ 10000000 := by have := hok.out.2; have := hwl.out; have := hwt.out; omega
          have hol : out2.length ≤ 5000000000 := by have := hlen2.out; have := hlen.out; have := hwl.out; have := hwt.out; omega
          clear hp2 hjb
          go_wp2_with (go_at_call 57; refine (l4Put_calls wr w.heap.size ((hB.trans hb5).trans hB2).size _ out2 (nuls fs[k].2)[j] hO2.out hR2.out hol).mono ?_; rintro e w4 ⟨v4, rfl, hO4, hb4⟩)
          have hjb := hok.out.1 _ (List.getElem_mem hlt2)
          exact ⟨⟨j + 1, _, by omega, by go_num, ⟨hO4⟩, hst2, ⟨by have := put_length out2 (nuls fs[k].2)[j]; have := hlen2.out; omega⟩, ⟨put_inR hR2.out (by omega) (by omega)⟩, hB2.trans hb4⟩, by simp [intOf]; omega⟩
        · have hp3 := Aside0.mk (show out2 = putAll out (nuls fs[k].2) by rw [← hp2.out, List.drop_of_length_le (by omega)]; rfl)
          clear hp2
          go_wp2
          exact ⟨⟨k + 1, out2, by omega, by go_num, hO2, ⟨by rw [hp3.out]; exact hst.out⟩, ⟨by have := hlen2.out; have := hlen.out; have := hwt.out; have := hok.out.2; omega⟩, hR2, (hB.trans hb5).trans hB2, Loc.on (hb5.trans hB2) hL'.out⟩, by simp [intOf]; omega⟩
    · have hp' := Aside0.mk hp.out
      clear hp
      go_wp2
      go_ret
      exact ⟨_, rfl, by have := hp'.out; rw [List.drop_of_length_le (by omega)] at this; rw [← this]; exact hO.out, hB⟩
end Go.Proofs.Ytngjhblbpapjeaa.H
/- Substitutions, applied; homomorphisms. Plain. No condition. -/
namespace Go.Proofs.Ytngjhblbpapjeaa.H
open Go Go.RowKit Go.Proofs.YtngjhblbpapjeaaW.PrintWords Go.Proofs.YtngjhblbpapjeaaW.PrintLast
set_option linter.unusedVariables false
set_option linter.unusedSimpArgs false

/-- Substitutions: nulls in order, values. -/
def subFrom : Option Int → List Int → List Int → Bool
  | _, [], _ => true
  | p, k :: ns, vs => within k 0 39 && (match p with | none => true | some q => decide (q < k)) && okVal (vs.headD 0) && subFrom (some k) ns vs.tail
def okSub (ns vs : List Int) : Bool := decide (ns.length = vs.length) && subFrom none ns vs
def prevI (l : List Int) (k : Nat) : Option Int := if k = 0 then none else l[k - 1]?
def okPrevI (p : Option Int) (k : Int) : Bool := match p with | none => true | some q => decide (q < k)
theorem subFrom_step (ns vs : List Int) (k : Nat) (h : k < ns.length) (h2 : k < vs.length) : subFrom (prevI ns k) (ns.drop k) (vs.drop k) = (within ns[k] 0 39 && okPrevI (prevI ns k) ns[k] && okVal vs[k] && subFrom (prevI ns (k + 1)) (ns.drop (k + 1)) (vs.drop (k + 1))) := by
  rw [List.drop_eq_getElem_cons h, List.drop_eq_getElem_cons h2, show prevI ns (k + 1) = some ns[k] by simp [prevI, h]]
  rfl
theorem subFrom_mem {p : Option Int} {ns vs : List Int} (h : subFrom p ns vs = true) (hl : ns.length = vs.length) : (∀ k ∈ ns, 0 ≤ k ∧ k ≤ 39) ∧ (∀ v ∈ vs, -40 ≤ v ∧ v ≤ 9) ∧ ns.Pairwise (· < ·) ∧ ∀ q, p = some q → ∀ k ∈ ns, q < k := by
  induction ns generalizing p vs with
  | nil =>
    cases vs with
    | nil => simp
    | cons v vs => simp at hl
  | cons k ns ih =>
    cases vs with
    | nil => simp at hl
    | cons v vs =>
      simp only [subFrom, Bool.and_eq_true, List.headD_cons, List.tail_cons] at h
      obtain ⟨⟨⟨h1, h2⟩, h3⟩, h4⟩ := h
      obtain ⟨i1, i2, i3, i4⟩ := ih h4 (by simpa using hl)
      simp only [within, okVal, decide_eq_true_eq] at h1 h3
      refine ⟨fun x hx => ?_, fun x hx => ?_, ?_, fun q hq x hx => ?_⟩
      · rcases List.mem_cons.1 hx with rfl | hx
        · exact h1
        · exact i1 x hx
      · rcases List.mem_cons.1 hx with rfl | hx
        · exact h3
        · exact i2 x hx
      · rw [List.pairwise_cons]; exact ⟨i4 k rfl, i3⟩
      · subst hq
        have hqk : q < k := by simpa using h2
        rcases List.mem_cons.1 hx with rfl | hx
        · exact hqk
        · have := i4 k rfl x hx; omega
theorem okSub_spec {ns vs : List Int} (h : okSub ns vs = true) : ns.length = vs.length ∧ (∀ k ∈ ns, 0 ≤ k ∧ k ≤ 39) ∧ (∀ v ∈ vs, -40 ≤ v ∧ v ≤ 9) ∧ ns.Pairwise (· < ·) := by
  simp only [okSub, Bool.and_eq_true, decide_eq_true_eq] at h
  obtain ⟨a, b, c, _⟩ := subFrom_mem h.2 h.1
  exact ⟨h.1, a, b, c⟩
def findV : List Int → List Int → Int → Option Int
  | n :: ns, v :: vs, x => if -1 - n = x then some v else findV ns vs x
  | _, _, _ => none
def appV (ns vs : List Int) (x : Int) : Int := if okSub ns vs then (findV ns vs x).getD x else x
theorem findV_step (ns vs : List Int) (x : Int) (k : Nat) (h : k < ns.length) (h2 : k < vs.length) : findV (ns.drop k) (vs.drop k) x = if -1 - ns[k] = x then some vs[k] else findV (ns.drop (k + 1)) (vs.drop (k + 1)) x := by
  rw [List.drop_eq_getElem_cons h, List.drop_eq_getElem_cons h2]; rfl
theorem findV_nil (ns vs : List Int) (x : Int) (k : Nat) (h : ns.length ≤ k) : findV (ns.drop k) (vs.drop k) x = none := by
  rw [List.drop_of_length_le h]; rfl
theorem findV_mem : ∀ (ns vs : List Int) (x y : Int), findV ns vs x = some y → y ∈ vs
  | [], _, _, _, h => by simp [findV] at h
  | _ :: _, [], _, _, h => by simp [findV] at h
  | n :: ns, v :: vs, x, y, h => by
    unfold findV at h
    split at h
    · injection h with h; exact h ▸ List.mem_cons_self
    · exact List.mem_cons_of_mem _ (findV_mem ns vs x y h)
theorem appV_bd {ns vs : List Int} {x : Int} (h : -9223372036854775808 ≤ x ∧ x ≤ 9223372036854775807) : -9223372036854775808 ≤ appV ns vs x ∧ appV ns vs x ≤ 9223372036854775807 := by
  unfold appV
  split
  · rename_i h1
    cases h2 : findV ns vs x with
    | none => exact h
    | some y =>
      have := (okSub_spec h1).2.2.1 y (findV_mem _ _ _ _ h2)
      simp only [Option.getD_some]; omega
  · exact h
theorem appV_ok {ns vs : List Int} {x : Int} (h : okVal x = true) : okVal (appV ns vs x) = true := by
  unfold appV
  split
  · rename_i h1
    cases h2 : findV ns vs x with
    | none => exact h
    | some y =>
      have := (okSub_spec h1).2.2.1 y (findV_mem _ _ _ _ h2)
      simp only [Option.getD_some, okVal, decide_eq_true_eq]; exact this
  · exact h
/-- The program looks the null's number up. -/
theorem idx_findV : ∀ (ns vs : List Int) (x : Int) (i : Nat), ns.length = vs.length → (∀ k ∈ ns, 0 ≤ k ∧ k ≤ 39) → isNul x = true →
    (idxFrom (fun n => n == nulNum x) ns i = -1 ∧ findV ns vs x = none) ∨ ∃ k, ∃ h : k < vs.length, idxFrom (fun n => n == nulNum x) ns i = ((i + k : Nat) : Int) ∧ findV ns vs x = some vs[k]
  | [], [], _, _, _, _, _ => .inl ⟨rfl, rfl⟩
  | [], _ :: _, _, _, h, _, _ => by simp at h
  | _ :: _, [], _, _, h, _, _ => by simp at h
  | n :: ns, v :: vs, x, i, hl, hb, hx => by
    have hn := hb n List.mem_cons_self
    have e : (n == nulNum x) = decide (-1 - n = x) := by
      have hx' := hx
      simp only [isNul, decide_eq_true_eq] at hx'
      unfold nulNum; rw [if_pos hx]
      by_cases c : n = -1 - x
      · have : -1 - n = x := by omega
        simp [c]; omega
      · have : ¬ -1 - n = x := by omega
        simp [this, c]
    unfold idxFrom findV
    by_cases c : -1 - n = x
    · rw [if_pos c]
      refine .inr ⟨0, by simp, ?_, by simp⟩
      rw [if_pos (by rw [e]; exact decide_eq_true c)]; simp
    · rw [if_neg c, if_neg (by rw [e]; simpa using c)]
      rcases idx_findV ns vs x (i + 1) (by simpa using hl) (fun k hk => hb k (List.mem_cons_of_mem _ hk)) hx with h | ⟨k, hk, h1, h2⟩
      · exact .inl h
      · refine .inr ⟨k + 1, by simp; omega, ?_, by simpa using h2⟩
        rw [h1]; congr 1; omega
theorem findV_not {ns vs : List Int} {x : Int} (hb : ∀ k ∈ ns, 0 ≤ k ∧ k ≤ 39) (hx : isNul x = false) : findV ns vs x = none := by
  induction ns generalizing vs with
  | nil => rfl
  | cons n ns ih =>
    cases vs with
    | nil => rfl
    | cons v vs =>
      have hn := hb n List.mem_cons_self
      have : ¬ -1 - n = x := by
        intro c
        simp only [isNul, decide_eq_false_iff_not] at hx
        omega
      unfold findV
      rw [if_neg this]
      exact ih fun k hk => hb k (List.mem_cons_of_mem _ hk)
def appF (ns vs : List Int) (f : Fct) : Fct := (f.1, f.2.map (appV ns vs))
theorem ints_zero (a b : List Int) : (ints a b == 0) = decide (a = b) := by
  by_cases h : a = b
  · subst h; simp [(ints_eq a a).2 rfl]
  · have : ¬ ints a b = 0 := fun e => h ((ints_eq a b).1 e)
    simp [h, this]
/-- A homomorphism of instances. -/
def isHom (r1 : List Rel) (f1 : List Fct) (r2 : List Rel) (f2 : List Fct) (ns vs : List Int) : Bool :=
  okInst r1 f1 && (okInst r2 f2 && (okSub ns vs && (decide (r1 = r2) && (decide (ns = nulsI f1) && f1.all fun f => hasF f2 (appF ns vs f)))))
end Go.Proofs.Ytngjhblbpapjeaa.H
/- Bindings, the search for homomorphisms. Plain. No condition. -/
namespace Go.Proofs.Ytngjhblbpapjeaa.H
open Go Go.RowKit Go.Proofs.YtngjhblbpapjeaaW.PrintWords Go.Proofs.YtngjhblbpapjeaaW.PrintLast
set_option linter.unusedVariables false
set_option linter.unusedSimpArgs false

/-- A binding of nulls: forty cells, 10 where nothing is bound. -/
def nxt (l : List Int) (v w : Int) : Option (List Int) := if isNul v then (if l.getD (nulNum v).toNat 10 ≠ 10 ∧ l.getD (nulNum v).toNat 10 ≠ w then none else some (l.set (nulNum v).toNat w)) else if v ≠ w then none else some l
def fitFrom : List Int → List Int → List Int → Option (List Int)
  | [], _, x => some x
  | v :: fv, gv, x => (nxt x v (gv.headD 0)).bind fun y => fitFrom fv gv.tail y
def fit (f g : Fct) (x : List Int) : Option (List Int) := if f.1 ≠ g.1 ∨ f.2.length ≠ g.2.length then none else fitFrom f.2 g.2 x
theorem fitFrom_step (fv gv x : List Int) (k : Nat) (h : k < fv.length) (h2 : k < gv.length) : fitFrom (fv.drop k) (gv.drop k) x = (nxt x fv[k] gv[k]).bind fun y => fitFrom (fv.drop (k + 1)) (gv.drop (k + 1)) y := by
  rw [List.drop_eq_getElem_cons h, List.drop_eq_getElem_cons h2]
  rfl
theorem nxt_len {l : List Int} {v w : Int} {y : List Int} (h : nxt l v w = some y) : y.length = l.length := by
  unfold nxt at h
  split at h
  · split at h
    · cases h
    · injection h with h; subst h; simp
  · split at h
    · cases h
    · injection h with h; subst h; rfl
theorem fitFrom_len : ∀ (fv gv x y : List Int), fv.length = gv.length → fitFrom fv gv x = some y → y.length = x.length
  | [], _, x, y, _, h => by unfold fitFrom at h; injection h with h; rw [h]
  | v :: fv, [], x, y, hl, h => by simp at hl
  | v :: fv, w :: gv, x, y, hl, h => by
    have := fitFrom_step (v :: fv) (w :: gv) x 0 (by simp) (by simp)
    simp only [List.drop_zero, List.getElem_cons_zero, List.drop_succ_cons] at this
    rw [this] at h
    cases hn : nxt x v w with
    | none => rw [hn] at h; cases h
    | some z =>
      rw [hn] at h
      have := fitFrom_len fv gv z y (by simpa using hl) h
      rw [this, nxt_len hn]
theorem fit_len {f g : Fct} {x y : List Int} (h : fit f g x = some y) : y.length = x.length := by
  unfold fit at h
  split at h
  · cases h
  · rename_i hc
    have : f.2.length = g.2.length := Decidable.byContradiction fun c => hc (.inr c)
    exact fitFrom_len _ _ _ _ this h
/-- The bindings that go on from x over the facts, at most so many. -/
def walk (tos : List Fct) : List Fct → List Int → Nat → List (List Int)
  | [], x, _ => [x]
  | f :: fs, x, most => tos.foldl (fun out g => if out.length < most then (match fit f g x with | some y => out ++ walk tos fs y (most - out.length) | none => out) else out) []
def wstep (tos fs : List Fct) (f : Fct) (x : List Int) (most : Nat) (out : List (List Int)) (g : Fct) : List (List Int) := if out.length < most then (match fit f g x with | some y => out ++ walk tos fs y (most - out.length) | none => out) else out
theorem walk_cons (tos fs : List Fct) (f : Fct) (x : List Int) (most : Nat) : walk tos (f :: fs) x most = tos.foldl (wstep tos fs f x most) [] := rfl
theorem wstep_full {tos fs : List Fct} {f : Fct} {x : List Int} {most : Nat} {out : List (List Int)} (h : most ≤ out.length) : ∀ l : List Fct, l.foldl (wstep tos fs f x most) out = out
  | [] => rfl
  | g :: l => by
    rw [List.foldl_cons, show wstep tos fs f x most out g = out by unfold wstep; rw [if_neg (by omega)]]
    exact wstep_full h l
theorem wfold_succ (tos fs : List Fct) (f : Fct) (x : List Int) (most : Nat) (k : Nat) (h : k < tos.length) : (tos.take (k + 1)).foldl (wstep tos fs f x most) [] = wstep tos fs f x most ((tos.take k).foldl (wstep tos fs f x most) []) tos[k] := by
  rw [List.take_succ_eq_append_getElem h, List.foldl_append]; rfl
theorem wfold_stop (tos fs : List Fct) (f : Fct) (x : List Int) (most : Nat) (k : Nat) (h : most ≤ ((tos.take k).foldl (wstep tos fs f x most) []).length) : tos.foldl (wstep tos fs f x most) [] = (tos.take k).foldl (wstep tos fs f x most) [] := by
  have e : tos.foldl (wstep tos fs f x most) [] = (tos.take k ++ tos.drop k).foldl (wstep tos fs f x most) [] := by rw [List.take_append_drop]
  rw [e, List.foldl_append]
  exact wstep_full h _
theorem walk_len (tos : List Fct) : ∀ (fs : List Fct) (x : List Int) (most : Nat), 1 ≤ most → (walk tos fs x most).length ≤ most
  | [], _, _, h => h
  | f :: fs, x, most, h => by
    rw [walk_cons]
    have : ∀ (l : List Fct) (out : List (List Int)), out.length ≤ most → (l.foldl (wstep tos fs f x most) out).length ≤ most := by
      intro l
      induction l with
      | nil => intro out h; exact h
      | cons g l ih =>
        intro out ho
        rw [List.foldl_cons]
        refine ih _ ?_
        unfold wstep
        split
        · rename_i hlt
          split
          · rename_i y _
            have := walk_len tos fs y (most - out.length) (by omega)
            rw [List.length_append]; omega
          · exact ho
        · exact ho
    exact this tos [] (Nat.zero_le _)
theorem walk_mem (tos : List Fct) (p : List Int → Prop) (hp : ∀ f g x y, g ∈ tos → p x → fit f g x = some y → p y) : ∀ (fs : List Fct) (x : List Int) (most : Nat), p x → ∀ y ∈ walk tos fs x most, p y
  | [], x, _, h, y, hy => by rw [walk] at hy; rw [List.mem_singleton.1 hy]; exact h
  | f :: fs, x, most, h, y, hy => by
    rw [walk_cons] at hy
    have : ∀ (l : List Fct) (out : List (List Int)), (∀ g ∈ l, g ∈ tos) → (∀ y ∈ out, p y) → ∀ y ∈ l.foldl (wstep tos fs f x most) out, p y := by
      intro l
      induction l with
      | nil => intro out _ h; exact h
      | cons g l ih =>
        intro out hl ho
        rw [List.foldl_cons]
        refine ih _ (fun z hz => hl z (List.mem_cons_of_mem _ hz)) ?_
        unfold wstep
        split
        · split
          · rename_i z hz
            intro y hy
            rcases List.mem_append.1 hy with hy | hy
            · exact ho y hy
            · exact walk_mem tos p hp fs z _ (hp f g x z (hl g List.mem_cons_self) h hz) y hy
          · exact ho
        · exact ho
    exact this tos [] (fun g hg => hg) (by simp) y hy
/-- The substitution that a binding is. -/
def subI : Nat → List Int → List Int × List Int
  | _, [] => ([], [])
  | k, v :: l => if v = 10 then subI (k + 1) l else ((k : Int) :: (subI (k + 1) l).1, v :: (subI (k + 1) l).2)
def none40 : List Int := List.replicate 40 10
def homs (r1 : List Rel) (f1 : List Fct) (r2 : List Rel) (f2 : List Fct) (most : Nat) : List (List Int) := if okInst r1 f1 && okInst r2 f2 && decide (r1 = r2) then walk f2 f1 none40 most else []
def subs (r1 : List Rel) (f1 : List Fct) (r2 : List Rel) (f2 : List Fct) (most : Nat) : List (List Int × List Int) := (homs r1 f1 r2 f2 most).map (subI 0)
def hasHom (r1 : List Rel) (f1 : List Fct) (r2 : List Rel) (f2 : List Fct) : Bool := decide ((homs r1 f1 r2 f2 1).length ≠ 0)
theorem subI_len (k : Nat) (l : List Int) : (subI k l).1.length = (subI k l).2.length ∧ (subI k l).1.length ≤ l.length := by
  induction l generalizing k with
  | nil => simp [subI]
  | cons v l ih =>
    unfold subI
    have := ih (k + 1)
    split
    · simp; omega
    · simp; omega
theorem subI_cons (k : Nat) (v : Int) (l : List Int) : subI k (v :: l) = if v = 10 then subI (k + 1) l else ((k : Int) :: (subI (k + 1) l).1, v :: (subI (k + 1) l).2) := rfl
theorem subI_append (k : Nat) (a b : List Int) : subI k (a ++ b) = ((subI k a).1 ++ (subI (k + a.length) b).1, (subI k a).2 ++ (subI (k + a.length) b).2) := by
  induction a generalizing k with
  | nil => simp [subI]
  | cons v a ih =>
    have e : k + (v :: a).length = k + 1 + a.length := by simp; omega
    rw [List.cons_append, subI_cons, subI_cons, ih (k + 1), e]
    split <;> simp
theorem subI_succ (l : List Int) (k : Nat) (h : k < l.length) : subI 0 (l.take (k + 1)) = if l[k] = 10 then subI 0 (l.take k) else ((subI 0 (l.take k)).1 ++ [(k : Int)], (subI 0 (l.take k)).2 ++ [l[k]]) := by
  rw [List.take_succ_eq_append_getElem h, subI_append]
  have : (l.take k).length = k := by rw [List.length_take]; omega
  rw [this, Nat.zero_add]
  simp only [subI]
  split <;> simp
end Go.Proofs.Ytngjhblbpapjeaa.H
/- Walks: valid instances. No condition. -/
namespace Go.Proofs.Ytngjhblbpapjeaa.H
open Go Go.RowKit Go.Proofs.YtngjhblbpapjeaaW.PrintWords Go.Proofs.YtngjhblbpapjeaaW.PrintLast
open Go.Proofs.Ytngjhblbpapjeaa.Reg (On on_draw)
set_option maxHeartbeats 8000000
set_option maxRecDepth 100000
set_option linter.unusedVariables false
set_option linter.unusedSimpArgs false

theorem IsValidInstance_calls (w : World) (A0 c0 A1 c1) (rs : List Rel) (fs : List Fct) (h0 : Rels w A0 c0 rs) (h1 : Fcts w A1 c1 fs) :
    Calls Try.prog 41 #[.agg #[.slice A0 rs.length c0, .slice A1 fs.length c1]] w fun e w' => e = .returned (.bool (okInst rs fs)) ∧ On w w' := by
  have hm0 := h0.max
  have hm1 := h1.max
  go_enter Try.func41, Try.ntmps41
  go_wp2
  go_loopw [3] (fun v wr => ∃ k : Nat, k ≤ fs.length ∧ v = .int .i64 k ∧ Hid (factsFrom rs (prevFct fs k) (fs.drop k) = factsFrom rs none fs) ∧ On w wr ∧ Loc wr [(w.heap.size, #[.slice A0 rs.length c0, .slice A1 fs.length c1], 32)]) (fun v _ => fs.length - (intOf v).toNat)
  case atStart => exact ⟨0, Nat.zero_le _, rfl, rfl, On.alloc (On.refl _) _, loc1 _ _ _⟩
  case round =>
    obtain ⟨k, hk, rfl, hp, hB, hL⟩ := hrel
    have hc0 := blk_cell hL.1
    have hL' := Aside0.mk hL
    clear hL
    by_cases hlt : k < fs.length
    · obtain ⟨ad, A3, c3, rfl, hx0, hx1, hx2'⟩ := (h1.on hB).at k hlt
      have hfill := alloc_fill wr
      have hst := Aside0.mk ((factsFrom_step rs fs k hlt).symm.trans hp.out)
      have hbx := Aside0.mk (On.alloc (On.refl wr) (.cells #[.int .i64 fs[k].1, .slice A3 fs[k].2.length c3] 55))
      have hB2 := Aside0.mk (hB.trans hbx.out)
      have hcn := blk_cell (loc_new wr #[.int .i64 fs[k].1, .slice A3 fs[k].2.length c3] 55)
      have hcm := blk_cell (Loc.on hbx.out hL'.out).1
      clear hp
      cases hok0 : okFact rs fs[k] with
      | false =>
        have hok := Aside0.mk hok0
        clear hok0
        go_wp2
        refine Reg.region [(0,.L),(1,.L),(2,.L),(3,.C),(4,.L),(5,.L),(6,.L),(7,.L),(8,.L),(9,.L),(10,.L),(11,.L),(12,.L),(13,.L),(14,.L),(15,.L),(16,.C),(17,.L),(18,.L),(19,.L),(20,.L),(21,.L),(22,.L),(23,.L),(24,.L),(25,.L),(26,.L),(27,.L),(28,.L),(29,.L),(30,.N),(31,.L),(32,.L),(33,.L),(34,.L)] [] (by kernel_rfl) (by kernel_rfl) ?_
        repeat first | refine sP ?_ | refine sS ?_ | refine sA ?_ | refine sL ?_ | refine sQ ?_ | refine sO ?_
        refine callC (.bool false) Try.func92 (fun w' hS => ?_) ?_
        focus exact (IsValidFact_calls w' _ c0 rs _ c3 fs[k] (h0.on (hB2.out.trans hS)) (hx2'.on (hbx.out.trans hS))).mono fun e w'' h => ⟨by rw [h.1, hok.out], h.2⟩
        repeat first | refine sP ?_ | refine sS ?_ | refine sA ?_ | refine sL ?_ | refine sQ ?_ | refine sO ?_
        refine Reg.nil fun w2 hS => ?_
        go_wp2
        go_ret
        exact ⟨ret_bool (by have := hst.out; unfold okNext at this; rw [hok.out] at this; simp at this; simp [okInst, this]), hB2.out.trans hS⟩
      | true =>
        have hok := Aside0.mk hok0
        have hat := okFact_at hok0
        clear hok0
        have hat1 : fs[k].1.toNat < rs.length := by omega
        have hat2 : 0 ≤ fs[k].1 := hat.1
        have hat3 : fs[k].1 < rs.length := hat.2
        obtain ⟨ad0, rfl, _, _, hxs0⟩ := (h0.on hB2.out).at fs[k].1.toNat hat1
        have hxs : (wr.alloc (.cells #[.int .i64 fs[k].1, .slice A3 fs[k].2.length c3] 55)).cell? ⟨(ad0.add (fs[k].1.toNat * 3)).block, (ad0.add (fs[k].1.toNat * 3)).off + 2, none⟩ = some (.bool (srcOf rs fs[k].1)) := by rw [hxs0]; simp [srcOf, hat1]
        clear hxs0 hat
        by_cases hk0 : 0 < k
        · have hk0' : decide (0 < (k : Int)) = true := decide_eq_true (by omega)
          have hki : IntKind.i64.wrap ((k : Int) - 1) = ((k - 1 : Nat) : Int) := by rw [IntWalk.i64_in _ (by omega)]; omega
          have hk1 : k - 1 < fs.length := by omega
          obtain ⟨ad', A4, c4, e', hy0, hy1, hy2⟩ := (h1.on hB2.out).at (k - 1) hk1
          obtain rfl : ad = ad' := by simpa using e'
          have hpn : prevFct fs k = some fs[k - 1] := by simp [prevFct, show ¬ k = 0 by omega, show k - 1 < fs.length by omega]
          by_cases hc : cmpF fs[k - 1] fs[k] < 0
          · have hcb : decide (0 ≤ cmpF fs[k - 1] fs[k]) = false := decide_eq_false (by omega)
            have hpv := Aside0.mk (show okPrev (prevFct fs k) fs[k] = true by rw [hpn]; exact decide_eq_true hc)
            clear hc hpn
            cases hs : srcOf rs fs[k].1 with
            | false =>
              rw [hs] at hxs
              have hs' := Aside0.mk hs
              clear hs
              go_wp2
              refine Reg.region [(0,.L),(1,.L),(2,.L),(3,.C),(4,.L),(5,.L),(6,.L),(7,.L),(8,.L),(9,.L),(10,.L),(11,.L),(12,.L),(13,.L),(14,.L),(15,.L),(16,.C),(17,.L),(18,.L),(19,.L),(20,.L),(21,.L),(22,.L),(23,.L),(24,.L),(25,.L),(26,.L),(27,.L),(28,.L),(29,.L),(30,.N),(31,.L),(32,.L),(33,.L),(34,.L)] [] (by kernel_rfl) (by kernel_rfl) ?_
              repeat first | refine sP ?_ | refine sS ?_ | refine sA ?_ | refine sL ?_ | refine sQ ?_ | refine sO ?_
              refine callC (.bool true) Try.func92 (fun w' hS => ?_) ?_
              focus exact (IsValidFact_calls w' _ c0 rs _ c3 fs[k] (h0.on (hB2.out.trans hS)) (hx2'.on (hbx.out.trans hS))).mono fun e w'' h => ⟨by rw [h.1, hok.out], h.2⟩
              repeat first | refine sP ?_ | refine sS ?_ | refine sA ?_ | refine sL ?_ | refine sQ ?_ | refine sO ?_
              refine callC (.int .i64 (cmpF fs[k - 1] fs[k])) Try.func93 (fun w' hS => ?_) ?_
              focus exact CompareFacts_calls w' A4 c4 A3 c3 fs[k - 1] fs[k] (hy2.on hS) (hx2'.on (hbx.out.trans hS))
              repeat first | refine sP ?_ | refine sS ?_ | refine sA ?_ | refine sL ?_ | refine sQ ?_ | refine sO ?_
              refine Reg.nil fun w2 hS => ?_
              go_wp2
              go_roundw
              case rel => exact ⟨k + 1, by omega, by go_num, (by have := hst.out; unfold okNext at this; rw [hok.out, hpv.out, hs'.out] at this; simpa using this : _ = _), hB2.out.trans hS, Loc.on (hbx.out.trans hS) hL'.out⟩
              case measure => simp [intOf]; omega
            | true =>
              rw [hs] at hxs
              have hs' := Aside0.mk hs
              clear hs
              by_cases hz : (nuls fs[k].2).length = 0
              · have hzb : decide (0 < ((nuls fs[k].2).length : Int)) = false := decide_eq_false (by omega)
                have hzc : decide (0 < (nuls fs[k].2).length) = false := decide_eq_false (by omega)
                have hz' := Aside0.mk hz
                clear hz
                go_wp2
                refine Reg.region [(0,.L),(1,.L),(2,.L),(3,.C),(4,.L),(5,.L),(6,.L),(7,.L),(8,.L),(9,.L),(10,.L),(11,.L),(12,.L),(13,.L),(14,.L),(15,.L),(16,.C),(17,.L),(18,.L),(19,.L),(20,.L),(21,.L),(22,.L),(23,.L),(24,.L),(25,.L),(26,.L),(27,.L),(28,.L),(29,.L),(30,.N),(31,.L),(32,.L),(33,.L),(34,.L)] [] (by kernel_rfl) (by kernel_rfl) ?_
                repeat first | refine sP ?_ | refine sS ?_ | refine sA ?_ | refine sL ?_ | refine sQ ?_ | refine sO ?_
                refine callC (.bool true) Try.func92 (fun w' hS => ?_) ?_
                focus exact (IsValidFact_calls w' _ c0 rs _ c3 fs[k] (h0.on (hB2.out.trans hS)) (hx2'.on (hbx.out.trans hS))).mono fun e w'' h => ⟨by rw [h.1, hok.out], h.2⟩
                repeat first | refine sP ?_ | refine sS ?_ | refine sA ?_ | refine sL ?_ | refine sQ ?_ | refine sO ?_
                refine callC (.int .i64 (cmpF fs[k - 1] fs[k])) Try.func93 (fun w' hS => ?_) ?_
                focus exact CompareFacts_calls w' A4 c4 A3 c3 fs[k - 1] fs[k] (hy2.on hS) (hx2'.on (hbx.out.trans hS))
                repeat first | refine sP ?_ | refine sS ?_ | refine sA ?_ | refine sL ?_ | refine sQ ?_ | refine sO ?_
                refine callN Try.func56 (fun w' hS => ?_)
                focus
                  refine (NullsOfFact_calls w' A3 c3 fs[k].1 fs[k].2 (hx2'.on (hbx.out.trans hS)) (Nat.le_trans (okFact_len hok.out) (by omega))).mono ?_
                  rintro e w2 ⟨v, rfl, hO, hb⟩
                  refine ⟨v, rfl, hb, fun a' ha => ?_⟩
                  simp only [Act.put, List.setIfInBounds_toArray, List.set_cons_zero, List.set_cons_succ] at ha
                  subst ha
                  obtain ⟨A5, c5, rfl⟩ := Kd.R_slice hO
                  have hS2 := Aside0.mk (hS.trans hb)
                  clear hO hb hS
                repeat first | refine sP ?_ | refine sS ?_ | refine sA ?_ | refine sL ?_ | refine sQ ?_ | refine sO ?_
                refine Reg.nil fun w3 hS3 => ?_
                go_wp2
                exact ⟨⟨k + 1, by omega, by go_num, (by have := hst.out; unfold okNext at this; rw [hok.out, hpv.out, hs'.out, hz'.out] at this; simpa using this : _ = _), (hB2.out.trans hS2.out).trans hS3, Loc.on ((hbx.out.trans hS2.out).trans hS3) hL'.out⟩, by simp [intOf]; omega⟩
              · have hzb : decide (0 < ((nuls fs[k].2).length : Int)) = true := decide_eq_true (by omega)
                have hzc : decide (0 < (nuls fs[k].2).length) = true := decide_eq_true (by omega)
                have hz' := Aside0.mk (decide_eq_false hz)
                clear hz
                go_wp2
                refine Reg.region [(0,.L),(1,.L),(2,.L),(3,.C),(4,.L),(5,.L),(6,.L),(7,.L),(8,.L),(9,.L),(10,.L),(11,.L),(12,.L),(13,.L),(14,.L),(15,.L),(16,.C),(17,.L),(18,.L),(19,.L),(20,.L),(21,.L),(22,.L),(23,.L),(24,.L),(25,.L),(26,.L),(27,.L),(28,.L),(29,.L),(30,.N),(31,.L),(32,.L),(33,.L),(34,.L)] [] (by kernel_rfl) (by kernel_rfl) ?_
                repeat first | refine sP ?_ | refine sS ?_ | refine sA ?_ | refine sL ?_ | refine sQ ?_ | refine sO ?_
                refine callC (.bool true) Try.func92 (fun w' hS => ?_) ?_
                focus exact (IsValidFact_calls w' _ c0 rs _ c3 fs[k] (h0.on (hB2.out.trans hS)) (hx2'.on (hbx.out.trans hS))).mono fun e w'' h => ⟨by rw [h.1, hok.out], h.2⟩
                repeat first | refine sP ?_ | refine sS ?_ | refine sA ?_ | refine sL ?_ | refine sQ ?_ | refine sO ?_
                refine callC (.int .i64 (cmpF fs[k - 1] fs[k])) Try.func93 (fun w' hS => ?_) ?_
                focus exact CompareFacts_calls w' A4 c4 A3 c3 fs[k - 1] fs[k] (hy2.on hS) (hx2'.on (hbx.out.trans hS))
                repeat first | refine sP ?_ | refine sS ?_ | refine sA ?_ | refine sL ?_ | refine sQ ?_ | refine sO ?_
                refine callN Try.func56 (fun w' hS => ?_)
                focus
                  refine (NullsOfFact_calls w' A3 c3 fs[k].1 fs[k].2 (hx2'.on (hbx.out.trans hS)) (Nat.le_trans (okFact_len hok.out) (by omega))).mono ?_
                  rintro e w2 ⟨v, rfl, hO, hb⟩
                  refine ⟨v, rfl, hb, fun a' ha => ?_⟩
                  simp only [Act.put, List.setIfInBounds_toArray, List.set_cons_zero, List.set_cons_succ] at ha
                  subst ha
                  obtain ⟨A5, c5, rfl⟩ := Kd.R_slice hO
                  have hS2 := Aside0.mk (hS.trans hb)
                  clear hO hb hS
                repeat first | refine sP ?_ | refine sS ?_ | refine sA ?_ | refine sL ?_ | refine sQ ?_ | refine sO ?_
                refine Reg.nil fun w3 hS3 => ?_
                go_wp2
                go_ret
                exact ⟨ret_bool (by have := hst.out; unfold okNext at this; rw [hok.out, hpv.out, hs'.out, hz'.out] at this; simp at this; simp [okInst, this]), (hB2.out.trans hS2.out).trans hS3⟩
          · have hcb : decide (0 ≤ cmpF fs[k - 1] fs[k]) = true := decide_eq_true (by omega)
            have hpv := Aside0.mk (show okPrev (prevFct fs k) fs[k] = false by rw [hpn]; exact decide_eq_false hc)
            clear hc hpn
            go_wp2
            refine Reg.region [(0,.L),(1,.L),(2,.L),(3,.C),(4,.L),(5,.L),(6,.L),(7,.L),(8,.L),(9,.L),(10,.L),(11,.L),(12,.L),(13,.L),(14,.L),(15,.L),(16,.C),(17,.L),(18,.L),(19,.L),(20,.L),(21,.L),(22,.L),(23,.L),(24,.L),(25,.L),(26,.L),(27,.L),(28,.L),(29,.L),(30,.N),(31,.L),(32,.L),(33,.L),(34,.L)] [] (by kernel_rfl) (by kernel_rfl) ?_
            repeat first | refine sP ?_ | refine sS ?_ | refine sA ?_ | refine sL ?_ | refine sQ ?_ | refine sO ?_
            refine callC (.bool true) Try.func92 (fun w' hS => ?_) ?_
            focus exact (IsValidFact_calls w' _ c0 rs _ c3 fs[k] (h0.on (hB2.out.trans hS)) (hx2'.on (hbx.out.trans hS))).mono fun e w'' h => ⟨by rw [h.1, hok.out], h.2⟩
            repeat first | refine sP ?_ | refine sS ?_ | refine sA ?_ | refine sL ?_ | refine sQ ?_ | refine sO ?_
            refine callC (.int .i64 (cmpF fs[k - 1] fs[k])) Try.func93 (fun w' hS => ?_) ?_
            focus exact CompareFacts_calls w' A4 c4 A3 c3 fs[k - 1] fs[k] (hy2.on hS) (hx2'.on (hbx.out.trans hS))
            repeat first | refine sP ?_ | refine sS ?_ | refine sA ?_ | refine sL ?_ | refine sQ ?_ | refine sO ?_
            refine Reg.nil fun w2 hS => ?_
            go_wp2
            go_ret
            exact ⟨ret_bool (by have := hst.out; unfold okNext at this; rw [hok.out, hpv.out] at this; simp at this; simp [okInst, this]), hB2.out.trans hS⟩
        · have hk0' : decide (0 < (k : Int)) = false := decide_eq_false (by omega)
          have hpv := Aside0.mk (show okPrev (prevFct fs k) fs[k] = true by simp [okPrev, prevFct, show k = 0 by omega])
          cases hs : srcOf rs fs[k].1 with
          | false =>
            rw [hs] at hxs
            have hs' := Aside0.mk hs
            clear hs
            go_wp2
            refine Reg.region [(0,.L),(1,.L),(2,.L),(3,.C),(4,.L),(5,.L),(6,.L),(7,.L),(8,.L),(9,.L),(10,.L),(11,.L),(12,.L),(13,.L),(14,.L),(15,.L),(16,.C),(17,.L),(18,.L),(19,.L),(20,.L),(21,.L),(22,.L),(23,.L),(24,.L),(25,.L),(26,.L),(27,.L),(28,.L),(29,.L),(30,.N),(31,.L),(32,.L),(33,.L),(34,.L)] [] (by kernel_rfl) (by kernel_rfl) ?_
            repeat first | refine sP ?_ | refine sS ?_ | refine sA ?_ | refine sL ?_ | refine sQ ?_ | refine sO ?_
            refine callC (.bool true) Try.func92 (fun w' hS => ?_) ?_
            focus exact (IsValidFact_calls w' _ c0 rs _ c3 fs[k] (h0.on (hB2.out.trans hS)) (hx2'.on (hbx.out.trans hS))).mono fun e w'' h => ⟨by rw [h.1, hok.out], h.2⟩
            repeat first | refine sP ?_ | refine sS ?_ | refine sA ?_ | refine sL ?_ | refine sQ ?_ | refine sO ?_
            refine Reg.nil fun w2 hS => ?_
            go_wp2
            go_roundw
            case rel => exact ⟨k + 1, by omega, by go_num, (by have := hst.out; unfold okNext at this; rw [hok.out, hpv.out, hs'.out] at this; simpa using this : _ = _), hB2.out.trans hS, Loc.on (hbx.out.trans hS) hL'.out⟩
            case measure => simp [intOf]; omega
          | true =>
            rw [hs] at hxs
            have hs' := Aside0.mk hs
            clear hs
            by_cases hz : (nuls fs[k].2).length = 0
            · have hzb : decide (0 < ((nuls fs[k].2).length : Int)) = false := decide_eq_false (by omega)
              have hzc : decide (0 < (nuls fs[k].2).length) = false := decide_eq_false (by omega)
              have hz' := Aside0.mk hz
              clear hz
              go_wp2
              refine Reg.region [(0,.L),(1,.L),(2,.L),(3,.C),(4,.L),(5,.L),(6,.L),(7,.L),(8,.L),(9,.L),(10,.L),(11,.L),(12,.L),(13,.L),(14,.L),(15,.L),(16,.C),(17,.L),(18,.L),(19,.L),(20,.L),(21,.L),(22,.L),(23,.L),(24,.L),(25,.L),(26,.L),(27,.L),(28,.L),(29,.L),(30,.N),(31,.L),(32,.L),(33,.L),(34,.L)] [] (by kernel_rfl) (by kernel_rfl) ?_
              repeat first | refine sP ?_ | refine sS ?_ | refine sA ?_ | refine sL ?_ | refine sQ ?_ | refine sO ?_
              refine callC (.bool true) Try.func92 (fun w' hS => ?_) ?_
              focus exact (IsValidFact_calls w' _ c0 rs _ c3 fs[k] (h0.on (hB2.out.trans hS)) (hx2'.on (hbx.out.trans hS))).mono fun e w'' h => ⟨by rw [h.1, hok.out], h.2⟩
              repeat first | refine sP ?_ | refine sS ?_ | refine sA ?_ | refine sL ?_ | refine sQ ?_ | refine sO ?_
              refine callN Try.func56 (fun w' hS => ?_)
              focus
                refine (NullsOfFact_calls w' A3 c3 fs[k].1 fs[k].2 (hx2'.on (hbx.out.trans hS)) (Nat.le_trans (okFact_len hok.out) (by omega))).mono ?_
                rintro e w2 ⟨v, rfl, hO, hb⟩
                refine ⟨v, rfl, hb, fun a' ha => ?_⟩
                simp only [Act.put, List.setIfInBounds_toArray, List.set_cons_zero, List.set_cons_succ] at ha
                subst ha
                obtain ⟨A5, c5, rfl⟩ := Kd.R_slice hO
                have hS2 := Aside0.mk (hS.trans hb)
                clear hO hb hS
              repeat first | refine sP ?_ | refine sS ?_ | refine sA ?_ | refine sL ?_ | refine sQ ?_ | refine sO ?_
              refine Reg.nil fun w3 hS3 => ?_
              go_wp2
              exact ⟨⟨k + 1, by omega, by go_num, (by have := hst.out; unfold okNext at this; rw [hok.out, hpv.out, hs'.out, hz'.out] at this; simpa using this : _ = _), (hB2.out.trans hS2.out).trans hS3, Loc.on ((hbx.out.trans hS2.out).trans hS3) hL'.out⟩, by simp [intOf]; omega⟩
            · have hzb : decide (0 < ((nuls fs[k].2).length : Int)) = true := decide_eq_true (by omega)
              have hzc : decide (0 < (nuls fs[k].2).length) = true := decide_eq_true (by omega)
              have hz' := Aside0.mk (decide_eq_false hz)
              clear hz
              go_wp2
              refine Reg.region [(0,.L),(1,.L),(2,.L),(3,.C),(4,.L),(5,.L),(6,.L),(7,.L),(8,.L),(9,.L),(10,.L),(11,.L),(12,.L),(13,.L),(14,.L),(15,.L),(16,.C),(17,.L),(18,.L),(19,.L),(20,.L),(21,.L),(22,.L),(23,.L),(24,.L),(25,.L),(26,.L),(27,.L),(28,.L),(29,.L),(30,.N),(31,.L),(32,.L),(33,.L),(34,.L)] [] (by kernel_rfl) (by kernel_rfl) ?_
              repeat first | refine sP ?_ | refine sS ?_ | refine sA ?_ | refine sL ?_ | refine sQ ?_ | refine sO ?_
              refine callC (.bool true) Try.func92 (fun w' hS => ?_) ?_
              focus exact (IsValidFact_calls w' _ c0 rs _ c3 fs[k] (h0.on (hB2.out.trans hS)) (hx2'.on (hbx.out.trans hS))).mono fun e w'' h => ⟨by rw [h.1, hok.out], h.2⟩
              repeat first | refine sP ?_ | refine sS ?_ | refine sA ?_ | refine sL ?_ | refine sQ ?_ | refine sO ?_
              refine callN Try.func56 (fun w' hS => ?_)
              focus
                refine (NullsOfFact_calls w' A3 c3 fs[k].1 fs[k].2 (hx2'.on (hbx.out.trans hS)) (Nat.le_trans (okFact_len hok.out) (by omega))).mono ?_
                rintro e w2 ⟨v, rfl, hO, hb⟩
                refine ⟨v, rfl, hb, fun a' ha => ?_⟩
                simp only [Act.put, List.setIfInBounds_toArray, List.set_cons_zero, List.set_cons_succ] at ha
                subst ha
                obtain ⟨A5, c5, rfl⟩ := Kd.R_slice hO
                have hS2 := Aside0.mk (hS.trans hb)
                clear hO hb hS
              repeat first | refine sP ?_ | refine sS ?_ | refine sA ?_ | refine sL ?_ | refine sQ ?_ | refine sO ?_
              refine Reg.nil fun w3 hS3 => ?_
              go_wp2
              go_ret
              exact ⟨ret_bool (by have := hst.out; unfold okNext at this; rw [hok.out, hpv.out, hs'.out, hz'.out] at this; simp at this; simp [okInst, this]), (hB2.out.trans hS2.out).trans hS3⟩
    · have hfl : factsFrom rs none fs = true := by rw [← hp.out, List.drop_of_length_le (by omega)]; cases prevFct fs k <;> rfl
      have hfl' := Aside0.mk hfl
      clear hp hfl
      cases hr : okRels rs with
      | false =>
        have hr' := Aside0.mk hr
        clear hr
        go_wp2_with (go_at_call 94; refine (AreValidRelations_calls wr A0 c0 rs (h0.on hB)).mono ?_; rintro e w3 ⟨rfl, hb3⟩; rw [hr'.out]; have hc3 := blk_cell (Loc.on hb3 hL'.out).1)
        go_ret
        exact ⟨ret_bool (by simp [okInst, hfl'.out, hr'.out]), hB.trans hb3⟩
      | true =>
        have hr' := Aside0.mk hr
        clear hr
        by_cases h30 : (fs.length : Int) ≤ 30
        · have h30b : decide ((fs.length : Int) ≤ 30) = true := decide_eq_true h30
          have h30c : decide (fs.length ≤ 30) = true := decide_eq_true (by omega)
          go_wp2_with (go_at_call 94; refine (AreValidRelations_calls wr A0 c0 rs (h0.on hB)).mono ?_; rintro e w3 ⟨rfl, hb3⟩; rw [hr'.out]; have hc3 := blk_cell (Loc.on hb3 hL'.out).1)
          go_ret
          exact ⟨ret_bool (by simp [okInst, hfl'.out, hr'.out]; omega), hB.trans hb3⟩
        · have h30b : decide ((fs.length : Int) ≤ 30) = false := decide_eq_false h30
          have h30c : decide (fs.length ≤ 30) = false := decide_eq_false (by omega)
          go_wp2_with (go_at_call 94; refine (AreValidRelations_calls wr A0 c0 rs (h0.on hB)).mono ?_; rintro e w3 ⟨rfl, hb3⟩; rw [hr'.out]; have hc3 := blk_cell (Loc.on hb3 hL'.out).1)
          go_ret
          exact ⟨ret_bool (by simp [okInst, hfl'.out, hr'.out]; omega), hB.trans hb3⟩
end Go.Proofs.Ytngjhblbpapjeaa.H
/- Cells of own rows: appended to, cut, cleared; rows of headers that are read. No condition. -/
namespace Go.Proofs.Ytngjhblbpapjeaa.H
open Go Go.RowKit Go.Proofs.YtngjhblbpapjeaaW.PrintWords Go.Proofs.YtngjhblbpapjeaaW.PrintLast
open Go.Proofs.Ytngjhblbpapjeaa.Reg (On on_draw)
set_option maxHeartbeats 1000000
set_option maxRecDepth 100000
set_option linter.unusedVariables false
set_option linter.unusedSimpArgs false

theorem flat_get {α : Type} {enc : α → List Value} {sz : Nat} (hl : ∀ x, (enc x).length = sz) : ∀ (xs : List α) (i r : Nat) (hi : i < xs.length), r < sz → (xs.flatMap enc)[i * sz + r]? = (enc xs[i])[r]?
  | [], _, _, hi, _ => absurd hi (Nat.not_lt_zero _)
  | x :: xs, 0, r, _, hr => by
    rw [List.flatMap_cons, Nat.zero_mul, Nat.zero_add, List.getElem?_append_left (by rw [hl]; exact hr)]; rfl
  | x :: xs, i + 1, r, hi, hr => by
    rw [List.flatMap_cons, List.getElem?_append_right (by rw [hl, Nat.add_mul]; omega), hl, show (i + 1) * sz + r - sz = i * sz + r by rw [Nat.add_mul]; omega]
    exact flat_get hl xs i r (by simpa using hi) hr
theorem flat_div {α : Type} {enc : α → List Value} {sz : Nat} (hs : 0 < sz) (hl : ∀ x, (enc x).length = sz) (xs : List α) (j : Nat) (u : Value) (h : (xs.flatMap enc)[j]? = some u) : ∃ i r, ∃ hi : i < xs.length, r < sz ∧ j = i * sz + r ∧ (enc xs[i])[r]? = some u := by
  have hj : j < xs.length * sz := by
    have := (List.getElem?_eq_some_iff.1 h).1
    rwa [flat_len hl] at this
  have hi : j / sz < xs.length := (Nat.div_lt_iff_lt_mul hs).2 hj
  have e : j = j / sz * sz + j % sz := by rw [Nat.mul_comm]; exact (Nat.div_add_mod j sz).symm
  refine ⟨j / sz, j % sz, hi, Nat.mod_lt _ hs, e, ?_⟩
  rw [← flat_get hl xs _ _ hi (Nat.mod_lt _ hs), ← e]
  exact h
/-- A row of headers that is read. -/
structure RH (w : World) (A : Option Addr) (c : Nat) (hs : List Hdr) : Prop where
  cap : hs.length ≤ c
  max : hs.length ≤ 9223372036854775807
  cell : ∀ j u, (hs.flatMap encH)[j]? = some u → ∃ ad, A = some ad ∧ w.cell? (ad.add j) = some u
theorem RH.on {W w : World} {A : Option Addr} {c : Nat} {hs : List Hdr} (h : RH W A c hs) (hb : On W w) : RH w A c hs := ⟨h.cap, h.max, fun j u hu => by
  obtain ⟨ad, e, hc⟩ := h.cell j u hu
  exact ⟨ad, e, (hb.eq _ (by rw [hc]; rfl)).trans hc⟩⟩
theorem own_capmax {w : World} {lo e sz n : Nat} {A : Option Addr} {c : Nat} {cs : List Value} (h : w.ownsRow lo e sz (.slice A n c) n cs) : n ≤ c ∧ n ≤ 9223372036854775807 := by
  rcases h.2 with ⟨h1, h2⟩ | ⟨g, cap, cur, h1, _, _, h3, h4, _⟩
  · exact ⟨by omega, by omega⟩
  · injection h1 with h1 h5 h6
    have : maxLen = 9223372036854775807 := rfl
    exact ⟨by omega, by omega⟩
theorem OH.slice {w : World} {lo : Nat} {v : Value} {hs : List Hdr} (h : OH w lo v hs) : ∃ A c, v = .slice A hs.length c ∧ RH w A c hs := by
  obtain ⟨A, c, rfl⟩ := own_slice h
  obtain ⟨h1, h2⟩ := own_capmax h
  refine ⟨A, c, rfl, h1, h2, fun j u hu => ?_⟩
  rcases h.2 with ⟨h1, h3⟩ | ⟨g, cap, cur, h1, _⟩
  · obtain rfl : hs = [] := List.eq_nil_of_length_eq_zero h3
    simp at hu
  · injection h1 with h1 h5 h6
    subst h1
    exact ⟨_, rfl, h.cells rfl j u hu⟩
theorem OH.rh {w : World} {lo c : Nat} {A : Option Addr} {n : Nat} {hs : List Hdr} (h : OH w lo (.slice A n c) hs) : n = hs.length ∧ RH w A c hs := by
  obtain ⟨A', c', e, h'⟩ := OH.slice h
  injection e with e1 e2 e3
  subst e1 e3
  exact ⟨e2, h'⟩
theorem blk_grown {W w1 : World} {row : Option Nat} {g : Nat} {o : Obj} (hg : W.grownBy w1 row) (h : W.heap[g]? = some o) (hne : some g ≠ row) : w1.heap[g]? = some o := (hg.block g (blk_lt h) hne).trans h
theorem OR.slice {w : World} {lo : Nat} {v : Value} {hs : List Rel} (h : OR w lo v hs) : ∃ A c, v = .slice A hs.length c := own_slice h
theorem RH.fcts {w : World} {A : Option Addr} {c : Nat} {hs : List Hdr} {fs : List Fct} (h : RH w A c hs) (hr : Reads w hs fs) : Fcts w A c fs := by
  have hlen := hr.len
  refine ⟨by rw [← hlen]; exact h.cap, ⟨rfl, by rw [← hlen]; exact h.max, fun h0 => ?_⟩, hr.inF⟩
  obtain ⟨ad, rfl, _⟩ := h.cell 0 (.int .i64 (hs[0]'(by omega)).1) (by
    have := flat_get (enc := encH) (sz := 2) (fun _ => rfl) hs 0 0 (by omega) (by omega)
    rw [Nat.zero_mul] at this
    rw [this]; rfl)
  refine ⟨ad, rfl, fun j f hj => ?_⟩
  have hj' : j < hs.length := by rw [hlen]; exact (List.getElem?_eq_some_iff.1 hj).1
  obtain ⟨e1, e2, e3⟩ := hr.at_ j hs[j] f (List.getElem?_eq_getElem hj') hj
  refine ⟨encH hs[j], rfl, ⟨[.int .i64 hs[j].1], [hdV hs[j]], rfl, by rw [e1]; rfl, hs[j].2.1, hs[j].2.2.2, by rw [← e2], e3.1, e3.2.1⟩, fun i u hu => ?_⟩
  have hi : i < 2 := (List.getElem?_eq_some_iff.1 hu).1
  obtain ⟨ad', e, hc⟩ := h.cell (j * 2 + i) u (by rw [flat_get (enc := encH) (sz := 2) (fun _ => rfl) hs j i hj' hi]; exact hu)
  injection e with e
  subst e
  exact hc
theorem Fcts.hdrs {w : World} {A : Option Addr} {c : Nat} {fs : List Fct} (h : Fcts w A c fs) : ∃ hs, RH w A c hs ∧ Reads w hs fs := by
  have key : ∀ k, k ≤ fs.length → ∃ hs : List Hdr, hs.length = k ∧ ∀ (i : Nat) (hi : i < k) (hl : i < hs.length) (hf : i < fs.length), hs[i].1 = fs[i].1 ∧ hs[i].2.2.1 = fs[i].2.length ∧ Ints w hs[i].2.1 hs[i].2.2.2 fs[i].2 ∧ ∃ ad, A = some ad ∧ w.cell? (ad.add (i * 2)) = some (.int .i64 hs[i].1) ∧ w.cell? (ad.add (i * 2 + 1)) = some (hdV hs[i]) := by
    intro k
    induction k with
    | zero => intro _; exact ⟨[], rfl, fun i hi => by omega⟩
    | succ k ih =>
      intro hk
      obtain ⟨hs, hl, hh⟩ := ih (by omega)
      obtain ⟨ad, A1, c1, rfl, h1, h2, h3⟩ := h.at k (by omega)
      refine ⟨hs ++ [(fs[k].1, A1, fs[k].2.length, c1)], by simp [hl], fun i hi hl' hf => ?_⟩
      rcases Nat.lt_or_ge i k with h4 | h4
      · have := hh i h4 (by omega) hf
        rw [List.getElem_append_left (by omega)]
        exact this
      · obtain rfl : i = k := by omega
        have e0 : (hs ++ [(fs[i].1, A1, fs[i].2.length, c1)])[i]'hl' = (fs[i].1, A1, fs[i].2.length, c1) := by rw [List.getElem_append_right (by omega)]; simp [hl]
        rw [e0]
        exact ⟨rfl, rfl, h3, ad, rfl, h1, by rw [add_field _ _ 1 (by omega)]; exact h2⟩
  obtain ⟨hs, hl, hh⟩ := key fs.length (Nat.le_refl _)
  refine ⟨hs, ⟨by rw [hl]; exact h.1, by rw [hl]; exact h.max, fun j u hu => ?_⟩, ⟨hl, fun i a f ha hf => ?_⟩⟩
  · obtain ⟨i, r, hi, hr, rfl, hv⟩ := flat_div (enc := encH) (sz := 2) (by omega) (fun _ => rfl) hs j u hu
    obtain ⟨_, _, _, ad, e, c0, c1⟩ := hh i (by omega) hi (by omega)
    refine ⟨ad, e, ?_⟩
    match r, hr, hv with
    | 0, _, hv => obtain rfl : Value.int .i64 hs[i].1 = u := Option.some.inj hv; exact c0
    | 1, _, hv => obtain rfl : hdV hs[i] = u := Option.some.inj hv; exact c1
  · obtain ⟨hi, rfl⟩ := List.getElem?_eq_some_iff.1 ha
    obtain ⟨hj, rfl⟩ := List.getElem?_eq_some_iff.1 hf
    obtain ⟨e1, e2, e3, _⟩ := hh i (by omega) hi hj
    exact ⟨e1, e2, e3⟩
theorem Reads.take {w : World} {hs : List Hdr} {fs : List Fct} (h : Reads w hs fs) (k : Nat) : Reads w (hs.take k) (fs.take k) := ⟨by rw [List.length_take, List.length_take, h.len], fun i a f ha hf => by
  rw [List.getElem?_take] at ha hf
  split at ha
  · rename_i hk; rw [if_pos hk] at hf; exact h.at_ i a f ha hf
  · cases ha⟩
theorem Reads.drop {w : World} {hs : List Hdr} {fs : List Fct} (h : Reads w hs fs) (k : Nat) : Reads w (hs.drop k) (fs.drop k) := ⟨by rw [List.length_drop, List.length_drop, h.len], fun i a f ha hf => by
  rw [List.getElem?_drop] at ha hf
  exact h.at_ _ a f ha hf⟩
theorem Reads.append {w : World} {hs hs' : List Hdr} {fs fs' : List Fct} (h : Reads w hs fs) (h' : Reads w hs' fs') : Reads w (hs ++ hs') (fs ++ fs') := ⟨by rw [List.length_append, List.length_append, h.len, h'.len], fun i a f ha hf => by
  have hl := h.len
  rcases Nat.lt_or_ge i hs.length with hi | hi
  · rw [List.getElem?_append_left hi] at ha
    rw [List.getElem?_append_left (by omega)] at hf
    exact h.at_ i a f ha hf
  · rw [List.getElem?_append_right hi] at ha
    rw [List.getElem?_append_right (by omega), ← hl] at hf
    exact h'.at_ _ a f ha hf⟩
/-- Some of the facts whose rows lie apart. -/
theorem Sep.sub {w : World} {lo : Nat} {hs : List Hdr} {fs : List Fct} (h : Sep w lo hs fs) {qs : List (Hdr × Fct)} (hq : qs.Sublist (hs.zip fs)) : Sep w lo (qs.map Prod.fst) (qs.map Prod.snd) := by
  have hl := h.len
  have hmem : ∀ p ∈ qs, ∃ i, hs[i]? = some p.1 ∧ fs[i]? = some p.2 := fun p hp => by
    obtain ⟨i, hi, e⟩ := List.getElem_of_mem (hq.subset hp)
    rw [List.getElem_zip] at e
    have hi' : i < hs.length := by rw [List.length_zip] at hi; omega
    exact ⟨i, by rw [List.getElem?_eq_getElem hi', ← e], by rw [List.getElem?_eq_getElem (by omega), ← e]⟩
  have hpw : (hs.zip fs).Pairwise fun p q => ∀ k, (hdV p.1).ownBlock = some k → (hdV q.1).ownBlock ≠ some k := by
    rw [List.pairwise_iff_getElem]
    intro i j hi hj hij k h1 h2
    rw [List.getElem_zip] at h1 h2
    have hi' : i < hs.length := by rw [List.length_zip] at hi; omega
    have hj' : j < hs.length := by rw [List.length_zip] at hj; omega
    have := h.apart i j _ _ k (List.getElem?_eq_getElem hi') (List.getElem?_eq_getElem hj') h1 h2
    omega
  have hpq := hpw.sublist hq
  refine ⟨by simp, fun i a f ha hf => ?_, fun i j a b k ha hb h1 h2 => ?_⟩
  · rw [List.getElem?_map] at ha hf
    obtain ⟨p, hp, rfl⟩ := Option.map_eq_some_iff.1 ha
    rw [hp] at hf
    obtain rfl : p.2 = f := Option.some.inj hf
    obtain ⟨m, e1, e2⟩ := hmem p (List.mem_of_getElem? hp)
    exact h.at_ m _ _ e1 e2
  · rw [List.getElem?_map] at ha hb
    obtain ⟨p, hp, rfl⟩ := Option.map_eq_some_iff.1 ha
    obtain ⟨q, hq', rfl⟩ := Option.map_eq_some_iff.1 hb
    obtain ⟨hi, rfl⟩ := List.getElem?_eq_some_iff.1 hp
    obtain ⟨hj, rfl⟩ := List.getElem?_eq_some_iff.1 hq'
    rcases Nat.lt_trichotomy i j with c | c | c
    · exact absurd h2 (List.pairwise_iff_getElem.1 hpq i j hi hj c k h1)
    · exact c
    · exact absurd h1 (List.pairwise_iff_getElem.1 hpq j i hj hi c k h2)
theorem Sep.erase {w : World} {lo : Nat} {hs : List Hdr} {fs : List Fct} (h : Sep w lo hs fs) (k : Nat) : Sep w lo (hs.take k ++ hs.drop (k + 1)) (fs.take k ++ fs.drop (k + 1)) := by
  have hq : ((hs.zip fs).take k ++ (hs.zip fs).drop (k + 1)).Sublist (hs.zip fs) := by
    rw [← List.eraseIdx_eq_take_drop_succ]; exact List.eraseIdx_sublist ..
  have := h.sub hq
  rw [List.map_append, List.map_append, List.map_take, List.map_take, List.map_drop, List.map_drop, List.map_fst_zip (by rw [h.len]; exact Nat.le_refl _), List.map_snd_zip (by rw [h.len]; exact Nat.le_refl _)] at this
  exact this
theorem OIn.on {W w : World} {lo : Nat} {v : Value} {rs : List Rel} {fs : List Fct} (h : OIn W lo v rs fs) (hb : On W w) : OIn w lo v rs fs := by
  obtain ⟨vr, vf, hs, e, hR, hH, hS⟩ := h.out
  exact ⟨vr, vf, hs, e, pw_own_below hR hb, pw_own_below hH hb, hS.on hb⟩
theorem OIn.set {W : World} {lo : Nat} {v : Value} {rs : List Rel} {fs : List Fct} (h : OIn W lo v rs fs) {p : Addr} (hp : p.block < lo) (u : Value) : OIn (W.setCell p u) lo v rs fs := by
  obtain ⟨vr, vf, hs, e, hR, hH, hS⟩ := h.out
  exact ⟨vr, vf, hs, e, ownsRow_setCell_below hR hp u, ownsRow_setCell_below hH hp u, hS.set hp u⟩
theorem OIn.lower {w : World} {lo lo' : Nat} {v : Value} {rs : List Rel} {fs : List Fct} (h : OIn w lo v rs fs) (hl : lo' ≤ lo) : OIn w lo' v rs fs := by
  obtain ⟨vr, vf, hs, e, hR, hH, hS⟩ := h.out
  exact ⟨vr, vf, hs, e, own_lower hR hl, own_lower hH hl, hS.lower hl⟩
/-! Appends, cell by cell. -/
section
variable {ops : Array Oper} {rest : List Oper} {o : Oper} {a : Act} {Q : Exit → Act → World → Prop} {W : World}
theorem ap_none (N : Tmp) {e sz bytes t c base n : Nat} {z v : Value} {xs : List Value} {s x : Operand} (ht : Try.prog.underlying t = some (.slice e)) (hinfo : (Try.prog.info? e).map (fun i => (i.zero, i.size, i.bytes)) = some (some z, sz, bytes)) (HO : W.ownsRow base e sz v n xs)
    (h : wpList Try.prog ops Q rest (a.put (some N) v) W)
    (hop : o.op = .call { callee := .builtin .append, args := #[s, x], argTypes := #[t, t] }) (hd : o.dst = some N) (hg : o.guard = none) (hs : a.eval s = v) (hx : a.eval x = .slice none 0 c) : wpList Try.prog ops Q (o :: rest) a W := by
  obtain ⟨i0, hi, hzz⟩ := Option.map_eq_some_iff.1 hinfo
  have hr : (Builtin.append_ #[t, t] o.type #[v, .slice none 0 c]).run Try.prog W = .ok v W := by
    rcases HO.2 with ⟨rfl, hn⟩ | ⟨g, cap, cur, rfl, _, _, hnc, _⟩
    · simp [Builtin.append_, run_underlying ht, sizeOf, typeInfo, hi, Builtin.lenOf, Builtin.firstCells]
    · simp [Builtin.append_, run_underlying ht, sizeOf, typeInfo, hi, Builtin.lenOf, Builtin.firstCells, hnc, storeCells]
  refine wpList_plain hg fun K hK => ?_
  unfold Oper.wp execOp
  simp only [hop, resolve, invoke, builtin, Sem.run_bind, Sem.run_pure, Result.andThen_ok, List.map_toArray, List.map_cons, List.map_nil, hs, hx, hr]
  refine hK _ _ ?_
  rw [hd]; exact h
/-- append of headers that are read onto headers of one's own. -/
theorem apH (N : Tmp) {s x : Operand} {v : Value} {A : Option Addr} {c base : Nat} {xs ys zs : List Hdr} (hz : xs ++ ys = zs)
    (HO : OH W base v xs) (HR : RH W A c ys) (hbase : base ≤ W.heap.size) (hl : xs.length + ys.length ≤ 1000000000)
    (h : ∀ v1 w1, OH w1 base v1 zs → W.grownBy w1 v.ownBlock → wpList Try.prog ops Q rest (a.put (some N) v1) w1)
    (hop : o.op = .call { callee := .builtin .append, args := #[s, x], argTypes := #[30, 30] } := by rfl)
    (hd : o.dst = some N := by rfl) (hg : o.guard = none := by rfl) (hs : a.eval s = v := by rfl) (hx : a.eval x = .slice A ys.length c := by rfl) : wpList Try.prog ops Q (o :: rest) a W := by
  subst hz
  obtain ⟨i0, hi, hzz⟩ := Option.map_eq_some_iff.1 infoF
  simp only [Prod.mk.injEq] at hzz
  obtain ⟨hz0, hz1, hz2⟩ := hzz
  have hnil : ys = [] → wpList Try.prog ops Q (o :: rest) a W := by
    rintro rfl
    rw [List.append_nil] at h
    cases A with
    | none => exact ap_none N Try.underlying30 infoF HO (h v W HO (World.grownBy.refl W _)) hop hd hg hs hx
    | some ad =>
      refine wpList_append_own_at W hg s x 30 hop base 55 i0 _ 2 32 Try.underlying30 hi hz0 hz1 hz2 rfl (by omega) v xs.length _ hs HO ad 0 c [] hx rfl (by simp) (by simp) (by simp at hl; simp [maxLen]; omega) (by simp at hl; omega) hbase fun v1 w1 h1 h2 _ _ => ?_
      rw [hd]
      exact h v1 w1 (by simpa using h1) h2
  cases A with
  | none =>
    refine hnil ?_
    cases ys with
    | nil => rfl
    | cons y ys => obtain ⟨_, e, _⟩ := HR.cell 0 _ rfl; cases e
  | some ad =>
    refine wpList_append_own_at W hg s x 30 hop base 55 i0 _ 2 32 Try.underlying30 hi hz0 hz1 hz2 rfl (by omega) v xs.length _ hs HO ad ys.length c (ys.flatMap encH) hx (flat_len (enc := encH) (sz := 2) (fun _ => rfl) ys) (fun j u hu => ?_) (fun u hu => ?_) (by simp [maxLen]; omega) (by omega) hbase fun v1 w1 h1 h2 _ _ => ?_
    · obtain ⟨ad', e, hc⟩ := HR.cell j u hu
      injection e with e; subst e; exact hc
    · obtain ⟨y, _, hy⟩ := List.mem_flatMap.1 hu
      simp only [List.mem_cons, List.not_mem_nil, or_false] at hy
      rcases hy with rfl | rfl <;> rfl
    · rw [hd]
      refine h v1 w1 ?_ h2
      have e : (xs ++ ys).flatMap encH = xs.flatMap encH ++ ys.flatMap encH := List.flatMap_append
      show World.ownsRow _ _ _ _ _ (xs ++ ys).length _
      rw [e, List.length_append]
      exact h1
/-- The same at relations. -/
theorem apR (N : Tmp) {s x : Operand} {v : Value} {A : Option Addr} {c base : Nat} {xs ys zs : List Rel} (hz : xs ++ ys = zs)
    (HO : OR W base v xs) (HR : Rels W A c ys) (hbase : base ≤ W.heap.size) (hl : xs.length + ys.length ≤ 1000000000)
    (h : ∀ v1 w1, OR w1 base v1 zs → W.grownBy w1 v.ownBlock → wpList Try.prog ops Q rest (a.put (some N) v1) w1)
    (hop : o.op = .call { callee := .builtin .append, args := #[s, x], argTypes := #[29, 29] } := by rfl)
    (hd : o.dst = some N := by rfl) (hg : o.guard = none := by rfl) (hs : a.eval s = v := by rfl) (hx : a.eval x = .slice A ys.length c := by rfl) : wpList Try.prog ops Q (o :: rest) a W := by
  subst hz
  obtain ⟨i0, hi, hzz⟩ := Option.map_eq_some_iff.1 infoR
  simp only [Prod.mk.injEq] at hzz
  obtain ⟨hz0, hz1, hz2⟩ := hzz
  cases A with
  | none =>
    obtain rfl : ys = [] := by
      cases ys with
      | nil => rfl
      | cons y ys => obtain ⟨_, e, _⟩ := HR.at 0 (by simp); cases e
    rw [List.append_nil] at h
    exact ap_none N Try.underlying29 infoR HO (h v W HO (World.grownBy.refl W _)) hop hd hg hs hx
  | some ad =>
    refine wpList_append_own_at W hg s x 29 hop base 87 i0 _ 3 32 Try.underlying29 hi hz0 hz1 hz2 rfl (by omega) v xs.length _ hs HO ad ys.length c (ys.flatMap encR) hx (flat_len (enc := encR) (sz := 3) (fun _ => rfl) ys) (fun j u hu => ?_) (fun u hu => ?_) (by simp [maxLen]; omega) (by omega) hbase fun v1 w1 h1 h2 _ _ => ?_
    · obtain ⟨i, r, hi, hr, rfl, hv⟩ := flat_div (enc := encR) (sz := 3) (by omega) (fun _ => rfl) ys j u hu
      obtain ⟨ad', e, c0, c1, c2⟩ := HR.at i hi
      injection e with e; subst e
      match r, hr with
      | 0, _ => obtain rfl : Value.string ys[i].1 = u := Option.some.inj hv; exact c0
      | 1, _ => obtain rfl : Value.int .i64 ys[i].2.1 = u := Option.some.inj hv; rw [add_field _ _ 1 (by omega)]; exact c1
      | 2, _ => obtain rfl : Value.bool ys[i].2.2 = u := Option.some.inj hv; rw [add_field _ _ 2 (by omega)]; exact c2
    · obtain ⟨y, _, hy⟩ := List.mem_flatMap.1 hu
      simp only [List.mem_cons, List.not_mem_nil, or_false] at hy
      rcases hy with rfl | rfl | rfl <;> rfl
    · rw [hd]
      refine h v1 w1 ?_ h2
      have e : (xs ++ ys).flatMap encR = xs.flatMap encR ++ ys.flatMap encR := List.flatMap_append
      show World.ownsRow _ _ _ _ _ (xs ++ ys).length _
      rw [e, List.length_append]
      exact h1
end
/-! Appends onto a row that is full (a literal): nothing old is written. -/
theorem run_append_full {P : Program} (w : World) (base : Nat) (t ty e : TypeId) (i : TypeInfo) (z : Value) (size bytes : Nat) (ht : P.underlying t = some (.slice e)) (hi : P.info? e = some i) (hz : i.zero = some z)
    (hsize : i.size = size) (hby : i.bytes = bytes) (hzs : z.cells.size = size) (hsz : 0 < size)
    (g n : Nat) (xs : List Value) (hown : w.ownsRow base e size (.slice (some ⟨g, 0, none⟩) n n) n xs)
    (a : Addr) (m c : Nat) (news : List Value) (hl : news.length = m * size) (hnews : ∀ j u, news[j]? = some u → w.cell? (a.add j) = some u) (h1 : ∀ u ∈ news, u.oneCell' = true)
    (h63 : n + m ≤ maxLen) (hbytes : (n + m) * bytes ≤ 140737488355328) (hbase : base ≤ w.heap.size) :
    ∃ v' w', (Builtin.append_ #[t, t] ty #[.slice (some ⟨g, 0, none⟩) n n, .slice (some a) m c]).run P w = .ok v' w' ∧ w'.ownsRow base e size v' (n + m) (xs ++ news) ∧ w.grownBy w' none := by
  subst hsize
  subst hby
  by_cases hm : m = 0
  · subst hm
    obtain rfl : news = [] := List.eq_nil_of_length_eq_zero (by simpa using hl)
    refine ⟨_, w, ?_, by simpa using hown, World.grownBy.refl w _⟩
    simp [Builtin.append_, run_underlying ht, sizeOf, typeInfo, hi, Builtin.lenOf, Builtin.firstCells, loadCells, loadCellsFrom, storeCells]
  · have hsmall : n + m ≤ 9223372036854775807 := by simp only [maxLen] at h63; omega
    have holds : ∀ j u, xs[j]? = some u → w.cell? ((⟨g, 0, none⟩ : Addr).add j) = some u := hown.cells (g := g) rfl
    have hr := run_append_grow (P := P) w t ty e i z ht hi hz ⟨g, 0, none⟩ n n xs hown.1 holds a m c news hl hnews (by omega) (by omega) (growslice_fits (by omega) hbytes)
    have hge := grownCap_ge w (n + m) n e
    have hcm : grownCap w (n + m) n e ≤ maxLen := grownCap_le_maxLen w (n + m) n e h63
    have hlen : (xs ++ news).length = (n + m) * i.size := by rw [List.length_append, hown.1, hl, Nat.add_mul]
    refine ⟨_, _, hr, ⟨hlen, .inr ⟨w.heap.size, _, _, rfl, hbase, heap_alloc_new w.drew _, hge, hcm, ?_, ?_⟩⟩, ⟨rfl, rfl, rfl, by simp, fun k hk _ => Below.heap_alloc w.drew _ k hk⟩⟩
    · simp only [Array.size_append, List.size_toArray, size_zeroCells, hzs, hown.1, hl, ← Nat.add_mul]
      congr 1
      omega
    · simp only [Array.toList_append, List.append_assoc]
      rw [← List.append_assoc, ← hlen]
      exact List.take_left
section
variable {ops : Array Oper} {rest : List Oper} {o : Oper} {a : Act} {Q : Exit → Act → World → Prop} {W : World}
theorem apFull (N : Tmp) {e sz bytes t c base n g m : Nat} {z : Value} {xs news : List Value} {A : Option Addr} {s x : Operand} (ht : Try.prog.underlying t = some (.slice e)) (hinfo : (Try.prog.info? e).map (fun i => (i.zero, i.size, i.bytes)) = some (some z, sz, bytes)) (hzs : z.cells.size = sz) (hsz : 0 < sz) (HO : W.ownsRow base e sz (.slice (some ⟨g, 0, none⟩) n n) n xs)
    (hl : news.length = m * sz) (hnews : ∀ j u, news[j]? = some u → ∃ ad, A = some ad ∧ W.cell? (ad.add j) = some u) (h1 : ∀ u ∈ news, u.oneCell' = true) (hb : (n + m) * bytes ≤ 140737488355328) (hnm : n + m ≤ 9223372036854775807) (hbase : base ≤ W.heap.size)
    (h : ∀ v1 w1, w1.ownsRow base e sz v1 (n + m) (xs ++ news) → On W w1 → wpList Try.prog ops Q rest (a.put (some N) v1) w1)
    (hop : o.op = .call { callee := .builtin .append, args := #[s, x], argTypes := #[t, t] }) (hd : o.dst = some N) (hg : o.guard = none) (hs : a.eval s = .slice (some ⟨g, 0, none⟩) n n) (hx : a.eval x = .slice A m c) : wpList Try.prog ops Q (o :: rest) a W := by
  cases A with
  | none =>
    obtain rfl : m = 0 := by
      rcases Nat.eq_zero_or_pos m with h0 | h0
      · exact h0
      · have hp : 0 < news.length := by rw [hl]; exact Nat.mul_pos h0 hsz
        obtain ⟨_, e, _⟩ := hnews 0 _ (List.getElem?_eq_getElem hp)
        cases e
    obtain rfl : news = [] := List.eq_nil_of_length_eq_zero (by simpa using hl)
    exact ap_none N ht hinfo HO (h _ W (by simpa using HO) (On.refl _)) hop hd hg hs hx
  | some ad =>
    obtain ⟨i0, hi, hzz⟩ := Option.map_eq_some_iff.1 hinfo
    simp only [Prod.mk.injEq] at hzz
    obtain ⟨hz0, hz1, hz2⟩ := hzz
    obtain ⟨v', w', hr, h2, h3⟩ := run_append_full (P := Try.prog) W base t o.type e i0 z sz bytes ht hi hz0 hz1 hz2 hzs hsz g n xs HO ad m c news hl (fun j u hu => by obtain ⟨ad', e, hc⟩ := hnews j u hu; injection e with e; subst e; exact hc) h1 (by simp only [maxLen]; omega) hb hbase
    refine wpList_plain hg fun K hK => ?_
    unfold Oper.wp execOp
    simp only [hop, resolve, invoke, builtin, Sem.run_bind, Sem.run_pure, Result.andThen_ok, List.map_toArray, List.map_cons, List.map_nil, hs, hx, hr]
    refine hK _ _ ?_
    rw [hd]
    exact h v' w' h2 (on_grown (On.refl _) h3 fun k hk => by cases hk)
theorem apHf (N : Tmp) {s x : Operand} {A : Option Addr} {c base g n : Nat} {xs ys zs : List Hdr} (hz : xs ++ ys = zs) (HO : OH W base (.slice (some ⟨g, 0, none⟩) n n) xs) (hn : xs.length = n) (HR : RH W A c ys) (hbase : base ≤ W.heap.size) (hl : n + ys.length ≤ 1000000000)
    (h : ∀ v1 w1, OH w1 base v1 zs → On W w1 → wpList Try.prog ops Q rest (a.put (some N) v1) w1)
    (hop : o.op = .call { callee := .builtin .append, args := #[s, x], argTypes := #[30, 30] } := by rfl)
    (hd : o.dst = some N := by rfl) (hg : o.guard = none := by rfl) (hs : a.eval s = .slice (some ⟨g, 0, none⟩) n n := by rfl) (hx : a.eval x = .slice A ys.length c := by rfl) : wpList Try.prog ops Q (o :: rest) a W := by
  subst hz hn
  refine apFull N Try.underlying30 infoF rfl (by omega) HO (flat_len (enc := encH) (sz := 2) (fun _ => rfl) ys) HR.cell (fun u hu => ?_) (by omega) (by omega) hbase (fun v1 w1 h1 h2 => h v1 w1 ?_ h2) hop hd hg hs hx
  · obtain ⟨y, _, hy⟩ := List.mem_flatMap.1 hu
    simp only [List.mem_cons, List.not_mem_nil, or_false] at hy
    rcases hy with rfl | rfl <;> rfl
  · show World.ownsRow _ _ _ _ _ (xs ++ ys).length _
    rw [show (xs ++ ys).flatMap encH = xs.flatMap encH ++ ys.flatMap encH from List.flatMap_append, List.length_append]
    exact h1
theorem apRf (N : Tmp) {s x : Operand} {A : Option Addr} {c base g n : Nat} {xs ys zs : List Rel} (hz : xs ++ ys = zs) (HO : OR W base (.slice (some ⟨g, 0, none⟩) n n) xs) (hn : xs.length = n) (HR : Rels W A c ys) (hbase : base ≤ W.heap.size) (hl : n + ys.length ≤ 1000000000)
    (h : ∀ v1 w1, OR w1 base v1 zs → On W w1 → wpList Try.prog ops Q rest (a.put (some N) v1) w1)
    (hop : o.op = .call { callee := .builtin .append, args := #[s, x], argTypes := #[29, 29] } := by rfl)
    (hd : o.dst = some N := by rfl) (hg : o.guard = none := by rfl) (hs : a.eval s = .slice (some ⟨g, 0, none⟩) n n := by rfl) (hx : a.eval x = .slice A ys.length c := by rfl) : wpList Try.prog ops Q (o :: rest) a W := by
  subst hz hn
  refine apFull N Try.underlying29 infoR rfl (by omega) HO (flat_len (enc := encR) (sz := 3) (fun _ => rfl) ys) (fun j u hu => ?_) (fun u hu => ?_) (by omega) (by omega) hbase (fun v1 w1 h1 h2 => h v1 w1 ?_ h2) hop hd hg hs hx
  · obtain ⟨i, r, hi, hr, rfl, hv⟩ := flat_div (enc := encR) (sz := 3) (by omega) (fun _ => rfl) ys j u hu
    obtain ⟨ad', e, c0, c1, c2⟩ := HR.at i hi
    refine ⟨ad', e, ?_⟩
    match r, hr, hv with
    | 0, _, hv => obtain rfl : Value.string ys[i].1 = u := Option.some.inj hv; exact c0
    | 1, _, hv => obtain rfl : Value.int .i64 ys[i].2.1 = u := Option.some.inj hv; rw [add_field _ _ 1 (by omega)]; exact c1
    | 2, _, hv => obtain rfl : Value.bool ys[i].2.2 = u := Option.some.inj hv; rw [add_field _ _ 2 (by omega)]; exact c2
  · obtain ⟨y, _, hy⟩ := List.mem_flatMap.1 hu
    simp only [List.mem_cons, List.not_mem_nil, or_false] at hy
    rcases hy with rfl | rfl | rfl <;> rfl
  · show World.ownsRow _ _ _ _ _ (xs ++ ys).length _
    rw [show (xs ++ ys).flatMap encR = xs.flatMap encR ++ ys.flatMap encR from List.flatMap_append, List.length_append]
    exact h1
theorem apIf (N : Tmp) {s x : Operand} {A : Option Addr} {c base g n : Nat} {xs ys zs : List Int} (hz : xs ++ ys = zs) (HO : OI W base (.slice (some ⟨g, 0, none⟩) n n) xs) (hn : xs.length = n) (HR : Ints W A c ys) (hbase : base ≤ W.heap.size) (hl : n + ys.length ≤ 10000000000)
    (h : ∀ v1 w1, OI w1 base v1 zs → On W w1 → wpList Try.prog ops Q rest (a.put (some N) v1) w1)
    (hop : o.op = .call { callee := .builtin .append, args := #[s, x], argTypes := #[27, 27] } := by rfl)
    (hd : o.dst = some N := by rfl) (hg : o.guard = none := by rfl) (hs : a.eval s = .slice (some ⟨g, 0, none⟩) n n := by rfl) (hx : a.eval x = .slice A ys.length c := by rfl) : wpList Try.prog ops Q (o :: rest) a W := by
  subst hz hn
  refine apFull N Try.underlying27 infoI rfl (by omega) HO (flat_len (enc := encI) (sz := 1) (fun _ => rfl) ys) (fun j u hu => ?_) (fun u hu => ?_) (by omega) (by omega) hbase (fun v1 w1 h1 h2 => h v1 w1 ?_ h2) hop hd hg hs hx
  · obtain ⟨i, r, hi, hr, rfl, hv⟩ := flat_div (enc := encI) (sz := 1) (by omega) (fun _ => rfl) ys j u hu
    obtain ⟨ad', e, c0⟩ := HR.at i hi
    refine ⟨ad', e, ?_⟩
    obtain rfl : r = 0 := by omega
    obtain rfl : Value.int .i64 ys[i] = u := Option.some.inj hv
    rw [show i * 1 + 0 = i by omega]; exact c0
  · obtain ⟨y, _, hy⟩ := List.mem_flatMap.1 hu
    simp only [List.mem_cons, List.not_mem_nil, or_false] at hy
    rcases hy with rfl; rfl
  · show World.ownsRow _ _ _ _ _ (xs ++ ys).length _
    rw [show (xs ++ ys).flatMap encI = xs.flatMap encI ++ ys.flatMap encI from List.flatMap_append, List.length_append]
    exact h1
end
/-- Literals. -/
theorem lit_own (W : World) (cs : Array Value) (e sz n lo : Nat) (hlo : lo ≤ W.heap.size) (hn : n ≤ 1000000) (hs : cs.size = n * sz) : (W.alloc (.cells cs e (0, 0))).ownsRow lo e sz (.slice (some ⟨W.heap.size, 0, none⟩) n n) n cs.toList :=
  World.ownsRow_lit W cs n hlo (by simp [maxLen]; omega) hs
theorem lit_own' (g : Nat) (W : World) (hg : g = W.heap.size) (cs : Array Value) (e sz n lo : Nat) (hlo : lo ≤ W.heap.size) (hn : n ≤ 1000000) (hs : cs.size = n * sz) : (W.alloc (.cells cs e (0, 0))).ownsRow lo e sz (.slice (some ⟨g, 0, none⟩) n n) n cs.toList := by
  subst hg; exact lit_own W cs e sz n lo hlo hn hs
theorem lit_H (W : World) (r : Int) (A : Option Addr) (n c : Nat) : OH (W.alloc (.cells #[.int .i64 r, .slice A n c] 55 (0, 0))) W.heap.size (.slice (some ⟨W.heap.size, 0, none⟩) 1 1) [(r, A, n, c)] :=
  lit_own W #[.int .i64 r, .slice A n c] 55 2 1 W.heap.size (Nat.le_refl _) (by omega) rfl
theorem lit_RH {W w : World} {r : Int} {A : Option Addr} {n c : Nat} (hb : On (W.alloc (.cells #[.int .i64 r, .slice A n c] 55 (0, 0))) w) : RH w (some ⟨W.heap.size, 0, none⟩) 1 [(r, A, n, c)] :=
  (OH.rh (n := 1) (pw_own_below (lit_H W r A n c) hb)).2
theorem own_grows {w W w1 : World} {lo e sz n : Nat} {v : Value} {cs : List Value} (h : On w W) (hO : W.ownsRow lo e sz v n cs) (hg : W.grownBy w1 v.ownBlock) (hlo : w.heap.size ≤ lo) : On w w1 :=
  on_grown h hg fun k hk => Nat.le_trans hlo (own_base hO k hk)
end Go.Proofs.Ytngjhblbpapjeaa.H
/- Walks: the reference's place of a fact, copies. No condition. -/
namespace Go.Proofs.Ytngjhblbpapjeaa.H
open Go Go.RowKit Go.Proofs.YtngjhblbpapjeaaW.PrintWords Go.Proofs.YtngjhblbpapjeaaW.PrintLast
open Go.Proofs.Ytngjhblbpapjeaa.Reg (On on_draw)
set_option maxHeartbeats 1000000
set_option maxRecDepth 100000
set_option linter.unusedVariables false
set_option linter.unusedSimpArgs false

section
variable {fn : Func} {p u : Tmp} {tmps : Array Value} {w : World} {g : Nat} {t : TypeId} {cs : Array Value} {fr : Nat × Nat}
theorem retIB (h : fn.results = #[.cell p 32, .tmp u]) (hp : tmps.getD p undef = .pointer (some ⟨g, 0, none⟩)) (hg : w.heap[g]? = some (.cells cs t fr)) (hs : cs.size = 2) : (results fn tmps).run Try.prog w = .ok (.tuple #[.agg cs, tmps.getD u undef]) w :=
  results_ct h tmps w g t cs fr _ hp hg Try.underlying32 rfl (by rw [hs]; kernel_rfl)
end
/-- A step that makes memory at most and hands back one value, nothing else coming up. -/
theorem stepM {P : Program} {ops : Array Oper} {Q : Exit → Act → World → Prop} {i : Nat} {tail : List Nat} {l : List (Nat × Reg.K)} {a : Act} {W : World} {o : Oper}
    (h : ∀ w, On W w → wpList P ops (Exit.then (fun a' w' => On W w' ∧ Reg.Ord P ops Q tail l a' w') Q) [o] a w) (hi : ops[i]? = some o := by rfl)
    (hw : Region.wanted o (yielded ops a.tmps) = true := by rfl) : Reg.Ord P ops Q tail ((i, .N) :: l) a W := Reg.stepN h hi hw
theorem l5Place_calls (w : World) (A0 n0 c0 A1 c1 A2 c2) (fs : List Fct) (f : Fct) (h1 : Fcts w A1 c1 fs) (h2 : Ints w A2 c2 f.2) :
    Calls Try.prog 76 #[.agg #[.slice A0 n0 c0, .slice A1 fs.length c1], .agg #[.int .i64 f.1, .slice A2 f.2.length c2]] w fun e w' => e = .returned (.int .i64 (place fs f)) ∧ On w w' := by
  have hmax := h1.max
  go_enter Try.func76, Try.ntmps76
  go_wp2
  go_loopw [5] (fun v5 wr => ∃ k : Nat, k ≤ fs.length ∧ v5 = .int .i64 k ∧ Hid (placeFrom f (fs.drop k) k = place fs f) ∧ On w wr ∧ Loc wr [(w.heap.size, #[.slice A0 n0 c0, .slice A1 fs.length c1], 32), (w.heap.size + 1, #[.int .i64 f.1, .slice A2 f.2.length c2], 55)]) (fun v5 _ => fs.length - (intOf v5).toNat)
  case atStart => exact ⟨0, Nat.zero_le _, rfl, rfl, On.alloc (On.alloc (On.refl _) _) _, loc2 _ _ _ _ _⟩
  case round =>
    obtain ⟨k, hk, rfl, hp, hB, hL⟩ := hrel
    have hc0 := blk_cell hL.1
    have hc1 := blk_cell hL.2.1
    have hl := Aside0.mk hL
    clear hL
    by_cases hlt : k < fs.length
    · obtain ⟨ad, A3, c3, rfl, hx0, hx1, hx2⟩ := (h1.on hB).at k hlt
      have hp' : Hid ((if cmpF fs[k] f = 0 then (k : Int) else placeFrom f (fs.drop (k + 1)) (k + 1)) = place fs f) := by have := hp.out; rwa [List.drop_eq_getElem_cons hlt] at this
      clear hp
      go_wp2
      refine Reg.region [(0,.L),(1,.L),(2,.L),(3,.L),(4,.L),(5,.L),(6,.C),(7,.L)] [] (by kernel_rfl) (by kernel_rfl) ?_
      repeat first | refine sP ?_ | refine sS ?_ | refine sA ?_ | refine sL ?_ | refine sQ ?_ | refine sO ?_
      refine callC (.int .i64 (cmpF fs[k] f)) Try.func93 (fun w' hS => ?_) ?_
      focus exact (CompareFacts_calls w' _ _ _ _ fs[k] f (hx2.on hS) ((h2.on hB).on hS))
      repeat first | refine sP ?_ | refine sS ?_ | refine sA ?_ | refine sL ?_ | refine sQ ?_ | refine sO ?_
      refine Reg.nil fun w2 hS => ?_
      by_cases h0 : cmpF fs[k] f = 0
      · have h0' : (cmpF fs[k] f == 0) = true := by simpa using h0
        go_wp2
        go_ret
        exact ⟨by rw [← hp'.out, if_pos h0]; rfl, hB.trans hS⟩
      · have h0' : (cmpF fs[k] f == 0) = false := by simpa using h0
        go_wp2
        go_roundw
        case rel => exact ⟨k + 1, by omega, by go_num, (by rw [← hp'.out, if_neg h0] : _ = _), hB.trans hS, Loc.on hS hl.out⟩
        case measure => simp [intOf]; omega
    · go_wp2
      go_ret
      exact ⟨by rw [← hp.out, List.drop_of_length_le (by omega)]; rfl, hB⟩
theorem sContainsFact_calls (w : World) (A0 c0 A1 c1) (rs : List Rel) (fs : List Fct) (h0 : Rels w A0 c0 rs) (h1 : Fcts w A1 c1 fs) (A2 c2) (g : Fct) (h2 : Ints w A2 c2 g.2) :
    Calls Try.prog 87 #[.agg #[.slice A0 rs.length c0, .slice A1 fs.length c1], .agg #[.int .i64 g.1, .slice A2 g.2.length c2]] w fun e w' => e = .returned (.bool (okInst rs fs && hasF fs g)) ∧ On w w' := by
  have hb := Aside0.mk (On.alloc (On.alloc (On.refl w) (.cells #[.slice A0 rs.length c0, .slice A1 fs.length c1] 32)) (.cells #[.int .i64 g.1, .slice A2 g.2.length c2] 55))
  have hL := Aside0.mk (loc2 w #[.slice A0 rs.length c0, .slice A1 fs.length c1] #[.int .i64 g.1, .slice A2 g.2.length c2] 32 55)
  cases ho : okInst rs fs with
  | false =>
    have ho' := Aside0.mk ho
    clear ho
    go_enter Try.func87, Try.ntmps87
    go_wp2_with (go_at_call 41; refine (IsValidInstance_calls _ A0 c0 A1 c1 rs fs (h0.on hb.out) (h1.on hb.out)).mono ?_; rintro e w1 ⟨rfl, hb1⟩; rw [ho'.out])
    go_ret
    exact ⟨by simp, hb.out.trans hb1⟩
  | true =>
    have ho' := Aside0.mk ho
    clear ho
    go_enter Try.func87, Try.ntmps87
    go_wp2_with (first | (go_at_call 41; refine (IsValidInstance_calls _ A0 c0 A1 c1 rs fs (h0.on hb.out) (h1.on hb.out)).mono ?_; rintro e w1 ⟨rfl, hb1⟩; rw [ho'.out]; have hL1 := Loc.on hb1 hL.out; have hc0 := blk_cell hL1.1; have hc1 := blk_cell hL1.2.1; clear hL1) | (go_at_call 76; refine (l5Place_calls w1 A0 rs.length c0 A1 c1 A2 c2 fs g (h1.on (hb.out.trans hb1)) (h2.on (hb.out.trans hb1))).mono ?_; rintro e w2 ⟨rfl, hb2⟩))
    go_ret
    exact ⟨ret_bool (by rw [hasF_place]; simp), (hb.out.trans hb1).trans hb2⟩
theorem l5Fact_calls (w : World) (A c) (f : Fct) (h : Ints w A c f.2) (hl : f.2.length ≤ 2000000) : Calls Try.prog 65 #[.agg #[.int .i64 f.1, .slice A f.2.length c]] w (Got fun v w' => ∃ v1, v = .agg #[.int .i64 f.1, v1] ∧ OI w' w.heap.size v1 f.2 ∧ On w w') := by
  have hb := Aside0.mk (On.alloc (On.alloc (On.refl w) (.cells #[.int .i64 f.1, .slice A f.2.length c] 55)) (.cells #[.int .i64 0, .slice none 0 0] 55))
  have hL := Aside0.mk (loc2 w #[.int .i64 f.1, .slice A f.2.length c] #[.int .i64 0, .slice none 0 0] 55 55)
  go_enter Try.func65, Try.ntmps65
  go_wp2
  refine Reg.region [(0,.L),(1,.L),(3,.L),(4,.L),(2,.N),(5,.N),(6,.L)] [7] (by kernel_rfl) (by kernel_rfl) ?_
  repeat first | refine sP ?_ | refine sS ?_ | refine sA ?_ | refine sL ?_ | refine sQ ?_ | refine sO ?_
  refine stepM (fun w1 hS => ?_)
  go_wp2
  refine ⟨hS.trans (On.alloc (On.refl _) _), ?_⟩
  repeat first | refine sP ?_ | refine sS ?_ | refine sA ?_ | refine sL ?_ | refine sQ ?_ | refine sO ?_
  refine stepM (fun w2 hS2 => ?_)
  refine apIf 8 (List.nil_append _) (pw_own_below (lit_own w1 #[] 3 1 0 w1.heap.size (Nat.le_refl _) (by omega) rfl) hS2) rfl (h.on ((hb.out.trans hS).trans ((On.alloc (On.refl _) _).trans hS2))) (by have := hS2.size; simp at this; omega) (by omega) fun v3 w3 hO3 hb3 => ?_
  refine ⟨hS2.trans hb3, ?_⟩
  obtain ⟨A3, c3, rfl⟩ := own_slice hO3
  simp only [Act.put, List.setIfInBounds_toArray, List.set_cons_zero, List.set_cons_succ]
  repeat first | refine sP ?_ | refine sS ?_ | refine sA ?_ | refine sL ?_ | refine sQ ?_ | refine sO ?_
  refine Reg.tail_ fun w4 hS4 => ?_
  have hk := (Loc.on ((hS.trans (On.alloc (On.refl _) _)).trans (hS2.trans (hb3.trans hS4))) hL.out).2.1
  have hc := blk_cell hk
  have hf := blk_frozen hk
  have hk' := Aside0.mk hk
  clear hk
  go_wp2
  have hsz := hS.size
  simp only [World.size_alloc] at hsz
  refine bodyPost_ret (retF rfl rfl (g := w.heap.size + 1) (blk_set (blk_set hk'.out 0 _) 1 _) rfl) rfl ?_
  exact ⟨_, rfl, _, rfl, own_lower (ownsRow_setCell_below (ownsRow_setCell_below (pw_own_below hO3 hS4) (by simp; omega) _) (by simp; omega) _) (by omega), Reg.On.set (Reg.On.set (((hb.out.trans hS).trans (On.alloc (On.refl _) _)).trans (hS2.trans (hb3.trans hS4))) (by simp) _) (by simp) _⟩
theorem blk_ex {S : Nat → Prop} {W w : World} {g : Nat} {o : Obj} (h : Ex S W w) (hg : W.heap[g]? = some o) (hn : ¬ S g) : w.heap[g]? = some o := (h.block g (blk_lt hg) hn).trans hg
theorem Fcts.ex {S : Nat → Prop} {w0 W w : World} {A : Option Addr} {c : Nat} {fs : List Fct} (h : Fcts w0 A c fs) (hb : On w0 W) (hE : Ex S W w) (hS : ∀ i, S i → w0.heap.size ≤ i) : Fcts w A c fs := h.on (Ex.on hb hE hS)
/-- The row of copies, one more. -/
theorem copy_more {lo : Nat} {hs : List Hdr} {fs : List Fct} {A' A2 : Option Addr} {c' c2 : Nat} {r : Int} {vs : List Int} {wr w2 w5 w6 : World} (hS : Sep wr lo hs fs) (hlo : lo ≤ wr.heap.size) (hO : OH wr lo (.slice A' hs.length c') hs) (h2 : OI w2 wr.heap.size (.slice A2 vs.length c2) vs) (hR : InR vs) (hb : On wr w2) (hb5 : On w2 w5)
    (hg : w5.grownBy w6 (Value.ownBlock (.slice A' hs.length c'))) : Sep w6 lo (hs ++ [(r, A2, vs.length, c2)]) (fs ++ [(r, vs)]) := by
  have h5 := Sep.snoc (a := (r, A2, vs.length, c2)) (f := (r, vs)) hS (hb.trans hb5) hlo rfl (pw_own_below h2 hb5) hR
  refine Sep.ex h5 (Ex.of_grown hg) (fun i a b ha hbk e => ?_)
  have hlt := own_lt hO b e.symm
  have hab := (h5.at_ i a _ ha (List.getElem?_eq_getElem (by rw [← h5.len]; exact (List.getElem?_eq_some_iff.1 ha).1))).2.1
  have := own_ne_blk hab (pw_own_below hO (hb.trans hb5)) (by decide) hbk
  exact this e.symm
theorem l5Copy_calls (w : World) (A0 c0 A1 c1) (rs : List Rel) (fs : List Fct) (h0 : Rels w A0 c0 rs) (h1 : Fcts w A1 c1 fs) (hl0 : rs.length ≤ 2000000) (hl : fs.length ≤ 2000000) (hl2 : ∀ f ∈ fs, f.2.length ≤ 2000000) : Calls Try.prog 86 #[.agg #[.slice A0 rs.length c0, .slice A1 fs.length c1]] w (Got fun v w' => OIn w' w.heap.size v rs fs ∧ On w w') := by
  have hb := Aside0.mk (On.alloc (On.alloc (On.refl w) (.cells #[.slice A0 rs.length c0, .slice A1 fs.length c1] 32)) (.cells #[.slice none 0 0, .slice none 0 0] 32))
  have hL := Aside0.mk (loc2 w #[.slice A0 rs.length c0, .slice A1 fs.length c1] #[.slice none 0 0, .slice none 0 0] 32 32)
  go_enter Try.func86, Try.ntmps86
  go_wp2_with (refine gate 8 ?_)
  refine ⟨apRf 8 (List.nil_append _) (lit_own' (w.heap.size + 1 + 1) _ (by simp) #[] 87 3 0 (w.heap.size + 2) (by simp) (by omega) rfl) rfl (h0.on (hb.out.trans (On.alloc (On.refl _) _))) (by simp) (by omega) fun v1 w1 hO1 hb1 => ?_⟩
  obtain ⟨Ar, cr, rfl⟩ := own_slice hO1
  have hfill := alloc_fill w1
  go_wp2
  clear hfill
  have hbL := Aside0.mk (Loc.on ((On.alloc (On.refl _) _).trans hb1) hL.out)
  have hB1 := Aside0.mk (hb.out.trans ((On.alloc (On.refl _) _).trans hb1))
  have hOR := Aside0.mk hO1
  clear hb1 hO1
  have hyb := Aside0.mk (loc_new w1 #[.slice Ar rs.length cr, .slice none 0 0] 32)
  have hBy := Aside0.mk (On.alloc (On.refl w1) (.cells #[.slice Ar rs.length cr, .slice none 0 0] 32))
  have hsy := Aside0.mk (show (w1.alloc (.cells #[.slice Ar rs.length cr, .slice none 0 0] 32)).heap.size = w1.heap.size + 1 by simp)
  obtain ⟨Wy, hWy⟩ : ∃ Wy, w1.alloc (.cells #[.slice Ar rs.length cr, .slice none 0 0] 32) = Wy := ⟨_, rfl⟩
  rw [hWy] at hyb hBy hsy ⊢
  clear hWy
  go_loopw [4] (fun v wr => ∃ (k : Nat) (hs : List Hdr) (A' : Option Addr) (c' : Nat), k ≤ fs.length ∧ v = .int .i64 k ∧ Aside0 (OH wr (w1.heap.size + 1) (.slice A' hs.length c') hs) ∧ Aside0 (Sep wr (w1.heap.size + 1) hs (fs.take k)) ∧ Aside0 (w1.heap.size + 1 ≤ wr.heap.size) ∧ Aside0 (Ex (fun b => w1.heap.size ≤ b) w1 wr) ∧ wr.heap[w1.heap.size]? = some (.cells #[.slice Ar rs.length cr, .slice A' hs.length c'] 32 (0, 0))) (fun v _ => fs.length - (intOf v).toNat)
  case atStart => exact ⟨0, [], none, 0, Nat.zero_le _, rfl, ⟨World.ownsRow_nil _ _ _ _⟩, ⟨Sep.nil _ _⟩, ⟨by rw [hsy.out]; exact Nat.le_refl _⟩, ⟨Ex.of_on hBy.out⟩, hyb.out⟩
  case round =>
    obtain ⟨k, hs, A', c', hk, rfl, hO, hS, hsz, hE, hy⟩ := hrel
    have hlen := Aside0.mk (show hs.length = k by have := hS.out.len; rw [List.length_take] at this; omega)
    have hB := Aside0.mk (Ex.on hB1.out hE.out (fun i hi => by have := hB1.out.size; omega))
    have hLr := Aside0.mk (show Loc wr _ from Loc.on (Ex.to_on hE.out (fun i hi => hi)) hbL.out)
    have hc0 := blk_cell hLr.out.1
    have hcy := blk_cell hy
    have hy' := Aside0.mk hy
    clear hy
    by_cases hlt : k < fs.length
    · obtain ⟨ad, A3, c3, rfl, hx0, hx1, hx2⟩ := (h1.on hB.out).at k hlt
      go_wp2
      refine Reg.region [(0,.L),(1,.L),(2,.L),(3,.L),(4,.L),(5,.L),(6,.L),(7,.N),(8,.N)] [9,10,11] (by kernel_rfl) (by kernel_rfl) ?_
      repeat first | refine sP ?_ | refine sS ?_ | refine sA ?_ | refine sL ?_ | refine sQ ?_ | refine sO ?_
      refine callN Try.func65 (fun w2 hS2 => ?_)
      focus
        refine (l5Fact_calls w2 A3 c3 fs[k] (hx2.on hS2) (hl2 _ (List.getElem_mem hlt))).mono ?_
        rintro e w3 ⟨v3, rfl, v4, rfl, hO4, hb3⟩
        obtain ⟨A4, c4, rfl⟩ := own_slice hO4
        refine ⟨_, rfl, hb3, fun a' ha => ?_⟩
        simp only [Act.put, List.setIfInBounds_toArray, List.set_cons_zero, List.set_cons_succ] at ha
        subst ha
        repeat first | refine sP ?_ | refine sS ?_ | refine sA ?_ | refine sL ?_ | refine sQ ?_ | refine sO ?_
        refine stepM (fun w4 hS4 => ?_)
        go_wp2
        refine ⟨hS4.trans (On.alloc (On.refl _) _), ?_⟩
        refine Reg.tail_ fun w5 hS5 => ?_
        have hB5 := Aside0.mk ((hS2.trans (hb3.trans (hS4.trans (On.alloc (On.refl _) _)))).trans hS5)
        have hlit := Aside0.mk (lit_RH hS5)
        have hO5 := Aside0.mk (pw_own_below hO.out hB5.out)
        obtain ⟨zs, hz⟩ : ∃ zs, hs ++ [(fs[k].1, A4, fs[k].2.length, c4)] = zs := ⟨_, rfl⟩
        have hz' := Aside0.mk hz
        refine apH 26 hz hO5.out hlit.out (Nat.le_trans hsz.out hB5.out.size) (by have := hlen.out; simp; omega) fun v6 w6 hO6 hg6 => ?_
        obtain ⟨A6, c6, rfl⟩ := own_slice hO6
        have hgy : some w1.heap.size ≠ Value.ownBlock (.slice A' hs.length c') := fun e => by have := own_base hO.out _ e.symm; omega
        have hk6 := blk_grown hg6 (blk_below hy'.out hB5.out) hgy
        have hcy6 := blk_cell hk6
        have hf6 := blk_frozen hk6
        have hk6' := Aside0.mk hk6
        have hS6 := Aside0.mk (copy_more (r := fs[k].1) (vs := fs[k].2) hS.out hsz.out hO.out (own_lower hO4 hS2.size) (hx2.2.2) (hS2.trans hb3) (hS4.trans ((On.alloc (On.refl _) _).trans hS5)) hg6)
        have hS6 := Aside0.mk (hz ▸ hS6.out)
        clear hk6 hgy hcy hz
        go_wp2
        refine ⟨⟨k + 1, zs, A6, c6, by omega, by go_num, ⟨ownsRow_setCell_below hO6 (Nat.lt_succ_self _) _⟩, ⟨?_⟩, ⟨?_⟩, ⟨?_⟩, blk_set hk6'.out 1 _⟩, by simp [intOf]; omega⟩
        · rw [List.take_succ_eq_append_getElem hlt]
          exact Sep.set hS6.out (Nat.lt_succ_self _) _
        · have h3 := hg6.size; have h4 := hB5.out.size; have := hsz.out; simp [World.setCell]; omega
        · exact ((hE.out.then_on hB5.out).trans (Ex.of_grown hg6) (fun i _ e => by have := own_base hO5.out i e.symm; omega)).trans (Ex.set _ _ _) (fun i _ e => by subst e; exact Nat.le_refl _)
    · have e1 : fs.take k = fs := List.take_of_length_le (by omega)
      rw [e1] at hS
      have hcr := blk_cell hLr.out.2.1
      have hfr := blk_frozen hLr.out.2.1
      go_wp2
      have hs1 := hBy.out.size
      have hs2 := hLr.out.2.1
      refine bodyPost_ret (retI rfl rfl (g := w.heap.size + 1) (blk_set (blk_set hLr.out.2.1 0 _) 1 _) rfl) rfl ?_
      have hw1 := blk_lt hbL.out.2.1
      refine ⟨_, rfl, ⟨_, _, hs, rfl, ?_, ?_, ?_⟩, ?_⟩
      · have h5 := own_ex hOR.out hE.out (fun i hi h => by have := own_lt hOR.out i hi; omega)
        exact own_lower (ownsRow_setCell_below (ownsRow_setCell_below h5 (by simp) _) (by simp) _) (by omega)
      · exact own_lower (ownsRow_setCell_below (ownsRow_setCell_below hO.out (by simp; omega) _) (by simp; omega) _) (by omega)
      · exact Sep.lower (Sep.set (Sep.set hS.out (by simp; omega) _) (by simp; omega) _) (by omega)
      · exact Reg.On.set (Reg.On.set hB.out (by simp) _) (by simp) _
end Go.Proofs.Ytngjhblbpapjeaa.H
