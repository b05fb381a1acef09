/- Walks: the laws' own copies. No condition. -/
import Derived.Test.YtngjhblbpapjeaaHL1
namespace Go.Proofs.Ytngjhblbpapjeaa.H
open Go Go.RowKit Go.Proofs.YtngjhblbpapjeaaW.PrintWords Go.Proofs.YtngjhblbpapjeaaW.PrintLast
open Go.Proofs.Ytngjhblbpapjeaa.Reg (On on_draw)
set_option maxHeartbeats 1000000
set_option maxRecDepth 100000
set_option linter.unusedVariables false
set_option linter.unusedSimpArgs false

theorem toRelationS_calls (w : World) (A c) (rs : List Rel) (h : Rels w A c rs) (hl : rs.length ≤ 2000000) : Calls Try.prog 58 #[.slice A rs.length c] w (Got fun v w' => OR w' w.heap.size v rs ∧ On w w') := by
  go_enter Try.func58, Try.ntmps58
  go_wp2_with (refine gate 7 ?_)
  refine ⟨mkRow 7 (m := rs.length) Try.underlying29 infoR rfl (by omega) (by omega) fun hO => ?_⟩
  obtain ⟨cs0, hcs0⟩ : ∃ cs0, madeCells (Value.agg #[.string ⟨#[]⟩, .int .i64 0, .bool false]).cells (rs.length * 3) = cs0 := ⟨_, rfl⟩
  rw [hcs0] at hO ⊢
  clear hcs0
  have hB := On.alloc (On.refl w) (.cells cs0 87)
  obtain ⟨w1, hw1⟩ : ∃ w1, w.alloc (.cells cs0 87) = w1 := ⟨_, rfl⟩
  rw [hw1] at hO hB ⊢
  clear hw1
  have hO' := Aside0.mk hO
  clear hO
  go_wp2
  go_loopw [4] (fun v wr => ∃ (k : Nat) (cs : List Value), k ≤ rs.length ∧ v = .int .i64 k ∧ Aside0 (wr.ownsRow w.heap.size 87 3 (.slice (some ⟨w.heap.size, 0, none⟩) rs.length rs.length) rs.length ((rs.take k).flatMap encR ++ cs)) ∧ On w wr) (fun v _ => rs.length - (intOf v).toNat)
  case atStart => exact ⟨0, _, Nat.zero_le _, rfl, by simpa using hO', hB⟩
  case round =>
    obtain ⟨k, cs, hk, rfl, hO, hB⟩ := hrel
    by_cases hlt : k < rs.length
    · obtain ⟨ad, rfl, hx0, hx1, hx2⟩ := (h.on hB).at k hlt
      have hcl := Aside0.mk (show 3 ≤ cs.length by have := hO.out.1; simp [flat_len (enc := encR) (sz := 3) (fun _ => rfl)] at this; omega)
      have hO2 := hO
      clear hO
      go_wp2_with (go_at_call 101; refine (toRelation_calls wr rs[k]).mono ?_; rintro e w2 ⟨rfl, hb2⟩; have hO3 := Aside0.mk (pw_own_below hO2.out hb2); have hfz := own_frozen hO3.out (k * 3); have hfz1 := own_frozen hO3.out (k * 3 + 1); have hfz2 := own_frozen hO3.out (k * 3 + 2); obtain ⟨z, hz⟩ := own_some hO3.out (k * 3) (by omega); obtain ⟨z1, hz1⟩ := own_some hO3.out (k * 3 + 1) (by omega); obtain ⟨z2, hz2⟩ := own_some hO3.out (k * 3 + 2) (by omega))
      obtain ⟨z0, z1, z2, hcs⟩ := split3 (cs := cs) (i := 0) (by have := hcl.out; omega)
      simp only [List.take_zero, List.nil_append, Nat.zero_add] at hcs
      refine ⟨⟨k + 1, cs.drop 3, by omega, by go_num, ⟨?_⟩, Reg.On.set (Reg.On.set (Reg.On.set (hB.trans hb2) (Nat.le_refl _) _) (Nat.le_refl _) _) (Nat.le_refl _) _⟩, by simp [intOf]; omega⟩
      have := ((hO3.out.stored (k * 3) (.string rs[k].1)).1.stored (k * 3 + 1) (.int .i64 rs[k].2.1)).1.stored (k * 3 + 2) (.bool rs[k].2.2) |>.1
      rw [hcs, set3 (k * 3) (by rw [flat_len (enc := encR) (sz := 3) (fun _ => rfl), List.length_take]; omega)] at this
      rw [flat_take_succ rs k hlt, List.append_assoc]
      exact this
    · have hO2 := hO
      clear hO
      go_wp2
      go_ret
      refine ⟨_, rfl, ?_, hB⟩
      have h1 := hO2.out
      have h2 := h1.1
      rw [List.take_of_length_le (by omega)] at h1 h2
      have h3 : cs = [] := by
        rw [List.length_append, flat_len (enc := encR) (sz := 3) (fun _ => rfl)] at h2
        exact List.eq_nil_of_length_eq_zero (by omega)
      subst h3
      rw [List.append_nil] at h1
      exact h1
end Go.Proofs.Ytngjhblbpapjeaa.H
