/- Walks: marks of instances, and whether they hold. No condition. -/
import Derived.Test.YtngjhblbpapjeaaHL7
namespace Go.Proofs.Ytngjhblbpapjeaa.H
open Go Go.RowKit Go.Proofs.YtngjhblbpapjeaaW.PrintWords Go.Proofs.YtngjhblbpapjeaaW.PrintLast
open Go.Proofs.Ytngjhblbpapjeaa.Reg (On on_draw)
set_option maxHeartbeats 1000000
set_option maxRecDepth 100000
set_option linter.unusedVariables false
set_option linter.unusedSimpArgs false

theorem markF_at (k : Int) (l : List Nat) (i : Nat) (h : i < l.length) : (markF k l)[i]'(by rw [markF_len]; exact h) = (k + cF (l.take i), markI (k + cF (l.take i) + 1) l[i]) := by
  induction l generalizing k i with
  | nil => simp at h
  | cons m l ih =>
    cases i with
    | zero => simp [markF, cF]
    | succ i =>
      have h' : i < l.length := by simpa using h
      have e : k + 1 + (m : Int) + cF (l.take i) = k + cF ((m :: l).take (i + 1)) := by simp [cF]; omega
      simp only [markF, List.getElem_cons_succ]
      rw [ih (k + 1 + m) i h', e]
theorem cF_take_succ (l : List Nat) (k : Nat) (h : k < l.length) : cF (l.take (k + 1)) = cF (l.take k) + (l[k] + 1) := by
  rw [List.take_succ_eq_append_getElem h, cF_snoc]
theorem cF_len (l : List Nat) : l.length ≤ cF l := by
  unfold cF
  induction l with
  | nil => simp
  | cons m l ih => simp at ih ⊢; omega
theorem heldFactS_calls (w : World) (A c) (l : List Nat) (k0 : Int) (h : Fcts w A c (markF k0 l)) (h0 : 0 ≤ k0) (h1 : k0 + cF l ≤ 10000000) : Calls Try.prog 71 #[.slice A l.length c, .int .i64 k0] w fun e w' => e = .returned (.int .i64 (k0 + cF l)) ∧ On w w' := by
  have hl := Aside0.mk (markF_len k0 l)
  have hlmax : l.length ≤ 10000000 := by have := cF_len l; omega
  go_enter Try.func71, Try.ntmps71
  go_wp2
  go_loopw [5, 1] (fun v5 v1 wr => ∃ k : Nat, k ≤ l.length ∧ v5 = .int .i64 k ∧ v1 = .int .i64 (k0 + cF (l.take k)) ∧ On w wr) (fun v5 _ _ => l.length - (intOf v5).toNat)
  case atStart => exact ⟨0, Nat.zero_le _, rfl, by simp [cF], On.refl _⟩
  case round =>
    obtain ⟨k, hk, rfl, rfl, hB⟩ := hrel
    by_cases hlt : k < l.length
    · obtain ⟨ad, A1, c1, rfl, hx0, hx1, hx2⟩ := (h.on hB).at k (by rw [hl.out]; exact hlt)
      rw [markF_at k0 l k hlt] at hx0 hx1 hx2
      have hcm := Aside0.mk (cF_take_succ l k hlt)
      have hcl := Aside0.mk (cF_take_le l (k + 1))
      obtain ⟨m, hm⟩ : ∃ m : Int, k0 + cF (l.take k) = m := ⟨_, rfl⟩
      have hm' := Aside0.mk hm
      rw [hm] at hx0 hx1 hx2
      have hx2' := Aside0.mk hx2
      replace hx1 : wr.cell? ⟨(ad.add (k * 2)).block, (ad.add (k * 2)).off + 1, none⟩ = some (.slice A1 l[k] c1) := by rw [hx1, markI_len]
      clear hx2 hcl
      have hm0 := Aside0.mk (show 0 ≤ m ∧ m + 1 + l[k] ≤ 10000000 by have := hcm.out; have := cF_take_le l (k + 1); omega)
      have hw1 : IntKind.i64.wrap (m + 1) = m + 1 := by have := hm0.out; rw [IntWalk.i64_in _ (by omega)]
      have hneg : decide (m + 1 + (l[k] : Int) < 0) = false := decide_eq_false (by have := hm0.out; omega)
      rw [hm]
      clear hm
      go_wp2_with (go_at_call 20; refine (heldIntS_calls _ A1 c1 l[k] (m + 1) hx2'.out (by have := hm0.out; omega) (by have := hm0.out; omega)).mono ?_; rintro e w2 ⟨rfl, hb2⟩)
      exact ⟨⟨k + 1, by omega, by go_num, by congr 1; have := hcm.out; have := hm'.out; omega, hB.trans hb2⟩, by simp [intOf]; omega⟩
    · go_wp2
      go_ret
      exact ⟨by show Ending.returned (.int .i64 _) = _; rw [List.take_of_length_le (by omega)], hB⟩
/-- The blocks of an instance. -/
def IB (vr vf : Value) (hs : List Hdr) (b : Nat) : Prop := some b = vr.ownBlock ∨ FB vf hs b
theorem FB.not_rel {w : World} {lo lo2 lo3 : Nat} {vr vf : Value} {hs : List Hdr} {rs : List Rel} {fs : List Fct} (hR : OR w lo3 vr rs) (h : OH w lo2 vf hs) (hS : Sep w lo hs fs) {b : Nat} (hb : vr.ownBlock = some b) : ¬ FB vf hs b := by
  rintro (e | ⟨i, a, ha, e⟩)
  · exact own_ne_blk hR h (by decide) hb e.symm
  · have hi : i < fs.length := by rw [← hS.len]; exact (List.getElem?_eq_some_iff.1 ha).1
    exact own_ne_blk hR (hS.at_ i a fs[i] ha (List.getElem?_eq_getElem hi)).2.1 (by decide) hb e.symm
theorem FB.lt {w : World} {lo lo2 : Nat} {vf : Value} {hs : List Hdr} {fs : List Fct} (h : OH w lo2 vf hs) (hS : Sep w lo hs fs) {b : Nat} (hb : FB vf hs b) : b < w.heap.size := by
  rcases hb with e | ⟨i, a, ha, e⟩
  · exact own_lt h b e.symm
  · exact (hS.lt ha e.symm).2
theorem Sep.ex_row {e lo3 sz n : Nat} {cs : List Value} {W w : World} {lo : Nat} {v : Value} {hs : List Hdr} {fs : List Fct} (h : Sep W lo hs fs) (hv : W.ownsRow lo3 e sz v n cs) (he : 3 ≠ e) (k : Ex (fun b => some b = v.ownBlock) W w) : Sep w lo hs fs :=
  h.ex k fun i a b ha hb e' => by
    have hi : i < fs.length := by rw [← h.len]; exact (List.getElem?_eq_some_iff.1 ha).1
    exact own_ne_blk (h.at_ i a fs[i] ha (List.getElem?_eq_getElem hi)).2.1 hv he hb e'.symm
theorem markInstance_calls (w : World) (lo lo2 lo3 : Nat) (vr vf : Value) (hs : List Hdr) (rs : List Rel) (fs : List Fct) (k0 : Int) (hR : OR w lo3 vr rs) (h : OH w lo2 vf hs) (hS : Sep w lo hs fs) (h0 : 1 ≤ k0) (h1 : k0 + 3 * rs.length + wF fs ≤ 10000000) : Calls Try.prog 18 #[.agg #[vr, vf], .int .i64 k0] w fun e w' => e = .returned (.int .i64 (k0 + 3 * rs.length + wF fs)) ∧ (∃ hs', OR w' lo3 vr (markR k0 rs.length) ∧ OH w' lo2 vf hs' ∧ Sep w' lo hs' (markF (k0 + 3 * rs.length) (lens fs)) ∧ ∀ b, FB vf hs' b → FB vf hs b) ∧ Ex (IB vr vf hs) w w' := by
  have hnr : ∀ b, vr.ownBlock = some b → ¬ FB vf hs b := fun b hb => FB.not_rel hR h hS hb
  obtain ⟨A0, c0, rfl⟩ := own_slice hR
  obtain ⟨A1, c1, rfl⟩ := own_slice h
  have hb := Aside0.mk (On.alloc (On.refl w) (.cells #[.slice A0 rs.length c0, .slice A1 hs.length c1] 32))
  have hL := Aside0.mk (loc1 w #[.slice A0 rs.length c0, .slice A1 hs.length c1] 32)
  have hm0 := Aside0.mk h1
  go_enter Try.func18, Try.ntmps18
  go_wp2_with (first | (go_at_call 63; refine (markRelationS_calls _ lo3 _ rs k0 (pw_own_below hR hb.out) h0 (by omega)).mono ?_; rintro e w1 ⟨rfl, hO, hE⟩; have hO' := Aside0.mk hO; have hE' := Aside0.mk hE; have hc0 := blk_cell ((hE.block w.heap.size (by simp) (fun e => absurd (own_lt hR _ e.symm) (by omega))).trans hL.out.1); clear hO hE) | (go_at_call 64; refine (markFactS_calls w1 lo lo2 _ hs fs (k0 + 3 * rs.length) (own_ex (pw_own_below h hb.out) hE'.out (fun b hb1 e => own_ne_blk h hR (by decide) hb1 e.symm)) (Sep.ex_row (hS.on hb.out) (pw_own_below hR hb.out) (by decide) hE'.out) (by omega) (by omega)).mono ?_; rintro e w2 ⟨rfl, ⟨hs', hO2, hS2, hF2⟩, hE2⟩))
  go_ret
  refine ⟨rfl, ⟨hs', ?_, hO2, hS2, hF2⟩, ((Ex.of_on hb.out).trans hE'.out (fun b _ e => .inl e)).trans hE2 (fun b _ e => .inr e)⟩
  show World.ownsRow _ _ _ _ _ (markR k0 rs.length).length _
  exact own_ex hO'.out hE2 (fun b hb1 => hnr b hb1)
theorem heldInstance_calls (w : World) (A0 c0 A1 c1) (n : Nat) (l : List Nat) (k0 : Int) (h0 : Rels w A0 c0 (markR k0 n)) (h1 : Fcts w A1 c1 (markF (k0 + 3 * n) l)) (hk : 1 ≤ k0) (hm : k0 + 3 * n + cF l ≤ 10000000) : Calls Try.prog 23 #[.agg #[.slice A0 n c0, .slice A1 l.length c1], .int .i64 k0] w fun e w' => e = .returned (.int .i64 (k0 + 3 * n + cF l)) ∧ On w w' := by
  have hb := Aside0.mk (On.alloc (On.refl w) (.cells #[.slice A0 n c0, .slice A1 l.length c1] 32))
  have hL := Aside0.mk (loc1 w #[.slice A0 n c0, .slice A1 l.length c1] 32)
  have hn1 : decide (k0 + 3 * (n : Int) < 0) = false := decide_eq_false (by omega)
  have hn2 : decide (k0 + 3 * (n : Int) + (cF l : Int) < 0) = false := decide_eq_false (by omega)
  have hm' := Aside0.mk hm
  clear hm
  go_enter Try.func23, Try.ntmps23
  go_wp2_with (first | (go_at_call 70; refine (heldRelationS_calls _ A0 c0 n k0 (h0.on hb.out) hk (by have := hm'.out; omega)).mono ?_; rintro e w1 ⟨rfl, hb1⟩; have hc0 := blk_cell (Loc.on hb1 hL.out).1) | (go_at_call 71; refine (heldFactS_calls _ A1 c1 l (k0 + 3 * n) (h1.on (hb.out.trans hb1)) (by omega) hm'.out).mono ?_; rintro e w2 ⟨rfl, hb2⟩))
  go_ret
  exact ⟨rfl, (hb.out.trans hb1).trans hb2⟩
theorem markFact_calls (w : World) (lo : Nat) (v : Value) (f : Fct) (k0 : Int) (h : OI w lo v f.2) (h0 : 0 ≤ k0) (h1 : k0 + f.2.length ≤ 10000000) : Calls Try.prog 36 #[.agg #[.int .i64 f.1, v], .int .i64 k0] w fun e w' => e = .returned (.int .i64 (k0 + f.2.length)) ∧ OI w' lo v (markI k0 f.2.length) ∧ Ex (fun b => some b = v.ownBlock) w w' := by
  obtain ⟨A1, c1, rfl⟩ := own_slice h
  have hb := Aside0.mk (On.alloc (On.refl w) (.cells #[.int .i64 f.1, .slice A1 f.2.length c1] 55))
  go_enter Try.func36, Try.ntmps36
  go_wp2_with (go_at_call 19; refine (markIntS_calls _ lo _ f.2 k0 (pw_own_below h hb.out) h0 h1).mono ?_; rintro e w1 ⟨rfl, hO, hE⟩; have hO' := Aside0.mk hO; have hE' := Aside0.mk hE; clear hO hE)
  go_ret
  exact ⟨rfl, hO'.out, (Ex.of_on hb.out).trans hE'.out (fun _ _ h => h)⟩
end Go.Proofs.Ytngjhblbpapjeaa.H
