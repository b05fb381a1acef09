/- Walks and plain laws for the law FnInsertDelete, part 3 of 6: the texts HL8, HRegT, HL9, HRegF, HJ4, HG1, HRegG, HD3, HS2, HG2 in one. No condition. -/
import Derived.BigQuiet
import Derived.Test.YtngjhblbpapjeaaGreatWEqStruct
import Derived.Test.YtngjhblbpapjeaaGreatZFnInsertDelete2
/- Walks: marks of instances, and whether they hold. No condition. -/
namespace Go.Proofs.YtngjhblbpapjeaaGreat.H
open Go Go.RowKit Go.Proofs.YtngjhblbpapjeaaGreatW.PrintWords Go.Proofs.YtngjhblbpapjeaaGreatW.PrintLast
open Go.Proofs.YtngjhblbpapjeaaGreat.Reg (On on_draw)
set_option maxHeartbeats 1000000
set_option maxRecDepth 100000
set_option linter.unusedVariables false
set_option linter.unusedSimpArgs false

theorem markF_at (k : Int) (l : List Nat) (i : Nat) (h : i < l.length) : (markF k l)[i]'(by rw [markF_len]; exact h) = (k + cF (l.take i), markI (k + cF (l.take i) + 1) l[i]) := by
  induction l generalizing k i with
  | nil => simp at h
  | cons m l ih =>
    cases i with
    | zero => simp [markF, cF]
    | succ i =>
      have h' : i < l.length := by simpa using h
      have e : k + 1 + (m : Int) + cF (l.take i) = k + cF ((m :: l).take (i + 1)) := by simp [cF]; omega
      simp only [markF, List.getElem_cons_succ]
      rw [ih (k + 1 + m) i h', e]
theorem cF_take_succ (l : List Nat) (k : Nat) (h : k < l.length) : cF (l.take (k + 1)) = cF (l.take k) + (l[k] + 1) := by
  rw [List.take_succ_eq_append_getElem h, cF_snoc]
theorem cF_len (l : List Nat) : l.length ≤ cF l := by
  unfold cF
  induction l with
  | nil => simp
  | cons m l ih => simp at ih ⊢; omega
theorem heldFactS_calls (w : World) (A c) (l : List Nat) (k0 : Int) (h : Fcts w A c (markF k0 l)) (h0 : 0 ≤ k0) (h1 : k0 + cF l ≤ 10000000) : Calls Tryz.prog 72 #[.slice A l.length c, .int .i64 k0] w fun e w' => e = .returned (.int .i64 (k0 + cF l)) ∧ On w w' := by
  have hl := Aside0.mk (markF_len k0 l)
  have hlmax : l.length ≤ 10000000 := by have := cF_len l; omega
  go_enter Tryz.func72, Tryz.ntmps72
  go_wp2
  go_loopw [5, 1] (fun v5 v1 wr => ∃ k : Nat, k ≤ l.length ∧ v5 = .int .i64 k ∧ v1 = .int .i64 (k0 + cF (l.take k)) ∧ On w wr) (fun v5 _ _ => l.length - (intOf v5).toNat)
  case atStart => exact ⟨0, Nat.zero_le _, rfl, by simp [cF], On.refl _⟩
  case round =>
    obtain ⟨k, hk, rfl, rfl, hB⟩ := hrel
    by_cases hlt : k < l.length
    · obtain ⟨ad, A1, c1, rfl, hx0, hx1, hx2⟩ := (h.on hB).at k (by rw [hl.out]; exact hlt)
      rw [markF_at k0 l k hlt] at hx0 hx1 hx2
      have hcm := Aside0.mk (cF_take_succ l k hlt)
      have hcl := Aside0.mk (cF_take_le l (k + 1))
      obtain ⟨m, hm⟩ : ∃ m : Int, k0 + cF (l.take k) = m := ⟨_, rfl⟩
      have hm' := Aside0.mk hm
      rw [hm] at hx0 hx1 hx2
      have hx2' := Aside0.mk hx2
      replace hx1 : wr.cell? ⟨(ad.add (k * 2)).block, (ad.add (k * 2)).off + 1, none⟩ = some (.slice A1 l[k] c1) := by rw [hx1, markI_len]
      clear hx2 hcl
      have hm0 := Aside0.mk (show 0 ≤ m ∧ m + 1 + l[k] ≤ 10000000 by have := hcm.out; have := cF_take_le l (k + 1); omega)
      have hw1 : IntKind.i64.wrap (m + 1) = m + 1 := by have := hm0.out; rw [IntWalk.i64_in _ (by omega)]
      have hneg : decide (m + 1 + (l[k] : Int) < 0) = false := decide_eq_false (by have := hm0.out; omega)
      rw [hm]
      clear hm
      go_wp2_with (go_at_call 103; refine (heldIntS_calls _ A1 c1 l[k] (m + 1) hx2'.out (by have := hm0.out; omega) (by have := hm0.out; omega)).mono ?_; rintro e w2 ⟨rfl, hb2⟩)
      exact ⟨⟨k + 1, by omega, by go_num, by congr 1; have := hcm.out; have := hm'.out; omega, hB.trans hb2⟩, by simp [intOf]; omega⟩
    · go_wp2
      go_ret
      exact ⟨by show Ending.returned (.int .i64 _) = _; rw [List.take_of_length_le (by omega)], hB⟩
/-- The blocks of an instance. -/
def IB (vr vf : Value) (hs : List Hdr) (b : Nat) : Prop := some b = vr.ownBlock ∨ FB vf hs b
theorem FB.not_rel {w : World} {lo lo2 lo3 : Nat} {vr vf : Value} {hs : List Hdr} {rs : List Rel} {fs : List Fct} (hR : OR w lo3 vr rs) (h : OH w lo2 vf hs) (hS : Sep w lo hs fs) {b : Nat} (hb : vr.ownBlock = some b) : ¬ FB vf hs b := by
  rintro (e | ⟨i, a, ha, e⟩)
  · exact own_ne_blk hR h (by decide) hb e.symm
  · have hi : i < fs.length := by rw [← hS.len]; exact (List.getElem?_eq_some_iff.1 ha).1
    exact own_ne_blk hR (hS.at_ i a fs[i] ha (List.getElem?_eq_getElem hi)).2.1 (by decide) hb e.symm
theorem FB.lt {w : World} {lo lo2 : Nat} {vf : Value} {hs : List Hdr} {fs : List Fct} (h : OH w lo2 vf hs) (hS : Sep w lo hs fs) {b : Nat} (hb : FB vf hs b) : b < w.heap.size := by
  rcases hb with e | ⟨i, a, ha, e⟩
  · exact own_lt h b e.symm
  · exact (hS.lt ha e.symm).2
theorem Sep.ex_row {e lo3 sz n : Nat} {cs : List Value} {W w : World} {lo : Nat} {v : Value} {hs : List Hdr} {fs : List Fct} (h : Sep W lo hs fs) (hv : W.ownsRow lo3 e sz v n cs) (he : 3 ≠ e) (k : Ex (fun b => some b = v.ownBlock) W w) : Sep w lo hs fs :=
  h.ex k fun i a b ha hb e' => by
    have hi : i < fs.length := by rw [← h.len]; exact (List.getElem?_eq_some_iff.1 ha).1
    exact own_ne_blk (h.at_ i a fs[i] ha (List.getElem?_eq_getElem hi)).2.1 hv he hb e'.symm
theorem markInstance_calls (w : World) (lo lo2 lo3 : Nat) (vr vf : Value) (hs : List Hdr) (rs : List Rel) (fs : List Fct) (k0 : Int) (hR : OR w lo3 vr rs) (h : OH w lo2 vf hs) (hS : Sep w lo hs fs) (h0 : 1 ≤ k0) (h1 : k0 + 3 * rs.length + wF fs ≤ 10000000) : Calls Tryz.prog 25 #[.agg #[vr, vf], .int .i64 k0] w fun e w' => e = .returned (.int .i64 (k0 + 3 * rs.length + wF fs)) ∧ (∃ hs', OR w' lo3 vr (markR k0 rs.length) ∧ OH w' lo2 vf hs' ∧ Sep w' lo hs' (markF (k0 + 3 * rs.length) (lens fs)) ∧ ∀ b, FB vf hs' b → FB vf hs b) ∧ Ex (IB vr vf hs) w w' := by
  have hnr : ∀ b, vr.ownBlock = some b → ¬ FB vf hs b := fun b hb => FB.not_rel hR h hS hb
  obtain ⟨A0, c0, rfl⟩ := own_slice hR
  obtain ⟨A1, c1, rfl⟩ := own_slice h
  have hb := Aside0.mk (On.alloc (On.refl w) (.cells #[.slice A0 rs.length c0, .slice A1 hs.length c1] 27))
  have hL := Aside0.mk (loc1 w #[.slice A0 rs.length c0, .slice A1 hs.length c1] 27)
  have hm0 := Aside0.mk h1
  go_enter Tryz.func25, Tryz.ntmps25
  go_wp2_with (first | (go_at_call 68; refine (markRelationS_calls _ lo3 _ rs k0 (pw_own_below hR hb.out) h0 (by omega)).mono ?_; rintro e w1 ⟨rfl, hO, hE⟩; have hO' := Aside0.mk hO; have hE' := Aside0.mk hE; have hc0 := blk_cell ((hE.block w.heap.size (by simp) (fun e => absurd (own_lt hR _ e.symm) (by omega))).trans hL.out.1); clear hO hE) | (go_at_call 69; refine (markFactS_calls w1 lo lo2 _ hs fs (k0 + 3 * rs.length) (own_ex (pw_own_below h hb.out) hE'.out (fun b hb1 e => own_ne_blk h hR (by decide) hb1 e.symm)) (Sep.ex_row (hS.on hb.out) (pw_own_below hR hb.out) (by decide) hE'.out) (by omega) (by omega)).mono ?_; rintro e w2 ⟨rfl, ⟨hs', hO2, hS2, hF2⟩, hE2⟩))
  go_ret
  refine ⟨rfl, ⟨hs', ?_, hO2, hS2, hF2⟩, ((Ex.of_on hb.out).trans hE'.out (fun b _ e => .inl e)).trans hE2 (fun b _ e => .inr e)⟩
  show World.ownsRow _ _ _ _ _ (markR k0 rs.length).length _
  exact own_ex hO'.out hE2 (fun b hb1 => hnr b hb1)
theorem heldInstance_calls (w : World) (A0 c0 A1 c1) (n : Nat) (l : List Nat) (k0 : Int) (h0 : Rels w A0 c0 (markR k0 n)) (h1 : Fcts w A1 c1 (markF (k0 + 3 * n) l)) (hk : 1 ≤ k0) (hm : k0 + 3 * n + cF l ≤ 10000000) : Calls Tryz.prog 27 #[.agg #[.slice A0 n c0, .slice A1 l.length c1], .int .i64 k0] w fun e w' => e = .returned (.int .i64 (k0 + 3 * n + cF l)) ∧ On w w' := by
  have hb := Aside0.mk (On.alloc (On.refl w) (.cells #[.slice A0 n c0, .slice A1 l.length c1] 27))
  have hL := Aside0.mk (loc1 w #[.slice A0 n c0, .slice A1 l.length c1] 27)
  have hn1 : decide (k0 + 3 * (n : Int) < 0) = false := decide_eq_false (by omega)
  have hn2 : decide (k0 + 3 * (n : Int) + (cF l : Int) < 0) = false := decide_eq_false (by omega)
  have hm' := Aside0.mk hm
  clear hm
  go_enter Tryz.func27, Tryz.ntmps27
  go_wp2_with (first | (go_at_call 71; refine (heldRelationS_calls _ A0 c0 n k0 (h0.on hb.out) hk (by have := hm'.out; omega)).mono ?_; rintro e w1 ⟨rfl, hb1⟩; have hc0 := blk_cell (Loc.on hb1 hL.out).1) | (go_at_call 72; refine (heldFactS_calls _ A1 c1 l (k0 + 3 * n) (h1.on (hb.out.trans hb1)) (by omega) hm'.out).mono ?_; rintro e w2 ⟨rfl, hb2⟩))
  go_ret
  exact ⟨rfl, (hb.out.trans hb1).trans hb2⟩
theorem markFact_calls (w : World) (lo : Nat) (v : Value) (f : Fct) (k0 : Int) (h : OI w lo v f.2) (h0 : 0 ≤ k0) (h1 : k0 + f.2.length ≤ 10000000) : Calls Tryz.prog 26 #[.agg #[.int .i64 f.1, v], .int .i64 k0] w fun e w' => e = .returned (.int .i64 (k0 + f.2.length)) ∧ OI w' lo v (markI k0 f.2.length) ∧ Ex (fun b => some b = v.ownBlock) w w' := by
  obtain ⟨A1, c1, rfl⟩ := own_slice h
  have hb := Aside0.mk (On.alloc (On.refl w) (.cells #[.int .i64 f.1, .slice A1 f.2.length c1] 30))
  go_enter Tryz.func26, Tryz.ntmps26
  go_wp2_with (go_at_call 70; refine (markIntS_calls _ lo _ f.2 k0 (pw_own_below h hb.out) h0 h1).mono ?_; rintro e w1 ⟨rfl, hO, hE⟩; have hO' := Aside0.mk hO; have hE' := Aside0.mk hE; clear hO hE)
  go_ret
  exact ⟨rfl, hO'.out, (Ex.of_on hb.out).trans hE'.out (fun _ _ h => h)⟩
end Go.Proofs.YtngjhblbpapjeaaGreat.H
/- The rule for regions that draw their order, where two operations that make memory may come up at once. No condition. -/
namespace Go.Proofs.YtngjhblbpapjeaaGreat.Reg
open Go Go.RowKit
variable {P : Program} {ops : Array Oper} {Q : Exit → Act → World → Prop} {md : Region.Mode}
/-! Two operations that make memory may come up at once: both ways are walked. -/
inductive Tr where
  | leaf (l : List (Nat × K))
  | s (i : Nat) (k : K) (p : Tr)
  | two (i j : Nat) (p q : Tr)
def Tr.len : Tr → Nat
  | .leaf l => l.length
  | .s _ _ p => p.len + 1
  | .two _ _ p _ => p.len + 1
def chkTr (md : Region.Mode) (ops : Array Oper) (tail : List Nat) : Tr → Array Bool → Bool
  | .leaf l, listed => chk md ops tail l listed
  | .s i k p, listed =>
    (match k with
      | .L => (Region.ready md ops listed).contains i && freeC md ops false listed i && tail.all fun j => reach md ops j i
      | .C => (Region.ready md ops listed).contains i && freeC md ops true listed i && tail.all fun j => reach md ops j i
      | .N => Region.ready md ops listed == [i] && busy ops i && !tail.contains i
      | .P => (Region.ready md ops listed).contains i && freeC md ops false listed i)
    && chkTr md ops tail p (listed.setIfInBounds i true)
  | .two i j p q, listed => Region.ready md ops listed == [i, j] && busy ops i && busy ops j && p.len == q.len && chkTr md ops tail p (listed.setIfInBounds i true) && chkTr md ops tail q (listed.setIfInBounds j true)
def wpTr (P : Program) (ops : Array Oper) (Q : Exit → Act → World → Prop) (tail : List Nat) : Tr → Act → World → Prop
  | .leaf l, a, W => wpOrd P ops Q tail l a W
  | .s i k p, a, W =>
    match ops[i]? with
    | none => False
    | some o =>
      if Region.wanted o (yielded ops a.tmps) then
        (match k with
          | .L => ∃ v, (∀ w, On W w → (execOp a.eval o).run P w = .ok (.value v) w) ∧ wpTr P ops Q tail p (a.put o.dst v) W
          | .C => ∃ v, (∀ w, On W w → nAt P o a w fun u w' => u = v ∧ On W w') ∧ wpTr P ops Q tail p (a.put o.dst v) W
          | .N => ∀ w, On W w → wpList P ops (Exit.then (fun a' w' => On W w' ∧ wpTr P ops Q tail p a' w') Q) [o] a w
          | .P => ∃ v, (∀ w, (execOp a.eval o).run P w = .ok (.value v) w) ∧ wpTr P ops Q tail p (a.put o.dst v) W)
      else wpTr P ops Q tail p (a.put o.dst undef) W
  | .two i j p q, a, W =>
    (match ops[i]? with
      | none => False
      | some o => Region.wanted o (yielded ops a.tmps) = true ∧ ∀ w, On W w → wpList P ops (Exit.then (fun a' w' => On W w' ∧ wpTr P ops Q tail p a' w') Q) [o] a w) ∧
    (match ops[j]? with
      | none => False
      | some o => Region.wanted o (yielded ops a.tmps) = true ∧ ∀ w, On W w → wpList P ops (Exit.then (fun a' w' => On W w' ∧ wpTr P ops Q tail q a' w') Q) [o] a w)
theorem wpT_of_tr (hs : Region.noSelect ops = true) (hQ : Plain Q) (tail : List Nat) : ∀ (t : Tr) (listed : Array Bool) (a : Act) (W : World), closed md ops listed → chkTr md ops tail t listed = true → wpTr P ops Q tail t a W → wpT P md ops Q (fun j => tail.contains j) (t.len + tail.length) listed a (On W)
  | .leaf l, listed, a, W, hclosed, hc, h => wpT_of_ord hs hQ tail l listed a W hclosed hc h
  | .two i j p q, listed, a, W, hclosed, hc, h => by
    simp only [chkTr, Bool.and_eq_true, beq_iff_eq] at hc
    obtain ⟨⟨⟨⟨⟨hr, hbi⟩, hbj⟩, hlen⟩, hp⟩, hq⟩ := hc
    simp only [wpTr] at h
    obtain ⟨h1, h2⟩ := h
    have hl : (Tr.two i j p q).len + tail.length = (p.len + tail.length) + 1 := by simp only [Tr.len]; omega
    rw [hl]
    refine ⟨fun h0 => (by rw [hr] at h0; cases h0), fun x hx => ?_⟩
    have hx' := hx
    rw [hr] at hx
    rcases List.mem_cons.1 hx with rfl | hx
    · cases hi : ops[x]? with
      | none => simp only [hi] at h1
      | some o =>
        simp only [hi] at h1
        simp only [busy, hi, Bool.not_eq_true'] at hbi
        unfold stepT
        simp only [hi]
        rw [if_pos h1.1]
        exact .inr (.inr ⟨.inl hbi, fun w hS => wpOp_mono (fun a' w' ⟨hon, hh⟩ => ⟨On w', Below.refl _ _, fun _ w'' hw'' => hon.trans hw'', wpT_of_tr hs hQ tail p _ _ _ (hclosed.set hx') hp hh⟩) (wpOp_of_one hi (h1.2 w hS))⟩)
    · obtain rfl := List.mem_singleton.1 hx
      cases hi : ops[x]? with
      | none => simp only [hi] at h2
      | some o =>
        simp only [hi] at h2
        simp only [busy, hi, Bool.not_eq_true'] at hbj
        unfold stepT
        simp only [hi]
        rw [if_pos h2.1, hlen]
        exact .inr (.inr ⟨.inl hbj, fun w hS => wpOp_mono (fun a' w' ⟨hon, hh⟩ => ⟨On w', Below.refl _ _, fun _ w'' hw'' => hon.trans hw'', wpT_of_tr hs hQ tail q _ _ _ (hclosed.set hx') hq hh⟩) (wpOp_of_one hi (h2.2 w hS))⟩)
  | .s i k p, listed, a, W, hclosed, hc, h => by
    simp only [chkTr, Bool.and_eq_true] at hc
    obtain ⟨hk, hl⟩ := hc
    simp only [wpTr] at h
    cases hi : ops[i]? with
    | none => simp only [hi] at h
    | some o =>
      simp only [hi] at h
      have hri : i ∈ Region.ready md ops listed := by
        cases k <;> simp only [Bool.and_eq_true, beq_iff_eq] at hk
        · simpa using hk.1.1
        · simpa using hk.1.1
        · rw [hk.1.1]; exact List.mem_singleton.2 rfl
        · simpa using hk.1
      have ih := fun a W h => wpT_of_tr hs hQ tail p (listed.setIfInBounds i true) a W (hclosed.set hri) hl h
      have sel := Region.noSelect_spec hs
      have hlen : (Tr.s i k p).len + tail.length = (p.len + tail.length) + 1 := by simp only [Tr.len]; omega
      rw [hlen]
      have hreach : k ≠ .N → k ≠ .P → ∀ j, (tail.contains j) = true → reach md ops j i = true := by
        intro hkn hkp j hj
        have hj' : j ∈ tail := by simpa using hj
        cases k <;> simp only [Bool.and_eq_true, List.all_eq_true] at hk
        · exact hk.2 j hj'
        · exact hk.2 j hj'
        · exact absurd rfl hkn
        · exact absurd rfl hkp
      by_cases hw : Region.wanted o (yielded ops a.tmps) = true
      · rw [if_pos hw] at h
        cases k with
        | L =>
          simp only [Bool.and_eq_true] at hk
          obtain ⟨v, h1, h2⟩ := h
          exact wpT_first (c := false) hQ hi sel (hreach (by simp) (by simp)) _ listed a _ hclosed (fun j oj hj hne hun hno => freeC_spec hi hk.1.2 j oj hj hne hun hno) hri (.inl ⟨hw, fun w hS => by simpa using h1 w hS⟩) (ih _ _ h2)
        | C =>
          simp only [Bool.and_eq_true] at hk
          obtain ⟨v, h1, h2⟩ := h
          exact wpT_first (c := true) hQ hi sel (hreach (by simp) (by simp)) _ listed a _ hclosed (fun j oj hj hne hun hno => freeC_spec hi hk.1.2 j oj hj hne hun hno) hri (.inl ⟨hw, fun w hS => by simpa using h1 w hS⟩) (ih _ _ h2)
        | N =>
          simp only [Bool.and_eq_true, beq_iff_eq, busy, hi, Bool.not_eq_true'] at hk
          refine ⟨fun h0 => (by rw [hk.1.1] at h0; cases h0), fun j hj => ?_⟩
          rw [hk.1.1] at hj
          obtain rfl := List.mem_singleton.1 hj
          unfold stepT
          simp only [hi]
          rw [if_pos hw]
          exact .inr (.inr ⟨.inl hk.1.2, fun w hS => wpOp_mono (fun a' w' ⟨hon, hh⟩ => ⟨On w', Below.refl _ _, fun _ w'' hw'' => hon.trans hw'', ih _ _ hh⟩) (wpOp_of_one hi (h w hS))⟩)
        | P =>
          simp only [Bool.and_eq_true] at hk
          obtain ⟨v, h1, h2⟩ := h
          exact wpT_firstP hQ hi sel _ listed a _ hclosed (fun j oj hj hne hun hno => (freeC_spec hi hk.2 j oj hj hne hun hno).1) hri (.inl ⟨hw, fun w _ => by simpa using h1 w⟩) (ih _ _ h2)
      · rw [if_neg hw] at h
        have hw' : Region.wanted o (yielded ops a.tmps) = false := by simpa using hw
        cases k with
        | P =>
          simp only [Bool.and_eq_true] at hk
          exact wpT_firstP hQ hi sel _ listed a _ hclosed (fun j oj hj hne hun hno => (freeC_spec hi hk.2 j oj hj hne hun hno).1) hri (.inr ⟨hw', rfl⟩) (ih _ _ h)
        | L =>
          simp only [Bool.and_eq_true] at hk
          exact wpT_first (c := false) hQ hi sel (hreach (by simp) (by simp)) _ listed a _ hclosed (fun j oj hj hne hun hno => ⟨(freeC_spec hi hk.1.2 j oj hj hne hun hno).1, fun h => by cases h⟩) hri (.inr ⟨hw', rfl⟩) (ih _ _ h)
        | C =>
          simp only [Bool.and_eq_true] at hk
          exact wpT_first (c := false) hQ hi sel (hreach (by simp) (by simp)) _ listed a _ hclosed (fun j oj hj hne hun hno => ⟨(freeC_spec hi hk.1.2 j oj hj hne hun hno).1, fun h => by cases h⟩) hri (.inr ⟨hw', rfl⟩) (ih _ _ h)
        | N =>
          simp only [Bool.and_eq_true, beq_iff_eq, busy, hi, Bool.not_eq_true'] at hk
          refine ⟨fun h0 => (by rw [hk.1.1] at h0; cases h0), fun j hj => ?_⟩
          rw [hk.1.1] at hj
          obtain rfl := List.mem_singleton.1 hj
          unfold stepT
          simp only [hi]
          rw [if_neg hw]
          exact ih _ _ h
/-- The tree, shut. -/
structure OrdT (P : Program) (ops : Array Oper) (Q : Exit → Act → World → Prop) (tail : List Nat) (t : Tr) (a : Act) (W : World) : Prop where mk :: (out : wpTr P ops Q tail t a W)
/-- The rule with a tree; what follows stands behind what the region comes to (M). -/
theorem regionT {id : Nat} {a : Act} {w : World} (t : Tr) (tail : List Nat) (M : Act → World → Prop) (hm : P.follows .mixedOrders = true) (hc : (Region.noSelect ops && (t.len + tail.length == ops.size) && chkTr .any ops tail t (Array.replicate ops.size false)) = true)
    (h : OrdT P ops (fun x a w => x = .normal ∧ M a w) tail t a w) (k : ∀ a' w', M a' w' → Q .normal a' w') : (Code.region id ops true).wp P Q a w := by
  simp only [Bool.and_eq_true, beq_iff_eq] at hc
  refine Code.wp_mono (Q := fun x a w => x = .normal ∧ M a w) (fun e a w hx => by obtain ⟨rfl, hM⟩ := hx; exact k _ _ hM) ?_
  refine wp_region_any hm (wpAny_of_wpT (cl := fun j => tail.contains j) _ _ _ (On w) _ (region.below_drew' w) ?_)
  rw [← hc.1.2]
  exact wpT_of_tr hc.1.1 (fun c a d v w h => by obtain ⟨h, _⟩ := h; cases h) tail t _ a w (closed.start _) (by rw [hc.1.2]; exact hc.2) h.out
/-- The same; what the region comes to is told with the state ahead of it. -/
theorem regionM {id : Nat} {a : Act} {w : World} (t : Tr) (tail : List Nat) (M : Act → Act → World → Prop) (hm : P.follows .mixedOrders = true) (hc : (Region.noSelect ops && (t.len + tail.length == ops.size) && chkTr .any ops tail t (Array.replicate ops.size false)) = true)
    (h : OrdT P ops (fun x a' w => x = .normal ∧ M a a' w) tail t a w) (k : ∀ a' w', M a a' w' → Q .normal a' w') : (Code.region id ops true).wp P Q a w := regionT t tail (M a) hm hc h k
/-! The moves over a tree. -/
section
variable {i j : Nat} {tail : List Nat} {p q : Tr} {a : Act} {W : World} {o : Oper} {N : Tmp}
theorem tLeaf {l : List (Nat × K)} (h : Ord P ops Q tail l a W) : OrdT P ops Q tail (.leaf l) a W := ⟨h.out⟩
theorem tL {v : Value} (hy : ∀ w, On W w → (execOp a.eval o).run P w = .ok (.value v) w) (h : OrdT P ops Q tail p (a.put (some N) v) W) (hi : ops[i]? = some o) (hN : o.dst = some N)
    (hw : Region.wanted o (yielded ops a.tmps) = true) : OrdT P ops Q tail (.s i .L p) a W := by
  refine ⟨?_⟩
  simp only [wpTr, hi]
  rw [if_pos hw]
  exact ⟨v, hy, hN ▸ h.out⟩
theorem tTwo {o' : Oper} (h : ∀ w, On W w → wpList P ops (Exit.then (fun a' w' => On W w' ∧ OrdT P ops Q tail p a' w') Q) [o] a w) (h' : ∀ w, On W w → wpList P ops (Exit.then (fun a' w' => On W w' ∧ OrdT P ops Q tail q a' w') Q) [o'] a w)
    (hi : ops[i]? = some o) (hj : ops[j]? = some o') (hw : Region.wanted o (yielded ops a.tmps) = true) (hw' : Region.wanted o' (yielded ops a.tmps) = true) : OrdT P ops Q tail (.two i j p q) a W := by
  refine ⟨?_⟩
  simp only [wpTr, hi, hj]
  exact ⟨⟨hw, fun w hS => wpList_mono_normal (fun a w ⟨h1, h2⟩ => ⟨h1, h2.out⟩) (h w hS)⟩, ⟨hw', fun w hS => wpList_mono_normal (fun a w ⟨h1, h2⟩ => ⟨h1, h2.out⟩) (h' w hS)⟩⟩
end
end Go.Proofs.YtngjhblbpapjeaaGreat.Reg
namespace Go.Proofs.YtngjhblbpapjeaaGreat.H
open Go Go.RowKit Go.Proofs.YtngjhblbpapjeaaGreatW.PrintWords Go.Proofs.YtngjhblbpapjeaaGreatW.PrintLast
open Go.Proofs.YtngjhblbpapjeaaGreat.Reg (On on_draw)
section
variable {P : Program} {ops : Array Oper} {Q : Exit → Act → World → Prop} {i j : Nat} {tail : List Nat} {p q : Reg.Tr} {a a' : Act} {W : World} {o o' : Oper} {N : Tmp}
theorem tL {v : Value} (h : Reg.OrdT P ops Q tail p a' W) (hi : ops[i]? = some o := by rfl) (hN : o.dst = some N := by rfl) (hw : Region.wanted o (yielded ops a.tmps) = true := by rfl)
    (hy : ∀ w, On W w → (execOp a.eval o).run P w = .ok (.value v) w := by intro w' hS; have hA := Reg.On.eq hS; clear hS; (go_simp; first | done | rfl))
    (ha : a.put (some N) v = a' := by simp only [Act.put, List.setIfInBounds_toArray, List.set_cons_zero, List.set_cons_succ]; rfl) : Reg.OrdT P ops Q tail (.s i .L p) a W := Reg.tL hy (ha ▸ h) hi hN hw
theorem tTwo (h : ∀ w, On W w → wpList P ops (Exit.then (fun a' w' => On W w' ∧ Reg.OrdT P ops Q tail p a' w') Q) [o] a w) (h' : ∀ w, On W w → wpList P ops (Exit.then (fun a' w' => On W w' ∧ Reg.OrdT P ops Q tail q a' w') Q) [o'] a w)
    (hi : ops[i]? = some o := by rfl) (hj : ops[j]? = some o' := by rfl) (hw : Region.wanted o (yielded ops a.tmps) = true := by rfl) (hw' : Region.wanted o' (yielded ops a.tmps) = true := by rfl) : Reg.OrdT P ops Q tail (.two i j p q) a W := Reg.tTwo h h' hi hj hw hw'
end
end Go.Proofs.YtngjhblbpapjeaaGreat.H
/- The laws' own functions, told alike for each kind of datum. No condition. -/
namespace Go.Proofs.YtngjhblbpapjeaaGreat.H
open Go Go.RowKit Go.Proofs.YtngjhblbpapjeaaGreatW.PrintWords Go.Proofs.YtngjhblbpapjeaaGreatW.PrintLast
open Go.Proofs.YtngjhblbpapjeaaGreat.Reg (On on_draw)
set_option maxHeartbeats 1000000
set_option maxRecDepth 100000
set_option linter.unusedVariables false
set_option linter.unusedSimpArgs false

/-- A call of a plain function, met in line. -/
theorem goesF {ops : Array Oper} {rest : List Oper} {o : Oper} {a : Act} {Q : Exit → Act → World → Prop} {w : World} (N : Tmp) {f : FuncId} {fn : Func} {xs : Array Operand} {ts : Array TypeId} {args : Array Value} (hf : Tryz.prog.funcs[f]? = some fn)
    (h : Calls Tryz.prog f args w fun e w' => ∃ v, e = .returned v ∧ wpList Tryz.prog ops Q rest (a.put (some N) v) w') (hname : (fn.name == "runtime.NumGoroutine") = false := by kernel_rfl) (hb : fn.body.isSome = true := by rfl)
    (hop : o.op = .call { callee := .value (.func f), args := xs, argTypes := ts } := by rfl) (hargs : xs.map a.eval = args := by (try simp only [List.map_toArray, List.map_cons, List.map_nil]); rfl)
    (hd : o.dst = some N := by rfl) (hg : o.guard = none := by rfl) : wpList Tryz.prog ops Q (o :: rest) a w := by
  refine wpList_plain hg fun K hK => ?_
  have he := enters_ hf hname hb args w
  have hrun : (execOp a.eval o).run Tryz.prog w = .ok (.enter f args) w := by
    unfold execOp
    simp [hop, resolve, Deferred.ofValue, invoke, Act.eval, hargs, he]
  unfold Oper.wp
  rw [hrun, Oper.upon_enter]
  refine h.mono fun e w'' hh => ?_
  obtain ⟨v, rfl, hk⟩ := hh
  rw [← hd] at hk
  exact hK _ _ hk
theorem inW {P : Program} {f : FuncId} {args : Array Value} (w : World) {Q : Ending → World → Prop} (h : Calls P f args w Q) : Calls P f args w Q := h
theorem OIn.ex {S : Nat → Prop} {W w : World} {lo : Nat} {v : Value} {rs : List Rel} {fs : List Fct} (h : OIn W lo v rs fs) (k : Ex S W w) (hS : ∀ b, S b → b < lo) : OIn w lo v rs fs := by
  obtain ⟨vr, vf, hs, e, hR, hH, hSp⟩ := h.out
  refine ⟨vr, vf, hs, e, own_ex hR k (fun i hi h => ?_), own_ex hH k (fun i hi h => ?_), hSp.ex k (fun i a b ha hb h => ?_)⟩
  · have := own_base hR i hi; have := hS _ h; omega
  · have := own_base hH i hi; have := hS _ h; omega
  · have := (hSp.lt ha hb).1; have := hS _ h; omega
theorem RIn.shape {w : World} {v : Value} {rs : List Rel} {fs : List Fct} (h : RIn w v rs fs) : ∃ A n c B m d, v = .agg #[.slice A n c, .slice B m d] := by
  obtain ⟨A0, c0, A1, c1, e, _⟩ := h.out
  exact ⟨_, _, _, _, _, _, e⟩
theorem RIn.parts {w : World} {A B : Option Addr} {n c m d : Nat} {rs : List Rel} {fs : List Fct} (h : RIn w (.agg #[.slice A n c, .slice B m d]) rs fs) : n = rs.length ∧ m = fs.length ∧ Rels w A c rs ∧ Fcts w B d fs := by
  obtain ⟨A0, c0, A1, c1, e, h0, h1⟩ := h.out
  injection e with e
  have e' := congrArg Array.toList e
  simp only [List.cons.injEq, Value.slice.injEq, and_true] at e'
  obtain ⟨⟨rfl, rfl, rfl⟩, rfl, rfl, rfl⟩ := e'
  exact ⟨rfl, rfl, h0, h1⟩
/-- What an instance weighs, for the marks. -/
def mkI (rs : List Rel) (fs : List Fct) : Nat := 3 * rs.length + wF fs
theorem mkI_le (rs : List Rel) (fs : List Fct) : mkI rs fs ≤ 3 * (wR rs + wF fs) := by
  have h1 : rs.length ≤ wR rs := by
    unfold wR
    induction rs with
    | nil => simp
    | cons g rs ih => simp at ih ⊢; omega
  unfold mkI; omega
theorem wF_sub {l fs : List Fct} (h : l.Sublist fs) : wF l ≤ wF fs := by
  unfold wF
  induction h with
  | slnil => simp
  | cons a _ ih => simp at ih ⊢; omega
  | cons_cons a _ ih => simp at ih ⊢; omega
theorem wF_small (fs : List Fct) (h : ∀ f ∈ fs, f.2.length ≤ 3) : wF fs ≤ 4 * fs.length := by
  unfold wF
  induction fs with
  | nil => simp
  | cons f fs ih =>
    have h1 := h f List.mem_cons_self
    have h2 := ih (fun g hg => h g (List.mem_cons_of_mem _ hg))
    simp at h2 ⊢; omega
theorem szI_calls (w : World) (v : Value) (rs : List Rel) (fs : List Fct) (n : Int) (h0 : 0 ≤ n) (h1 : n ≤ 2000000) (h : RIn w v rs fs) (hsz : ∀ r ∈ rs, r.1.size ≤ 9223372036854775807) : Calls Tryz.prog 19 #[v, .int .i64 n] w (Sz n (wR rs + wF fs) w) := by
  obtain ⟨A0, c0, A1, c1, rfl, hr, hf⟩ := h.out
  exact szInstance_calls w A0 c0 A1 c1 rs fs n h0 h1 hr hf hsz
theorem toI_calls (w : World) (v : Value) (rs : List Rel) (fs : List Fct) (h : RIn w v rs fs) (hl : wR rs + wF fs ≤ 1048576) : Calls Tryz.prog 21 #[v] w (Got fun v w' => OIn w' w.heap.size v rs fs ∧ On w w') := by
  obtain ⟨A0, c0, A1, c1, rfl, hr, hf⟩ := h.out
  have h1 : rs.length ≤ wR rs := by
    unfold wR
    clear hr h hl
    induction rs with
    | nil => simp
    | cons g rs ih => simp at ih ⊢; omega
  have h2 := wF_len fs
  refine toInstance_calls w A0 c0 A1 c1 rs fs hr hf (by omega) (by omega) (fun f hm => ?_)
  have : f.2.length ≤ wF fs := by
    clear hf h hl h2
    unfold wF
    induction fs with
    | nil => cases hm
    | cons g fs ih =>
      rcases List.mem_cons.1 hm with rfl | hm
      · simp; omega
      · have := ih hm; simp at this ⊢; omega
  omega
theorem eqI_calls (w : World) (v u : Value) (rs : List Rel) (fs : List Fct) (h : RIn w v rs fs) (k : RIn w u rs fs) : Calls Tryz.prog 23 #[v, u] w fun e w' => e = .returned (.bool true) ∧ On w w' := by
  obtain ⟨A0, c0, A1, c1, rfl, h0, h1⟩ := h.out
  obtain ⟨B0, d0, B1, d1, rfl, k0, k1⟩ := k.out
  exact eqInstance_calls w A0 c0 A1 c1 B0 d0 B1 d1 rs fs h0 h1 k0 k1
/-- An instance of one's own whose blocks lie in a range. -/
structure OIb (w : World) (lo hi : Nat) (v : Value) (rs : List Rel) (fs : List Fct) : Prop where mk :: (out : ∃ vr vf hs, v = .agg #[vr, vf] ∧ OR w lo vr rs ∧ OH w lo vf hs ∧ Sep w lo hs fs ∧ ∀ b, IB vr vf hs b → b < hi)
theorem OIn.b {w : World} {lo : Nat} {v : Value} {rs : List Rel} {fs : List Fct} (h : OIn w lo v rs fs) : OIb w lo w.heap.size v rs fs := by
  obtain ⟨vr, vf, hs, e, hR, hH, hS⟩ := h.out
  refine ⟨vr, vf, hs, e, hR, hH, hS, fun b hb => ?_⟩
  rcases hb with e | e | ⟨i, a, ha, e⟩
  · exact own_lt hR b e.symm
  · exact own_lt hH b e.symm
  · exact (hS.lt ha e.symm).2
theorem OIb.n {w : World} {lo hi : Nat} {v : Value} {rs : List Rel} {fs : List Fct} (h : OIb w lo hi v rs fs) : OIn w lo v rs fs := by
  obtain ⟨vr, vf, hs, e, hR, hH, hS, _⟩ := h.out
  exact ⟨vr, vf, hs, e, hR, hH, hS⟩
theorem OIb.read {w : World} {lo hi : Nat} {v : Value} {rs : List Rel} {fs : List Fct} (h : OIb w lo hi v rs fs) : RIn w v rs fs := h.n.read
theorem OIb.on {W w : World} {lo hi : Nat} {v : Value} {rs : List Rel} {fs : List Fct} (h : OIb W lo hi v rs fs) (hb : On W w) : OIb w lo hi v rs fs := by
  obtain ⟨vr, vf, hs, e, hR, hH, hS, hh⟩ := h.out
  exact ⟨vr, vf, hs, e, pw_own_below hR hb, pw_own_below hH hb, hS.on hb, hh⟩
theorem OIb.ex {S : Nat → Prop} {W w : World} {lo hi : Nat} {v : Value} {rs : List Rel} {fs : List Fct} (h : OIb W lo hi v rs fs) (k : Ex S W w) (hS : ∀ b, lo ≤ b → b < hi → ¬ S b) : OIb w lo hi v rs fs := by
  obtain ⟨vr, vf, hs, e, hR, hH, hSp, hh⟩ := h.out
  exact ⟨vr, vf, hs, e, own_ex hR k (fun i hi h => hS i (own_base hR i hi) (hh i (.inl hi.symm)) h), own_ex hH k (fun i hi h => hS i (own_base hH i hi) (hh i (.inr (.inl hi.symm))) h), hSp.ex k (fun i a b ha hb h => hS b (hSp.lt ha hb).1 (hh b (.inr (.inr ⟨i, a, ha, hb.symm⟩))) h), hh⟩
theorem OIb.set {W : World} {lo hi g j : Nat} {v u : Value} {rs : List Rel} {fs : List Fct} (h : OIb W lo hi v rs fs) (hg : g < lo ∨ hi ≤ g) : OIb (W.setCell ⟨g, j, none⟩ u) lo hi v rs fs :=
  h.ex (Ex.set W ⟨g, j, none⟩ u) (fun b h1 h2 h3 => by have h4 : b = g := h3; omega)
theorem mkI_calls (w : World) (lo hi : Nat) (v : Value) (rs : List Rel) (fs : List Fct) (k0 : Int) (h : OIb w lo hi v rs fs) (h0 : 1 ≤ k0) (h1 : k0 + mkI rs fs ≤ 10000000) : Calls Tryz.prog 25 #[v, .int .i64 k0] w fun e w' => e = .returned (.int .i64 (k0 + mkI rs fs)) ∧ OIb w' lo hi v (markR k0 rs.length) (markF (k0 + 3 * rs.length) (lens fs)) ∧ Ex (fun b => lo ≤ b ∧ b < hi) w w' := by
  obtain ⟨vr, vf, hs, rfl, hR, hH, hS, hh⟩ := h.out
  unfold mkI at h1 ⊢
  refine (markInstance_calls w lo lo lo vr vf hs rs fs k0 hR hH hS h0 (by omega)).mono fun e w' hq => ?_
  obtain ⟨he, ⟨hs', hR', hH', hS', hF'⟩, hE⟩ := hq
  refine ⟨by rw [he]; congr 2; omega, ⟨vr, vf, hs', rfl, hR', hH', hS', fun b hb => hh b (hb.imp id (hF' b))⟩, hE.mono fun b hb => ⟨?_, hh b hb⟩⟩
  rcases hb with e | e | ⟨i, a, ha, e⟩
  · exact own_base hR b e.symm
  · exact own_base hH b e.symm
  · exact (hS.lt ha e.symm).1
theorem hdI_calls (w : World) (v : Value) (rs : List Rel) (fs : List Fct) (k0 : Int) (h : RIn w v (markR k0 rs.length) (markF (k0 + 3 * rs.length) (lens fs))) (h0 : 1 ≤ k0) (h1 : k0 + mkI rs fs ≤ 10000000) : Calls Tryz.prog 27 #[v, .int .i64 k0] w fun e w' => e = .returned (.int .i64 (k0 + mkI rs fs)) ∧ On w w' := by
  obtain ⟨A0, c0, A1, c1, rfl, hr, hf⟩ := h.out
  unfold mkI at h1 ⊢
  have hlr : (markR k0 rs.length).length = rs.length := by simp [markR_len]
  have hlf : (markF (k0 + 3 * rs.length) (lens fs)).length = (lens fs).length := markF_len _ _
  rw [hlr, hlf]
  refine (heldInstance_calls w A0 c0 A1 c1 rs.length (lens fs) k0 hr hf h0 (by rw [cF_lens]; omega)).mono fun e w' hh => ?_
  exact ⟨by rw [hh.1, cF_lens]; congr 2; omega, hh.2⟩
/-- One fact. -/
structure RFa (w : World) (v : Value) (f : Fct) : Prop where mk :: (out : ∃ A c, v = .agg #[.int .i64 f.1, .slice A f.2.length c] ∧ Ints w A c f.2)
structure OFa (w : World) (lo : Nat) (v : Value) (f : Fct) : Prop where mk :: (out : ∃ v1, v = .agg #[.int .i64 f.1, v1] ∧ OI w lo v1 f.2 ∧ InR f.2)
theorem RFa.on {W w : World} {v : Value} {f : Fct} (h : RFa W v f) (hb : On W w) : RFa w v f := by
  obtain ⟨A, c, e, h0⟩ := h.out
  exact ⟨A, c, e, h0.on hb⟩
theorem OFa.on {W w : World} {lo : Nat} {v : Value} {f : Fct} (h : OFa W lo v f) (hb : On W w) : OFa w lo v f := by
  obtain ⟨v1, e, h0, h1⟩ := h.out
  exact ⟨v1, e, pw_own_below h0 hb, h1⟩
theorem OFa.read {w : World} {lo : Nat} {v : Value} {f : Fct} (h : OFa w lo v f) : RFa w v f := by
  obtain ⟨v1, e, h0, h1⟩ := h.out
  obtain ⟨A, c, rfl, h2⟩ := OI.rd h0 h1
  exact ⟨A, c, e, h2⟩
theorem OFa.ex {S : Nat → Prop} {W w : World} {lo : Nat} {v : Value} {f : Fct} (h : OFa W lo v f) (k : Ex S W w) (hS : ∀ b, S b → b < lo) : OFa w lo v f := by
  obtain ⟨v1, e, h0, h1⟩ := h.out
  refine ⟨v1, e, own_ex h0 k (fun i hi h => ?_), h1⟩
  have := own_base h0 i hi; have := hS _ h; omega
theorem OFa.ex' {S : Nat → Prop} {W w : World} {lo : Nat} {v : Value} {f : Fct} (h : OFa W lo v f) (k : Ex S W w) (hS : ∀ b, S b → b < lo ∨ W.heap.size ≤ b) : OFa w lo v f := by
  obtain ⟨v1, e, h0, h1⟩ := h.out
  refine ⟨v1, e, own_ex h0 k (fun i hi h => ?_), h1⟩
  have := own_base h0 i hi; have := own_lt h0 i hi; have := hS _ h; omega
theorem RFa.shape {w : World} {v : Value} {f : Fct} (h : RFa w v f) : ∃ r A n c, v = .agg #[.int .i64 r, .slice A n c] := by
  obtain ⟨A, c, e, _⟩ := h.out
  exact ⟨_, _, _, _, e⟩
theorem RFa.parts {w : World} {r : Int} {A : Option Addr} {n c : Nat} {f : Fct} (h : RFa w (.agg #[.int .i64 r, .slice A n c]) f) : r = f.1 ∧ n = f.2.length ∧ Ints w A c f.2 := by
  obtain ⟨A0, c0, e, h0⟩ := h.out
  injection e with e
  have e' := congrArg Array.toList e
  simp only [List.cons.injEq, Value.slice.injEq, Value.int.injEq, and_true, true_and] at e'
  obtain ⟨rfl, rfl, rfl, rfl⟩ := e'
  exact ⟨rfl, rfl, h0⟩
theorem szF_calls (w : World) (v : Value) (f : Fct) (n : Int) (h0 : 0 ≤ n) (h1 : n ≤ 2000000) (h : RFa w v f) : Calls Tryz.prog 20 #[v, .int .i64 n] w (Sz n f.2.length w) := by
  obtain ⟨A, c, rfl, hr⟩ := h.out
  exact szFact_calls w A c f n h0 h1 hr
theorem toF_calls (w : World) (v : Value) (f : Fct) (h : RFa w v f) (hl : f.2.length ≤ 1048576) : Calls Tryz.prog 22 #[v] w (Got fun v w' => OFa w' w.heap.size v f ∧ On w w') := by
  obtain ⟨A, c, rfl, hr⟩ := h.out
  refine (toFact_calls w A c f hr (by omega)).mono fun e w' hh => ?_
  obtain ⟨v, rfl, v1, rfl, hO, hb⟩ := hh
  exact ⟨_, rfl, ⟨v1, rfl, hO, hr.2.2⟩, hb⟩
theorem eqF_calls (w : World) (v u : Value) (f : Fct) (h : RFa w v f) (k : RFa w u f) : Calls Tryz.prog 24 #[v, u] w fun e w' => e = .returned (.bool true) ∧ On w w' := by
  obtain ⟨A, c, rfl, h0⟩ := h.out
  obtain ⟨B, d, rfl, k0⟩ := k.out
  exact eqFact_calls w A c B d f h0 k0
/-- One fact of one's own whose block lies in a range. -/
structure OFb (w : World) (lo hi : Nat) (v : Value) (f : Fct) : Prop where mk :: (out : ∃ v1, v = .agg #[.int .i64 f.1, v1] ∧ OI w lo v1 f.2 ∧ InR f.2 ∧ ∀ b, v1.ownBlock = some b → b < hi)
theorem OFa.b {w : World} {lo : Nat} {v : Value} {f : Fct} (h : OFa w lo v f) : OFb w lo w.heap.size v f := by
  obtain ⟨v1, e, h0, h1⟩ := h.out
  exact ⟨v1, e, h0, h1, fun b hb => own_lt h0 b hb⟩
theorem OFb.read {w : World} {lo hi : Nat} {v : Value} {f : Fct} (h : OFb w lo hi v f) : RFa w v f := by
  obtain ⟨v1, e, h0, h1, _⟩ := h.out
  obtain ⟨A, c, rfl, h2⟩ := OI.rd h0 h1
  exact ⟨A, c, e, h2⟩
theorem OFb.on {W w : World} {lo hi : Nat} {v : Value} {f : Fct} (h : OFb W lo hi v f) (hb : On W w) : OFb w lo hi v f := by
  obtain ⟨v1, e, h0, h1, h2⟩ := h.out
  exact ⟨v1, e, pw_own_below h0 hb, h1, h2⟩
theorem OFb.ex {S : Nat → Prop} {W w : World} {lo hi : Nat} {v : Value} {f : Fct} (h : OFb W lo hi v f) (k : Ex S W w) (hS : ∀ b, lo ≤ b → b < hi → ¬ S b) : OFb w lo hi v f := by
  obtain ⟨v1, e, h0, h1, h2⟩ := h.out
  exact ⟨v1, e, own_ex h0 k (fun i hi h => hS i (own_base h0 i hi) (h2 i hi) h), h1, h2⟩
theorem mkF_calls (w : World) (lo hi : Nat) (v : Value) (f : Fct) (k0 : Int) (h : OFb w lo hi v f) (h0 : 1 ≤ k0) (h1 : k0 + f.2.length ≤ 10000000) : Calls Tryz.prog 26 #[v, .int .i64 k0] w fun e w' => e = .returned (.int .i64 (k0 + f.2.length)) ∧ Ex (fun b => lo ≤ b ∧ b < hi) w w' := by
  obtain ⟨v1, rfl, hO, hR, hh⟩ := h.out
  refine (markFact_calls w lo v1 f k0 hO (by omega) h1).mono fun e w' hq => ⟨hq.1, hq.2.2.mono fun b hb => ?_⟩
  exact ⟨own_base hO b hb.symm, hh b hb.symm⟩
end Go.Proofs.YtngjhblbpapjeaaGreat.H
/- The rule for regions that draw their order, where reads may come up at any time, behind stores too: what they read is told by a predicate G that holds all along. No condition. -/
namespace Go.Proofs.YtngjhblbpapjeaaGreat.Reg
open Go Go.RowKit
variable {P : Program} {ops : Array Oper} {Q : Exit → Act → World → Prop} {md : Region.Mode}
def wpF (P : Program) (md : Region.Mode) (ops : Array Oper) (Q : Exit → Act → World → Prop) (cl : Nat → Bool) (G : World → Prop) : Nat → Array Bool → Act → (World → Prop) → Prop
  | 0, listed, a, S => (∀ w, S w → G w) ∧ Region.ready md ops listed = [] ∧ ∀ w, S w → Q .normal a w
  | fuel + 1, listed, a, S => (∀ w, S w → G w) ∧
    (Region.ready md ops listed = [] → ∀ w, S w → Q .normal a w) ∧
    ∀ i ∈ Region.ready md ops listed, stepT P ops Q cl (wpF P md ops Q cl G fuel (listed.setIfInBounds i true)) i a S
theorem wpF_G {cl : Nat → Bool} {G : World → Prop} {fuel : Nat} {listed : Array Bool} {a : Act} {S : World → Prop} (h : wpF P md ops Q cl G fuel listed a S) : ∀ w, S w → G w := by
  cases fuel <;> exact h.1
theorem wpAny_of_wpF {cl : Nat → Bool} {G : World → Prop} : ∀ (fuel : Nat) (listed : Array Bool) (a : Act) (S : World → Prop) (w : World), S w → wpF P md ops Q cl G fuel listed a S → wpAny P md ops Q fuel listed a w
  | 0, _, _, _, _, hS, h => ⟨h.2.1, h.2.2 _ hS⟩
  | fuel + 1, _, _, _, _, hS, h => ⟨fun h0 => h.2.1 h0 _ hS, fun i hi => wpOp_of_stepT (fun a S w hS hT => wpAny_of_wpF fuel _ a S w hS hT) hS (h.2.2 i hi)⟩
theorem stepT_putG {cl : Nat → Bool} {G : World → Prop} {j : Nat} {oi oj : Oper} {v : Value} (hQ : Plain Q) (hj : ops[j]? = some oj) (hap : oi.apart ops oj = true)
    (hsi : ∀ cs b, oi.op ≠ .select cs b) (hsj : ∀ cs b, oj.op ≠ .select cs b) {T : Act → (World → Prop) → Prop} {a : Act} {S : World → Prop}
    (hy : Y P ops false G oi v a) (h : stepT P ops Q cl T j (a.put oi.dst v) S) :
    stepT P ops Q cl (fun a' S' => Y P ops false G oi v a' ∧ T (a'.put oi.dst v) S') j a S := by
  obtain ⟨h1, h2, h3⟩ := Oper.apart_spec hap
  have keep : ∀ (a : Act), Y P ops false G oi v a → ∀ u, Y P ops false G oi v (a.put oj.dst u) := fun a hy u =>
    hy.of_same (execOp_put oi hsi a oj.dst u h3) (wanted_put oi a oj.dst u h3)
  unfold stepT nAt at *
  simp only [hj] at h ⊢
  rw [wanted_put oj a oi.dst v h1] at h
  split
  · rename_i hw
    rw [if_pos hw] at h
    rw [execOp_put oj hsj a oi.dst v h1] at h
    rcases h with ⟨u, hu, hn⟩ | ⟨u, hu, hn⟩ | ⟨hi, hu⟩
    · exact .inl ⟨u, hu, keep a hy u, by rw [← Act.put_comm a v u h2]; exact hn⟩
    · exact .inr (.inl ⟨u, hu, keep a hy u, by rw [← Act.put_comm a v u h2]; exact hn⟩)
    · refine .inr (.inr ⟨hi, fun w hS => ?_⟩)
      exact wpOp_mono (fun a' w' ⟨y', S', a1, a2, a3⟩ => ⟨S', a1, a2, Y.of_if y', a3⟩) (wpOp_putIf hj hap hsi hsj (fun c a w h => hQ c a _ _ w h) hy.if (hu w hS))
  · rename_i hw
    rw [if_neg hw] at h
    exact ⟨keep a hy _, by rw [← Act.put_comm a v undef h2]; exact h⟩
theorem wpF_first {cl : Nat → Bool} {G : World → Prop} {i : Nat} {oi : Oper} {v : Value} (hQ : Plain Q) (hi : ops[i]? = some oi) (hsel : ∀ (j : Nat) (o : Oper) cs b, ops[j]? = some o → o.op ≠ .select cs b) :
    ∀ (fuel : Nat) (listed : Array Bool) (a : Act) (S : World → Prop), closed md ops listed →
      (∀ j oj, ops[j]? = some oj → j ≠ i → listed.getD j true = false → reach md ops j i = false → oi.apart ops oj = true) →
      i ∈ Region.ready md ops listed → Y P ops false G oi v a →
      wpF P md ops Q cl G fuel (listed.setIfInBounds i true) (a.put oi.dst v) S → wpF P md ops Q cl G (fuel + 1) listed a S := by
  intro fuel
  induction fuel with
  | zero =>
    intro listed a S _ _ hr hy H
    refine ⟨wpF_G H, fun h => (by rw [h] at hr; cases hr), fun j hj => ?_⟩
    by_cases hji : j = i
    · subst hji; exact (hy.sub (wpF_G H)).step hi H
    · have := ready_mono hj hji
      rw [H.2.1] at this
      cases this
  | succ fuel ih =>
    intro listed a S hclosed hfree hr hy H
    refine ⟨wpF_G H, fun h => (by rw [h] at hr; cases hr), fun j hj => ?_⟩
    by_cases hji : j = i
    · subst hji; exact (hy.sub (wpF_G H)).step hi H
    · have h1 := H.2.2 j (ready_mono hj hji)
      obtain ⟨hjun, oj, hoj, hall⟩ := mem_ready.1 hj
      have hif : listed.getD i false = false := by
        have h0 := (mem_ready.1 hr).1
        rcases Nat.lt_or_ge i listed.size with h' | h'
        · simp [h'] at h0 ⊢; exact h0
        · simp [Array.getElem?_eq_none h']
      have hnot : reach md ops j i = false := by
        cases hc : reach md ops j i with
        | false => rfl
        | true =>
          have := closed.reach hclosed hoj hall hc
          rw [hif] at this
          cases this
      have h2 := stepT_putG hQ hoj (hfree j oj hoj hji hjun hnot) (fun cs b => hsel i oi cs b hi) (fun cs b => hsel j oj cs b hoj) hy h1
      have hfree' : ∀ k ok, ops[k]? = some ok → k ≠ i → (listed.setIfInBounds j true).getD k true = false →
          reach md ops k i = false → oi.apart ops ok = true := fun k ok hk hki hun hno => by
        refine hfree k ok hk hki ?_ hno
        by_cases hjk : j = k
        · subst hjk; exact hjun
        · rw [getD_set_ne true hjk] at hun; exact hun
      refine stepT_mono (fun a' S' h3 => ih (listed.setIfInBounds j true) a' S' (hclosed.set hj) hfree' (ready_mono hr (Ne.symm hji)) h3.1 ?_) h2
      rw [Array.setIfInBounds_comm _ _ hji]
      exact h3.2
/-- What stands in line behind the reads: G holds all along. -/
def tailF (P : Program) (ops : Array Oper) (Q : Exit → Act → World → Prop) (G : World → Prop) : List Nat → Act → World → Prop
  | [], a, w => Q .normal a w
  | i :: l, a, w => match ops[i]? with
    | none => False
    | some o => wpOp P ops Q i (fun a' w' => G w' ∧ tailF P ops Q G l a' w') a w
theorem wpF_of_tail {cl : Nat → Bool} {G : World → Prop} : ∀ (l : List Nat) (listed : Array Bool) (a : Act) (S : World → Prop), (∀ i ∈ l, cl i = true) → chkTail md ops l listed = true → (∀ w, S w → G w) → (∀ w, S w → tailF P ops Q G l a w) → wpF P md ops Q cl G l.length listed a S
  | [], listed, a, S, _, hc, hG, h => ⟨hG, by simpa [chkTail] using hc, h⟩
  | i :: l, listed, a, S, hcl, hc, hG, h => by
    simp only [chkTail, Bool.and_eq_true, beq_iff_eq] at hc
    obtain ⟨⟨hr, hbusy⟩, hl⟩ := hc
    cases hi : ops[i]? with
    | none => simp [hi] at hbusy
    | some o =>
      rw [List.length_cons]
      refine ⟨hG, fun h0 => (by rw [hr] at h0; cases h0), fun j hj => ?_⟩
      rw [hr] at hj
      obtain rfl := List.mem_singleton.1 hj
      have ih := fun (a : Act) (S : World → Prop) (hG : ∀ w, S w → G w) (h : ∀ w, S w → tailF P ops Q G l a w) => wpF_of_tail (cl := cl) l (listed.setIfInBounds j true) a S (fun k hk => hcl k (List.mem_cons_of_mem _ hk)) hl hG h
      have hlist : ∀ w, S w → wpOp P ops Q j (fun a' w' => G w' ∧ tailF P ops Q G l a' w') a w := fun w hS => by
        have h1 := h w hS
        simp only [tailF, hi] at h1
        exact h1
      unfold stepT
      simp only [hi]
      split
      · exact .inr (.inr ⟨.inr (hcl j List.mem_cons_self), fun w hS => wpOp_mono (fun a' w' hh => ⟨fun w => w = w', rfl, fun h0 => (by rw [hcl j List.mem_cons_self] at h0; cases h0), ih a' _ (fun w e => by subst e; exact hh.1) (fun w e => by subst e; exact hh.2)⟩) (hlist w hS)⟩)
      · rename_i hw
        refine ih _ _ (fun w hS => ?_) fun w hS => ?_
        · have h1 := hlist w hS
          unfold wpOp at h1
          simp only [hi] at h1
          rw [if_neg hw] at h1
          exact h1.1
        · have h1 := hlist w hS
          unfold wpOp at h1
          simp only [hi] at h1
          rw [if_neg hw] at h1
          exact h1.2
def chkF (md : Region.Mode) (ops : Array Oper) (tail : List Nat) : List Nat → Array Bool → Bool
  | [], listed => chkTail md ops tail listed
  | i :: l, listed => (Region.ready md ops listed).contains i && freeC md ops false listed i && chkF md ops tail l (listed.setIfInBounds i true)
def wpOrdF (P : Program) (ops : Array Oper) (Q : Exit → Act → World → Prop) (G : World → Prop) (tail : List Nat) (W : World) : List Nat → Act → Prop
  | [], a => tailF P ops Q G tail a W
  | i :: l, a => match ops[i]? with
    | none => False
    | some o =>
      if Region.wanted o (yielded ops a.tmps) then ∃ v, (∀ w, G w → (execOp a.eval o).run P w = .ok (.value v) w) ∧ wpOrdF P ops Q G tail W l (a.put o.dst v)
      else wpOrdF P ops Q G tail W l (a.put o.dst undef)
theorem wpF_of_ord {G : World → Prop} {W : World} (hs : Region.noSelect ops = true) (hQ : Plain Q) (hG : G W) (tail : List Nat) : ∀ (l : List Nat) (listed : Array Bool) (a : Act), closed md ops listed → chkF md ops tail l listed = true → wpOrdF P ops Q G tail W l a → wpF P md ops Q (fun j => tail.contains j) G (l.length + tail.length) listed a (fun w => w = W)
  | [], listed, a, _, hc, h => by
    rw [List.length_nil, Nat.zero_add]
    exact wpF_of_tail tail listed a _ (fun i hi => by simpa using hi) hc (fun w e => by subst e; exact hG) (fun w e => by subst e; exact h)
  | i :: l, listed, a, hclosed, hc, h => by
    simp only [chkF, Bool.and_eq_true] at hc
    obtain ⟨⟨hr, hf⟩, hl⟩ := hc
    simp only [wpOrdF] at h
    cases hi : ops[i]? with
    | none => simp only [hi] at h
    | some o =>
      simp only [hi] at h
      have hri : i ∈ Region.ready md ops listed := by simpa using hr
      have ih := fun a h => wpF_of_ord hs hQ hG tail l (listed.setIfInBounds i true) a (hclosed.set hri) hl h
      have sel := Region.noSelect_spec hs
      have hlen : ((i :: l).length + tail.length) = (l.length + tail.length) + 1 := by rw [List.length_cons]; omega
      rw [hlen]
      by_cases hw : Region.wanted o (yielded ops a.tmps) = true
      · rw [if_pos hw] at h
        obtain ⟨v, h1, h2⟩ := h
        exact wpF_first hQ hi sel _ listed a _ hclosed (fun j oj hj hne hun hno => (freeC_spec hi hf j oj hj hne hun hno).1) hri (.inl ⟨hw, fun w hS => by simpa using h1 w hS⟩) (ih _ h2)
      · rw [if_neg hw] at h
        exact wpF_first hQ hi sel _ listed a _ hclosed (fun j oj hj hne hun hno => (freeC_spec hi hf j oj hj hne hun hno).1) hri (.inr ⟨by simpa using hw, rfl⟩) (ih _ h)
structure OrdF (P : Program) (ops : Array Oper) (Q : Exit → Act → World → Prop) (G : World → Prop) (tail : List Nat) (W : World) (l : List Nat) (a : Act) : Prop where mk :: (out : wpOrdF P ops Q G tail W l a)
structure TailF (P : Program) (ops : Array Oper) (Q : Exit → Act → World → Prop) (G : World → Prop) (l : List Nat) (a : Act) (w : World) : Prop where mk :: (out : tailF P ops Q G l a w)
theorem regionF {id : Nat} {a : Act} {w : World} (G : World → Prop) (l tail : List Nat) (hm : P.follows .mixedOrders = true) (hc : (Region.noSelect ops && (l.length + tail.length == ops.size) && chkF .any ops tail l (Array.replicate ops.size false)) = true)
    (hG : G { w with drawn := w.drawn + 1 }) (h : OrdF P ops Q G tail { w with drawn := w.drawn + 1 } l a) (hQ : Plain Q := by exact fun c a d v w h => by cases d <;> exact h) : (Code.region id ops true).wp P Q a w := by
  simp only [Bool.and_eq_true, beq_iff_eq] at hc
  refine wp_region_any hm (wpAny_of_wpF (cl := fun j => tail.contains j) (G := G) _ _ _ (fun w' => w' = { w with drawn := w.drawn + 1 }) _ rfl ?_)
  rw [← hc.1.2]
  exact wpF_of_ord hc.1.1 hQ hG tail l _ a (closed.start _) (by rw [hc.1.2]; exact hc.2) h.out
section
variable {G : World → Prop} {i : Nat} {tail l : List Nat} {a a' : Act} {W : World} {o : Oper} {N : Tmp}
theorem stepF {v : Value} (hy : ∀ w, G w → (execOp a.eval o).run P w = .ok (.value v) w) (h : OrdF P ops Q G tail W l (a.put (some N) v)) (hi : ops[i]? = some o) (hN : o.dst = some N)
    (hw : Region.wanted o (yielded ops a.tmps) = true) : OrdF P ops Q G tail W (i :: l) a := by
  refine ⟨?_⟩
  simp only [wpOrdF, hi]
  rw [if_pos hw]
  exact ⟨v, hy, hN ▸ h.out⟩
theorem startF (h : TailF P ops Q G tail a W) : OrdF P ops Q G tail W [] a := ⟨h.out⟩
/-- A read, an address, whatever G tells. -/
theorem sF {v : Value} (h : OrdF P ops Q G tail W l a') (hi : ops[i]? = some o := by rfl) (hN : o.dst = some N := by rfl) (hw : Region.wanted o (yielded ops a.tmps) = true := by rfl)
    (hy : ∀ w, G w → (execOp a.eval o).run P w = .ok (.value v) w := by intro w' hS; (first | (have hA := blk_cell hS; clear hS; go_simp; first | done | rfl) | (clear hS; go_simp; first | done | rfl)))
    (ha : a.put (some N) v = a' := by simp only [Act.put, List.setIfInBounds_toArray, List.set_cons_zero, List.set_cons_succ]; rfl) : OrdF P ops Q G tail W (i :: l) a := stepF hy (ha ▸ h) hi hN hw
theorem tF {w : World} (h : wpList P ops (Exit.then (fun a' w' => G w' ∧ TailF P ops Q G l a' w') Q) [o] a w) (hi : ops[i]? = some o := by rfl) : TailF P ops Q G (i :: l) a w := by
  refine ⟨?_⟩
  simp only [tailF, hi]
  refine wpOp_mono (fun a' w' hh => ⟨hh.1, hh.2.out⟩) (wpOp_of_one hi h)
theorem endF {w : World} (h : Q .normal a w) : TailF P ops Q G [] a w := ⟨h⟩
end
end Go.Proofs.YtngjhblbpapjeaaGreat.Reg
/- Walks: the reference puts a fact into an instance. No condition. -/
namespace Go.Proofs.YtngjhblbpapjeaaGreat.H
open Go Go.RowKit Go.Proofs.YtngjhblbpapjeaaGreatW.PrintWords Go.Proofs.YtngjhblbpapjeaaGreatW.PrintLast
open Go.Proofs.YtngjhblbpapjeaaGreat.Reg (On on_draw)
set_option maxHeartbeats 4000000
set_option maxRecDepth 100000
set_option linter.unusedVariables false
set_option linter.unusedSimpArgs false

section
variable {ops : Array Oper} {Q : Exit → Act → World → Prop} {G : World → Prop} {i : Nat} {tail l : List Nat} {a : Act} {W : World} {o : Oper} {N : Tmp}
theorem sToF {x y : Operand} {A : Option Addr} {n c k : Nat} (hk : k ≤ n) (hc : n ≤ c) (h : Reg.OrdF Tryz.prog ops Q G tail W l (a.put (some N) (.slice A k c))) (hi : ops[i]? = some o := by rfl) (hN : o.dst = some N := by rfl) (hw : Region.wanted o (yielded ops a.tmps) = true := by rfl)
    (hop : o.op = .slice 25 x none (some y) none := by rfl) (hx : a.eval x = .slice A n c := by rfl) (hy : a.eval y = .int .i64 (k : Int) := by rfl) : Reg.OrdF Tryz.prog ops Q G tail W (i :: l) a := by
  obtain ⟨i0, hi0, _, hsz, _⟩ := info_parts infoF
  have hcut := cut_to (P := Tryz.prog) 25 30 .i64 Tryz.underlying25 hi0 A n c (k : Int) (by omega) (by omega) hc
  refine Reg.stepF (v := .slice A k c) (fun w _ => ?_) h hi hN hw
  unfold execOp
  simp only [hop, hx, hy, Option.map_some, Option.map_none]
  have := hcut w
  simp only [Int.toNat_natCast] at this
  go_simp
end
/-- An instance that is read, whatever happens to the blocks S. -/
structure RS (S : Nat → Prop) (w : World) (v : Value) (rs : List Rel) (fs : List Fct) : Prop where mk :: (out : ∃ A0 c0 A1 c1 hs, v = .agg #[.slice A0 rs.length c0, .slice A1 fs.length c1] ∧ ∀ w', Ex S w w' → Rels w' A0 c0 rs ∧ RH w' A1 c1 hs ∧ Reads w' hs fs)
theorem RS.ex {S : Nat → Prop} {W w : World} {v : Value} {rs : List Rel} {fs : List Fct} (h : RS S W v rs fs) (k : Ex S W w) : RS S w v rs fs := by
  obtain ⟨A0, c0, A1, c1, hs, e, h⟩ := h.out
  exact ⟨A0, c0, A1, c1, hs, e, fun w' h' => h w' (k.trans h' fun _ _ h => h)⟩
theorem RS.on {S : Nat → Prop} {W w : World} {v : Value} {rs : List Rel} {fs : List Fct} (h : RS S W v rs fs) (k : On W w) : RS S w v rs fs := h.ex (Ex.of_on k)
theorem RS.read {S : Nat → Prop} {w : World} {v : Value} {rs : List Rel} {fs : List Fct} (h : RS S w v rs fs) : RIn w v rs fs := by
  obtain ⟨A0, c0, A1, c1, hs, e, h⟩ := h.out
  obtain ⟨h1, h2, h3⟩ := h w (Ex.refl _ _)
  exact ⟨A0, c0, A1, c1, e, h1, h2.fcts h3⟩
theorem Ex.none {W w : World} (h : Ex (fun _ => False) W w) : On W w := h.to_on fun _ h => h.elim
theorem RIn.rs {w : World} {v : Value} {rs : List Rel} {fs : List Fct} (h : RIn w v rs fs) : RS (fun _ => False) w v rs fs := by
  obtain ⟨A0, c0, A1, c1, e, h0, h1⟩ := h.out
  obtain ⟨hs, h2, h3⟩ := h1.hdrs
  exact ⟨A0, c0, A1, c1, hs, e, fun w' k => ⟨h0.on k.none, h2.on k.none, h3.on k.none⟩⟩
theorem OIn.rs {S : Nat → Prop} {w : World} {lo : Nat} {v : Value} {rs : List Rel} {fs : List Fct} (h : OIn w lo v rs fs) (hS : ∀ b, S b → b < lo) : RS S w v rs fs := by
  obtain ⟨vr, vf, hs, rfl, h0, h1, h2⟩ := h.out
  obtain ⟨A0, c0, rfl, _⟩ := OR.rd h0
  obtain ⟨A1, c1, rfl⟩ := own_slice h1
  refine ⟨A0, c0, A1, c1, hs, by rw [h2.len], fun w' k => ?_⟩
  have h3 := own_ex h0 k (fun i hi e => by have := own_base h0 i hi; have := hS i e; omega)
  have h4 := own_ex h1 k (fun i hi e => by have := own_base h1 i hi; have := hS i e; omega)
  have h5 := h2.ex k (fun i a b ha hb e => by have := (h2.lt ha hb).1; have := hS b e; omega)
  obtain ⟨A', c', e, h6⟩ := OR.rd h3
  injection e with e1 e2 e3
  subst e1 e3
  exact ⟨h6, (OH.rh h4).2, h5.reads⟩
theorem l5PutS_calls (S : Nat → Prop) (w : World) (A0 c0 A1 c1) (hs : List Hdr) (rs : List Rel) (fs : List Fct) (hA0 : ∀ w', Ex S w w' → Rels w' A0 c0 rs ∧ RH w' A1 c1 hs ∧ Reads w' hs fs) (hSb : ∀ b, S b → b < w.heap.size) (A2 c2) (f : Fct) (h2 : Ints w A2 c2 f.2) (hl : fs.length ≤ 2000000) (hl2 : f.2.length ≤ 2000000) (ha : Asc fs) :
    Calls Tryz.prog 41 #[.agg #[.slice A0 rs.length c0, .slice A1 fs.length c1], .agg #[.int .i64 f.1, .slice A2 f.2.length c2]] w (Got fun v w' => RS S w' v rs (putF fs f) ∧ On w w') := by
  obtain ⟨h0, hRH0, hRd0⟩ := hA0 w (Ex.refl _ _)
  have h1 := hRH0.fcts hRd0
  have hA := Aside0.mk hA0
  have hSb' := Aside0.mk hSb
  have hRH0' := Aside0.mk hRH0
  have hRd0' := Aside0.mk hRd0
  clear hA0 hSb hRH0 hRd0
  have hb := Aside0.mk (On.alloc (On.alloc (On.alloc (On.refl w) (.cells #[.slice A0 rs.length c0, .slice A1 fs.length c1] 27)) (.cells #[.int .i64 f.1, .slice A2 f.2.length c2] 30)) (.cells #[.slice none 0 0, .slice none 0 0] 27))
  have hL := Aside0.mk (loc3 w #[.slice A0 rs.length c0, .slice A1 fs.length c1] #[.int .i64 f.1, .slice A2 f.2.length c2] #[.slice none 0 0, .slice none 0 0] 27 30 27)
  have hmx := h1.max
  have hl' := Aside0.mk (show fs.length ≤ 2000000 ∧ f.2.length ≤ 2000000 from ⟨hl, hl2⟩)
  clear hl hl2
  by_cases hf : f ∈ fs
  · have hput := Aside0.mk (putF_has fs f ha hf)
    rcases place_spec fs f with ⟨_, hn⟩ | ⟨k, hk, hpl, _, _⟩
    · exact absurd hf hn
    have hk' := Aside0.mk hk
    clear hf ha
    go_enter Tryz.func41, Tryz.ntmps41
    go_wp2_with (go_at_call 53; refine (l5Place_calls _ A0 rs.length c0 A1 c1 A2 c2 fs f (h1.on hb.out) (h2.on hb.out)).mono ?_; rintro e w1 ⟨rfl, hb1⟩; rw [hpl]; have hL1 := Aside0.mk (Loc.on hb1 hL.out); have hc0 := blk_cell hL1.out.1; have hcr : ∀ i, w1.cell? ⟨w.heap.size + 1 + 1, i, none⟩ = _ := blk_cell hL1.out.2.2.1; have hfr : ∀ i, w1.frozen? ⟨w.heap.size + 1 + 1, i, none⟩ = _ := blk_frozen hL1.out.2.2.1)
    refine bodyPost_ret (retI rfl rfl (g := w.heap.size + 2) (blk_set (blk_set hL1.out.2.2.1 0 _) 1 _) rfl) rfl ?_
    have hBe := Reg.On.set (p := ⟨w.heap.size + 1 + 1, 1, none⟩) (Reg.On.set (p := ⟨w.heap.size + 1 + 1, 0, none⟩) (hb.out.trans hb1) (by simp; omega) (.slice A0 rs.length c0)) (by simp; omega) (.slice A1 fs.length c1)
    exact ⟨_, rfl, ⟨A0, c0, A1, c1, hs, by rw [hput.out]; rfl, fun w' k => by rw [hput.out]; exact hA.out w' ((Ex.of_on hBe).trans k fun _ _ h => h)⟩, hBe⟩
  · have hf' := Aside0.mk hf
    have ha' := Aside0.mk ha
    have hpl : place fs f = -1 := by
      rcases place_spec fs f with ⟨e, _⟩ | ⟨k, hk, _, e, _⟩
      · exact e
      · exact absurd (e ▸ List.getElem_mem hk) hf
    clear hf ha
    go_enter Tryz.func41, Tryz.ntmps41
    go_wp2_with (go_at_call 53; refine (l5Place_calls _ A0 rs.length c0 A1 c1 A2 c2 fs f (h1.on hb.out) (h2.on hb.out)).mono ?_; rintro e w1 ⟨rfl, hb1⟩; rw [hpl])
    have hW1 := Aside0.mk (hb.out.trans hb1)
    have hL1 := Aside0.mk (Loc.on hb1 hL.out)
    clear hpl hb1 hb hL
    go_loopw [5] (fun v5 wr => ∃ (k : Nat), v5 = .int .i64 k ∧ k ≤ fs.length ∧ Aside0 (∀ j, (h : j < k) → (hj : j < fs.length) → cmpF fs[j] f < 0) ∧ Aside0 (On w1 wr)) (fun v5 _ => fs.length - (intOf v5).toNat)
    case atStart => exact ⟨0, rfl, Nat.zero_le _, ⟨fun j h => by omega⟩, ⟨On.refl _⟩⟩
    case round =>
      obtain ⟨k, rfl, hk, hall, hB⟩ := hrel
      have hBw := Aside0.mk (hW1.out.trans hB.out)
      have hLr := Aside0.mk (Loc.on hB.out hL1.out)
      have hd0 := blk_cell hLr.out.1
      have hd1 := blk_cell hLr.out.2.1
      by_cases hlt : k < fs.length
      · obtain ⟨ad, A3, c3, hA1, x0, x1, x2⟩ := (h1.on hBw.out).at k hlt
        have hA1' := Aside0.mk hA1
        rw [hA1] at hd0
        clear hA1
        have x2' := Aside0.mk x2
        clear x2
        by_cases hc : cmpF fs[k] f < 0
        · have hc' := Aside0.mk hc
          have hcb : decide (cmpF fs[k] f < 0) = true := decide_eq_true hc
          clear hc
          go_wp2
          refine Reg.region [(0,.L),(1,.L),(2,.L),(3,.L),(4,.L),(5,.L),(6,.L),(7,.L),(8,.L),(9,.L),(10,.L),(11,.L),(12,.C),(13,.L),(14,.L)] [] (by kernel_rfl) (by kernel_rfl) ?_
          repeat first | refine sP ?_ | refine sS ?_ | refine sA ?_ | refine sL ?_ | refine sQ ?_ | refine sO ?_
          refine callC (.int .i64 (cmpF fs[k] f)) Tryz.func13 (fun w' hS => ?_) ?_
          focus exact CompareFacts_calls w' _ _ _ _ fs[k] f (x2'.out.on hS) (h2.on (hBw.out.trans hS))
          repeat first | refine sP ?_ | refine sS ?_ | refine sA ?_ | refine sL ?_ | refine sQ ?_ | refine sO ?_
          refine Reg.nil fun w2 hS => ?_
          clear x0 x1 hd0 hd1
          go_wp2
          exact ⟨⟨k + 1, by go_num, by omega, ⟨fun j hj hjf => by
            by_cases e : j = k
            · subst e; exact hc'.out
            · exact hall.out j (by omega) hjf⟩, ⟨hB.out.trans hS⟩⟩, by simp [intOf]; omega⟩
        · have hcn := Aside0.mk (show ∀ h : k < fs.length, ¬ cmpF fs[k] f < 0 from fun _ => hc)
          have hcb : decide (cmpF fs[k] f < 0) = false := decide_eq_false hc
          clear hc
          go_wp2
          refine Reg.region [(0,.L),(1,.L),(2,.L),(3,.L),(4,.L),(5,.L),(6,.L),(7,.L),(8,.L),(9,.L),(10,.L),(11,.L),(12,.C),(13,.L),(14,.L)] [] (by kernel_rfl) (by kernel_rfl) ?_
          repeat first | refine sP ?_ | refine sS ?_ | refine sA ?_ | refine sL ?_ | refine sQ ?_ | refine sO ?_
          refine callC (.int .i64 (cmpF fs[k] f)) Tryz.func13 (fun w' hS => ?_) ?_
          focus exact CompareFacts_calls w' _ _ _ _ fs[k] f (x2'.out.on hS) (h2.on (hBw.out.trans hS))
          repeat first | refine sP ?_ | refine sS ?_ | refine sA ?_ | refine sL ?_ | refine sQ ?_ | refine sO ?_
          refine Reg.nil fun w2 hS2 => ?_
          clear x0 x1 hd0 hd1 hcb
          have hB2 := Aside0.mk (hBw.out.trans hS2)
          have hL2 := Aside0.mk (Loc.on hS2 hLr.out)
          have hd0 := blk_cell hL2.out.1
          have hd1 := blk_cell hL2.out.2.1
          have hRd := hRd0'.out
          have hRH := hRH0'.out.on hB2.out
          have hlen := Aside0.mk hRd.len
          have hRH' := Aside0.mk hRH
          have hRd' := Aside0.mk hRd
          have hcap := hRH.cap
          clear hRH hRd
          have hkl := Aside0.mk (show k ≤ hs.length by rw [hlen.out]; exact hk)
          go_wp2
          refine Reg.region [(0,.L),(3,.L),(4,.L),(5,.L),(6,.L),(1,.N),(2,.N)] [7,8] (by kernel_rfl) (by kernel_rfl) ?_
          iterate 4 (first | refine sL ?_ | refine sQ ?_)
          obtain ⟨xs, hxs⟩ : ∃ xs, hs.take k = xs := ⟨_, rfl⟩
          obtain ⟨ys, hys⟩ : ∃ ys, hs.drop k = ys := ⟨_, rfl⟩
          obtain ⟨Ad, hAd⟩ : ∃ Ad, (if c1 = k then A1 else (A1).map (·.add (k * 2))) = Ad := ⟨_, rfl⟩
          obtain ⟨cd, hcd⟩ : ∃ cd, c1 - k = cd := ⟨_, rfl⟩
          refine sFrom (k := k) (m := ys.length) hAd (by rw [← hys, List.length_drop, hlen.out]) hcd hk (by rw [← hlen.out]; exact hcap) ?_
          have hRx := Aside0.mk (hxs ▸ hRH'.out.take k hkl.out)
          have hRy := Aside0.mk (show RH w2 Ad cd ys from hAd ▸ hcd ▸ hys ▸ hRH'.out.drop k hkl.out)
          have hxl := Aside0.mk (show xs.length = k by rw [← hxs, List.length_take]; have := hkl.out; omega)
          have hyl := Aside0.mk (show ys.length ≤ 2000000 by rw [← hys, List.length_drop]; have := hl'.out.1; have := hlen.out; omega)
          have hxs' := Aside0.mk hxs
          have hys' := Aside0.mk hys
          clear hxs hys hAd hcd
          simp only [Act.put, List.setIfInBounds_toArray, List.set_cons_zero, List.set_cons_succ]
          refine callN Tryz.func84 (fun w3 hS3 => ?_)
          refine (l5Fact_calls w3 A2 c2 f (h2.on (hB2.out.trans hS3)) hl'.out.2).mono ?_
          rintro e w4 ⟨v4, rfl, vf, rfl, hOf, hb4⟩
          obtain ⟨A4, c4, rfl⟩ := own_slice hOf
          have hOf' := Aside0.mk hOf
          have hB4 := Aside0.mk (hS3.trans hb4)
          clear hOf hd0 hd1
          refine ⟨_, rfl, hb4, fun a' ha' => ?_⟩
          simp only [Act.put, List.setIfInBounds_toArray, List.set_cons_zero, List.set_cons_succ] at ha'
          subst ha'
          refine stepM (fun w5 hS5 => ?_)
          go_wp2
          refine ⟨hS5.trans (On.alloc (On.refl _) _), ?_⟩
          refine Reg.tail_ fun w6 hS6 => ?_
          have hB6 := Aside0.mk ((hS5.trans (On.alloc (On.refl _) (.cells #[.int .i64 f.1, .slice A4 f.2.length c4] 30))).trans hS6)
          obtain ⟨z7, hz7⟩ : ∃ z7, [((f.1, A4, f.2.length, c4) : Hdr)] ++ ys = z7 := ⟨_, rfl⟩
          refine apHf 36 hz7 (pw_own_below (lit_own w5 #[.int .i64 f.1, .slice A4 f.2.length c4] 30 2 1 w5.heap.size (Nat.le_refl _) (by omega) rfl) hS6) rfl (hRy.out.on (hB4.out.trans hB6.out)) (Nat.le_trans (by simp) hS6.size) (by have := hyl.out; omega) fun v7 w7 hO7 hb7 => ?_
          obtain ⟨A7, c7, rfl⟩ := own_slice hO7
          have hz7' := Aside0.mk hz7
          have hz7l := Aside0.mk (show z7.length ≤ 2000001 by rw [← hz7, List.length_append]; have := hyl.out; simp; omega)
          have hRz := Aside0.mk (OH.rh hO7).2
          have hB7 := Aside0.mk (hB6.out.trans hb7)
          have hB47 := Aside0.mk (hB4.out.trans hB7.out)
          have hL7 := Aside0.mk (Loc.on hB47.out hL2.out)
          have hd0 := blk_cell hL7.out.1
          clear hz7 hO7
          go_wp2
          refine Reg.regionF (fun w' => w'.heap[w.heap.size]? = some (.cells #[.slice A0 rs.length c0, .slice A1 fs.length c1] 27 (0, 0))) [0,1,3,4,5,6,8] [2,7,9,10,11] (by kernel_rfl) (by kernel_rfl) hL7.out.1 ?_
          iterate 5 refine Reg.sF ?_
          refine sToF (k := k) (A := A1) (n := fs.length) (c := c1) hk (by have := hcap; have := hlen.out; omega) ?_
          simp only [Act.put, List.setIfInBounds_toArray, List.set_cons_zero, List.set_cons_succ]
          repeat refine Reg.sF ?_
          refine Reg.startF ?_
          obtain ⟨w8, hw8⟩ : ∃ w8, ({ w7 with drawn := w7.drawn + 1 } : World) = w8 := ⟨_, rfl⟩
          have hS8 : On w7 w8 := by rw [← hw8]; exact on_draw w7
          rw [hw8]
          clear hw8
          refine Reg.tF ?_
          go_wp2
          refine ⟨blk_below hL7.out.1 (hS8.trans (On.alloc (On.refl _) _)), ?_⟩
          refine Reg.tF ?_
          have hB79 := Aside0.mk (hS8.trans (On.alloc (On.refl w8) (.cells #[] 30)))
          refine apHf 44 (List.nil_append xs) (lit_own w8 #[] 30 2 0 w8.heap.size (Nat.le_refl _) (by omega) rfl) rfl (hRx.out.on (hB47.out.trans hB79.out)) (by simp) (by have := hxl.out; have := hl'.out.1; omega) (fun v10 w10 hO10 hb10 => ?_) (hx := by rw [hxl.out]; rfl)
          have hB11 := Aside0.mk (hB79.out.trans hb10)
          refine ⟨blk_below hL7.out.1 hB11.out, ?_⟩
          obtain ⟨A10, c10, rfl⟩ := own_slice hO10
          simp only [Act.put, List.setIfInBounds_toArray, List.set_cons_zero, List.set_cons_succ]
          refine Reg.tF ?_
          have hO11 := Aside0.mk hO10
          obtain ⟨zs, hzs⟩ : ∃ zs, xs ++ z7 = zs := ⟨_, rfl⟩
          refine apH 46 hzs hO11.out (hRz.out.on hB11.out) (Nat.le_trans (by simp) hb10.size) (by have := hxl.out; have := hl'.out.1; have := hz7l.out; omega) fun v12 w12 hO12 hg12 => ?_
          obtain ⟨A12, c12, rfl⟩ := own_slice hO12
          have hw8 := hS8.size
          have hB12 := Aside0.mk (own_grows hB11.out hO11.out hg12 hw8)
          have hL12 := Aside0.mk (Loc.on hB12.out hL7.out)
          refine ⟨hL12.out.1, ?_⟩
          have hcr : ∀ i, w12.cell? ⟨w.heap.size + 1 + 1, i, none⟩ = _ := blk_cell hL12.out.2.2.1
          have hfr : ∀ i, w12.frozen? ⟨w.heap.size + 1 + 1, i, none⟩ = _ := blk_frozen hL12.out.2.2.1
          have hzs' := Aside0.mk hzs
          have hO12' := Aside0.mk hO12
          clear hzs hO12 hg12 hd0
          simp only [Act.put, List.setIfInBounds_toArray, List.set_cons_zero, List.set_cons_succ]
          refine Reg.tF ?_
          go_wp2
          refine ⟨hL12.out.1, ?_⟩
          refine Reg.tF ?_
          go_wp2
          refine ⟨blk_far (blk_far hL12.out.1 (by show ¬ _; simp; try omega) _) (by show ¬ _; simp; try omega) _, ?_⟩
          refine Reg.endF ?_
          go_wp2
          refine bodyPost_ret (retI rfl rfl (g := w.heap.size + 2) (blk_set (blk_set hL12.out.2.2.1 0 _) 1 _) rfl) rfl ?_
          have hBz := (hB2.out.trans hB47.out).trans hB12.out
          have hlt2 := hBw.out.size
          have hBe := Reg.On.set (p := ⟨w.heap.size + 1 + 1, 1, none⟩) (Reg.On.set (p := ⟨w.heap.size + 1 + 1, 0, none⟩) hBz (by simp; omega) (.slice A0 rs.length c0)) (by simp; omega) (.slice A12 zs.length c12)
          have hput := putF_at fs f k hk (fun j hj => hall.out j hj (by omega)) (fun h => Int.not_lt.2 (hcn.out h)) hf'.out
          have hpe : On w4 w12 := hB7.out.trans hB12.out
          have hw4 : w.heap.size + 3 ≤ w4.heap.size := by
            have h1 := blk_lt hL1.out.2.2.1
            have h2 := (hB.out.trans (hS2.trans hB4.out)).size
            omega
          have hE : Ex (fun b => b = w.heap.size + 1 + 1) w12 ((w12.setCell ⟨w.heap.size + 1 + 1, 0, none⟩ (.slice A0 rs.length c0)).setCell ⟨w.heap.size + 1 + 1, 1, none⟩ (.slice A12 zs.length c12)) := (Ex.set w12 ⟨w.heap.size + 1 + 1, 0, none⟩ _).trans (Ex.set _ ⟨w.heap.size + 1 + 1, 1, none⟩ _) (fun i _ h => h)
          have hOe := own_ex hO12'.out hE (fun i hi e => by have := own_base hO12'.out i hi; have := (hS8.size); have := hB47.out.size; have := hlt2; have := hS2.size; have := blk_lt hL1.out.2.2.1; have := hB.out.size; omega)
          have hIe := OI.of (OI.to (own_ex (pw_own_below (show OI w4 (w.heap.size + 3) (.slice A4 f.2.length c4) f.2 from own_lower hOf'.out (by have h1 := blk_lt hL1.out.2.2.1; have h2 := (hB.out.trans (hS2.trans hS3)).size; omega)) hpe) hE (fun i hi e => by have := own_base hOf'.out i hi; have h1 := blk_lt hL1.out.2.2.1; have h2 := (hB.out.trans (hS2.trans hS3)).size; omega)))
          have e1 : zs = hs.take k ++ ([((f.1, A4, f.2.length, c4) : Hdr)] ++ hs.drop k) := by rw [hxs'.out, hys'.out, hz7'.out, hzs'.out]
          have hlz : zs.length = (putF fs f).length := by
            rw [hput, e1]
            have := hlen.out
            simp [this]
          refine ⟨_, rfl, ⟨A0, c0, A12, c12, zs, by rw [← hlz]; rfl, fun w' kE => ?_⟩, hBe⟩
          obtain ⟨r0, r1, r2⟩ := hA.out w' ((Ex.of_on hBe).trans kE fun _ _ h => h)
          have hnew : ∀ i, w.heap.size ≤ i → ¬ S i := fun i hi hs => by have := hSb'.out i hs; omega
          obtain ⟨A4', c4', e4, hI5⟩ := OI.rd (own_ex hIe kE (fun i hi => hnew i (by have := own_base hIe i hi; omega))) h2.2.2
          injection e4 with e41 e42 e43
          subst e41 e43
          have hOw := own_ex hOe kE (fun i hi => hnew i (by have := own_base hOe i hi; have := hS8.size; have := hB47.out.size; have := hlt2; have := hS2.size; omega))
          refine ⟨r0, (OH.rh hOw).2, ?_⟩
          rw [hput, e1]
          exact (r2.take k).append (((Reads.nil _).snoc (a := (f.1, A4, f.2.length, c4)) (f := f) rfl rfl hI5).append (r2.drop k))
      · have hcn := Aside0.mk (show ∀ h : k < fs.length, ¬ cmpF fs[k] f < 0 from fun h => absurd h hlt)
        go_wp2
        refine Reg.region [(0,.L),(1,.L),(2,.L),(3,.L),(4,.L),(5,.L),(6,.L),(7,.L),(8,.L),(9,.L),(10,.L),(11,.L),(12,.C),(13,.L),(14,.L)] [] (by kernel_rfl) (by kernel_rfl) ?_
        repeat first | refine sP ?_ | refine sS ?_ | refine sA ?_ | refine sL ?_ | refine sQ ?_ | refine sO ?_
        refine Reg.nil fun w2 hS2 => ?_
        clear hd0 hd1
        have hB2 := Aside0.mk (hBw.out.trans hS2)
        have hL2 := Aside0.mk (Loc.on hS2 hLr.out)
        have hd0 := blk_cell hL2.out.1
        have hd1 := blk_cell hL2.out.2.1
        have hRd := hRd0'.out
        have hRH := hRH0'.out.on hB2.out
        have hlen := Aside0.mk hRd.len
        have hRH' := Aside0.mk hRH
        have hRd' := Aside0.mk hRd
        have hcap := hRH.cap
        clear hRH hRd
        have hkl := Aside0.mk (show k ≤ hs.length by rw [hlen.out]; exact hk)
        go_wp2
        refine Reg.region [(0,.L),(3,.L),(4,.L),(5,.L),(6,.L),(1,.N),(2,.N)] [7,8] (by kernel_rfl) (by kernel_rfl) ?_
        iterate 4 (first | refine sL ?_ | refine sQ ?_)
        obtain ⟨xs, hxs⟩ : ∃ xs, hs.take k = xs := ⟨_, rfl⟩
        obtain ⟨ys, hys⟩ : ∃ ys, hs.drop k = ys := ⟨_, rfl⟩
        obtain ⟨Ad, hAd⟩ : ∃ Ad, (if c1 = k then A1 else (A1).map (·.add (k * 2))) = Ad := ⟨_, rfl⟩
        obtain ⟨cd, hcd⟩ : ∃ cd, c1 - k = cd := ⟨_, rfl⟩
        refine sFrom (k := k) (m := ys.length) hAd (by rw [← hys, List.length_drop, hlen.out]) hcd hk (by rw [← hlen.out]; exact hcap) ?_
        have hRx := Aside0.mk (hxs ▸ hRH'.out.take k hkl.out)
        have hRy := Aside0.mk (show RH w2 Ad cd ys from hAd ▸ hcd ▸ hys ▸ hRH'.out.drop k hkl.out)
        have hxl := Aside0.mk (show xs.length = k by rw [← hxs, List.length_take]; have := hkl.out; omega)
        have hyl := Aside0.mk (show ys.length ≤ 2000000 by rw [← hys, List.length_drop]; have := hl'.out.1; have := hlen.out; omega)
        have hxs' := Aside0.mk hxs
        have hys' := Aside0.mk hys
        clear hxs hys hAd hcd
        simp only [Act.put, List.setIfInBounds_toArray, List.set_cons_zero, List.set_cons_succ]
        refine callN Tryz.func84 (fun w3 hS3 => ?_)
        refine (l5Fact_calls w3 A2 c2 f (h2.on (hB2.out.trans hS3)) hl'.out.2).mono ?_
        rintro e w4 ⟨v4, rfl, vf, rfl, hOf, hb4⟩
        obtain ⟨A4, c4, rfl⟩ := own_slice hOf
        have hOf' := Aside0.mk hOf
        have hB4 := Aside0.mk (hS3.trans hb4)
        clear hOf hd0 hd1
        refine ⟨_, rfl, hb4, fun a' ha' => ?_⟩
        simp only [Act.put, List.setIfInBounds_toArray, List.set_cons_zero, List.set_cons_succ] at ha'
        subst ha'
        refine stepM (fun w5 hS5 => ?_)
        go_wp2
        refine ⟨hS5.trans (On.alloc (On.refl _) _), ?_⟩
        refine Reg.tail_ fun w6 hS6 => ?_
        have hB6 := Aside0.mk ((hS5.trans (On.alloc (On.refl _) (.cells #[.int .i64 f.1, .slice A4 f.2.length c4] 30))).trans hS6)
        obtain ⟨z7, hz7⟩ : ∃ z7, [((f.1, A4, f.2.length, c4) : Hdr)] ++ ys = z7 := ⟨_, rfl⟩
        refine apHf 36 hz7 (pw_own_below (lit_own w5 #[.int .i64 f.1, .slice A4 f.2.length c4] 30 2 1 w5.heap.size (Nat.le_refl _) (by omega) rfl) hS6) rfl (hRy.out.on (hB4.out.trans hB6.out)) (Nat.le_trans (by simp) hS6.size) (by have := hyl.out; omega) fun v7 w7 hO7 hb7 => ?_
        obtain ⟨A7, c7, rfl⟩ := own_slice hO7
        have hz7' := Aside0.mk hz7
        have hz7l := Aside0.mk (show z7.length ≤ 2000001 by rw [← hz7, List.length_append]; have := hyl.out; simp; omega)
        have hRz := Aside0.mk (OH.rh hO7).2
        have hB7 := Aside0.mk (hB6.out.trans hb7)
        have hB47 := Aside0.mk (hB4.out.trans hB7.out)
        have hL7 := Aside0.mk (Loc.on hB47.out hL2.out)
        have hd0 := blk_cell hL7.out.1
        clear hz7 hO7
        go_wp2
        refine Reg.regionF (fun w' => w'.heap[w.heap.size]? = some (.cells #[.slice A0 rs.length c0, .slice A1 fs.length c1] 27 (0, 0))) [0,1,3,4,5,6,8] [2,7,9,10,11] (by kernel_rfl) (by kernel_rfl) hL7.out.1 ?_
        iterate 5 refine Reg.sF ?_
        refine sToF (k := k) (A := A1) (n := fs.length) (c := c1) hk (by have := hcap; have := hlen.out; omega) ?_
        simp only [Act.put, List.setIfInBounds_toArray, List.set_cons_zero, List.set_cons_succ]
        repeat refine Reg.sF ?_
        refine Reg.startF ?_
        obtain ⟨w8, hw8⟩ : ∃ w8, ({ w7 with drawn := w7.drawn + 1 } : World) = w8 := ⟨_, rfl⟩
        have hS8 : On w7 w8 := by rw [← hw8]; exact on_draw w7
        rw [hw8]
        clear hw8
        refine Reg.tF ?_
        go_wp2
        refine ⟨blk_below hL7.out.1 (hS8.trans (On.alloc (On.refl _) _)), ?_⟩
        refine Reg.tF ?_
        have hB79 := Aside0.mk (hS8.trans (On.alloc (On.refl w8) (.cells #[] 30)))
        refine apHf 44 (List.nil_append xs) (lit_own w8 #[] 30 2 0 w8.heap.size (Nat.le_refl _) (by omega) rfl) rfl (hRx.out.on (hB47.out.trans hB79.out)) (by simp) (by have := hxl.out; have := hl'.out.1; omega) (fun v10 w10 hO10 hb10 => ?_) (hx := by rw [hxl.out]; rfl)
        have hB11 := Aside0.mk (hB79.out.trans hb10)
        refine ⟨blk_below hL7.out.1 hB11.out, ?_⟩
        obtain ⟨A10, c10, rfl⟩ := own_slice hO10
        simp only [Act.put, List.setIfInBounds_toArray, List.set_cons_zero, List.set_cons_succ]
        refine Reg.tF ?_
        have hO11 := Aside0.mk hO10
        obtain ⟨zs, hzs⟩ : ∃ zs, xs ++ z7 = zs := ⟨_, rfl⟩
        refine apH 46 hzs hO11.out (hRz.out.on hB11.out) (Nat.le_trans (by simp) hb10.size) (by have := hxl.out; have := hl'.out.1; have := hz7l.out; omega) fun v12 w12 hO12 hg12 => ?_
        obtain ⟨A12, c12, rfl⟩ := own_slice hO12
        have hw8 := hS8.size
        have hB12 := Aside0.mk (own_grows hB11.out hO11.out hg12 hw8)
        have hL12 := Aside0.mk (Loc.on hB12.out hL7.out)
        refine ⟨hL12.out.1, ?_⟩
        have hcr : ∀ i, w12.cell? ⟨w.heap.size + 1 + 1, i, none⟩ = _ := blk_cell hL12.out.2.2.1
        have hfr : ∀ i, w12.frozen? ⟨w.heap.size + 1 + 1, i, none⟩ = _ := blk_frozen hL12.out.2.2.1
        have hzs' := Aside0.mk hzs
        have hO12' := Aside0.mk hO12
        clear hzs hO12 hg12 hd0
        simp only [Act.put, List.setIfInBounds_toArray, List.set_cons_zero, List.set_cons_succ]
        refine Reg.tF ?_
        go_wp2
        refine ⟨hL12.out.1, ?_⟩
        refine Reg.tF ?_
        go_wp2
        refine ⟨blk_far (blk_far hL12.out.1 (by show ¬ _; simp; try omega) _) (by show ¬ _; simp; try omega) _, ?_⟩
        refine Reg.endF ?_
        go_wp2
        refine bodyPost_ret (retI rfl rfl (g := w.heap.size + 2) (blk_set (blk_set hL12.out.2.2.1 0 _) 1 _) rfl) rfl ?_
        have hBz := (hB2.out.trans hB47.out).trans hB12.out
        have hlt2 := hBw.out.size
        have hBe := Reg.On.set (p := ⟨w.heap.size + 1 + 1, 1, none⟩) (Reg.On.set (p := ⟨w.heap.size + 1 + 1, 0, none⟩) hBz (by simp; omega) (.slice A0 rs.length c0)) (by simp; omega) (.slice A12 zs.length c12)
        have hput := putF_at fs f k hk (fun j hj => hall.out j hj (by omega)) (fun h => Int.not_lt.2 (hcn.out h)) hf'.out
        have hpe : On w4 w12 := hB7.out.trans hB12.out
        have hw4 : w.heap.size + 3 ≤ w4.heap.size := by
          have h1 := blk_lt hL1.out.2.2.1
          have h2 := (hB.out.trans (hS2.trans hB4.out)).size
          omega
        have hE : Ex (fun b => b = w.heap.size + 1 + 1) w12 ((w12.setCell ⟨w.heap.size + 1 + 1, 0, none⟩ (.slice A0 rs.length c0)).setCell ⟨w.heap.size + 1 + 1, 1, none⟩ (.slice A12 zs.length c12)) := (Ex.set w12 ⟨w.heap.size + 1 + 1, 0, none⟩ _).trans (Ex.set _ ⟨w.heap.size + 1 + 1, 1, none⟩ _) (fun i _ h => h)
        have hOe := own_ex hO12'.out hE (fun i hi e => by have := own_base hO12'.out i hi; have := (hS8.size); have := hB47.out.size; have := hlt2; have := hS2.size; have := blk_lt hL1.out.2.2.1; have := hB.out.size; omega)
        have hIe := OI.of (OI.to (own_ex (pw_own_below (show OI w4 (w.heap.size + 3) (.slice A4 f.2.length c4) f.2 from own_lower hOf'.out (by have h1 := blk_lt hL1.out.2.2.1; have h2 := (hB.out.trans (hS2.trans hS3)).size; omega)) hpe) hE (fun i hi e => by have := own_base hOf'.out i hi; have h1 := blk_lt hL1.out.2.2.1; have h2 := (hB.out.trans (hS2.trans hS3)).size; omega)))
        have e1 : zs = hs.take k ++ ([((f.1, A4, f.2.length, c4) : Hdr)] ++ hs.drop k) := by rw [hxs'.out, hys'.out, hz7'.out, hzs'.out]
        have hlz : zs.length = (putF fs f).length := by
          rw [hput, e1]
          have := hlen.out
          simp [this]
        refine ⟨_, rfl, ⟨A0, c0, A12, c12, zs, by rw [← hlz]; rfl, fun w' kE => ?_⟩, hBe⟩
        obtain ⟨r0, r1, r2⟩ := hA.out w' ((Ex.of_on hBe).trans kE fun _ _ h => h)
        have hnew : ∀ i, w.heap.size ≤ i → ¬ S i := fun i hi hs => by have := hSb'.out i hs; omega
        obtain ⟨A4', c4', e4, hI5⟩ := OI.rd (own_ex hIe kE (fun i hi => hnew i (by have := own_base hIe i hi; omega))) h2.2.2
        injection e4 with e41 e42 e43
        subst e41 e43
        have hOw := own_ex hOe kE (fun i hi => hnew i (by have := own_base hOe i hi; have := hS8.size; have := hB47.out.size; have := hlt2; have := hS2.size; omega))
        refine ⟨r0, (OH.rh hOw).2, ?_⟩
        rw [hput, e1]
        exact (r2.take k).append (((Reads.nil _).snoc (a := (f.1, A4, f.2.length, c4)) (f := f) rfl rfl hI5).append (r2.drop k))
theorem l5Put_calls (w : World) (A0 c0 A1 c1) (rs : List Rel) (fs : List Fct) (h0 : Rels w A0 c0 rs) (h1 : Fcts w A1 c1 fs) (A2 c2) (f : Fct) (h2 : Ints w A2 c2 f.2) (hl : fs.length ≤ 2000000) (hl2 : f.2.length ≤ 2000000) (ha : Asc fs) :
    Calls Tryz.prog 41 #[.agg #[.slice A0 rs.length c0, .slice A1 fs.length c1], .agg #[.int .i64 f.1, .slice A2 f.2.length c2]] w (Got fun v w' => RIn w' v rs (putF fs f) ∧ On w w') := by
  obtain ⟨hs, h3, h4⟩ := h1.hdrs
  refine (l5PutS_calls (fun _ => False) w A0 c0 A1 c1 hs rs fs (fun w' k => ⟨h0.on k.none, h3.on k.none, h4.on k.none⟩) (fun _ h => h.elim) A2 c2 f h2 hl hl2 ha).mono fun e w' h => ?_
  obtain ⟨v, rfl, hR, hb⟩ := h
  exact ⟨_, rfl, hR.read, hb⟩
end Go.Proofs.YtngjhblbpapjeaaGreat.H
/- Walks: the draws' cursor. What is told of a number drawn is its range. No condition. -/
namespace Go.Proofs.YtngjhblbpapjeaaGreat.H
open Go Go.RowKit Go.Proofs.YtngjhblbpapjeaaGreatW.PrintWords Go.Proofs.YtngjhblbpapjeaaGreatW.PrintLast
open Go.Proofs.YtngjhblbpapjeaaGreat.Reg (On on_draw)
set_option maxHeartbeats 4000000
set_option maxRecDepth 100000
set_option linter.unusedVariables false
set_option linter.unusedSimpArgs false

theorem and255 (x : Int) : 0 ≤ Go.bits .and .i64 x 255 ∧ Go.bits .and .i64 x 255 ≤ 255 := by
  have h255 : (BitVec.ofInt 64 255).toNat = 2 ^ 8 - 1 := by decide
  have key : (BitVec.ofInt 64 x &&& BitVec.ofInt 64 255).toNat = (x % ((2 ^ 64 : Nat) : Int)).toNat % 2 ^ 8 := by
    rw [BitVec.toNat_and, BitVec.toNat_ofInt, h255, Nat.and_two_pow_sub_one_eq_mod]
  have e : Go.bits .and .i64 x 255 = IntKind.i64.wrap (((BitVec.ofInt 64 x &&& BitVec.ofInt 64 255).toNat : Nat) : Int) := rfl
  rw [e, key, IntKind.wrap_i64]
  omega
abbrev kBytes : Kd Int := Kd.int .u8
/-- The cursor at block q; what it reads stood in w0. -/
structure Cu (w0 w : World) (q : Nat) : Prop where
  on : On w0 w
  lo : w0.heap.size ≤ q
  blk : ∃ A c xs i h, w.heap[q]? = some (.cells #[.slice A xs.length c, .int .i64 i, .int .i64 h] 103 (0, 0)) ∧ 0 ≤ i ∧ xs.length ≤ c ∧ kBytes.C w0 A xs.length xs
theorem Cu.ex {S : Nat → Prop} {w0 W w : World} {q : Nat} (h : Cu w0 W q) (k : Ex S W w) (hs : ∀ b, S b → w0.heap.size ≤ b ∧ b ≠ q) : Cu w0 w q := by
  obtain ⟨h1, h2, A, c, xs, i, hh, hb, h3⟩ := h
  exact ⟨Ex.on h1 k fun b hb => (hs b hb).1, h2, A, c, xs, i, hh, blk_ex k hb fun hq => (hs q hq).2 rfl, h3⟩
theorem Cu.next {w0 W w : World} {q : Nat} (h : Cu w0 W q) (k : On W w) : Cu w0 w q := h.ex (Ex.of_on (S := fun _ => False) k) fun _ h => h.elim
theorem Cu.lt {w0 w : World} {q : Nat} (h : Cu w0 w q) : q < w.heap.size := by
  obtain ⟨_, _, A, c, xs, i, hh, hb, _⟩ := h
  exact blk_lt hb
/-- What a draw hands back: a value, the cursor gone on, nothing else touched. -/
abbrev Dr (w0 w : World) (q : Nat) (P : Value → World → Prop) : Ending → World → Prop := Got fun v w' => P v w' ∧ Cu w0 w' q ∧ Ex (fun b => b = q) w w'

theorem Ex.drewN {S : Nat → Prop} {W w : World} (h : Ex S W w) (m : Nat) : Ex S W (w.drewN m) := ⟨h.os, h.tape, h.output, h.size, h.block⟩
theorem wrap1 {i : Int} {n : Nat} (h0 : 0 ≤ i) (h1 : i < (n : Int)) (h2 : n ≤ 9223372036854775807) : 0 ≤ wrap64 (i + 1) := by
  rw [IntWalk.wrap64_in _ (by omega)]
  omega
theorem l1Byte_calls (w0 w : World) (q : Nat) (hC : Cu w0 w q) :
    Calls Tryz.prog 90 #[.pointer (some ⟨q, 0, none⟩)] w (Dr w0 w q fun v _ => ∃ x : Int, v = .int .i64 x ∧ 0 ≤ x ∧ x ≤ 255) := by
  obtain ⟨hB, hq, A, c, xs, i, h, hb, hi, hc, hK⟩ := hC
  have hB' := Aside0.mk hB
  have hq' := Aside0.mk hq
  have hb' := Aside0.mk hb
  have hK' := Aside0.mk hK
  have hc' := Aside0.mk hc
  have hmax := Aside0.mk hK.2.1
  have hc0 := (blk_cell hb 0)
  have hc1 := (blk_cell hb 1)
  have hc2 := (blk_cell hb 2)
  have hf1 := blk_frozen hb 1
  have hf2 := blk_frozen hb 2
  have hu := Tryz.underlying103
  have hi' := Aside0.mk hi
  clear hb hB hK hc
  by_cases hlt : i < (xs.length : Int)
  · obtain ⟨ad, rfl, hx⟩ := Kd.at_int hK'.out i hi hlt
    have hn : ad.block ≠ q := Nat.ne_of_lt (Nat.lt_of_lt_of_le (by have := World.block_lt_of_cell? _ _ hx; first | rwa [add_block] at this | exact this) hq)
    replace hx := pw_cell_below hB'.out hx
    replace hx := (cell_far (p := ⟨q, 2, none⟩) (by first | (rw [add_block]; exact hn) | (show (Addr.add _ _).block ≠ _; rw [add_block]; exact hn) | exact hn) (.int .i64 (wrap64 ((wrap64 (h * 6364136223846793005)) + 1442695040888963407)))).trans hx
    have hy := fun (n_ : Nat) => (show (((w.drewN n_).setCell ⟨q, 2, none⟩ (.int .i64 (wrap64 ((wrap64 (h * 6364136223846793005)) + 1442695040888963407))))).cell? _ = some _ from hx)
    clear hn
    have hlt' := Aside0.mk hlt
    replace hi := eq_true hi
    have hltb := decide_eq_true hlt
    replace hlt := eq_true hlt
    go_enter Tryz.func90, Tryz.ntmps90
    go_wp2
    repeat (go_quiet (fail); try go_wp2)
    go_ret
    exact ⟨_, rfl, ⟨_, rfl, (and255 _).1, (and255 _).2⟩, ⟨Ex.on hB'.out ((((Ex.set w ⟨q, 2, none⟩ _).drewN _).trans (Ex.set _ ⟨q, 1, none⟩ _) fun _ _ h => h)) (fun b hb => hb ▸ hq'.out), hq'.out, _, c, xs, _, _, blk_set (blk_set hb'.out 2 _) 1 _, wrap1 hi'.out hlt'.out hmax.out, hc'.out, hK'.out⟩, (((Ex.set w ⟨q, 2, none⟩ _).drewN _).trans (Ex.set _ ⟨q, 1, none⟩ _) fun _ _ h => h)⟩
  · have hltb := decide_eq_false hlt
    clear hlt
    go_enter Tryz.func90, Tryz.ntmps90
    go_wp2
    repeat (go_quiet (fail); try go_wp2)
    go_ret
    exact ⟨_, rfl, ⟨_, rfl, (and255 _).1, (and255 _).2⟩, ⟨Ex.on hB'.out ((((Ex.set w ⟨q, 2, none⟩ _).drewN _).drewN _)) (fun b hb => hb ▸ hq'.out), hq'.out, _, c, xs, _, _, blk_set hb'.out 2 _, hi'.out, hc'.out, hK'.out⟩, (((Ex.set w ⟨q, 2, none⟩ _).drewN _).drewN _)⟩

/-- A number below m. -/
theorem l1Below_calls (w0 w : World) (q : Nat) (hC : Cu w0 w q) (m : Int) (h1 : 1 ≤ m) (h2 : m ≤ 256) :
    Calls Tryz.prog 44 #[.pointer (some ⟨q, 0, none⟩), .int .i64 m] w (Dr w0 w q fun v _ => ∃ x : Int, v = .int .i64 x ∧ 0 ≤ x ∧ x < m) := by
  have hC' := Aside0.mk hC
  have b1 : decide (m ≤ 0) = false := decide_eq_false (by omega)
  have b2 : decide (m ≤ 256) = true := decide_eq_true h2
  have b3 : (m == 0) = false := by simp; omega
  have b4 : (m != 0) = true := by simp; omega
  have b5 : (m = 0) = False := eq_false (by omega)
  have h1' := Aside0.mk h1
  clear hC h1 h2
  go_enter Tryz.func44, Tryz.ntmps44
  go_wp2_with (go_at_call 90; refine (l1Byte_calls w0 _ q hC'.out).mono ?_; rintro e w3 ⟨v, rfl, ⟨x, rfl, hx⟩, hC3, hE3⟩)
  go_ret
  exact ⟨_, rfl, ⟨_, rfl, Int.emod_nonneg _ (by have := h1'.out; omega), Int.emod_lt_of_pos _ (by have := h1'.out; omega)⟩, hC3, hE3⟩
theorem l1Once_calls (w0 w : World) (q : Nat) (hC : Cu w0 w q) (m : Int) (h1 : 1 ≤ m) (h2 : m ≤ 256) :
    Calls Tryz.prog 110 #[.pointer (some ⟨q, 0, none⟩), .int .i64 m] w (Dr w0 w q fun v _ => ∃ b : Bool, v = .bool b) := by
  have hC' := Aside0.mk hC
  have h1' := Aside0.mk h1
  have h2' := Aside0.mk h2
  clear hC h1 h2
  go_enter Tryz.func110, Tryz.ntmps110
  go_wp2_with (go_at_call 44; refine (l1Below_calls w0 _ q hC'.out m h1'.out h2'.out).mono ?_; rintro e w3 ⟨v, rfl, ⟨x, rfl, hx⟩, hC3, hE3⟩; replace hx := Aside0.mk hx)
  go_ret
  exact ⟨_, rfl, ⟨_, rfl⟩, hC3, hE3⟩
theorem l1PickInt_calls (w0 w : World) (q : Nat) (hC : Cu w0 w q) (A c) (xs : List Int) (hI : ∀ w', Ex (fun b => b = q) w w' → Ints w' A c xs) (h1 : 1 ≤ xs.length) (h2 : xs.length ≤ 256) :
    Calls Tryz.prog 126 #[.pointer (some ⟨q, 0, none⟩), .slice A xs.length c] w (Dr w0 w q fun v _ => ∃ x : Int, v = .int .i64 x ∧ x ∈ xs) := by
  have hC' := Aside0.mk hC
  have h1' := Aside0.mk h1
  have h2' := Aside0.mk h2
  have hI' := Aside0.mk hI
  clear hC h1 h2 hI
  go_enter Tryz.func126, Tryz.ntmps126
  go_wp2_with (go_at_call 44; refine (l1Below_calls w0 _ q hC'.out xs.length (by have := h1'.out; omega) (by have := h2'.out; omega)).mono ?_; rintro e w3 ⟨v, rfl, ⟨x, rfl, hx⟩, hC3, hE3⟩; replace hx := Aside0.mk hx; obtain ⟨k, hk⟩ := Int.eq_ofNat_of_zero_le hx.out.1; subst hk; obtain ⟨ad, hA, hx3⟩ := (hI'.out _ hE3).at k (by have := hx.out; omega); subst hA; have hkl : k < xs.length := by have := hx.out; omega)
  go_ret
  exact ⟨_, rfl, ⟨_, rfl, List.getElem_mem (by have := hx.out; omega)⟩, hC3, hE3⟩
theorem l1New_calls (w : World) (A c) (xs : List Int) (hc : xs.length ≤ c) (hK : kBytes.C w A xs.length xs) :
    Calls Tryz.prog 42 #[.slice A xs.length c] w (Got fun v w' => ∃ q, v = .pointer (some ⟨q, 0, none⟩) ∧ Cu w w' q ∧ On w w') := by
  have hu := Tryz.underlying103
  have hK' := Aside0.mk hK
  have hc' := Aside0.mk hc
  clear hK hc
  go_enter Tryz.func42, Tryz.ntmps42
  go_wp2
  go_loopw [3, 4] (fun v3 v4 wr => ∃ (x3 x4 : Int), v3 = .int .i64 x3 ∧ v4 = .int .i64 x4 ∧ 0 ≤ x4 ∧ x4 ≤ 4000 ∧ Aside0 (On w wr)) (fun v3 v4 _ => 4000 - (intOf v4).toNat)
  case atStart => exact ⟨_, 0, rfl, rfl, by omega, by omega, ⟨On.refl _⟩⟩
  case round =>
    obtain ⟨x3, x4, rfl, rfl, p0, p1, hB⟩ := hrel
    by_cases c2 : x4 < (xs.length : Int)
    · by_cases c3 : x4 < 4000
      · obtain ⟨ad, rfl, hx⟩ := Kd.at_int hK'.out x4 p0 c2
        replace hx := pw_cell_below hB.out hx
        have p0' := Aside0.mk p0
        have c3' := Aside0.mk c3
        have c2b := decide_eq_true c2
        have c3b := decide_eq_true c3
        replace p0 := eq_true p0
        replace c2 := eq_true c2
        clear c3 p1
        have hwr : wrap64 (x4 + 1) = x4 + 1 := IntWalk.wrap64_in _ (by have := p0'.out; have := c3'.out; omega)
        go_wp2
        go_roundw
        case rel => exact ⟨_, x4 + 1, rfl, by first | rfl | (rw [hwr]), by have := p0'.out; omega, by have := c3'.out; omega, hB⟩
        case measure => simp [intOf]; have := p0'.out; have := c3'.out; omega
      · have c2b := decide_eq_true c2
        have c3b := decide_eq_false c3
        clear c3 c2 p0 p1
        go_wp2_with ((with_reducible refine gate_dst (N := 31) rfl ?_); refine box_event ?hg (N := 31) ?hd (cs := #[.slice A xs.length c, .int .i64 0, .int .i64 x3]) (t := 103) ?hr ?_; (case hd => rfl); (case hg => rfl); (case hr => first | (go_simp; done) | (go_simp; rfl)); intro gb hg w5 hbox hb; have hbox' := Aside0.mk hbox; have hb' := Aside0.mk hb; have hg' := Aside0.mk hg; clear hbox hb hg)
        go_ret
        exact ⟨_, rfl, gb, rfl, ⟨hB.out.trans hb'.out, by rw [hg'.out]; exact hB.out.size, A, c, xs, 0, x3, hbox'.out, by omega, hc'.out, hK'.out⟩, hB.out.trans hb'.out⟩
    · have c2b := decide_eq_false c2
      clear c2 p0 p1
      go_wp2_with ((with_reducible refine gate_dst (N := 31) rfl ?_); refine box_event ?hg (N := 31) ?hd (cs := #[.slice A xs.length c, .int .i64 0, .int .i64 x3]) (t := 103) ?hr ?_; (case hd => rfl); (case hg => rfl); (case hr => first | (go_simp; done) | (go_simp; rfl)); intro gb hg w5 hbox hb; have hbox' := Aside0.mk hbox; have hb' := Aside0.mk hb; have hg' := Aside0.mk hg; clear hbox hb hg)
      go_ret
      exact ⟨_, rfl, gb, rfl, ⟨hB.out.trans hb'.out, by rw [hg'.out]; exact hB.out.size, A, c, xs, 0, x3, hbox'.out, by omega, hc'.out, hK'.out⟩, hB.out.trans hb'.out⟩
end Go.Proofs.YtngjhblbpapjeaaGreat.H
/- The rule for regions that draw their order, where reads may come up at any time but behind the last operation k: what they read is told by a predicate G that holds until then. No condition. -/
namespace Go.Proofs.YtngjhblbpapjeaaGreat.Reg
open Go Go.RowKit
set_option linter.unusedVariables false
variable {P : Program} {ops : Array Oper} {Q : Exit → Act → World → Prop} {md : Region.Mode}
def wpG (P : Program) (md : Region.Mode) (ops : Array Oper) (Q : Exit → Act → World → Prop) (cl : Nat → Bool) (G : World → Prop) (k : Nat) : Nat → Array Bool → Act → (World → Prop) → Prop
  | 0, listed, a, S => (listed.getD k false = false → ∀ w, S w → G w) ∧ Region.ready md ops listed = [] ∧ ∀ w, S w → Q .normal a w
  | fuel + 1, listed, a, S => (listed.getD k false = false → ∀ w, S w → G w) ∧
    (Region.ready md ops listed = [] → ∀ w, S w → Q .normal a w) ∧
    ∀ i ∈ Region.ready md ops listed, stepT P ops Q cl (wpG P md ops Q cl G k fuel (listed.setIfInBounds i true)) i a S
theorem wpG_G {cl : Nat → Bool} {G : World → Prop} {k : Nat} {fuel : Nat} {listed : Array Bool} {a : Act} {S : World → Prop} (h : wpG P md ops Q cl G k fuel listed a S) : listed.getD k false = false → ∀ w, S w → G w := by
  cases fuel <;> exact h.1
theorem wpAny_of_wpG {cl : Nat → Bool} {G : World → Prop} {k : Nat} : ∀ (fuel : Nat) (listed : Array Bool) (a : Act) (S : World → Prop) (w : World), S w → wpG P md ops Q cl G k fuel listed a S → wpAny P md ops Q fuel listed a w
  | 0, _, _, _, _, hS, h => ⟨h.2.1, h.2.2 _ hS⟩
  | fuel + 1, _, _, _, _, hS, h => ⟨fun h0 => h.2.1 h0 _ hS, fun i hi => wpOp_of_stepT (fun a S w hS hT => wpAny_of_wpG fuel _ a S w hS hT) hS (h.2.2 i hi)⟩
theorem wpG_first {cl : Nat → Bool} {G : World → Prop} {i k : Nat} {oi ok : Oper} {v : Value} (hne : k ≠ i) (hok : ops[k]? = some ok) (hki : reach md ops k i = true) (hQ : Plain Q) (hi : ops[i]? = some oi) (hsel : ∀ (j : Nat) (o : Oper) cs b, ops[j]? = some o → o.op ≠ .select cs b) :
    ∀ (fuel : Nat) (listed : Array Bool) (a : Act) (S : World → Prop), closed md ops listed →
      (∀ j oj, ops[j]? = some oj → j ≠ i → listed.getD j true = false → reach md ops j i = false → oi.apart ops oj = true) →
      i ∈ Region.ready md ops listed → Y P ops false G oi v a →
      wpG P md ops Q cl G k fuel (listed.setIfInBounds i true) (a.put oi.dst v) S → wpG P md ops Q cl G k (fuel + 1) listed a S := by
  have hun0 : ∀ {listed : Array Bool}, closed md ops listed → i ∈ Region.ready md ops listed → listed.getD k false = false := fun {listed} hc hr => by
    have hif : listed.getD i false = false := by
      have h0 := (mem_ready.1 hr).1
      rcases Nat.lt_or_ge i listed.size with h' | h'
      · simp [h'] at h0 ⊢; exact h0
      · simp [Array.getElem?_eq_none h']
    cases hk : listed.getD k false with
    | false => rfl
    | true =>
      have := hc.reach hok (fun e he hb => hc k ok hok hk e he hb) hki
      rw [hif] at this
      cases this
  have hG0 : ∀ {listed : Array Bool} {fuel : Nat} {a : Act} {S : World → Prop}, closed md ops listed → i ∈ Region.ready md ops listed → wpG P md ops Q cl G k fuel (listed.setIfInBounds i true) a S → ∀ w, S w → G w := fun hc hr H => wpG_G H (by
    rw [getD_set_ne false (Ne.symm hne)]; exact hun0 hc hr)
  intro fuel
  induction fuel with
  | zero =>
    intro listed a S hclosed _ hr hy H
    refine ⟨fun _ => hG0 hclosed hr H, fun h => (by rw [h] at hr; cases hr), fun j hj => ?_⟩
    by_cases hji : j = i
    · subst hji; exact (hy.sub (hG0 hclosed hr H)).step hi H
    · have := ready_mono hj hji
      rw [H.2.1] at this
      cases this
  | succ fuel ih =>
    intro listed a S hclosed hfree hr hy H
    refine ⟨fun _ => hG0 hclosed hr H, fun h => (by rw [h] at hr; cases hr), fun j hj => ?_⟩
    by_cases hji : j = i
    · subst hji; exact (hy.sub (hG0 hclosed hr H)).step hi H
    · have h1 := H.2.2 j (ready_mono hj hji)
      obtain ⟨hjun, oj, hoj, hall⟩ := mem_ready.1 hj
      have hif : listed.getD i false = false := by
        have h0 := (mem_ready.1 hr).1
        rcases Nat.lt_or_ge i listed.size with h' | h'
        · simp [h'] at h0 ⊢; exact h0
        · simp [Array.getElem?_eq_none h']
      have hnot : reach md ops j i = false := by
        cases hc : reach md ops j i with
        | false => rfl
        | true =>
          have := closed.reach hclosed hoj hall hc
          rw [hif] at this
          cases this
      have h2 := stepT_putG hQ hoj (hfree j oj hoj hji hjun hnot) (fun cs b => hsel i oi cs b hi) (fun cs b => hsel j oj cs b hoj) hy h1
      have hfree' : ∀ k ok, ops[k]? = some ok → k ≠ i → (listed.setIfInBounds j true).getD k true = false →
          reach md ops k i = false → oi.apart ops ok = true := fun k ok hk hki hun hno => by
        refine hfree k ok hk hki ?_ hno
        by_cases hjk : j = k
        · subst hjk; exact hjun
        · rw [getD_set_ne true hjk] at hun; exact hun
      refine stepT_mono (fun a' S' h3 => ih (listed.setIfInBounds j true) a' S' (hclosed.set hj) hfree' (ready_mono hr (Ne.symm hji)) h3.1 ?_) h2
      rw [Array.setIfInBounds_comm _ _ hji]
      exact h3.2
/-- What stands in line behind the reads: G holds until the last. -/
def tailG (P : Program) (ops : Array Oper) (Q : Exit → Act → World → Prop) (G : World → Prop) : List Nat → Act → World → Prop
  | [], a, w => Q .normal a w
  | i :: l, a, w => match ops[i]? with
    | none => False
    | some o => wpOp P ops Q i (fun a' w' => (l ≠ [] → G w') ∧ tailG P ops Q G l a' w') a w
theorem wpG_of_tail {cl : Nat → Bool} {G : World → Prop} {k : Nat} : ∀ (l : List Nat) (listed : Array Bool) (a : Act) (S : World → Prop), k < listed.size → (l = [] → listed.getD k false = true) → (∀ h : l ≠ [], l.getLast h = k) → (∀ i ∈ l, cl i = true) → chkTail md ops l listed = true → (l ≠ [] → ∀ w, S w → G w) → (∀ w, S w → tailG P ops Q G l a w) → wpG P md ops Q cl G k l.length listed a S
  | [], listed, a, S, _, h0, _, _, hc, hG, h => ⟨fun e => (by rw [h0 rfl] at e; cases e), by simpa [chkTail] using hc, h⟩
  | i :: l, listed, a, S, hsz, _, hlast, hcl, hc, hG, h => by
    simp only [chkTail, Bool.and_eq_true, beq_iff_eq] at hc
    obtain ⟨⟨hr, hbusy⟩, hl⟩ := hc
    cases hi : ops[i]? with
    | none => simp [hi] at hbusy
    | some o =>
      rw [List.length_cons]
      refine ⟨fun _ => hG (by simp), fun h0 => (by rw [hr] at h0; cases h0), fun j hj => ?_⟩
      rw [hr] at hj
      obtain rfl := List.mem_singleton.1 hj
      have ih := fun (a : Act) (S : World → Prop) (hG : l ≠ [] → ∀ w, S w → G w) (h : ∀ w, S w → tailG P ops Q G l a w) => wpG_of_tail (cl := cl) (k := k) l (listed.setIfInBounds j true) a S (by rw [Array.size_setIfInBounds]; exact hsz)
        (fun e => by
          subst e
          have e1 : j = k := hlast (by simp)
          subst e1
          simp [Array.getD, hsz])
        (fun hne => by rw [← hlast (by simp), List.getLast_cons hne]) (fun k hk => hcl k (List.mem_cons_of_mem _ hk)) hl hG h
      have hlist : ∀ w, S w → wpOp P ops Q j (fun a' w' => (l ≠ [] → G w') ∧ tailG P ops Q G l a' w') a w := fun w hS => by
        have h1 := h w hS
        simp only [tailG, hi] at h1
        exact h1
      unfold stepT
      simp only [hi]
      split
      · exact .inr (.inr ⟨.inr (hcl j List.mem_cons_self), fun w hS => wpOp_mono (fun a' w' hh => ⟨fun w => w = w', rfl, fun h0 => (by rw [hcl j List.mem_cons_self] at h0; cases h0), ih a' _ (fun hn w e => by subst e; exact hh.1 hn) (fun w e => by subst e; exact hh.2)⟩) (hlist w hS)⟩)
      · rename_i hw
        refine ih _ _ (fun hn w hS => ?_) fun w hS => ?_
        · have h1 := hlist w hS
          unfold wpOp at h1
          simp only [hi] at h1
          rw [if_neg hw] at h1
          exact h1.1 hn
        · have h1 := hlist w hS
          unfold wpOp at h1
          simp only [hi] at h1
          rw [if_neg hw] at h1
          exact h1.2
def chkG (md : Region.Mode) (ops : Array Oper) (k : Nat) (tail : List Nat) : List Nat → Array Bool → Bool
  | [], listed => chkTail md ops tail listed
  | i :: l, listed => (Region.ready md ops listed).contains i && freeC md ops false listed i && reach md ops k i && !(k == i) && chkG md ops k tail l (listed.setIfInBounds i true)
def wpOrdG (P : Program) (ops : Array Oper) (Q : Exit → Act → World → Prop) (G : World → Prop) (tail : List Nat) (W : World) : List Nat → Act → Prop
  | [], a => tailG P ops Q G tail a W
  | i :: l, a => match ops[i]? with
    | none => False
    | some o =>
      if Region.wanted o (yielded ops a.tmps) then ∃ v, (∀ w, G w → (execOp a.eval o).run P w = .ok (.value v) w) ∧ wpOrdG P ops Q G tail W l (a.put o.dst v)
      else wpOrdG P ops Q G tail W l (a.put o.dst undef)
theorem wpG_of_ord {G : World → Prop} {W : World} {k : Nat} {ok : Oper} (hok : ops[k]? = some ok) (hs : Region.noSelect ops = true) (hQ : Plain Q) (hG : G W) (tail : List Nat) (hlast : tail.getLast? = some k) : ∀ (l : List Nat) (listed : Array Bool) (a : Act), k < listed.size → closed md ops listed → chkG md ops k tail l listed = true → wpOrdG P ops Q G tail W l a → wpG P md ops Q (fun j => tail.contains j) G k (l.length + tail.length) listed a (fun w => w = W)
  | [], listed, a, hsz, _, hc, h => by
    rw [List.length_nil, Nat.zero_add]
    exact wpG_of_tail tail listed a _ hsz (fun e => by rw [e] at hlast; cases hlast) (fun hn => by rw [List.getLast?_eq_some_getLast hn] at hlast; exact Option.some.inj hlast) (fun i hi => by simpa using hi) hc (fun _ w e => by subst e; exact hG) (fun w e => by subst e; exact h)
  | i :: l, listed, a, hsz, hclosed, hc, h => by
    simp only [chkG, Bool.and_eq_true] at hc
    obtain ⟨⟨⟨⟨hr, hf⟩, hki⟩, hne⟩, hl⟩ := hc
    have hne' : k ≠ i := by intro e; subst e; simp at hne
    simp only [wpOrdG] at h
    cases hi : ops[i]? with
    | none => simp only [hi] at h
    | some o =>
      simp only [hi] at h
      have hri : i ∈ Region.ready md ops listed := by simpa using hr
      have ih := fun a h => wpG_of_ord hok hs hQ hG tail hlast l (listed.setIfInBounds i true) a (by rw [Array.size_setIfInBounds]; exact hsz) (hclosed.set hri) hl h
      have sel := Region.noSelect_spec hs
      have hlen : ((i :: l).length + tail.length) = (l.length + tail.length) + 1 := by rw [List.length_cons]; omega
      rw [hlen]
      by_cases hw : Region.wanted o (yielded ops a.tmps) = true
      · rw [if_pos hw] at h
        obtain ⟨v, h1, h2⟩ := h
        exact wpG_first hne' hok hki hQ hi sel _ listed a _ hclosed (fun j oj hj hne hun hno => (freeC_spec hi hf j oj hj hne hun hno).1) hri (.inl ⟨hw, fun w hS => by simpa using h1 w hS⟩) (ih _ h2)
      · rw [if_neg hw] at h
        exact wpG_first hne' hok hki hQ hi sel _ listed a _ hclosed (fun j oj hj hne hun hno => (freeC_spec hi hf j oj hj hne hun hno).1) hri (.inr ⟨by simpa using hw, rfl⟩) (ih _ h)
structure OrdG (P : Program) (ops : Array Oper) (Q : Exit → Act → World → Prop) (G : World → Prop) (tail : List Nat) (W : World) (l : List Nat) (a : Act) : Prop where mk :: (out : wpOrdG P ops Q G tail W l a)
structure TailG (P : Program) (ops : Array Oper) (Q : Exit → Act → World → Prop) (G : World → Prop) (l : List Nat) (a : Act) (w : World) : Prop where mk :: (out : tailG P ops Q G l a w)
theorem regionG {id : Nat} {a : Act} {w : World} (G : World → Prop) (l tail : List Nat) (k : Nat) (hm : P.follows .mixedOrders = true) (hc : (Region.noSelect ops && (l.length + tail.length == ops.size) && decide (k < ops.size) && (tail.getLast? == some k) && chkG .any ops k tail l (Array.replicate ops.size false)) = true)
    (hG : G { w with drawn := w.drawn + 1 }) (h : OrdG P ops Q G tail { w with drawn := w.drawn + 1 } l a) (hQ : Plain Q := by exact fun c a d v w h => by cases d <;> exact h) : (Code.region id ops true).wp P Q a w := by
  simp only [Bool.and_eq_true, beq_iff_eq, decide_eq_true_eq] at hc
  obtain ⟨⟨⟨⟨h1, h2⟩, h3⟩, h4⟩, h5⟩ := hc
  refine wp_region_any hm (wpAny_of_wpG (cl := fun j => tail.contains j) (G := G) (k := k) _ _ _ (fun w' => w' = { w with drawn := w.drawn + 1 }) _ rfl ?_)
  rw [← h2]
  exact wpG_of_ord (Array.getElem?_eq_getElem h3) h1 hQ hG tail h4 l _ a (by rw [h2, Array.size_replicate]; exact h3) (closed.start _) (by rw [h2]; exact h5) h.out
section
variable {G : World → Prop} {i : Nat} {tail l : List Nat} {a a' : Act} {W : World} {o : Oper} {N : Tmp}
theorem stepG {v : Value} (hy : ∀ w, G w → (execOp a.eval o).run P w = .ok (.value v) w) (h : OrdG P ops Q G tail W l (a.put (some N) v)) (hi : ops[i]? = some o) (hN : o.dst = some N)
    (hw : Region.wanted o (yielded ops a.tmps) = true) : OrdG P ops Q G tail W (i :: l) a := by
  refine ⟨?_⟩
  simp only [wpOrdG, hi]
  rw [if_pos hw]
  exact ⟨v, hy, hN ▸ h.out⟩
theorem startG (h : TailG P ops Q G tail a W) : OrdG P ops Q G tail W [] a := ⟨h.out⟩
/-- A read, an address, whatever G tells. -/
theorem sG {v : Value} (h : OrdG P ops Q G tail W l a') (hi : ops[i]? = some o := by rfl) (hN : o.dst = some N := by rfl) (hw : Region.wanted o (yielded ops a.tmps) = true := by rfl)
    (hy : ∀ w, G w → (execOp a.eval o).run P w = .ok (.value v) w := by intro w' hS; (first | (have hA := blk_cell hS; clear hS; go_simp; first | done | rfl) | (clear hS; go_simp; first | done | rfl)))
    (ha : a.put (some N) v = a' := by simp only [Act.put, List.setIfInBounds_toArray, List.set_cons_zero, List.set_cons_succ]; rfl) : OrdG P ops Q G tail W (i :: l) a := stepG hy (ha ▸ h) hi hN hw
theorem tG {w : World} (h : wpList P ops (Exit.then (fun a' w' => G w' ∧ TailG P ops Q G l a' w') Q) [o] a w) (hi : ops[i]? = some o := by rfl) : TailG P ops Q G (i :: l) a w := by
  refine ⟨?_⟩
  simp only [tailG, hi]
  refine wpOp_mono (fun a' w' hh => ⟨fun _ => hh.1, hh.2.out⟩) (wpOp_of_one hi h)
/-- The last. -/
theorem tE {w : World} (h : wpList P ops (Exit.then (fun a' w' => Q .normal a' w') Q) [o] a w) (hi : ops[i]? = some o := by rfl) : TailG P ops Q G [i] a w := by
  refine ⟨?_⟩
  simp only [tailG, hi]
  refine wpOp_mono (fun a' w' hh => ⟨fun h => absurd rfl h, hh⟩) (wpOp_of_one hi h)
end
end Go.Proofs.YtngjhblbpapjeaaGreat.Reg
/- Substitutions, applied; homomorphisms. Plain. No condition. -/
namespace Go.Proofs.YtngjhblbpapjeaaGreat.H
open Go Go.RowKit Go.Proofs.YtngjhblbpapjeaaGreatW.PrintWords Go.Proofs.YtngjhblbpapjeaaGreatW.PrintLast
set_option linter.unusedVariables false
set_option linter.unusedSimpArgs false

/-- Substitutions: nulls in order, values. -/
def subFrom : Option Int → List Int → List Int → Bool
  | _, [], _ => true
  | p, k :: ns, vs => within k 0 39 && (match p with | none => true | some q => decide (q < k)) && okVal (vs.headD 0) && subFrom (some k) ns vs.tail
def okSub (ns vs : List Int) : Bool := decide (ns.length = vs.length) && subFrom none ns vs
def prevI (l : List Int) (k : Nat) : Option Int := if k = 0 then none else l[k - 1]?
def okPrevI (p : Option Int) (k : Int) : Bool := match p with | none => true | some q => decide (q < k)
theorem subFrom_step (ns vs : List Int) (k : Nat) (h : k < ns.length) (h2 : k < vs.length) : subFrom (prevI ns k) (ns.drop k) (vs.drop k) = (within ns[k] 0 39 && okPrevI (prevI ns k) ns[k] && okVal vs[k] && subFrom (prevI ns (k + 1)) (ns.drop (k + 1)) (vs.drop (k + 1))) := by
  rw [List.drop_eq_getElem_cons h, List.drop_eq_getElem_cons h2, show prevI ns (k + 1) = some ns[k] by simp [prevI, h]]
  rfl
theorem subFrom_mem {p : Option Int} {ns vs : List Int} (h : subFrom p ns vs = true) (hl : ns.length = vs.length) : (∀ k ∈ ns, 0 ≤ k ∧ k ≤ 39) ∧ (∀ v ∈ vs, -40 ≤ v ∧ v ≤ 9) ∧ ns.Pairwise (· < ·) ∧ ∀ q, p = some q → ∀ k ∈ ns, q < k := by
  induction ns generalizing p vs with
  | nil =>
    cases vs with
    | nil => simp
    | cons v vs => simp at hl
  | cons k ns ih =>
    cases vs with
    | nil => simp at hl
    | cons v vs =>
      simp only [subFrom, Bool.and_eq_true, List.headD_cons, List.tail_cons] at h
      obtain ⟨⟨⟨h1, h2⟩, h3⟩, h4⟩ := h
      obtain ⟨i1, i2, i3, i4⟩ := ih h4 (by simpa using hl)
      simp only [within, okVal, decide_eq_true_eq] at h1 h3
      refine ⟨fun x hx => ?_, fun x hx => ?_, ?_, fun q hq x hx => ?_⟩
      · rcases List.mem_cons.1 hx with rfl | hx
        · exact h1
        · exact i1 x hx
      · rcases List.mem_cons.1 hx with rfl | hx
        · exact h3
        · exact i2 x hx
      · rw [List.pairwise_cons]; exact ⟨i4 k rfl, i3⟩
      · subst hq
        have hqk : q < k := by simpa using h2
        rcases List.mem_cons.1 hx with rfl | hx
        · exact hqk
        · have := i4 k rfl x hx; omega
theorem okSub_spec {ns vs : List Int} (h : okSub ns vs = true) : ns.length = vs.length ∧ (∀ k ∈ ns, 0 ≤ k ∧ k ≤ 39) ∧ (∀ v ∈ vs, -40 ≤ v ∧ v ≤ 9) ∧ ns.Pairwise (· < ·) := by
  simp only [okSub, Bool.and_eq_true, decide_eq_true_eq] at h
  obtain ⟨a, b, c, _⟩ := subFrom_mem h.2 h.1
  exact ⟨h.1, a, b, c⟩
def findV : List Int → List Int → Int → Option Int
  | n :: ns, v :: vs, x => if -1 - n = x then some v else findV ns vs x
  | _, _, _ => none
def appV (ns vs : List Int) (x : Int) : Int := if okSub ns vs then (findV ns vs x).getD x else x
theorem findV_step (ns vs : List Int) (x : Int) (k : Nat) (h : k < ns.length) (h2 : k < vs.length) : findV (ns.drop k) (vs.drop k) x = if -1 - ns[k] = x then some vs[k] else findV (ns.drop (k + 1)) (vs.drop (k + 1)) x := by
  rw [List.drop_eq_getElem_cons h, List.drop_eq_getElem_cons h2]; rfl
theorem findV_nil (ns vs : List Int) (x : Int) (k : Nat) (h : ns.length ≤ k) : findV (ns.drop k) (vs.drop k) x = none := by
  rw [List.drop_of_length_le h]; rfl
theorem findV_mem : ∀ (ns vs : List Int) (x y : Int), findV ns vs x = some y → y ∈ vs
  | [], _, _, _, h => by simp [findV] at h
  | _ :: _, [], _, _, h => by simp [findV] at h
  | n :: ns, v :: vs, x, y, h => by
    unfold findV at h
    split at h
    · injection h with h; exact h ▸ List.mem_cons_self
    · exact List.mem_cons_of_mem _ (findV_mem ns vs x y h)
theorem appV_bd {ns vs : List Int} {x : Int} (h : -9223372036854775808 ≤ x ∧ x ≤ 9223372036854775807) : -9223372036854775808 ≤ appV ns vs x ∧ appV ns vs x ≤ 9223372036854775807 := by
  unfold appV
  split
  · rename_i h1
    cases h2 : findV ns vs x with
    | none => exact h
    | some y =>
      have := (okSub_spec h1).2.2.1 y (findV_mem _ _ _ _ h2)
      simp only [Option.getD_some]; omega
  · exact h
theorem appV_ok {ns vs : List Int} {x : Int} (h : okVal x = true) : okVal (appV ns vs x) = true := by
  unfold appV
  split
  · rename_i h1
    cases h2 : findV ns vs x with
    | none => exact h
    | some y =>
      have := (okSub_spec h1).2.2.1 y (findV_mem _ _ _ _ h2)
      simp only [Option.getD_some, okVal, decide_eq_true_eq]; exact this
  · exact h
/-- The program looks the null's number up. -/
theorem idx_findV : ∀ (ns vs : List Int) (x : Int) (i : Nat), ns.length = vs.length → (∀ k ∈ ns, 0 ≤ k ∧ k ≤ 39) → isNul x = true →
    (idxFrom (fun n => n == nulNum x) ns i = -1 ∧ findV ns vs x = none) ∨ ∃ k, ∃ h : k < vs.length, idxFrom (fun n => n == nulNum x) ns i = ((i + k : Nat) : Int) ∧ findV ns vs x = some vs[k]
  | [], [], _, _, _, _, _ => .inl ⟨rfl, rfl⟩
  | [], _ :: _, _, _, h, _, _ => by simp at h
  | _ :: _, [], _, _, h, _, _ => by simp at h
  | n :: ns, v :: vs, x, i, hl, hb, hx => by
    have hn := hb n List.mem_cons_self
    have e : (n == nulNum x) = decide (-1 - n = x) := by
      have hx' := hx
      simp only [isNul, decide_eq_true_eq] at hx'
      unfold nulNum; rw [if_pos hx]
      by_cases c : n = -1 - x
      · have : -1 - n = x := by omega
        simp [c]; omega
      · have : ¬ -1 - n = x := by omega
        simp [this, c]
    unfold idxFrom findV
    by_cases c : -1 - n = x
    · rw [if_pos c]
      refine .inr ⟨0, by simp, ?_, by simp⟩
      rw [if_pos (by rw [e]; exact decide_eq_true c)]; simp
    · rw [if_neg c, if_neg (by rw [e]; simpa using c)]
      rcases idx_findV ns vs x (i + 1) (by simpa using hl) (fun k hk => hb k (List.mem_cons_of_mem _ hk)) hx with h | ⟨k, hk, h1, h2⟩
      · exact .inl h
      · refine .inr ⟨k + 1, by simp; omega, ?_, by simpa using h2⟩
        rw [h1]; congr 1; omega
theorem findV_not {ns vs : List Int} {x : Int} (hb : ∀ k ∈ ns, 0 ≤ k ∧ k ≤ 39) (hx : isNul x = false) : findV ns vs x = none := by
  induction ns generalizing vs with
  | nil => rfl
  | cons n ns ih =>
    cases vs with
    | nil => rfl
    | cons v vs =>
      have hn := hb n List.mem_cons_self
      have : ¬ -1 - n = x := by
        intro c
        simp only [isNul, decide_eq_false_iff_not] at hx
        omega
      unfold findV
      rw [if_neg this]
      exact ih fun k hk => hb k (List.mem_cons_of_mem _ hk)
def appF (ns vs : List Int) (f : Fct) : Fct := (f.1, f.2.map (appV ns vs))
theorem ints_zero (a b : List Int) : (ints a b == 0) = decide (a = b) := by
  by_cases h : a = b
  · subst h; simp [(ints_eq a a).2 rfl]
  · have : ¬ ints a b = 0 := fun e => h ((ints_eq a b).1 e)
    simp [h, this]
/-- A homomorphism of instances. -/
def isHom (r1 : List Rel) (f1 : List Fct) (r2 : List Rel) (f2 : List Fct) (ns vs : List Int) : Bool :=
  okInst r1 f1 && (okInst r2 f2 && (okSub ns vs && (decide (r1 = r2) && (decide (ns = nulsI f1) && f1.all fun f => hasF f2 (appF ns vs f)))))
end Go.Proofs.YtngjhblbpapjeaaGreat.H
/- Walks: substitutions of the reference. No condition. -/
namespace Go.Proofs.YtngjhblbpapjeaaGreat.H
open Go Go.RowKit Go.Proofs.YtngjhblbpapjeaaGreatW.PrintWords Go.Proofs.YtngjhblbpapjeaaGreatW.PrintLast
open Go.Proofs.YtngjhblbpapjeaaGreat.Reg (On on_draw)
set_option maxHeartbeats 4000000
set_option maxRecDepth 100000
set_option linter.unusedVariables false
set_option linter.unusedSimpArgs false

theorem sIsValidSub_calls (w : World) (A0 c0 A1 c1) (ns vs : List Int) (h0 : Ints w A0 c0 ns) (h1 : Ints w A1 c1 vs) :
    Calls Tryz.prog 73 #[.agg #[.slice A0 ns.length c0, .slice A1 vs.length c1]] w fun e w' => e = .returned (.bool (okSub ns vs)) ∧ On w w' := by
  have hm0 := h0.max
  have hm1 := h1.max
  have hb := Aside0.mk (On.alloc (On.refl w) (.cells #[.slice A0 ns.length c0, .slice A1 vs.length c1] 58))
  have hL := Aside0.mk (loc1 w #[.slice A0 ns.length c0, .slice A1 vs.length c1] 58)
  by_cases hl : ns.length = vs.length
  · have hlb : ((ns.length : Int) == (vs.length : Int)) = true := by simp [hl]
    have hlc : ((ns.length : Int) != (vs.length : Int)) = false := by simp [bne, hlb]
    have hld : (ns.length == vs.length) = true := by simp [hl]
    have hl' := Aside0.mk hl
    clear hl
    go_enter Tryz.func73, Tryz.ntmps73
    go_wp2
    clear hlb hlc hld
    go_loopw [3] (fun v wr => ∃ k : Nat, k ≤ ns.length ∧ v = .int .i64 k ∧ Aside0 (subFrom (prevI ns k) (ns.drop k) (vs.drop k) = subFrom none ns vs) ∧ On w wr ∧ Loc wr [(w.heap.size, #[.slice A0 ns.length c0, .slice A1 vs.length c1], 58)]) (fun v _ => ns.length - (intOf v).toNat)
    case atStart => exact ⟨0, Nat.zero_le _, rfl, ⟨rfl⟩, hb.out, hL.out⟩
    case round =>
      obtain ⟨k, hk, rfl, hp, hB0, hL0⟩ := hrel
      have hc0 := blk_cell hL0.1
      have hL' := Aside0.mk hL0
      have hB := Aside0.mk hB0
      clear hL0
      by_cases hlt : k < ns.length
      · have hlt2 : k < vs.length := by have := hl'.out; omega
        obtain ⟨ad, rfl, hx⟩ := (h0.on hB0).at k hlt
        obtain ⟨bd, rfl, hy⟩ := (h1.on hB0).at k hlt2
        have hbd := h1.bd k hlt2
        have hst := Aside0.mk ((subFrom_step ns vs k hlt hlt2).symm.trans hp.out)
        clear hp hB0
        cases hi : within ns[k] 0 39 with
        | false =>
          have hi' := Aside0.mk hi
          clear hi
          go_wp2
          refine Reg.region [(0,.L),(1,.L),(2,.L),(3,.L),(4,.L),(5,.C),(6,.L),(7,.L),(8,.L),(9,.L),(10,.L),(11,.L),(12,.L),(13,.L),(14,.L),(15,.L),(16,.L),(17,.L),(18,.L),(19,.L),(20,.L),(21,.L),(22,.L),(23,.L),(24,.L),(25,.L),(26,.L),(27,.L),(28,.L),(29,.L),(30,.L),(31,.C),(32,.L),(33,.L)] [] (by kernel_rfl) (by kernel_rfl) ?_
          repeat first | refine sP ?_ | refine sS ?_ | refine sA ?_ | refine sL ?_ | refine sQ ?_ | refine sO ?_
          refine callC (.bool false) Tryz.func104 (fun w' hS => ?_) ?_
          focus exact (l1In_calls w' _ _ _).mono fun e w'' h => ⟨by rw [h.1, hi'.out], h.2⟩
          repeat first | refine sP ?_ | refine sS ?_ | refine sA ?_ | refine sL ?_ | refine sQ ?_ | refine sO ?_
          refine Reg.nil fun w2 hS => ?_
          go_wp2
          go_ret
          exact ⟨ret_bool (by have := hst.out; rw [hi'.out] at this; simp at this; simp [okSub, this]), hB.out.trans hS⟩
        | true =>
          have hi' := Aside0.mk hi
          clear hi
          by_cases hk0 : 0 < k
          · have hk0' : decide (0 < (k : Int)) = true := decide_eq_true (by omega)
            have hki : IntKind.i64.wrap ((k : Int) - 1) = ((k - 1 : Nat) : Int) := by rw [IntWalk.i64_in _ (by omega)]; omega
            have hk1 : k - 1 < ns.length := by omega
            obtain ⟨ad', e', hz⟩ := (h0.on hB.out).at (k - 1) hk1
            obtain rfl : ad = ad' := by simpa using e'
            have hpn : prevI ns k = some ns[k - 1] := by simp [prevI, show ¬ k = 0 by omega, show k - 1 < ns.length by omega]
            by_cases hc : ns[k] ≤ ns[k - 1]
            · have hcb : decide (ns[k] ≤ ns[k - 1]) = true := decide_eq_true hc
              have hp' := Aside0.mk (show okPrevI (prevI ns k) ns[k] = false by rw [hpn]; exact decide_eq_false (by omega))
              clear hc hpn
              go_wp2
              refine Reg.region [(0,.L),(1,.L),(2,.L),(3,.L),(4,.L),(5,.C),(6,.L),(7,.L),(8,.L),(9,.L),(10,.L),(11,.L),(12,.L),(13,.L),(14,.L),(15,.L),(16,.L),(17,.L),(18,.L),(19,.L),(20,.L),(21,.L),(22,.L),(23,.L),(24,.L),(25,.L),(26,.L),(27,.L),(28,.L),(29,.L),(30,.L),(31,.C),(32,.L),(33,.L)] [] (by kernel_rfl) (by kernel_rfl) ?_
              repeat first | refine sP ?_ | refine sS ?_ | refine sA ?_ | refine sL ?_ | refine sQ ?_ | refine sO ?_
              refine callC (.bool true) Tryz.func104 (fun w' hS => ?_) ?_
              focus exact (l1In_calls w' _ _ _).mono fun e w'' h => ⟨by rw [h.1, hi'.out], h.2⟩
              repeat first | refine sP ?_ | refine sS ?_ | refine sA ?_ | refine sL ?_ | refine sQ ?_ | refine sO ?_
              refine Reg.nil fun w2 hS => ?_
              go_wp2
              go_ret
              exact ⟨ret_bool (by have := hst.out; rw [hi'.out, hp'.out] at this; simp at this; simp [okSub, this]), hB.out.trans hS⟩
            · have hcb : decide (ns[k] ≤ ns[k - 1]) = false := decide_eq_false hc
              have hp' := Aside0.mk (show okPrevI (prevI ns k) ns[k] = true by rw [hpn]; exact decide_eq_true (by omega))
              clear hc hpn
              cases hv : okVal vs[k] with
              | true =>
                have hv' := Aside0.mk hv
                clear hv
                go_wp2
                refine Reg.region [(0,.L),(1,.L),(2,.L),(3,.L),(4,.L),(5,.C),(6,.L),(7,.L),(8,.L),(9,.L),(10,.L),(11,.L),(12,.L),(13,.L),(14,.L),(15,.L),(16,.L),(17,.L),(18,.L),(19,.L),(20,.L),(21,.L),(22,.L),(23,.L),(24,.L),(25,.L),(26,.L),(27,.L),(28,.L),(29,.L),(30,.L),(31,.C),(32,.L),(33,.L)] [] (by kernel_rfl) (by kernel_rfl) ?_
                repeat first | refine sP ?_ | refine sS ?_ | refine sA ?_ | refine sL ?_ | refine sQ ?_ | refine sO ?_
                refine callC (.bool true) Tryz.func104 (fun w' hS => ?_) ?_
                focus exact (l1In_calls w' _ _ _).mono fun e w'' h => ⟨by rw [h.1, hi'.out], h.2⟩
                repeat first | refine sP ?_ | refine sS ?_ | refine sA ?_ | refine sL ?_ | refine sQ ?_ | refine sO ?_
                refine callC (.bool true) Tryz.func105 (fun w' hS => ?_) ?_
                focus exact (IsValidValue_calls w' _ hbd.1).mono fun e w'' h => ⟨by rw [h.1, hv'.out], h.2⟩
                repeat first | refine sP ?_ | refine sS ?_ | refine sA ?_ | refine sL ?_ | refine sQ ?_ | refine sO ?_
                refine Reg.nil fun w2 hS => ?_
                go_wp2
                exact ⟨⟨k + 1, by omega, by go_num, ⟨by have := hst.out; rw [hi'.out, hp'.out, hv'.out] at this; simpa using this⟩, hB.out.trans hS, Loc.on hS hL'.out⟩, by simp [intOf]; omega⟩
              | false =>
                have hv' := Aside0.mk hv
                clear hv
                go_wp2
                refine Reg.region [(0,.L),(1,.L),(2,.L),(3,.L),(4,.L),(5,.C),(6,.L),(7,.L),(8,.L),(9,.L),(10,.L),(11,.L),(12,.L),(13,.L),(14,.L),(15,.L),(16,.L),(17,.L),(18,.L),(19,.L),(20,.L),(21,.L),(22,.L),(23,.L),(24,.L),(25,.L),(26,.L),(27,.L),(28,.L),(29,.L),(30,.L),(31,.C),(32,.L),(33,.L)] [] (by kernel_rfl) (by kernel_rfl) ?_
                repeat first | refine sP ?_ | refine sS ?_ | refine sA ?_ | refine sL ?_ | refine sQ ?_ | refine sO ?_
                refine callC (.bool true) Tryz.func104 (fun w' hS => ?_) ?_
                focus exact (l1In_calls w' _ _ _).mono fun e w'' h => ⟨by rw [h.1, hi'.out], h.2⟩
                repeat first | refine sP ?_ | refine sS ?_ | refine sA ?_ | refine sL ?_ | refine sQ ?_ | refine sO ?_
                refine callC (.bool false) Tryz.func105 (fun w' hS => ?_) ?_
                focus exact (IsValidValue_calls w' _ hbd.1).mono fun e w'' h => ⟨by rw [h.1, hv'.out], h.2⟩
                repeat first | refine sP ?_ | refine sS ?_ | refine sA ?_ | refine sL ?_ | refine sQ ?_ | refine sO ?_
                refine Reg.nil fun w2 hS => ?_
                go_wp2
                go_ret
                exact ⟨ret_bool (by have := hst.out; rw [hi'.out, hp'.out, hv'.out] at this; simp at this; simp [okSub, this]), hB.out.trans hS⟩
          · have hk0' : decide (0 < (k : Int)) = false := decide_eq_false (by omega)
            have hp' := Aside0.mk (show okPrevI (prevI ns k) ns[k] = true by simp [okPrevI, prevI, show k = 0 by omega])
            cases hv : okVal vs[k] with
            | true =>
              have hv' := Aside0.mk hv
              clear hv
              go_wp2
              refine Reg.region [(0,.L),(1,.L),(2,.L),(3,.L),(4,.L),(5,.C),(6,.L),(7,.L),(8,.L),(9,.L),(10,.L),(11,.L),(12,.L),(13,.L),(14,.L),(15,.L),(16,.L),(17,.L),(18,.L),(19,.L),(20,.L),(21,.L),(22,.L),(23,.L),(24,.L),(25,.L),(26,.L),(27,.L),(28,.L),(29,.L),(30,.L),(31,.C),(32,.L),(33,.L)] [] (by kernel_rfl) (by kernel_rfl) ?_
              repeat first | refine sP ?_ | refine sS ?_ | refine sA ?_ | refine sL ?_ | refine sQ ?_ | refine sO ?_
              refine callC (.bool true) Tryz.func104 (fun w' hS => ?_) ?_
              focus exact (l1In_calls w' _ _ _).mono fun e w'' h => ⟨by rw [h.1, hi'.out], h.2⟩
              repeat first | refine sP ?_ | refine sS ?_ | refine sA ?_ | refine sL ?_ | refine sQ ?_ | refine sO ?_
              refine callC (.bool true) Tryz.func105 (fun w' hS => ?_) ?_
              focus exact (IsValidValue_calls w' _ hbd.1).mono fun e w'' h => ⟨by rw [h.1, hv'.out], h.2⟩
              repeat first | refine sP ?_ | refine sS ?_ | refine sA ?_ | refine sL ?_ | refine sQ ?_ | refine sO ?_
              refine Reg.nil fun w2 hS => ?_
              go_wp2
              exact ⟨⟨k + 1, by omega, by go_num, ⟨by have := hst.out; rw [hi'.out, hp'.out, hv'.out] at this; simpa using this⟩, hB.out.trans hS, Loc.on hS hL'.out⟩, by simp [intOf]; omega⟩
            | false =>
              have hv' := Aside0.mk hv
              clear hv
              go_wp2
              refine Reg.region [(0,.L),(1,.L),(2,.L),(3,.L),(4,.L),(5,.C),(6,.L),(7,.L),(8,.L),(9,.L),(10,.L),(11,.L),(12,.L),(13,.L),(14,.L),(15,.L),(16,.L),(17,.L),(18,.L),(19,.L),(20,.L),(21,.L),(22,.L),(23,.L),(24,.L),(25,.L),(26,.L),(27,.L),(28,.L),(29,.L),(30,.L),(31,.C),(32,.L),(33,.L)] [] (by kernel_rfl) (by kernel_rfl) ?_
              repeat first | refine sP ?_ | refine sS ?_ | refine sA ?_ | refine sL ?_ | refine sQ ?_ | refine sO ?_
              refine callC (.bool true) Tryz.func104 (fun w' hS => ?_) ?_
              focus exact (l1In_calls w' _ _ _).mono fun e w'' h => ⟨by rw [h.1, hi'.out], h.2⟩
              repeat first | refine sP ?_ | refine sS ?_ | refine sA ?_ | refine sL ?_ | refine sQ ?_ | refine sO ?_
              refine callC (.bool false) Tryz.func105 (fun w' hS => ?_) ?_
              focus exact (IsValidValue_calls w' _ hbd.1).mono fun e w'' h => ⟨by rw [h.1, hv'.out], h.2⟩
              repeat first | refine sP ?_ | refine sS ?_ | refine sA ?_ | refine sL ?_ | refine sQ ?_ | refine sO ?_
              refine Reg.nil fun w2 hS => ?_
              go_wp2
              go_ret
              exact ⟨ret_bool (by have := hst.out; rw [hi'.out, hp'.out, hv'.out] at this; simp at this; simp [okSub, this]), hB.out.trans hS⟩
      · have hp' := Aside0.mk (show subFrom none ns vs = true by rw [← hp.out, List.drop_of_length_le (by omega)]; cases prevI ns k <;> rfl)
        clear hp hB0
        go_wp2
        go_ret
        exact ⟨ret_bool (by simp [okSub, hp'.out, hl'.out]), hB.out⟩
  · have hlb : ((ns.length : Int) == (vs.length : Int)) = false := by rw [beq_eq_false_iff_ne]; omega
    have hlc : ((ns.length : Int) != (vs.length : Int)) = true := by simp [bne, hlb]
    have hld : (ns.length == vs.length) = false := by simpa using hl
    have hl' := Aside0.mk hl
    clear hl
    go_enter Tryz.func73, Tryz.ntmps73
    go_wp2
    go_ret
    exact ⟨ret_bool (by simp [okSub, hl'.out]), hb.out⟩
theorem sNullValue_calls (w : World) (k : Int) (h : -9223372036854775000 ≤ k ∧ k ≤ 9223372036854775000) : Calls Tryz.prog 119 #[.int .i64 k] w fun e w' => e = .returned (.int .i64 (-1 - k)) ∧ On w w' := by
  go_enter Tryz.func119, Tryz.ntmps119
  go_wp2
  go_ret
  exact ⟨rfl, On.refl _⟩
theorem sApplyToValue_calls (w : World) (A0 c0 A1 c1) (ns vs : List Int) (h0 : Ints w A0 c0 ns) (h1 : Ints w A1 c1 vs) (x : Int) :
    Calls Tryz.prog 106 #[.agg #[.slice A0 ns.length c0, .slice A1 vs.length c1], .int .i64 x] w fun e w' => e = .returned (.int .i64 (appV ns vs x)) ∧ On w w' := by
  have hm0 := h0.max
  have hb := Aside0.mk (On.alloc (On.refl w) (.cells #[.slice A0 ns.length c0, .slice A1 vs.length c1] 58))
  have hL := Aside0.mk (loc1 w #[.slice A0 ns.length c0, .slice A1 vs.length c1] 58)
  cases ho : okSub ns vs with
  | false =>
    have ho' := Aside0.mk ho
    clear ho
    go_enter Tryz.func106, Tryz.ntmps106
    go_wp2
    go_loopw [5] (fun v wr => v = .int .i64 0 ∧ On w wr ∧ Loc wr [(w.heap.size, #[.slice A0 ns.length c0, .slice A1 vs.length c1], 58)]) (fun v _ => ns.length - (intOf v).toNat)
    case atStart => exact ⟨rfl, hb.out, hL.out⟩
    case round =>
      obtain ⟨rfl, hB0, hL0⟩ := hrel
      have hc0 := blk_cell hL0.1
      have hB := Aside0.mk hB0
      clear hL0 hB0
      by_cases hlt : 0 < ns.length
      · go_wp2_with (go_at_call 73; refine (sIsValidSub_calls _ A0 c0 A1 c1 ns vs (h0.on hB.out) (h1.on hB.out)).mono ?_; rintro e w2 ⟨rfl, hb2⟩; rw [ho'.out])
        go_ret
        exact ⟨ret_int (by simp [appV, ho'.out]), hB.out.trans hb2⟩
      · go_wp2
        go_ret
        exact ⟨ret_int (by simp [appV, ho'.out]), hB.out⟩
  | true =>
    have hsp := okSub_spec ho
    have hlen := Aside0.mk hsp.1
    have hnb := Aside0.mk hsp.2.1
    have ho' := Aside0.mk ho
    clear ho hsp
    go_enter Tryz.func106, Tryz.ntmps106
    go_wp2
    go_loopw [5] (fun v wr => ∃ k : Nat, k ≤ ns.length ∧ v = .int .i64 k ∧ Aside0 (findV (ns.drop k) (vs.drop k) x = findV ns vs x) ∧ On w wr ∧ Loc wr [(w.heap.size, #[.slice A0 ns.length c0, .slice A1 vs.length c1], 58)]) (fun v _ => ns.length - (intOf v).toNat)
    case atStart => exact ⟨0, Nat.zero_le _, rfl, ⟨rfl⟩, hb.out, hL.out⟩
    case round =>
      obtain ⟨k, hk, rfl, hp, hB0, hL0⟩ := hrel
      have hc0 := blk_cell hL0.1
      have hL' := Aside0.mk hL0
      have hB := Aside0.mk hB0
      clear hL0
      by_cases hlt : k < ns.length
      · have hlt2 : k < vs.length := by have := hlen.out; omega
        obtain ⟨ad, rfl, _⟩ := (h0.on hB0).at k hlt
        obtain ⟨bd, rfl, _⟩ := (h1.on hB0).at k hlt2
        have hst := Aside0.mk ((findV_step ns vs x k hlt hlt2).symm.trans hp.out)
        have hn := hnb.out _ (List.getElem_mem hlt)
        clear hp hB0
        by_cases hq : -1 - ns[k] = x
        · have hqb : (-1 - ns[k] == x) = true := by simpa using hq
          have hq' := Aside0.mk hq
          clear hq
          go_wp2_with (first
            | (go_at_call 73; refine (sIsValidSub_calls _ _ c0 _ c1 ns vs (h0.on hB.out) (h1.on hB.out)).mono ?_; rintro e w2 ⟨rfl, hb2⟩; rw [ho'.out]; have hc2 := blk_cell (Loc.on hb2 hL'.out).1; obtain ⟨ad', e', hx⟩ := (h0.on (hB.out.trans hb2)).at k hlt; obtain rfl : ad = ad' := (by simpa using e'); clear e')
            | (go_at_call 119; refine (sNullValue_calls _ _ (by omega)).mono ?_; rintro e w3 ⟨rfl, hb3⟩; have hc3 := blk_cell (Loc.on (hb2.trans hb3) hL'.out).1; obtain ⟨bd', e', hy⟩ := (h1.on (hB.out.trans (hb2.trans hb3))).at k hlt2; obtain rfl : bd = bd' := (by simpa using e'); clear e'))
          go_ret
          exact ⟨ret_int (by have := hst.out; rw [if_pos hq'.out] at this; simp [appV, ho'.out, ← this]), hB.out.trans (hb2.trans hb3)⟩
        · have hqb : (-1 - ns[k] == x) = false := by simpa using hq
          have hq' := Aside0.mk hq
          clear hq
          go_wp2_with (first
            | (go_at_call 73; refine (sIsValidSub_calls _ _ c0 _ c1 ns vs (h0.on hB.out) (h1.on hB.out)).mono ?_; rintro e w2 ⟨rfl, hb2⟩; rw [ho'.out]; have hc2 := blk_cell (Loc.on hb2 hL'.out).1; obtain ⟨ad', e', hx⟩ := (h0.on (hB.out.trans hb2)).at k hlt; obtain rfl : ad = ad' := (by simpa using e'); clear e')
            | (go_at_call 119; refine (sNullValue_calls _ _ (by omega)).mono ?_; rintro e w3 ⟨rfl, hb3⟩))
          exact ⟨⟨k + 1, by omega, by go_num, ⟨by have := hst.out; rwa [if_neg hq'.out] at this⟩, hB.out.trans (hb2.trans hb3), Loc.on (hb2.trans hb3) hL'.out⟩, by simp [intOf]; omega⟩
      · have hp' := Aside0.mk (show findV ns vs x = none by rw [← hp.out]; exact findV_nil ns vs x k (by omega))
        clear hp hB0
        go_wp2
        go_ret
        exact ⟨ret_int (by simp [appV, ho'.out, hp'.out]), hB.out⟩

theorem own1I (W : World) (x : Int) : OI (W.alloc (.cells #[.int .i64 x] 3 (0, 0))) W.heap.size (.slice (some ⟨W.heap.size, 0, none⟩) 1 1) [x] := lit_own W #[.int .i64 x] 3 1 1 W.heap.size (Nat.le_refl _) (by omega) rfl
theorem lit_RI {W w : World} {x : Int} (hx : -9223372036854775808 ≤ x ∧ x ≤ 9223372036854775807) (hb : On (W.alloc (.cells #[.int .i64 x] 3 (0, 0))) w) : kInts.C w (some ⟨W.heap.size, 0, none⟩) 1 [x] := by
  obtain ⟨A, c, e, h⟩ := OI.rd (pw_own_below (own1I W x) hb) (fun y hy => by simp at hy; subst hy; exact hx)
  injection e with e1 e2 e3
  subst e1
  exact h.2.1
theorem map_inR {ns vs xs : List Int} (h : InR xs) : InR (xs.map (appV ns vs)) := fun y hy => by
  obtain ⟨x, hx, rfl⟩ := List.mem_map.1 hy
  exact appV_bd (h x hx)
theorem sApplyToFact_calls (w : World) (A0 c0 A1 c1 A2 c2) (ns vs : List Int) (f : Fct) (h0 : Ints w A0 c0 ns) (h1 : Ints w A1 c1 vs) (h2 : Ints w A2 c2 f.2) (hl : f.2.length ≤ 2000000) :
    Calls Tryz.prog 74 #[.agg #[.slice A0 ns.length c0, .slice A1 vs.length c1], .agg #[.int .i64 f.1, .slice A2 f.2.length c2]] w (Got fun v w' => ∃ v1, v = .agg #[.int .i64 f.1, v1] ∧ OI w' w.heap.size v1 (f.2.map (appV ns vs)) ∧ On w w') := by
  have hb := Aside0.mk (On.alloc (On.alloc (On.alloc (On.refl w) (.cells #[.slice A0 ns.length c0, .slice A1 vs.length c1] 58)) (.cells #[.int .i64 f.1, .slice A2 f.2.length c2] 30)) (.cells #[.int .i64 0, .slice none 0 0] 30))
  have hL := Aside0.mk (loc3 w #[.slice A0 ns.length c0, .slice A1 vs.length c1] #[.int .i64 f.1, .slice A2 f.2.length c2] #[.int .i64 0, .slice none 0 0] 58 30 30)
  have hsz3 := Aside0.mk (show (((w.alloc (.cells #[.slice A0 ns.length c0, .slice A1 vs.length c1] 58)).alloc (.cells #[.int .i64 f.1, .slice A2 f.2.length c2] 30)).alloc (.cells #[.int .i64 0, .slice none 0 0] 30)).heap.size = w.heap.size + 3 by simp)
  have hfill := alloc_fill (((w.alloc (.cells #[.slice A0 ns.length c0, .slice A1 vs.length c1] 58)).alloc (.cells #[.int .i64 f.1, .slice A2 f.2.length c2] 30)).alloc (.cells #[.int .i64 0, .slice none 0 0] 30))
  go_enter Tryz.func74, Tryz.ntmps74
  go_wp2
  clear hfill
  obtain ⟨Wx, hWx⟩ : ∃ Wx, ((w.alloc (.cells #[.slice A0 ns.length c0, .slice A1 vs.length c1] 58)).alloc (.cells #[.int .i64 f.1, .slice A2 f.2.length c2] 30)).alloc (.cells #[.int .i64 0, .slice none 0 0] 30) = Wx := ⟨_, rfl⟩
  rw [hWx] at hb hL hsz3 ⊢
  clear hWx
  have hyb := Aside0.mk (show (Wx.alloc (.cells #[.int .i64 f.1, .slice none 0 0] 30)).heap[w.heap.size + 1 + 1 + 1]? = some (.cells #[.int .i64 f.1, .slice none 0 0] 30 (0, 0)) from by have h := loc_new Wx #[.int .i64 f.1, .slice none 0 0] 30; rw [hsz3.out] at h; exact h)
  have hBy := Aside0.mk (On.alloc (On.refl Wx) (.cells #[.int .i64 f.1, .slice none 0 0] 30))
  have hsy := Aside0.mk (show (Wx.alloc (.cells #[.int .i64 f.1, .slice none 0 0] 30)).heap.size = w.heap.size + 4 by simp [hsz3.out])
  obtain ⟨Wy, hWy⟩ : ∃ Wy, Wx.alloc (.cells #[.int .i64 f.1, .slice none 0 0] 30) = Wy := ⟨_, rfl⟩
  rw [hWy] at hyb hBy hsy ⊢
  clear hWy
  go_loopw [6] (fun v wr => ∃ (k : Nat) (xs : List Int) (A' : Option Addr) (c' : Nat), k ≤ f.2.length ∧ v = .int .i64 k ∧ Aside0 (xs = (f.2.take k).map (appV ns vs)) ∧ Aside0 (OI wr (w.heap.size + 4) (.slice A' xs.length c') xs) ∧ Aside0 (w.heap.size + 4 ≤ wr.heap.size) ∧ Aside0 (Ex (fun b => w.heap.size + 3 ≤ b) Wx wr) ∧ wr.heap[w.heap.size + 1 + 1 + 1]? = some (.cells #[.int .i64 f.1, .slice A' xs.length c'] 30 (0, 0))) (fun v _ => f.2.length - (intOf v).toNat)
  case atStart => exact ⟨0, [], none, 0, Nat.zero_le _, rfl, ⟨rfl⟩, ⟨World.ownsRow_nil _ _ _ _⟩, ⟨by rw [hsy.out]; exact Nat.le_refl _⟩, ⟨Ex.of_on hBy.out⟩, hyb.out⟩
  case round =>
    obtain ⟨k, xs, A', c', hk, rfl, hxs, hO, hsz, hE, hy⟩ := hrel
    have hlen := Aside0.mk (show xs.length = k by rw [hxs.out, List.length_map, List.length_take]; omega)
    have hLr := Aside0.mk (show Loc wr _ from Loc.on (Ex.to_on hE.out (fun i hi => by rw [hsz3.out]; exact hi)) hL.out)
    have hB := Aside0.mk (hb.out.trans (Ex.to_on hE.out (fun i hi => by rw [hsz3.out]; exact hi)))
    have hc0 := blk_cell hLr.out.1
    have hc1 := blk_cell hLr.out.2.1
    have hcy := blk_cell hy
    have hy' := Aside0.mk hy
    clear hy
    by_cases hlt : k < f.2.length
    · obtain ⟨ad, rfl, hx⟩ := (h2.on hB.out).at k hlt
      have hbd := h2.bd k hlt
      have hab := Aside0.mk (appV_bd (ns := ns) (vs := vs) hbd)
      go_wp2
      refine Reg.region [(0,.L),(1,.L),(2,.L),(3,.L),(4,.L),(5,.L),(6,.L),(7,.L),(8,.C),(9,.N)] [10,11,12] (by kernel_rfl) (by kernel_rfl) ?_
      repeat first | refine sP ?_ | refine sS ?_ | refine sA ?_ | refine sL ?_ | refine sQ ?_ | refine sO ?_
      refine callC (.int .i64 (appV ns vs f.2[k])) Tryz.func106 (fun w' hS => ?_) ?_
      focus exact sApplyToValue_calls w' A0 c0 A1 c1 ns vs (h0.on (hB.out.trans hS)) (h1.on (hB.out.trans hS)) f.2[k]
      refine stepM (fun w4 hS4 => ?_)
      go_wp2
      refine ⟨hS4.trans (On.alloc (On.refl _) _), ?_⟩
      refine Reg.tail_ fun w5 hS5 => ?_
      have hB5 := Aside0.mk ((hS4.trans (On.alloc (On.refl _) _)).trans hS5)
      have hO5 := Aside0.mk (pw_own_below hO.out hB5.out)
      obtain ⟨zs, hz⟩ : ∃ zs, xs ++ [appV ns vs f.2[k]] = zs := ⟨_, rfl⟩
      have hz' := Aside0.mk hz
      refine apI 27 hz (OI.to hO5.out) (lit_RI hab.out hS5) (Nat.le_trans hsz.out hB5.out.size) (by have := hlen.out; omega) fun v6 w6 hO6' hg6 hat6 => ?_
      have hO6 := OI.of hO6'
      obtain ⟨A6, c6, rfl⟩ := own_slice hO6
      have hgy : some (w.heap.size + 1 + 1 + 1) ≠ Value.ownBlock (.slice A' xs.length c') := fun e => by have := own_base hO.out _ e.symm; omega
      have hk6 := blk_grown hg6 (blk_below hy'.out hB5.out) hgy
      have hcy6 := blk_cell hk6
      have hf6 := blk_frozen hk6
      have hk6' := Aside0.mk hk6
      clear hk6 hgy hcy hz hat6 hO6'
      go_wp2
      refine ⟨⟨k + 1, zs, A6, c6, by omega, by go_num, ⟨?_⟩, ⟨ownsRow_setCell_below hO6 (by simp) _⟩, ⟨?_⟩, ⟨?_⟩, blk_set hk6'.out 1 _⟩, by simp [intOf]; omega⟩
      · rw [← hz'.out, List.take_succ_eq_append_getElem hlt, List.map_append, hxs.out]; rfl
      · have h3 := hg6.size; have h4 := hB5.out.size; have := hsz.out; simp [World.setCell]; omega
      · exact ((hE.out.then_on hB5.out).trans (Ex.of_grown hg6) (fun i _ e => by have := own_base hO5.out i e.symm; omega)).trans (Ex.set _ _ _) (fun i _ e => by have h : i = w.heap.size + 1 + 1 + 1 := e; omega)
    · have e1 : f.2.take k = f.2 := List.take_of_length_le (by omega)
      rw [e1] at hxs
      have hcr : ∀ i, wr.cell? ⟨w.heap.size + 1 + 1, i, none⟩ = _ := blk_cell hLr.out.2.2.1
      have hfr : ∀ i, wr.frozen? ⟨w.heap.size + 1 + 1, i, none⟩ = _ := blk_frozen hLr.out.2.2.1
      go_wp2
      refine bodyPost_ret (retF rfl rfl (g := w.heap.size + 2) (blk_set (blk_set hLr.out.2.2.1 0 _) 1 _) rfl) rfl ?_
      have hO2 := hO.out
      rw [hxs.out] at hO2
      refine ⟨_, rfl, _, rfl, ?_, Reg.On.set (Reg.On.set hB.out (by simp; omega) _) (by simp; omega) _⟩
      rw [hxs.out]
      exact own_lower (ownsRow_setCell_below (ownsRow_setCell_below hO2 (by simp) _) (by simp) _) (by omega)
/-- Two relations are the same. -/
def sameR (r q : Rel) : Bool := decide (r = q)
theorem sameR_eq (r q : Rel) : (r.1.toList == q.1.toList && (r.2.1 == q.2.1 && (r.2.2 == q.2.2))) = sameR r q := by
  obtain ⟨a, b, c⟩ := r
  obtain ⟨d, e, f⟩ := q
  rw [Bool.eq_iff_iff]
  simp only [sameR, Bool.and_eq_true, beq_iff_eq, decide_eq_true_eq, Prod.mk.injEq]
  rw [ByteArray.toList_eq, ByteArray.toList_eq, Array.toList_inj]
  exact ⟨fun h => ⟨ByteArray.ext h.1, h.2⟩, fun h => ⟨congrArg _ h.1, h.2⟩⟩
theorem eqRel (d : Nat) (w : World) (r q : Rel) :
    (Op.equalIn (d + 2) 81 (.agg #[.string r.1, .int .i64 r.2.1, .bool r.2.2]) (.agg #[.string q.1, .int .i64 q.2.1, .bool q.2.2])).run Tryz.prog w = .ok (sameR r q) w := by
  rw [← sameR_eq]
  refine eqA_of Tryz.underlying81 (by kernel_rfl) ?_
  refine eqf_cons (by rfl) (by go_simp; rfl) (by go_simp; rfl) (by go_simp) ?_
  refine eqf_cons (by rfl) (by go_simp; rfl) (by go_simp; rfl) (by go_simp) ?_
  exact eqf_last (by rfl) (by go_simp; rfl) (by go_simp; rfl) (by go_simp)
attribute [local go_sem high] eqRel
theorem l5Sigs_calls (w : World) (A c B d) (rs qs : List Rel) (h0 : Rels w A c rs) (h1 : Rels w B d qs) : Calls Tryz.prog 45 #[.slice A rs.length c, .slice B qs.length d] w fun e w' => e = .returned (.bool (decide (rs = qs))) ∧ On w w' := by
  have hm0 := h0.max
  have hm1 := h1.max
  by_cases hl : rs.length = qs.length
  · have hlb : ((rs.length : Int) == (qs.length : Int)) = true := by simp [hl]
    have hlc : ((rs.length : Int) != (qs.length : Int)) = false := by simp [bne, hlb]
    have hld : (rs.length == qs.length) = true := by simp [hl]
    have hl' := Aside0.mk hl
    clear hl
    go_enter Tryz.func45, Tryz.ntmps45
    go_wp2
    clear hlb hlc hld
    go_loopw [5] (fun v wr => ∃ k : Nat, k ≤ rs.length ∧ v = .int .i64 k ∧ Aside0 (rs.take k = qs.take k) ∧ On w wr) (fun v _ => rs.length - (intOf v).toNat)
    case atStart => exact ⟨0, Nat.zero_le _, rfl, ⟨rfl⟩, On.refl _⟩
    case round =>
      obtain ⟨k, hk, rfl, hp, hB⟩ := hrel
      by_cases hlt : k < rs.length
      · have hlt2 : k < qs.length := by have := hl'.out; omega
        obtain ⟨ad, rfl, hx0, hx1, hx2⟩ := (h0.on hB).at k hlt
        obtain ⟨bd, rfl, hy0, hy1, hy2⟩ := (h1.on hB).at k hlt2
        cases hq : sameR rs[k] qs[k] with
        | true =>
          have hq' := Aside0.mk (of_decide_eq_true hq : rs[k] = qs[k])
          go_wp2
          refine Reg.region [(0,.L),(1,.L),(2,.L),(3,.L),(4,.L),(5,.L),(6,.L),(7,.L),(8,.L)] [] (by kernel_rfl) (by kernel_rfl) ?_
          repeat first | refine sP ?_ | refine sS ?_ | refine sA ?_ | refine sL ?_ | refine sQ ?_ | refine sO ?_
          refine Reg.nil fun w2 hS => ?_
          clear hq
          go_wp2
          exact ⟨⟨k + 1, by omega, by go_num, ⟨by rw [List.take_succ_eq_append_getElem hlt, List.take_succ_eq_append_getElem hlt2, hp.out, hq'.out]⟩, hB.trans hS⟩, by simp [intOf]; omega⟩
        | false =>
          have hq' := Aside0.mk (of_decide_eq_false hq : ¬ rs[k] = qs[k])
          go_wp2
          refine Reg.region [(0,.L),(1,.L),(2,.L),(3,.L),(4,.L),(5,.L),(6,.L),(7,.L),(8,.L)] [] (by kernel_rfl) (by kernel_rfl) ?_
          repeat first | refine sP ?_ | refine sS ?_ | refine sA ?_ | refine sL ?_ | refine sQ ?_ | refine sO ?_
          refine Reg.nil fun w2 hS => ?_
          clear hq
          go_wp2
          go_ret
          exact ⟨ret_bool (by symm; exact decide_eq_false fun e => hq'.out (by subst e; rfl)), hB.trans hS⟩
      · have e1 : rs.take k = rs := List.take_of_length_le (by omega)
        have e2 : qs.take k = qs := List.take_of_length_le (by have := hl'.out; omega)
        rw [e1, e2] at hp
        go_wp2
        go_ret
        exact ⟨ret_bool (by symm; exact decide_eq_true hp.out), hB⟩
  · have hlb : ((rs.length : Int) == (qs.length : Int)) = false := by rw [beq_eq_false_iff_ne]; omega
    have hlc : ((rs.length : Int) != (qs.length : Int)) = true := by simp [bne, hlb]
    have hld : (rs.length == qs.length) = false := by simpa using hl
    have hl' := Aside0.mk hl
    clear hl
    go_enter Tryz.func45, Tryz.ntmps45
    go_wp2
    go_ret
    exact ⟨ret_bool (by symm; exact decide_eq_false fun e => hl'.out (congrArg _ e)), On.refl _⟩
end Go.Proofs.YtngjhblbpapjeaaGreat.H
/- Walks: the draws of relations, values, facts. What is told: sizes and ranges. No condition. -/
namespace Go.Proofs.YtngjhblbpapjeaaGreat.H
open Go Go.RowKit Go.Proofs.YtngjhblbpapjeaaGreatW.PrintWords Go.Proofs.YtngjhblbpapjeaaGreatW.PrintLast
open Go.Proofs.YtngjhblbpapjeaaGreat.Reg (On on_draw)
set_option maxHeartbeats 4000000
set_option maxRecDepth 100000
set_option linter.unusedVariables false
set_option linter.unusedSimpArgs false

/-- The relations of the draws. -/
def sigs : List Rel := [(⟨#[97]⟩, 2, true), (⟨#[98]⟩, 1, true), (⟨#[112]⟩, 2, false), (⟨#[113]⟩, 2, false), (⟨#[114]⟩, 1, false)]
theorem l3Sigs_calls (w : World) : Calls Tryz.prog 88 #[] w (Got fun v w' => OR w' w.heap.size v sigs ∧ On w w') := by
  have hb := Aside0.mk (On.alloc (On.refl w) (.cells #[.string ⟨#[97]⟩, .int .i64 2, .bool true, .string ⟨#[98]⟩, .int .i64 1, .bool true, .string ⟨#[112]⟩, .int .i64 2, .bool false, .string ⟨#[113]⟩, .int .i64 2, .bool false, .string ⟨#[114]⟩, .int .i64 1, .bool false] 81 (0, 0)))
  have hl := Aside0.mk (show OR (w.alloc (.cells #[.string ⟨#[97]⟩, .int .i64 2, .bool true, .string ⟨#[98]⟩, .int .i64 1, .bool true, .string ⟨#[112]⟩, .int .i64 2, .bool false, .string ⟨#[113]⟩, .int .i64 2, .bool false, .string ⟨#[114]⟩, .int .i64 1, .bool false] 81 (0, 0))) w.heap.size (.slice (some ⟨w.heap.size, 0, none⟩) 5 5) sigs from lit_own w #[.string ⟨#[97]⟩, .int .i64 2, .bool true, .string ⟨#[98]⟩, .int .i64 1, .bool true, .string ⟨#[112]⟩, .int .i64 2, .bool false, .string ⟨#[113]⟩, .int .i64 2, .bool false, .string ⟨#[114]⟩, .int .i64 1, .bool false] 81 3 5 w.heap.size (Nat.le_refl _) (by omega) rfl)
  go_enter Tryz.func88, Tryz.ntmps88
  go_wp2
  go_ret
  exact ⟨_, rfl, hl.out, hb.out⟩

theorem l4Value_calls (w0 w : World) (q : Nat) (hC : Cu w0 w q) (m : Int) (h0 : 0 ≤ m) (h2 : m ≤ 256) :
    Calls Tryz.prog 89 #[.pointer (some ⟨q, 0, none⟩), .int .i64 m] w (Dr w0 w q fun v _ => ∃ x : Int, v = .int .i64 x ∧ -256 ≤ x ∧ x ≤ 256) := by
  have hC' := Aside0.mk hC
  have h2' := Aside0.mk h2
  clear hC h2
  by_cases hm : 0 < m
  · have hm' := Aside0.mk hm
    have hmb : decide (0 < m) = true := decide_eq_true hm
    clear hm h0
    go_enter Tryz.func89, Tryz.ntmps89
    go_wp2_with (go_at_call 110; refine Stop.out ?_)
    refine ⟨(l1Once_calls w0 _ q hC'.out 2 (by omega) (by omega)).mono ?_⟩
    rintro e w1 ⟨v, rfl, ⟨b, rfl⟩, hC1, hE1⟩
    have hC1' := Aside0.mk hC1
    clear hC1
    cases b with
    | true =>
      go_wp2_with (go_at_call 44; refine Stop.out ?_)
      refine ⟨(l1Below_calls w0 _ q hC1'.out m (by have := hm'.out; omega) h2'.out).mono ?_⟩
      rintro e w3 ⟨v, rfl, ⟨x, rfl, hx⟩, hC3, hE3⟩
      replace hx := Aside0.mk hx
      go_wp2_with (go_at_call 119; refine Stop.out ?_)
      refine ⟨(sNullValue_calls _ x (by have := hx.out; have := h2'.out; omega)).mono ?_⟩
      rintro e w4 ⟨rfl, hb4⟩
      go_wp2
      go_ret
      exact ⟨_, rfl, ⟨_, rfl, by have := hx.out; have := h2'.out; omega⟩, hC3.next hb4, (hE1.trans hE3 fun _ _ h => h).then_on hb4⟩
    | false =>
      go_wp2_with (go_at_call 44; refine Stop.out ?_)
      refine ⟨(l1Below_calls w0 _ q hC1'.out 3 (by omega) (by omega)).mono ?_⟩
      rintro e w3 ⟨v, rfl, ⟨x, rfl, hx⟩, hC3, hE3⟩
      replace hx := Aside0.mk hx
      go_wp2
      go_ret
      exact ⟨_, rfl, ⟨_, rfl, by have := hx.out; omega⟩, hC3, hE1.trans hE3 fun _ _ h => h⟩
  · have hmb : decide (0 < m) = false := decide_eq_false hm
    clear hm h0
    go_enter Tryz.func89, Tryz.ntmps89
    go_wp2_with (go_at_call 44; refine Stop.out ?_)
    refine ⟨(l1Below_calls w0 _ q hC'.out 3 (by omega) (by omega)).mono ?_⟩
    rintro e w3 ⟨v, rfl, ⟨x, rfl, hx⟩, hC3, hE3⟩
    replace hx := Aside0.mk hx
    go_wp2
    go_ret
    exact ⟨_, rfl, ⟨_, rfl, by have := hx.out; omega⟩, hC3, hE3⟩
end Go.Proofs.YtngjhblbpapjeaaGreat.H
