/- Walks: copies, and what the program holds to be in an instance. No condition. -/
import Derived.Test.YtngjhblbpapjeaaHC4
import Derived.Test.YtngjhblbpapjeaaHB8
namespace Go.Proofs.Ytngjhblbpapjeaa.H
open Go Go.RowKit Go.Proofs.YtngjhblbpapjeaaW.PrintWords Go.Proofs.YtngjhblbpapjeaaW.PrintLast
open Go.Proofs.Ytngjhblbpapjeaa.Reg (On on_draw)
set_option maxHeartbeats 1000000
set_option maxRecDepth 100000
set_option linter.unusedVariables false
set_option linter.unusedSimpArgs false

theorem iContainsFact_calls (w : World) (A0 c0 A1 c1) (rs : List Rel) (fs : List Fct) (h0 : Rels w A0 c0 rs) (h1 : Fcts w A1 c1 fs) (A2 c2) (g : Fct) (h2 : Ints w A2 c2 g.2) :
    Calls Try.prog 88 #[.agg #[.slice A0 rs.length c0, .slice A1 fs.length c1], .agg #[.int .i64 g.1, .slice A2 g.2.length c2]] w fun e w' => e = .returned (.bool (okInst rs fs && hasF fs g)) ∧ On w w' := by
  have hb := Aside0.mk (On.alloc (On.alloc (On.refl w) (.cells #[.slice A0 rs.length c0, .slice A1 fs.length c1] 32)) (.cells #[.int .i64 g.1, .slice A2 g.2.length c2] 55))
  have hL := Aside0.mk (loc2 w #[.slice A0 rs.length c0, .slice A1 fs.length c1] #[.int .i64 g.1, .slice A2 g.2.length c2] 32 55)
  cases ho : okInst rs fs with
  | false =>
    have ho' := Aside0.mk ho
    clear ho
    go_enter Try.func88, Try.ntmps88
    go_wp2_with (go_at_call 66; refine (iIsValidInstance_calls _ A0 c0 A1 c1 rs fs (h0.on hb.out) (h1.on hb.out)).mono ?_; rintro e w1 ⟨rfl, hb1⟩; rw [ho'.out])
    go_ret
    exact ⟨by simp, hb.out.trans hb1⟩
  | true =>
    have ho' := Aside0.mk ho
    clear ho
    go_enter Try.func88, Try.ntmps88
    go_wp2_with (first | (go_at_call 66; refine (iIsValidInstance_calls _ A0 c0 A1 c1 rs fs (h0.on hb.out) (h1.on hb.out)).mono ?_; rintro e w1 ⟨rfl, hb1⟩; rw [ho'.out]; have hL1 := Loc.on hb1 hL.out; have hc0 := blk_cell hL1.1; have hc1 := blk_cell hL1.2.1; clear hL1) | (go_at_call 84; refine (hasFact_calls w1 A1 c1 fs (h1.on (hb.out.trans hb1)) A2 c2 g (h2.on (hb.out.trans hb1))).mono ?_; rintro e w2 ⟨rfl, hb2⟩))
    go_ret
    exact ⟨ret_bool (by simp [hasF]), (hb.out.trans hb1).trans hb2⟩
theorem cloneI_calls (w : World) (A c) (xs : List Int) (h : Ints w A c xs) (hl : xs.length ≤ 5000000000) : Calls Try.prog 140 #[.slice A xs.length c] w (Got fun v w' => OI w' w.heap.size v xs ∧ On w w') := by
  have q : ∀ (w : World) (a : Option Addr) (n c n' c' : Nat), (binOp .eql 27 (.slice a n c) (.slice none n' c')).run Try.prog w = .ok (.bool a.isNone) w := fun w a n c n' c' => Lib.run_eql_slice_nil w _ _ a n c n' c' Try.underlying27
  cases A with
  | none =>
    obtain rfl : xs = [] := by
      cases xs with
      | nil => rfl
      | cons x xs => obtain ⟨ad, e, _⟩ := h.at 0 (by simp); cases e
    go_enter Try.func140, Try.ntmps140
    go_wp2
    go_ret
    exact ⟨_, rfl, World.ownsRow_nil _ _ _ _, On.refl _⟩
  | some ad =>
    go_enter Try.func140, Try.ntmps140
    go_wp2_with (refine gate 7 ?_)
    refine ⟨apIf 7 (List.nil_append _) (lit_own w #[] 3 1 0 w.heap.size (Nat.le_refl _) (by omega) rfl) rfl (h.on (On.alloc (On.refl _) _)) (by simp) (by omega) fun v1 w1 hO1 hb1 => ?_⟩
    go_wp2
    go_ret
    exact ⟨_, rfl, hO1, (On.alloc (On.refl _) _).trans hb1⟩
theorem cloneR_calls (w : World) (A c) (xs : List Rel) (h : Rels w A c xs) (hl : xs.length ≤ 2000000) : Calls Try.prog 111 #[.slice A xs.length c] w (Got fun v w' => OR w' w.heap.size v xs ∧ On w w') := by
  have q : ∀ (w : World) (a : Option Addr) (n c n' c' : Nat), (binOp .eql 29 (.slice a n c) (.slice none n' c')).run Try.prog w = .ok (.bool a.isNone) w := fun w a n c n' c' => Lib.run_eql_slice_nil w _ _ a n c n' c' Try.underlying29
  cases A with
  | none =>
    obtain rfl : xs = [] := by
      cases xs with
      | nil => rfl
      | cons x xs => obtain ⟨ad, e, _⟩ := h.at 0 (by simp); cases e
    go_enter Try.func111, Try.ntmps111
    go_wp2
    go_ret
    exact ⟨_, rfl, World.ownsRow_nil _ _ _ _, On.refl _⟩
  | some ad =>
    go_enter Try.func111, Try.ntmps111
    go_wp2_with (refine gate 7 ?_)
    refine ⟨apRf 7 (List.nil_append _) (lit_own w #[] 87 3 0 w.heap.size (Nat.le_refl _) (by omega) rfl) rfl (h.on (On.alloc (On.refl _) _)) (by simp) (by omega) fun v1 w1 hO1 hb1 => ?_⟩
    go_wp2
    go_ret
    exact ⟨_, rfl, hO1, (On.alloc (On.refl _) _).trans hb1⟩
theorem factCopy_calls (w : World) (A c) (f : Fct) (h : Ints w A c f.2) (hl : f.2.length ≤ 2000000) : Calls Try.prog 121 #[.agg #[.int .i64 f.1, .slice A f.2.length c]] w (Got fun v w' => ∃ v1, v = .agg #[.int .i64 f.1, v1] ∧ OI w' w.heap.size v1 f.2 ∧ On w w') := by
  have hb := Aside0.mk (On.alloc (On.alloc (On.refl w) (.cells #[.int .i64 f.1, .slice A f.2.length c] 55)) (.cells #[.int .i64 0, .slice none 0 0] 55))
  have hL := Aside0.mk (loc2 w #[.int .i64 f.1, .slice A f.2.length c] #[.int .i64 0, .slice none 0 0] 55 55)
  go_enter Try.func121, Try.ntmps121
  go_wp2
  refine Reg.region [(0,.L),(1,.L),(2,.L),(3,.L),(4,.N),(5,.L)] [6] (by kernel_rfl) (by kernel_rfl) ?_
  repeat first | refine sP ?_ | refine sS ?_ | refine sA ?_ | refine sL ?_ | refine sQ ?_ | refine sO ?_
  refine callN Try.func140 (fun w2 hS2 => ?_)
  refine (cloneI_calls w2 A c f.2 (h.on (hb.out.trans hS2)) (by omega)).mono ?_
  rintro e w3 ⟨v3, rfl, hO3, hb3⟩
  obtain ⟨A3, c3, rfl⟩ := own_slice hO3
  refine ⟨_, rfl, hb3, fun a' ha => ?_⟩
  simp only [Act.put, List.setIfInBounds_toArray, List.set_cons_zero, List.set_cons_succ] at ha
  subst ha
  repeat first | refine sP ?_ | refine sS ?_ | refine sA ?_ | refine sL ?_ | refine sQ ?_ | refine sO ?_
  refine Reg.tail_ fun w4 hS4 => ?_
  have hk := (Loc.on (hS2.trans (hb3.trans hS4)) hL.out).2.1
  have hc := blk_cell hk
  have hf := blk_frozen hk
  have hk' := Aside0.mk hk
  have hsz := hS2.size
  simp only [World.size_alloc] at hsz
  clear hk
  go_wp2
  refine bodyPost_ret (retF rfl rfl (g := w.heap.size + 1) (blk_set (blk_set hk'.out 0 _) 1 _) rfl) rfl ?_
  exact ⟨_, rfl, _, rfl, own_lower (ownsRow_setCell_below (ownsRow_setCell_below (pw_own_below hO3 hS4) (by simp; omega) _) (by simp; omega) _) (by omega), Reg.On.set (Reg.On.set ((hb.out.trans hS2).trans (hb3.trans hS4)) (by simp) _) (by simp) _⟩
theorem factsCopy_calls (w : World) (A c) (fs : List Fct) (h : Fcts w A c fs) (hl : fs.length ≤ 2000000) (hl2 : ∀ f ∈ fs, f.2.length ≤ 2000000) : Calls Try.prog 112 #[.slice A fs.length c] w (Got fun v w' => ∃ hs, OH w' w.heap.size v hs ∧ Sep w' w.heap.size hs fs ∧ On w w') := by
  go_enter Try.func112, Try.ntmps112
  go_wp2
  go_loopw [3, 9] (fun v3 v9 wr => ∃ (k : Nat) (hs : List Hdr) (A' : Option Addr) (c' : Nat), k ≤ fs.length ∧ v3 = .slice A' hs.length c' ∧ v9 = .int .i64 k ∧ Aside0 (OH wr w.heap.size (.slice A' hs.length c') hs) ∧ Aside0 (Sep wr w.heap.size hs (fs.take k)) ∧ On w wr) (fun _ v9 _ => fs.length - (intOf v9).toNat)
  case atStart => exact ⟨0, [], _, _, Nat.zero_le _, rfl, rfl, ⟨lit_own w #[] 55 2 0 w.heap.size (Nat.le_refl _) (by omega) rfl⟩, ⟨Sep.nil _ _⟩, On.alloc (On.refl _) _⟩
  case round =>
    obtain ⟨k, hs, A', c', hk, rfl, rfl, hO, hS, hB⟩ := hrel
    have hlen := Aside0.mk (show hs.length = k by have := hS.out.len; rw [List.length_take] at this; omega)
    by_cases hlt : k < fs.length
    · obtain ⟨ad, A3, c3, rfl, hx0, hx1, hx2⟩ := (h.on hB).at k hlt
      have hfill := alloc_fill wr
      have hcn := blk_cell (loc_new wr #[.int .i64 fs[k].1, .slice A3 fs[k].2.length c3] 55)
      have hbx := Aside0.mk (On.alloc (On.refl wr) (.cells #[.int .i64 fs[k].1, .slice A3 fs[k].2.length c3] 55))
      have hl3 := hl2 _ (List.getElem_mem hlt)
      go_wp2_with (first
        | (go_at_call 121; refine (factCopy_calls _ A3 c3 fs[k] (hx2.on hbx.out) hl3).mono ?_; rintro e w3 ⟨v3, rfl, v4, rfl, hO4, hb3⟩; obtain ⟨A4, c4, rfl⟩ := own_slice hO4; have hO4' := Aside0.mk (own_lower hO4 hbx.out.size); have hb3' := Aside0.mk (hbx.out.trans hb3); clear hO4 hb3 hfill hcn)
        | (refine gate 17 ?_))
      obtain ⟨zs, hz⟩ : ∃ zs, hs ++ [(fs[k].1, A4, fs[k].2.length, c4)] = zs := ⟨_, rfl⟩
      have hB6 := Aside0.mk (hb3'.out.trans (On.alloc (On.refl _) (.cells #[.int .i64 fs[k].1, .slice A4 fs[k].2.length c4] 55)))
      have hO6 := Aside0.mk (pw_own_below hO.out hB6.out)
      refine ⟨apH 17 hz hO6.out (lit_RH (On.refl _)) (Nat.le_trans hB.size hB6.out.size) (by have := hlen.out; simp; omega) fun v7 w7 hO7 hg7 => ?_⟩
      obtain ⟨A7, c7, rfl⟩ := own_slice hO7
      have hS7 := Aside0.mk (copy_more (r := fs[k].1) (vs := fs[k].2) hS.out hB.size hO.out hO4'.out hx2.2.2 hb3'.out (On.alloc (On.refl _) _) hg7)
      have hS7 := Aside0.mk (hz ▸ hS7.out)
      clear hz
      go_wp2
      refine ⟨⟨k + 1, zs, A7, c7, by omega, rfl, by go_num, ⟨hO7⟩, ⟨?_⟩, own_grows (hB.trans hB6.out) hO6.out hg7 (Nat.le_refl _)⟩, by simp [intOf]; omega⟩
      rw [List.take_succ_eq_append_getElem hlt]; exact hS7.out
    · have e1 : fs.take k = fs := List.take_of_length_le (by omega)
      rw [e1] at hS
      go_wp2
      go_ret
      exact ⟨_, rfl, hs, hO.out, hS.out, hB⟩
theorem instanceCopy_calls (w : World) (A0 c0 A1 c1) (rs : List Rel) (fs : List Fct) (h0 : Rels w A0 c0 rs) (h1 : Fcts w A1 c1 fs) (hl0 : rs.length ≤ 2000000) (hl : fs.length ≤ 2000000) (hl2 : ∀ f ∈ fs, f.2.length ≤ 2000000) : Calls Try.prog 67 #[.agg #[.slice A0 rs.length c0, .slice A1 fs.length c1]] w (Got fun v w' => OIn w' w.heap.size v rs fs ∧ On w w') := by
  have hb := Aside0.mk (On.alloc (On.alloc (On.refl w) (.cells #[.slice A0 rs.length c0, .slice A1 fs.length c1] 32)) (.cells #[.slice none 0 0, .slice none 0 0] 32))
  have hL := Aside0.mk (loc2 w #[.slice A0 rs.length c0, .slice A1 fs.length c1] #[.slice none 0 0, .slice none 0 0] 32 32)
  go_enter Try.func67, Try.ntmps67
  go_wp2
  refine Reg.region [(0,.L),(1,.L),(3,.L),(4,.L),(2,.N),(5,.N),(6,.L)] [7] (by kernel_rfl) (by kernel_rfl) ?_
  repeat first | refine sP ?_ | refine sS ?_ | refine sA ?_ | refine sL ?_ | refine sQ ?_ | refine sO ?_
  refine callN Try.func111 (fun w2 hS2 => ?_)
  refine (cloneR_calls w2 A0 c0 rs (h0.on (hb.out.trans hS2)) hl0).mono ?_
  rintro e w3 ⟨v3, rfl, hO3, hb3⟩
  obtain ⟨A3, c3, rfl⟩ := own_slice hO3
  refine ⟨_, rfl, hb3, fun a' ha => ?_⟩
  simp only [Act.put, List.setIfInBounds_toArray, List.set_cons_zero, List.set_cons_succ] at ha
  subst ha
  refine callN Try.func112 (fun w4 hS4 => ?_)
  refine (factsCopy_calls w4 A1 c1 fs (h1.on ((hb.out.trans hS2).trans (hb3.trans hS4))) hl hl2).mono ?_
  rintro e w5 ⟨v5, rfl, hs, hO5, hS5, hb5⟩
  obtain ⟨A5, c5, rfl⟩ := own_slice hO5
  refine ⟨_, rfl, hb5, fun a' ha => ?_⟩
  simp only [Act.put, List.setIfInBounds_toArray, List.set_cons_zero, List.set_cons_succ] at ha
  subst ha
  repeat first | refine sP ?_ | refine sS ?_ | refine sA ?_ | refine sL ?_ | refine sQ ?_ | refine sO ?_
  refine Reg.tail_ fun w6 hS6 => ?_
  have hk := (Loc.on (hS2.trans (hb3.trans (hS4.trans (hb5.trans hS6)))) hL.out).2.1
  have hc := blk_cell hk
  have hf := blk_frozen hk
  have hk' := Aside0.mk hk
  have hsz := hS2.size
  have hsz2 := (hb3.trans hS4).size
  simp only [World.size_alloc] at hsz
  clear hk
  go_wp2
  refine bodyPost_ret (retI rfl rfl (g := w.heap.size + 1) (blk_set (blk_set hk'.out 0 _) 1 _) rfl) rfl ?_
  have hI : OIn w6 (w.heap.size + 2) (.agg #[.slice A3 rs.length c3, .slice A5 hs.length c5]) rs fs := ⟨_, _, hs, rfl, own_lower (pw_own_below hO3 (hS4.trans (hb5.trans hS6))) (by omega), own_lower (pw_own_below hO5 hS6) (by omega), (hS5.on hS6).lower (by omega)⟩
  exact ⟨_, rfl, OIn.lower (OIn.set (OIn.set hI (by simp) _) (by simp) _) (by omega), Reg.On.set (Reg.On.set ((hb.out.trans hS2).trans (hb3.trans (hS4.trans (hb5.trans hS6)))) (by simp) _) (by simp) _⟩
end Go.Proofs.Ytngjhblbpapjeaa.H
