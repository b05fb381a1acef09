/- Walk: the law FnExactRestrict. No condition. -/
import Derived.Test.YtngjhblbpapjeaaHC6
import Derived.Test.YtngjhblbpapjeaaHL9
namespace Go.Proofs.Ytngjhblbpapjeaa.H
open Go Go.RowKit Go.Proofs.YtngjhblbpapjeaaW.PrintWords Go.Proofs.YtngjhblbpapjeaaW.PrintLast
open Go.Proofs.Ytngjhblbpapjeaa.Reg (On on_draw)
set_option maxHeartbeats 8000000
set_option maxRecDepth 100000
set_option linter.unusedVariables false
set_option linter.unusedSimpArgs false

theorem sRestrictV (w : World) (v : Value) (rs : List Rel) (fs : List Fct) (b : Bool) (h : RIn w v rs fs) : Calls Try.prog 21 #[v, .bool b] w (Got fun v w' => RIn w' v (resR rs fs) (resI rs fs b) ∧ On w w') := by
  obtain ⟨A0, c0, A1, c1, rfl, h0, h1⟩ := h.out
  exact sRestrict_calls w A0 c0 A1 c1 rs fs b h0 h1
theorem iRestrictV (w : World) (v : Value) (rs : List Rel) (fs : List Fct) (b : Bool) (h : RIn w v rs fs) : Calls Try.prog 22 #[v, .bool b] w (Got fun v w' => OIn w' w.heap.size v (resR rs fs) (resI rs fs b) ∧ On w w') := by
  obtain ⟨A0, c0, A1, c1, rfl, h0, h1⟩ := h.out
  exact iRestrict_calls w A0 c0 A1 c1 rs fs b h0 h1
theorem resI_mk (rs : List Rel) (fs : List Fct) (b : Bool) : mkI (resR rs fs) (resI rs fs b) ≤ 1000 := by
  unfold resR resI
  cases ho : okInst rs fs with
  | false => simp [mkI, wF]
  | true =>
    rw [if_pos rfl, if_pos rfl]
    have h1 := okInst_len ho
    have h2 := wF_small (resF rs fs b) (fun f hf => okFact_len (okInst_mem ho f ((List.mem_filter.1 hf).1)))
    have h3 : (resF rs fs b).length ≤ fs.length := List.length_filter_le _ _
    unfold mkI; omega
theorem FnExactRestrict_calls (w : World) (V0 : Value) (rs0 : List Rel) (fs0 : List Fct) (hA0 : RIn w V0 rs0 fs0) (hZ0 : ∀ r ∈ rs0, r.1.size ≤ 9223372036854775807) (b1 : Bool) : Calls Try.prog 4 #[V0, .bool b1] w fun e w' => e = .returned (.bool true) ∧ On w w' := by
  have hW := Aside0.mk (On.refl w)
  obtain ⟨ua0, la0, xa0, ub0, lb0, xb0, rfl⟩ := hA0.shape
  have oA0 := Aside0.mk (On.refl w)
  replace hW := Aside0.mk (hW.out.trans (On.alloc (On.refl w) (.cells #[.slice ua0 la0 xa0, .slice ub0 lb0 xb0] 25)))
  replace oA0 := Aside0.mk (oA0.out.trans (On.alloc (On.refl w) (.cells #[.slice ua0 la0 xa0, .slice ub0 lb0 xb0] 25)))
  have n2 := Aside0.mk (show (w.alloc (.cells #[.slice ua0 la0 xa0, .slice ub0 lb0 xb0] 25)).heap.size = w.heap.size + 1 from by simp)
  have kp0 := Aside0.mk (loc_new w #[.slice ua0 la0 xa0, .slice ub0 lb0 xb0] 25)
  have cp0 := blk_cell kp0.out
  have hmk0 := Aside0.mk (mkI_le rs0 fs0)
  have hmkG := Aside0.mk (resI_mk rs0 fs0 b1)
  go_enter Try.func4, Try.ntmps4
  go_wp2_with (refine gate 15 ?_)
  refine ⟨goesF 15 Try.func12 ((szI_calls _ _ rs0 fs0 1048576 (by omega) (by omega) (hA0.on oA0.out) hZ0).mono ?_)⟩
  rintro e w1 ⟨q1, rfl, hq0, hb1⟩
  refine ⟨_, rfl, ?_⟩
  have hq1 := Aside0.mk hq0
  clear hq0
  replace hW := Aside0.mk (hW.out.trans hb1)
  replace kp0 := Aside0.mk (blk_below kp0.out hb1)
  replace cp0 := blk_cell kp0.out
  replace oA0 := Aside0.mk (oA0.out.trans hb1)
  have n3 := Aside0.mk (show (w.alloc (.cells #[.slice ua0 la0 xa0, .slice ub0 lb0 xb0] 25)).heap.size ≤ w1.heap.size from hb1.size)
  clear hb1
  by_cases hneg1 : q1 < 0
  · go_wp2
    go_ret
    exact ⟨rfl, hW.out⟩
  have hz0 := Aside0.mk (show wR rs0 + wF fs0 ≤ 1048576 by have := hq1.out (by omega); omega)
  go_wp2_with (refine gate 19 ?_)
  refine ⟨goesF 19 Try.func14 ((toI_calls _ _ rs0 fs0 (hA0.on oA0.out) hz0.out).mono ?_)⟩
  rintro e w2 ⟨v1, rfl, hO0, hb1⟩
  refine ⟨_, rfl, ?_⟩
  have hS0 := Aside0.mk hO0.b
  clear hO0
  replace hW := Aside0.mk (hW.out.trans hb1)
  replace kp0 := Aside0.mk (blk_below kp0.out hb1)
  replace cp0 := blk_cell kp0.out
  replace oA0 := Aside0.mk (oA0.out.trans hb1)
  have n4 := Aside0.mk (show w1.heap.size ≤ w2.heap.size from hb1.size)
  clear hb1
  obtain ⟨uaS0, laS0, xaS0, ubS0, lbS0, xbS0, rfl⟩ := (hS0.out.read).shape
  go_wp2_with (refine gate 21 ?_)
  refine ⟨goesF 21 Try.func21 ((sRestrictV _ _ rs0 fs0 b1 hS0.out.read).mono ?_)⟩
  rintro e w3 ⟨v1, rfl, hO0, hb1⟩
  refine ⟨_, rfl, ?_⟩
  have hR := Aside0.mk hO0
  clear hO0
  replace hW := Aside0.mk (hW.out.trans hb1)
  replace kp0 := Aside0.mk (blk_below kp0.out hb1)
  replace cp0 := blk_cell kp0.out
  replace oA0 := Aside0.mk (oA0.out.trans hb1)
  replace hS0 := Aside0.mk (hS0.out.on hb1)
  have n5 := Aside0.mk (show w2.heap.size ≤ w3.heap.size from hb1.size)
  clear hb1
  have oR := Aside0.mk (On.refl w3)
  obtain ⟨uaR, laR, xaR, ubR, lbR, xbR, rfl⟩ := (hR.out).shape
  have hfill := alloc_fill w3
  replace hW := Aside0.mk (hW.out.trans (On.alloc (On.refl w3) (.cells #[.slice uaR laR xaR, .slice ubR lbR xbR] 32)))
  replace kp0 := Aside0.mk (blk_below kp0.out (On.alloc (On.refl w3) (.cells #[.slice uaR laR xaR, .slice ubR lbR xbR] 32)))
  replace cp0 := blk_cell kp0.out
  replace oA0 := Aside0.mk (oA0.out.trans (On.alloc (On.refl w3) (.cells #[.slice uaR laR xaR, .slice ubR lbR xbR] 32)))
  replace oR := Aside0.mk (oR.out.trans (On.alloc (On.refl w3) (.cells #[.slice uaR laR xaR, .slice ubR lbR xbR] 32)))
  replace hS0 := Aside0.mk (hS0.out.on (On.alloc (On.refl w3) (.cells #[.slice uaR laR xaR, .slice ubR lbR xbR] 32)))
  have n7 := Aside0.mk (show (w3.alloc (.cells #[.slice uaR laR xaR, .slice ubR lbR xbR] 32)).heap.size = w3.heap.size + 1 from by simp)
  have kbR := Aside0.mk (loc_new w3 #[.slice uaR laR xaR, .slice ubR lbR xbR] 32)
  have cbR := blk_cell kbR.out
  go_wp2_with (refine gate 23 ?_)
  try clear hfill
  refine ⟨goesF 23 Try.func14 ((toI_calls _ _ rs0 fs0 (hA0.on oA0.out) hz0.out).mono ?_)⟩
  rintro e w4 ⟨v1, rfl, hO0, hb1⟩
  refine ⟨_, rfl, ?_⟩
  have hX0 := Aside0.mk hO0.b
  clear hO0
  replace hW := Aside0.mk (hW.out.trans hb1)
  replace kp0 := Aside0.mk (blk_below kp0.out hb1)
  replace kbR := Aside0.mk (blk_below kbR.out hb1)
  replace cp0 := blk_cell kp0.out
  replace cbR := blk_cell kbR.out
  replace oA0 := Aside0.mk (oA0.out.trans hb1)
  replace oR := Aside0.mk (oR.out.trans hb1)
  have n8 := Aside0.mk (show (w3.alloc (.cells #[.slice uaR laR xaR, .slice ubR lbR xbR] 32)).heap.size ≤ w4.heap.size from hb1.size)
  clear hb1
  obtain ⟨uaX0, laX0, xaX0, ubX0, lbX0, xbX0, rfl⟩ := (hX0.out.read).shape
  have hfill := alloc_fill w4
  replace hW := Aside0.mk (hW.out.trans (On.alloc (On.refl w4) (.cells #[.slice uaX0 laX0 xaX0, .slice ubX0 lbX0 xbX0] 32)))
  replace kp0 := Aside0.mk (blk_below kp0.out (On.alloc (On.refl w4) (.cells #[.slice uaX0 laX0 xaX0, .slice ubX0 lbX0 xbX0] 32)))
  replace kbR := Aside0.mk (blk_below kbR.out (On.alloc (On.refl w4) (.cells #[.slice uaX0 laX0 xaX0, .slice ubX0 lbX0 xbX0] 32)))
  replace cp0 := blk_cell kp0.out
  replace cbR := blk_cell kbR.out
  replace oA0 := Aside0.mk (oA0.out.trans (On.alloc (On.refl w4) (.cells #[.slice uaX0 laX0 xaX0, .slice ubX0 lbX0 xbX0] 32)))
  replace oR := Aside0.mk (oR.out.trans (On.alloc (On.refl w4) (.cells #[.slice uaX0 laX0 xaX0, .slice ubX0 lbX0 xbX0] 32)))
  replace hX0 := Aside0.mk (hX0.out.on (On.alloc (On.refl w4) (.cells #[.slice uaX0 laX0 xaX0, .slice ubX0 lbX0 xbX0] 32)))
  have n10 := Aside0.mk (show (w4.alloc (.cells #[.slice uaX0 laX0 xaX0, .slice ubX0 lbX0 xbX0] 32)).heap.size = w4.heap.size + 1 from by simp)
  have kx0 := Aside0.mk (loc_new w4 #[.slice uaX0 laX0 xaX0, .slice ubX0 lbX0 xbX0] 32)
  have cx0 := blk_cell kx0.out
  go_wp2_with (refine gate 26 ?_)
  try clear hfill
  refine ⟨goesF 26 Try.func22 ((iRestrictV _ _ rs0 fs0 b1 hX0.out.read).mono ?_)⟩
  rintro e w5 ⟨v1, rfl, hO0, hb1⟩
  refine ⟨_, rfl, ?_⟩
  have hG := Aside0.mk hO0.b
  clear hO0
  replace hW := Aside0.mk (hW.out.trans hb1)
  replace kp0 := Aside0.mk (blk_below kp0.out hb1)
  replace kbR := Aside0.mk (blk_below kbR.out hb1)
  replace kx0 := Aside0.mk (blk_below kx0.out hb1)
  replace cp0 := blk_cell kp0.out
  replace cbR := blk_cell kbR.out
  replace cx0 := blk_cell kx0.out
  replace oA0 := Aside0.mk (oA0.out.trans hb1)
  replace oR := Aside0.mk (oR.out.trans hb1)
  replace hX0 := Aside0.mk (hX0.out.on hb1)
  have n11 := Aside0.mk (show (w4.alloc (.cells #[.slice uaX0 laX0 xaX0, .slice ubX0 lbX0 xbX0] 32)).heap.size ≤ w5.heap.size from hb1.size)
  clear hb1
  obtain ⟨uaG, laG, xaG, ubG, lbG, xbG, rfl⟩ := (hG.out.read).shape
  have hfill := alloc_fill w5
  replace hW := Aside0.mk (hW.out.trans (On.alloc (On.refl w5) (.cells #[.slice uaG laG xaG, .slice ubG lbG xbG] 32)))
  replace kp0 := Aside0.mk (blk_below kp0.out (On.alloc (On.refl w5) (.cells #[.slice uaG laG xaG, .slice ubG lbG xbG] 32)))
  replace kbR := Aside0.mk (blk_below kbR.out (On.alloc (On.refl w5) (.cells #[.slice uaG laG xaG, .slice ubG lbG xbG] 32)))
  replace kx0 := Aside0.mk (blk_below kx0.out (On.alloc (On.refl w5) (.cells #[.slice uaG laG xaG, .slice ubG lbG xbG] 32)))
  replace cp0 := blk_cell kp0.out
  replace cbR := blk_cell kbR.out
  replace cx0 := blk_cell kx0.out
  replace oA0 := Aside0.mk (oA0.out.trans (On.alloc (On.refl w5) (.cells #[.slice uaG laG xaG, .slice ubG lbG xbG] 32)))
  replace oR := Aside0.mk (oR.out.trans (On.alloc (On.refl w5) (.cells #[.slice uaG laG xaG, .slice ubG lbG xbG] 32)))
  replace hX0 := Aside0.mk (hX0.out.on (On.alloc (On.refl w5) (.cells #[.slice uaG laG xaG, .slice ubG lbG xbG] 32)))
  replace hG := Aside0.mk (hG.out.on (On.alloc (On.refl w5) (.cells #[.slice uaG laG xaG, .slice ubG lbG xbG] 32)))
  have n13 := Aside0.mk (show (w5.alloc (.cells #[.slice uaG laG xaG, .slice ubG lbG xbG] 32)).heap.size = w5.heap.size + 1 from by simp)
  have kbG := Aside0.mk (loc_new w5 #[.slice uaG laG xaG, .slice ubG lbG xbG] 32)
  have cbG := blk_cell kbG.out
  go_wp2_with (refine gate 29 ?_)
  try clear hfill
  refine ⟨goesF 29 Try.func17 ((eqI_calls _ _ _ (resR rs0 fs0) (resI rs0 fs0 b1) hG.out.read (hR.out.on oR.out)).mono ?_)⟩
  rintro e w6 ⟨rfl, hb1⟩
  refine ⟨_, rfl, ?_⟩
  replace hW := Aside0.mk (hW.out.trans hb1)
  replace kp0 := Aside0.mk (blk_below kp0.out hb1)
  replace kbR := Aside0.mk (blk_below kbR.out hb1)
  replace kx0 := Aside0.mk (blk_below kx0.out hb1)
  replace kbG := Aside0.mk (blk_below kbG.out hb1)
  replace cp0 := blk_cell kp0.out
  replace cbR := blk_cell kbR.out
  replace cx0 := blk_cell kx0.out
  replace cbG := blk_cell kbG.out
  replace oA0 := Aside0.mk (oA0.out.trans hb1)
  replace oR := Aside0.mk (oR.out.trans hb1)
  replace hX0 := Aside0.mk (hX0.out.on hb1)
  replace hG := Aside0.mk (hG.out.on hb1)
  have n14 := Aside0.mk (show (w5.alloc (.cells #[.slice uaG laG xaG, .slice ubG lbG xbG] 32)).heap.size ≤ w6.heap.size from hb1.size)
  clear hb1
  go_wp2
  refine Reg.region [(0,.L),(1,.L),(2,.N),(3,.C),(4,.L)] [] (by kernel_rfl) (by kernel_rfl) ?_
  repeat first | refine sP ?_ | refine sS ?_ | refine sA ?_ | refine sL ?_ | refine sQ ?_ | refine sO ?_
  refine callN Try.func14 (fun w7 hS => ?_)
  replace hW := Aside0.mk (hW.out.trans hS)
  replace kp0 := Aside0.mk (blk_below kp0.out hS)
  replace kbR := Aside0.mk (blk_below kbR.out hS)
  replace kx0 := Aside0.mk (blk_below kx0.out hS)
  replace kbG := Aside0.mk (blk_below kbG.out hS)
  replace cp0 := blk_cell kp0.out
  replace cbR := blk_cell kbR.out
  replace cx0 := blk_cell kx0.out
  replace cbG := blk_cell kbG.out
  replace oA0 := Aside0.mk (oA0.out.trans hS)
  replace oR := Aside0.mk (oR.out.trans hS)
  replace hX0 := Aside0.mk (hX0.out.on hS)
  replace hG := Aside0.mk (hG.out.on hS)
  have n15 := Aside0.mk (show w6.heap.size ≤ w7.heap.size from hS.size)
  clear hS
  refine (toI_calls _ _ rs0 fs0 (hA0.on oA0.out) hz0.out).mono ?_
  rintro e w8 ⟨v1, rfl, hO0, hb1⟩
  have hC := Aside0.mk hO0.read
  clear hO0
  obtain ⟨uaC, laC, xaC, ubC, lbC, xbC, rfl⟩ := (hC.out).shape
  refine ⟨_, rfl, hb1, fun a' ha => ?_⟩
  simp only [Act.put, List.setIfInBounds_toArray, List.set_cons_zero, List.set_cons_succ] at ha
  subst ha
  replace hW := Aside0.mk (hW.out.trans hb1)
  replace kp0 := Aside0.mk (blk_below kp0.out hb1)
  replace kbR := Aside0.mk (blk_below kbR.out hb1)
  replace kx0 := Aside0.mk (blk_below kx0.out hb1)
  replace kbG := Aside0.mk (blk_below kbG.out hb1)
  replace cp0 := blk_cell kp0.out
  replace cbR := blk_cell kbR.out
  replace cx0 := blk_cell kx0.out
  replace cbG := blk_cell kbG.out
  replace oA0 := Aside0.mk (oA0.out.trans hb1)
  replace oR := Aside0.mk (oR.out.trans hb1)
  replace hX0 := Aside0.mk (hX0.out.on hb1)
  replace hG := Aside0.mk (hG.out.on hb1)
  have n16 := Aside0.mk (show w7.heap.size ≤ w8.heap.size from hb1.size)
  clear hb1
  repeat first | refine sP ?_ | refine sS ?_ | refine sA ?_ | refine sL ?_ | refine sQ ?_ | refine sO ?_
  refine callC (.bool true) Try.func17 (fun w' hS => ?_) ?_
  focus exact eqI_calls _ _ _ rs0 fs0 (hX0.out.read.on hS) (hC.out.on hS)
  repeat first | refine sP ?_ | refine sS ?_ | refine sA ?_ | refine sL ?_ | refine sQ ?_ | refine sO ?_
  refine Reg.nil fun w9 hS => ?_
  replace hW := Aside0.mk (hW.out.trans hS)
  replace kp0 := Aside0.mk (blk_below kp0.out hS)
  replace kbR := Aside0.mk (blk_below kbR.out hS)
  replace kx0 := Aside0.mk (blk_below kx0.out hS)
  replace kbG := Aside0.mk (blk_below kbG.out hS)
  replace cp0 := blk_cell kp0.out
  replace cbR := blk_cell kbR.out
  replace cx0 := blk_cell kx0.out
  replace cbG := blk_cell kbG.out
  replace oA0 := Aside0.mk (oA0.out.trans hS)
  replace oR := Aside0.mk (oR.out.trans hS)
  replace hX0 := Aside0.mk (hX0.out.on hS)
  replace hG := Aside0.mk (hG.out.on hS)
  have n17 := Aside0.mk (show w8.heap.size ≤ w9.heap.size from hS.size)
  clear hS
  go_wp2_with (refine gate 38 ?_)
  refine ⟨goesF 38 Try.func18 ((mkI_calls _ _ _ _ rs0 fs0 (1 : Int) hX0.out (by omega) (by have := hz0.out; have := hmk0.out; omega)).mono ?_)⟩
  rintro e w10 ⟨rfl, hM0, hE0⟩
  refine ⟨_, rfl, ?_⟩
  have hE := Aside0.mk hE0
  clear hE0
  replace hX0 := Aside0.mk hM0
  clear hM0
  replace hW := Aside0.mk (Ex.on hW.out hE.out (fun i hi => (by obtain ⟨hi1, hi2⟩ := hi; have n2 := n2.out; have n3 := n3.out; have n4 := n4.out; have n5 := n5.out; have n7 := n7.out; have n8 := n8.out; have n10 := n10.out; have n11 := n11.out; have n13 := n13.out; have n14 := n14.out; have n15 := n15.out; have n16 := n16.out; have n17 := n17.out; omega)))
  replace kp0 := Aside0.mk (blk_ex hE.out kp0.out (fun hx => (by obtain ⟨hx1, hx2⟩ := hx; have n2 := n2.out; have n3 := n3.out; have n4 := n4.out; have n5 := n5.out; have n7 := n7.out; have n8 := n8.out; have n10 := n10.out; have n11 := n11.out; have n13 := n13.out; have n14 := n14.out; have n15 := n15.out; have n16 := n16.out; have n17 := n17.out; omega)))
  replace kbR := Aside0.mk (blk_ex hE.out kbR.out (fun hx => (by obtain ⟨hx1, hx2⟩ := hx; have n2 := n2.out; have n3 := n3.out; have n4 := n4.out; have n5 := n5.out; have n7 := n7.out; have n8 := n8.out; have n10 := n10.out; have n11 := n11.out; have n13 := n13.out; have n14 := n14.out; have n15 := n15.out; have n16 := n16.out; have n17 := n17.out; omega)))
  replace kx0 := Aside0.mk (blk_ex hE.out kx0.out (fun hx => (by obtain ⟨hx1, hx2⟩ := hx; have n2 := n2.out; have n3 := n3.out; have n4 := n4.out; have n5 := n5.out; have n7 := n7.out; have n8 := n8.out; have n10 := n10.out; have n11 := n11.out; have n13 := n13.out; have n14 := n14.out; have n15 := n15.out; have n16 := n16.out; have n17 := n17.out; omega)))
  replace kbG := Aside0.mk (blk_ex hE.out kbG.out (fun hx => (by obtain ⟨hx1, hx2⟩ := hx; have n2 := n2.out; have n3 := n3.out; have n4 := n4.out; have n5 := n5.out; have n7 := n7.out; have n8 := n8.out; have n10 := n10.out; have n11 := n11.out; have n13 := n13.out; have n14 := n14.out; have n15 := n15.out; have n16 := n16.out; have n17 := n17.out; omega)))
  replace cp0 := blk_cell kp0.out
  replace cbR := blk_cell kbR.out
  replace cx0 := blk_cell kx0.out
  replace cbG := blk_cell kbG.out
  replace oA0 := Aside0.mk (Ex.on oA0.out hE.out (fun i hi => (by obtain ⟨hi1, hi2⟩ := hi; have n2 := n2.out; have n3 := n3.out; have n4 := n4.out; have n5 := n5.out; have n7 := n7.out; have n8 := n8.out; have n10 := n10.out; have n11 := n11.out; have n13 := n13.out; have n14 := n14.out; have n15 := n15.out; have n16 := n16.out; have n17 := n17.out; omega)))
  replace oR := Aside0.mk (Ex.on oR.out hE.out (fun i hi => (by obtain ⟨hi1, hi2⟩ := hi; have n2 := n2.out; have n3 := n3.out; have n4 := n4.out; have n5 := n5.out; have n7 := n7.out; have n8 := n8.out; have n10 := n10.out; have n11 := n11.out; have n13 := n13.out; have n14 := n14.out; have n15 := n15.out; have n16 := n16.out; have n17 := n17.out; omega)))
  replace hG := Aside0.mk (hG.out.ex hE.out (fun b h1 h2 h3 => (by obtain ⟨h31, h32⟩ := h3; have n2 := n2.out; have n3 := n3.out; have n4 := n4.out; have n5 := n5.out; have n7 := n7.out; have n8 := n8.out; have n10 := n10.out; have n11 := n11.out; have n13 := n13.out; have n14 := n14.out; have n15 := n15.out; have n16 := n16.out; have n17 := n17.out; omega)))
  have n18 := Aside0.mk (show w9.heap.size ≤ w10.heap.size from hE.out.size)
  clear hE
  have hkn : decide (((1 : Int) + ((mkI rs0 fs0 : Nat) : Int)) < 0) = false := decide_eq_false (by omega)
  have hmn : decide ((1 : Int) + ((mkI (resR rs0 fs0) (resI rs0 fs0 b1) : Nat) : Int) < 0) = false := decide_eq_false (by omega)
  go_wp2_with (first
    | (refine gate 49 ?_)
    | (go_at_call 17; refine (eqI_calls _ _ _ (resR rs0 fs0) (resI rs0 fs0 b1) hG.out.read (hR.out.on oR.out)).mono ?_; rintro e w11 ⟨rfl, hb1⟩; replace hW := Aside0.mk (hW.out.trans hb1); replace kp0 := Aside0.mk (blk_below kp0.out hb1); replace kbR := Aside0.mk (blk_below kbR.out hb1); replace kx0 := Aside0.mk (blk_below kx0.out hb1); replace kbG := Aside0.mk (blk_below kbG.out hb1); replace cp0 := blk_cell kp0.out; replace cbR := blk_cell kbR.out; replace cx0 := blk_cell kx0.out; replace cbG := blk_cell kbG.out; replace oA0 := Aside0.mk (oA0.out.trans hb1); replace oR := Aside0.mk (oR.out.trans hb1); replace hX0 := Aside0.mk (hX0.out.on hb1); replace hG := Aside0.mk (hG.out.on hb1); have n19 := Aside0.mk (show w10.heap.size ≤ w11.heap.size from hb1.size); clear hb1))
  refine ⟨goesF 49 Try.func18 ((mkI_calls _ _ _ _ (resR rs0 fs0) (resI rs0 fs0 b1) 1 hG.out (by omega) (by have := hmkG.out; omega)).mono ?_)⟩
  rintro e w12 ⟨rfl, hM0, hE0⟩
  refine ⟨_, rfl, ?_⟩
  have hE := Aside0.mk hE0
  clear hE0
  replace hG := Aside0.mk hM0
  clear hM0
  replace hW := Aside0.mk (Ex.on hW.out hE.out (fun i hi => (by obtain ⟨hi1, hi2⟩ := hi; have n2 := n2.out; have n3 := n3.out; have n4 := n4.out; have n5 := n5.out; have n7 := n7.out; have n8 := n8.out; have n10 := n10.out; have n11 := n11.out; have n13 := n13.out; have n14 := n14.out; have n15 := n15.out; have n16 := n16.out; have n17 := n17.out; have n18 := n18.out; have n19 := n19.out; omega)))
  replace kp0 := Aside0.mk (blk_ex hE.out kp0.out (fun hx => (by obtain ⟨hx1, hx2⟩ := hx; have n2 := n2.out; have n3 := n3.out; have n4 := n4.out; have n5 := n5.out; have n7 := n7.out; have n8 := n8.out; have n10 := n10.out; have n11 := n11.out; have n13 := n13.out; have n14 := n14.out; have n15 := n15.out; have n16 := n16.out; have n17 := n17.out; have n18 := n18.out; have n19 := n19.out; omega)))
  replace kbR := Aside0.mk (blk_ex hE.out kbR.out (fun hx => (by obtain ⟨hx1, hx2⟩ := hx; have n2 := n2.out; have n3 := n3.out; have n4 := n4.out; have n5 := n5.out; have n7 := n7.out; have n8 := n8.out; have n10 := n10.out; have n11 := n11.out; have n13 := n13.out; have n14 := n14.out; have n15 := n15.out; have n16 := n16.out; have n17 := n17.out; have n18 := n18.out; have n19 := n19.out; omega)))
  replace kx0 := Aside0.mk (blk_ex hE.out kx0.out (fun hx => (by obtain ⟨hx1, hx2⟩ := hx; have n2 := n2.out; have n3 := n3.out; have n4 := n4.out; have n5 := n5.out; have n7 := n7.out; have n8 := n8.out; have n10 := n10.out; have n11 := n11.out; have n13 := n13.out; have n14 := n14.out; have n15 := n15.out; have n16 := n16.out; have n17 := n17.out; have n18 := n18.out; have n19 := n19.out; omega)))
  replace kbG := Aside0.mk (blk_ex hE.out kbG.out (fun hx => (by obtain ⟨hx1, hx2⟩ := hx; have n2 := n2.out; have n3 := n3.out; have n4 := n4.out; have n5 := n5.out; have n7 := n7.out; have n8 := n8.out; have n10 := n10.out; have n11 := n11.out; have n13 := n13.out; have n14 := n14.out; have n15 := n15.out; have n16 := n16.out; have n17 := n17.out; have n18 := n18.out; have n19 := n19.out; omega)))
  replace cp0 := blk_cell kp0.out
  replace cbR := blk_cell kbR.out
  replace cx0 := blk_cell kx0.out
  replace cbG := blk_cell kbG.out
  replace oA0 := Aside0.mk (Ex.on oA0.out hE.out (fun i hi => (by obtain ⟨hi1, hi2⟩ := hi; have n2 := n2.out; have n3 := n3.out; have n4 := n4.out; have n5 := n5.out; have n7 := n7.out; have n8 := n8.out; have n10 := n10.out; have n11 := n11.out; have n13 := n13.out; have n14 := n14.out; have n15 := n15.out; have n16 := n16.out; have n17 := n17.out; have n18 := n18.out; have n19 := n19.out; omega)))
  replace oR := Aside0.mk (Ex.on oR.out hE.out (fun i hi => (by obtain ⟨hi1, hi2⟩ := hi; have n2 := n2.out; have n3 := n3.out; have n4 := n4.out; have n5 := n5.out; have n7 := n7.out; have n8 := n8.out; have n10 := n10.out; have n11 := n11.out; have n13 := n13.out; have n14 := n14.out; have n15 := n15.out; have n16 := n16.out; have n17 := n17.out; have n18 := n18.out; have n19 := n19.out; omega)))
  replace hX0 := Aside0.mk (hX0.out.ex hE.out (fun b h1 h2 h3 => (by obtain ⟨h31, h32⟩ := h3; have n2 := n2.out; have n3 := n3.out; have n4 := n4.out; have n5 := n5.out; have n7 := n7.out; have n8 := n8.out; have n10 := n10.out; have n11 := n11.out; have n13 := n13.out; have n14 := n14.out; have n15 := n15.out; have n16 := n16.out; have n17 := n17.out; have n18 := n18.out; have n19 := n19.out; omega)))
  have n20 := Aside0.mk (show w11.heap.size ≤ w12.heap.size from hE.out.size)
  clear hE
  go_wp2_with (refine gate 52 ?_)
  refine ⟨goesF 52 Try.func23 ((hdI_calls _ _ (resR rs0 fs0) (resI rs0 fs0 b1) 1 hG.out.read (by omega) (by have := hmkG.out; omega)).mono ?_)⟩
  rintro e w13 ⟨rfl, hb1⟩
  refine ⟨_, rfl, ?_⟩
  replace hW := Aside0.mk (hW.out.trans hb1)
  replace kp0 := Aside0.mk (blk_below kp0.out hb1)
  replace kbR := Aside0.mk (blk_below kbR.out hb1)
  replace kx0 := Aside0.mk (blk_below kx0.out hb1)
  replace kbG := Aside0.mk (blk_below kbG.out hb1)
  replace cp0 := blk_cell kp0.out
  replace cbR := blk_cell kbR.out
  replace cx0 := blk_cell kx0.out
  replace cbG := blk_cell kbG.out
  replace oA0 := Aside0.mk (oA0.out.trans hb1)
  replace oR := Aside0.mk (oR.out.trans hb1)
  replace hX0 := Aside0.mk (hX0.out.on hb1)
  replace hG := Aside0.mk (hG.out.on hb1)
  have n21 := Aside0.mk (show w12.heap.size ≤ w13.heap.size from hb1.size)
  clear hb1
  go_wp2_with (refine gate 59 ?_)
  refine ⟨goesF 59 Try.func14 ((toI_calls _ _ rs0 fs0 (hA0.on oA0.out) hz0.out).mono ?_)⟩
  rintro e w14 ⟨v1, rfl, hO0, hb1⟩
  refine ⟨_, rfl, ?_⟩
  have hT0 := Aside0.mk hO0.b
  clear hO0
  replace hW := Aside0.mk (hW.out.trans hb1)
  replace kp0 := Aside0.mk (blk_below kp0.out hb1)
  replace kbR := Aside0.mk (blk_below kbR.out hb1)
  replace kx0 := Aside0.mk (blk_below kx0.out hb1)
  replace kbG := Aside0.mk (blk_below kbG.out hb1)
  replace cp0 := blk_cell kp0.out
  replace cbR := blk_cell kbR.out
  replace cx0 := blk_cell kx0.out
  replace cbG := blk_cell kbG.out
  replace oA0 := Aside0.mk (oA0.out.trans hb1)
  replace oR := Aside0.mk (oR.out.trans hb1)
  replace hX0 := Aside0.mk (hX0.out.on hb1)
  replace hG := Aside0.mk (hG.out.on hb1)
  have n22 := Aside0.mk (show w13.heap.size ≤ w14.heap.size from hb1.size)
  clear hb1
  obtain ⟨uaT0, laT0, xaT0, ubT0, lbT0, xbT0, rfl⟩ := (hT0.out.read).shape
  go_wp2_with (refine gate 61 ?_)
  refine ⟨goesF 61 Try.func22 ((iRestrictV _ _ rs0 fs0 b1 hT0.out.read).mono ?_)⟩
  rintro e w15 ⟨v1, rfl, hO0, hb1⟩
  refine ⟨_, rfl, ?_⟩
  have hH := Aside0.mk hO0.b
  clear hO0
  replace hW := Aside0.mk (hW.out.trans hb1)
  replace kp0 := Aside0.mk (blk_below kp0.out hb1)
  replace kbR := Aside0.mk (blk_below kbR.out hb1)
  replace kx0 := Aside0.mk (blk_below kx0.out hb1)
  replace kbG := Aside0.mk (blk_below kbG.out hb1)
  replace cp0 := blk_cell kp0.out
  replace cbR := blk_cell kbR.out
  replace cx0 := blk_cell kx0.out
  replace cbG := blk_cell kbG.out
  replace oA0 := Aside0.mk (oA0.out.trans hb1)
  replace oR := Aside0.mk (oR.out.trans hb1)
  replace hX0 := Aside0.mk (hX0.out.on hb1)
  replace hG := Aside0.mk (hG.out.on hb1)
  replace hT0 := Aside0.mk (hT0.out.on hb1)
  have n23 := Aside0.mk (show w14.heap.size ≤ w15.heap.size from hb1.size)
  clear hb1
  obtain ⟨uaH, laH, xaH, ubH, lbH, xbH, rfl⟩ := (hH.out.read).shape
  have hfill := alloc_fill w15
  replace hW := Aside0.mk (hW.out.trans (On.alloc (On.refl w15) (.cells #[.slice uaH laH xaH, .slice ubH lbH xbH] 32)))
  replace kp0 := Aside0.mk (blk_below kp0.out (On.alloc (On.refl w15) (.cells #[.slice uaH laH xaH, .slice ubH lbH xbH] 32)))
  replace kbR := Aside0.mk (blk_below kbR.out (On.alloc (On.refl w15) (.cells #[.slice uaH laH xaH, .slice ubH lbH xbH] 32)))
  replace kx0 := Aside0.mk (blk_below kx0.out (On.alloc (On.refl w15) (.cells #[.slice uaH laH xaH, .slice ubH lbH xbH] 32)))
  replace kbG := Aside0.mk (blk_below kbG.out (On.alloc (On.refl w15) (.cells #[.slice uaH laH xaH, .slice ubH lbH xbH] 32)))
  replace cp0 := blk_cell kp0.out
  replace cbR := blk_cell kbR.out
  replace cx0 := blk_cell kx0.out
  replace cbG := blk_cell kbG.out
  replace oA0 := Aside0.mk (oA0.out.trans (On.alloc (On.refl w15) (.cells #[.slice uaH laH xaH, .slice ubH lbH xbH] 32)))
  replace oR := Aside0.mk (oR.out.trans (On.alloc (On.refl w15) (.cells #[.slice uaH laH xaH, .slice ubH lbH xbH] 32)))
  replace hX0 := Aside0.mk (hX0.out.on (On.alloc (On.refl w15) (.cells #[.slice uaH laH xaH, .slice ubH lbH xbH] 32)))
  replace hG := Aside0.mk (hG.out.on (On.alloc (On.refl w15) (.cells #[.slice uaH laH xaH, .slice ubH lbH xbH] 32)))
  replace hT0 := Aside0.mk (hT0.out.on (On.alloc (On.refl w15) (.cells #[.slice uaH laH xaH, .slice ubH lbH xbH] 32)))
  replace hH := Aside0.mk (hH.out.on (On.alloc (On.refl w15) (.cells #[.slice uaH laH xaH, .slice ubH lbH xbH] 32)))
  have n25 := Aside0.mk (show (w15.alloc (.cells #[.slice uaH laH xaH, .slice ubH lbH xbH] 32)).heap.size = w15.heap.size + 1 from by simp)
  have kbH := Aside0.mk (loc_new w15 #[.slice uaH laH xaH, .slice ubH lbH xbH] 32)
  have cbH := blk_cell kbH.out
  go_wp2_with (refine gate 64 ?_)
  try clear hfill
  refine ⟨goesF 64 Try.func17 ((eqI_calls _ _ _ (resR rs0 fs0) (resI rs0 fs0 b1) hH.out.read (hR.out.on oR.out)).mono ?_)⟩
  rintro e w16 ⟨rfl, hb1⟩
  refine ⟨_, rfl, ?_⟩
  replace hW := Aside0.mk (hW.out.trans hb1)
  replace kp0 := Aside0.mk (blk_below kp0.out hb1)
  replace kbR := Aside0.mk (blk_below kbR.out hb1)
  replace kx0 := Aside0.mk (blk_below kx0.out hb1)
  replace kbG := Aside0.mk (blk_below kbG.out hb1)
  replace kbH := Aside0.mk (blk_below kbH.out hb1)
  replace cp0 := blk_cell kp0.out
  replace cbR := blk_cell kbR.out
  replace cx0 := blk_cell kx0.out
  replace cbG := blk_cell kbG.out
  replace cbH := blk_cell kbH.out
  replace oA0 := Aside0.mk (oA0.out.trans hb1)
  replace oR := Aside0.mk (oR.out.trans hb1)
  replace hX0 := Aside0.mk (hX0.out.on hb1)
  replace hG := Aside0.mk (hG.out.on hb1)
  replace hT0 := Aside0.mk (hT0.out.on hb1)
  replace hH := Aside0.mk (hH.out.on hb1)
  have n26 := Aside0.mk (show (w15.alloc (.cells #[.slice uaH laH xaH, .slice ubH lbH xbH] 32)).heap.size ≤ w16.heap.size from hb1.size)
  clear hb1
  go_wp2_with (refine gate 68 ?_)
  refine ⟨goesF 68 Try.func23 ((hdI_calls _ _ (resR rs0 fs0) (resI rs0 fs0 b1) 1 hG.out.read (by omega) (by have := hmkG.out; omega)).mono ?_)⟩
  rintro e w17 ⟨rfl, hb1⟩
  refine ⟨_, rfl, ?_⟩
  replace hW := Aside0.mk (hW.out.trans hb1)
  replace kp0 := Aside0.mk (blk_below kp0.out hb1)
  replace kbR := Aside0.mk (blk_below kbR.out hb1)
  replace kx0 := Aside0.mk (blk_below kx0.out hb1)
  replace kbG := Aside0.mk (blk_below kbG.out hb1)
  replace kbH := Aside0.mk (blk_below kbH.out hb1)
  replace cp0 := blk_cell kp0.out
  replace cbR := blk_cell kbR.out
  replace cx0 := blk_cell kx0.out
  replace cbG := blk_cell kbG.out
  replace cbH := blk_cell kbH.out
  replace oA0 := Aside0.mk (oA0.out.trans hb1)
  replace oR := Aside0.mk (oR.out.trans hb1)
  replace hX0 := Aside0.mk (hX0.out.on hb1)
  replace hG := Aside0.mk (hG.out.on hb1)
  replace hT0 := Aside0.mk (hT0.out.on hb1)
  replace hH := Aside0.mk (hH.out.on hb1)
  have n27 := Aside0.mk (show w16.heap.size ≤ w17.heap.size from hb1.size)
  clear hb1
  go_wp2
  go_ret
  exact ⟨rfl, hW.out⟩
end Go.Proofs.Ytngjhblbpapjeaa.H
