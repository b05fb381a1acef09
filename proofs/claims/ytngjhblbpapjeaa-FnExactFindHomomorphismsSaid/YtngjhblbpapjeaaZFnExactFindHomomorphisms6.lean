/- Walks and plain laws for the law FnExactFindHomomorphisms, part 6 of 6: the texts HQFnExactFindHomomorphisms in one. No condition. -/
import Derived.Test.YtngjhblbpapjeaaZFnExactFindHomomorphisms5
/- Walk: the law FnExactFindHomomorphisms. No condition. -/
namespace Go.Proofs.Ytngjhblbpapjeaa.H
open Go Go.RowKit Go.Proofs.YtngjhblbpapjeaaW.PrintWords Go.Proofs.YtngjhblbpapjeaaW.PrintLast
open Go.Proofs.Ytngjhblbpapjeaa.Reg (On on_draw)
set_option maxHeartbeats 8000000
set_option maxRecDepth 100000
set_option linter.unusedVariables false
set_option linter.unusedSimpArgs false

theorem sFindAllV (w : World) (v u : Value) (rs : List Rel) (fs : List Fct) (qs : List Rel) (gs : List Fct) (h : RIn w v rs fs) (k : RIn w u qs gs) : Calls Try.prog 49 #[v, u] w (Got fun v w' => ORw w' w.heap.size v (allF rs fs qs gs) ∧ On w w') := by
  obtain ⟨A0, c0, A1, c1, rfl, h0, h1⟩ := h.out
  obtain ⟨A2, c2, A3, c3, rfl, h2, h3⟩ := k.out
  refine (sFindAll_calls w A0 c0 A1 c1 rs fs h0 h1 A2 c2 A3 c3 qs gs h2 h3).mono fun e w' hh => ?_
  obtain ⟨v, rfl, hs, hO, hS, hb⟩ := hh
  exact ⟨_, rfl, ⟨hs, hO, hS.sep⟩, hb⟩
theorem iFindAllV (w : World) (v u : Value) (rs : List Rel) (fs : List Fct) (qs : List Rel) (gs : List Fct) (h : RIn w v rs fs) (k : RIn w u qs gs) : Calls Try.prog 50 #[v, u] w (Got fun v w' => ORw w' w.heap.size v (allF rs fs qs gs) ∧ On w w') := by
  obtain ⟨A0, c0, A1, c1, rfl, h0, h1⟩ := h.out
  obtain ⟨A2, c2, A3, c3, rfl, h2, h3⟩ := k.out
  refine (iFindAll_calls w A0 c0 A1 c1 rs fs h0 h1 A2 c2 A3 c3 qs gs h2 h3).mono fun e w' hh => ?_
  obtain ⟨v, rfl, hs, hO, hS, hb⟩ := hh
  exact ⟨_, rfl, ⟨hs, hO, hS.sep⟩, hb⟩
theorem FnExactFindHomomorphisms_calls (w : World) (V0 : Value) (rs0 : List Rel) (fs0 : List Fct) (hA0 : RIn w V0 rs0 fs0) (hZ0 : ∀ r ∈ rs0, r.1.size ≤ 9223372036854775807) (V1 : Value) (rs1 : List Rel) (fs1 : List Fct) (hA1 : RIn w V1 rs1 fs1) (hZ1 : ∀ r ∈ rs1, r.1.size ≤ 9223372036854775807) : Calls Try.prog 11 #[V0, V1] w fun e w' => e = .returned (.bool true) ∧ On w w' := by
  have hW := Aside0.mk (On.refl w)
  obtain ⟨ua0, la0, xa0, ub0, lb0, xb0, rfl⟩ := hA0.shape
  have oA0 := Aside0.mk (On.refl w)
  obtain ⟨ua1, la1, xa1, ub1, lb1, xb1, rfl⟩ := hA1.shape
  have oA1 := Aside0.mk (On.refl w)
  replace hW := Aside0.mk (hW.out.trans (On.alloc (On.refl w) (.cells #[.slice ua0 la0 xa0, .slice ub0 lb0 xb0] 25)))
  replace oA0 := Aside0.mk (oA0.out.trans (On.alloc (On.refl w) (.cells #[.slice ua0 la0 xa0, .slice ub0 lb0 xb0] 25)))
  replace oA1 := Aside0.mk (oA1.out.trans (On.alloc (On.refl w) (.cells #[.slice ua0 la0 xa0, .slice ub0 lb0 xb0] 25)))
  have n2 := Aside0.mk (show (w.alloc (.cells #[.slice ua0 la0 xa0, .slice ub0 lb0 xb0] 25)).heap.size = w.heap.size + 1 from by simp)
  have kp0 := Aside0.mk (loc_new w #[.slice ua0 la0 xa0, .slice ub0 lb0 xb0] 25)
  have cp0 := blk_cell kp0.out
  replace hW := Aside0.mk (hW.out.trans (On.alloc (On.refl (w.alloc (.cells #[.slice ua0 la0 xa0, .slice ub0 lb0 xb0] 25))) (.cells #[.slice ua1 la1 xa1, .slice ub1 lb1 xb1] 25)))
  replace kp0 := Aside0.mk (blk_below kp0.out (On.alloc (On.refl (w.alloc (.cells #[.slice ua0 la0 xa0, .slice ub0 lb0 xb0] 25))) (.cells #[.slice ua1 la1 xa1, .slice ub1 lb1 xb1] 25)))
  replace cp0 := blk_cell kp0.out
  replace oA0 := Aside0.mk (oA0.out.trans (On.alloc (On.refl (w.alloc (.cells #[.slice ua0 la0 xa0, .slice ub0 lb0 xb0] 25))) (.cells #[.slice ua1 la1 xa1, .slice ub1 lb1 xb1] 25)))
  replace oA1 := Aside0.mk (oA1.out.trans (On.alloc (On.refl (w.alloc (.cells #[.slice ua0 la0 xa0, .slice ub0 lb0 xb0] 25))) (.cells #[.slice ua1 la1 xa1, .slice ub1 lb1 xb1] 25)))
  have n4 := Aside0.mk (show ((w.alloc (.cells #[.slice ua0 la0 xa0, .slice ub0 lb0 xb0] 25)).alloc (.cells #[.slice ua1 la1 xa1, .slice ub1 lb1 xb1] 25)).heap.size = (w.alloc (.cells #[.slice ua0 la0 xa0, .slice ub0 lb0 xb0] 25)).heap.size + 1 from by simp)
  have kp1 := Aside0.mk (show ((w.alloc (.cells #[.slice ua0 la0 xa0, .slice ub0 lb0 xb0] 25)).alloc (.cells #[.slice ua1 la1 xa1, .slice ub1 lb1 xb1] 25)).heap[w.heap.size + 1]? = some (.cells #[.slice ua1 la1 xa1, .slice ub1 lb1 xb1] 25 (0, 0)) from by have h := loc_new (w.alloc (.cells #[.slice ua0 la0 xa0, .slice ub0 lb0 xb0] 25)) #[.slice ua1 la1 xa1, .slice ub1 lb1 xb1] 25; rwa [show (w.alloc (.cells #[.slice ua0 la0 xa0, .slice ub0 lb0 xb0] 25)).heap.size = w.heap.size + 1 by simp] at h)
  have cp1 := blk_cell kp1.out
  have hmk0 := Aside0.mk (mkI_le rs0 fs0)
  have hmk1 := Aside0.mk (mkI_le rs1 fs1)
  have hmkG := Aside0.mk (allF_len rs0 fs0 rs1 fs1)
  go_enter Try.func11, Try.ntmps11
  go_wp2_with (refine gate 16 ?_)
  refine ⟨goesF 16 Try.func12 ((szI_calls _ _ rs0 fs0 1048576 (by omega) (by omega) (hA0.on oA0.out) hZ0).mono ?_)⟩
  rintro e w1 ⟨q1, rfl, hq0, hb1⟩
  refine ⟨_, rfl, ?_⟩
  have hq1 := Aside0.mk hq0
  clear hq0
  replace hW := Aside0.mk (hW.out.trans hb1)
  replace kp0 := Aside0.mk (blk_below kp0.out hb1)
  replace kp1 := Aside0.mk (blk_below kp1.out hb1)
  replace cp0 := blk_cell kp0.out
  replace cp1 := blk_cell kp1.out
  replace oA0 := Aside0.mk (oA0.out.trans hb1)
  replace oA1 := Aside0.mk (oA1.out.trans hb1)
  have n5 := Aside0.mk (show ((w.alloc (.cells #[.slice ua0 la0 xa0, .slice ub0 lb0 xb0] 25)).alloc (.cells #[.slice ua1 la1 xa1, .slice ub1 lb1 xb1] 25)).heap.size ≤ w1.heap.size from hb1.size)
  clear hb1
  by_cases hneg1 : q1 < 0
  · go_wp2
    go_ret
    exact ⟨rfl, hW.out⟩
  have hz0 := Aside0.mk (show wR rs0 + wF fs0 ≤ 1048576 by have := hq1.out (by omega); omega)
  go_wp2_with (refine gate 21 ?_)
  refine ⟨goesF 21 Try.func12 ((szI_calls _ _ rs1 fs1 q1 (by omega) (by have := hq1.out (by omega); omega) (hA1.on oA1.out) hZ1).mono ?_)⟩
  rintro e w2 ⟨q2, rfl, hq0, hb1⟩
  refine ⟨_, rfl, ?_⟩
  have hq2 := Aside0.mk hq0
  clear hq0
  replace hW := Aside0.mk (hW.out.trans hb1)
  replace kp0 := Aside0.mk (blk_below kp0.out hb1)
  replace kp1 := Aside0.mk (blk_below kp1.out hb1)
  replace cp0 := blk_cell kp0.out
  replace cp1 := blk_cell kp1.out
  replace oA0 := Aside0.mk (oA0.out.trans hb1)
  replace oA1 := Aside0.mk (oA1.out.trans hb1)
  have n6 := Aside0.mk (show w1.heap.size ≤ w2.heap.size from hb1.size)
  clear hb1
  by_cases hneg2 : q2 < 0
  · go_wp2
    go_ret
    exact ⟨rfl, hW.out⟩
  have hz1 := Aside0.mk (show wR rs1 + wF fs1 ≤ 1048576 by have := hq1.out (by omega); have := hq2.out (by omega); omega)
  go_wp2
  refine Reg.region [(0,.L),(2,.L),(1,.N),(3,.N),(4,.N)] [5] (by kernel_rfl) (by kernel_rfl) ?_
  repeat first | refine sP ?_ | refine sS ?_ | refine sA ?_ | refine sL ?_ | refine sQ ?_ | refine sO ?_
  refine callN Try.func14 (fun w3 hS => ?_)
  replace hW := Aside0.mk (hW.out.trans hS)
  replace kp0 := Aside0.mk (blk_below kp0.out hS)
  replace kp1 := Aside0.mk (blk_below kp1.out hS)
  replace cp0 := blk_cell kp0.out
  replace cp1 := blk_cell kp1.out
  replace oA0 := Aside0.mk (oA0.out.trans hS)
  replace oA1 := Aside0.mk (oA1.out.trans hS)
  have n7 := Aside0.mk (show w2.heap.size ≤ w3.heap.size from hS.size)
  clear hS
  refine (toI_calls _ _ rs0 fs0 (hA0.on oA0.out) hz0.out).mono ?_
  rintro e w4 ⟨v1, rfl, hO0, hb1⟩
  have hS0 := Aside0.mk hO0.b
  clear hO0
  obtain ⟨uaS0, laS0, xaS0, ubS0, lbS0, xbS0, rfl⟩ := (hS0.out.read).shape
  refine ⟨_, rfl, hb1, fun a' ha => ?_⟩
  simp only [Act.put, List.setIfInBounds_toArray, List.set_cons_zero, List.set_cons_succ] at ha
  subst ha
  replace hW := Aside0.mk (hW.out.trans hb1)
  replace kp0 := Aside0.mk (blk_below kp0.out hb1)
  replace kp1 := Aside0.mk (blk_below kp1.out hb1)
  replace cp0 := blk_cell kp0.out
  replace cp1 := blk_cell kp1.out
  replace oA0 := Aside0.mk (oA0.out.trans hb1)
  replace oA1 := Aside0.mk (oA1.out.trans hb1)
  have n8 := Aside0.mk (show w3.heap.size ≤ w4.heap.size from hb1.size)
  clear hb1
  repeat first | refine sP ?_ | refine sS ?_ | refine sA ?_ | refine sL ?_ | refine sQ ?_ | refine sO ?_
  refine callN Try.func14 (fun w5 hS => ?_)
  replace hW := Aside0.mk (hW.out.trans hS)
  replace kp0 := Aside0.mk (blk_below kp0.out hS)
  replace kp1 := Aside0.mk (blk_below kp1.out hS)
  replace cp0 := blk_cell kp0.out
  replace cp1 := blk_cell kp1.out
  replace oA0 := Aside0.mk (oA0.out.trans hS)
  replace oA1 := Aside0.mk (oA1.out.trans hS)
  replace hS0 := Aside0.mk (hS0.out.on hS)
  have n9 := Aside0.mk (show w4.heap.size ≤ w5.heap.size from hS.size)
  clear hS
  refine (toI_calls _ _ rs1 fs1 (hA1.on oA1.out) hz1.out).mono ?_
  rintro e w6 ⟨v1, rfl, hO0, hb1⟩
  have hS1 := Aside0.mk hO0.b
  clear hO0
  obtain ⟨uaS1, laS1, xaS1, ubS1, lbS1, xbS1, rfl⟩ := (hS1.out.read).shape
  refine ⟨_, rfl, hb1, fun a' ha => ?_⟩
  simp only [Act.put, List.setIfInBounds_toArray, List.set_cons_zero, List.set_cons_succ] at ha
  subst ha
  replace hW := Aside0.mk (hW.out.trans hb1)
  replace kp0 := Aside0.mk (blk_below kp0.out hb1)
  replace kp1 := Aside0.mk (blk_below kp1.out hb1)
  replace cp0 := blk_cell kp0.out
  replace cp1 := blk_cell kp1.out
  replace oA0 := Aside0.mk (oA0.out.trans hb1)
  replace oA1 := Aside0.mk (oA1.out.trans hb1)
  replace hS0 := Aside0.mk (hS0.out.on hb1)
  have n10 := Aside0.mk (show w5.heap.size ≤ w6.heap.size from hb1.size)
  clear hb1
  repeat first | refine sP ?_ | refine sS ?_ | refine sA ?_ | refine sL ?_ | refine sQ ?_ | refine sO ?_
  refine callN Try.func49 (fun w7 hS => ?_)
  replace hW := Aside0.mk (hW.out.trans hS)
  replace kp0 := Aside0.mk (blk_below kp0.out hS)
  replace kp1 := Aside0.mk (blk_below kp1.out hS)
  replace cp0 := blk_cell kp0.out
  replace cp1 := blk_cell kp1.out
  replace oA0 := Aside0.mk (oA0.out.trans hS)
  replace oA1 := Aside0.mk (oA1.out.trans hS)
  replace hS0 := Aside0.mk (hS0.out.on hS)
  replace hS1 := Aside0.mk (hS1.out.on hS)
  have n11 := Aside0.mk (show w6.heap.size ≤ w7.heap.size from hS.size)
  clear hS
  refine (sFindAllV _ _ _ rs0 fs0 rs1 fs1 hS0.out.read hS1.out.read).mono ?_
  rintro e w8 ⟨v1, rfl, hO0, hb1⟩
  have hR := Aside0.mk hO0.read
  clear hO0
  obtain ⟨uaR, laR, xaR, rfl⟩ := (hR.out).shape
  have oR := Aside0.mk (On.refl w8)
  refine ⟨_, rfl, hb1, fun a' ha => ?_⟩
  simp only [Act.put, List.setIfInBounds_toArray, List.set_cons_zero, List.set_cons_succ] at ha
  subst ha
  replace hW := Aside0.mk (hW.out.trans hb1)
  replace kp0 := Aside0.mk (blk_below kp0.out hb1)
  replace kp1 := Aside0.mk (blk_below kp1.out hb1)
  replace cp0 := blk_cell kp0.out
  replace cp1 := blk_cell kp1.out
  replace oA0 := Aside0.mk (oA0.out.trans hb1)
  replace oA1 := Aside0.mk (oA1.out.trans hb1)
  replace hS0 := Aside0.mk (hS0.out.on hb1)
  replace hS1 := Aside0.mk (hS1.out.on hb1)
  have n12 := Aside0.mk (show w7.heap.size ≤ w8.heap.size from hb1.size)
  clear hb1
  repeat first | refine sP ?_ | refine sS ?_ | refine sA ?_ | refine sL ?_ | refine sQ ?_ | refine sO ?_
  refine Reg.tail_ fun w9 hS => ?_
  replace hW := Aside0.mk (hW.out.trans hS)
  replace kp0 := Aside0.mk (blk_below kp0.out hS)
  replace kp1 := Aside0.mk (blk_below kp1.out hS)
  replace cp0 := blk_cell kp0.out
  replace cp1 := blk_cell kp1.out
  replace oA0 := Aside0.mk (oA0.out.trans hS)
  replace oA1 := Aside0.mk (oA1.out.trans hS)
  replace oR := Aside0.mk (oR.out.trans hS)
  have n13 := Aside0.mk (show w8.heap.size ≤ w9.heap.size from hS.size)
  clear hS
  go_wp2_with (refine gate 30 ?_)
  refine ⟨goesF 30 Try.func14 ((toI_calls _ _ rs0 fs0 (hA0.on oA0.out) hz0.out).mono ?_)⟩
  rintro e w10 ⟨v1, rfl, hO0, hb1⟩
  refine ⟨_, rfl, ?_⟩
  have hX0 := Aside0.mk hO0.b
  clear hO0
  replace hW := Aside0.mk (hW.out.trans hb1)
  replace kp0 := Aside0.mk (blk_below kp0.out hb1)
  replace kp1 := Aside0.mk (blk_below kp1.out hb1)
  replace cp0 := blk_cell kp0.out
  replace cp1 := blk_cell kp1.out
  replace oA0 := Aside0.mk (oA0.out.trans hb1)
  replace oA1 := Aside0.mk (oA1.out.trans hb1)
  replace oR := Aside0.mk (oR.out.trans hb1)
  have n14 := Aside0.mk (show w9.heap.size ≤ w10.heap.size from hb1.size)
  clear hb1
  obtain ⟨uaX0, laX0, xaX0, ubX0, lbX0, xbX0, rfl⟩ := (hX0.out.read).shape
  have hfill := alloc_fill w10
  replace hW := Aside0.mk (hW.out.trans (On.alloc (On.refl w10) (.cells #[.slice uaX0 laX0 xaX0, .slice ubX0 lbX0 xbX0] 32)))
  replace kp0 := Aside0.mk (blk_below kp0.out (On.alloc (On.refl w10) (.cells #[.slice uaX0 laX0 xaX0, .slice ubX0 lbX0 xbX0] 32)))
  replace kp1 := Aside0.mk (blk_below kp1.out (On.alloc (On.refl w10) (.cells #[.slice uaX0 laX0 xaX0, .slice ubX0 lbX0 xbX0] 32)))
  replace cp0 := blk_cell kp0.out
  replace cp1 := blk_cell kp1.out
  replace oA0 := Aside0.mk (oA0.out.trans (On.alloc (On.refl w10) (.cells #[.slice uaX0 laX0 xaX0, .slice ubX0 lbX0 xbX0] 32)))
  replace oA1 := Aside0.mk (oA1.out.trans (On.alloc (On.refl w10) (.cells #[.slice uaX0 laX0 xaX0, .slice ubX0 lbX0 xbX0] 32)))
  replace oR := Aside0.mk (oR.out.trans (On.alloc (On.refl w10) (.cells #[.slice uaX0 laX0 xaX0, .slice ubX0 lbX0 xbX0] 32)))
  replace hX0 := Aside0.mk (hX0.out.on (On.alloc (On.refl w10) (.cells #[.slice uaX0 laX0 xaX0, .slice ubX0 lbX0 xbX0] 32)))
  have n16 := Aside0.mk (show (w10.alloc (.cells #[.slice uaX0 laX0 xaX0, .slice ubX0 lbX0 xbX0] 32)).heap.size = w10.heap.size + 1 from by simp)
  have kx0 := Aside0.mk (loc_new w10 #[.slice uaX0 laX0 xaX0, .slice ubX0 lbX0 xbX0] 32)
  have cx0 := blk_cell kx0.out
  go_wp2_with (refine gate 32 ?_)
  try clear hfill
  refine ⟨goesF 32 Try.func14 ((toI_calls _ _ rs1 fs1 (hA1.on oA1.out) hz1.out).mono ?_)⟩
  rintro e w11 ⟨v1, rfl, hO0, hb1⟩
  refine ⟨_, rfl, ?_⟩
  have hX1 := Aside0.mk hO0.b
  clear hO0
  replace hW := Aside0.mk (hW.out.trans hb1)
  replace kp0 := Aside0.mk (blk_below kp0.out hb1)
  replace kp1 := Aside0.mk (blk_below kp1.out hb1)
  replace kx0 := Aside0.mk (blk_below kx0.out hb1)
  replace cp0 := blk_cell kp0.out
  replace cp1 := blk_cell kp1.out
  replace cx0 := blk_cell kx0.out
  replace oA0 := Aside0.mk (oA0.out.trans hb1)
  replace oA1 := Aside0.mk (oA1.out.trans hb1)
  replace oR := Aside0.mk (oR.out.trans hb1)
  replace hX0 := Aside0.mk (hX0.out.on hb1)
  have n17 := Aside0.mk (show (w10.alloc (.cells #[.slice uaX0 laX0 xaX0, .slice ubX0 lbX0 xbX0] 32)).heap.size ≤ w11.heap.size from hb1.size)
  clear hb1
  obtain ⟨uaX1, laX1, xaX1, ubX1, lbX1, xbX1, rfl⟩ := (hX1.out.read).shape
  have hfill := alloc_fill w11
  replace hW := Aside0.mk (hW.out.trans (On.alloc (On.refl w11) (.cells #[.slice uaX1 laX1 xaX1, .slice ubX1 lbX1 xbX1] 32)))
  replace kp0 := Aside0.mk (blk_below kp0.out (On.alloc (On.refl w11) (.cells #[.slice uaX1 laX1 xaX1, .slice ubX1 lbX1 xbX1] 32)))
  replace kp1 := Aside0.mk (blk_below kp1.out (On.alloc (On.refl w11) (.cells #[.slice uaX1 laX1 xaX1, .slice ubX1 lbX1 xbX1] 32)))
  replace kx0 := Aside0.mk (blk_below kx0.out (On.alloc (On.refl w11) (.cells #[.slice uaX1 laX1 xaX1, .slice ubX1 lbX1 xbX1] 32)))
  replace cp0 := blk_cell kp0.out
  replace cp1 := blk_cell kp1.out
  replace cx0 := blk_cell kx0.out
  replace oA0 := Aside0.mk (oA0.out.trans (On.alloc (On.refl w11) (.cells #[.slice uaX1 laX1 xaX1, .slice ubX1 lbX1 xbX1] 32)))
  replace oA1 := Aside0.mk (oA1.out.trans (On.alloc (On.refl w11) (.cells #[.slice uaX1 laX1 xaX1, .slice ubX1 lbX1 xbX1] 32)))
  replace oR := Aside0.mk (oR.out.trans (On.alloc (On.refl w11) (.cells #[.slice uaX1 laX1 xaX1, .slice ubX1 lbX1 xbX1] 32)))
  replace hX0 := Aside0.mk (hX0.out.on (On.alloc (On.refl w11) (.cells #[.slice uaX1 laX1 xaX1, .slice ubX1 lbX1 xbX1] 32)))
  replace hX1 := Aside0.mk (hX1.out.on (On.alloc (On.refl w11) (.cells #[.slice uaX1 laX1 xaX1, .slice ubX1 lbX1 xbX1] 32)))
  have n19 := Aside0.mk (show (w11.alloc (.cells #[.slice uaX1 laX1 xaX1, .slice ubX1 lbX1 xbX1] 32)).heap.size = w11.heap.size + 1 from by simp)
  have kx1 := Aside0.mk (loc_new w11 #[.slice uaX1 laX1 xaX1, .slice ubX1 lbX1 xbX1] 32)
  have cx1 := blk_cell kx1.out
  go_wp2_with (refine gate 35 ?_)
  try clear hfill
  refine ⟨goesF 35 Try.func50 ((iFindAllV _ _ _ rs0 fs0 rs1 fs1 hX0.out.read hX1.out.read).mono ?_)⟩
  rintro e w12 ⟨v1, rfl, hO0, hb1⟩
  refine ⟨_, rfl, ?_⟩
  have hG := Aside0.mk hO0.b
  clear hO0
  replace hW := Aside0.mk (hW.out.trans hb1)
  replace kp0 := Aside0.mk (blk_below kp0.out hb1)
  replace kp1 := Aside0.mk (blk_below kp1.out hb1)
  replace kx0 := Aside0.mk (blk_below kx0.out hb1)
  replace kx1 := Aside0.mk (blk_below kx1.out hb1)
  replace cp0 := blk_cell kp0.out
  replace cp1 := blk_cell kp1.out
  replace cx0 := blk_cell kx0.out
  replace cx1 := blk_cell kx1.out
  replace oA0 := Aside0.mk (oA0.out.trans hb1)
  replace oA1 := Aside0.mk (oA1.out.trans hb1)
  replace oR := Aside0.mk (oR.out.trans hb1)
  replace hX0 := Aside0.mk (hX0.out.on hb1)
  replace hX1 := Aside0.mk (hX1.out.on hb1)
  have n20 := Aside0.mk (show (w11.alloc (.cells #[.slice uaX1 laX1 xaX1, .slice ubX1 lbX1 xbX1] 32)).heap.size ≤ w12.heap.size from hb1.size)
  clear hb1
  obtain ⟨uaG, laG, xaG, rfl⟩ := (hG.out.read).shape
  go_wp2_with (refine gate 38 ?_)
  refine ⟨goesF 38 Try.func51 ((eqSS_calls _ _ _ (allF rs0 fs0 rs1 fs1) hG.out.read (hR.out.on oR.out)).mono ?_)⟩
  rintro e w13 ⟨rfl, hb1⟩
  refine ⟨_, rfl, ?_⟩
  replace hW := Aside0.mk (hW.out.trans hb1)
  replace kp0 := Aside0.mk (blk_below kp0.out hb1)
  replace kp1 := Aside0.mk (blk_below kp1.out hb1)
  replace kx0 := Aside0.mk (blk_below kx0.out hb1)
  replace kx1 := Aside0.mk (blk_below kx1.out hb1)
  replace cp0 := blk_cell kp0.out
  replace cp1 := blk_cell kp1.out
  replace cx0 := blk_cell kx0.out
  replace cx1 := blk_cell kx1.out
  replace oA0 := Aside0.mk (oA0.out.trans hb1)
  replace oA1 := Aside0.mk (oA1.out.trans hb1)
  replace oR := Aside0.mk (oR.out.trans hb1)
  replace hX0 := Aside0.mk (hX0.out.on hb1)
  replace hX1 := Aside0.mk (hX1.out.on hb1)
  replace hG := Aside0.mk (hG.out.on hb1)
  have n21 := Aside0.mk (show w12.heap.size ≤ w13.heap.size from hb1.size)
  clear hb1
  go_wp2
  refine Reg.region [(0,.L),(1,.L),(2,.N),(3,.C),(4,.L)] [] (by kernel_rfl) (by kernel_rfl) ?_
  repeat first | refine sP ?_ | refine sS ?_ | refine sA ?_ | refine sL ?_ | refine sQ ?_ | refine sO ?_
  refine callN Try.func14 (fun w14 hS => ?_)
  replace hW := Aside0.mk (hW.out.trans hS)
  replace kp0 := Aside0.mk (blk_below kp0.out hS)
  replace kp1 := Aside0.mk (blk_below kp1.out hS)
  replace kx0 := Aside0.mk (blk_below kx0.out hS)
  replace kx1 := Aside0.mk (blk_below kx1.out hS)
  replace cp0 := blk_cell kp0.out
  replace cp1 := blk_cell kp1.out
  replace cx0 := blk_cell kx0.out
  replace cx1 := blk_cell kx1.out
  replace oA0 := Aside0.mk (oA0.out.trans hS)
  replace oA1 := Aside0.mk (oA1.out.trans hS)
  replace oR := Aside0.mk (oR.out.trans hS)
  replace hX0 := Aside0.mk (hX0.out.on hS)
  replace hX1 := Aside0.mk (hX1.out.on hS)
  replace hG := Aside0.mk (hG.out.on hS)
  have n22 := Aside0.mk (show w13.heap.size ≤ w14.heap.size from hS.size)
  clear hS
  refine (toI_calls _ _ rs0 fs0 (hA0.on oA0.out) hz0.out).mono ?_
  rintro e w15 ⟨v1, rfl, hO0, hb1⟩
  have hC := Aside0.mk hO0.read
  clear hO0
  obtain ⟨uaC, laC, xaC, ubC, lbC, xbC, rfl⟩ := (hC.out).shape
  refine ⟨_, rfl, hb1, fun a' ha => ?_⟩
  simp only [Act.put, List.setIfInBounds_toArray, List.set_cons_zero, List.set_cons_succ] at ha
  subst ha
  replace hW := Aside0.mk (hW.out.trans hb1)
  replace kp0 := Aside0.mk (blk_below kp0.out hb1)
  replace kp1 := Aside0.mk (blk_below kp1.out hb1)
  replace kx0 := Aside0.mk (blk_below kx0.out hb1)
  replace kx1 := Aside0.mk (blk_below kx1.out hb1)
  replace cp0 := blk_cell kp0.out
  replace cp1 := blk_cell kp1.out
  replace cx0 := blk_cell kx0.out
  replace cx1 := blk_cell kx1.out
  replace oA0 := Aside0.mk (oA0.out.trans hb1)
  replace oA1 := Aside0.mk (oA1.out.trans hb1)
  replace oR := Aside0.mk (oR.out.trans hb1)
  replace hX0 := Aside0.mk (hX0.out.on hb1)
  replace hX1 := Aside0.mk (hX1.out.on hb1)
  replace hG := Aside0.mk (hG.out.on hb1)
  have n23 := Aside0.mk (show w14.heap.size ≤ w15.heap.size from hb1.size)
  clear hb1
  repeat first | refine sP ?_ | refine sS ?_ | refine sA ?_ | refine sL ?_ | refine sQ ?_ | refine sO ?_
  refine callC (.bool true) Try.func17 (fun w' hS => ?_) ?_
  focus exact eqI_calls _ _ _ rs0 fs0 (hX0.out.read.on hS) (hC.out.on hS)
  repeat first | refine sP ?_ | refine sS ?_ | refine sA ?_ | refine sL ?_ | refine sQ ?_ | refine sO ?_
  refine Reg.nil fun w16 hS => ?_
  replace hW := Aside0.mk (hW.out.trans hS)
  replace kp0 := Aside0.mk (blk_below kp0.out hS)
  replace kp1 := Aside0.mk (blk_below kp1.out hS)
  replace kx0 := Aside0.mk (blk_below kx0.out hS)
  replace kx1 := Aside0.mk (blk_below kx1.out hS)
  replace cp0 := blk_cell kp0.out
  replace cp1 := blk_cell kp1.out
  replace cx0 := blk_cell kx0.out
  replace cx1 := blk_cell kx1.out
  replace oA0 := Aside0.mk (oA0.out.trans hS)
  replace oA1 := Aside0.mk (oA1.out.trans hS)
  replace oR := Aside0.mk (oR.out.trans hS)
  replace hX0 := Aside0.mk (hX0.out.on hS)
  replace hX1 := Aside0.mk (hX1.out.on hS)
  replace hG := Aside0.mk (hG.out.on hS)
  have n24 := Aside0.mk (show w15.heap.size ≤ w16.heap.size from hS.size)
  clear hS
  go_wp2
  refine Reg.region [(0,.L),(1,.L),(2,.N),(3,.C),(4,.L)] [] (by kernel_rfl) (by kernel_rfl) ?_
  repeat first | refine sP ?_ | refine sS ?_ | refine sA ?_ | refine sL ?_ | refine sQ ?_ | refine sO ?_
  refine callN Try.func14 (fun w17 hS => ?_)
  replace hW := Aside0.mk (hW.out.trans hS)
  replace kp0 := Aside0.mk (blk_below kp0.out hS)
  replace kp1 := Aside0.mk (blk_below kp1.out hS)
  replace kx0 := Aside0.mk (blk_below kx0.out hS)
  replace kx1 := Aside0.mk (blk_below kx1.out hS)
  replace cp0 := blk_cell kp0.out
  replace cp1 := blk_cell kp1.out
  replace cx0 := blk_cell kx0.out
  replace cx1 := blk_cell kx1.out
  replace oA0 := Aside0.mk (oA0.out.trans hS)
  replace oA1 := Aside0.mk (oA1.out.trans hS)
  replace oR := Aside0.mk (oR.out.trans hS)
  replace hX0 := Aside0.mk (hX0.out.on hS)
  replace hX1 := Aside0.mk (hX1.out.on hS)
  replace hG := Aside0.mk (hG.out.on hS)
  have n25 := Aside0.mk (show w16.heap.size ≤ w17.heap.size from hS.size)
  clear hS
  refine (toI_calls _ _ rs1 fs1 (hA1.on oA1.out) hz1.out).mono ?_
  rintro e w18 ⟨v1, rfl, hO0, hb1⟩
  have hC := Aside0.mk hO0.read
  clear hO0
  obtain ⟨uaC, laC, xaC, ubC, lbC, xbC, rfl⟩ := (hC.out).shape
  refine ⟨_, rfl, hb1, fun a' ha => ?_⟩
  simp only [Act.put, List.setIfInBounds_toArray, List.set_cons_zero, List.set_cons_succ] at ha
  subst ha
  replace hW := Aside0.mk (hW.out.trans hb1)
  replace kp0 := Aside0.mk (blk_below kp0.out hb1)
  replace kp1 := Aside0.mk (blk_below kp1.out hb1)
  replace kx0 := Aside0.mk (blk_below kx0.out hb1)
  replace kx1 := Aside0.mk (blk_below kx1.out hb1)
  replace cp0 := blk_cell kp0.out
  replace cp1 := blk_cell kp1.out
  replace cx0 := blk_cell kx0.out
  replace cx1 := blk_cell kx1.out
  replace oA0 := Aside0.mk (oA0.out.trans hb1)
  replace oA1 := Aside0.mk (oA1.out.trans hb1)
  replace oR := Aside0.mk (oR.out.trans hb1)
  replace hX0 := Aside0.mk (hX0.out.on hb1)
  replace hX1 := Aside0.mk (hX1.out.on hb1)
  replace hG := Aside0.mk (hG.out.on hb1)
  have n26 := Aside0.mk (show w17.heap.size ≤ w18.heap.size from hb1.size)
  clear hb1
  repeat first | refine sP ?_ | refine sS ?_ | refine sA ?_ | refine sL ?_ | refine sQ ?_ | refine sO ?_
  refine callC (.bool true) Try.func17 (fun w' hS => ?_) ?_
  focus exact eqI_calls _ _ _ rs1 fs1 (hX1.out.read.on hS) (hC.out.on hS)
  repeat first | refine sP ?_ | refine sS ?_ | refine sA ?_ | refine sL ?_ | refine sQ ?_ | refine sO ?_
  refine Reg.nil fun w19 hS => ?_
  replace hW := Aside0.mk (hW.out.trans hS)
  replace kp0 := Aside0.mk (blk_below kp0.out hS)
  replace kp1 := Aside0.mk (blk_below kp1.out hS)
  replace kx0 := Aside0.mk (blk_below kx0.out hS)
  replace kx1 := Aside0.mk (blk_below kx1.out hS)
  replace cp0 := blk_cell kp0.out
  replace cp1 := blk_cell kp1.out
  replace cx0 := blk_cell kx0.out
  replace cx1 := blk_cell kx1.out
  replace oA0 := Aside0.mk (oA0.out.trans hS)
  replace oA1 := Aside0.mk (oA1.out.trans hS)
  replace oR := Aside0.mk (oR.out.trans hS)
  replace hX0 := Aside0.mk (hX0.out.on hS)
  replace hX1 := Aside0.mk (hX1.out.on hS)
  replace hG := Aside0.mk (hG.out.on hS)
  have n27 := Aside0.mk (show w18.heap.size ≤ w19.heap.size from hS.size)
  clear hS
  go_wp2_with (refine gate 52 ?_)
  refine ⟨goesF 52 Try.func18 ((mkI_calls _ _ _ _ rs0 fs0 (1 : Int) hX0.out (by omega) (by have := hz0.out; have := hmk0.out; have := hz1.out; have := hmk1.out; omega)).mono ?_)⟩
  rintro e w20 ⟨rfl, hM0, hE0⟩
  refine ⟨_, rfl, ?_⟩
  have hE := Aside0.mk hE0
  clear hE0
  replace hX0 := Aside0.mk hM0
  clear hM0
  replace hW := Aside0.mk (Ex.on hW.out hE.out (fun i hi => (by obtain ⟨hi1, hi2⟩ := hi; have n2 := n2.out; have n4 := n4.out; have n5 := n5.out; have n6 := n6.out; have n7 := n7.out; have n8 := n8.out; have n9 := n9.out; have n10 := n10.out; have n11 := n11.out; have n12 := n12.out; have n13 := n13.out; have n14 := n14.out; have n16 := n16.out; have n17 := n17.out; have n19 := n19.out; have n20 := n20.out; have n21 := n21.out; have n22 := n22.out; have n23 := n23.out; have n24 := n24.out; have n25 := n25.out; have n26 := n26.out; have n27 := n27.out; omega)))
  replace kp0 := Aside0.mk (blk_ex hE.out kp0.out (fun hx => (by obtain ⟨hx1, hx2⟩ := hx; have n2 := n2.out; have n4 := n4.out; have n5 := n5.out; have n6 := n6.out; have n7 := n7.out; have n8 := n8.out; have n9 := n9.out; have n10 := n10.out; have n11 := n11.out; have n12 := n12.out; have n13 := n13.out; have n14 := n14.out; have n16 := n16.out; have n17 := n17.out; have n19 := n19.out; have n20 := n20.out; have n21 := n21.out; have n22 := n22.out; have n23 := n23.out; have n24 := n24.out; have n25 := n25.out; have n26 := n26.out; have n27 := n27.out; omega)))
  replace kp1 := Aside0.mk (blk_ex hE.out kp1.out (fun hx => (by obtain ⟨hx1, hx2⟩ := hx; have n2 := n2.out; have n4 := n4.out; have n5 := n5.out; have n6 := n6.out; have n7 := n7.out; have n8 := n8.out; have n9 := n9.out; have n10 := n10.out; have n11 := n11.out; have n12 := n12.out; have n13 := n13.out; have n14 := n14.out; have n16 := n16.out; have n17 := n17.out; have n19 := n19.out; have n20 := n20.out; have n21 := n21.out; have n22 := n22.out; have n23 := n23.out; have n24 := n24.out; have n25 := n25.out; have n26 := n26.out; have n27 := n27.out; omega)))
  replace kx0 := Aside0.mk (blk_ex hE.out kx0.out (fun hx => (by obtain ⟨hx1, hx2⟩ := hx; have n2 := n2.out; have n4 := n4.out; have n5 := n5.out; have n6 := n6.out; have n7 := n7.out; have n8 := n8.out; have n9 := n9.out; have n10 := n10.out; have n11 := n11.out; have n12 := n12.out; have n13 := n13.out; have n14 := n14.out; have n16 := n16.out; have n17 := n17.out; have n19 := n19.out; have n20 := n20.out; have n21 := n21.out; have n22 := n22.out; have n23 := n23.out; have n24 := n24.out; have n25 := n25.out; have n26 := n26.out; have n27 := n27.out; omega)))
  replace kx1 := Aside0.mk (blk_ex hE.out kx1.out (fun hx => (by obtain ⟨hx1, hx2⟩ := hx; have n2 := n2.out; have n4 := n4.out; have n5 := n5.out; have n6 := n6.out; have n7 := n7.out; have n8 := n8.out; have n9 := n9.out; have n10 := n10.out; have n11 := n11.out; have n12 := n12.out; have n13 := n13.out; have n14 := n14.out; have n16 := n16.out; have n17 := n17.out; have n19 := n19.out; have n20 := n20.out; have n21 := n21.out; have n22 := n22.out; have n23 := n23.out; have n24 := n24.out; have n25 := n25.out; have n26 := n26.out; have n27 := n27.out; omega)))
  replace cp0 := blk_cell kp0.out
  replace cp1 := blk_cell kp1.out
  replace cx0 := blk_cell kx0.out
  replace cx1 := blk_cell kx1.out
  replace oA0 := Aside0.mk (Ex.on oA0.out hE.out (fun i hi => (by obtain ⟨hi1, hi2⟩ := hi; have n2 := n2.out; have n4 := n4.out; have n5 := n5.out; have n6 := n6.out; have n7 := n7.out; have n8 := n8.out; have n9 := n9.out; have n10 := n10.out; have n11 := n11.out; have n12 := n12.out; have n13 := n13.out; have n14 := n14.out; have n16 := n16.out; have n17 := n17.out; have n19 := n19.out; have n20 := n20.out; have n21 := n21.out; have n22 := n22.out; have n23 := n23.out; have n24 := n24.out; have n25 := n25.out; have n26 := n26.out; have n27 := n27.out; omega)))
  replace oA1 := Aside0.mk (Ex.on oA1.out hE.out (fun i hi => (by obtain ⟨hi1, hi2⟩ := hi; have n2 := n2.out; have n4 := n4.out; have n5 := n5.out; have n6 := n6.out; have n7 := n7.out; have n8 := n8.out; have n9 := n9.out; have n10 := n10.out; have n11 := n11.out; have n12 := n12.out; have n13 := n13.out; have n14 := n14.out; have n16 := n16.out; have n17 := n17.out; have n19 := n19.out; have n20 := n20.out; have n21 := n21.out; have n22 := n22.out; have n23 := n23.out; have n24 := n24.out; have n25 := n25.out; have n26 := n26.out; have n27 := n27.out; omega)))
  replace oR := Aside0.mk (Ex.on oR.out hE.out (fun i hi => (by obtain ⟨hi1, hi2⟩ := hi; have n2 := n2.out; have n4 := n4.out; have n5 := n5.out; have n6 := n6.out; have n7 := n7.out; have n8 := n8.out; have n9 := n9.out; have n10 := n10.out; have n11 := n11.out; have n12 := n12.out; have n13 := n13.out; have n14 := n14.out; have n16 := n16.out; have n17 := n17.out; have n19 := n19.out; have n20 := n20.out; have n21 := n21.out; have n22 := n22.out; have n23 := n23.out; have n24 := n24.out; have n25 := n25.out; have n26 := n26.out; have n27 := n27.out; omega)))
  replace hX1 := Aside0.mk (hX1.out.ex hE.out (fun b h1 h2 h3 => (by obtain ⟨h31, h32⟩ := h3; have n2 := n2.out; have n4 := n4.out; have n5 := n5.out; have n6 := n6.out; have n7 := n7.out; have n8 := n8.out; have n9 := n9.out; have n10 := n10.out; have n11 := n11.out; have n12 := n12.out; have n13 := n13.out; have n14 := n14.out; have n16 := n16.out; have n17 := n17.out; have n19 := n19.out; have n20 := n20.out; have n21 := n21.out; have n22 := n22.out; have n23 := n23.out; have n24 := n24.out; have n25 := n25.out; have n26 := n26.out; have n27 := n27.out; omega)))
  replace hG := Aside0.mk (hG.out.ex hE.out (fun b h1 h2 h3 => (by obtain ⟨h31, h32⟩ := h3; have n2 := n2.out; have n4 := n4.out; have n5 := n5.out; have n6 := n6.out; have n7 := n7.out; have n8 := n8.out; have n9 := n9.out; have n10 := n10.out; have n11 := n11.out; have n12 := n12.out; have n13 := n13.out; have n14 := n14.out; have n16 := n16.out; have n17 := n17.out; have n19 := n19.out; have n20 := n20.out; have n21 := n21.out; have n22 := n22.out; have n23 := n23.out; have n24 := n24.out; have n25 := n25.out; have n26 := n26.out; have n27 := n27.out; omega)))
  have n28 := Aside0.mk (show w19.heap.size ≤ w20.heap.size from hE.out.size)
  clear hE
  go_wp2_with (refine gate 55 ?_)
  refine ⟨goesF 55 Try.func18 ((mkI_calls _ _ _ _ rs1 fs1 ((1 : Int) + ((mkI rs0 fs0 : Nat) : Int)) hX1.out (by omega) (by have := hz0.out; have := hmk0.out; have := hz1.out; have := hmk1.out; omega)).mono ?_)⟩
  rintro e w21 ⟨rfl, hM0, hE0⟩
  refine ⟨_, rfl, ?_⟩
  have hE := Aside0.mk hE0
  clear hE0
  replace hX1 := Aside0.mk hM0
  clear hM0
  replace hW := Aside0.mk (Ex.on hW.out hE.out (fun i hi => (by obtain ⟨hi1, hi2⟩ := hi; have n2 := n2.out; have n4 := n4.out; have n5 := n5.out; have n6 := n6.out; have n7 := n7.out; have n8 := n8.out; have n9 := n9.out; have n10 := n10.out; have n11 := n11.out; have n12 := n12.out; have n13 := n13.out; have n14 := n14.out; have n16 := n16.out; have n17 := n17.out; have n19 := n19.out; have n20 := n20.out; have n21 := n21.out; have n22 := n22.out; have n23 := n23.out; have n24 := n24.out; have n25 := n25.out; have n26 := n26.out; have n27 := n27.out; have n28 := n28.out; omega)))
  replace kp0 := Aside0.mk (blk_ex hE.out kp0.out (fun hx => (by obtain ⟨hx1, hx2⟩ := hx; have n2 := n2.out; have n4 := n4.out; have n5 := n5.out; have n6 := n6.out; have n7 := n7.out; have n8 := n8.out; have n9 := n9.out; have n10 := n10.out; have n11 := n11.out; have n12 := n12.out; have n13 := n13.out; have n14 := n14.out; have n16 := n16.out; have n17 := n17.out; have n19 := n19.out; have n20 := n20.out; have n21 := n21.out; have n22 := n22.out; have n23 := n23.out; have n24 := n24.out; have n25 := n25.out; have n26 := n26.out; have n27 := n27.out; have n28 := n28.out; omega)))
  replace kp1 := Aside0.mk (blk_ex hE.out kp1.out (fun hx => (by obtain ⟨hx1, hx2⟩ := hx; have n2 := n2.out; have n4 := n4.out; have n5 := n5.out; have n6 := n6.out; have n7 := n7.out; have n8 := n8.out; have n9 := n9.out; have n10 := n10.out; have n11 := n11.out; have n12 := n12.out; have n13 := n13.out; have n14 := n14.out; have n16 := n16.out; have n17 := n17.out; have n19 := n19.out; have n20 := n20.out; have n21 := n21.out; have n22 := n22.out; have n23 := n23.out; have n24 := n24.out; have n25 := n25.out; have n26 := n26.out; have n27 := n27.out; have n28 := n28.out; omega)))
  replace kx0 := Aside0.mk (blk_ex hE.out kx0.out (fun hx => (by obtain ⟨hx1, hx2⟩ := hx; have n2 := n2.out; have n4 := n4.out; have n5 := n5.out; have n6 := n6.out; have n7 := n7.out; have n8 := n8.out; have n9 := n9.out; have n10 := n10.out; have n11 := n11.out; have n12 := n12.out; have n13 := n13.out; have n14 := n14.out; have n16 := n16.out; have n17 := n17.out; have n19 := n19.out; have n20 := n20.out; have n21 := n21.out; have n22 := n22.out; have n23 := n23.out; have n24 := n24.out; have n25 := n25.out; have n26 := n26.out; have n27 := n27.out; have n28 := n28.out; omega)))
  replace kx1 := Aside0.mk (blk_ex hE.out kx1.out (fun hx => (by obtain ⟨hx1, hx2⟩ := hx; have n2 := n2.out; have n4 := n4.out; have n5 := n5.out; have n6 := n6.out; have n7 := n7.out; have n8 := n8.out; have n9 := n9.out; have n10 := n10.out; have n11 := n11.out; have n12 := n12.out; have n13 := n13.out; have n14 := n14.out; have n16 := n16.out; have n17 := n17.out; have n19 := n19.out; have n20 := n20.out; have n21 := n21.out; have n22 := n22.out; have n23 := n23.out; have n24 := n24.out; have n25 := n25.out; have n26 := n26.out; have n27 := n27.out; have n28 := n28.out; omega)))
  replace cp0 := blk_cell kp0.out
  replace cp1 := blk_cell kp1.out
  replace cx0 := blk_cell kx0.out
  replace cx1 := blk_cell kx1.out
  replace oA0 := Aside0.mk (Ex.on oA0.out hE.out (fun i hi => (by obtain ⟨hi1, hi2⟩ := hi; have n2 := n2.out; have n4 := n4.out; have n5 := n5.out; have n6 := n6.out; have n7 := n7.out; have n8 := n8.out; have n9 := n9.out; have n10 := n10.out; have n11 := n11.out; have n12 := n12.out; have n13 := n13.out; have n14 := n14.out; have n16 := n16.out; have n17 := n17.out; have n19 := n19.out; have n20 := n20.out; have n21 := n21.out; have n22 := n22.out; have n23 := n23.out; have n24 := n24.out; have n25 := n25.out; have n26 := n26.out; have n27 := n27.out; have n28 := n28.out; omega)))
  replace oA1 := Aside0.mk (Ex.on oA1.out hE.out (fun i hi => (by obtain ⟨hi1, hi2⟩ := hi; have n2 := n2.out; have n4 := n4.out; have n5 := n5.out; have n6 := n6.out; have n7 := n7.out; have n8 := n8.out; have n9 := n9.out; have n10 := n10.out; have n11 := n11.out; have n12 := n12.out; have n13 := n13.out; have n14 := n14.out; have n16 := n16.out; have n17 := n17.out; have n19 := n19.out; have n20 := n20.out; have n21 := n21.out; have n22 := n22.out; have n23 := n23.out; have n24 := n24.out; have n25 := n25.out; have n26 := n26.out; have n27 := n27.out; have n28 := n28.out; omega)))
  replace oR := Aside0.mk (Ex.on oR.out hE.out (fun i hi => (by obtain ⟨hi1, hi2⟩ := hi; have n2 := n2.out; have n4 := n4.out; have n5 := n5.out; have n6 := n6.out; have n7 := n7.out; have n8 := n8.out; have n9 := n9.out; have n10 := n10.out; have n11 := n11.out; have n12 := n12.out; have n13 := n13.out; have n14 := n14.out; have n16 := n16.out; have n17 := n17.out; have n19 := n19.out; have n20 := n20.out; have n21 := n21.out; have n22 := n22.out; have n23 := n23.out; have n24 := n24.out; have n25 := n25.out; have n26 := n26.out; have n27 := n27.out; have n28 := n28.out; omega)))
  replace hX0 := Aside0.mk (hX0.out.ex hE.out (fun b h1 h2 h3 => (by obtain ⟨h31, h32⟩ := h3; have n2 := n2.out; have n4 := n4.out; have n5 := n5.out; have n6 := n6.out; have n7 := n7.out; have n8 := n8.out; have n9 := n9.out; have n10 := n10.out; have n11 := n11.out; have n12 := n12.out; have n13 := n13.out; have n14 := n14.out; have n16 := n16.out; have n17 := n17.out; have n19 := n19.out; have n20 := n20.out; have n21 := n21.out; have n22 := n22.out; have n23 := n23.out; have n24 := n24.out; have n25 := n25.out; have n26 := n26.out; have n27 := n27.out; have n28 := n28.out; omega)))
  replace hG := Aside0.mk (hG.out.ex hE.out (fun b h1 h2 h3 => (by obtain ⟨h31, h32⟩ := h3; have n2 := n2.out; have n4 := n4.out; have n5 := n5.out; have n6 := n6.out; have n7 := n7.out; have n8 := n8.out; have n9 := n9.out; have n10 := n10.out; have n11 := n11.out; have n12 := n12.out; have n13 := n13.out; have n14 := n14.out; have n16 := n16.out; have n17 := n17.out; have n19 := n19.out; have n20 := n20.out; have n21 := n21.out; have n22 := n22.out; have n23 := n23.out; have n24 := n24.out; have n25 := n25.out; have n26 := n26.out; have n27 := n27.out; have n28 := n28.out; omega)))
  have n29 := Aside0.mk (show w20.heap.size ≤ w21.heap.size from hE.out.size)
  clear hE
  have hkn : decide ((((1 : Int) + ((mkI rs0 fs0 : Nat) : Int)) + ((mkI rs1 fs1 : Nat) : Int)) < 0) = false := decide_eq_false (by omega)
  have hmn : decide ((1 : Int) + ((rlen (allF rs0 fs0 rs1 fs1) : Nat) : Int) < 0) = false := decide_eq_false (by omega)
  go_wp2_with (first
    | (refine gate 66 ?_)
    | (go_at_call 51; refine (eqSS_calls _ _ _ (allF rs0 fs0 rs1 fs1) hG.out.read (hR.out.on oR.out)).mono ?_; rintro e w22 ⟨rfl, hb1⟩; replace hW := Aside0.mk (hW.out.trans hb1); replace kp0 := Aside0.mk (blk_below kp0.out hb1); replace kp1 := Aside0.mk (blk_below kp1.out hb1); replace kx0 := Aside0.mk (blk_below kx0.out hb1); replace kx1 := Aside0.mk (blk_below kx1.out hb1); replace cp0 := blk_cell kp0.out; replace cp1 := blk_cell kp1.out; replace cx0 := blk_cell kx0.out; replace cx1 := blk_cell kx1.out; replace oA0 := Aside0.mk (oA0.out.trans hb1); replace oA1 := Aside0.mk (oA1.out.trans hb1); replace oR := Aside0.mk (oR.out.trans hb1); replace hX0 := Aside0.mk (hX0.out.on hb1); replace hX1 := Aside0.mk (hX1.out.on hb1); replace hG := Aside0.mk (hG.out.on hb1); have n30 := Aside0.mk (show w21.heap.size ≤ w22.heap.size from hb1.size); clear hb1))
  refine ⟨goesF 66 Try.func52 ((mkSS_calls _ _ _ _ (allF rs0 fs0 rs1 fs1) 1 hG.out (by omega) (by have := hmkG.out; have := hz0.out; have := hmk0.out; have := hz1.out; have := hmk1.out; omega)).mono ?_)⟩
  rintro e w23 ⟨rfl, hM0, hE0⟩
  refine ⟨_, rfl, ?_⟩
  have hE := Aside0.mk hE0
  clear hE0
  replace hG := Aside0.mk hM0
  clear hM0
  replace hW := Aside0.mk (Ex.on hW.out hE.out (fun i hi => (by obtain ⟨hi1, hi2⟩ := hi; have n2 := n2.out; have n4 := n4.out; have n5 := n5.out; have n6 := n6.out; have n7 := n7.out; have n8 := n8.out; have n9 := n9.out; have n10 := n10.out; have n11 := n11.out; have n12 := n12.out; have n13 := n13.out; have n14 := n14.out; have n16 := n16.out; have n17 := n17.out; have n19 := n19.out; have n20 := n20.out; have n21 := n21.out; have n22 := n22.out; have n23 := n23.out; have n24 := n24.out; have n25 := n25.out; have n26 := n26.out; have n27 := n27.out; have n28 := n28.out; have n29 := n29.out; have n30 := n30.out; omega)))
  replace kp0 := Aside0.mk (blk_ex hE.out kp0.out (fun hx => (by obtain ⟨hx1, hx2⟩ := hx; have n2 := n2.out; have n4 := n4.out; have n5 := n5.out; have n6 := n6.out; have n7 := n7.out; have n8 := n8.out; have n9 := n9.out; have n10 := n10.out; have n11 := n11.out; have n12 := n12.out; have n13 := n13.out; have n14 := n14.out; have n16 := n16.out; have n17 := n17.out; have n19 := n19.out; have n20 := n20.out; have n21 := n21.out; have n22 := n22.out; have n23 := n23.out; have n24 := n24.out; have n25 := n25.out; have n26 := n26.out; have n27 := n27.out; have n28 := n28.out; have n29 := n29.out; have n30 := n30.out; omega)))
  replace kp1 := Aside0.mk (blk_ex hE.out kp1.out (fun hx => (by obtain ⟨hx1, hx2⟩ := hx; have n2 := n2.out; have n4 := n4.out; have n5 := n5.out; have n6 := n6.out; have n7 := n7.out; have n8 := n8.out; have n9 := n9.out; have n10 := n10.out; have n11 := n11.out; have n12 := n12.out; have n13 := n13.out; have n14 := n14.out; have n16 := n16.out; have n17 := n17.out; have n19 := n19.out; have n20 := n20.out; have n21 := n21.out; have n22 := n22.out; have n23 := n23.out; have n24 := n24.out; have n25 := n25.out; have n26 := n26.out; have n27 := n27.out; have n28 := n28.out; have n29 := n29.out; have n30 := n30.out; omega)))
  replace kx0 := Aside0.mk (blk_ex hE.out kx0.out (fun hx => (by obtain ⟨hx1, hx2⟩ := hx; have n2 := n2.out; have n4 := n4.out; have n5 := n5.out; have n6 := n6.out; have n7 := n7.out; have n8 := n8.out; have n9 := n9.out; have n10 := n10.out; have n11 := n11.out; have n12 := n12.out; have n13 := n13.out; have n14 := n14.out; have n16 := n16.out; have n17 := n17.out; have n19 := n19.out; have n20 := n20.out; have n21 := n21.out; have n22 := n22.out; have n23 := n23.out; have n24 := n24.out; have n25 := n25.out; have n26 := n26.out; have n27 := n27.out; have n28 := n28.out; have n29 := n29.out; have n30 := n30.out; omega)))
  replace kx1 := Aside0.mk (blk_ex hE.out kx1.out (fun hx => (by obtain ⟨hx1, hx2⟩ := hx; have n2 := n2.out; have n4 := n4.out; have n5 := n5.out; have n6 := n6.out; have n7 := n7.out; have n8 := n8.out; have n9 := n9.out; have n10 := n10.out; have n11 := n11.out; have n12 := n12.out; have n13 := n13.out; have n14 := n14.out; have n16 := n16.out; have n17 := n17.out; have n19 := n19.out; have n20 := n20.out; have n21 := n21.out; have n22 := n22.out; have n23 := n23.out; have n24 := n24.out; have n25 := n25.out; have n26 := n26.out; have n27 := n27.out; have n28 := n28.out; have n29 := n29.out; have n30 := n30.out; omega)))
  replace cp0 := blk_cell kp0.out
  replace cp1 := blk_cell kp1.out
  replace cx0 := blk_cell kx0.out
  replace cx1 := blk_cell kx1.out
  replace oA0 := Aside0.mk (Ex.on oA0.out hE.out (fun i hi => (by obtain ⟨hi1, hi2⟩ := hi; have n2 := n2.out; have n4 := n4.out; have n5 := n5.out; have n6 := n6.out; have n7 := n7.out; have n8 := n8.out; have n9 := n9.out; have n10 := n10.out; have n11 := n11.out; have n12 := n12.out; have n13 := n13.out; have n14 := n14.out; have n16 := n16.out; have n17 := n17.out; have n19 := n19.out; have n20 := n20.out; have n21 := n21.out; have n22 := n22.out; have n23 := n23.out; have n24 := n24.out; have n25 := n25.out; have n26 := n26.out; have n27 := n27.out; have n28 := n28.out; have n29 := n29.out; have n30 := n30.out; omega)))
  replace oA1 := Aside0.mk (Ex.on oA1.out hE.out (fun i hi => (by obtain ⟨hi1, hi2⟩ := hi; have n2 := n2.out; have n4 := n4.out; have n5 := n5.out; have n6 := n6.out; have n7 := n7.out; have n8 := n8.out; have n9 := n9.out; have n10 := n10.out; have n11 := n11.out; have n12 := n12.out; have n13 := n13.out; have n14 := n14.out; have n16 := n16.out; have n17 := n17.out; have n19 := n19.out; have n20 := n20.out; have n21 := n21.out; have n22 := n22.out; have n23 := n23.out; have n24 := n24.out; have n25 := n25.out; have n26 := n26.out; have n27 := n27.out; have n28 := n28.out; have n29 := n29.out; have n30 := n30.out; omega)))
  replace oR := Aside0.mk (Ex.on oR.out hE.out (fun i hi => (by obtain ⟨hi1, hi2⟩ := hi; have n2 := n2.out; have n4 := n4.out; have n5 := n5.out; have n6 := n6.out; have n7 := n7.out; have n8 := n8.out; have n9 := n9.out; have n10 := n10.out; have n11 := n11.out; have n12 := n12.out; have n13 := n13.out; have n14 := n14.out; have n16 := n16.out; have n17 := n17.out; have n19 := n19.out; have n20 := n20.out; have n21 := n21.out; have n22 := n22.out; have n23 := n23.out; have n24 := n24.out; have n25 := n25.out; have n26 := n26.out; have n27 := n27.out; have n28 := n28.out; have n29 := n29.out; have n30 := n30.out; omega)))
  replace hX0 := Aside0.mk (hX0.out.ex hE.out (fun b h1 h2 h3 => (by obtain ⟨h31, h32⟩ := h3; have n2 := n2.out; have n4 := n4.out; have n5 := n5.out; have n6 := n6.out; have n7 := n7.out; have n8 := n8.out; have n9 := n9.out; have n10 := n10.out; have n11 := n11.out; have n12 := n12.out; have n13 := n13.out; have n14 := n14.out; have n16 := n16.out; have n17 := n17.out; have n19 := n19.out; have n20 := n20.out; have n21 := n21.out; have n22 := n22.out; have n23 := n23.out; have n24 := n24.out; have n25 := n25.out; have n26 := n26.out; have n27 := n27.out; have n28 := n28.out; have n29 := n29.out; have n30 := n30.out; omega)))
  replace hX1 := Aside0.mk (hX1.out.ex hE.out (fun b h1 h2 h3 => (by obtain ⟨h31, h32⟩ := h3; have n2 := n2.out; have n4 := n4.out; have n5 := n5.out; have n6 := n6.out; have n7 := n7.out; have n8 := n8.out; have n9 := n9.out; have n10 := n10.out; have n11 := n11.out; have n12 := n12.out; have n13 := n13.out; have n14 := n14.out; have n16 := n16.out; have n17 := n17.out; have n19 := n19.out; have n20 := n20.out; have n21 := n21.out; have n22 := n22.out; have n23 := n23.out; have n24 := n24.out; have n25 := n25.out; have n26 := n26.out; have n27 := n27.out; have n28 := n28.out; have n29 := n29.out; have n30 := n30.out; omega)))
  have n31 := Aside0.mk (show w22.heap.size ≤ w23.heap.size from hE.out.size)
  clear hE
  go_wp2_with (refine gate 69 ?_)
  refine ⟨goesF 69 Try.func53 ((hdSS_calls _ _ (allF rs0 fs0 rs1 fs1) 1 hG.out.read (by omega) (by have := hmkG.out; have := hz0.out; have := hmk0.out; have := hz1.out; have := hmk1.out; omega)).mono ?_)⟩
  rintro e w24 ⟨rfl, hb1⟩
  refine ⟨_, rfl, ?_⟩
  replace hW := Aside0.mk (hW.out.trans hb1)
  replace kp0 := Aside0.mk (blk_below kp0.out hb1)
  replace kp1 := Aside0.mk (blk_below kp1.out hb1)
  replace kx0 := Aside0.mk (blk_below kx0.out hb1)
  replace kx1 := Aside0.mk (blk_below kx1.out hb1)
  replace cp0 := blk_cell kp0.out
  replace cp1 := blk_cell kp1.out
  replace cx0 := blk_cell kx0.out
  replace cx1 := blk_cell kx1.out
  replace oA0 := Aside0.mk (oA0.out.trans hb1)
  replace oA1 := Aside0.mk (oA1.out.trans hb1)
  replace oR := Aside0.mk (oR.out.trans hb1)
  replace hX0 := Aside0.mk (hX0.out.on hb1)
  replace hX1 := Aside0.mk (hX1.out.on hb1)
  replace hG := Aside0.mk (hG.out.on hb1)
  have n32 := Aside0.mk (show w23.heap.size ≤ w24.heap.size from hb1.size)
  clear hb1
  go_wp2
  refine Reg.region [(0,.L),(2,.L),(1,.N),(3,.N),(4,.N)] [5] (by kernel_rfl) (by kernel_rfl) ?_
  repeat first | refine sP ?_ | refine sS ?_ | refine sA ?_ | refine sL ?_ | refine sQ ?_ | refine sO ?_
  refine callN Try.func14 (fun w25 hS => ?_)
  replace hW := Aside0.mk (hW.out.trans hS)
  replace kp0 := Aside0.mk (blk_below kp0.out hS)
  replace kp1 := Aside0.mk (blk_below kp1.out hS)
  replace kx0 := Aside0.mk (blk_below kx0.out hS)
  replace kx1 := Aside0.mk (blk_below kx1.out hS)
  replace cp0 := blk_cell kp0.out
  replace cp1 := blk_cell kp1.out
  replace cx0 := blk_cell kx0.out
  replace cx1 := blk_cell kx1.out
  replace oA0 := Aside0.mk (oA0.out.trans hS)
  replace oA1 := Aside0.mk (oA1.out.trans hS)
  replace oR := Aside0.mk (oR.out.trans hS)
  replace hX0 := Aside0.mk (hX0.out.on hS)
  replace hX1 := Aside0.mk (hX1.out.on hS)
  replace hG := Aside0.mk (hG.out.on hS)
  have n33 := Aside0.mk (show w24.heap.size ≤ w25.heap.size from hS.size)
  clear hS
  refine (toI_calls _ _ rs0 fs0 (hA0.on oA0.out) hz0.out).mono ?_
  rintro e w26 ⟨v1, rfl, hO0, hb1⟩
  have hT0 := Aside0.mk hO0.b
  clear hO0
  obtain ⟨uaT0, laT0, xaT0, ubT0, lbT0, xbT0, rfl⟩ := (hT0.out.read).shape
  refine ⟨_, rfl, hb1, fun a' ha => ?_⟩
  simp only [Act.put, List.setIfInBounds_toArray, List.set_cons_zero, List.set_cons_succ] at ha
  subst ha
  replace hW := Aside0.mk (hW.out.trans hb1)
  replace kp0 := Aside0.mk (blk_below kp0.out hb1)
  replace kp1 := Aside0.mk (blk_below kp1.out hb1)
  replace kx0 := Aside0.mk (blk_below kx0.out hb1)
  replace kx1 := Aside0.mk (blk_below kx1.out hb1)
  replace cp0 := blk_cell kp0.out
  replace cp1 := blk_cell kp1.out
  replace cx0 := blk_cell kx0.out
  replace cx1 := blk_cell kx1.out
  replace oA0 := Aside0.mk (oA0.out.trans hb1)
  replace oA1 := Aside0.mk (oA1.out.trans hb1)
  replace oR := Aside0.mk (oR.out.trans hb1)
  replace hX0 := Aside0.mk (hX0.out.on hb1)
  replace hX1 := Aside0.mk (hX1.out.on hb1)
  replace hG := Aside0.mk (hG.out.on hb1)
  have n34 := Aside0.mk (show w25.heap.size ≤ w26.heap.size from hb1.size)
  clear hb1
  repeat first | refine sP ?_ | refine sS ?_ | refine sA ?_ | refine sL ?_ | refine sQ ?_ | refine sO ?_
  refine callN Try.func14 (fun w27 hS => ?_)
  replace hW := Aside0.mk (hW.out.trans hS)
  replace kp0 := Aside0.mk (blk_below kp0.out hS)
  replace kp1 := Aside0.mk (blk_below kp1.out hS)
  replace kx0 := Aside0.mk (blk_below kx0.out hS)
  replace kx1 := Aside0.mk (blk_below kx1.out hS)
  replace cp0 := blk_cell kp0.out
  replace cp1 := blk_cell kp1.out
  replace cx0 := blk_cell kx0.out
  replace cx1 := blk_cell kx1.out
  replace oA0 := Aside0.mk (oA0.out.trans hS)
  replace oA1 := Aside0.mk (oA1.out.trans hS)
  replace oR := Aside0.mk (oR.out.trans hS)
  replace hX0 := Aside0.mk (hX0.out.on hS)
  replace hX1 := Aside0.mk (hX1.out.on hS)
  replace hG := Aside0.mk (hG.out.on hS)
  replace hT0 := Aside0.mk (hT0.out.on hS)
  have n35 := Aside0.mk (show w26.heap.size ≤ w27.heap.size from hS.size)
  clear hS
  refine (toI_calls _ _ rs1 fs1 (hA1.on oA1.out) hz1.out).mono ?_
  rintro e w28 ⟨v1, rfl, hO0, hb1⟩
  have hT1 := Aside0.mk hO0.b
  clear hO0
  obtain ⟨uaT1, laT1, xaT1, ubT1, lbT1, xbT1, rfl⟩ := (hT1.out.read).shape
  refine ⟨_, rfl, hb1, fun a' ha => ?_⟩
  simp only [Act.put, List.setIfInBounds_toArray, List.set_cons_zero, List.set_cons_succ] at ha
  subst ha
  replace hW := Aside0.mk (hW.out.trans hb1)
  replace kp0 := Aside0.mk (blk_below kp0.out hb1)
  replace kp1 := Aside0.mk (blk_below kp1.out hb1)
  replace kx0 := Aside0.mk (blk_below kx0.out hb1)
  replace kx1 := Aside0.mk (blk_below kx1.out hb1)
  replace cp0 := blk_cell kp0.out
  replace cp1 := blk_cell kp1.out
  replace cx0 := blk_cell kx0.out
  replace cx1 := blk_cell kx1.out
  replace oA0 := Aside0.mk (oA0.out.trans hb1)
  replace oA1 := Aside0.mk (oA1.out.trans hb1)
  replace oR := Aside0.mk (oR.out.trans hb1)
  replace hX0 := Aside0.mk (hX0.out.on hb1)
  replace hX1 := Aside0.mk (hX1.out.on hb1)
  replace hG := Aside0.mk (hG.out.on hb1)
  replace hT0 := Aside0.mk (hT0.out.on hb1)
  have n36 := Aside0.mk (show w27.heap.size ≤ w28.heap.size from hb1.size)
  clear hb1
  repeat first | refine sP ?_ | refine sS ?_ | refine sA ?_ | refine sL ?_ | refine sQ ?_ | refine sO ?_
  refine callN Try.func50 (fun w29 hS => ?_)
  replace hW := Aside0.mk (hW.out.trans hS)
  replace kp0 := Aside0.mk (blk_below kp0.out hS)
  replace kp1 := Aside0.mk (blk_below kp1.out hS)
  replace kx0 := Aside0.mk (blk_below kx0.out hS)
  replace kx1 := Aside0.mk (blk_below kx1.out hS)
  replace cp0 := blk_cell kp0.out
  replace cp1 := blk_cell kp1.out
  replace cx0 := blk_cell kx0.out
  replace cx1 := blk_cell kx1.out
  replace oA0 := Aside0.mk (oA0.out.trans hS)
  replace oA1 := Aside0.mk (oA1.out.trans hS)
  replace oR := Aside0.mk (oR.out.trans hS)
  replace hX0 := Aside0.mk (hX0.out.on hS)
  replace hX1 := Aside0.mk (hX1.out.on hS)
  replace hG := Aside0.mk (hG.out.on hS)
  replace hT0 := Aside0.mk (hT0.out.on hS)
  replace hT1 := Aside0.mk (hT1.out.on hS)
  have n37 := Aside0.mk (show w28.heap.size ≤ w29.heap.size from hS.size)
  clear hS
  refine (iFindAllV _ _ _ rs0 fs0 rs1 fs1 hT0.out.read hT1.out.read).mono ?_
  rintro e w30 ⟨v1, rfl, hO0, hb1⟩
  have hH := Aside0.mk hO0.read
  clear hO0
  obtain ⟨uaH, laH, xaH, rfl⟩ := (hH.out).shape
  have oH := Aside0.mk (On.refl w30)
  refine ⟨_, rfl, hb1, fun a' ha => ?_⟩
  simp only [Act.put, List.setIfInBounds_toArray, List.set_cons_zero, List.set_cons_succ] at ha
  subst ha
  replace hW := Aside0.mk (hW.out.trans hb1)
  replace kp0 := Aside0.mk (blk_below kp0.out hb1)
  replace kp1 := Aside0.mk (blk_below kp1.out hb1)
  replace kx0 := Aside0.mk (blk_below kx0.out hb1)
  replace kx1 := Aside0.mk (blk_below kx1.out hb1)
  replace cp0 := blk_cell kp0.out
  replace cp1 := blk_cell kp1.out
  replace cx0 := blk_cell kx0.out
  replace cx1 := blk_cell kx1.out
  replace oA0 := Aside0.mk (oA0.out.trans hb1)
  replace oA1 := Aside0.mk (oA1.out.trans hb1)
  replace oR := Aside0.mk (oR.out.trans hb1)
  replace hX0 := Aside0.mk (hX0.out.on hb1)
  replace hX1 := Aside0.mk (hX1.out.on hb1)
  replace hG := Aside0.mk (hG.out.on hb1)
  replace hT0 := Aside0.mk (hT0.out.on hb1)
  replace hT1 := Aside0.mk (hT1.out.on hb1)
  have n38 := Aside0.mk (show w29.heap.size ≤ w30.heap.size from hb1.size)
  clear hb1
  repeat first | refine sP ?_ | refine sS ?_ | refine sA ?_ | refine sL ?_ | refine sQ ?_ | refine sO ?_
  refine Reg.tail_ fun w31 hS => ?_
  replace hW := Aside0.mk (hW.out.trans hS)
  replace kp0 := Aside0.mk (blk_below kp0.out hS)
  replace kp1 := Aside0.mk (blk_below kp1.out hS)
  replace kx0 := Aside0.mk (blk_below kx0.out hS)
  replace kx1 := Aside0.mk (blk_below kx1.out hS)
  replace cp0 := blk_cell kp0.out
  replace cp1 := blk_cell kp1.out
  replace cx0 := blk_cell kx0.out
  replace cx1 := blk_cell kx1.out
  replace oA0 := Aside0.mk (oA0.out.trans hS)
  replace oA1 := Aside0.mk (oA1.out.trans hS)
  replace oR := Aside0.mk (oR.out.trans hS)
  replace oH := Aside0.mk (oH.out.trans hS)
  replace hX0 := Aside0.mk (hX0.out.on hS)
  replace hX1 := Aside0.mk (hX1.out.on hS)
  replace hG := Aside0.mk (hG.out.on hS)
  have n39 := Aside0.mk (show w30.heap.size ≤ w31.heap.size from hS.size)
  clear hS
  go_wp2_with (refine gate 82 ?_)
  refine ⟨goesF 82 Try.func51 ((eqSS_calls _ _ _ (allF rs0 fs0 rs1 fs1) (hH.out.on oH.out) (hR.out.on oR.out)).mono ?_)⟩
  rintro e w32 ⟨rfl, hb1⟩
  refine ⟨_, rfl, ?_⟩
  replace hW := Aside0.mk (hW.out.trans hb1)
  replace kp0 := Aside0.mk (blk_below kp0.out hb1)
  replace kp1 := Aside0.mk (blk_below kp1.out hb1)
  replace kx0 := Aside0.mk (blk_below kx0.out hb1)
  replace kx1 := Aside0.mk (blk_below kx1.out hb1)
  replace cp0 := blk_cell kp0.out
  replace cp1 := blk_cell kp1.out
  replace cx0 := blk_cell kx0.out
  replace cx1 := blk_cell kx1.out
  replace oA0 := Aside0.mk (oA0.out.trans hb1)
  replace oA1 := Aside0.mk (oA1.out.trans hb1)
  replace oR := Aside0.mk (oR.out.trans hb1)
  replace oH := Aside0.mk (oH.out.trans hb1)
  replace hX0 := Aside0.mk (hX0.out.on hb1)
  replace hX1 := Aside0.mk (hX1.out.on hb1)
  replace hG := Aside0.mk (hG.out.on hb1)
  have n40 := Aside0.mk (show w31.heap.size ≤ w32.heap.size from hb1.size)
  clear hb1
  go_wp2_with (refine gate 86 ?_)
  refine ⟨goesF 86 Try.func53 ((hdSS_calls _ _ (allF rs0 fs0 rs1 fs1) 1 hG.out.read (by omega) (by have := hmkG.out; have := hz0.out; have := hmk0.out; have := hz1.out; have := hmk1.out; omega)).mono ?_)⟩
  rintro e w33 ⟨rfl, hb1⟩
  refine ⟨_, rfl, ?_⟩
  replace hW := Aside0.mk (hW.out.trans hb1)
  replace kp0 := Aside0.mk (blk_below kp0.out hb1)
  replace kp1 := Aside0.mk (blk_below kp1.out hb1)
  replace kx0 := Aside0.mk (blk_below kx0.out hb1)
  replace kx1 := Aside0.mk (blk_below kx1.out hb1)
  replace cp0 := blk_cell kp0.out
  replace cp1 := blk_cell kp1.out
  replace cx0 := blk_cell kx0.out
  replace cx1 := blk_cell kx1.out
  replace oA0 := Aside0.mk (oA0.out.trans hb1)
  replace oA1 := Aside0.mk (oA1.out.trans hb1)
  replace oR := Aside0.mk (oR.out.trans hb1)
  replace oH := Aside0.mk (oH.out.trans hb1)
  replace hX0 := Aside0.mk (hX0.out.on hb1)
  replace hX1 := Aside0.mk (hX1.out.on hb1)
  replace hG := Aside0.mk (hG.out.on hb1)
  have n41 := Aside0.mk (show w32.heap.size ≤ w33.heap.size from hb1.size)
  clear hb1
  go_wp2
  go_ret
  exact ⟨rfl, hW.out⟩
end Go.Proofs.Ytngjhblbpapjeaa.H
