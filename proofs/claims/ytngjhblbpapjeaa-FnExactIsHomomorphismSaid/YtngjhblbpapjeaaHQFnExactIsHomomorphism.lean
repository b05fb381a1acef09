/- Walk: the law FnExactIsHomomorphism. No condition. -/
import Derived.Test.YtngjhblbpapjeaaHS9
import Derived.Test.YtngjhblbpapjeaaHL10
namespace Go.Proofs.Ytngjhblbpapjeaa.H
open Go Go.RowKit Go.Proofs.YtngjhblbpapjeaaW.PrintWords Go.Proofs.YtngjhblbpapjeaaW.PrintLast
open Go.Proofs.Ytngjhblbpapjeaa.Reg (On on_draw)
set_option maxHeartbeats 8000000
set_option maxRecDepth 100000
set_option linter.unusedVariables false
set_option linter.unusedSimpArgs false

theorem sIsHomV (w : World) (v u t : Value) (rs : List Rel) (fs : List Fct) (qs : List Rel) (gs : List Fct) (ns vs : List Int) (h : RIn w v rs fs) (k : RIn w u qs gs) (l : RSu w t ns vs) (hz : wR rs + wF fs ≤ 1048576) : Calls Try.prog 25 #[v, u, t] w fun e w' => e = .returned (.bool (isHom rs fs qs gs ns vs)) ∧ On w w' := by
  obtain ⟨A0, c0, A1, c1, rfl, h0, h1⟩ := h.out
  obtain ⟨A2, c2, A3, c3, rfl, h2, h3⟩ := k.out
  obtain ⟨A4, c4, A5, c5, rfl, h4, h5⟩ := l.out
  exact sIsHom_calls w A0 c0 A1 c1 rs fs h0 h1 A2 c2 A3 c3 qs gs h2 h3 A4 c4 A5 c5 ns vs h4 h5 (by omega)
theorem iIsHomV (w : World) (v u t : Value) (rs : List Rel) (fs : List Fct) (qs : List Rel) (gs : List Fct) (ns vs : List Int) (h : RIn w v rs fs) (k : RIn w u qs gs) (l : RSu w t ns vs) (hz : wR rs + wF fs ≤ 1048576) : Calls Try.prog 27 #[v, u, t] w fun e w' => e = .returned (.bool (isHom rs fs qs gs ns vs)) ∧ On w w' := by
  obtain ⟨A0, c0, A1, c1, rfl, h0, h1⟩ := h.out
  obtain ⟨A2, c2, A3, c3, rfl, h2, h3⟩ := k.out
  obtain ⟨A4, c4, A5, c5, rfl, h4, h5⟩ := l.out
  exact iIsHom_calls w A0 c0 A1 c1 rs fs h0 h1 A2 c2 A3 c3 qs gs h2 h3 A4 c4 A5 c5 ns vs h4 h5 (by omega)
theorem FnExactIsHomomorphism_calls (w : World) (V0 : Value) (rs0 : List Rel) (fs0 : List Fct) (hA0 : RIn w V0 rs0 fs0) (hZ0 : ∀ r ∈ rs0, r.1.size ≤ 9223372036854775807) (V1 : Value) (rs1 : List Rel) (fs1 : List Fct) (hA1 : RIn w V1 rs1 fs1) (hZ1 : ∀ r ∈ rs1, r.1.size ≤ 9223372036854775807) (V2 : Value) (ns2 vs2 : List Int) (hA2 : RSu w V2 ns2 vs2) : Calls Try.prog 5 #[V0, V1, V2] w fun e w' => e = .returned (.bool true) ∧ On w w' := by
  have hW := Aside0.mk (On.refl w)
  obtain ⟨ua0, la0, xa0, ub0, lb0, xb0, rfl⟩ := hA0.shape
  have oA0 := Aside0.mk (On.refl w)
  obtain ⟨ua1, la1, xa1, ub1, lb1, xb1, rfl⟩ := hA1.shape
  have oA1 := Aside0.mk (On.refl w)
  obtain ⟨ua2, la2, xa2, ub2, lb2, xb2, rfl⟩ := hA2.shape
  have oA2 := Aside0.mk (On.refl w)
  replace hW := Aside0.mk (hW.out.trans (On.alloc (On.refl w) (.cells #[.slice ua0 la0 xa0, .slice ub0 lb0 xb0] 25)))
  replace oA0 := Aside0.mk (oA0.out.trans (On.alloc (On.refl w) (.cells #[.slice ua0 la0 xa0, .slice ub0 lb0 xb0] 25)))
  replace oA1 := Aside0.mk (oA1.out.trans (On.alloc (On.refl w) (.cells #[.slice ua0 la0 xa0, .slice ub0 lb0 xb0] 25)))
  replace oA2 := Aside0.mk (oA2.out.trans (On.alloc (On.refl w) (.cells #[.slice ua0 la0 xa0, .slice ub0 lb0 xb0] 25)))
  have n2 := Aside0.mk (show (w.alloc (.cells #[.slice ua0 la0 xa0, .slice ub0 lb0 xb0] 25)).heap.size = w.heap.size + 1 from by simp)
  have kp0 := Aside0.mk (loc_new w #[.slice ua0 la0 xa0, .slice ub0 lb0 xb0] 25)
  have cp0 := blk_cell kp0.out
  replace hW := Aside0.mk (hW.out.trans (On.alloc (On.refl (w.alloc (.cells #[.slice ua0 la0 xa0, .slice ub0 lb0 xb0] 25))) (.cells #[.slice ua1 la1 xa1, .slice ub1 lb1 xb1] 25)))
  replace kp0 := Aside0.mk (blk_below kp0.out (On.alloc (On.refl (w.alloc (.cells #[.slice ua0 la0 xa0, .slice ub0 lb0 xb0] 25))) (.cells #[.slice ua1 la1 xa1, .slice ub1 lb1 xb1] 25)))
  replace cp0 := blk_cell kp0.out
  replace oA0 := Aside0.mk (oA0.out.trans (On.alloc (On.refl (w.alloc (.cells #[.slice ua0 la0 xa0, .slice ub0 lb0 xb0] 25))) (.cells #[.slice ua1 la1 xa1, .slice ub1 lb1 xb1] 25)))
  replace oA1 := Aside0.mk (oA1.out.trans (On.alloc (On.refl (w.alloc (.cells #[.slice ua0 la0 xa0, .slice ub0 lb0 xb0] 25))) (.cells #[.slice ua1 la1 xa1, .slice ub1 lb1 xb1] 25)))
  replace oA2 := Aside0.mk (oA2.out.trans (On.alloc (On.refl (w.alloc (.cells #[.slice ua0 la0 xa0, .slice ub0 lb0 xb0] 25))) (.cells #[.slice ua1 la1 xa1, .slice ub1 lb1 xb1] 25)))
  have n4 := Aside0.mk (show ((w.alloc (.cells #[.slice ua0 la0 xa0, .slice ub0 lb0 xb0] 25)).alloc (.cells #[.slice ua1 la1 xa1, .slice ub1 lb1 xb1] 25)).heap.size = (w.alloc (.cells #[.slice ua0 la0 xa0, .slice ub0 lb0 xb0] 25)).heap.size + 1 from by simp)
  have kp1 := Aside0.mk (show ((w.alloc (.cells #[.slice ua0 la0 xa0, .slice ub0 lb0 xb0] 25)).alloc (.cells #[.slice ua1 la1 xa1, .slice ub1 lb1 xb1] 25)).heap[w.heap.size + 1]? = some (.cells #[.slice ua1 la1 xa1, .slice ub1 lb1 xb1] 25 (0, 0)) from by have h := loc_new (w.alloc (.cells #[.slice ua0 la0 xa0, .slice ub0 lb0 xb0] 25)) #[.slice ua1 la1 xa1, .slice ub1 lb1 xb1] 25; rwa [show (w.alloc (.cells #[.slice ua0 la0 xa0, .slice ub0 lb0 xb0] 25)).heap.size = w.heap.size + 1 by simp] at h)
  have cp1 := blk_cell kp1.out
  replace hW := Aside0.mk (hW.out.trans (On.alloc (On.refl ((w.alloc (.cells #[.slice ua0 la0 xa0, .slice ub0 lb0 xb0] 25)).alloc (.cells #[.slice ua1 la1 xa1, .slice ub1 lb1 xb1] 25))) (.cells #[.slice ua2 la2 xa2, .slice ub2 lb2 xb2] 42)))
  replace kp0 := Aside0.mk (blk_below kp0.out (On.alloc (On.refl ((w.alloc (.cells #[.slice ua0 la0 xa0, .slice ub0 lb0 xb0] 25)).alloc (.cells #[.slice ua1 la1 xa1, .slice ub1 lb1 xb1] 25))) (.cells #[.slice ua2 la2 xa2, .slice ub2 lb2 xb2] 42)))
  replace kp1 := Aside0.mk (blk_below kp1.out (On.alloc (On.refl ((w.alloc (.cells #[.slice ua0 la0 xa0, .slice ub0 lb0 xb0] 25)).alloc (.cells #[.slice ua1 la1 xa1, .slice ub1 lb1 xb1] 25))) (.cells #[.slice ua2 la2 xa2, .slice ub2 lb2 xb2] 42)))
  replace cp0 := blk_cell kp0.out
  replace cp1 := blk_cell kp1.out
  replace oA0 := Aside0.mk (oA0.out.trans (On.alloc (On.refl ((w.alloc (.cells #[.slice ua0 la0 xa0, .slice ub0 lb0 xb0] 25)).alloc (.cells #[.slice ua1 la1 xa1, .slice ub1 lb1 xb1] 25))) (.cells #[.slice ua2 la2 xa2, .slice ub2 lb2 xb2] 42)))
  replace oA1 := Aside0.mk (oA1.out.trans (On.alloc (On.refl ((w.alloc (.cells #[.slice ua0 la0 xa0, .slice ub0 lb0 xb0] 25)).alloc (.cells #[.slice ua1 la1 xa1, .slice ub1 lb1 xb1] 25))) (.cells #[.slice ua2 la2 xa2, .slice ub2 lb2 xb2] 42)))
  replace oA2 := Aside0.mk (oA2.out.trans (On.alloc (On.refl ((w.alloc (.cells #[.slice ua0 la0 xa0, .slice ub0 lb0 xb0] 25)).alloc (.cells #[.slice ua1 la1 xa1, .slice ub1 lb1 xb1] 25))) (.cells #[.slice ua2 la2 xa2, .slice ub2 lb2 xb2] 42)))
  have n6 := Aside0.mk (show (((w.alloc (.cells #[.slice ua0 la0 xa0, .slice ub0 lb0 xb0] 25)).alloc (.cells #[.slice ua1 la1 xa1, .slice ub1 lb1 xb1] 25)).alloc (.cells #[.slice ua2 la2 xa2, .slice ub2 lb2 xb2] 42)).heap.size = ((w.alloc (.cells #[.slice ua0 la0 xa0, .slice ub0 lb0 xb0] 25)).alloc (.cells #[.slice ua1 la1 xa1, .slice ub1 lb1 xb1] 25)).heap.size + 1 from by simp)
  have kp2 := Aside0.mk (show (((w.alloc (.cells #[.slice ua0 la0 xa0, .slice ub0 lb0 xb0] 25)).alloc (.cells #[.slice ua1 la1 xa1, .slice ub1 lb1 xb1] 25)).alloc (.cells #[.slice ua2 la2 xa2, .slice ub2 lb2 xb2] 42)).heap[w.heap.size + 1 + 1]? = some (.cells #[.slice ua2 la2 xa2, .slice ub2 lb2 xb2] 42 (0, 0)) from by have h := loc_new ((w.alloc (.cells #[.slice ua0 la0 xa0, .slice ub0 lb0 xb0] 25)).alloc (.cells #[.slice ua1 la1 xa1, .slice ub1 lb1 xb1] 25)) #[.slice ua2 la2 xa2, .slice ub2 lb2 xb2] 42; rwa [show ((w.alloc (.cells #[.slice ua0 la0 xa0, .slice ub0 lb0 xb0] 25)).alloc (.cells #[.slice ua1 la1 xa1, .slice ub1 lb1 xb1] 25)).heap.size = w.heap.size + 1 + 1 by simp] at h)
  have cp2 := blk_cell kp2.out
  go_enter Try.func5, Try.ntmps5
  go_wp2_with (refine gate 15 ?_)
  refine ⟨goesF 15 Try.func12 ((szI_calls _ _ rs0 fs0 1048576 (by omega) (by omega) (hA0.on oA0.out) hZ0).mono ?_)⟩
  rintro e w1 ⟨q1, rfl, hq0, hb1⟩
  refine ⟨_, rfl, ?_⟩
  have hq1 := Aside0.mk hq0
  clear hq0
  replace hW := Aside0.mk (hW.out.trans hb1)
  replace kp0 := Aside0.mk (blk_below kp0.out hb1)
  replace kp1 := Aside0.mk (blk_below kp1.out hb1)
  replace kp2 := Aside0.mk (blk_below kp2.out hb1)
  replace cp0 := blk_cell kp0.out
  replace cp1 := blk_cell kp1.out
  replace cp2 := blk_cell kp2.out
  replace oA0 := Aside0.mk (oA0.out.trans hb1)
  replace oA1 := Aside0.mk (oA1.out.trans hb1)
  replace oA2 := Aside0.mk (oA2.out.trans hb1)
  have n7 := Aside0.mk (show (((w.alloc (.cells #[.slice ua0 la0 xa0, .slice ub0 lb0 xb0] 25)).alloc (.cells #[.slice ua1 la1 xa1, .slice ub1 lb1 xb1] 25)).alloc (.cells #[.slice ua2 la2 xa2, .slice ub2 lb2 xb2] 42)).heap.size ≤ w1.heap.size from hb1.size)
  clear hb1
  by_cases hneg1 : q1 < 0
  · go_wp2
    go_ret
    exact ⟨rfl, hW.out⟩
  have hz0 := Aside0.mk (show wR rs0 + wF fs0 ≤ 1048576 by have := hq1.out (by omega); omega)
  go_wp2_with (refine gate 20 ?_)
  refine ⟨goesF 20 Try.func12 ((szI_calls _ _ rs1 fs1 q1 (by omega) (by have := hq1.out (by omega); omega) (hA1.on oA1.out) hZ1).mono ?_)⟩
  rintro e w2 ⟨q2, rfl, hq0, hb1⟩
  refine ⟨_, rfl, ?_⟩
  have hq2 := Aside0.mk hq0
  clear hq0
  replace hW := Aside0.mk (hW.out.trans hb1)
  replace kp0 := Aside0.mk (blk_below kp0.out hb1)
  replace kp1 := Aside0.mk (blk_below kp1.out hb1)
  replace kp2 := Aside0.mk (blk_below kp2.out hb1)
  replace cp0 := blk_cell kp0.out
  replace cp1 := blk_cell kp1.out
  replace cp2 := blk_cell kp2.out
  replace oA0 := Aside0.mk (oA0.out.trans hb1)
  replace oA1 := Aside0.mk (oA1.out.trans hb1)
  replace oA2 := Aside0.mk (oA2.out.trans hb1)
  have n8 := Aside0.mk (show w1.heap.size ≤ w2.heap.size from hb1.size)
  clear hb1
  by_cases hneg2 : q2 < 0
  · go_wp2
    go_ret
    exact ⟨rfl, hW.out⟩
  have hz1 := Aside0.mk (show wR rs1 + wF fs1 ≤ 1048576 by have := hq1.out (by omega); have := hq2.out (by omega); omega)
  go_wp2_with (refine gate 25 ?_)
  refine ⟨goesF 25 Try.func24 ((szS_calls _ _ ns2 vs2 q2 (by omega) (by have := hq1.out (by omega); have := hq2.out (by omega); omega) (hA2.on oA2.out)).mono ?_)⟩
  rintro e w3 ⟨q3, rfl, hq0, hb1⟩
  refine ⟨_, rfl, ?_⟩
  have hq3 := Aside0.mk hq0
  clear hq0
  replace hW := Aside0.mk (hW.out.trans hb1)
  replace kp0 := Aside0.mk (blk_below kp0.out hb1)
  replace kp1 := Aside0.mk (blk_below kp1.out hb1)
  replace kp2 := Aside0.mk (blk_below kp2.out hb1)
  replace cp0 := blk_cell kp0.out
  replace cp1 := blk_cell kp1.out
  replace cp2 := blk_cell kp2.out
  replace oA0 := Aside0.mk (oA0.out.trans hb1)
  replace oA1 := Aside0.mk (oA1.out.trans hb1)
  replace oA2 := Aside0.mk (oA2.out.trans hb1)
  have n9 := Aside0.mk (show w2.heap.size ≤ w3.heap.size from hb1.size)
  clear hb1
  by_cases hneg3 : q3 < 0
  · go_wp2
    go_ret
    exact ⟨rfl, hW.out⟩
  have hz2 := Aside0.mk (show ns2.length + vs2.length ≤ 1048576 by have := hq1.out (by omega); have := hq2.out (by omega); have := hq3.out (by omega); omega)
  go_wp2
  refine Reg.region [(0,.L),(2,.L),(4,.L),(1,.N),(3,.N),(5,.N),(6,.C)] [7] (by kernel_rfl) (by kernel_rfl) ?_
  repeat first | refine sP ?_ | refine sS ?_ | refine sA ?_ | refine sL ?_ | refine sQ ?_ | refine sO ?_
  refine callN Try.func14 (fun w4 hS => ?_)
  replace hW := Aside0.mk (hW.out.trans hS)
  replace kp0 := Aside0.mk (blk_below kp0.out hS)
  replace kp1 := Aside0.mk (blk_below kp1.out hS)
  replace kp2 := Aside0.mk (blk_below kp2.out hS)
  replace cp0 := blk_cell kp0.out
  replace cp1 := blk_cell kp1.out
  replace cp2 := blk_cell kp2.out
  replace oA0 := Aside0.mk (oA0.out.trans hS)
  replace oA1 := Aside0.mk (oA1.out.trans hS)
  replace oA2 := Aside0.mk (oA2.out.trans hS)
  have n10 := Aside0.mk (show w3.heap.size ≤ w4.heap.size from hS.size)
  clear hS
  refine (toI_calls _ _ rs0 fs0 (hA0.on oA0.out) hz0.out).mono ?_
  rintro e w5 ⟨v1, rfl, hO0, hb1⟩
  have hS0 := Aside0.mk hO0.b
  clear hO0
  obtain ⟨uaS0, laS0, xaS0, ubS0, lbS0, xbS0, rfl⟩ := (hS0.out.read).shape
  refine ⟨_, rfl, hb1, fun a' ha => ?_⟩
  simp only [Act.put, List.setIfInBounds_toArray, List.set_cons_zero, List.set_cons_succ] at ha
  subst ha
  replace hW := Aside0.mk (hW.out.trans hb1)
  replace kp0 := Aside0.mk (blk_below kp0.out hb1)
  replace kp1 := Aside0.mk (blk_below kp1.out hb1)
  replace kp2 := Aside0.mk (blk_below kp2.out hb1)
  replace cp0 := blk_cell kp0.out
  replace cp1 := blk_cell kp1.out
  replace cp2 := blk_cell kp2.out
  replace oA0 := Aside0.mk (oA0.out.trans hb1)
  replace oA1 := Aside0.mk (oA1.out.trans hb1)
  replace oA2 := Aside0.mk (oA2.out.trans hb1)
  have n11 := Aside0.mk (show w4.heap.size ≤ w5.heap.size from hb1.size)
  clear hb1
  repeat first | refine sP ?_ | refine sS ?_ | refine sA ?_ | refine sL ?_ | refine sQ ?_ | refine sO ?_
  refine callN Try.func14 (fun w6 hS => ?_)
  replace hW := Aside0.mk (hW.out.trans hS)
  replace kp0 := Aside0.mk (blk_below kp0.out hS)
  replace kp1 := Aside0.mk (blk_below kp1.out hS)
  replace kp2 := Aside0.mk (blk_below kp2.out hS)
  replace cp0 := blk_cell kp0.out
  replace cp1 := blk_cell kp1.out
  replace cp2 := blk_cell kp2.out
  replace oA0 := Aside0.mk (oA0.out.trans hS)
  replace oA1 := Aside0.mk (oA1.out.trans hS)
  replace oA2 := Aside0.mk (oA2.out.trans hS)
  replace hS0 := Aside0.mk (hS0.out.on hS)
  have n12 := Aside0.mk (show w5.heap.size ≤ w6.heap.size from hS.size)
  clear hS
  refine (toI_calls _ _ rs1 fs1 (hA1.on oA1.out) hz1.out).mono ?_
  rintro e w7 ⟨v1, rfl, hO0, hb1⟩
  have hS1 := Aside0.mk hO0.b
  clear hO0
  obtain ⟨uaS1, laS1, xaS1, ubS1, lbS1, xbS1, rfl⟩ := (hS1.out.read).shape
  refine ⟨_, rfl, hb1, fun a' ha => ?_⟩
  simp only [Act.put, List.setIfInBounds_toArray, List.set_cons_zero, List.set_cons_succ] at ha
  subst ha
  replace hW := Aside0.mk (hW.out.trans hb1)
  replace kp0 := Aside0.mk (blk_below kp0.out hb1)
  replace kp1 := Aside0.mk (blk_below kp1.out hb1)
  replace kp2 := Aside0.mk (blk_below kp2.out hb1)
  replace cp0 := blk_cell kp0.out
  replace cp1 := blk_cell kp1.out
  replace cp2 := blk_cell kp2.out
  replace oA0 := Aside0.mk (oA0.out.trans hb1)
  replace oA1 := Aside0.mk (oA1.out.trans hb1)
  replace oA2 := Aside0.mk (oA2.out.trans hb1)
  replace hS0 := Aside0.mk (hS0.out.on hb1)
  have n13 := Aside0.mk (show w6.heap.size ≤ w7.heap.size from hb1.size)
  clear hb1
  repeat first | refine sP ?_ | refine sS ?_ | refine sA ?_ | refine sL ?_ | refine sQ ?_ | refine sO ?_
  refine callN Try.func26 (fun w8 hS => ?_)
  replace hW := Aside0.mk (hW.out.trans hS)
  replace kp0 := Aside0.mk (blk_below kp0.out hS)
  replace kp1 := Aside0.mk (blk_below kp1.out hS)
  replace kp2 := Aside0.mk (blk_below kp2.out hS)
  replace cp0 := blk_cell kp0.out
  replace cp1 := blk_cell kp1.out
  replace cp2 := blk_cell kp2.out
  replace oA0 := Aside0.mk (oA0.out.trans hS)
  replace oA1 := Aside0.mk (oA1.out.trans hS)
  replace oA2 := Aside0.mk (oA2.out.trans hS)
  replace hS0 := Aside0.mk (hS0.out.on hS)
  replace hS1 := Aside0.mk (hS1.out.on hS)
  have n14 := Aside0.mk (show w7.heap.size ≤ w8.heap.size from hS.size)
  clear hS
  refine (toS_calls _ _ ns2 vs2 (hA2.on oA2.out) hz2.out).mono ?_
  rintro e w9 ⟨v1, rfl, hO0, hb1⟩
  have hS2 := Aside0.mk hO0.b
  clear hO0
  obtain ⟨uaS2, laS2, xaS2, ubS2, lbS2, xbS2, rfl⟩ := (hS2.out.read).shape
  refine ⟨_, rfl, hb1, fun a' ha => ?_⟩
  simp only [Act.put, List.setIfInBounds_toArray, List.set_cons_zero, List.set_cons_succ] at ha
  subst ha
  replace hW := Aside0.mk (hW.out.trans hb1)
  replace kp0 := Aside0.mk (blk_below kp0.out hb1)
  replace kp1 := Aside0.mk (blk_below kp1.out hb1)
  replace kp2 := Aside0.mk (blk_below kp2.out hb1)
  replace cp0 := blk_cell kp0.out
  replace cp1 := blk_cell kp1.out
  replace cp2 := blk_cell kp2.out
  replace oA0 := Aside0.mk (oA0.out.trans hb1)
  replace oA1 := Aside0.mk (oA1.out.trans hb1)
  replace oA2 := Aside0.mk (oA2.out.trans hb1)
  replace hS0 := Aside0.mk (hS0.out.on hb1)
  replace hS1 := Aside0.mk (hS1.out.on hb1)
  have n15 := Aside0.mk (show w8.heap.size ≤ w9.heap.size from hb1.size)
  clear hb1
  repeat first | refine sP ?_ | refine sS ?_ | refine sA ?_ | refine sL ?_ | refine sQ ?_ | refine sO ?_
  refine callC (.bool (isHom rs0 fs0 rs1 fs1 ns2 vs2)) Try.func25 (fun w' hS => ?_) ?_
  focus exact sIsHomV _ _ _ _ rs0 fs0 rs1 fs1 ns2 vs2 ((hS0.out.on hS).read) ((hS1.out.on hS).read) ((hS2.out.on hS).read) hz0.out
  repeat first | refine sP ?_ | refine sS ?_ | refine sA ?_ | refine sL ?_ | refine sQ ?_ | refine sO ?_
  refine Reg.tail_ fun w10 hS => ?_
  replace hW := Aside0.mk (hW.out.trans hS)
  replace kp0 := Aside0.mk (blk_below kp0.out hS)
  replace kp1 := Aside0.mk (blk_below kp1.out hS)
  replace kp2 := Aside0.mk (blk_below kp2.out hS)
  replace cp0 := blk_cell kp0.out
  replace cp1 := blk_cell kp1.out
  replace cp2 := blk_cell kp2.out
  replace oA0 := Aside0.mk (oA0.out.trans hS)
  replace oA1 := Aside0.mk (oA1.out.trans hS)
  replace oA2 := Aside0.mk (oA2.out.trans hS)
  replace hS0 := Aside0.mk (hS0.out.on hS)
  replace hS1 := Aside0.mk (hS1.out.on hS)
  replace hS2 := Aside0.mk (hS2.out.on hS)
  have n16 := Aside0.mk (show w9.heap.size ≤ w10.heap.size from hS.size)
  clear hS
  go_wp2_with (refine gate 36 ?_)
  refine ⟨goesF 36 Try.func14 ((toI_calls _ _ rs0 fs0 (hA0.on oA0.out) hz0.out).mono ?_)⟩
  rintro e w11 ⟨v1, rfl, hO0, hb1⟩
  refine ⟨_, rfl, ?_⟩
  have hX0 := Aside0.mk hO0.b
  clear hO0
  replace hW := Aside0.mk (hW.out.trans hb1)
  replace kp0 := Aside0.mk (blk_below kp0.out hb1)
  replace kp1 := Aside0.mk (blk_below kp1.out hb1)
  replace kp2 := Aside0.mk (blk_below kp2.out hb1)
  replace cp0 := blk_cell kp0.out
  replace cp1 := blk_cell kp1.out
  replace cp2 := blk_cell kp2.out
  replace oA0 := Aside0.mk (oA0.out.trans hb1)
  replace oA1 := Aside0.mk (oA1.out.trans hb1)
  replace oA2 := Aside0.mk (oA2.out.trans hb1)
  have n17 := Aside0.mk (show w10.heap.size ≤ w11.heap.size from hb1.size)
  clear hb1
  obtain ⟨uaX0, laX0, xaX0, ubX0, lbX0, xbX0, rfl⟩ := (hX0.out.read).shape
  have hfill := alloc_fill w11
  replace hW := Aside0.mk (hW.out.trans (On.alloc (On.refl w11) (.cells #[.slice uaX0 laX0 xaX0, .slice ubX0 lbX0 xbX0] 32)))
  replace kp0 := Aside0.mk (blk_below kp0.out (On.alloc (On.refl w11) (.cells #[.slice uaX0 laX0 xaX0, .slice ubX0 lbX0 xbX0] 32)))
  replace kp1 := Aside0.mk (blk_below kp1.out (On.alloc (On.refl w11) (.cells #[.slice uaX0 laX0 xaX0, .slice ubX0 lbX0 xbX0] 32)))
  replace kp2 := Aside0.mk (blk_below kp2.out (On.alloc (On.refl w11) (.cells #[.slice uaX0 laX0 xaX0, .slice ubX0 lbX0 xbX0] 32)))
  replace cp0 := blk_cell kp0.out
  replace cp1 := blk_cell kp1.out
  replace cp2 := blk_cell kp2.out
  replace oA0 := Aside0.mk (oA0.out.trans (On.alloc (On.refl w11) (.cells #[.slice uaX0 laX0 xaX0, .slice ubX0 lbX0 xbX0] 32)))
  replace oA1 := Aside0.mk (oA1.out.trans (On.alloc (On.refl w11) (.cells #[.slice uaX0 laX0 xaX0, .slice ubX0 lbX0 xbX0] 32)))
  replace oA2 := Aside0.mk (oA2.out.trans (On.alloc (On.refl w11) (.cells #[.slice uaX0 laX0 xaX0, .slice ubX0 lbX0 xbX0] 32)))
  replace hX0 := Aside0.mk (hX0.out.on (On.alloc (On.refl w11) (.cells #[.slice uaX0 laX0 xaX0, .slice ubX0 lbX0 xbX0] 32)))
  have n19 := Aside0.mk (show (w11.alloc (.cells #[.slice uaX0 laX0 xaX0, .slice ubX0 lbX0 xbX0] 32)).heap.size = w11.heap.size + 1 from by simp)
  have kx0 := Aside0.mk (loc_new w11 #[.slice uaX0 laX0 xaX0, .slice ubX0 lbX0 xbX0] 32)
  have cx0 := blk_cell kx0.out
  go_wp2_with (refine gate 38 ?_)
  try clear hfill
  refine ⟨goesF 38 Try.func14 ((toI_calls _ _ rs1 fs1 (hA1.on oA1.out) hz1.out).mono ?_)⟩
  rintro e w12 ⟨v1, rfl, hO0, hb1⟩
  refine ⟨_, rfl, ?_⟩
  have hX1 := Aside0.mk hO0.b
  clear hO0
  replace hW := Aside0.mk (hW.out.trans hb1)
  replace kp0 := Aside0.mk (blk_below kp0.out hb1)
  replace kp1 := Aside0.mk (blk_below kp1.out hb1)
  replace kp2 := Aside0.mk (blk_below kp2.out hb1)
  replace kx0 := Aside0.mk (blk_below kx0.out hb1)
  replace cp0 := blk_cell kp0.out
  replace cp1 := blk_cell kp1.out
  replace cp2 := blk_cell kp2.out
  replace cx0 := blk_cell kx0.out
  replace oA0 := Aside0.mk (oA0.out.trans hb1)
  replace oA1 := Aside0.mk (oA1.out.trans hb1)
  replace oA2 := Aside0.mk (oA2.out.trans hb1)
  replace hX0 := Aside0.mk (hX0.out.on hb1)
  have n20 := Aside0.mk (show (w11.alloc (.cells #[.slice uaX0 laX0 xaX0, .slice ubX0 lbX0 xbX0] 32)).heap.size ≤ w12.heap.size from hb1.size)
  clear hb1
  obtain ⟨uaX1, laX1, xaX1, ubX1, lbX1, xbX1, rfl⟩ := (hX1.out.read).shape
  have hfill := alloc_fill w12
  replace hW := Aside0.mk (hW.out.trans (On.alloc (On.refl w12) (.cells #[.slice uaX1 laX1 xaX1, .slice ubX1 lbX1 xbX1] 32)))
  replace kp0 := Aside0.mk (blk_below kp0.out (On.alloc (On.refl w12) (.cells #[.slice uaX1 laX1 xaX1, .slice ubX1 lbX1 xbX1] 32)))
  replace kp1 := Aside0.mk (blk_below kp1.out (On.alloc (On.refl w12) (.cells #[.slice uaX1 laX1 xaX1, .slice ubX1 lbX1 xbX1] 32)))
  replace kp2 := Aside0.mk (blk_below kp2.out (On.alloc (On.refl w12) (.cells #[.slice uaX1 laX1 xaX1, .slice ubX1 lbX1 xbX1] 32)))
  replace kx0 := Aside0.mk (blk_below kx0.out (On.alloc (On.refl w12) (.cells #[.slice uaX1 laX1 xaX1, .slice ubX1 lbX1 xbX1] 32)))
  replace cp0 := blk_cell kp0.out
  replace cp1 := blk_cell kp1.out
  replace cp2 := blk_cell kp2.out
  replace cx0 := blk_cell kx0.out
  replace oA0 := Aside0.mk (oA0.out.trans (On.alloc (On.refl w12) (.cells #[.slice uaX1 laX1 xaX1, .slice ubX1 lbX1 xbX1] 32)))
  replace oA1 := Aside0.mk (oA1.out.trans (On.alloc (On.refl w12) (.cells #[.slice uaX1 laX1 xaX1, .slice ubX1 lbX1 xbX1] 32)))
  replace oA2 := Aside0.mk (oA2.out.trans (On.alloc (On.refl w12) (.cells #[.slice uaX1 laX1 xaX1, .slice ubX1 lbX1 xbX1] 32)))
  replace hX0 := Aside0.mk (hX0.out.on (On.alloc (On.refl w12) (.cells #[.slice uaX1 laX1 xaX1, .slice ubX1 lbX1 xbX1] 32)))
  replace hX1 := Aside0.mk (hX1.out.on (On.alloc (On.refl w12) (.cells #[.slice uaX1 laX1 xaX1, .slice ubX1 lbX1 xbX1] 32)))
  have n22 := Aside0.mk (show (w12.alloc (.cells #[.slice uaX1 laX1 xaX1, .slice ubX1 lbX1 xbX1] 32)).heap.size = w12.heap.size + 1 from by simp)
  have kx1 := Aside0.mk (loc_new w12 #[.slice uaX1 laX1 xaX1, .slice ubX1 lbX1 xbX1] 32)
  have cx1 := blk_cell kx1.out
  go_wp2_with (refine gate 40 ?_)
  try clear hfill
  refine ⟨goesF 40 Try.func26 ((toS_calls _ _ ns2 vs2 (hA2.on oA2.out) hz2.out).mono ?_)⟩
  rintro e w13 ⟨v1, rfl, hO0, hb1⟩
  refine ⟨_, rfl, ?_⟩
  have hX2 := Aside0.mk hO0.b
  clear hO0
  replace hW := Aside0.mk (hW.out.trans hb1)
  replace kp0 := Aside0.mk (blk_below kp0.out hb1)
  replace kp1 := Aside0.mk (blk_below kp1.out hb1)
  replace kp2 := Aside0.mk (blk_below kp2.out hb1)
  replace kx0 := Aside0.mk (blk_below kx0.out hb1)
  replace kx1 := Aside0.mk (blk_below kx1.out hb1)
  replace cp0 := blk_cell kp0.out
  replace cp1 := blk_cell kp1.out
  replace cp2 := blk_cell kp2.out
  replace cx0 := blk_cell kx0.out
  replace cx1 := blk_cell kx1.out
  replace oA0 := Aside0.mk (oA0.out.trans hb1)
  replace oA1 := Aside0.mk (oA1.out.trans hb1)
  replace oA2 := Aside0.mk (oA2.out.trans hb1)
  replace hX0 := Aside0.mk (hX0.out.on hb1)
  replace hX1 := Aside0.mk (hX1.out.on hb1)
  have n23 := Aside0.mk (show (w12.alloc (.cells #[.slice uaX1 laX1 xaX1, .slice ubX1 lbX1 xbX1] 32)).heap.size ≤ w13.heap.size from hb1.size)
  clear hb1
  obtain ⟨uaX2, laX2, xaX2, ubX2, lbX2, xbX2, rfl⟩ := (hX2.out.read).shape
  have hfill := alloc_fill w13
  replace hW := Aside0.mk (hW.out.trans (On.alloc (On.refl w13) (.cells #[.slice uaX2 laX2 xaX2, .slice ubX2 lbX2 xbX2] 45)))
  replace kp0 := Aside0.mk (blk_below kp0.out (On.alloc (On.refl w13) (.cells #[.slice uaX2 laX2 xaX2, .slice ubX2 lbX2 xbX2] 45)))
  replace kp1 := Aside0.mk (blk_below kp1.out (On.alloc (On.refl w13) (.cells #[.slice uaX2 laX2 xaX2, .slice ubX2 lbX2 xbX2] 45)))
  replace kp2 := Aside0.mk (blk_below kp2.out (On.alloc (On.refl w13) (.cells #[.slice uaX2 laX2 xaX2, .slice ubX2 lbX2 xbX2] 45)))
  replace kx0 := Aside0.mk (blk_below kx0.out (On.alloc (On.refl w13) (.cells #[.slice uaX2 laX2 xaX2, .slice ubX2 lbX2 xbX2] 45)))
  replace kx1 := Aside0.mk (blk_below kx1.out (On.alloc (On.refl w13) (.cells #[.slice uaX2 laX2 xaX2, .slice ubX2 lbX2 xbX2] 45)))
  replace cp0 := blk_cell kp0.out
  replace cp1 := blk_cell kp1.out
  replace cp2 := blk_cell kp2.out
  replace cx0 := blk_cell kx0.out
  replace cx1 := blk_cell kx1.out
  replace oA0 := Aside0.mk (oA0.out.trans (On.alloc (On.refl w13) (.cells #[.slice uaX2 laX2 xaX2, .slice ubX2 lbX2 xbX2] 45)))
  replace oA1 := Aside0.mk (oA1.out.trans (On.alloc (On.refl w13) (.cells #[.slice uaX2 laX2 xaX2, .slice ubX2 lbX2 xbX2] 45)))
  replace oA2 := Aside0.mk (oA2.out.trans (On.alloc (On.refl w13) (.cells #[.slice uaX2 laX2 xaX2, .slice ubX2 lbX2 xbX2] 45)))
  replace hX0 := Aside0.mk (hX0.out.on (On.alloc (On.refl w13) (.cells #[.slice uaX2 laX2 xaX2, .slice ubX2 lbX2 xbX2] 45)))
  replace hX1 := Aside0.mk (hX1.out.on (On.alloc (On.refl w13) (.cells #[.slice uaX2 laX2 xaX2, .slice ubX2 lbX2 xbX2] 45)))
  replace hX2 := Aside0.mk (hX2.out.on (On.alloc (On.refl w13) (.cells #[.slice uaX2 laX2 xaX2, .slice ubX2 lbX2 xbX2] 45)))
  have n25 := Aside0.mk (show (w13.alloc (.cells #[.slice uaX2 laX2 xaX2, .slice ubX2 lbX2 xbX2] 45)).heap.size = w13.heap.size + 1 from by simp)
  have kx2 := Aside0.mk (loc_new w13 #[.slice uaX2 laX2 xaX2, .slice ubX2 lbX2 xbX2] 45)
  have cx2 := blk_cell kx2.out
  go_wp2_with (refine gate 44 ?_)
  try clear hfill
  refine ⟨goesF 44 Try.func27 ((iIsHomV _ _ _ _ rs0 fs0 rs1 fs1 ns2 vs2 hX0.out.read hX1.out.read hX2.out.read hz0.out).mono ?_)⟩
  rintro e w14 ⟨rfl, hb1⟩
  refine ⟨_, rfl, ?_⟩
  replace hW := Aside0.mk (hW.out.trans hb1)
  replace kp0 := Aside0.mk (blk_below kp0.out hb1)
  replace kp1 := Aside0.mk (blk_below kp1.out hb1)
  replace kp2 := Aside0.mk (blk_below kp2.out hb1)
  replace kx0 := Aside0.mk (blk_below kx0.out hb1)
  replace kx1 := Aside0.mk (blk_below kx1.out hb1)
  replace kx2 := Aside0.mk (blk_below kx2.out hb1)
  replace cp0 := blk_cell kp0.out
  replace cp1 := blk_cell kp1.out
  replace cp2 := blk_cell kp2.out
  replace cx0 := blk_cell kx0.out
  replace cx1 := blk_cell kx1.out
  replace cx2 := blk_cell kx2.out
  replace oA0 := Aside0.mk (oA0.out.trans hb1)
  replace oA1 := Aside0.mk (oA1.out.trans hb1)
  replace oA2 := Aside0.mk (oA2.out.trans hb1)
  replace hX0 := Aside0.mk (hX0.out.on hb1)
  replace hX1 := Aside0.mk (hX1.out.on hb1)
  replace hX2 := Aside0.mk (hX2.out.on hb1)
  have n26 := Aside0.mk (show (w13.alloc (.cells #[.slice uaX2 laX2 xaX2, .slice ubX2 lbX2 xbX2] 45)).heap.size ≤ w14.heap.size from hb1.size)
  clear hb1
  go_wp2
  refine Reg.region [(0,.L),(1,.L),(2,.N),(3,.C),(4,.L)] [] (by kernel_rfl) (by kernel_rfl) ?_
  repeat first | refine sP ?_ | refine sS ?_ | refine sA ?_ | refine sL ?_ | refine sQ ?_ | refine sO ?_
  refine callN Try.func14 (fun w15 hS => ?_)
  replace hW := Aside0.mk (hW.out.trans hS)
  replace kp0 := Aside0.mk (blk_below kp0.out hS)
  replace kp1 := Aside0.mk (blk_below kp1.out hS)
  replace kp2 := Aside0.mk (blk_below kp2.out hS)
  replace kx0 := Aside0.mk (blk_below kx0.out hS)
  replace kx1 := Aside0.mk (blk_below kx1.out hS)
  replace kx2 := Aside0.mk (blk_below kx2.out hS)
  replace cp0 := blk_cell kp0.out
  replace cp1 := blk_cell kp1.out
  replace cp2 := blk_cell kp2.out
  replace cx0 := blk_cell kx0.out
  replace cx1 := blk_cell kx1.out
  replace cx2 := blk_cell kx2.out
  replace oA0 := Aside0.mk (oA0.out.trans hS)
  replace oA1 := Aside0.mk (oA1.out.trans hS)
  replace oA2 := Aside0.mk (oA2.out.trans hS)
  replace hX0 := Aside0.mk (hX0.out.on hS)
  replace hX1 := Aside0.mk (hX1.out.on hS)
  replace hX2 := Aside0.mk (hX2.out.on hS)
  have n27 := Aside0.mk (show w14.heap.size ≤ w15.heap.size from hS.size)
  clear hS
  refine (toI_calls _ _ rs0 fs0 (hA0.on oA0.out) hz0.out).mono ?_
  rintro e w16 ⟨v1, rfl, hO0, hb1⟩
  have hC := Aside0.mk hO0.read
  clear hO0
  obtain ⟨uaC, laC, xaC, ubC, lbC, xbC, rfl⟩ := (hC.out).shape
  refine ⟨_, rfl, hb1, fun a' ha => ?_⟩
  simp only [Act.put, List.setIfInBounds_toArray, List.set_cons_zero, List.set_cons_succ] at ha
  subst ha
  replace hW := Aside0.mk (hW.out.trans hb1)
  replace kp0 := Aside0.mk (blk_below kp0.out hb1)
  replace kp1 := Aside0.mk (blk_below kp1.out hb1)
  replace kp2 := Aside0.mk (blk_below kp2.out hb1)
  replace kx0 := Aside0.mk (blk_below kx0.out hb1)
  replace kx1 := Aside0.mk (blk_below kx1.out hb1)
  replace kx2 := Aside0.mk (blk_below kx2.out hb1)
  replace cp0 := blk_cell kp0.out
  replace cp1 := blk_cell kp1.out
  replace cp2 := blk_cell kp2.out
  replace cx0 := blk_cell kx0.out
  replace cx1 := blk_cell kx1.out
  replace cx2 := blk_cell kx2.out
  replace oA0 := Aside0.mk (oA0.out.trans hb1)
  replace oA1 := Aside0.mk (oA1.out.trans hb1)
  replace oA2 := Aside0.mk (oA2.out.trans hb1)
  replace hX0 := Aside0.mk (hX0.out.on hb1)
  replace hX1 := Aside0.mk (hX1.out.on hb1)
  replace hX2 := Aside0.mk (hX2.out.on hb1)
  have n28 := Aside0.mk (show w15.heap.size ≤ w16.heap.size from hb1.size)
  clear hb1
  repeat first | refine sP ?_ | refine sS ?_ | refine sA ?_ | refine sL ?_ | refine sQ ?_ | refine sO ?_
  refine callC (.bool true) Try.func17 (fun w' hS => ?_) ?_
  focus exact eqI_calls _ _ _ rs0 fs0 (hX0.out.read.on hS) (hC.out.on hS)
  repeat first | refine sP ?_ | refine sS ?_ | refine sA ?_ | refine sL ?_ | refine sQ ?_ | refine sO ?_
  refine Reg.nil fun w17 hS => ?_
  replace hW := Aside0.mk (hW.out.trans hS)
  replace kp0 := Aside0.mk (blk_below kp0.out hS)
  replace kp1 := Aside0.mk (blk_below kp1.out hS)
  replace kp2 := Aside0.mk (blk_below kp2.out hS)
  replace kx0 := Aside0.mk (blk_below kx0.out hS)
  replace kx1 := Aside0.mk (blk_below kx1.out hS)
  replace kx2 := Aside0.mk (blk_below kx2.out hS)
  replace cp0 := blk_cell kp0.out
  replace cp1 := blk_cell kp1.out
  replace cp2 := blk_cell kp2.out
  replace cx0 := blk_cell kx0.out
  replace cx1 := blk_cell kx1.out
  replace cx2 := blk_cell kx2.out
  replace oA0 := Aside0.mk (oA0.out.trans hS)
  replace oA1 := Aside0.mk (oA1.out.trans hS)
  replace oA2 := Aside0.mk (oA2.out.trans hS)
  replace hX0 := Aside0.mk (hX0.out.on hS)
  replace hX1 := Aside0.mk (hX1.out.on hS)
  replace hX2 := Aside0.mk (hX2.out.on hS)
  have n29 := Aside0.mk (show w16.heap.size ≤ w17.heap.size from hS.size)
  clear hS
  go_wp2
  refine Reg.region [(0,.L),(1,.L),(2,.N),(3,.C),(4,.L)] [] (by kernel_rfl) (by kernel_rfl) ?_
  repeat first | refine sP ?_ | refine sS ?_ | refine sA ?_ | refine sL ?_ | refine sQ ?_ | refine sO ?_
  refine callN Try.func14 (fun w18 hS => ?_)
  replace hW := Aside0.mk (hW.out.trans hS)
  replace kp0 := Aside0.mk (blk_below kp0.out hS)
  replace kp1 := Aside0.mk (blk_below kp1.out hS)
  replace kp2 := Aside0.mk (blk_below kp2.out hS)
  replace kx0 := Aside0.mk (blk_below kx0.out hS)
  replace kx1 := Aside0.mk (blk_below kx1.out hS)
  replace kx2 := Aside0.mk (blk_below kx2.out hS)
  replace cp0 := blk_cell kp0.out
  replace cp1 := blk_cell kp1.out
  replace cp2 := blk_cell kp2.out
  replace cx0 := blk_cell kx0.out
  replace cx1 := blk_cell kx1.out
  replace cx2 := blk_cell kx2.out
  replace oA0 := Aside0.mk (oA0.out.trans hS)
  replace oA1 := Aside0.mk (oA1.out.trans hS)
  replace oA2 := Aside0.mk (oA2.out.trans hS)
  replace hX0 := Aside0.mk (hX0.out.on hS)
  replace hX1 := Aside0.mk (hX1.out.on hS)
  replace hX2 := Aside0.mk (hX2.out.on hS)
  have n30 := Aside0.mk (show w17.heap.size ≤ w18.heap.size from hS.size)
  clear hS
  refine (toI_calls _ _ rs1 fs1 (hA1.on oA1.out) hz1.out).mono ?_
  rintro e w19 ⟨v1, rfl, hO0, hb1⟩
  have hC := Aside0.mk hO0.read
  clear hO0
  obtain ⟨uaC, laC, xaC, ubC, lbC, xbC, rfl⟩ := (hC.out).shape
  refine ⟨_, rfl, hb1, fun a' ha => ?_⟩
  simp only [Act.put, List.setIfInBounds_toArray, List.set_cons_zero, List.set_cons_succ] at ha
  subst ha
  replace hW := Aside0.mk (hW.out.trans hb1)
  replace kp0 := Aside0.mk (blk_below kp0.out hb1)
  replace kp1 := Aside0.mk (blk_below kp1.out hb1)
  replace kp2 := Aside0.mk (blk_below kp2.out hb1)
  replace kx0 := Aside0.mk (blk_below kx0.out hb1)
  replace kx1 := Aside0.mk (blk_below kx1.out hb1)
  replace kx2 := Aside0.mk (blk_below kx2.out hb1)
  replace cp0 := blk_cell kp0.out
  replace cp1 := blk_cell kp1.out
  replace cp2 := blk_cell kp2.out
  replace cx0 := blk_cell kx0.out
  replace cx1 := blk_cell kx1.out
  replace cx2 := blk_cell kx2.out
  replace oA0 := Aside0.mk (oA0.out.trans hb1)
  replace oA1 := Aside0.mk (oA1.out.trans hb1)
  replace oA2 := Aside0.mk (oA2.out.trans hb1)
  replace hX0 := Aside0.mk (hX0.out.on hb1)
  replace hX1 := Aside0.mk (hX1.out.on hb1)
  replace hX2 := Aside0.mk (hX2.out.on hb1)
  have n31 := Aside0.mk (show w18.heap.size ≤ w19.heap.size from hb1.size)
  clear hb1
  repeat first | refine sP ?_ | refine sS ?_ | refine sA ?_ | refine sL ?_ | refine sQ ?_ | refine sO ?_
  refine callC (.bool true) Try.func17 (fun w' hS => ?_) ?_
  focus exact eqI_calls _ _ _ rs1 fs1 (hX1.out.read.on hS) (hC.out.on hS)
  repeat first | refine sP ?_ | refine sS ?_ | refine sA ?_ | refine sL ?_ | refine sQ ?_ | refine sO ?_
  refine Reg.nil fun w20 hS => ?_
  replace hW := Aside0.mk (hW.out.trans hS)
  replace kp0 := Aside0.mk (blk_below kp0.out hS)
  replace kp1 := Aside0.mk (blk_below kp1.out hS)
  replace kp2 := Aside0.mk (blk_below kp2.out hS)
  replace kx0 := Aside0.mk (blk_below kx0.out hS)
  replace kx1 := Aside0.mk (blk_below kx1.out hS)
  replace kx2 := Aside0.mk (blk_below kx2.out hS)
  replace cp0 := blk_cell kp0.out
  replace cp1 := blk_cell kp1.out
  replace cp2 := blk_cell kp2.out
  replace cx0 := blk_cell kx0.out
  replace cx1 := blk_cell kx1.out
  replace cx2 := blk_cell kx2.out
  replace oA0 := Aside0.mk (oA0.out.trans hS)
  replace oA1 := Aside0.mk (oA1.out.trans hS)
  replace oA2 := Aside0.mk (oA2.out.trans hS)
  replace hX0 := Aside0.mk (hX0.out.on hS)
  replace hX1 := Aside0.mk (hX1.out.on hS)
  replace hX2 := Aside0.mk (hX2.out.on hS)
  have n32 := Aside0.mk (show w19.heap.size ≤ w20.heap.size from hS.size)
  clear hS
  go_wp2
  refine Reg.region [(0,.L),(1,.L),(2,.N),(3,.C),(4,.L)] [] (by kernel_rfl) (by kernel_rfl) ?_
  repeat first | refine sP ?_ | refine sS ?_ | refine sA ?_ | refine sL ?_ | refine sQ ?_ | refine sO ?_
  refine callN Try.func26 (fun w21 hS => ?_)
  replace hW := Aside0.mk (hW.out.trans hS)
  replace kp0 := Aside0.mk (blk_below kp0.out hS)
  replace kp1 := Aside0.mk (blk_below kp1.out hS)
  replace kp2 := Aside0.mk (blk_below kp2.out hS)
  replace kx0 := Aside0.mk (blk_below kx0.out hS)
  replace kx1 := Aside0.mk (blk_below kx1.out hS)
  replace kx2 := Aside0.mk (blk_below kx2.out hS)
  replace cp0 := blk_cell kp0.out
  replace cp1 := blk_cell kp1.out
  replace cp2 := blk_cell kp2.out
  replace cx0 := blk_cell kx0.out
  replace cx1 := blk_cell kx1.out
  replace cx2 := blk_cell kx2.out
  replace oA0 := Aside0.mk (oA0.out.trans hS)
  replace oA1 := Aside0.mk (oA1.out.trans hS)
  replace oA2 := Aside0.mk (oA2.out.trans hS)
  replace hX0 := Aside0.mk (hX0.out.on hS)
  replace hX1 := Aside0.mk (hX1.out.on hS)
  replace hX2 := Aside0.mk (hX2.out.on hS)
  have n33 := Aside0.mk (show w20.heap.size ≤ w21.heap.size from hS.size)
  clear hS
  refine (toS_calls _ _ ns2 vs2 (hA2.on oA2.out) hz2.out).mono ?_
  rintro e w22 ⟨v1, rfl, hO0, hb1⟩
  have hC := Aside0.mk hO0.read
  clear hO0
  obtain ⟨uaC, laC, xaC, ubC, lbC, xbC, rfl⟩ := (hC.out).shape
  refine ⟨_, rfl, hb1, fun a' ha => ?_⟩
  simp only [Act.put, List.setIfInBounds_toArray, List.set_cons_zero, List.set_cons_succ] at ha
  subst ha
  replace hW := Aside0.mk (hW.out.trans hb1)
  replace kp0 := Aside0.mk (blk_below kp0.out hb1)
  replace kp1 := Aside0.mk (blk_below kp1.out hb1)
  replace kp2 := Aside0.mk (blk_below kp2.out hb1)
  replace kx0 := Aside0.mk (blk_below kx0.out hb1)
  replace kx1 := Aside0.mk (blk_below kx1.out hb1)
  replace kx2 := Aside0.mk (blk_below kx2.out hb1)
  replace cp0 := blk_cell kp0.out
  replace cp1 := blk_cell kp1.out
  replace cp2 := blk_cell kp2.out
  replace cx0 := blk_cell kx0.out
  replace cx1 := blk_cell kx1.out
  replace cx2 := blk_cell kx2.out
  replace oA0 := Aside0.mk (oA0.out.trans hb1)
  replace oA1 := Aside0.mk (oA1.out.trans hb1)
  replace oA2 := Aside0.mk (oA2.out.trans hb1)
  replace hX0 := Aside0.mk (hX0.out.on hb1)
  replace hX1 := Aside0.mk (hX1.out.on hb1)
  replace hX2 := Aside0.mk (hX2.out.on hb1)
  have n34 := Aside0.mk (show w21.heap.size ≤ w22.heap.size from hb1.size)
  clear hb1
  repeat first | refine sP ?_ | refine sS ?_ | refine sA ?_ | refine sL ?_ | refine sQ ?_ | refine sO ?_
  refine callC (.bool true) Try.func28 (fun w' hS => ?_) ?_
  focus exact eqS_calls _ _ _ ns2 vs2 (hX2.out.read.on hS) (hC.out.on hS)
  repeat first | refine sP ?_ | refine sS ?_ | refine sA ?_ | refine sL ?_ | refine sQ ?_ | refine sO ?_
  refine Reg.nil fun w23 hS => ?_
  replace hW := Aside0.mk (hW.out.trans hS)
  replace kp0 := Aside0.mk (blk_below kp0.out hS)
  replace kp1 := Aside0.mk (blk_below kp1.out hS)
  replace kp2 := Aside0.mk (blk_below kp2.out hS)
  replace kx0 := Aside0.mk (blk_below kx0.out hS)
  replace kx1 := Aside0.mk (blk_below kx1.out hS)
  replace kx2 := Aside0.mk (blk_below kx2.out hS)
  replace cp0 := blk_cell kp0.out
  replace cp1 := blk_cell kp1.out
  replace cp2 := blk_cell kp2.out
  replace cx0 := blk_cell kx0.out
  replace cx1 := blk_cell kx1.out
  replace cx2 := blk_cell kx2.out
  replace oA0 := Aside0.mk (oA0.out.trans hS)
  replace oA1 := Aside0.mk (oA1.out.trans hS)
  replace oA2 := Aside0.mk (oA2.out.trans hS)
  replace hX0 := Aside0.mk (hX0.out.on hS)
  replace hX1 := Aside0.mk (hX1.out.on hS)
  replace hX2 := Aside0.mk (hX2.out.on hS)
  have n35 := Aside0.mk (show w22.heap.size ≤ w23.heap.size from hS.size)
  clear hS
  go_wp2
  go_ret
  exact ⟨rfl, hW.out⟩
end Go.Proofs.Ytngjhblbpapjeaa.H
