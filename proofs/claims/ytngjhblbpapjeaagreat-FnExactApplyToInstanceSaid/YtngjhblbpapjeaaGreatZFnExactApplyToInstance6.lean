/- Walks and plain laws for the law FnExactApplyToInstance, part 6 of 6: the texts HQFnExactApplyToInstance in one. No condition. -/
import Derived.Test.YtngjhblbpapjeaaGreatZFnExactApplyToInstance5
/- Walk: the law FnExactApplyToInstance. No condition. -/
namespace Go.Proofs.YtngjhblbpapjeaaGreat.H
open Go Go.RowKit Go.Proofs.YtngjhblbpapjeaaGreatW.PrintWords Go.Proofs.YtngjhblbpapjeaaGreatW.PrintLast
open Go.Proofs.YtngjhblbpapjeaaGreat.Reg (On on_draw)
set_option maxHeartbeats 8000000
set_option maxRecDepth 100000
set_option linter.unusedVariables false
set_option linter.unusedSimpArgs false

theorem sAppIV (w : World) (t v : Value) (ns vs : List Int) (rs : List Rel) (fs : List Fct) (l : RSu w t ns vs) (h : RIn w v rs fs) : Calls Tryz.prog 29 #[t, v] w (Got fun v w' => ∃ v1, v = .tuple #[v1, .bool (appOk rs fs ns vs)] ∧ OIn w' w.heap.size v1 (appR rs fs ns vs) (appI rs fs ns vs) ∧ On w w') := by
  obtain ⟨A4, c4, A5, c5, rfl, h4, h5⟩ := l.out
  obtain ⟨A0, c0, A1, c1, rfl, h0, h1⟩ := h.out
  exact sApplyToInstance_calls w A4 c4 A5 c5 ns vs h4 h5 A0 c0 A1 c1 rs fs h0 h1
theorem iAppIV (w : World) (t v : Value) (ns vs : List Int) (rs : List Rel) (fs : List Fct) (l : RSu w t ns vs) (h : RIn w v rs fs) : Calls Tryz.prog 31 #[t, v] w (Got fun v w' => ∃ v1, v = .tuple #[v1, .bool (appOk rs fs ns vs)] ∧ OIn w' w.heap.size v1 (appR rs fs ns vs) (appI rs fs ns vs) ∧ On w w') := by
  obtain ⟨A4, c4, A5, c5, rfl, h4, h5⟩ := l.out
  obtain ⟨A0, c0, A1, c1, rfl, h0, h1⟩ := h.out
  exact iApplyToInstance_calls w A4 c4 A5 c5 ns vs h4 h5 A0 c0 A1 c1 rs fs h0 h1
theorem appI_mk (rs : List Rel) (fs : List Fct) (ns vs : List Int) : mkI (appR rs fs ns vs) (appI rs fs ns vs) ≤ 1000 := by
  unfold appR appI
  cases ho : appOk rs fs ns vs with
  | false => simp [mkI, wF]
  | true =>
    rw [if_pos rfl, if_pos rfl]
    have hi : okInst rs fs = true := by simp only [appOk, Bool.and_eq_true] at ho; exact ho.2
    have h1 := okInst_len hi
    have h2 := wF_small (setF (fs.map (appF ns vs))) (fun f hf => by
      have h3 := (setF_spec (fs.map (appF ns vs))).2 f
      obtain ⟨g, hg, rfl⟩ := List.mem_map.1 (h3.1 hf)
      have := okFact_len (okInst_mem hi g hg)
      show (g.2.map (appV ns vs)).length ≤ 3
      rw [List.length_map]; exact this)
    have h3 := setF_len (fs.map (appF ns vs))
    rw [List.length_map] at h3
    unfold mkI; omega
theorem FnExactApplyToInstance_calls (w : World) (V0 : Value) (ns0 vs0 : List Int) (hA0 : RSu w V0 ns0 vs0) (V1 : Value) (rs1 : List Rel) (fs1 : List Fct) (hA1 : RIn w V1 rs1 fs1) (hZ1 : ∀ r ∈ rs1, r.1.size ≤ 9223372036854775807) : Calls Tryz.prog 5 #[V0, V1] w fun e w' => e = .returned (.bool true) ∧ On w w' := by
  have hW := Aside0.mk (On.refl w)
  obtain ⟨ua0, la0, xa0, ub0, lb0, xb0, rfl⟩ := hA0.shape
  have oA0 := Aside0.mk (On.refl w)
  obtain ⟨ua1, la1, xa1, ub1, lb1, xb1, rfl⟩ := hA1.shape
  have oA1 := Aside0.mk (On.refl w)
  replace hW := Aside0.mk (hW.out.trans (On.alloc (On.refl w) (.cells #[.slice ua0 la0 xa0, .slice ub0 lb0 xb0] 55)))
  replace oA0 := Aside0.mk (oA0.out.trans (On.alloc (On.refl w) (.cells #[.slice ua0 la0 xa0, .slice ub0 lb0 xb0] 55)))
  replace oA1 := Aside0.mk (oA1.out.trans (On.alloc (On.refl w) (.cells #[.slice ua0 la0 xa0, .slice ub0 lb0 xb0] 55)))
  have n2 := Aside0.mk (show (w.alloc (.cells #[.slice ua0 la0 xa0, .slice ub0 lb0 xb0] 55)).heap.size = w.heap.size + 1 from by simp)
  have kp0 := Aside0.mk (loc_new w #[.slice ua0 la0 xa0, .slice ub0 lb0 xb0] 55)
  have cp0 := blk_cell kp0.out
  replace hW := Aside0.mk (hW.out.trans (On.alloc (On.refl (w.alloc (.cells #[.slice ua0 la0 xa0, .slice ub0 lb0 xb0] 55))) (.cells #[.slice ua1 la1 xa1, .slice ub1 lb1 xb1] 44)))
  replace kp0 := Aside0.mk (blk_below kp0.out (On.alloc (On.refl (w.alloc (.cells #[.slice ua0 la0 xa0, .slice ub0 lb0 xb0] 55))) (.cells #[.slice ua1 la1 xa1, .slice ub1 lb1 xb1] 44)))
  replace cp0 := blk_cell kp0.out
  replace oA0 := Aside0.mk (oA0.out.trans (On.alloc (On.refl (w.alloc (.cells #[.slice ua0 la0 xa0, .slice ub0 lb0 xb0] 55))) (.cells #[.slice ua1 la1 xa1, .slice ub1 lb1 xb1] 44)))
  replace oA1 := Aside0.mk (oA1.out.trans (On.alloc (On.refl (w.alloc (.cells #[.slice ua0 la0 xa0, .slice ub0 lb0 xb0] 55))) (.cells #[.slice ua1 la1 xa1, .slice ub1 lb1 xb1] 44)))
  have n4 := Aside0.mk (show ((w.alloc (.cells #[.slice ua0 la0 xa0, .slice ub0 lb0 xb0] 55)).alloc (.cells #[.slice ua1 la1 xa1, .slice ub1 lb1 xb1] 44)).heap.size = (w.alloc (.cells #[.slice ua0 la0 xa0, .slice ub0 lb0 xb0] 55)).heap.size + 1 from by simp)
  have kp1 := Aside0.mk (show ((w.alloc (.cells #[.slice ua0 la0 xa0, .slice ub0 lb0 xb0] 55)).alloc (.cells #[.slice ua1 la1 xa1, .slice ub1 lb1 xb1] 44)).heap[w.heap.size + 1]? = some (.cells #[.slice ua1 la1 xa1, .slice ub1 lb1 xb1] 44 (0, 0)) from by have h := loc_new (w.alloc (.cells #[.slice ua0 la0 xa0, .slice ub0 lb0 xb0] 55)) #[.slice ua1 la1 xa1, .slice ub1 lb1 xb1] 44; rwa [show (w.alloc (.cells #[.slice ua0 la0 xa0, .slice ub0 lb0 xb0] 55)).heap.size = w.heap.size + 1 by simp] at h)
  have cp1 := blk_cell kp1.out
  have hmk0 := Aside0.mk (show wS ns0 vs0 ≤ ns0.length + vs0.length from Nat.le_refl _)
  have hmk1 := Aside0.mk (mkI_le rs1 fs1)
  have hmkG := Aside0.mk (appI_mk rs1 fs1 ns0 vs0)
  have hmkG' := hmk1
  go_enter Tryz.func5, Tryz.ntmps5
  go_wp2_with (refine gate 19 ?_)
  refine ⟨goesF 19 Tryz.func28 ((szS_calls _ _ ns0 vs0 1048576 (by omega) (by omega) (hA0.on oA0.out)).mono ?_)⟩
  rintro e w1 ⟨q1, rfl, hq0, hb1⟩
  refine ⟨_, rfl, ?_⟩
  have hq1 := Aside0.mk hq0
  clear hq0
  replace hW := Aside0.mk (hW.out.trans hb1)
  replace kp0 := Aside0.mk (blk_below kp0.out hb1)
  replace kp1 := Aside0.mk (blk_below kp1.out hb1)
  replace cp0 := blk_cell kp0.out
  replace cp1 := blk_cell kp1.out
  replace oA0 := Aside0.mk (oA0.out.trans hb1)
  replace oA1 := Aside0.mk (oA1.out.trans hb1)
  have n5 := Aside0.mk (show ((w.alloc (.cells #[.slice ua0 la0 xa0, .slice ub0 lb0 xb0] 55)).alloc (.cells #[.slice ua1 la1 xa1, .slice ub1 lb1 xb1] 44)).heap.size ≤ w1.heap.size from hb1.size)
  clear hb1
  by_cases hneg1 : q1 < 0
  · go_wp2
    go_ret
    exact ⟨rfl, hW.out⟩
  have hz0 := Aside0.mk (show ns0.length + vs0.length ≤ 1048576 by have := hq1.out (by omega); omega)
  go_wp2_with (refine gate 24 ?_)
  refine ⟨goesF 24 Tryz.func19 ((szI_calls _ _ rs1 fs1 q1 (by omega) (by have := hq1.out (by omega); omega) (hA1.on oA1.out) hZ1).mono ?_)⟩
  rintro e w2 ⟨q2, rfl, hq0, hb1⟩
  refine ⟨_, rfl, ?_⟩
  have hq2 := Aside0.mk hq0
  clear hq0
  replace hW := Aside0.mk (hW.out.trans hb1)
  replace kp0 := Aside0.mk (blk_below kp0.out hb1)
  replace kp1 := Aside0.mk (blk_below kp1.out hb1)
  replace cp0 := blk_cell kp0.out
  replace cp1 := blk_cell kp1.out
  replace oA0 := Aside0.mk (oA0.out.trans hb1)
  replace oA1 := Aside0.mk (oA1.out.trans hb1)
  have n6 := Aside0.mk (show w1.heap.size ≤ w2.heap.size from hb1.size)
  clear hb1
  by_cases hneg2 : q2 < 0
  · go_wp2
    go_ret
    exact ⟨rfl, hW.out⟩
  have hz1 := Aside0.mk (show wR rs1 + wF fs1 ≤ 1048576 by have := hq1.out (by omega); have := hq2.out (by omega); omega)
  go_wp2
  refine Reg.regionM (.s 0 .L (.s 2 .L (.two 1 8 (.two 3 8 (.two 4 8 (.leaf [(5,.L),(6,.L),(7,.P),(8,.N)]) (.leaf [(4,.N),(5,.L),(6,.L),(7,.P)])) (.leaf [(3,.N),(4,.N),(5,.L),(6,.L),(7,.P)])) (.leaf [(1,.N),(3,.N),(4,.N),(5,.L),(6,.L),(7,.P)])))) [9,10] (fun a a' w' => ∃ (D0 D1 : Value) (uaZ : Option Addr) (laZ xaZ : Nat) (ubZ : Option Addr) (lbZ xbZ : Nat) (g : Nat), a' = (Act.put (Act.put (Act.put (Act.put (Act.put (Act.put (Act.put (Act.put (Act.put (Act.put a (some 28) (.agg #[.slice ua0 la0 xa0, .slice ub0 lb0 xb0])) (some 30) (.agg #[.slice ua1 la1 xa1, .slice ub1 lb1 xb1])) (some 29) D0) (some 31) D1) (some 32) (.tuple #[.agg #[.slice uaZ laZ xaZ, .slice ubZ lbZ xbZ], .bool (appOk rs1 fs1 ns0 vs0)])) (some 27) (.tuple #[.agg #[.slice uaZ laZ xaZ, .slice ubZ lbZ xbZ], .bool (appOk rs1 fs1 ns0 vs0)])) (some 33) (.agg #[.slice uaZ laZ xaZ, .slice ubZ lbZ xbZ])) (some 34) (.bool (appOk rs1 fs1 ns0 vs0))) (some 6) (.pointer (some ⟨g, 0, none⟩))) (some 7) (.bool (appOk rs1 fs1 ns0 vs0))) ∧ On w2 w' ∧ w'.heap[g]? = some (.cells #[.slice uaZ laZ xaZ, .slice ubZ lbZ xbZ] 27 (0, 0)) ∧ w2.heap.size ≤ g ∧ OIn w' w2.heap.size (.agg #[.slice uaZ laZ xaZ, .slice ubZ lbZ xbZ]) (appR rs1 fs1 ns0 vs0) (appI rs1 fs1 ns0 vs0)) (by kernel_rfl) (by kernel_rfl) ?_ ?_
  · have hQ := Aside0.mk (On.refl w2)
    refine tL ?_
    refine tL ?_
    refine tTwo ?_ ?_
    · have hQ := hQ
      intro u1 hS
      replace hQ := Aside0.mk (hQ.out.trans hS)
      refine goesF 29 Tryz.func30 ((toSp_calls _ _ ns0 vs0 (hA0.on (oA0.out.trans hQ.out)) hz0.out).mono ?_)
      rintro e u2 ⟨v1, rfl, hO0, hb1⟩
      have hD0 := Aside0.mk hO0.b
      clear hO0
      obtain ⟨uaD0, laD0, xaD0, ubD0, lbD0, xbD0, rfl⟩ := (hD0.out.read).shape
      refine ⟨_, rfl, hS.trans hb1, ?_⟩
      simp only [Act.put, List.setIfInBounds_toArray, List.set_cons_zero, List.set_cons_succ]
      replace hQ := Aside0.mk (hQ.out.trans hb1)
      clear hb1 hS
      refine tTwo ?_ ?_
      · have hQ := hQ
        intro u3 hS
        replace hQ := Aside0.mk (hQ.out.trans hS)
        replace hD0 := Aside0.mk (hD0.out.on hS)
        refine goesF 31 Tryz.func21 ((toI_calls _ _ rs1 fs1 (hA1.on (oA1.out.trans hQ.out)) hz1.out).mono ?_)
        rintro e u4 ⟨v1, rfl, hO0, hb1⟩
        have hD1 := Aside0.mk hO0.b
        clear hO0
        obtain ⟨uaD1, laD1, xaD1, ubD1, lbD1, xbD1, rfl⟩ := (hD1.out.read).shape
        refine ⟨_, rfl, hS.trans hb1, ?_⟩
        simp only [Act.put, List.setIfInBounds_toArray, List.set_cons_zero, List.set_cons_succ]
        replace hD0 := Aside0.mk (hD0.out.on hb1)
        replace hQ := Aside0.mk (hQ.out.trans hb1)
        clear hb1 hS
        refine tTwo ?_ ?_
        · have hQ := hQ
          intro u5 hS
          replace hQ := Aside0.mk (hQ.out.trans hS)
          replace hD0 := Aside0.mk (hD0.out.on hS)
          replace hD1 := Aside0.mk (hD1.out.on hS)
          refine goesF 32 Tryz.func29 ((sAppIV _ _ _ ns0 vs0 rs1 fs1 hD0.out.read hD1.out.read).mono ?_)
          rintro e u6 ⟨v0, rfl, v1, rfl, hO0, hb1⟩
          have hU := Aside0.mk hO0.b
          clear hO0
          obtain ⟨uaZ, laZ, xaZ, ubZ, lbZ, xbZ, rfl⟩ := (hU.out.read).shape
          have hlo := Aside0.mk (show w2.heap.size ≤ u5.heap.size ∧ u5.heap.size ≤ u6.heap.size from ⟨hQ.out.size, hb1.size⟩)
          refine ⟨_, rfl, hS.trans hb1, ?_⟩
          simp only [Act.put, List.setIfInBounds_toArray, List.set_cons_zero, List.set_cons_succ]
          replace hQ := Aside0.mk (hQ.out.trans hb1)
          clear hb1 hS
          refine Reg.tLeaf ?_
          repeat first | refine sP ?_ | refine sS ?_ | refine sA ?_ | refine sL ?_ | refine sQ ?_ | refine sO ?_
          have hQ0 := hQ
          refine stepM (fun u7 hS => ?_)
          go_wp2
          refine ⟨hS.trans (On.alloc (On.refl _) _), ?_⟩
          have hgg := Aside0.mk (show w2.heap.size ≤ u7.heap.size from Nat.le_trans hQ.out.size hS.size)
          have hgl := Aside0.mk hS.size
          replace hU := Aside0.mk (hU.out.on (hS.trans (On.alloc (On.refl _) (.cells #[.slice none 0 0, .slice none 0 0] 27))))
          replace hQ := Aside0.mk (hQ.out.trans (hS.trans (On.alloc (On.refl _) (.cells #[.slice none 0 0, .slice none 0 0] 27))))
          have kZ := Aside0.mk (loc_new u7 #[.slice none 0 0, .slice none 0 0] 27)
          clear hS
          refine Reg.tail_ fun u8 hS => ?_
          replace hQ := Aside0.mk (hQ.out.trans hS)
          replace kZ := Aside0.mk (blk_below kZ.out hS)
          replace hU := Aside0.mk (hU.out.on hS)
          have cZ := blk_cell kZ.out
          have fZ := blk_frozen kZ.out
          clear hS
          go_wp2
          have hgs := hgg.out
          have hl := hlo.out
          have hlt := hgl.out
          refine ⟨.agg #[.slice uaD0 laD0 xaD0, .slice ubD0 lbD0 xbD0], .agg #[.slice uaD1 laD1 xaD1, .slice ubD1 lbD1 xbD1], uaZ, laZ, xaZ, ubZ, lbZ, xbZ, u7.heap.size, ?_, Reg.On.set (Reg.On.set hQ.out hgs _) hgs _, blk_set (blk_set kZ.out 0 _) 1 _, hgs, ((hU.out.set (g := u7.heap.size) (by omega)).set (by omega)).n.lower hl.1⟩
          try simp only [Act.put, List.setIfInBounds_toArray, List.set_cons_zero, List.set_cons_succ]
          try simp
        · have hQ := hQ
          intro u9 hS
          go_wp2
          refine ⟨hS.trans (On.alloc (On.refl _) _), ?_⟩
          have hgg := Aside0.mk (show w2.heap.size ≤ u9.heap.size from Nat.le_trans hQ.out.size hS.size)
          replace hD0 := Aside0.mk (hD0.out.on (hS.trans (On.alloc (On.refl _) (.cells #[.slice none 0 0, .slice none 0 0] 27))))
          replace hD1 := Aside0.mk (hD1.out.on (hS.trans (On.alloc (On.refl _) (.cells #[.slice none 0 0, .slice none 0 0] 27))))
          replace hQ := Aside0.mk (hQ.out.trans (hS.trans (On.alloc (On.refl _) (.cells #[.slice none 0 0, .slice none 0 0] 27))))
          have kZ := Aside0.mk (loc_new u9 #[.slice none 0 0, .slice none 0 0] 27)
          clear hS
          refine Reg.tLeaf ?_
          refine stepM (fun u10 hS => ?_)
          replace hQ := Aside0.mk (hQ.out.trans hS)
          replace kZ := Aside0.mk (blk_below kZ.out hS)
          replace hD0 := Aside0.mk (hD0.out.on hS)
          replace hD1 := Aside0.mk (hD1.out.on hS)
          refine goesF 32 Tryz.func29 ((sAppIV _ _ _ ns0 vs0 rs1 fs1 hD0.out.read hD1.out.read).mono ?_)
          rintro e u11 ⟨v0, rfl, v1, rfl, hO0, hb1⟩
          have hU := Aside0.mk hO0.b
          clear hO0
          obtain ⟨uaZ, laZ, xaZ, ubZ, lbZ, xbZ, rfl⟩ := (hU.out.read).shape
          have hlo := Aside0.mk (show w2.heap.size ≤ u10.heap.size ∧ u10.heap.size ≤ u11.heap.size from ⟨hQ.out.size, hb1.size⟩)
          have hgl := Aside0.mk (show _ from blk_lt kZ.out)
          refine ⟨_, rfl, hS.trans hb1, ?_⟩
          simp only [Act.put, List.setIfInBounds_toArray, List.set_cons_zero, List.set_cons_succ]
          replace hQ := Aside0.mk (hQ.out.trans hb1)
          replace kZ := Aside0.mk (blk_below kZ.out hb1)
          clear hb1 hS
          repeat first | refine sP ?_ | refine sS ?_ | refine sA ?_ | refine sL ?_ | refine sQ ?_ | refine sO ?_
          refine Reg.tail_ fun u12 hS => ?_
          replace hQ := Aside0.mk (hQ.out.trans hS)
          replace kZ := Aside0.mk (blk_below kZ.out hS)
          replace hU := Aside0.mk (hU.out.on hS)
          have cZ := blk_cell kZ.out
          have fZ := blk_frozen kZ.out
          clear hS
          go_wp2
          have hgs := hgg.out
          have hl := hlo.out
          have hlt := hgl.out
          refine ⟨.agg #[.slice uaD0 laD0 xaD0, .slice ubD0 lbD0 xbD0], .agg #[.slice uaD1 laD1 xaD1, .slice ubD1 lbD1 xbD1], uaZ, laZ, xaZ, ubZ, lbZ, xbZ, u9.heap.size, ?_, Reg.On.set (Reg.On.set hQ.out hgs _) hgs _, blk_set (blk_set kZ.out 0 _) 1 _, hgs, ((hU.out.set (g := u9.heap.size) (by omega)).set (by omega)).n.lower hl.1⟩
          try simp only [Act.put, List.setIfInBounds_toArray, List.set_cons_zero, List.set_cons_succ]
          try simp
      · have hQ := hQ
        intro u13 hS
        go_wp2
        refine ⟨hS.trans (On.alloc (On.refl _) _), ?_⟩
        have hgg := Aside0.mk (show w2.heap.size ≤ u13.heap.size from Nat.le_trans hQ.out.size hS.size)
        replace hD0 := Aside0.mk (hD0.out.on (hS.trans (On.alloc (On.refl _) (.cells #[.slice none 0 0, .slice none 0 0] 27))))
        replace hQ := Aside0.mk (hQ.out.trans (hS.trans (On.alloc (On.refl _) (.cells #[.slice none 0 0, .slice none 0 0] 27))))
        have kZ := Aside0.mk (loc_new u13 #[.slice none 0 0, .slice none 0 0] 27)
        clear hS
        refine Reg.tLeaf ?_
        refine stepM (fun u14 hS => ?_)
        replace hQ := Aside0.mk (hQ.out.trans hS)
        replace kZ := Aside0.mk (blk_below kZ.out hS)
        replace hD0 := Aside0.mk (hD0.out.on hS)
        refine goesF 31 Tryz.func21 ((toI_calls _ _ rs1 fs1 (hA1.on (oA1.out.trans hQ.out)) hz1.out).mono ?_)
        rintro e u15 ⟨v1, rfl, hO0, hb1⟩
        have hD1 := Aside0.mk hO0.b
        clear hO0
        obtain ⟨uaD1, laD1, xaD1, ubD1, lbD1, xbD1, rfl⟩ := (hD1.out.read).shape
        refine ⟨_, rfl, hS.trans hb1, ?_⟩
        simp only [Act.put, List.setIfInBounds_toArray, List.set_cons_zero, List.set_cons_succ]
        replace hD0 := Aside0.mk (hD0.out.on hb1)
        replace hQ := Aside0.mk (hQ.out.trans hb1)
        replace kZ := Aside0.mk (blk_below kZ.out hb1)
        clear hb1 hS
        refine stepM (fun u16 hS => ?_)
        replace hQ := Aside0.mk (hQ.out.trans hS)
        replace kZ := Aside0.mk (blk_below kZ.out hS)
        replace hD0 := Aside0.mk (hD0.out.on hS)
        replace hD1 := Aside0.mk (hD1.out.on hS)
        refine goesF 32 Tryz.func29 ((sAppIV _ _ _ ns0 vs0 rs1 fs1 hD0.out.read hD1.out.read).mono ?_)
        rintro e u17 ⟨v0, rfl, v1, rfl, hO0, hb1⟩
        have hU := Aside0.mk hO0.b
        clear hO0
        obtain ⟨uaZ, laZ, xaZ, ubZ, lbZ, xbZ, rfl⟩ := (hU.out.read).shape
        have hlo := Aside0.mk (show w2.heap.size ≤ u16.heap.size ∧ u16.heap.size ≤ u17.heap.size from ⟨hQ.out.size, hb1.size⟩)
        have hgl := Aside0.mk (show _ from blk_lt kZ.out)
        refine ⟨_, rfl, hS.trans hb1, ?_⟩
        simp only [Act.put, List.setIfInBounds_toArray, List.set_cons_zero, List.set_cons_succ]
        replace hQ := Aside0.mk (hQ.out.trans hb1)
        replace kZ := Aside0.mk (blk_below kZ.out hb1)
        clear hb1 hS
        repeat first | refine sP ?_ | refine sS ?_ | refine sA ?_ | refine sL ?_ | refine sQ ?_ | refine sO ?_
        refine Reg.tail_ fun u18 hS => ?_
        replace hQ := Aside0.mk (hQ.out.trans hS)
        replace kZ := Aside0.mk (blk_below kZ.out hS)
        replace hU := Aside0.mk (hU.out.on hS)
        have cZ := blk_cell kZ.out
        have fZ := blk_frozen kZ.out
        clear hS
        go_wp2
        have hgs := hgg.out
        have hl := hlo.out
        have hlt := hgl.out
        refine ⟨.agg #[.slice uaD0 laD0 xaD0, .slice ubD0 lbD0 xbD0], .agg #[.slice uaD1 laD1 xaD1, .slice ubD1 lbD1 xbD1], uaZ, laZ, xaZ, ubZ, lbZ, xbZ, u13.heap.size, ?_, Reg.On.set (Reg.On.set hQ.out hgs _) hgs _, blk_set (blk_set kZ.out 0 _) 1 _, hgs, ((hU.out.set (g := u13.heap.size) (by omega)).set (by omega)).n.lower hl.1⟩
        try simp only [Act.put, List.setIfInBounds_toArray, List.set_cons_zero, List.set_cons_succ]
        try simp
    · have hQ := hQ
      intro u19 hS
      go_wp2
      refine ⟨hS.trans (On.alloc (On.refl _) _), ?_⟩
      have hgg := Aside0.mk (show w2.heap.size ≤ u19.heap.size from Nat.le_trans hQ.out.size hS.size)
      replace hQ := Aside0.mk (hQ.out.trans (hS.trans (On.alloc (On.refl _) (.cells #[.slice none 0 0, .slice none 0 0] 27))))
      have kZ := Aside0.mk (loc_new u19 #[.slice none 0 0, .slice none 0 0] 27)
      clear hS
      refine Reg.tLeaf ?_
      refine stepM (fun u20 hS => ?_)
      replace hQ := Aside0.mk (hQ.out.trans hS)
      replace kZ := Aside0.mk (blk_below kZ.out hS)
      refine goesF 29 Tryz.func30 ((toSp_calls _ _ ns0 vs0 (hA0.on (oA0.out.trans hQ.out)) hz0.out).mono ?_)
      rintro e u21 ⟨v1, rfl, hO0, hb1⟩
      have hD0 := Aside0.mk hO0.b
      clear hO0
      obtain ⟨uaD0, laD0, xaD0, ubD0, lbD0, xbD0, rfl⟩ := (hD0.out.read).shape
      refine ⟨_, rfl, hS.trans hb1, ?_⟩
      simp only [Act.put, List.setIfInBounds_toArray, List.set_cons_zero, List.set_cons_succ]
      replace hQ := Aside0.mk (hQ.out.trans hb1)
      replace kZ := Aside0.mk (blk_below kZ.out hb1)
      clear hb1 hS
      refine stepM (fun u22 hS => ?_)
      replace hQ := Aside0.mk (hQ.out.trans hS)
      replace kZ := Aside0.mk (blk_below kZ.out hS)
      replace hD0 := Aside0.mk (hD0.out.on hS)
      refine goesF 31 Tryz.func21 ((toI_calls _ _ rs1 fs1 (hA1.on (oA1.out.trans hQ.out)) hz1.out).mono ?_)
      rintro e u23 ⟨v1, rfl, hO0, hb1⟩
      have hD1 := Aside0.mk hO0.b
      clear hO0
      obtain ⟨uaD1, laD1, xaD1, ubD1, lbD1, xbD1, rfl⟩ := (hD1.out.read).shape
      refine ⟨_, rfl, hS.trans hb1, ?_⟩
      simp only [Act.put, List.setIfInBounds_toArray, List.set_cons_zero, List.set_cons_succ]
      replace hD0 := Aside0.mk (hD0.out.on hb1)
      replace hQ := Aside0.mk (hQ.out.trans hb1)
      replace kZ := Aside0.mk (blk_below kZ.out hb1)
      clear hb1 hS
      refine stepM (fun u24 hS => ?_)
      replace hQ := Aside0.mk (hQ.out.trans hS)
      replace kZ := Aside0.mk (blk_below kZ.out hS)
      replace hD0 := Aside0.mk (hD0.out.on hS)
      replace hD1 := Aside0.mk (hD1.out.on hS)
      refine goesF 32 Tryz.func29 ((sAppIV _ _ _ ns0 vs0 rs1 fs1 hD0.out.read hD1.out.read).mono ?_)
      rintro e u25 ⟨v0, rfl, v1, rfl, hO0, hb1⟩
      have hU := Aside0.mk hO0.b
      clear hO0
      obtain ⟨uaZ, laZ, xaZ, ubZ, lbZ, xbZ, rfl⟩ := (hU.out.read).shape
      have hlo := Aside0.mk (show w2.heap.size ≤ u24.heap.size ∧ u24.heap.size ≤ u25.heap.size from ⟨hQ.out.size, hb1.size⟩)
      have hgl := Aside0.mk (show _ from blk_lt kZ.out)
      refine ⟨_, rfl, hS.trans hb1, ?_⟩
      simp only [Act.put, List.setIfInBounds_toArray, List.set_cons_zero, List.set_cons_succ]
      replace hQ := Aside0.mk (hQ.out.trans hb1)
      replace kZ := Aside0.mk (blk_below kZ.out hb1)
      clear hb1 hS
      repeat first | refine sP ?_ | refine sS ?_ | refine sA ?_ | refine sL ?_ | refine sQ ?_ | refine sO ?_
      refine Reg.tail_ fun u26 hS => ?_
      replace hQ := Aside0.mk (hQ.out.trans hS)
      replace kZ := Aside0.mk (blk_below kZ.out hS)
      replace hU := Aside0.mk (hU.out.on hS)
      have cZ := blk_cell kZ.out
      have fZ := blk_frozen kZ.out
      clear hS
      go_wp2
      have hgs := hgg.out
      have hl := hlo.out
      have hlt := hgl.out
      refine ⟨.agg #[.slice uaD0 laD0 xaD0, .slice ubD0 lbD0 xbD0], .agg #[.slice uaD1 laD1 xaD1, .slice ubD1 lbD1 xbD1], uaZ, laZ, xaZ, ubZ, lbZ, xbZ, u19.heap.size, ?_, Reg.On.set (Reg.On.set hQ.out hgs _) hgs _, blk_set (blk_set kZ.out 0 _) 1 _, hgs, ((hU.out.set (g := u19.heap.size) (by omega)).set (by omega)).n.lower hl.1⟩
      try simp only [Act.put, List.setIfInBounds_toArray, List.set_cons_zero, List.set_cons_succ]
      try simp
  rintro a' w3 ⟨D0, D1, uaR, laR, xaR, ubR, lbR, xbR, gR, rfl, hb1, hk1, hg1, hO0⟩
  simp only [Act.put, List.setIfInBounds_toArray, List.set_cons_zero, List.set_cons_succ]
  replace hW := Aside0.mk (hW.out.trans hb1)
  replace kp0 := Aside0.mk (blk_below kp0.out hb1)
  replace kp1 := Aside0.mk (blk_below kp1.out hb1)
  replace cp0 := blk_cell kp0.out
  replace cp1 := blk_cell kp1.out
  replace oA0 := Aside0.mk (oA0.out.trans hb1)
  replace oA1 := Aside0.mk (oA1.out.trans hb1)
  have n7 := Aside0.mk (show w2.heap.size ≤ w3.heap.size from hb1.size)
  have kbR := Aside0.mk hk1
  have cbR := blk_cell hk1
  have hR := Aside0.mk hO0.read
  have oR := Aside0.mk (On.refl w3)
  have n8 := Aside0.mk (show w2.heap.size ≤ gR ∧ gR < w3.heap.size from ⟨hg1, blk_lt hk1⟩)
  clear hb1 hk1 hg1 hO0
  go_wp2_with (refine gate 36 ?_)
  refine ⟨goesF 36 Tryz.func30 ((toSp_calls _ _ ns0 vs0 (hA0.on oA0.out) hz0.out).mono ?_)⟩
  rintro e w4 ⟨v1, rfl, hO0, hb1⟩
  refine ⟨_, rfl, ?_⟩
  have hX0 := Aside0.mk hO0.b
  clear hO0
  replace hW := Aside0.mk (hW.out.trans hb1)
  replace kp0 := Aside0.mk (blk_below kp0.out hb1)
  replace kp1 := Aside0.mk (blk_below kp1.out hb1)
  replace kbR := Aside0.mk (blk_below kbR.out hb1)
  replace cp0 := blk_cell kp0.out
  replace cp1 := blk_cell kp1.out
  replace cbR := blk_cell kbR.out
  replace oA0 := Aside0.mk (oA0.out.trans hb1)
  replace oA1 := Aside0.mk (oA1.out.trans hb1)
  replace oR := Aside0.mk (oR.out.trans hb1)
  have n9 := Aside0.mk (show w3.heap.size ≤ w4.heap.size from hb1.size)
  clear hb1
  obtain ⟨uaX0, laX0, xaX0, ubX0, lbX0, xbX0, rfl⟩ := (hX0.out.read).shape
  have hfill := alloc_fill w4
  replace hW := Aside0.mk (hW.out.trans (On.alloc (On.refl w4) (.cells #[.slice uaX0 laX0 xaX0, .slice ubX0 lbX0 xbX0] 58)))
  replace kp0 := Aside0.mk (blk_below kp0.out (On.alloc (On.refl w4) (.cells #[.slice uaX0 laX0 xaX0, .slice ubX0 lbX0 xbX0] 58)))
  replace kp1 := Aside0.mk (blk_below kp1.out (On.alloc (On.refl w4) (.cells #[.slice uaX0 laX0 xaX0, .slice ubX0 lbX0 xbX0] 58)))
  replace kbR := Aside0.mk (blk_below kbR.out (On.alloc (On.refl w4) (.cells #[.slice uaX0 laX0 xaX0, .slice ubX0 lbX0 xbX0] 58)))
  replace cp0 := blk_cell kp0.out
  replace cp1 := blk_cell kp1.out
  replace cbR := blk_cell kbR.out
  replace oA0 := Aside0.mk (oA0.out.trans (On.alloc (On.refl w4) (.cells #[.slice uaX0 laX0 xaX0, .slice ubX0 lbX0 xbX0] 58)))
  replace oA1 := Aside0.mk (oA1.out.trans (On.alloc (On.refl w4) (.cells #[.slice uaX0 laX0 xaX0, .slice ubX0 lbX0 xbX0] 58)))
  replace oR := Aside0.mk (oR.out.trans (On.alloc (On.refl w4) (.cells #[.slice uaX0 laX0 xaX0, .slice ubX0 lbX0 xbX0] 58)))
  replace hX0 := Aside0.mk (hX0.out.on (On.alloc (On.refl w4) (.cells #[.slice uaX0 laX0 xaX0, .slice ubX0 lbX0 xbX0] 58)))
  have n11 := Aside0.mk (show (w4.alloc (.cells #[.slice uaX0 laX0 xaX0, .slice ubX0 lbX0 xbX0] 58)).heap.size = w4.heap.size + 1 from by simp)
  have kx0 := Aside0.mk (loc_new w4 #[.slice uaX0 laX0 xaX0, .slice ubX0 lbX0 xbX0] 58)
  have cx0 := blk_cell kx0.out
  go_wp2_with (refine gate 38 ?_)
  try clear hfill
  refine ⟨goesF 38 Tryz.func21 ((toI_calls _ _ rs1 fs1 (hA1.on oA1.out) hz1.out).mono ?_)⟩
  rintro e w5 ⟨v1, rfl, hO0, hb1⟩
  refine ⟨_, rfl, ?_⟩
  have hX1 := Aside0.mk hO0.b
  clear hO0
  replace hW := Aside0.mk (hW.out.trans hb1)
  replace kp0 := Aside0.mk (blk_below kp0.out hb1)
  replace kp1 := Aside0.mk (blk_below kp1.out hb1)
  replace kbR := Aside0.mk (blk_below kbR.out hb1)
  replace kx0 := Aside0.mk (blk_below kx0.out hb1)
  replace cp0 := blk_cell kp0.out
  replace cp1 := blk_cell kp1.out
  replace cbR := blk_cell kbR.out
  replace cx0 := blk_cell kx0.out
  replace oA0 := Aside0.mk (oA0.out.trans hb1)
  replace oA1 := Aside0.mk (oA1.out.trans hb1)
  replace oR := Aside0.mk (oR.out.trans hb1)
  replace hX0 := Aside0.mk (hX0.out.on hb1)
  have n12 := Aside0.mk (show (w4.alloc (.cells #[.slice uaX0 laX0 xaX0, .slice ubX0 lbX0 xbX0] 58)).heap.size ≤ w5.heap.size from hb1.size)
  clear hb1
  obtain ⟨uaX1, laX1, xaX1, ubX1, lbX1, xbX1, rfl⟩ := (hX1.out.read).shape
  have hfill := alloc_fill w5
  replace hW := Aside0.mk (hW.out.trans (On.alloc (On.refl w5) (.cells #[.slice uaX1 laX1 xaX1, .slice ubX1 lbX1 xbX1] 27)))
  replace kp0 := Aside0.mk (blk_below kp0.out (On.alloc (On.refl w5) (.cells #[.slice uaX1 laX1 xaX1, .slice ubX1 lbX1 xbX1] 27)))
  replace kp1 := Aside0.mk (blk_below kp1.out (On.alloc (On.refl w5) (.cells #[.slice uaX1 laX1 xaX1, .slice ubX1 lbX1 xbX1] 27)))
  replace kbR := Aside0.mk (blk_below kbR.out (On.alloc (On.refl w5) (.cells #[.slice uaX1 laX1 xaX1, .slice ubX1 lbX1 xbX1] 27)))
  replace kx0 := Aside0.mk (blk_below kx0.out (On.alloc (On.refl w5) (.cells #[.slice uaX1 laX1 xaX1, .slice ubX1 lbX1 xbX1] 27)))
  replace cp0 := blk_cell kp0.out
  replace cp1 := blk_cell kp1.out
  replace cbR := blk_cell kbR.out
  replace cx0 := blk_cell kx0.out
  replace oA0 := Aside0.mk (oA0.out.trans (On.alloc (On.refl w5) (.cells #[.slice uaX1 laX1 xaX1, .slice ubX1 lbX1 xbX1] 27)))
  replace oA1 := Aside0.mk (oA1.out.trans (On.alloc (On.refl w5) (.cells #[.slice uaX1 laX1 xaX1, .slice ubX1 lbX1 xbX1] 27)))
  replace oR := Aside0.mk (oR.out.trans (On.alloc (On.refl w5) (.cells #[.slice uaX1 laX1 xaX1, .slice ubX1 lbX1 xbX1] 27)))
  replace hX0 := Aside0.mk (hX0.out.on (On.alloc (On.refl w5) (.cells #[.slice uaX1 laX1 xaX1, .slice ubX1 lbX1 xbX1] 27)))
  replace hX1 := Aside0.mk (hX1.out.on (On.alloc (On.refl w5) (.cells #[.slice uaX1 laX1 xaX1, .slice ubX1 lbX1 xbX1] 27)))
  have n14 := Aside0.mk (show (w5.alloc (.cells #[.slice uaX1 laX1 xaX1, .slice ubX1 lbX1 xbX1] 27)).heap.size = w5.heap.size + 1 from by simp)
  have kx1 := Aside0.mk (loc_new w5 #[.slice uaX1 laX1 xaX1, .slice ubX1 lbX1 xbX1] 27)
  have cx1 := blk_cell kx1.out
  go_wp2_with (refine gate 42 ?_)
  try clear hfill
  refine ⟨goesF 42 Tryz.func31 ((iAppIV _ _ _ ns0 vs0 rs1 fs1 hX0.out.read hX1.out.read).mono ?_)⟩
  rintro e w6 ⟨v0, rfl, v1, rfl, hO0, hb1⟩
  refine ⟨_, rfl, ?_⟩
  have hG := Aside0.mk hO0.b
  clear hO0
  replace hW := Aside0.mk (hW.out.trans hb1)
  replace kp0 := Aside0.mk (blk_below kp0.out hb1)
  replace kp1 := Aside0.mk (blk_below kp1.out hb1)
  replace kbR := Aside0.mk (blk_below kbR.out hb1)
  replace kx0 := Aside0.mk (blk_below kx0.out hb1)
  replace kx1 := Aside0.mk (blk_below kx1.out hb1)
  replace cp0 := blk_cell kp0.out
  replace cp1 := blk_cell kp1.out
  replace cbR := blk_cell kbR.out
  replace cx0 := blk_cell kx0.out
  replace cx1 := blk_cell kx1.out
  replace oA0 := Aside0.mk (oA0.out.trans hb1)
  replace oA1 := Aside0.mk (oA1.out.trans hb1)
  replace oR := Aside0.mk (oR.out.trans hb1)
  replace hX0 := Aside0.mk (hX0.out.on hb1)
  replace hX1 := Aside0.mk (hX1.out.on hb1)
  have n15 := Aside0.mk (show (w5.alloc (.cells #[.slice uaX1 laX1 xaX1, .slice ubX1 lbX1 xbX1] 27)).heap.size ≤ w6.heap.size from hb1.size)
  clear hb1
  obtain ⟨uaG, laG, xaG, ubG, lbG, xbG, rfl⟩ := (hG.out.read).shape
  have hfill := alloc_fill w6
  replace hW := Aside0.mk (hW.out.trans (On.alloc (On.refl w6) (.cells #[.slice uaG laG xaG, .slice ubG lbG xbG] 27)))
  replace kp0 := Aside0.mk (blk_below kp0.out (On.alloc (On.refl w6) (.cells #[.slice uaG laG xaG, .slice ubG lbG xbG] 27)))
  replace kp1 := Aside0.mk (blk_below kp1.out (On.alloc (On.refl w6) (.cells #[.slice uaG laG xaG, .slice ubG lbG xbG] 27)))
  replace kbR := Aside0.mk (blk_below kbR.out (On.alloc (On.refl w6) (.cells #[.slice uaG laG xaG, .slice ubG lbG xbG] 27)))
  replace kx0 := Aside0.mk (blk_below kx0.out (On.alloc (On.refl w6) (.cells #[.slice uaG laG xaG, .slice ubG lbG xbG] 27)))
  replace kx1 := Aside0.mk (blk_below kx1.out (On.alloc (On.refl w6) (.cells #[.slice uaG laG xaG, .slice ubG lbG xbG] 27)))
  replace cp0 := blk_cell kp0.out
  replace cp1 := blk_cell kp1.out
  replace cbR := blk_cell kbR.out
  replace cx0 := blk_cell kx0.out
  replace cx1 := blk_cell kx1.out
  replace oA0 := Aside0.mk (oA0.out.trans (On.alloc (On.refl w6) (.cells #[.slice uaG laG xaG, .slice ubG lbG xbG] 27)))
  replace oA1 := Aside0.mk (oA1.out.trans (On.alloc (On.refl w6) (.cells #[.slice uaG laG xaG, .slice ubG lbG xbG] 27)))
  replace oR := Aside0.mk (oR.out.trans (On.alloc (On.refl w6) (.cells #[.slice uaG laG xaG, .slice ubG lbG xbG] 27)))
  replace hX0 := Aside0.mk (hX0.out.on (On.alloc (On.refl w6) (.cells #[.slice uaG laG xaG, .slice ubG lbG xbG] 27)))
  replace hX1 := Aside0.mk (hX1.out.on (On.alloc (On.refl w6) (.cells #[.slice uaG laG xaG, .slice ubG lbG xbG] 27)))
  replace hG := Aside0.mk (hG.out.on (On.alloc (On.refl w6) (.cells #[.slice uaG laG xaG, .slice ubG lbG xbG] 27)))
  have n17 := Aside0.mk (show (w6.alloc (.cells #[.slice uaG laG xaG, .slice ubG lbG xbG] 27)).heap.size = w6.heap.size + 1 from by simp)
  have kbG := Aside0.mk (loc_new w6 #[.slice uaG laG xaG, .slice ubG lbG xbG] 27)
  have cbG := blk_cell kbG.out
  go_wp2_with (go_at_call 23; refine (eqI_calls _ _ _ (appR rs1 fs1 ns0 vs0) (appI rs1 fs1 ns0 vs0) hG.out.read (hR.out.on oR.out)).mono ?_; rintro e w7 ⟨rfl, hb1⟩; replace hW := Aside0.mk (hW.out.trans hb1); replace kp0 := Aside0.mk (blk_below kp0.out hb1); replace kp1 := Aside0.mk (blk_below kp1.out hb1); replace kbR := Aside0.mk (blk_below kbR.out hb1); replace kx0 := Aside0.mk (blk_below kx0.out hb1); replace kx1 := Aside0.mk (blk_below kx1.out hb1); replace kbG := Aside0.mk (blk_below kbG.out hb1); replace cp0 := blk_cell kp0.out; replace cp1 := blk_cell kp1.out; replace cbR := blk_cell kbR.out; replace cx0 := blk_cell kx0.out; replace cx1 := blk_cell kx1.out; replace cbG := blk_cell kbG.out; replace oA0 := Aside0.mk (oA0.out.trans hb1); replace oA1 := Aside0.mk (oA1.out.trans hb1); replace oR := Aside0.mk (oR.out.trans hb1); replace hX0 := Aside0.mk (hX0.out.on hb1); replace hX1 := Aside0.mk (hX1.out.on hb1); replace hG := Aside0.mk (hG.out.on hb1); have n18 := Aside0.mk (show (w6.alloc (.cells #[.slice uaG laG xaG, .slice ubG lbG xbG] 27)).heap.size ≤ w7.heap.size from hb1.size); clear hb1)
  try clear hfill
  refine Reg.region [(0,.L),(1,.L),(2,.N),(3,.C),(4,.L)] [] (by kernel_rfl) (by kernel_rfl) ?_
  repeat first | refine sP ?_ | refine sS ?_ | refine sA ?_ | refine sL ?_ | refine sQ ?_ | refine sO ?_
  refine callN Tryz.func30 (fun w8 hS => ?_)
  replace hW := Aside0.mk (hW.out.trans hS)
  replace kp0 := Aside0.mk (blk_below kp0.out hS)
  replace kp1 := Aside0.mk (blk_below kp1.out hS)
  replace kbR := Aside0.mk (blk_below kbR.out hS)
  replace kx0 := Aside0.mk (blk_below kx0.out hS)
  replace kx1 := Aside0.mk (blk_below kx1.out hS)
  replace kbG := Aside0.mk (blk_below kbG.out hS)
  replace cp0 := blk_cell kp0.out
  replace cp1 := blk_cell kp1.out
  replace cbR := blk_cell kbR.out
  replace cx0 := blk_cell kx0.out
  replace cx1 := blk_cell kx1.out
  replace cbG := blk_cell kbG.out
  replace oA0 := Aside0.mk (oA0.out.trans hS)
  replace oA1 := Aside0.mk (oA1.out.trans hS)
  replace oR := Aside0.mk (oR.out.trans hS)
  replace hX0 := Aside0.mk (hX0.out.on hS)
  replace hX1 := Aside0.mk (hX1.out.on hS)
  replace hG := Aside0.mk (hG.out.on hS)
  have n19 := Aside0.mk (show w7.heap.size ≤ w8.heap.size from hS.size)
  clear hS
  refine (toSp_calls _ _ ns0 vs0 (hA0.on oA0.out) hz0.out).mono ?_
  rintro e w9 ⟨v1, rfl, hO0, hb1⟩
  have hC := Aside0.mk hO0.read
  clear hO0
  obtain ⟨uaC, laC, xaC, ubC, lbC, xbC, rfl⟩ := (hC.out).shape
  refine ⟨_, rfl, hb1, fun a' ha => ?_⟩
  simp only [Act.put, List.setIfInBounds_toArray, List.set_cons_zero, List.set_cons_succ] at ha
  subst ha
  replace hW := Aside0.mk (hW.out.trans hb1)
  replace kp0 := Aside0.mk (blk_below kp0.out hb1)
  replace kp1 := Aside0.mk (blk_below kp1.out hb1)
  replace kbR := Aside0.mk (blk_below kbR.out hb1)
  replace kx0 := Aside0.mk (blk_below kx0.out hb1)
  replace kx1 := Aside0.mk (blk_below kx1.out hb1)
  replace kbG := Aside0.mk (blk_below kbG.out hb1)
  replace cp0 := blk_cell kp0.out
  replace cp1 := blk_cell kp1.out
  replace cbR := blk_cell kbR.out
  replace cx0 := blk_cell kx0.out
  replace cx1 := blk_cell kx1.out
  replace cbG := blk_cell kbG.out
  replace oA0 := Aside0.mk (oA0.out.trans hb1)
  replace oA1 := Aside0.mk (oA1.out.trans hb1)
  replace oR := Aside0.mk (oR.out.trans hb1)
  replace hX0 := Aside0.mk (hX0.out.on hb1)
  replace hX1 := Aside0.mk (hX1.out.on hb1)
  replace hG := Aside0.mk (hG.out.on hb1)
  have n20 := Aside0.mk (show w8.heap.size ≤ w9.heap.size from hb1.size)
  clear hb1
  repeat first | refine sP ?_ | refine sS ?_ | refine sA ?_ | refine sL ?_ | refine sQ ?_ | refine sO ?_
  refine callC (.bool true) Tryz.func32 (fun w' hS => ?_) ?_
  focus exact eqS_calls _ _ _ ns0 vs0 (hX0.out.read.on hS) (hC.out.on hS)
  repeat first | refine sP ?_ | refine sS ?_ | refine sA ?_ | refine sL ?_ | refine sQ ?_ | refine sO ?_
  refine Reg.nil fun w10 hS => ?_
  replace hW := Aside0.mk (hW.out.trans hS)
  replace kp0 := Aside0.mk (blk_below kp0.out hS)
  replace kp1 := Aside0.mk (blk_below kp1.out hS)
  replace kbR := Aside0.mk (blk_below kbR.out hS)
  replace kx0 := Aside0.mk (blk_below kx0.out hS)
  replace kx1 := Aside0.mk (blk_below kx1.out hS)
  replace kbG := Aside0.mk (blk_below kbG.out hS)
  replace cp0 := blk_cell kp0.out
  replace cp1 := blk_cell kp1.out
  replace cbR := blk_cell kbR.out
  replace cx0 := blk_cell kx0.out
  replace cx1 := blk_cell kx1.out
  replace cbG := blk_cell kbG.out
  replace oA0 := Aside0.mk (oA0.out.trans hS)
  replace oA1 := Aside0.mk (oA1.out.trans hS)
  replace oR := Aside0.mk (oR.out.trans hS)
  replace hX0 := Aside0.mk (hX0.out.on hS)
  replace hX1 := Aside0.mk (hX1.out.on hS)
  replace hG := Aside0.mk (hG.out.on hS)
  have n21 := Aside0.mk (show w9.heap.size ≤ w10.heap.size from hS.size)
  clear hS
  go_wp2
  refine Reg.region [(0,.L),(1,.L),(2,.N),(3,.C),(4,.L)] [] (by kernel_rfl) (by kernel_rfl) ?_
  repeat first | refine sP ?_ | refine sS ?_ | refine sA ?_ | refine sL ?_ | refine sQ ?_ | refine sO ?_
  refine callN Tryz.func21 (fun w11 hS => ?_)
  replace hW := Aside0.mk (hW.out.trans hS)
  replace kp0 := Aside0.mk (blk_below kp0.out hS)
  replace kp1 := Aside0.mk (blk_below kp1.out hS)
  replace kbR := Aside0.mk (blk_below kbR.out hS)
  replace kx0 := Aside0.mk (blk_below kx0.out hS)
  replace kx1 := Aside0.mk (blk_below kx1.out hS)
  replace kbG := Aside0.mk (blk_below kbG.out hS)
  replace cp0 := blk_cell kp0.out
  replace cp1 := blk_cell kp1.out
  replace cbR := blk_cell kbR.out
  replace cx0 := blk_cell kx0.out
  replace cx1 := blk_cell kx1.out
  replace cbG := blk_cell kbG.out
  replace oA0 := Aside0.mk (oA0.out.trans hS)
  replace oA1 := Aside0.mk (oA1.out.trans hS)
  replace oR := Aside0.mk (oR.out.trans hS)
  replace hX0 := Aside0.mk (hX0.out.on hS)
  replace hX1 := Aside0.mk (hX1.out.on hS)
  replace hG := Aside0.mk (hG.out.on hS)
  have n22 := Aside0.mk (show w10.heap.size ≤ w11.heap.size from hS.size)
  clear hS
  refine (toI_calls _ _ rs1 fs1 (hA1.on oA1.out) hz1.out).mono ?_
  rintro e w12 ⟨v1, rfl, hO0, hb1⟩
  have hC := Aside0.mk hO0.read
  clear hO0
  obtain ⟨uaC, laC, xaC, ubC, lbC, xbC, rfl⟩ := (hC.out).shape
  refine ⟨_, rfl, hb1, fun a' ha => ?_⟩
  simp only [Act.put, List.setIfInBounds_toArray, List.set_cons_zero, List.set_cons_succ] at ha
  subst ha
  replace hW := Aside0.mk (hW.out.trans hb1)
  replace kp0 := Aside0.mk (blk_below kp0.out hb1)
  replace kp1 := Aside0.mk (blk_below kp1.out hb1)
  replace kbR := Aside0.mk (blk_below kbR.out hb1)
  replace kx0 := Aside0.mk (blk_below kx0.out hb1)
  replace kx1 := Aside0.mk (blk_below kx1.out hb1)
  replace kbG := Aside0.mk (blk_below kbG.out hb1)
  replace cp0 := blk_cell kp0.out
  replace cp1 := blk_cell kp1.out
  replace cbR := blk_cell kbR.out
  replace cx0 := blk_cell kx0.out
  replace cx1 := blk_cell kx1.out
  replace cbG := blk_cell kbG.out
  replace oA0 := Aside0.mk (oA0.out.trans hb1)
  replace oA1 := Aside0.mk (oA1.out.trans hb1)
  replace oR := Aside0.mk (oR.out.trans hb1)
  replace hX0 := Aside0.mk (hX0.out.on hb1)
  replace hX1 := Aside0.mk (hX1.out.on hb1)
  replace hG := Aside0.mk (hG.out.on hb1)
  have n23 := Aside0.mk (show w11.heap.size ≤ w12.heap.size from hb1.size)
  clear hb1
  repeat first | refine sP ?_ | refine sS ?_ | refine sA ?_ | refine sL ?_ | refine sQ ?_ | refine sO ?_
  refine callC (.bool true) Tryz.func23 (fun w' hS => ?_) ?_
  focus exact eqI_calls _ _ _ rs1 fs1 (hX1.out.read.on hS) (hC.out.on hS)
  repeat first | refine sP ?_ | refine sS ?_ | refine sA ?_ | refine sL ?_ | refine sQ ?_ | refine sO ?_
  refine Reg.nil fun w13 hS => ?_
  replace hW := Aside0.mk (hW.out.trans hS)
  replace kp0 := Aside0.mk (blk_below kp0.out hS)
  replace kp1 := Aside0.mk (blk_below kp1.out hS)
  replace kbR := Aside0.mk (blk_below kbR.out hS)
  replace kx0 := Aside0.mk (blk_below kx0.out hS)
  replace kx1 := Aside0.mk (blk_below kx1.out hS)
  replace kbG := Aside0.mk (blk_below kbG.out hS)
  replace cp0 := blk_cell kp0.out
  replace cp1 := blk_cell kp1.out
  replace cbR := blk_cell kbR.out
  replace cx0 := blk_cell kx0.out
  replace cx1 := blk_cell kx1.out
  replace cbG := blk_cell kbG.out
  replace oA0 := Aside0.mk (oA0.out.trans hS)
  replace oA1 := Aside0.mk (oA1.out.trans hS)
  replace oR := Aside0.mk (oR.out.trans hS)
  replace hX0 := Aside0.mk (hX0.out.on hS)
  replace hX1 := Aside0.mk (hX1.out.on hS)
  replace hG := Aside0.mk (hG.out.on hS)
  have n24 := Aside0.mk (show w12.heap.size ≤ w13.heap.size from hS.size)
  clear hS
  go_wp2_with (refine gate 66 ?_)
  refine ⟨goesF 66 Tryz.func33 ((mkS_calls _ _ _ _ ns0 vs0 (1 : Int) hX0.out (by omega) (by have := hz0.out; have := hmk0.out; have := hz1.out; have := hmk1.out; omega)).mono ?_)⟩
  rintro e w14 ⟨rfl, hM0, hE0⟩
  refine ⟨_, rfl, ?_⟩
  have hE := Aside0.mk hE0
  clear hE0
  replace hX0 := Aside0.mk hM0
  clear hM0
  replace hW := Aside0.mk (Ex.on hW.out hE.out (fun i hi => (by obtain ⟨hi1, hi2⟩ := hi; have n2 := n2.out; have n4 := n4.out; have n5 := n5.out; have n6 := n6.out; have n7 := n7.out; have n8 := n8.out; have n9 := n9.out; have n11 := n11.out; have n12 := n12.out; have n14 := n14.out; have n15 := n15.out; have n17 := n17.out; have n18 := n18.out; have n19 := n19.out; have n20 := n20.out; have n21 := n21.out; have n22 := n22.out; have n23 := n23.out; have n24 := n24.out; omega)))
  replace kp0 := Aside0.mk (blk_ex hE.out kp0.out (fun hx => (by obtain ⟨hx1, hx2⟩ := hx; have n2 := n2.out; have n4 := n4.out; have n5 := n5.out; have n6 := n6.out; have n7 := n7.out; have n8 := n8.out; have n9 := n9.out; have n11 := n11.out; have n12 := n12.out; have n14 := n14.out; have n15 := n15.out; have n17 := n17.out; have n18 := n18.out; have n19 := n19.out; have n20 := n20.out; have n21 := n21.out; have n22 := n22.out; have n23 := n23.out; have n24 := n24.out; omega)))
  replace kp1 := Aside0.mk (blk_ex hE.out kp1.out (fun hx => (by obtain ⟨hx1, hx2⟩ := hx; have n2 := n2.out; have n4 := n4.out; have n5 := n5.out; have n6 := n6.out; have n7 := n7.out; have n8 := n8.out; have n9 := n9.out; have n11 := n11.out; have n12 := n12.out; have n14 := n14.out; have n15 := n15.out; have n17 := n17.out; have n18 := n18.out; have n19 := n19.out; have n20 := n20.out; have n21 := n21.out; have n22 := n22.out; have n23 := n23.out; have n24 := n24.out; omega)))
  replace kbR := Aside0.mk (blk_ex hE.out kbR.out (fun hx => (by obtain ⟨hx1, hx2⟩ := hx; have n2 := n2.out; have n4 := n4.out; have n5 := n5.out; have n6 := n6.out; have n7 := n7.out; have n8 := n8.out; have n9 := n9.out; have n11 := n11.out; have n12 := n12.out; have n14 := n14.out; have n15 := n15.out; have n17 := n17.out; have n18 := n18.out; have n19 := n19.out; have n20 := n20.out; have n21 := n21.out; have n22 := n22.out; have n23 := n23.out; have n24 := n24.out; omega)))
  replace kx0 := Aside0.mk (blk_ex hE.out kx0.out (fun hx => (by obtain ⟨hx1, hx2⟩ := hx; have n2 := n2.out; have n4 := n4.out; have n5 := n5.out; have n6 := n6.out; have n7 := n7.out; have n8 := n8.out; have n9 := n9.out; have n11 := n11.out; have n12 := n12.out; have n14 := n14.out; have n15 := n15.out; have n17 := n17.out; have n18 := n18.out; have n19 := n19.out; have n20 := n20.out; have n21 := n21.out; have n22 := n22.out; have n23 := n23.out; have n24 := n24.out; omega)))
  replace kx1 := Aside0.mk (blk_ex hE.out kx1.out (fun hx => (by obtain ⟨hx1, hx2⟩ := hx; have n2 := n2.out; have n4 := n4.out; have n5 := n5.out; have n6 := n6.out; have n7 := n7.out; have n8 := n8.out; have n9 := n9.out; have n11 := n11.out; have n12 := n12.out; have n14 := n14.out; have n15 := n15.out; have n17 := n17.out; have n18 := n18.out; have n19 := n19.out; have n20 := n20.out; have n21 := n21.out; have n22 := n22.out; have n23 := n23.out; have n24 := n24.out; omega)))
  replace kbG := Aside0.mk (blk_ex hE.out kbG.out (fun hx => (by obtain ⟨hx1, hx2⟩ := hx; have n2 := n2.out; have n4 := n4.out; have n5 := n5.out; have n6 := n6.out; have n7 := n7.out; have n8 := n8.out; have n9 := n9.out; have n11 := n11.out; have n12 := n12.out; have n14 := n14.out; have n15 := n15.out; have n17 := n17.out; have n18 := n18.out; have n19 := n19.out; have n20 := n20.out; have n21 := n21.out; have n22 := n22.out; have n23 := n23.out; have n24 := n24.out; omega)))
  replace cp0 := blk_cell kp0.out
  replace cp1 := blk_cell kp1.out
  replace cbR := blk_cell kbR.out
  replace cx0 := blk_cell kx0.out
  replace cx1 := blk_cell kx1.out
  replace cbG := blk_cell kbG.out
  replace oA0 := Aside0.mk (Ex.on oA0.out hE.out (fun i hi => (by obtain ⟨hi1, hi2⟩ := hi; have n2 := n2.out; have n4 := n4.out; have n5 := n5.out; have n6 := n6.out; have n7 := n7.out; have n8 := n8.out; have n9 := n9.out; have n11 := n11.out; have n12 := n12.out; have n14 := n14.out; have n15 := n15.out; have n17 := n17.out; have n18 := n18.out; have n19 := n19.out; have n20 := n20.out; have n21 := n21.out; have n22 := n22.out; have n23 := n23.out; have n24 := n24.out; omega)))
  replace oA1 := Aside0.mk (Ex.on oA1.out hE.out (fun i hi => (by obtain ⟨hi1, hi2⟩ := hi; have n2 := n2.out; have n4 := n4.out; have n5 := n5.out; have n6 := n6.out; have n7 := n7.out; have n8 := n8.out; have n9 := n9.out; have n11 := n11.out; have n12 := n12.out; have n14 := n14.out; have n15 := n15.out; have n17 := n17.out; have n18 := n18.out; have n19 := n19.out; have n20 := n20.out; have n21 := n21.out; have n22 := n22.out; have n23 := n23.out; have n24 := n24.out; omega)))
  replace oR := Aside0.mk (Ex.on oR.out hE.out (fun i hi => (by obtain ⟨hi1, hi2⟩ := hi; have n2 := n2.out; have n4 := n4.out; have n5 := n5.out; have n6 := n6.out; have n7 := n7.out; have n8 := n8.out; have n9 := n9.out; have n11 := n11.out; have n12 := n12.out; have n14 := n14.out; have n15 := n15.out; have n17 := n17.out; have n18 := n18.out; have n19 := n19.out; have n20 := n20.out; have n21 := n21.out; have n22 := n22.out; have n23 := n23.out; have n24 := n24.out; omega)))
  replace hX1 := Aside0.mk (hX1.out.ex hE.out (fun b h1 h2 h3 => (by obtain ⟨h31, h32⟩ := h3; have n2 := n2.out; have n4 := n4.out; have n5 := n5.out; have n6 := n6.out; have n7 := n7.out; have n8 := n8.out; have n9 := n9.out; have n11 := n11.out; have n12 := n12.out; have n14 := n14.out; have n15 := n15.out; have n17 := n17.out; have n18 := n18.out; have n19 := n19.out; have n20 := n20.out; have n21 := n21.out; have n22 := n22.out; have n23 := n23.out; have n24 := n24.out; omega)))
  replace hG := Aside0.mk (hG.out.ex hE.out (fun b h1 h2 h3 => (by obtain ⟨h31, h32⟩ := h3; have n2 := n2.out; have n4 := n4.out; have n5 := n5.out; have n6 := n6.out; have n7 := n7.out; have n8 := n8.out; have n9 := n9.out; have n11 := n11.out; have n12 := n12.out; have n14 := n14.out; have n15 := n15.out; have n17 := n17.out; have n18 := n18.out; have n19 := n19.out; have n20 := n20.out; have n21 := n21.out; have n22 := n22.out; have n23 := n23.out; have n24 := n24.out; omega)))
  have n25 := Aside0.mk (show w13.heap.size ≤ w14.heap.size from hE.out.size)
  clear hE
  go_wp2_with (refine gate 69 ?_)
  refine ⟨goesF 69 Tryz.func25 ((mkI_calls _ _ _ _ rs1 fs1 ((1 : Int) + ((wS ns0 vs0 : Nat) : Int)) hX1.out (by omega) (by have := hz0.out; have := hmk0.out; have := hz1.out; have := hmk1.out; omega)).mono ?_)⟩
  rintro e w15 ⟨rfl, hM0, hE0⟩
  refine ⟨_, rfl, ?_⟩
  have hE := Aside0.mk hE0
  clear hE0
  replace hX1 := Aside0.mk hM0
  clear hM0
  replace hW := Aside0.mk (Ex.on hW.out hE.out (fun i hi => (by obtain ⟨hi1, hi2⟩ := hi; have n2 := n2.out; have n4 := n4.out; have n5 := n5.out; have n6 := n6.out; have n7 := n7.out; have n8 := n8.out; have n9 := n9.out; have n11 := n11.out; have n12 := n12.out; have n14 := n14.out; have n15 := n15.out; have n17 := n17.out; have n18 := n18.out; have n19 := n19.out; have n20 := n20.out; have n21 := n21.out; have n22 := n22.out; have n23 := n23.out; have n24 := n24.out; have n25 := n25.out; omega)))
  replace kp0 := Aside0.mk (blk_ex hE.out kp0.out (fun hx => (by obtain ⟨hx1, hx2⟩ := hx; have n2 := n2.out; have n4 := n4.out; have n5 := n5.out; have n6 := n6.out; have n7 := n7.out; have n8 := n8.out; have n9 := n9.out; have n11 := n11.out; have n12 := n12.out; have n14 := n14.out; have n15 := n15.out; have n17 := n17.out; have n18 := n18.out; have n19 := n19.out; have n20 := n20.out; have n21 := n21.out; have n22 := n22.out; have n23 := n23.out; have n24 := n24.out; have n25 := n25.out; omega)))
  replace kp1 := Aside0.mk (blk_ex hE.out kp1.out (fun hx => (by obtain ⟨hx1, hx2⟩ := hx; have n2 := n2.out; have n4 := n4.out; have n5 := n5.out; have n6 := n6.out; have n7 := n7.out; have n8 := n8.out; have n9 := n9.out; have n11 := n11.out; have n12 := n12.out; have n14 := n14.out; have n15 := n15.out; have n17 := n17.out; have n18 := n18.out; have n19 := n19.out; have n20 := n20.out; have n21 := n21.out; have n22 := n22.out; have n23 := n23.out; have n24 := n24.out; have n25 := n25.out; omega)))
  replace kbR := Aside0.mk (blk_ex hE.out kbR.out (fun hx => (by obtain ⟨hx1, hx2⟩ := hx; have n2 := n2.out; have n4 := n4.out; have n5 := n5.out; have n6 := n6.out; have n7 := n7.out; have n8 := n8.out; have n9 := n9.out; have n11 := n11.out; have n12 := n12.out; have n14 := n14.out; have n15 := n15.out; have n17 := n17.out; have n18 := n18.out; have n19 := n19.out; have n20 := n20.out; have n21 := n21.out; have n22 := n22.out; have n23 := n23.out; have n24 := n24.out; have n25 := n25.out; omega)))
  replace kx0 := Aside0.mk (blk_ex hE.out kx0.out (fun hx => (by obtain ⟨hx1, hx2⟩ := hx; have n2 := n2.out; have n4 := n4.out; have n5 := n5.out; have n6 := n6.out; have n7 := n7.out; have n8 := n8.out; have n9 := n9.out; have n11 := n11.out; have n12 := n12.out; have n14 := n14.out; have n15 := n15.out; have n17 := n17.out; have n18 := n18.out; have n19 := n19.out; have n20 := n20.out; have n21 := n21.out; have n22 := n22.out; have n23 := n23.out; have n24 := n24.out; have n25 := n25.out; omega)))
  replace kx1 := Aside0.mk (blk_ex hE.out kx1.out (fun hx => (by obtain ⟨hx1, hx2⟩ := hx; have n2 := n2.out; have n4 := n4.out; have n5 := n5.out; have n6 := n6.out; have n7 := n7.out; have n8 := n8.out; have n9 := n9.out; have n11 := n11.out; have n12 := n12.out; have n14 := n14.out; have n15 := n15.out; have n17 := n17.out; have n18 := n18.out; have n19 := n19.out; have n20 := n20.out; have n21 := n21.out; have n22 := n22.out; have n23 := n23.out; have n24 := n24.out; have n25 := n25.out; omega)))
  replace kbG := Aside0.mk (blk_ex hE.out kbG.out (fun hx => (by obtain ⟨hx1, hx2⟩ := hx; have n2 := n2.out; have n4 := n4.out; have n5 := n5.out; have n6 := n6.out; have n7 := n7.out; have n8 := n8.out; have n9 := n9.out; have n11 := n11.out; have n12 := n12.out; have n14 := n14.out; have n15 := n15.out; have n17 := n17.out; have n18 := n18.out; have n19 := n19.out; have n20 := n20.out; have n21 := n21.out; have n22 := n22.out; have n23 := n23.out; have n24 := n24.out; have n25 := n25.out; omega)))
  replace cp0 := blk_cell kp0.out
  replace cp1 := blk_cell kp1.out
  replace cbR := blk_cell kbR.out
  replace cx0 := blk_cell kx0.out
  replace cx1 := blk_cell kx1.out
  replace cbG := blk_cell kbG.out
  replace oA0 := Aside0.mk (Ex.on oA0.out hE.out (fun i hi => (by obtain ⟨hi1, hi2⟩ := hi; have n2 := n2.out; have n4 := n4.out; have n5 := n5.out; have n6 := n6.out; have n7 := n7.out; have n8 := n8.out; have n9 := n9.out; have n11 := n11.out; have n12 := n12.out; have n14 := n14.out; have n15 := n15.out; have n17 := n17.out; have n18 := n18.out; have n19 := n19.out; have n20 := n20.out; have n21 := n21.out; have n22 := n22.out; have n23 := n23.out; have n24 := n24.out; have n25 := n25.out; omega)))
  replace oA1 := Aside0.mk (Ex.on oA1.out hE.out (fun i hi => (by obtain ⟨hi1, hi2⟩ := hi; have n2 := n2.out; have n4 := n4.out; have n5 := n5.out; have n6 := n6.out; have n7 := n7.out; have n8 := n8.out; have n9 := n9.out; have n11 := n11.out; have n12 := n12.out; have n14 := n14.out; have n15 := n15.out; have n17 := n17.out; have n18 := n18.out; have n19 := n19.out; have n20 := n20.out; have n21 := n21.out; have n22 := n22.out; have n23 := n23.out; have n24 := n24.out; have n25 := n25.out; omega)))
  replace oR := Aside0.mk (Ex.on oR.out hE.out (fun i hi => (by obtain ⟨hi1, hi2⟩ := hi; have n2 := n2.out; have n4 := n4.out; have n5 := n5.out; have n6 := n6.out; have n7 := n7.out; have n8 := n8.out; have n9 := n9.out; have n11 := n11.out; have n12 := n12.out; have n14 := n14.out; have n15 := n15.out; have n17 := n17.out; have n18 := n18.out; have n19 := n19.out; have n20 := n20.out; have n21 := n21.out; have n22 := n22.out; have n23 := n23.out; have n24 := n24.out; have n25 := n25.out; omega)))
  replace hX0 := Aside0.mk (hX0.out.ex hE.out (fun b h1 h2 h3 => (by obtain ⟨h31, h32⟩ := h3; have n2 := n2.out; have n4 := n4.out; have n5 := n5.out; have n6 := n6.out; have n7 := n7.out; have n8 := n8.out; have n9 := n9.out; have n11 := n11.out; have n12 := n12.out; have n14 := n14.out; have n15 := n15.out; have n17 := n17.out; have n18 := n18.out; have n19 := n19.out; have n20 := n20.out; have n21 := n21.out; have n22 := n22.out; have n23 := n23.out; have n24 := n24.out; have n25 := n25.out; omega)))
  replace hG := Aside0.mk (hG.out.ex hE.out (fun b h1 h2 h3 => (by obtain ⟨h31, h32⟩ := h3; have n2 := n2.out; have n4 := n4.out; have n5 := n5.out; have n6 := n6.out; have n7 := n7.out; have n8 := n8.out; have n9 := n9.out; have n11 := n11.out; have n12 := n12.out; have n14 := n14.out; have n15 := n15.out; have n17 := n17.out; have n18 := n18.out; have n19 := n19.out; have n20 := n20.out; have n21 := n21.out; have n22 := n22.out; have n23 := n23.out; have n24 := n24.out; have n25 := n25.out; omega)))
  have n26 := Aside0.mk (show w14.heap.size ≤ w15.heap.size from hE.out.size)
  clear hE
  have hkn : decide ((((1 : Int) + ((wS ns0 vs0 : Nat) : Int)) + ((mkI rs1 fs1 : Nat) : Int)) < 0) = false := decide_eq_false (by omega)
  have hmn : decide ((1 : Int) + ((mkI (appR rs1 fs1 ns0 vs0) (appI rs1 fs1 ns0 vs0) : Nat) : Int) < 0) = false := decide_eq_false (by omega)
  go_wp2_with (first
    | (refine gate 85 ?_)
    | (go_at_call 23; refine (eqI_calls _ _ _ (appR rs1 fs1 ns0 vs0) (appI rs1 fs1 ns0 vs0) hG.out.read (hR.out.on oR.out)).mono ?_; rintro e w16 ⟨rfl, hb1⟩; replace hW := Aside0.mk (hW.out.trans hb1); replace kp0 := Aside0.mk (blk_below kp0.out hb1); replace kp1 := Aside0.mk (blk_below kp1.out hb1); replace kbR := Aside0.mk (blk_below kbR.out hb1); replace kx0 := Aside0.mk (blk_below kx0.out hb1); replace kx1 := Aside0.mk (blk_below kx1.out hb1); replace kbG := Aside0.mk (blk_below kbG.out hb1); replace cp0 := blk_cell kp0.out; replace cp1 := blk_cell kp1.out; replace cbR := blk_cell kbR.out; replace cx0 := blk_cell kx0.out; replace cx1 := blk_cell kx1.out; replace cbG := blk_cell kbG.out; replace oA0 := Aside0.mk (oA0.out.trans hb1); replace oA1 := Aside0.mk (oA1.out.trans hb1); replace oR := Aside0.mk (oR.out.trans hb1); replace hX0 := Aside0.mk (hX0.out.on hb1); replace hX1 := Aside0.mk (hX1.out.on hb1); replace hG := Aside0.mk (hG.out.on hb1); have n27 := Aside0.mk (show w15.heap.size ≤ w16.heap.size from hb1.size); clear hb1))
  refine ⟨goesF 85 Tryz.func25 ((mkI_calls _ _ _ _ (appR rs1 fs1 ns0 vs0) (appI rs1 fs1 ns0 vs0) 1 hG.out (by omega) (by have := hmkG.out; have := hz0.out; have := hmk0.out; have := hz1.out; have := hmk1.out; omega)).mono ?_)⟩
  rintro e w17 ⟨rfl, hM0, hE0⟩
  refine ⟨_, rfl, ?_⟩
  have hE := Aside0.mk hE0
  clear hE0
  replace hG := Aside0.mk hM0
  clear hM0
  replace hW := Aside0.mk (Ex.on hW.out hE.out (fun i hi => (by obtain ⟨hi1, hi2⟩ := hi; have n2 := n2.out; have n4 := n4.out; have n5 := n5.out; have n6 := n6.out; have n7 := n7.out; have n8 := n8.out; have n9 := n9.out; have n11 := n11.out; have n12 := n12.out; have n14 := n14.out; have n15 := n15.out; have n17 := n17.out; have n18 := n18.out; have n19 := n19.out; have n20 := n20.out; have n21 := n21.out; have n22 := n22.out; have n23 := n23.out; have n24 := n24.out; have n25 := n25.out; have n26 := n26.out; have n27 := n27.out; omega)))
  replace kp0 := Aside0.mk (blk_ex hE.out kp0.out (fun hx => (by obtain ⟨hx1, hx2⟩ := hx; have n2 := n2.out; have n4 := n4.out; have n5 := n5.out; have n6 := n6.out; have n7 := n7.out; have n8 := n8.out; have n9 := n9.out; have n11 := n11.out; have n12 := n12.out; have n14 := n14.out; have n15 := n15.out; have n17 := n17.out; have n18 := n18.out; have n19 := n19.out; have n20 := n20.out; have n21 := n21.out; have n22 := n22.out; have n23 := n23.out; have n24 := n24.out; have n25 := n25.out; have n26 := n26.out; have n27 := n27.out; omega)))
  replace kp1 := Aside0.mk (blk_ex hE.out kp1.out (fun hx => (by obtain ⟨hx1, hx2⟩ := hx; have n2 := n2.out; have n4 := n4.out; have n5 := n5.out; have n6 := n6.out; have n7 := n7.out; have n8 := n8.out; have n9 := n9.out; have n11 := n11.out; have n12 := n12.out; have n14 := n14.out; have n15 := n15.out; have n17 := n17.out; have n18 := n18.out; have n19 := n19.out; have n20 := n20.out; have n21 := n21.out; have n22 := n22.out; have n23 := n23.out; have n24 := n24.out; have n25 := n25.out; have n26 := n26.out; have n27 := n27.out; omega)))
  replace kbR := Aside0.mk (blk_ex hE.out kbR.out (fun hx => (by obtain ⟨hx1, hx2⟩ := hx; have n2 := n2.out; have n4 := n4.out; have n5 := n5.out; have n6 := n6.out; have n7 := n7.out; have n8 := n8.out; have n9 := n9.out; have n11 := n11.out; have n12 := n12.out; have n14 := n14.out; have n15 := n15.out; have n17 := n17.out; have n18 := n18.out; have n19 := n19.out; have n20 := n20.out; have n21 := n21.out; have n22 := n22.out; have n23 := n23.out; have n24 := n24.out; have n25 := n25.out; have n26 := n26.out; have n27 := n27.out; omega)))
  replace kx0 := Aside0.mk (blk_ex hE.out kx0.out (fun hx => (by obtain ⟨hx1, hx2⟩ := hx; have n2 := n2.out; have n4 := n4.out; have n5 := n5.out; have n6 := n6.out; have n7 := n7.out; have n8 := n8.out; have n9 := n9.out; have n11 := n11.out; have n12 := n12.out; have n14 := n14.out; have n15 := n15.out; have n17 := n17.out; have n18 := n18.out; have n19 := n19.out; have n20 := n20.out; have n21 := n21.out; have n22 := n22.out; have n23 := n23.out; have n24 := n24.out; have n25 := n25.out; have n26 := n26.out; have n27 := n27.out; omega)))
  replace kx1 := Aside0.mk (blk_ex hE.out kx1.out (fun hx => (by obtain ⟨hx1, hx2⟩ := hx; have n2 := n2.out; have n4 := n4.out; have n5 := n5.out; have n6 := n6.out; have n7 := n7.out; have n8 := n8.out; have n9 := n9.out; have n11 := n11.out; have n12 := n12.out; have n14 := n14.out; have n15 := n15.out; have n17 := n17.out; have n18 := n18.out; have n19 := n19.out; have n20 := n20.out; have n21 := n21.out; have n22 := n22.out; have n23 := n23.out; have n24 := n24.out; have n25 := n25.out; have n26 := n26.out; have n27 := n27.out; omega)))
  replace kbG := Aside0.mk (blk_ex hE.out kbG.out (fun hx => (by obtain ⟨hx1, hx2⟩ := hx; have n2 := n2.out; have n4 := n4.out; have n5 := n5.out; have n6 := n6.out; have n7 := n7.out; have n8 := n8.out; have n9 := n9.out; have n11 := n11.out; have n12 := n12.out; have n14 := n14.out; have n15 := n15.out; have n17 := n17.out; have n18 := n18.out; have n19 := n19.out; have n20 := n20.out; have n21 := n21.out; have n22 := n22.out; have n23 := n23.out; have n24 := n24.out; have n25 := n25.out; have n26 := n26.out; have n27 := n27.out; omega)))
  replace cp0 := blk_cell kp0.out
  replace cp1 := blk_cell kp1.out
  replace cbR := blk_cell kbR.out
  replace cx0 := blk_cell kx0.out
  replace cx1 := blk_cell kx1.out
  replace cbG := blk_cell kbG.out
  replace oA0 := Aside0.mk (Ex.on oA0.out hE.out (fun i hi => (by obtain ⟨hi1, hi2⟩ := hi; have n2 := n2.out; have n4 := n4.out; have n5 := n5.out; have n6 := n6.out; have n7 := n7.out; have n8 := n8.out; have n9 := n9.out; have n11 := n11.out; have n12 := n12.out; have n14 := n14.out; have n15 := n15.out; have n17 := n17.out; have n18 := n18.out; have n19 := n19.out; have n20 := n20.out; have n21 := n21.out; have n22 := n22.out; have n23 := n23.out; have n24 := n24.out; have n25 := n25.out; have n26 := n26.out; have n27 := n27.out; omega)))
  replace oA1 := Aside0.mk (Ex.on oA1.out hE.out (fun i hi => (by obtain ⟨hi1, hi2⟩ := hi; have n2 := n2.out; have n4 := n4.out; have n5 := n5.out; have n6 := n6.out; have n7 := n7.out; have n8 := n8.out; have n9 := n9.out; have n11 := n11.out; have n12 := n12.out; have n14 := n14.out; have n15 := n15.out; have n17 := n17.out; have n18 := n18.out; have n19 := n19.out; have n20 := n20.out; have n21 := n21.out; have n22 := n22.out; have n23 := n23.out; have n24 := n24.out; have n25 := n25.out; have n26 := n26.out; have n27 := n27.out; omega)))
  replace oR := Aside0.mk (Ex.on oR.out hE.out (fun i hi => (by obtain ⟨hi1, hi2⟩ := hi; have n2 := n2.out; have n4 := n4.out; have n5 := n5.out; have n6 := n6.out; have n7 := n7.out; have n8 := n8.out; have n9 := n9.out; have n11 := n11.out; have n12 := n12.out; have n14 := n14.out; have n15 := n15.out; have n17 := n17.out; have n18 := n18.out; have n19 := n19.out; have n20 := n20.out; have n21 := n21.out; have n22 := n22.out; have n23 := n23.out; have n24 := n24.out; have n25 := n25.out; have n26 := n26.out; have n27 := n27.out; omega)))
  replace hX0 := Aside0.mk (hX0.out.ex hE.out (fun b h1 h2 h3 => (by obtain ⟨h31, h32⟩ := h3; have n2 := n2.out; have n4 := n4.out; have n5 := n5.out; have n6 := n6.out; have n7 := n7.out; have n8 := n8.out; have n9 := n9.out; have n11 := n11.out; have n12 := n12.out; have n14 := n14.out; have n15 := n15.out; have n17 := n17.out; have n18 := n18.out; have n19 := n19.out; have n20 := n20.out; have n21 := n21.out; have n22 := n22.out; have n23 := n23.out; have n24 := n24.out; have n25 := n25.out; have n26 := n26.out; have n27 := n27.out; omega)))
  replace hX1 := Aside0.mk (hX1.out.ex hE.out (fun b h1 h2 h3 => (by obtain ⟨h31, h32⟩ := h3; have n2 := n2.out; have n4 := n4.out; have n5 := n5.out; have n6 := n6.out; have n7 := n7.out; have n8 := n8.out; have n9 := n9.out; have n11 := n11.out; have n12 := n12.out; have n14 := n14.out; have n15 := n15.out; have n17 := n17.out; have n18 := n18.out; have n19 := n19.out; have n20 := n20.out; have n21 := n21.out; have n22 := n22.out; have n23 := n23.out; have n24 := n24.out; have n25 := n25.out; have n26 := n26.out; have n27 := n27.out; omega)))
  have n28 := Aside0.mk (show w16.heap.size ≤ w17.heap.size from hE.out.size)
  clear hE
  go_wp2_with (refine gate 88 ?_)
  refine ⟨goesF 88 Tryz.func27 ((hdI_calls _ _ (appR rs1 fs1 ns0 vs0) (appI rs1 fs1 ns0 vs0) 1 hG.out.read (by omega) (by have := hmkG.out; have := hz0.out; have := hmk0.out; have := hz1.out; have := hmk1.out; omega)).mono ?_)⟩
  rintro e w18 ⟨rfl, hb1⟩
  refine ⟨_, rfl, ?_⟩
  replace hW := Aside0.mk (hW.out.trans hb1)
  replace kp0 := Aside0.mk (blk_below kp0.out hb1)
  replace kp1 := Aside0.mk (blk_below kp1.out hb1)
  replace kbR := Aside0.mk (blk_below kbR.out hb1)
  replace kx0 := Aside0.mk (blk_below kx0.out hb1)
  replace kx1 := Aside0.mk (blk_below kx1.out hb1)
  replace kbG := Aside0.mk (blk_below kbG.out hb1)
  replace cp0 := blk_cell kp0.out
  replace cp1 := blk_cell kp1.out
  replace cbR := blk_cell kbR.out
  replace cx0 := blk_cell kx0.out
  replace cx1 := blk_cell kx1.out
  replace cbG := blk_cell kbG.out
  replace oA0 := Aside0.mk (oA0.out.trans hb1)
  replace oA1 := Aside0.mk (oA1.out.trans hb1)
  replace oR := Aside0.mk (oR.out.trans hb1)
  replace hX0 := Aside0.mk (hX0.out.on hb1)
  replace hX1 := Aside0.mk (hX1.out.on hb1)
  replace hG := Aside0.mk (hG.out.on hb1)
  have n29 := Aside0.mk (show w17.heap.size ≤ w18.heap.size from hb1.size)
  clear hb1
  go_wp2
  refine Reg.regionM (.s 0 .L (.s 2 .L (.two 1 8 (.two 3 8 (.two 4 8 (.leaf [(5,.L),(6,.L),(7,.P),(8,.N)]) (.leaf [(4,.N),(5,.L),(6,.L),(7,.P)])) (.leaf [(3,.N),(4,.N),(5,.L),(6,.L),(7,.P)])) (.leaf [(1,.N),(3,.N),(4,.N),(5,.L),(6,.L),(7,.P)])))) [9,10] (fun a a' w' => ∃ (D0 D1 : Value) (uaZ : Option Addr) (laZ xaZ : Nat) (ubZ : Option Addr) (lbZ xbZ : Nat) (g : Nat), a' = (Act.put (Act.put (Act.put (Act.put (Act.put (Act.put (Act.put (Act.put (Act.put (Act.put a (some 95) (.agg #[.slice ua0 la0 xa0, .slice ub0 lb0 xb0])) (some 97) (.agg #[.slice ua1 la1 xa1, .slice ub1 lb1 xb1])) (some 96) D0) (some 98) D1) (some 99) (.tuple #[.agg #[.slice uaZ laZ xaZ, .slice ubZ lbZ xbZ], .bool (appOk rs1 fs1 ns0 vs0)])) (some 94) (.tuple #[.agg #[.slice uaZ laZ xaZ, .slice ubZ lbZ xbZ], .bool (appOk rs1 fs1 ns0 vs0)])) (some 100) (.agg #[.slice uaZ laZ xaZ, .slice ubZ lbZ xbZ])) (some 101) (.bool (appOk rs1 fs1 ns0 vs0))) (some 15) (.pointer (some ⟨g, 0, none⟩))) (some 16) (.bool (appOk rs1 fs1 ns0 vs0))) ∧ On w18 w' ∧ w'.heap[g]? = some (.cells #[.slice uaZ laZ xaZ, .slice ubZ lbZ xbZ] 27 (0, 0)) ∧ w18.heap.size ≤ g ∧ OIn w' w18.heap.size (.agg #[.slice uaZ laZ xaZ, .slice ubZ lbZ xbZ]) (appR rs1 fs1 ns0 vs0) (appI rs1 fs1 ns0 vs0)) (by kernel_rfl) (by kernel_rfl) ?_ ?_
  · have hQ := Aside0.mk (On.refl w18)
    refine tL ?_
    refine tL ?_
    refine tTwo ?_ ?_
    · have hQ := hQ
      intro u1 hS
      replace hQ := Aside0.mk (hQ.out.trans hS)
      refine goesF 96 Tryz.func30 ((toSp_calls _ _ ns0 vs0 (hA0.on (oA0.out.trans hQ.out)) hz0.out).mono ?_)
      rintro e u2 ⟨v1, rfl, hO0, hb1⟩
      have hD0 := Aside0.mk hO0.b
      clear hO0
      obtain ⟨uaD0, laD0, xaD0, ubD0, lbD0, xbD0, rfl⟩ := (hD0.out.read).shape
      refine ⟨_, rfl, hS.trans hb1, ?_⟩
      simp only [Act.put, List.setIfInBounds_toArray, List.set_cons_zero, List.set_cons_succ]
      replace hQ := Aside0.mk (hQ.out.trans hb1)
      clear hb1 hS
      refine tTwo ?_ ?_
      · have hQ := hQ
        intro u3 hS
        replace hQ := Aside0.mk (hQ.out.trans hS)
        replace hD0 := Aside0.mk (hD0.out.on hS)
        refine goesF 98 Tryz.func21 ((toI_calls _ _ rs1 fs1 (hA1.on (oA1.out.trans hQ.out)) hz1.out).mono ?_)
        rintro e u4 ⟨v1, rfl, hO0, hb1⟩
        have hD1 := Aside0.mk hO0.b
        clear hO0
        obtain ⟨uaD1, laD1, xaD1, ubD1, lbD1, xbD1, rfl⟩ := (hD1.out.read).shape
        refine ⟨_, rfl, hS.trans hb1, ?_⟩
        simp only [Act.put, List.setIfInBounds_toArray, List.set_cons_zero, List.set_cons_succ]
        replace hD0 := Aside0.mk (hD0.out.on hb1)
        replace hQ := Aside0.mk (hQ.out.trans hb1)
        clear hb1 hS
        refine tTwo ?_ ?_
        · have hQ := hQ
          intro u5 hS
          replace hQ := Aside0.mk (hQ.out.trans hS)
          replace hD0 := Aside0.mk (hD0.out.on hS)
          replace hD1 := Aside0.mk (hD1.out.on hS)
          refine goesF 99 Tryz.func31 ((iAppIV _ _ _ ns0 vs0 rs1 fs1 hD0.out.read hD1.out.read).mono ?_)
          rintro e u6 ⟨v0, rfl, v1, rfl, hO0, hb1⟩
          have hU := Aside0.mk hO0.b
          clear hO0
          obtain ⟨uaZ, laZ, xaZ, ubZ, lbZ, xbZ, rfl⟩ := (hU.out.read).shape
          have hlo := Aside0.mk (show w18.heap.size ≤ u5.heap.size ∧ u5.heap.size ≤ u6.heap.size from ⟨hQ.out.size, hb1.size⟩)
          refine ⟨_, rfl, hS.trans hb1, ?_⟩
          simp only [Act.put, List.setIfInBounds_toArray, List.set_cons_zero, List.set_cons_succ]
          replace hQ := Aside0.mk (hQ.out.trans hb1)
          clear hb1 hS
          refine Reg.tLeaf ?_
          repeat first | refine sP ?_ | refine sS ?_ | refine sA ?_ | refine sL ?_ | refine sQ ?_ | refine sO ?_
          have hQ0 := hQ
          refine stepM (fun u7 hS => ?_)
          go_wp2
          refine ⟨hS.trans (On.alloc (On.refl _) _), ?_⟩
          have hgg := Aside0.mk (show w18.heap.size ≤ u7.heap.size from Nat.le_trans hQ.out.size hS.size)
          have hgl := Aside0.mk hS.size
          replace hU := Aside0.mk (hU.out.on (hS.trans (On.alloc (On.refl _) (.cells #[.slice none 0 0, .slice none 0 0] 27))))
          replace hQ := Aside0.mk (hQ.out.trans (hS.trans (On.alloc (On.refl _) (.cells #[.slice none 0 0, .slice none 0 0] 27))))
          have kZ := Aside0.mk (loc_new u7 #[.slice none 0 0, .slice none 0 0] 27)
          clear hS
          refine Reg.tail_ fun u8 hS => ?_
          replace hQ := Aside0.mk (hQ.out.trans hS)
          replace kZ := Aside0.mk (blk_below kZ.out hS)
          replace hU := Aside0.mk (hU.out.on hS)
          have cZ := blk_cell kZ.out
          have fZ := blk_frozen kZ.out
          clear hS
          go_wp2
          have hgs := hgg.out
          have hl := hlo.out
          have hlt := hgl.out
          refine ⟨.agg #[.slice uaD0 laD0 xaD0, .slice ubD0 lbD0 xbD0], .agg #[.slice uaD1 laD1 xaD1, .slice ubD1 lbD1 xbD1], uaZ, laZ, xaZ, ubZ, lbZ, xbZ, u7.heap.size, ?_, Reg.On.set (Reg.On.set hQ.out hgs _) hgs _, blk_set (blk_set kZ.out 0 _) 1 _, hgs, ((hU.out.set (g := u7.heap.size) (by omega)).set (by omega)).n.lower hl.1⟩
          try simp only [Act.put, List.setIfInBounds_toArray, List.set_cons_zero, List.set_cons_succ]
          try simp
        · have hQ := hQ
          intro u9 hS
          go_wp2
          refine ⟨hS.trans (On.alloc (On.refl _) _), ?_⟩
          have hgg := Aside0.mk (show w18.heap.size ≤ u9.heap.size from Nat.le_trans hQ.out.size hS.size)
          replace hD0 := Aside0.mk (hD0.out.on (hS.trans (On.alloc (On.refl _) (.cells #[.slice none 0 0, .slice none 0 0] 27))))
          replace hD1 := Aside0.mk (hD1.out.on (hS.trans (On.alloc (On.refl _) (.cells #[.slice none 0 0, .slice none 0 0] 27))))
          replace hQ := Aside0.mk (hQ.out.trans (hS.trans (On.alloc (On.refl _) (.cells #[.slice none 0 0, .slice none 0 0] 27))))
          have kZ := Aside0.mk (loc_new u9 #[.slice none 0 0, .slice none 0 0] 27)
          clear hS
          refine Reg.tLeaf ?_
          refine stepM (fun u10 hS => ?_)
          replace hQ := Aside0.mk (hQ.out.trans hS)
          replace kZ := Aside0.mk (blk_below kZ.out hS)
          replace hD0 := Aside0.mk (hD0.out.on hS)
          replace hD1 := Aside0.mk (hD1.out.on hS)
          refine goesF 99 Tryz.func31 ((iAppIV _ _ _ ns0 vs0 rs1 fs1 hD0.out.read hD1.out.read).mono ?_)
          rintro e u11 ⟨v0, rfl, v1, rfl, hO0, hb1⟩
          have hU := Aside0.mk hO0.b
          clear hO0
          obtain ⟨uaZ, laZ, xaZ, ubZ, lbZ, xbZ, rfl⟩ := (hU.out.read).shape
          have hlo := Aside0.mk (show w18.heap.size ≤ u10.heap.size ∧ u10.heap.size ≤ u11.heap.size from ⟨hQ.out.size, hb1.size⟩)
          have hgl := Aside0.mk (show _ from blk_lt kZ.out)
          refine ⟨_, rfl, hS.trans hb1, ?_⟩
          simp only [Act.put, List.setIfInBounds_toArray, List.set_cons_zero, List.set_cons_succ]
          replace hQ := Aside0.mk (hQ.out.trans hb1)
          replace kZ := Aside0.mk (blk_below kZ.out hb1)
          clear hb1 hS
          repeat first | refine sP ?_ | refine sS ?_ | refine sA ?_ | refine sL ?_ | refine sQ ?_ | refine sO ?_
          refine Reg.tail_ fun u12 hS => ?_
          replace hQ := Aside0.mk (hQ.out.trans hS)
          replace kZ := Aside0.mk (blk_below kZ.out hS)
          replace hU := Aside0.mk (hU.out.on hS)
          have cZ := blk_cell kZ.out
          have fZ := blk_frozen kZ.out
          clear hS
          go_wp2
          have hgs := hgg.out
          have hl := hlo.out
          have hlt := hgl.out
          refine ⟨.agg #[.slice uaD0 laD0 xaD0, .slice ubD0 lbD0 xbD0], .agg #[.slice uaD1 laD1 xaD1, .slice ubD1 lbD1 xbD1], uaZ, laZ, xaZ, ubZ, lbZ, xbZ, u9.heap.size, ?_, Reg.On.set (Reg.On.set hQ.out hgs _) hgs _, blk_set (blk_set kZ.out 0 _) 1 _, hgs, ((hU.out.set (g := u9.heap.size) (by omega)).set (by omega)).n.lower hl.1⟩
          try simp only [Act.put, List.setIfInBounds_toArray, List.set_cons_zero, List.set_cons_succ]
          try simp
      · have hQ := hQ
        intro u13 hS
        go_wp2
        refine ⟨hS.trans (On.alloc (On.refl _) _), ?_⟩
        have hgg := Aside0.mk (show w18.heap.size ≤ u13.heap.size from Nat.le_trans hQ.out.size hS.size)
        replace hD0 := Aside0.mk (hD0.out.on (hS.trans (On.alloc (On.refl _) (.cells #[.slice none 0 0, .slice none 0 0] 27))))
        replace hQ := Aside0.mk (hQ.out.trans (hS.trans (On.alloc (On.refl _) (.cells #[.slice none 0 0, .slice none 0 0] 27))))
        have kZ := Aside0.mk (loc_new u13 #[.slice none 0 0, .slice none 0 0] 27)
        clear hS
        refine Reg.tLeaf ?_
        refine stepM (fun u14 hS => ?_)
        replace hQ := Aside0.mk (hQ.out.trans hS)
        replace kZ := Aside0.mk (blk_below kZ.out hS)
        replace hD0 := Aside0.mk (hD0.out.on hS)
        refine goesF 98 Tryz.func21 ((toI_calls _ _ rs1 fs1 (hA1.on (oA1.out.trans hQ.out)) hz1.out).mono ?_)
        rintro e u15 ⟨v1, rfl, hO0, hb1⟩
        have hD1 := Aside0.mk hO0.b
        clear hO0
        obtain ⟨uaD1, laD1, xaD1, ubD1, lbD1, xbD1, rfl⟩ := (hD1.out.read).shape
        refine ⟨_, rfl, hS.trans hb1, ?_⟩
        simp only [Act.put, List.setIfInBounds_toArray, List.set_cons_zero, List.set_cons_succ]
        replace hD0 := Aside0.mk (hD0.out.on hb1)
        replace hQ := Aside0.mk (hQ.out.trans hb1)
        replace kZ := Aside0.mk (blk_below kZ.out hb1)
        clear hb1 hS
        refine stepM (fun u16 hS => ?_)
        replace hQ := Aside0.mk (hQ.out.trans hS)
        replace kZ := Aside0.mk (blk_below kZ.out hS)
        replace hD0 := Aside0.mk (hD0.out.on hS)
        replace hD1 := Aside0.mk (hD1.out.on hS)
        refine goesF 99 Tryz.func31 ((iAppIV _ _ _ ns0 vs0 rs1 fs1 hD0.out.read hD1.out.read).mono ?_)
        rintro e u17 ⟨v0, rfl, v1, rfl, hO0, hb1⟩
        have hU := Aside0.mk hO0.b
        clear hO0
        obtain ⟨uaZ, laZ, xaZ, ubZ, lbZ, xbZ, rfl⟩ := (hU.out.read).shape
        have hlo := Aside0.mk (show w18.heap.size ≤ u16.heap.size ∧ u16.heap.size ≤ u17.heap.size from ⟨hQ.out.size, hb1.size⟩)
        have hgl := Aside0.mk (show _ from blk_lt kZ.out)
        refine ⟨_, rfl, hS.trans hb1, ?_⟩
        simp only [Act.put, List.setIfInBounds_toArray, List.set_cons_zero, List.set_cons_succ]
        replace hQ := Aside0.mk (hQ.out.trans hb1)
        replace kZ := Aside0.mk (blk_below kZ.out hb1)
        clear hb1 hS
        repeat first | refine sP ?_ | refine sS ?_ | refine sA ?_ | refine sL ?_ | refine sQ ?_ | refine sO ?_
        refine Reg.tail_ fun u18 hS => ?_
        replace hQ := Aside0.mk (hQ.out.trans hS)
        replace kZ := Aside0.mk (blk_below kZ.out hS)
        replace hU := Aside0.mk (hU.out.on hS)
        have cZ := blk_cell kZ.out
        have fZ := blk_frozen kZ.out
        clear hS
        go_wp2
        have hgs := hgg.out
        have hl := hlo.out
        have hlt := hgl.out
        refine ⟨.agg #[.slice uaD0 laD0 xaD0, .slice ubD0 lbD0 xbD0], .agg #[.slice uaD1 laD1 xaD1, .slice ubD1 lbD1 xbD1], uaZ, laZ, xaZ, ubZ, lbZ, xbZ, u13.heap.size, ?_, Reg.On.set (Reg.On.set hQ.out hgs _) hgs _, blk_set (blk_set kZ.out 0 _) 1 _, hgs, ((hU.out.set (g := u13.heap.size) (by omega)).set (by omega)).n.lower hl.1⟩
        try simp only [Act.put, List.setIfInBounds_toArray, List.set_cons_zero, List.set_cons_succ]
        try simp
    · have hQ := hQ
      intro u19 hS
      go_wp2
      refine ⟨hS.trans (On.alloc (On.refl _) _), ?_⟩
      have hgg := Aside0.mk (show w18.heap.size ≤ u19.heap.size from Nat.le_trans hQ.out.size hS.size)
      replace hQ := Aside0.mk (hQ.out.trans (hS.trans (On.alloc (On.refl _) (.cells #[.slice none 0 0, .slice none 0 0] 27))))
      have kZ := Aside0.mk (loc_new u19 #[.slice none 0 0, .slice none 0 0] 27)
      clear hS
      refine Reg.tLeaf ?_
      refine stepM (fun u20 hS => ?_)
      replace hQ := Aside0.mk (hQ.out.trans hS)
      replace kZ := Aside0.mk (blk_below kZ.out hS)
      refine goesF 96 Tryz.func30 ((toSp_calls _ _ ns0 vs0 (hA0.on (oA0.out.trans hQ.out)) hz0.out).mono ?_)
      rintro e u21 ⟨v1, rfl, hO0, hb1⟩
      have hD0 := Aside0.mk hO0.b
      clear hO0
      obtain ⟨uaD0, laD0, xaD0, ubD0, lbD0, xbD0, rfl⟩ := (hD0.out.read).shape
      refine ⟨_, rfl, hS.trans hb1, ?_⟩
      simp only [Act.put, List.setIfInBounds_toArray, List.set_cons_zero, List.set_cons_succ]
      replace hQ := Aside0.mk (hQ.out.trans hb1)
      replace kZ := Aside0.mk (blk_below kZ.out hb1)
      clear hb1 hS
      refine stepM (fun u22 hS => ?_)
      replace hQ := Aside0.mk (hQ.out.trans hS)
      replace kZ := Aside0.mk (blk_below kZ.out hS)
      replace hD0 := Aside0.mk (hD0.out.on hS)
      refine goesF 98 Tryz.func21 ((toI_calls _ _ rs1 fs1 (hA1.on (oA1.out.trans hQ.out)) hz1.out).mono ?_)
      rintro e u23 ⟨v1, rfl, hO0, hb1⟩
      have hD1 := Aside0.mk hO0.b
      clear hO0
      obtain ⟨uaD1, laD1, xaD1, ubD1, lbD1, xbD1, rfl⟩ := (hD1.out.read).shape
      refine ⟨_, rfl, hS.trans hb1, ?_⟩
      simp only [Act.put, List.setIfInBounds_toArray, List.set_cons_zero, List.set_cons_succ]
      replace hD0 := Aside0.mk (hD0.out.on hb1)
      replace hQ := Aside0.mk (hQ.out.trans hb1)
      replace kZ := Aside0.mk (blk_below kZ.out hb1)
      clear hb1 hS
      refine stepM (fun u24 hS => ?_)
      replace hQ := Aside0.mk (hQ.out.trans hS)
      replace kZ := Aside0.mk (blk_below kZ.out hS)
      replace hD0 := Aside0.mk (hD0.out.on hS)
      replace hD1 := Aside0.mk (hD1.out.on hS)
      refine goesF 99 Tryz.func31 ((iAppIV _ _ _ ns0 vs0 rs1 fs1 hD0.out.read hD1.out.read).mono ?_)
      rintro e u25 ⟨v0, rfl, v1, rfl, hO0, hb1⟩
      have hU := Aside0.mk hO0.b
      clear hO0
      obtain ⟨uaZ, laZ, xaZ, ubZ, lbZ, xbZ, rfl⟩ := (hU.out.read).shape
      have hlo := Aside0.mk (show w18.heap.size ≤ u24.heap.size ∧ u24.heap.size ≤ u25.heap.size from ⟨hQ.out.size, hb1.size⟩)
      have hgl := Aside0.mk (show _ from blk_lt kZ.out)
      refine ⟨_, rfl, hS.trans hb1, ?_⟩
      simp only [Act.put, List.setIfInBounds_toArray, List.set_cons_zero, List.set_cons_succ]
      replace hQ := Aside0.mk (hQ.out.trans hb1)
      replace kZ := Aside0.mk (blk_below kZ.out hb1)
      clear hb1 hS
      repeat first | refine sP ?_ | refine sS ?_ | refine sA ?_ | refine sL ?_ | refine sQ ?_ | refine sO ?_
      refine Reg.tail_ fun u26 hS => ?_
      replace hQ := Aside0.mk (hQ.out.trans hS)
      replace kZ := Aside0.mk (blk_below kZ.out hS)
      replace hU := Aside0.mk (hU.out.on hS)
      have cZ := blk_cell kZ.out
      have fZ := blk_frozen kZ.out
      clear hS
      go_wp2
      have hgs := hgg.out
      have hl := hlo.out
      have hlt := hgl.out
      refine ⟨.agg #[.slice uaD0 laD0 xaD0, .slice ubD0 lbD0 xbD0], .agg #[.slice uaD1 laD1 xaD1, .slice ubD1 lbD1 xbD1], uaZ, laZ, xaZ, ubZ, lbZ, xbZ, u19.heap.size, ?_, Reg.On.set (Reg.On.set hQ.out hgs _) hgs _, blk_set (blk_set kZ.out 0 _) 1 _, hgs, ((hU.out.set (g := u19.heap.size) (by omega)).set (by omega)).n.lower hl.1⟩
      try simp only [Act.put, List.setIfInBounds_toArray, List.set_cons_zero, List.set_cons_succ]
      try simp
  rintro a' w19 ⟨D0, D1, uaH, laH, xaH, ubH, lbH, xbH, gH, rfl, hb1, hk1, hg1, hO0⟩
  simp only [Act.put, List.setIfInBounds_toArray, List.set_cons_zero, List.set_cons_succ]
  replace hW := Aside0.mk (hW.out.trans hb1)
  replace kp0 := Aside0.mk (blk_below kp0.out hb1)
  replace kp1 := Aside0.mk (blk_below kp1.out hb1)
  replace kbR := Aside0.mk (blk_below kbR.out hb1)
  replace kx0 := Aside0.mk (blk_below kx0.out hb1)
  replace kx1 := Aside0.mk (blk_below kx1.out hb1)
  replace kbG := Aside0.mk (blk_below kbG.out hb1)
  replace cp0 := blk_cell kp0.out
  replace cp1 := blk_cell kp1.out
  replace cbR := blk_cell kbR.out
  replace cx0 := blk_cell kx0.out
  replace cx1 := blk_cell kx1.out
  replace cbG := blk_cell kbG.out
  replace oA0 := Aside0.mk (oA0.out.trans hb1)
  replace oA1 := Aside0.mk (oA1.out.trans hb1)
  replace oR := Aside0.mk (oR.out.trans hb1)
  replace hX0 := Aside0.mk (hX0.out.on hb1)
  replace hX1 := Aside0.mk (hX1.out.on hb1)
  replace hG := Aside0.mk (hG.out.on hb1)
  have n30 := Aside0.mk (show w18.heap.size ≤ w19.heap.size from hb1.size)
  have kbH := Aside0.mk hk1
  have cbH := blk_cell hk1
  have hH := Aside0.mk hO0.read
  have oH := Aside0.mk (On.refl w19)
  have n31 := Aside0.mk (show w18.heap.size ≤ gH ∧ gH < w19.heap.size from ⟨hg1, blk_lt hk1⟩)
  clear hb1 hk1 hg1 hO0
  go_wp2_with (first
    | (refine gate 113 ?_)
    | (go_at_call 23; refine (eqI_calls _ _ _ (appR rs1 fs1 ns0 vs0) (appI rs1 fs1 ns0 vs0) (hH.out.on oH.out) (hR.out.on oR.out)).mono ?_; rintro e w20 ⟨rfl, hb1⟩; replace hW := Aside0.mk (hW.out.trans hb1); replace kp0 := Aside0.mk (blk_below kp0.out hb1); replace kp1 := Aside0.mk (blk_below kp1.out hb1); replace kbR := Aside0.mk (blk_below kbR.out hb1); replace kx0 := Aside0.mk (blk_below kx0.out hb1); replace kx1 := Aside0.mk (blk_below kx1.out hb1); replace kbG := Aside0.mk (blk_below kbG.out hb1); replace kbH := Aside0.mk (blk_below kbH.out hb1); replace cp0 := blk_cell kp0.out; replace cp1 := blk_cell kp1.out; replace cbR := blk_cell kbR.out; replace cx0 := blk_cell kx0.out; replace cx1 := blk_cell kx1.out; replace cbG := blk_cell kbG.out; replace cbH := blk_cell kbH.out; replace oA0 := Aside0.mk (oA0.out.trans hb1); replace oA1 := Aside0.mk (oA1.out.trans hb1); replace oR := Aside0.mk (oR.out.trans hb1); replace oH := Aside0.mk (oH.out.trans hb1); replace hX0 := Aside0.mk (hX0.out.on hb1); replace hX1 := Aside0.mk (hX1.out.on hb1); replace hG := Aside0.mk (hG.out.on hb1); have n32 := Aside0.mk (show w19.heap.size ≤ w20.heap.size from hb1.size); clear hb1))
  refine ⟨goesF 113 Tryz.func27 ((hdI_calls _ _ (appR rs1 fs1 ns0 vs0) (appI rs1 fs1 ns0 vs0) 1 hG.out.read (by omega) (by have := hmkG.out; have := hz0.out; have := hmk0.out; have := hz1.out; have := hmk1.out; omega)).mono ?_)⟩
  rintro e w21 ⟨rfl, hb1⟩
  refine ⟨_, rfl, ?_⟩
  replace hW := Aside0.mk (hW.out.trans hb1)
  replace kp0 := Aside0.mk (blk_below kp0.out hb1)
  replace kp1 := Aside0.mk (blk_below kp1.out hb1)
  replace kbR := Aside0.mk (blk_below kbR.out hb1)
  replace kx0 := Aside0.mk (blk_below kx0.out hb1)
  replace kx1 := Aside0.mk (blk_below kx1.out hb1)
  replace kbG := Aside0.mk (blk_below kbG.out hb1)
  replace kbH := Aside0.mk (blk_below kbH.out hb1)
  replace cp0 := blk_cell kp0.out
  replace cp1 := blk_cell kp1.out
  replace cbR := blk_cell kbR.out
  replace cx0 := blk_cell kx0.out
  replace cx1 := blk_cell kx1.out
  replace cbG := blk_cell kbG.out
  replace cbH := blk_cell kbH.out
  replace oA0 := Aside0.mk (oA0.out.trans hb1)
  replace oA1 := Aside0.mk (oA1.out.trans hb1)
  replace oR := Aside0.mk (oR.out.trans hb1)
  replace oH := Aside0.mk (oH.out.trans hb1)
  replace hX0 := Aside0.mk (hX0.out.on hb1)
  replace hX1 := Aside0.mk (hX1.out.on hb1)
  replace hG := Aside0.mk (hG.out.on hb1)
  have n33 := Aside0.mk (show w20.heap.size ≤ w21.heap.size from hb1.size)
  clear hb1
  go_wp2
  go_ret
  exact ⟨rfl, hW.out⟩
end Go.Proofs.YtngjhblbpapjeaaGreat.H
