/- Walks and plain laws for the law FnInstanceFormat, part 7 of 7: the texts HQFnInstanceFormat in one. No condition. -/
import Derived.Test.YtgemaohdlibboaaGreatDoorZFnInstanceFormat6
/- Walks: the law FnInstanceFormat. No condition. -/
namespace Go.Proofs.YtgemaohdlibboaaGreatDoor.H
open Go Go.RowKit Go.Proofs.YtgemaohdlibboaaGreatDoorW.PrintWords Go.Proofs.YtgemaohdlibboaaGreatDoorW.PrintLast
open Go.Proofs.YtgemaohdlibboaaGreatDoor.Reg (On on_draw)
set_option maxHeartbeats 8000000
set_option maxRecDepth 100000
set_option linter.unusedVariables false
set_option linter.unusedSimpArgs false

theorem seqV (w : World) (v u : Value) (rs : List Rel) (fs : List Fct) (qs : List Rel) (gs : List Fct) (h : RIn w v rs fs) (k : RIn w u qs gs) : Calls Tryz.prog 20 #[v, u] w fun e w' => e = .returned (.bool (decide (rs = qs) && decide (fs = gs))) ∧ On w w' := by
  obtain ⟨A0, c0, A1, c1, rfl, h0, h1⟩ := h.out
  obtain ⟨A2, c2, A3, c3, rfl, h2, h3⟩ := k.out
  exact EqualInstances_calls w A0 c0 A1 c1 rs fs h0 h1 A2 c2 A3 c3 qs gs h2 h3
theorem ieqV (w : World) (v u : Value) (rs : List Rel) (fs : List Fct) (qs : List Rel) (gs : List Fct) (h : RIn w v rs fs) (k : RIn w u qs gs) : Calls Tryz.prog 21 #[v, u] w fun e w' => e = .returned (.bool (decide (rs = qs) && decide (fs = gs))) ∧ On w w' := by
  obtain ⟨A0, c0, A1, c1, rfl, h0, h1⟩ := h.out
  obtain ⟨A2, c2, A3, c3, rfl, h2, h3⟩ := k.out
  exact iEqualInstances_calls w A0 c0 A1 c1 rs fs h0 h1 A2 c2 A3 c3 qs gs h2 h3
theorem svalV (w : World) (v : Value) (rs : List Rel) (fs : List Fct) (h : RIn w v rs fs) : Calls Tryz.prog 18 #[v] w fun e w' => e = .returned (.bool (okInst rs fs)) ∧ On w w' := by
  obtain ⟨A0, c0, A1, c1, rfl, h0, h1⟩ := h.out
  exact IsValidInstance_calls w A0 c0 A1 c1 rs fs h0 h1
theorem ivalV (w : World) (v : Value) (rs : List Rel) (fs : List Fct) (h : RIn w v rs fs) : Calls Tryz.prog 19 #[v] w fun e w' => e = .returned (.bool (okInst rs fs)) ∧ On w w' := by
  obtain ⟨A0, c0, A1, c1, rfl, h0, h1⟩ := h.out
  exact iIsValidInstance_calls w A0 c0 A1 c1 rs fs h0 h1
theorem ifmtV (w : World) (v : Value) (rs : List Rel) (fs : List Fct) (h : RIn w v rs fs) : Calls Tryz.prog 15 #[v] w fun e w' => e = .returned (.string (strB (fmtI rs fs))) ∧ On w w' := by
  obtain ⟨A0, c0, A1, c1, rfl, h0, h1⟩ := h.out
  exact iFormatInstance_calls w A0 c0 A1 c1 rs fs h0 h1
theorem parI_of (rs : List Rel) (fs : List Fct) : (okInst rs fs = true ∧ parI (fmtI rs fs) = ((rs, fs), true)) ∨ (okInst rs fs = false ∧ parI (fmtI rs fs) = (([], []), false)) := by
  cases h : okInst rs fs with
  | true => exact .inl ⟨rfl, parI_fmt h⟩
  | false =>
    refine .inr ⟨rfl, ?_⟩
    have e : fmtI rs fs = [] := by unfold fmtI; rw [h]; rfl
    rw [e]
    refine pi_F (.inr (.inl ?_))
    rw [canI_nil, (fmtI_ok okInst_nil).1]
    simp
theorem parI_back (s : List UInt8) (h : (parI s).2 = true) : fmtI (parI s).1.1 (parI s).1.2 = s := by
  by_cases e : fmtI (canI s).1 (canI s).2 = s
  · rw [pi_T e]; exact e
  · rw [pi_F (.inr (.inl e))] at h; cases h
theorem beq_bool2 (b : Bool) : (b == b) = true := by cases b <;> rfl
theorem FnInstanceFormat_calls (w : World) (A c) (xs : List Int) (hc : xs.length ≤ c) (hK : kBytes.C w A xs.length xs) (hg : ∀ x ∈ xs, 0 ≤ x ∧ x ≤ 255) : Calls Tryz.prog 4 #[.slice A xs.length c] w fun e w' => e = .returned (.bool true) ∧ On w w' := by
  have hK' := Aside0.mk hK
  have hc' := Aside0.mk hc
  clear hK hc hg
  by_cases hbig : 1048576 < (xs.length : Int)
  · have hbb := Aside0.mk (decide_eq_true hbig)
    clear hbig
    go_enter Tryz.func4, Tryz.ntmps4
    go_wp2_with (go_at_call 13; refine (big_calls w A xs.length c).mono ?_; rintro e w1 ⟨rfl, hb1⟩; rw [hbb.out])
    go_ret
    exact ⟨rfl, hb1⟩
  · have hbb := Aside0.mk (decide_eq_false hbig)
    clear hbig
    go_enter Tryz.func4, Tryz.ntmps4
    go_wp2_with (first | (go_at_call 13; refine (big_calls w A xs.length c).mono ?_; rintro e w1 ⟨rfl, hb1⟩; rw [hbb.out]) | (go_at_call 14; refine Stop.out ?_))
    refine ⟨(DrawFormatInstance_calls _ A c xs hc'.out (Kd.C_below hK'.out hb1)).mono ?_⟩
    rintro e w2 ⟨v, rfl, rs, fs, hR, hb2⟩
    have hRx := Aside0.mk hR
    have hW := Aside0.mk (hb1.trans hb2)
    obtain ⟨X0, nX0, cX0, X1, nX1, cX1, rfl⟩ := hR.shape
    clear hR hb1 hb2
    have hfill := alloc_fill w2
    have kk := Aside0.mk (loc_new w2 #[.slice X0 nX0 cX0, .slice X1 nX1 cX1] 25)
    have hbb := Aside0.mk (On.alloc (On.refl w2) (.cells #[.slice X0 nX0 cX0, .slice X1 nX1 cX1] 25 (0, 0)))
    have ckk := blk_cell kk.out
    go_wp2_with (go_at_call 15; refine Stop.out ?_)
    clear ckk hfill
    obtain ⟨w2x, hx⟩ : ∃ x, w2.alloc (.cells #[.slice X0 nX0 cX0, .slice X1 nX1 cX1] 25 (0, 0)) = x := ⟨_, rfl⟩
    rw [hx] at kk hbb ⊢
    clear hx
    replace hW := Aside0.mk (hW.out.trans hbb.out)
    replace hRx := Aside0.mk (hRx.out.on hbb.out)
    have kX := kk
    clear kk hbb
    refine ⟨(ifmtV _ _ rs fs hRx.out).mono ?_⟩
    rintro e w3 ⟨rfl, hb1⟩
    replace hW := Aside0.mk (hW.out.trans hb1)
    replace hRx := Aside0.mk (hRx.out.on hb1)
    replace kX := Aside0.mk (blk_below kX.out hb1)
    clear hb1
    have hpi := Aside0.mk (iParseInstance_calls w3 (fmtI rs fs) (by have := fmtI_len rs fs; omega))
    have hof := Aside0.mk (parI_of rs fs)
    obtain ⟨ok, hok⟩ : ∃ b, okInst rs fs = b := ⟨_, rfl⟩
    obtain ⟨ps, hps⟩ : ∃ p, parI (fmtI rs fs) = p := ⟨_, rfl⟩
    rw [hps] at hpi hof
    rw [hok] at hof
    have hok' := Aside0.mk hok
    obtain ⟨⟨yr, yf⟩, yb⟩ := ps
    obtain ⟨tx, htx⟩ : ∃ t, fmtI rs fs = t := ⟨_, rfl⟩
    rw [htx] at hpi ⊢
    clear hps hok htx
    go_wp2_with (go_at_call 9; refine Stop.out ?_)
    refine ⟨(hpi.out).mono ?_⟩
    rintro e w4 ⟨_, rfl, v1, rfl, hO, hb1⟩
    have hRy := Aside0.mk (show RIn w4 v1 yr yf from hO.read)
    obtain ⟨Y0, nY0, cY0, Y1, nY1, cY1, rfl⟩ := hRy.out.shape
    replace hW := Aside0.mk (hW.out.trans hb1)
    replace hRx := Aside0.mk (hRx.out.on hb1)
    replace kX := Aside0.mk (blk_below kX.out hb1)
    clear hb1 hO hpi
    have hfill := alloc_fill w4
    have kk := Aside0.mk (loc_new w4 #[.slice Y0 nY0 cY0, .slice Y1 nY1 cY1] 25)
    have hbb := Aside0.mk (On.alloc (On.refl w4) (.cells #[.slice Y0 nY0 cY0, .slice Y1 nY1 cY1] 25 (0, 0)))
    have ckk := blk_cell kk.out
    go_wp2_with (go_at_call 16; refine Stop.out ?_)
    clear ckk hfill
    obtain ⟨w4x, hx⟩ : ∃ x, w4.alloc (.cells #[.slice Y0 nY0 cY0, .slice Y1 nY1 cY1] 25 (0, 0)) = x := ⟨_, rfl⟩
    rw [hx] at kk hbb ⊢
    clear hx
    replace hW := Aside0.mk (hW.out.trans hbb.out)
    replace hRx := Aside0.mk (hRx.out.on hbb.out)
    replace kX := Aside0.mk (blk_below kX.out hbb.out)
    replace hRy := Aside0.mk (hRy.out.on hbb.out)
    have kY := kk
    clear kk hbb
    refine ⟨(DrawParseInstance_calls _ A c xs hc'.out (Kd.C_below hK'.out hW.out)).mono ?_⟩
    rintro e w5 ⟨v, rfl, s, rfl, hsl, hb1⟩
    have hsl' := Aside0.mk hsl
    have hbk := Aside0.mk (parI_back s)
    have hpi := Aside0.mk (fun W => iParseInstance_calls W s (by omega))
    have hps := Aside0.mk (fun W => sParseInstance_calls W s (by omega))
    obtain ⟨pz, hpz⟩ : ∃ p, parI s = p := ⟨_, rfl⟩
    rw [hpz] at hbk hpi hps
    clear hpz hsl
    obtain ⟨⟨zr, zf⟩, zb⟩ := pz
    simp only at hbk
    replace hW := Aside0.mk (hW.out.trans hb1)
    replace hRx := Aside0.mk (hRx.out.on hb1)
    replace kX := Aside0.mk (blk_below kX.out hb1)
    replace hRy := Aside0.mk (hRy.out.on hb1)
    replace kY := Aside0.mk (blk_below kY.out hb1)
    clear hb1
    go_wp2_with (go_at_call 9; refine Stop.out ?_)
    refine ⟨(hpi.out _).mono ?_⟩
    rintro e w6 ⟨_, rfl, v1, rfl, hO, hb1⟩
    have hRz := Aside0.mk (show RIn w6 v1 zr zf from hO.read)
    obtain ⟨Z0, nZ0, cZ0, Z1, nZ1, cZ1, rfl⟩ := hRz.out.shape
    replace hW := Aside0.mk (hW.out.trans hb1)
    replace hRx := Aside0.mk (hRx.out.on hb1)
    replace kX := Aside0.mk (blk_below kX.out hb1)
    replace hRy := Aside0.mk (hRy.out.on hb1)
    replace kY := Aside0.mk (blk_below kY.out hb1)
    clear hb1 hO
    have hfill := alloc_fill w6
    have kk := Aside0.mk (loc_new w6 #[.slice Z0 nZ0 cZ0, .slice Z1 nZ1 cZ1] 25)
    have hbb := Aside0.mk (On.alloc (On.refl w6) (.cells #[.slice Z0 nZ0 cZ0, .slice Z1 nZ1 cZ1] 25 (0, 0)))
    have ckk := blk_cell kk.out
    go_wp2_with (go_at_call 8; refine Stop.out ?_)
    clear ckk hfill
    obtain ⟨w6x, hx⟩ : ∃ x, w6.alloc (.cells #[.slice Z0 nZ0 cZ0, .slice Z1 nZ1 cZ1] 25 (0, 0)) = x := ⟨_, rfl⟩
    rw [hx] at kk hbb ⊢
    clear hx
    replace hW := Aside0.mk (hW.out.trans hbb.out)
    replace hRx := Aside0.mk (hRx.out.on hbb.out)
    replace kX := Aside0.mk (blk_below kX.out hbb.out)
    replace hRy := Aside0.mk (hRy.out.on hbb.out)
    replace kY := Aside0.mk (blk_below kY.out hbb.out)
    replace hRz := Aside0.mk (hRz.out.on hbb.out)
    have kZ := kk
    clear kk hbb
    refine ⟨(hps.out _).mono ?_⟩
    rintro e w7 ⟨_, rfl, v1, rfl, hO, hb1⟩
    have hRq := Aside0.mk (show RIn w7 v1 zr zf from hO.read)
    obtain ⟨Q0, nQ0, cQ0, Q1, nQ1, cQ1, rfl⟩ := hRq.out.shape
    replace hW := Aside0.mk (hW.out.trans hb1)
    replace hRx := Aside0.mk (hRx.out.on hb1)
    replace kX := Aside0.mk (blk_below kX.out hb1)
    replace hRy := Aside0.mk (hRy.out.on hb1)
    replace kY := Aside0.mk (blk_below kY.out hb1)
    replace hRz := Aside0.mk (hRz.out.on hb1)
    replace kZ := Aside0.mk (blk_below kZ.out hb1)
    clear hb1 hO hpi hps
    have hfill := alloc_fill w7
    have kk := Aside0.mk (loc_new w7 #[.slice Q0 nQ0 cQ0, .slice Q1 nQ1 cQ1] 25)
    have hbb := Aside0.mk (On.alloc (On.refl w7) (.cells #[.slice Q0 nQ0 cQ0, .slice Q1 nQ1 cQ1] 25 (0, 0)))
    have ckk := blk_cell kk.out
    go_wp2_with (go_at_call 17; refine Stop.out ?_)
    clear ckk hfill
    obtain ⟨w7x, hx⟩ : ∃ x, w7.alloc (.cells #[.slice Q0 nQ0 cQ0, .slice Q1 nQ1 cQ1] 25 (0, 0)) = x := ⟨_, rfl⟩
    rw [hx] at kk hbb ⊢
    clear hx
    replace hW := Aside0.mk (hW.out.trans hbb.out)
    replace hRx := Aside0.mk (hRx.out.on hbb.out)
    replace kX := Aside0.mk (blk_below kX.out hbb.out)
    replace hRy := Aside0.mk (hRy.out.on hbb.out)
    replace kY := Aside0.mk (blk_below kY.out hbb.out)
    replace hRz := Aside0.mk (hRz.out.on hbb.out)
    replace kZ := Aside0.mk (blk_below kZ.out hbb.out)
    have kQ := kk
    clear kk hbb
    refine ⟨(DrawEqualInstances_calls _ A c xs hc'.out (Kd.C_below hK'.out hW.out)).mono ?_⟩
    rintro e w8 ⟨_, rfl, v1, v2, rfl, hV, hb1⟩
    obtain ⟨ar, af, br, bf, hU1, hU2⟩ := hV.out
    have hRa := Aside0.mk hU1
    have hRb := Aside0.mk hU2
    obtain ⟨E0, nE0, cE0, E1, nE1, cE1, rfl⟩ := hU1.shape
    obtain ⟨F0, nF0, cF0, F1, nF1, cF1, rfl⟩ := hU2.shape
    replace hW := Aside0.mk (hW.out.trans hb1)
    replace hRx := Aside0.mk (hRx.out.on hb1)
    replace kX := Aside0.mk (blk_below kX.out hb1)
    replace hRy := Aside0.mk (hRy.out.on hb1)
    replace kY := Aside0.mk (blk_below kY.out hb1)
    replace hRz := Aside0.mk (hRz.out.on hb1)
    replace kZ := Aside0.mk (blk_below kZ.out hb1)
    replace kQ := Aside0.mk (blk_below kQ.out hb1)
    clear hb1 hV hU1 hU2
    have hL := Aside0.mk (loc2 w8 #[.slice none 0 0, .slice none 0 0] #[.slice none 0 0, .slice none 0 0] 25 25)
    have hd0 := blk_cell hL.out.1
    have hd1 := blk_cell hL.out.2.1
    have hf0 := blk_frozen hL.out.1
    have hf1 := blk_frozen hL.out.2.1
    go_wp2
    clear hd0 hd1 hf0 hf1 hL
    obtain ⟨W9, hW9⟩ : ∃ W9, (w8.alloc (.cells #[.slice E0 nE0 cE0, .slice E1 nE1 cE1] 25 (0, 0))).alloc (.cells #[.slice F0 nF0 cF0, .slice F1 nF1 cF1] 25 (0, 0)) = W9 := ⟨_, rfl⟩
    have hS9 := Aside0.mk (show On w8 W9 from hW9 ▸ On.alloc (On.alloc (On.refl _) _) _)
    have hL9 := Aside0.mk (show Loc W9 [(w8.heap.size, #[.slice E0 nE0 cE0, .slice E1 nE1 cE1], 25), (w8.heap.size + 1, #[.slice F0 nF0 cF0, .slice F1 nF1 cF1], 25)] from hW9 ▸ loc2 w8 _ _ _ _)
    rw [hW9]
    clear hW9
    replace hW := Aside0.mk (hW.out.trans hS9.out)
    replace hRx := Aside0.mk (hRx.out.on hS9.out)
    replace kX := Aside0.mk (blk_below kX.out hS9.out)
    replace hRy := Aside0.mk (hRy.out.on hS9.out)
    replace kY := Aside0.mk (blk_below kY.out hS9.out)
    replace hRz := Aside0.mk (hRz.out.on hS9.out)
    replace kZ := Aside0.mk (blk_below kZ.out hS9.out)
    replace kQ := Aside0.mk (blk_below kQ.out hS9.out)
    replace hRa := Aside0.mk (hRa.out.on hS9.out)
    replace hRb := Aside0.mk (hRb.out.on hS9.out)
    have ck0 := blk_cell kX.out
    have ck1 := blk_cell kY.out
    have ck2 := blk_cell kZ.out
    have ck3 := blk_cell hL9.out.1
    have ck4 := blk_cell hL9.out.2.1
    obtain ⟨eq, heq⟩ : ∃ b, (decide (ar = br) && decide (af = bf)) = b := ⟨_, rfl⟩
    have he1 := Aside0.mk (fun W v u h k => ieqV W v u ar af br bf h k)
    have he2 := Aside0.mk (fun W v u h k => seqV W v u ar af br bf h k)
    rw [heq] at he1 he2
    clear heq
    have hv1 := Aside0.mk (fun W v h => svalV W v rs fs h)
    have hv2 := Aside0.mk (fun W v h => ivalV W v rs fs h)
    rw [hok'.out] at hv1 hv2
    have hq1 := beq_bool2 eq
    have hq2 := beq_bool2 zb
    have hq3 := beq_bool2 ok
    rcases hof.out with ⟨rfl, hyy⟩ | ⟨rfl, hyy⟩
    · obtain ⟨⟨rfl, rfl⟩, rfl⟩ : (yr = rs ∧ yf = fs) ∧ yb = true := by simpa using hyy
      clear hyy hof
      cases zb with
      | true =>
        have hzf := hbk.out rfl
        have hbm : ((strB (fmtI zr zf)).toList == (strB s).toList) = true := by rw [str_beq]; simp [hzf]
        have hbo : ((strB (fmtI zr zf)).toList = (strB s).toList) = True := eq_true (beq_iff_eq.1 hbm)
        clear hzf
        go_wp2
        refine Reg.region [(0,.L),(1,.L),(2,.C),(3,.L),(4,.L),(5,.L),(6,.L),(7,.C),(8,.L),(9,.L),(10,.L),(11,.L),(12,.L),(13,.L),(14,.L),(15,.L),(16,.C),(17,.L),(18,.L),(19,.L),(20,.L),(21,.L),(22,.L),(23,.L),(24,.L),(25,.L),(26,.L),(27,.L),(28,.L),(29,.C),(30,.L),(31,.L),(32,.L),(33,.L),(34,.L),(35,.L),(36,.L),(37,.C),(38,.L),(39,.L),(40,.C),(41,.L),(42,.L)] [43] (by kernel_rfl) (by kernel_rfl) ?_
        repeat first | refine sP ?_ | refine sS ?_ | refine sA ?_ | refine sL ?_ | refine sQ ?_ | refine sO ?_
        refine callC (.bool true) Tryz.func18 (fun w' hS => ?_) ?_
        focus exact hv1.out w' _ (hRx.out.on hS)
        repeat first | refine sP ?_ | refine sS ?_ | refine sA ?_ | refine sL ?_ | refine sQ ?_ | refine sO ?_
        refine callC (.bool true) Tryz.func19 (fun w' hS => ?_) ?_
        focus exact hv2.out w' _ (hRx.out.on hS)
        repeat first | refine sP ?_ | refine sS ?_ | refine sA ?_ | refine sL ?_ | refine sQ ?_ | refine sO ?_
        refine callC (.bool true) Tryz.func20 (fun w' hS => ?_) ?_
        focus exact (seqV w' _ _ _ _ _ _ (hRy.out.on hS) (hRx.out.on hS)).mono fun e w'' h => ⟨by rw [h.1]; simp, h.2⟩
        repeat first | refine sP ?_ | refine sS ?_ | refine sA ?_ | refine sL ?_ | refine sQ ?_ | refine sO ?_
        refine callC (.string (strB (fmtI zr zf))) Tryz.func15 (fun w' hS => ?_) ?_
        focus exact ifmtV w' _ zr zf (hRz.out.on hS)
        repeat first | refine sP ?_ | refine sS ?_ | refine sA ?_ | refine sL ?_ | refine sQ ?_ | refine sO ?_
        refine callC (.bool eq) Tryz.func21 (fun w' hS => ?_) ?_
        focus exact he1.out w' _ _ (hRa.out.on hS) (hRb.out.on hS)
        repeat first | refine sP ?_ | refine sS ?_ | refine sA ?_ | refine sL ?_ | refine sQ ?_ | refine sO ?_
        refine callC (.bool eq) Tryz.func20 (fun w' hS => ?_) ?_
        focus exact he2.out w' _ _ (hRa.out.on hS) (hRb.out.on hS)
        repeat first | refine sP ?_ | refine sS ?_ | refine sA ?_ | refine sL ?_ | refine sQ ?_ | refine sO ?_
        refine Reg.tail_ fun wz hS => ?_
        have hWz := Aside0.mk (hW.out.trans hS)
        clear hS
        go_wp2
        go_ret
        exact ⟨rfl, hWz.out⟩
      | false =>
        go_wp2
        refine Reg.region [(0,.L),(1,.L),(2,.C),(3,.L),(4,.L),(5,.L),(6,.L),(7,.C),(8,.L),(9,.L),(10,.L),(11,.L),(12,.L),(13,.L),(14,.L),(15,.L),(16,.C),(17,.L),(18,.L),(19,.L),(20,.L),(21,.L),(22,.L),(23,.L),(24,.L),(25,.L),(26,.L),(27,.L),(28,.L),(29,.C),(30,.L),(31,.L),(32,.L),(33,.L),(34,.L),(35,.L),(36,.L),(37,.C),(38,.L),(39,.L),(40,.C),(41,.L),(42,.L)] [43] (by kernel_rfl) (by kernel_rfl) ?_
        repeat first | refine sP ?_ | refine sS ?_ | refine sA ?_ | refine sL ?_ | refine sQ ?_ | refine sO ?_
        refine callC (.bool true) Tryz.func18 (fun w' hS => ?_) ?_
        focus exact hv1.out w' _ (hRx.out.on hS)
        repeat first | refine sP ?_ | refine sS ?_ | refine sA ?_ | refine sL ?_ | refine sQ ?_ | refine sO ?_
        refine callC (.bool true) Tryz.func19 (fun w' hS => ?_) ?_
        focus exact hv2.out w' _ (hRx.out.on hS)
        repeat first | refine sP ?_ | refine sS ?_ | refine sA ?_ | refine sL ?_ | refine sQ ?_ | refine sO ?_
        refine callC (.bool true) Tryz.func20 (fun w' hS => ?_) ?_
        focus exact (seqV w' _ _ _ _ _ _ (hRy.out.on hS) (hRx.out.on hS)).mono fun e w'' h => ⟨by rw [h.1]; simp, h.2⟩
        repeat first | refine sP ?_ | refine sS ?_ | refine sA ?_ | refine sL ?_ | refine sQ ?_ | refine sO ?_
        refine callC (.bool eq) Tryz.func21 (fun w' hS => ?_) ?_
        focus exact he1.out w' _ _ (hRa.out.on hS) (hRb.out.on hS)
        repeat first | refine sP ?_ | refine sS ?_ | refine sA ?_ | refine sL ?_ | refine sQ ?_ | refine sO ?_
        refine callC (.bool eq) Tryz.func20 (fun w' hS => ?_) ?_
        focus exact he2.out w' _ _ (hRa.out.on hS) (hRb.out.on hS)
        repeat first | refine sP ?_ | refine sS ?_ | refine sA ?_ | refine sL ?_ | refine sQ ?_ | refine sO ?_
        refine Reg.tail_ fun wz hS => ?_
        have hWz := Aside0.mk (hW.out.trans hS)
        clear hS
        go_wp2
        go_ret
        exact ⟨rfl, hWz.out⟩
    · obtain ⟨⟨rfl, rfl⟩, rfl⟩ : (yr = [] ∧ yf = []) ∧ yb = false := by simpa using hyy
      clear hyy hof
      cases zb with
      | true =>
        have hzf := hbk.out rfl
        have hbm : ((strB (fmtI zr zf)).toList == (strB s).toList) = true := by rw [str_beq]; simp [hzf]
        have hbo : ((strB (fmtI zr zf)).toList = (strB s).toList) = True := eq_true (beq_iff_eq.1 hbm)
        clear hzf
        go_wp2
        refine Reg.region [(0,.L),(1,.L),(2,.C),(3,.L),(4,.L),(5,.L),(6,.L),(7,.C),(8,.L),(9,.L),(10,.L),(11,.L),(12,.L),(13,.L),(14,.L),(15,.L),(16,.C),(17,.L),(18,.L),(19,.L),(20,.L),(21,.L),(22,.L),(23,.L),(24,.L),(25,.L),(26,.L),(27,.L),(28,.L),(29,.C),(30,.L),(31,.L),(32,.L),(33,.L),(34,.L),(35,.L),(36,.L),(37,.C),(38,.L),(39,.L),(40,.C),(41,.L),(42,.L)] [43] (by kernel_rfl) (by kernel_rfl) ?_
        repeat first | refine sP ?_ | refine sS ?_ | refine sA ?_ | refine sL ?_ | refine sQ ?_ | refine sO ?_
        refine callC (.bool false) Tryz.func18 (fun w' hS => ?_) ?_
        focus exact hv1.out w' _ (hRx.out.on hS)
        repeat first | refine sP ?_ | refine sS ?_ | refine sA ?_ | refine sL ?_ | refine sQ ?_ | refine sO ?_
        refine callC (.bool false) Tryz.func19 (fun w' hS => ?_) ?_
        focus exact hv2.out w' _ (hRx.out.on hS)
        repeat first | refine sP ?_ | refine sS ?_ | refine sA ?_ | refine sL ?_ | refine sQ ?_ | refine sO ?_
        refine callC (.string (strB (fmtI zr zf))) Tryz.func15 (fun w' hS => ?_) ?_
        focus exact ifmtV w' _ zr zf (hRz.out.on hS)
        repeat first | refine sP ?_ | refine sS ?_ | refine sA ?_ | refine sL ?_ | refine sQ ?_ | refine sO ?_
        refine callC (.bool eq) Tryz.func21 (fun w' hS => ?_) ?_
        focus exact he1.out w' _ _ (hRa.out.on hS) (hRb.out.on hS)
        repeat first | refine sP ?_ | refine sS ?_ | refine sA ?_ | refine sL ?_ | refine sQ ?_ | refine sO ?_
        refine callC (.bool eq) Tryz.func20 (fun w' hS => ?_) ?_
        focus exact he2.out w' _ _ (hRa.out.on hS) (hRb.out.on hS)
        repeat first | refine sP ?_ | refine sS ?_ | refine sA ?_ | refine sL ?_ | refine sQ ?_ | refine sO ?_
        refine Reg.tail_ fun wz hS => ?_
        have hWz := Aside0.mk (hW.out.trans hS)
        clear hS
        go_wp2
        go_ret
        exact ⟨rfl, hWz.out⟩
      | false =>
        go_wp2
        refine Reg.region [(0,.L),(1,.L),(2,.C),(3,.L),(4,.L),(5,.L),(6,.L),(7,.C),(8,.L),(9,.L),(10,.L),(11,.L),(12,.L),(13,.L),(14,.L),(15,.L),(16,.C),(17,.L),(18,.L),(19,.L),(20,.L),(21,.L),(22,.L),(23,.L),(24,.L),(25,.L),(26,.L),(27,.L),(28,.L),(29,.C),(30,.L),(31,.L),(32,.L),(33,.L),(34,.L),(35,.L),(36,.L),(37,.C),(38,.L),(39,.L),(40,.C),(41,.L),(42,.L)] [43] (by kernel_rfl) (by kernel_rfl) ?_
        repeat first | refine sP ?_ | refine sS ?_ | refine sA ?_ | refine sL ?_ | refine sQ ?_ | refine sO ?_
        refine callC (.bool false) Tryz.func18 (fun w' hS => ?_) ?_
        focus exact hv1.out w' _ (hRx.out.on hS)
        repeat first | refine sP ?_ | refine sS ?_ | refine sA ?_ | refine sL ?_ | refine sQ ?_ | refine sO ?_
        refine callC (.bool false) Tryz.func19 (fun w' hS => ?_) ?_
        focus exact hv2.out w' _ (hRx.out.on hS)
        repeat first | refine sP ?_ | refine sS ?_ | refine sA ?_ | refine sL ?_ | refine sQ ?_ | refine sO ?_
        refine callC (.bool eq) Tryz.func21 (fun w' hS => ?_) ?_
        focus exact he1.out w' _ _ (hRa.out.on hS) (hRb.out.on hS)
        repeat first | refine sP ?_ | refine sS ?_ | refine sA ?_ | refine sL ?_ | refine sQ ?_ | refine sO ?_
        refine callC (.bool eq) Tryz.func20 (fun w' hS => ?_) ?_
        focus exact he2.out w' _ _ (hRa.out.on hS) (hRb.out.on hS)
        repeat first | refine sP ?_ | refine sS ?_ | refine sA ?_ | refine sL ?_ | refine sQ ?_ | refine sO ?_
        refine Reg.tail_ fun wz hS => ?_
        have hWz := Aside0.mk (hW.out.trans hS)
        clear hS
        go_wp2
        go_ret
        exact ⟨rfl, hWz.out⟩
end Go.Proofs.YtgemaohdlibboaaGreatDoor.H
