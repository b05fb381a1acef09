/- Walks: homomorphisms told, by both sides. No condition. -/
import Derived.Test.YtngjhblbpapjeaaHS4
import Derived.Test.YtngjhblbpapjeaaHS6
import Derived.Test.YtngjhblbpapjeaaHK1
import Derived.Test.YtngjhblbpapjeaaHC5
import Derived.Test.YtngjhblbpapjeaaHB7
import Derived.Test.YtngjhblbpapjeaaHB8
import Derived.Test.YtngjhblbpapjeaaHB6
namespace Go.Proofs.Ytngjhblbpapjeaa.H
open Go Go.RowKit Go.Proofs.YtngjhblbpapjeaaW.PrintWords Go.Proofs.YtngjhblbpapjeaaW.PrintLast
open Go.Proofs.Ytngjhblbpapjeaa.Reg (On on_draw)
set_option maxHeartbeats 4000000
set_option maxRecDepth 100000
set_option linter.unusedVariables false
set_option linter.unusedSimpArgs false

theorem IsHom1_calls (w : World) (A c A0 c0 A1 c1 A2 c2) (f : Fct) (u : Value) (ns vs : List Int) (gs : List Fct) (b b2 : Nat) (h : Ints w A c f.2) (h0 : Ints w A0 c0 ns) (h1 : Ints w A1 c1 vs) (h2 : Fcts w A2 c2 gs)
    (hb0 : w.heap[b]? = some (.cells #[u, .slice A2 gs.length c2] 32 (0, 0))) (hb2 : w.heap[b2]? = some (.cells #[.slice A0 ns.length c0, .slice A1 vs.length c1] 45 (0, 0))) (hl : f.2.length ≤ 2000000) :
    Calls Try.prog 83 #[.agg #[.int .i64 f.1, .slice A f.2.length c], .pointer (some ⟨b, 0, none⟩), .pointer (some ⟨b2, 0, none⟩)] w fun e w' => e = .returned (.bool (!hasF gs (appF ns vs f))) ∧ On w w' := by
  have hb := Aside0.mk (On.alloc (On.refl w) (.cells #[.int .i64 f.1, .slice A f.2.length c] 55))
  have hc := blk_cell (blk_below hb0 hb.out)
  have hc2 := blk_cell (blk_below hb2 hb.out)
  have hcn := blk_cell (loc_new w #[.int .i64 f.1, .slice A f.2.length c] 55)
  clear hb0 hb2
  go_enter Try.func83, Try.ntmps83
  go_wp2
  refine Reg.region [(0,.L),(1,.L),(2,.L),(3,.L),(4,.N),(5,.C),(6,.L)] [7] (by kernel_rfl) (by kernel_rfl) ?_
  repeat first | refine sP ?_ | refine sS ?_ | refine sA ?_ | refine sL ?_ | refine sQ ?_ | refine sO ?_
  refine callN Try.func85 (fun w2 hS2 => ?_)
  refine (iApplyToFact_calls w2 A0 c0 A1 c1 A c ns vs f (h0.on (hb.out.trans hS2)) (h1.on (hb.out.trans hS2)) (h.on (hb.out.trans hS2)) hl).mono ?_
  rintro e w3 ⟨v, rfl, v3, rfl, hO3, hb3⟩
  obtain ⟨A3, c3, rfl, hI3⟩ := hO3.rd (map_inR (ns := ns) (vs := vs) h.2.2)
  refine ⟨_, rfl, hb3, fun a' ha => ?_⟩
  simp only [Act.put, List.setIfInBounds_toArray, List.set_cons_zero, List.set_cons_succ] at ha
  subst ha
  repeat first | refine sP ?_ | refine sS ?_ | refine sA ?_ | refine sL ?_ | refine sQ ?_ | refine sO ?_
  refine callC (.bool (hasF gs (appF ns vs f))) Try.func84 (fun w' hS => ?_) ?_
  focus exact hasFact_calls w' A2 c2 gs (h2.on (hb.out.trans (hS2.trans (hb3.trans hS)))) A3 c3 (appF ns vs f) (hI3.on hS)
  repeat first | refine sP ?_ | refine sS ?_ | refine sA ?_ | refine sL ?_ | refine sQ ?_ | refine sO ?_
  refine Reg.tail_ fun w5 hS5 => ?_
  go_wp2
  go_ret
  exact ⟨rfl, hb.out.trans (hS2.trans (hb3.trans hS5))⟩
theorem nulsI_okS (fs : List Fct) : (∀ x ∈ nulsI fs, 0 ≤ x ∧ x ≤ 39) ∧ (nulsI fs).length ≤ 40 := by
  have h1 : ∀ x ∈ nulsI fs, 0 ≤ x ∧ x ≤ 39 := fun x hx => by
    have := ((nulsIFrom_up fs [] (by simp)).2 x).1 hx
    simp only [List.not_mem_nil, false_or] at this
    exact (nulSeq_ok _).1 x this
  exact ⟨h1, up_len _ 0 40 (nulsIFrom_up fs [] (by simp)).1 (fun x hx => by have := h1 x hx; omega)⟩
theorem nulsI_inR (fs : List Fct) : InR (nulsI fs) := fun x hx => by
  have := (nulsI_okS fs).1 x hx
  omega
theorem iIsHom_calls (w : World) (A0 c0 A1 c1) (rs : List Rel) (fs : List Fct) (h0 : Rels w A0 c0 rs) (h1 : Fcts w A1 c1 fs) (A2 c2 A3 c3) (qs : List Rel) (gs : List Fct) (h2 : Rels w A2 c2 qs) (h3 : Fcts w A3 c3 gs) (A4 c4 A5 c5) (ns vs : List Int) (h4 : Ints w A4 c4 ns) (h5 : Ints w A5 c5 vs) (hz : wF fs ≤ 10000000) :
    Calls Try.prog 27 #[.agg #[.slice A0 rs.length c0, .slice A1 fs.length c1], .agg #[.slice A2 qs.length c2, .slice A3 gs.length c3], .agg #[.slice A4 ns.length c4, .slice A5 vs.length c5]] w fun e w' => e = .returned (.bool (isHom rs fs qs gs ns vs)) ∧ On w w' := by
  have hb := Aside0.mk (On.alloc (On.alloc (On.alloc (On.refl w) (.cells #[.slice A0 rs.length c0, .slice A1 fs.length c1] 32)) (.cells #[.slice A2 qs.length c2, .slice A3 gs.length c3] 32)) (.cells #[.slice A4 ns.length c4, .slice A5 vs.length c5] 45))
  have hL := Aside0.mk (loc3 w #[.slice A0 rs.length c0, .slice A1 fs.length c1] #[.slice A2 qs.length c2, .slice A3 gs.length c3] #[.slice A4 ns.length c4, .slice A5 vs.length c5] 32 32 45)
  cases hc : (okInst rs fs && (okInst qs gs && decide (rs = qs))) with
  | false =>
    have hr := Aside0.mk (show isHom rs fs qs gs ns vs = false by
      unfold isHom
      cases h1 : okInst rs fs <;> cases h2 : okInst qs gs <;> cases h3 : decide (rs = qs) <;> simp_all)
    have hc' := Aside0.mk hc
    clear hc
    go_enter Try.func27, Try.ntmps27
    go_wp2
    have hd0 := blk_cell hL.out.1
    have hd1 := blk_cell hL.out.2.1
    have hd2 := blk_cell hL.out.2.2.1
    refine Reg.region [(0,.L),(1,.L),(2,.C),(3,.L),(4,.L),(5,.L),(6,.C),(7,.L),(8,.L),(9,.L),(10,.L),(11,.L),(12,.L),(13,.N),(14,.C),(15,.L),(16,.L)] [] (by kernel_rfl) (by kernel_rfl) ?_
    repeat first | refine sP ?_ | refine sS ?_ | refine sA ?_ | refine sL ?_ | refine sQ ?_ | refine sO ?_
    refine callC (.bool false) Try.func79 (fun w' hS => ?_) ?_
    focus exact (areComparable_calls w' A0 c0 A1 c1 rs fs (h0.on (hb.out.trans hS)) (h1.on (hb.out.trans hS)) A2 c2 A3 c3 qs gs (h2.on (hb.out.trans hS)) (h3.on (hb.out.trans hS))).mono fun e w'' h => ⟨by rw [h.1, hc'.out], h.2⟩
    repeat first | refine sP ?_ | refine sS ?_ | refine sA ?_ | refine sL ?_ | refine sQ ?_ | refine sO ?_
    refine Reg.nil fun w2 hS => ?_
    go_wp2
    go_ret
    exact ⟨ret_bool hr.out.symm, hb.out.trans hS⟩
  | true =>
    have hk1 : okInst rs fs = true := by cases h1 : okInst rs fs; simp [h1] at hc; rfl
    have hk2 : okInst qs gs = true := by cases h2 : okInst qs gs; simp [h2] at hc; rfl
    have hk3 : decide (rs = qs) = true := by cases h3 : decide (rs = qs); rw [h3] at hc; simp at hc; rfl
    have hl2 : ∀ f ∈ fs, f.2.length ≤ 2000000 := fun f hf => Nat.le_trans (okFact_len (okInst_mem hk1 f hf)) (by omega)
    have hr0 := Aside0.mk (show isHom rs fs qs gs ns vs = (okSub ns vs && (decide (ns = nulsI fs) && fs.all fun f => hasF gs (appF ns vs f))) by unfold isHom; rw [hk1, hk2, hk3]; rfl)
    have hc' := Aside0.mk hc
    clear hc hk1 hk2 hk3
    cases hs : okSub ns vs with
    | false =>
      have hs' := Aside0.mk hs
      clear hs
      go_enter Try.func27, Try.ntmps27
      go_wp2
      have hd0 := blk_cell hL.out.1
      have hd1 := blk_cell hL.out.2.1
      have hd2 := blk_cell hL.out.2.2.1
      refine Reg.region [(0,.L),(1,.L),(2,.C),(3,.L),(4,.L),(5,.L),(6,.C),(7,.L),(8,.L),(9,.L),(10,.L),(11,.L),(12,.L),(13,.N),(14,.C),(15,.L),(16,.L)] [] (by kernel_rfl) (by kernel_rfl) ?_
      repeat first | refine sP ?_ | refine sS ?_ | refine sA ?_ | refine sL ?_ | refine sQ ?_ | refine sO ?_
      refine callC (.bool true) Try.func79 (fun w' hS => ?_) ?_
      focus exact (areComparable_calls w' A0 c0 A1 c1 rs fs (h0.on (hb.out.trans hS)) (h1.on (hb.out.trans hS)) A2 c2 A3 c3 qs gs (h2.on (hb.out.trans hS)) (h3.on (hb.out.trans hS))).mono fun e w'' h => ⟨by rw [h.1, hc'.out], h.2⟩
      repeat first | refine sP ?_ | refine sS ?_ | refine sA ?_ | refine sL ?_ | refine sQ ?_ | refine sO ?_
      refine callC (.bool false) Try.func80 (fun w' hS => ?_) ?_
      focus exact (iIsValidSub_calls w' A4 c4 A5 c5 ns vs (h4.on (hb.out.trans hS)) (h5.on (hb.out.trans hS))).mono fun e w'' h => ⟨by rw [h.1, hs'.out], h.2⟩
      repeat first | refine sP ?_ | refine sS ?_ | refine sA ?_ | refine sL ?_ | refine sQ ?_ | refine sO ?_
      refine Reg.nil fun w2 hS => ?_
      go_wp2
      go_ret
      exact ⟨ret_bool (by rw [hr0.out, hs'.out]; rfl), hb.out.trans hS⟩
    | true =>
      have hs' := Aside0.mk hs
      clear hs
      cases hn : decide (ns = nulsI fs) with
      | false =>
        have hn' := Aside0.mk hn
        clear hn
        go_enter Try.func27, Try.ntmps27
        go_wp2
        have hd0 := blk_cell hL.out.1
        have hd1 := blk_cell hL.out.2.1
        have hd2 := blk_cell hL.out.2.2.1
        refine Reg.region [(0,.L),(1,.L),(2,.C),(3,.L),(4,.L),(5,.L),(6,.C),(7,.L),(8,.L),(9,.L),(10,.L),(11,.L),(12,.L),(13,.N),(14,.C),(15,.L),(16,.L)] [] (by kernel_rfl) (by kernel_rfl) ?_
        repeat first | refine sP ?_ | refine sS ?_ | refine sA ?_ | refine sL ?_ | refine sQ ?_ | refine sO ?_
        refine callC (.bool true) Try.func79 (fun w' hS => ?_) ?_
        focus exact (areComparable_calls w' A0 c0 A1 c1 rs fs (h0.on (hb.out.trans hS)) (h1.on (hb.out.trans hS)) A2 c2 A3 c3 qs gs (h2.on (hb.out.trans hS)) (h3.on (hb.out.trans hS))).mono fun e w'' h => ⟨by rw [h.1, hc'.out], h.2⟩
        repeat first | refine sP ?_ | refine sS ?_ | refine sA ?_ | refine sL ?_ | refine sQ ?_ | refine sO ?_
        refine callC (.bool true) Try.func80 (fun w' hS => ?_) ?_
        focus exact (iIsValidSub_calls w' A4 c4 A5 c5 ns vs (h4.on (hb.out.trans hS)) (h5.on (hb.out.trans hS))).mono fun e w'' h => ⟨by rw [h.1, hs'.out], h.2⟩
        repeat first | refine sP ?_ | refine sS ?_ | refine sA ?_ | refine sL ?_ | refine sQ ?_ | refine sO ?_
        refine callN Try.func15 (fun w2 hS2 => ?_)
        refine (iNullsOfInstance_calls w2 A0 rs.length c0 A1 c1 fs (h1.on (hb.out.trans hS2)) hz).mono ?_
        rintro e w3 ⟨v3, rfl, hO3, hb3⟩
        obtain ⟨A6, c6, rfl, hI6⟩ := hO3.rd (nulsI_inR fs)
        refine ⟨_, rfl, hb3, fun a' ha => ?_⟩
        simp only [Act.put, List.setIfInBounds_toArray, List.set_cons_zero, List.set_cons_succ] at ha
        subst ha
        repeat first | refine sP ?_ | refine sS ?_ | refine sA ?_ | refine sL ?_ | refine sQ ?_ | refine sO ?_
        refine callC (.bool false) Try.func81 (fun w' hS => ?_) ?_
        focus exact (equalI_calls w' A4 c4 A6 c6 ns (nulsI fs) (h4.on (hb.out.trans (hS2.trans (hb3.trans hS)))) (hI6.on hS)).mono fun e w'' h => ⟨by rw [h.1, hn'.out], h.2⟩
        repeat first | refine sP ?_ | refine sS ?_ | refine sA ?_ | refine sL ?_ | refine sQ ?_ | refine sO ?_
        refine Reg.nil fun w5 hS5 => ?_
        go_wp2
        go_ret
        exact ⟨ret_bool (by rw [hr0.out, hs'.out, hn'.out]; rfl), hb.out.trans (hS2.trans (hb3.trans hS5))⟩
      | true =>
        have hn' := Aside0.mk hn
        clear hn
        go_enter Try.func27, Try.ntmps27
        go_wp2
        have hd0 := blk_cell hL.out.1
        have hd1 := blk_cell hL.out.2.1
        have hd2 := blk_cell hL.out.2.2.1
        refine Reg.region [(0,.L),(1,.L),(2,.C),(3,.L),(4,.L),(5,.L),(6,.C),(7,.L),(8,.L),(9,.L),(10,.L),(11,.L),(12,.L),(13,.N),(14,.C),(15,.L),(16,.L)] [] (by kernel_rfl) (by kernel_rfl) ?_
        repeat first | refine sP ?_ | refine sS ?_ | refine sA ?_ | refine sL ?_ | refine sQ ?_ | refine sO ?_
        refine callC (.bool true) Try.func79 (fun w' hS => ?_) ?_
        focus exact (areComparable_calls w' A0 c0 A1 c1 rs fs (h0.on (hb.out.trans hS)) (h1.on (hb.out.trans hS)) A2 c2 A3 c3 qs gs (h2.on (hb.out.trans hS)) (h3.on (hb.out.trans hS))).mono fun e w'' h => ⟨by rw [h.1, hc'.out], h.2⟩
        repeat first | refine sP ?_ | refine sS ?_ | refine sA ?_ | refine sL ?_ | refine sQ ?_ | refine sO ?_
        refine callC (.bool true) Try.func80 (fun w' hS => ?_) ?_
        focus exact (iIsValidSub_calls w' A4 c4 A5 c5 ns vs (h4.on (hb.out.trans hS)) (h5.on (hb.out.trans hS))).mono fun e w'' h => ⟨by rw [h.1, hs'.out], h.2⟩
        repeat first | refine sP ?_ | refine sS ?_ | refine sA ?_ | refine sL ?_ | refine sQ ?_ | refine sO ?_
        refine callN Try.func15 (fun w2 hS2 => ?_)
        refine (iNullsOfInstance_calls w2 A0 rs.length c0 A1 c1 fs (h1.on (hb.out.trans hS2)) hz).mono ?_
        rintro e w3 ⟨v3, rfl, hO3, hb3⟩
        obtain ⟨A6, c6, rfl, hI6⟩ := hO3.rd (nulsI_inR fs)
        refine ⟨_, rfl, hb3, fun a' ha => ?_⟩
        simp only [Act.put, List.setIfInBounds_toArray, List.set_cons_zero, List.set_cons_succ] at ha
        subst ha
        repeat first | refine sP ?_ | refine sS ?_ | refine sA ?_ | refine sL ?_ | refine sQ ?_ | refine sO ?_
        refine callC (.bool true) Try.func81 (fun w' hS => ?_) ?_
        focus exact (equalI_calls w' A4 c4 A6 c6 ns (nulsI fs) (h4.on (hb.out.trans (hS2.trans (hb3.trans hS)))) (hI6.on hS)).mono fun e w'' h => ⟨by rw [h.1, hn'.out], h.2⟩
        repeat first | refine sP ?_ | refine sS ?_ | refine sA ?_ | refine sL ?_ | refine sQ ?_ | refine sO ?_
        refine Reg.nil fun w5 hS5 => ?_
        have hB5 := Aside0.mk (hb.out.trans (hS2.trans (hb3.trans hS5)))
        have hL5 := Aside0.mk (Loc.on (hS2.trans (hb3.trans hS5)) hL.out)
        have hc0 := blk_cell hL5.out.1
        go_wp2_with (go_at_call 82; refine (ContainsFuncF_calls _ A1 c1 fs (h1.on hB5.out) (fn := 83) #[.pointer (some ⟨w.heap.size + 1, 0, none⟩), .pointer (some ⟨w.heap.size + 1 + 1, 0, none⟩)] (fun f => !hasF gs (appF ns vs f)) Try.func83 (by kernel_rfl) rfl (fun w' hw f hf B d hI => IsHom1_calls w' B d A4 c4 A5 c5 A3 c3 f _ ns vs gs (w.heap.size + 1) (w.heap.size + 1 + 1) hI (h4.on (hB5.out.trans hw)) (h5.on (hB5.out.trans hw)) (h3.on (hB5.out.trans hw)) (blk_below hL5.out.2.1 hw) (blk_below hL5.out.2.2.1 hw) (hl2 f hf))).mono ?_; rintro e w6 ⟨rfl, hb6⟩)
        go_ret
        exact ⟨ret_bool (by rw [hr0.out, hs'.out, hn'.out]; simp [List.all_eq_not_any_not]), hB5.out.trans hb6⟩

theorem sIsHom_calls (w : World) (A0 c0 A1 c1) (rs : List Rel) (fs : List Fct) (h0 : Rels w A0 c0 rs) (h1 : Fcts w A1 c1 fs) (A2 c2 A3 c3) (qs : List Rel) (gs : List Fct) (h2 : Rels w A2 c2 qs) (h3 : Fcts w A3 c3 gs) (A4 c4 A5 c5) (ns vs : List Int) (h4 : Ints w A4 c4 ns) (h5 : Ints w A5 c5 vs) (hz : wF fs ≤ 10000000) :
    Calls Try.prog 25 #[.agg #[.slice A0 rs.length c0, .slice A1 fs.length c1], .agg #[.slice A2 qs.length c2, .slice A3 gs.length c3], .agg #[.slice A4 ns.length c4, .slice A5 vs.length c5]] w fun e w' => e = .returned (.bool (isHom rs fs qs gs ns vs)) ∧ On w w' := by
  have hb := Aside0.mk (On.alloc (On.alloc (On.alloc (On.refl w) (.cells #[.slice A0 rs.length c0, .slice A1 fs.length c1] 32)) (.cells #[.slice A2 qs.length c2, .slice A3 gs.length c3] 32)) (.cells #[.slice A4 ns.length c4, .slice A5 vs.length c5] 45))
  have hL := Aside0.mk (loc3 w #[.slice A0 rs.length c0, .slice A1 fs.length c1] #[.slice A2 qs.length c2, .slice A3 gs.length c3] #[.slice A4 ns.length c4, .slice A5 vs.length c5] 32 32 45)
  have hmax := h1.max

  cases ha : okInst rs fs with
  | false =>
    have ha' := Aside0.mk ha
    clear ha
    have hr := Aside0.mk (show isHom rs fs qs gs ns vs = false by unfold isHom; rw [ha'.out]; rfl)
    go_enter Try.func25, Try.ntmps25
    go_wp2
    have hd0 := blk_cell hL.out.1
    have hd1 := blk_cell hL.out.2.1
    have hd2 := blk_cell hL.out.2.2.1
    refine Reg.region [(0,.L),(1,.C),(2,.L),(3,.L),(4,.L),(5,.C),(6,.L),(7,.L),(8,.L),(9,.L),(10,.C),(11,.L),(12,.L),(13,.L),(14,.L),(15,.L),(16,.L),(17,.L),(18,.C),(19,.L),(20,.L),(21,.L),(22,.L),(23,.L),(24,.L),(25,.N),(26,.C),(27,.L),(28,.L)] [] (by kernel_rfl) (by kernel_rfl) ?_
    repeat first | refine sP ?_ | refine sS ?_ | refine sA ?_ | refine sL ?_ | refine sQ ?_ | refine sO ?_
    refine callC (.bool false) Try.func41 (fun w' hS => ?_) ?_
    focus exact (IsValidInstance_calls w' A0 c0 A1 c1 rs fs (h0.on (hb.out.trans hS)) (h1.on (hb.out.trans hS))).mono fun e w'' h => ⟨by rw [h.1, ha'.out], h.2⟩
    repeat first | refine sP ?_ | refine sS ?_ | refine sA ?_ | refine sL ?_ | refine sQ ?_ | refine sO ?_
    refine Reg.nil fun w5 hS5 => ?_
    go_wp2
    go_ret
    exact ⟨ret_bool hr.out.symm, hb.out.trans hS5⟩
  | true =>
    have hl2 : ∀ f ∈ fs, f.2.length ≤ 2000000 := fun f hf => Nat.le_trans (okFact_len (okInst_mem ha f hf)) (by omega)
    have ha' := Aside0.mk ha
    clear ha
    cases hb : okInst qs gs with
    | false =>
      have hb' := Aside0.mk hb
      clear hb
      have hr := Aside0.mk (show isHom rs fs qs gs ns vs = false by unfold isHom; rw [ha'.out, hb'.out]; rfl)
      go_enter Try.func25, Try.ntmps25
      go_wp2
      have hd0 := blk_cell hL.out.1
      have hd1 := blk_cell hL.out.2.1
      have hd2 := blk_cell hL.out.2.2.1
      refine Reg.region [(0,.L),(1,.C),(2,.L),(3,.L),(4,.L),(5,.C),(6,.L),(7,.L),(8,.L),(9,.L),(10,.C),(11,.L),(12,.L),(13,.L),(14,.L),(15,.L),(16,.L),(17,.L),(18,.C),(19,.L),(20,.L),(21,.L),(22,.L),(23,.L),(24,.L),(25,.N),(26,.C),(27,.L),(28,.L)] [] (by kernel_rfl) (by kernel_rfl) ?_
      repeat first | refine sP ?_ | refine sS ?_ | refine sA ?_ | refine sL ?_ | refine sQ ?_ | refine sO ?_
      refine callC (.bool true) Try.func41 (fun w' hS => ?_) ?_
      focus exact (IsValidInstance_calls w' A0 c0 A1 c1 rs fs (h0.on (hb.out.trans hS)) (h1.on (hb.out.trans hS))).mono fun e w'' h => ⟨by rw [h.1, ha'.out], h.2⟩
      repeat first | refine sP ?_ | refine sS ?_ | refine sA ?_ | refine sL ?_ | refine sQ ?_ | refine sO ?_
      refine callC (.bool false) Try.func41 (fun w' hS => ?_) ?_
      focus exact (IsValidInstance_calls w' A2 c2 A3 c3 qs gs (h2.on (hb.out.trans hS)) (h3.on (hb.out.trans hS))).mono fun e w'' h => ⟨by rw [h.1, hb'.out], h.2⟩
      repeat first | refine sP ?_ | refine sS ?_ | refine sA ?_ | refine sL ?_ | refine sQ ?_ | refine sO ?_
      refine Reg.nil fun w5 hS5 => ?_
      go_wp2
      go_ret
      exact ⟨ret_bool hr.out.symm, hb.out.trans hS5⟩
    | true =>
      have hb' := Aside0.mk hb
      clear hb
      cases hc : okSub ns vs with
      | false =>
        have hc' := Aside0.mk hc
        clear hc
        have hr := Aside0.mk (show isHom rs fs qs gs ns vs = false by unfold isHom; rw [ha'.out, hb'.out, hc'.out]; rfl)
        go_enter Try.func25, Try.ntmps25
        go_wp2
        have hd0 := blk_cell hL.out.1
        have hd1 := blk_cell hL.out.2.1
        have hd2 := blk_cell hL.out.2.2.1
        refine Reg.region [(0,.L),(1,.C),(2,.L),(3,.L),(4,.L),(5,.C),(6,.L),(7,.L),(8,.L),(9,.L),(10,.C),(11,.L),(12,.L),(13,.L),(14,.L),(15,.L),(16,.L),(17,.L),(18,.C),(19,.L),(20,.L),(21,.L),(22,.L),(23,.L),(24,.L),(25,.N),(26,.C),(27,.L),(28,.L)] [] (by kernel_rfl) (by kernel_rfl) ?_
        repeat first | refine sP ?_ | refine sS ?_ | refine sA ?_ | refine sL ?_ | refine sQ ?_ | refine sO ?_
        refine callC (.bool true) Try.func41 (fun w' hS => ?_) ?_
        focus exact (IsValidInstance_calls w' A0 c0 A1 c1 rs fs (h0.on (hb.out.trans hS)) (h1.on (hb.out.trans hS))).mono fun e w'' h => ⟨by rw [h.1, ha'.out], h.2⟩
        repeat first | refine sP ?_ | refine sS ?_ | refine sA ?_ | refine sL ?_ | refine sQ ?_ | refine sO ?_
        refine callC (.bool true) Try.func41 (fun w' hS => ?_) ?_
        focus exact (IsValidInstance_calls w' A2 c2 A3 c3 qs gs (h2.on (hb.out.trans hS)) (h3.on (hb.out.trans hS))).mono fun e w'' h => ⟨by rw [h.1, hb'.out], h.2⟩
        repeat first | refine sP ?_ | refine sS ?_ | refine sA ?_ | refine sL ?_ | refine sQ ?_ | refine sO ?_
        refine callC (.bool false) Try.func73 (fun w' hS => ?_) ?_
        focus exact (sIsValidSub_calls w' A4 c4 A5 c5 ns vs (h4.on (hb.out.trans hS)) (h5.on (hb.out.trans hS))).mono fun e w'' h => ⟨by rw [h.1, hc'.out], h.2⟩
        repeat first | refine sP ?_ | refine sS ?_ | refine sA ?_ | refine sL ?_ | refine sQ ?_ | refine sO ?_
        refine Reg.nil fun w5 hS5 => ?_
        go_wp2
        go_ret
        exact ⟨ret_bool hr.out.symm, hb.out.trans hS5⟩
      | true =>
        have hc' := Aside0.mk hc
        clear hc
        cases hd : decide (rs = qs) with
        | false =>
          have hd' := Aside0.mk hd
          clear hd
          have hr := Aside0.mk (show isHom rs fs qs gs ns vs = false by unfold isHom; rw [ha'.out, hb'.out, hc'.out, hd'.out]; rfl)
          go_enter Try.func25, Try.ntmps25
          go_wp2
          have hd0 := blk_cell hL.out.1
          have hd1 := blk_cell hL.out.2.1
          have hd2 := blk_cell hL.out.2.2.1
          refine Reg.region [(0,.L),(1,.C),(2,.L),(3,.L),(4,.L),(5,.C),(6,.L),(7,.L),(8,.L),(9,.L),(10,.C),(11,.L),(12,.L),(13,.L),(14,.L),(15,.L),(16,.L),(17,.L),(18,.C),(19,.L),(20,.L),(21,.L),(22,.L),(23,.L),(24,.L),(25,.N),(26,.C),(27,.L),(28,.L)] [] (by kernel_rfl) (by kernel_rfl) ?_
          repeat first | refine sP ?_ | refine sS ?_ | refine sA ?_ | refine sL ?_ | refine sQ ?_ | refine sO ?_
          refine callC (.bool true) Try.func41 (fun w' hS => ?_) ?_
          focus exact (IsValidInstance_calls w' A0 c0 A1 c1 rs fs (h0.on (hb.out.trans hS)) (h1.on (hb.out.trans hS))).mono fun e w'' h => ⟨by rw [h.1, ha'.out], h.2⟩
          repeat first | refine sP ?_ | refine sS ?_ | refine sA ?_ | refine sL ?_ | refine sQ ?_ | refine sO ?_
          refine callC (.bool true) Try.func41 (fun w' hS => ?_) ?_
          focus exact (IsValidInstance_calls w' A2 c2 A3 c3 qs gs (h2.on (hb.out.trans hS)) (h3.on (hb.out.trans hS))).mono fun e w'' h => ⟨by rw [h.1, hb'.out], h.2⟩
          repeat first | refine sP ?_ | refine sS ?_ | refine sA ?_ | refine sL ?_ | refine sQ ?_ | refine sO ?_
          refine callC (.bool true) Try.func73 (fun w' hS => ?_) ?_
          focus exact (sIsValidSub_calls w' A4 c4 A5 c5 ns vs (h4.on (hb.out.trans hS)) (h5.on (hb.out.trans hS))).mono fun e w'' h => ⟨by rw [h.1, hc'.out], h.2⟩
          repeat first | refine sP ?_ | refine sS ?_ | refine sA ?_ | refine sL ?_ | refine sQ ?_ | refine sO ?_
          refine callC (.bool false) Try.func74 (fun w' hS => ?_) ?_
          focus exact (l5Sigs_calls w' A0 c0 A2 c2 rs qs (h0.on (hb.out.trans hS)) (h2.on (hb.out.trans hS))).mono fun e w'' h => ⟨by rw [h.1, hd'.out], h.2⟩
          repeat first | refine sP ?_ | refine sS ?_ | refine sA ?_ | refine sL ?_ | refine sQ ?_ | refine sO ?_
          refine Reg.nil fun w5 hS5 => ?_
          go_wp2
          go_ret
          exact ⟨ret_bool hr.out.symm, hb.out.trans hS5⟩
        | true =>
          have hd' := Aside0.mk hd
          clear hd
          cases he : decide (ns = nulsI fs) with
          | false =>
            have he' := Aside0.mk he
            clear he
            have hr := Aside0.mk (show isHom rs fs qs gs ns vs = false by unfold isHom; rw [ha'.out, hb'.out, hc'.out, hd'.out, he'.out]; rfl)
            go_enter Try.func25, Try.ntmps25
            go_wp2
            have hd0 := blk_cell hL.out.1
            have hd1 := blk_cell hL.out.2.1
            have hd2 := blk_cell hL.out.2.2.1
            refine Reg.region [(0,.L),(1,.C),(2,.L),(3,.L),(4,.L),(5,.C),(6,.L),(7,.L),(8,.L),(9,.L),(10,.C),(11,.L),(12,.L),(13,.L),(14,.L),(15,.L),(16,.L),(17,.L),(18,.C),(19,.L),(20,.L),(21,.L),(22,.L),(23,.L),(24,.L),(25,.N),(26,.C),(27,.L),(28,.L)] [] (by kernel_rfl) (by kernel_rfl) ?_
            repeat first | refine sP ?_ | refine sS ?_ | refine sA ?_ | refine sL ?_ | refine sQ ?_ | refine sO ?_
            refine callC (.bool true) Try.func41 (fun w' hS => ?_) ?_
            focus exact (IsValidInstance_calls w' A0 c0 A1 c1 rs fs (h0.on (hb.out.trans hS)) (h1.on (hb.out.trans hS))).mono fun e w'' h => ⟨by rw [h.1, ha'.out], h.2⟩
            repeat first | refine sP ?_ | refine sS ?_ | refine sA ?_ | refine sL ?_ | refine sQ ?_ | refine sO ?_
            refine callC (.bool true) Try.func41 (fun w' hS => ?_) ?_
            focus exact (IsValidInstance_calls w' A2 c2 A3 c3 qs gs (h2.on (hb.out.trans hS)) (h3.on (hb.out.trans hS))).mono fun e w'' h => ⟨by rw [h.1, hb'.out], h.2⟩
            repeat first | refine sP ?_ | refine sS ?_ | refine sA ?_ | refine sL ?_ | refine sQ ?_ | refine sO ?_
            refine callC (.bool true) Try.func73 (fun w' hS => ?_) ?_
            focus exact (sIsValidSub_calls w' A4 c4 A5 c5 ns vs (h4.on (hb.out.trans hS)) (h5.on (hb.out.trans hS))).mono fun e w'' h => ⟨by rw [h.1, hc'.out], h.2⟩
            repeat first | refine sP ?_ | refine sS ?_ | refine sA ?_ | refine sL ?_ | refine sQ ?_ | refine sO ?_
            refine callC (.bool true) Try.func74 (fun w' hS => ?_) ?_
            focus exact (l5Sigs_calls w' A0 c0 A2 c2 rs qs (h0.on (hb.out.trans hS)) (h2.on (hb.out.trans hS))).mono fun e w'' h => ⟨by rw [h.1, hd'.out], h.2⟩
            repeat first | refine sP ?_ | refine sS ?_ | refine sA ?_ | refine sL ?_ | refine sQ ?_ | refine sO ?_
            refine callN Try.func13 (fun w2 hS2 => ?_)
            refine (sNullsOfInstance_calls w2 A0 rs.length c0 A1 c1 fs (h1.on (hb.out.trans hS2)) hz).mono ?_
            rintro e w3 ⟨v3, rfl, hO3, hb3⟩
            obtain ⟨A6, c6, rfl, hI6⟩ := hO3.slice (nulsI_inR fs)
            refine ⟨_, rfl, hb3, fun a' ha => ?_⟩
            simp only [Act.put, List.setIfInBounds_toArray, List.set_cons_zero, List.set_cons_succ] at ha
            subst ha
            repeat first | refine sP ?_ | refine sS ?_ | refine sA ?_ | refine sL ?_ | refine sQ ?_ | refine sO ?_
            have hne : (ints ns (nulsI fs) != 0) = true := by rw [bne, ints_zero, he'.out]; rfl
            refine callC (.int .i64 (ints ns (nulsI fs))) Try.func75 (fun w' hS => ?_) ?_
            focus exact l4Ints_calls w' A4 A6 c4 c6 ns (nulsI fs) (h4.on (hb.out.trans (hS2.trans (hb3.trans hS)))) (hI6.on hS)
            repeat first | refine sP ?_ | refine sS ?_ | refine sA ?_ | refine sL ?_ | refine sQ ?_ | refine sO ?_
            refine Reg.nil fun w5 hS5 => ?_
            go_wp2
            go_ret
            exact ⟨ret_bool hr.out.symm, hb.out.trans (hS2.trans (hb3.trans hS5))⟩
          | true =>
            have he' := Aside0.mk he
            clear he
            have hr := Aside0.mk (show isHom rs fs qs gs ns vs = (fs.all fun f => hasF gs (appF ns vs f)) by unfold isHom; rw [ha'.out, hb'.out, hc'.out, hd'.out, he'.out]; rfl)
            go_enter Try.func25, Try.ntmps25
            go_wp2
            have hd0 := blk_cell hL.out.1
            have hd1 := blk_cell hL.out.2.1
            have hd2 := blk_cell hL.out.2.2.1
            refine Reg.region [(0,.L),(1,.C),(2,.L),(3,.L),(4,.L),(5,.C),(6,.L),(7,.L),(8,.L),(9,.L),(10,.C),(11,.L),(12,.L),(13,.L),(14,.L),(15,.L),(16,.L),(17,.L),(18,.C),(19,.L),(20,.L),(21,.L),(22,.L),(23,.L),(24,.L),(25,.N),(26,.C),(27,.L),(28,.L)] [] (by kernel_rfl) (by kernel_rfl) ?_
            repeat first | refine sP ?_ | refine sS ?_ | refine sA ?_ | refine sL ?_ | refine sQ ?_ | refine sO ?_
            refine callC (.bool true) Try.func41 (fun w' hS => ?_) ?_
            focus exact (IsValidInstance_calls w' A0 c0 A1 c1 rs fs (h0.on (hb.out.trans hS)) (h1.on (hb.out.trans hS))).mono fun e w'' h => ⟨by rw [h.1, ha'.out], h.2⟩
            repeat first | refine sP ?_ | refine sS ?_ | refine sA ?_ | refine sL ?_ | refine sQ ?_ | refine sO ?_
            refine callC (.bool true) Try.func41 (fun w' hS => ?_) ?_
            focus exact (IsValidInstance_calls w' A2 c2 A3 c3 qs gs (h2.on (hb.out.trans hS)) (h3.on (hb.out.trans hS))).mono fun e w'' h => ⟨by rw [h.1, hb'.out], h.2⟩
            repeat first | refine sP ?_ | refine sS ?_ | refine sA ?_ | refine sL ?_ | refine sQ ?_ | refine sO ?_
            refine callC (.bool true) Try.func73 (fun w' hS => ?_) ?_
            focus exact (sIsValidSub_calls w' A4 c4 A5 c5 ns vs (h4.on (hb.out.trans hS)) (h5.on (hb.out.trans hS))).mono fun e w'' h => ⟨by rw [h.1, hc'.out], h.2⟩
            repeat first | refine sP ?_ | refine sS ?_ | refine sA ?_ | refine sL ?_ | refine sQ ?_ | refine sO ?_
            refine callC (.bool true) Try.func74 (fun w' hS => ?_) ?_
            focus exact (l5Sigs_calls w' A0 c0 A2 c2 rs qs (h0.on (hb.out.trans hS)) (h2.on (hb.out.trans hS))).mono fun e w'' h => ⟨by rw [h.1, hd'.out], h.2⟩
            repeat first | refine sP ?_ | refine sS ?_ | refine sA ?_ | refine sL ?_ | refine sQ ?_ | refine sO ?_
            refine callN Try.func13 (fun w2 hS2 => ?_)
            refine (sNullsOfInstance_calls w2 A0 rs.length c0 A1 c1 fs (h1.on (hb.out.trans hS2)) hz).mono ?_
            rintro e w3 ⟨v3, rfl, hO3, hb3⟩
            obtain ⟨A6, c6, rfl, hI6⟩ := hO3.slice (nulsI_inR fs)
            refine ⟨_, rfl, hb3, fun a' ha => ?_⟩
            simp only [Act.put, List.setIfInBounds_toArray, List.set_cons_zero, List.set_cons_succ] at ha
            subst ha
            repeat first | refine sP ?_ | refine sS ?_ | refine sA ?_ | refine sL ?_ | refine sQ ?_ | refine sO ?_
            have hne : (ints ns (nulsI fs) != 0) = false := by rw [bne, ints_zero, he'.out]; rfl
            refine callC (.int .i64 (ints ns (nulsI fs))) Try.func75 (fun w' hS => ?_) ?_
            focus exact l4Ints_calls w' A4 A6 c4 c6 ns (nulsI fs) (h4.on (hb.out.trans (hS2.trans (hb3.trans hS)))) (hI6.on hS)
            repeat first | refine sP ?_ | refine sS ?_ | refine sA ?_ | refine sL ?_ | refine sQ ?_ | refine sO ?_
            refine Reg.nil fun w5 hS5 => ?_
            obtain ⟨Wb, hWb⟩ : ∃ Wb, ((w.alloc (.cells #[.slice A0 rs.length c0, .slice A1 fs.length c1] 32)).alloc (.cells #[.slice A2 qs.length c2, .slice A3 gs.length c3] 32)).alloc (.cells #[.slice A4 ns.length c4, .slice A5 vs.length c5] 45) = Wb := ⟨_, rfl⟩
            rw [hWb] at hb hL hS2
            clear hWb hd0 hd1 hd2
            have hBw := Aside0.mk (hS2.trans (hb3.trans hS5))
            clear hne
            go_wp2
            go_loopw [7] (fun v wr => ∃ k : Nat, k ≤ fs.length ∧ v = .int .i64 k ∧ Aside0 ((fs.drop k).all (fun f => hasF gs (appF ns vs f)) = fs.all fun f => hasF gs (appF ns vs f)) ∧ On Wb wr) (fun v _ => fs.length - (intOf v).toNat)
            case atStart => exact ⟨0, Nat.zero_le _, rfl, ⟨rfl⟩, hBw.out⟩
            case round =>
              obtain ⟨k, hk, rfl, hp, hB⟩ := hrel
              have hBr := Aside0.mk (hb.out.trans hB)
              have hLr := Aside0.mk (Loc.on hB hL.out)
              have hd0 := blk_cell hLr.out.1
              have hd1 := blk_cell hLr.out.2.1
              have hd2 := blk_cell hLr.out.2.2.1
              have hB' := Aside0.mk hB
              clear hB
              by_cases hlt : k < fs.length
              · obtain ⟨ad, A7, c7, rfl, hx0, hx1, hx2⟩ := (h1.on hBr.out).at k hlt
                have hl7 := hl2 fs[k] (List.getElem_mem hlt)
                have hp' := Aside0.mk (show (hasF gs (appF ns vs fs[k]) && (fs.drop (k + 1)).all (fun f => hasF gs (appF ns vs f))) = fs.all fun f => hasF gs (appF ns vs f) by rw [← hp.out, List.drop_eq_getElem_cons hlt]; rfl)
                clear hp
                cases hq : hasF gs (appF ns vs fs[k]) with
                | false =>
                  have hq' := Aside0.mk hq
                  have hpl := Aside0.mk (show place gs (appF ns vs fs[k]) < 0 by have h := hq; rw [hasF_place] at h; have := of_decide_eq_false h; omega)
                  clear hq
                  go_wp2
                  refine Reg.region [(0,.L),(1,.L),(2,.L),(3,.L),(4,.L),(5,.L),(6,.L),(7,.N),(8,.C),(9,.L)] [] (by kernel_rfl) (by kernel_rfl) ?_
                  repeat first | refine sP ?_ | refine sS ?_ | refine sA ?_ | refine sL ?_ | refine sQ ?_ | refine sO ?_
                  refine callN Try.func77 (fun w6 hS6 => ?_)
                  refine (sApplyToFact_calls w6 A4 c4 A5 c5 A7 c7 ns vs fs[k] (h4.on (hBr.out.trans hS6)) (h5.on (hBr.out.trans hS6)) (hx2.on hS6) hl7).mono ?_
                  rintro e w7 ⟨v7, rfl, v8, rfl, hO7, hb7⟩
                  obtain ⟨A8, c8, rfl, hI8⟩ := hO7.rd (map_inR (ns := ns) (vs := vs) hx2.2.2)
                  refine ⟨_, rfl, hb7, fun a' ha => ?_⟩
                  simp only [Act.put, List.setIfInBounds_toArray, List.set_cons_zero, List.set_cons_succ] at ha
                  subst ha
                  repeat first | refine sP ?_ | refine sS ?_ | refine sA ?_ | refine sL ?_ | refine sQ ?_ | refine sO ?_
                  refine callC (.int .i64 (place gs (appF ns vs fs[k]))) Try.func76 (fun w' hS => ?_) ?_
                  focus exact l5Place_calls w' A2 qs.length c2 A3 c3 A8 c8 gs (appF ns vs fs[k]) (h3.on (hBr.out.trans (hS6.trans (hb7.trans hS)))) (hI8.on hS)
                  have hltb : decide (place gs (appF ns vs fs[k]) < 0) = true := decide_eq_true hpl.out
                  repeat first | refine sP ?_ | refine sS ?_ | refine sA ?_ | refine sL ?_ | refine sQ ?_ | refine sO ?_
                  refine Reg.nil fun w8 hS8 => ?_
                  go_wp2
                  go_ret
                  exact ⟨ret_bool (by rw [hr.out, ← hp'.out, hq'.out]; rfl), hBr.out.trans (hS6.trans (hb7.trans hS8))⟩
                | true =>
                  have hq' := Aside0.mk hq
                  have hpl := Aside0.mk (show 0 ≤ place gs (appF ns vs fs[k]) by have h := hq; rw [hasF_place] at h; exact of_decide_eq_true h)
                  clear hq
                  go_wp2
                  refine Reg.region [(0,.L),(1,.L),(2,.L),(3,.L),(4,.L),(5,.L),(6,.L),(7,.N),(8,.C),(9,.L)] [] (by kernel_rfl) (by kernel_rfl) ?_
                  repeat first | refine sP ?_ | refine sS ?_ | refine sA ?_ | refine sL ?_ | refine sQ ?_ | refine sO ?_
                  refine callN Try.func77 (fun w6 hS6 => ?_)
                  refine (sApplyToFact_calls w6 A4 c4 A5 c5 A7 c7 ns vs fs[k] (h4.on (hBr.out.trans hS6)) (h5.on (hBr.out.trans hS6)) (hx2.on hS6) hl7).mono ?_
                  rintro e w7 ⟨v7, rfl, v8, rfl, hO7, hb7⟩
                  obtain ⟨A8, c8, rfl, hI8⟩ := hO7.rd (map_inR (ns := ns) (vs := vs) hx2.2.2)
                  refine ⟨_, rfl, hb7, fun a' ha => ?_⟩
                  simp only [Act.put, List.setIfInBounds_toArray, List.set_cons_zero, List.set_cons_succ] at ha
                  subst ha
                  repeat first | refine sP ?_ | refine sS ?_ | refine sA ?_ | refine sL ?_ | refine sQ ?_ | refine sO ?_
                  refine callC (.int .i64 (place gs (appF ns vs fs[k]))) Try.func76 (fun w' hS => ?_) ?_
                  focus exact l5Place_calls w' A2 qs.length c2 A3 c3 A8 c8 gs (appF ns vs fs[k]) (h3.on (hBr.out.trans (hS6.trans (hb7.trans hS)))) (hI8.on hS)
                  have hltb : decide (place gs (appF ns vs fs[k]) < 0) = false := decide_eq_false (by have := hpl.out; omega)
                  repeat first | refine sP ?_ | refine sS ?_ | refine sA ?_ | refine sL ?_ | refine sQ ?_ | refine sO ?_
                  refine Reg.nil fun w8 hS8 => ?_
                  go_wp2
                  exact ⟨⟨k + 1, by omega, by go_num, ⟨by rw [← hp'.out, hq'.out]; rfl⟩, hB'.out.trans (hS6.trans (hb7.trans hS8))⟩, by simp [intOf]; omega⟩
              · go_wp2
                go_ret
                exact ⟨ret_bool (by rw [hr.out, ← hp.out, List.drop_of_length_le (by omega)]; rfl), hBr.out⟩
end Go.Proofs.Ytngjhblbpapjeaa.H
