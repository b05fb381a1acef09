/- Walks and plain laws for the law FnHomomorphisms, part 7 of 8: the texts HS9, HG20, HQFnExactFindHomomorphism, HG21, HG9, HG10, HG11, HG12, HG13, HC6, HJ3, HJ0, HJ1, HJ2, HJ5, HJ6, HJ7, HG14, HG15, HQFnExactFindHomomorphisms in one. No condition. -/
import Derived.Lib.QuietBelow
import Derived.Sort.Grow
import Derived.Shelf.SlSortCmp.WholeK
import Derived.Lib.RowBridge
import Derived.Shelf.SlSortCmp.NoneTotal
import Derived.Test.YtgemaohdlibboaaGreatZFnHomomorphisms6
/- Walks: homomorphisms told, by both sides. No condition. -/
namespace Go.Proofs.YtgemaohdlibboaaGreat.H
open Go Go.RowKit Go.Proofs.YtgemaohdlibboaaGreatW.PrintWords Go.Proofs.YtgemaohdlibboaaGreatW.PrintLast
open Go.Proofs.YtgemaohdlibboaaGreat.Reg (On on_draw)
set_option maxHeartbeats 4000000
set_option maxRecDepth 100000
set_option linter.unusedVariables false
set_option linter.unusedSimpArgs false

theorem IsHom1_calls (w : World) (A c A0 c0 A1 c1 A2 c2) (f : Fct) (u : Value) (ns vs : List Int) (gs : List Fct) (b b2 : Nat) (h : Ints w A c f.2) (h0 : Ints w A0 c0 ns) (h1 : Ints w A1 c1 vs) (h2 : Fcts w A2 c2 gs)
    (hb0 : w.heap[b]? = some (.cells #[u, .slice A2 gs.length c2] 27 (0, 0))) (hb2 : w.heap[b2]? = some (.cells #[.slice A0 ns.length c0, .slice A1 vs.length c1] 32 (0, 0))) (hl : f.2.length ≤ 2000000) :
    Calls Tryz.prog 28 #[.agg #[.int .i64 f.1, .slice A f.2.length c], .pointer (some ⟨b, 0, none⟩), .pointer (some ⟨b2, 0, none⟩)] w fun e w' => e = .returned (.bool (!hasF gs (appF ns vs f))) ∧ On w w' := by
  have hb := Aside0.mk (On.alloc (On.refl w) (.cells #[.int .i64 f.1, .slice A f.2.length c] 54))
  have hc := blk_cell (blk_below hb0 hb.out)
  have hc2 := blk_cell (blk_below hb2 hb.out)
  have hcn := blk_cell (loc_new w #[.int .i64 f.1, .slice A f.2.length c] 54)
  clear hb0 hb2
  go_enter Tryz.func28, Tryz.ntmps28
  go_wp2
  refine Reg.region [(0,.L),(1,.L),(2,.L),(3,.L),(4,.N),(5,.C),(6,.L)] [7] (by kernel_rfl) (by kernel_rfl) ?_
  repeat first | refine sP ?_ | refine sS ?_ | refine sA ?_ | refine sL ?_ | refine sQ ?_ | refine sO ?_
  refine callN Tryz.func30 (fun w2 hS2 => ?_)
  refine (iApplyToFact_calls w2 A0 c0 A1 c1 A c ns vs f (h0.on (hb.out.trans hS2)) (h1.on (hb.out.trans hS2)) (h.on (hb.out.trans hS2)) hl).mono ?_
  rintro e w3 ⟨v, rfl, v3, rfl, hO3, hb3⟩
  obtain ⟨A3, c3, rfl, hI3⟩ := hO3.rd (map_inR (ns := ns) (vs := vs) h.2.2)
  refine ⟨_, rfl, hb3, fun a' ha => ?_⟩
  simp only [Act.put, List.setIfInBounds_toArray, List.set_cons_zero, List.set_cons_succ] at ha
  subst ha
  repeat first | refine sP ?_ | refine sS ?_ | refine sA ?_ | refine sL ?_ | refine sQ ?_ | refine sO ?_
  refine callC (.bool (hasF gs (appF ns vs f))) Tryz.func29 (fun w' hS => ?_) ?_
  focus exact hasFact_calls w' A2 c2 gs (h2.on (hb.out.trans (hS2.trans (hb3.trans hS)))) A3 c3 (appF ns vs f) (hI3.on hS)
  repeat first | refine sP ?_ | refine sS ?_ | refine sA ?_ | refine sL ?_ | refine sQ ?_ | refine sO ?_
  refine Reg.tail_ fun w5 hS5 => ?_
  go_wp2
  go_ret
  exact ⟨rfl, hb.out.trans (hS2.trans (hb3.trans hS5))⟩
theorem nulsI_okS (fs : List Fct) : (∀ x ∈ nulsI fs, 0 ≤ x ∧ x ≤ 39) ∧ (nulsI fs).length ≤ 40 := by
  have h1 : ∀ x ∈ nulsI fs, 0 ≤ x ∧ x ≤ 39 := fun x hx => by
    have := ((nulsIFrom_up fs [] (by simp)).2 x).1 hx
    simp only [List.not_mem_nil, false_or] at this
    exact (nulSeq_ok _).1 x this
  exact ⟨h1, up_len _ 0 40 (nulsIFrom_up fs [] (by simp)).1 (fun x hx => by have := h1 x hx; omega)⟩
theorem nulsI_inR (fs : List Fct) : InR (nulsI fs) := fun x hx => by
  have := (nulsI_okS fs).1 x hx
  omega
theorem iIsHom_calls (w : World) (A0 c0 A1 c1) (rs : List Rel) (fs : List Fct) (h0 : Rels w A0 c0 rs) (h1 : Fcts w A1 c1 fs) (A2 c2 A3 c3) (qs : List Rel) (gs : List Fct) (h2 : Rels w A2 c2 qs) (h3 : Fcts w A3 c3 gs) (A4 c4 A5 c5) (ns vs : List Int) (h4 : Ints w A4 c4 ns) (h5 : Ints w A5 c5 vs) (hz : wF fs ≤ 10000000) :
    Calls Tryz.prog 12 #[.agg #[.slice A0 rs.length c0, .slice A1 fs.length c1], .agg #[.slice A2 qs.length c2, .slice A3 gs.length c3], .agg #[.slice A4 ns.length c4, .slice A5 vs.length c5]] w fun e w' => e = .returned (.bool (isHom rs fs qs gs ns vs)) ∧ On w w' := by
  have hb := Aside0.mk (On.alloc (On.alloc (On.alloc (On.refl w) (.cells #[.slice A0 rs.length c0, .slice A1 fs.length c1] 27)) (.cells #[.slice A2 qs.length c2, .slice A3 gs.length c3] 27)) (.cells #[.slice A4 ns.length c4, .slice A5 vs.length c5] 32))
  have hL := Aside0.mk (loc3 w #[.slice A0 rs.length c0, .slice A1 fs.length c1] #[.slice A2 qs.length c2, .slice A3 gs.length c3] #[.slice A4 ns.length c4, .slice A5 vs.length c5] 27 27 32)
  cases hc : (okInst rs fs && (okInst qs gs && decide (rs = qs))) with
  | false =>
    have hr := Aside0.mk (show isHom rs fs qs gs ns vs = false by
      unfold isHom
      cases h1 : okInst rs fs <;> cases h2 : okInst qs gs <;> cases h3 : decide (rs = qs) <;> simp_all)
    have hc' := Aside0.mk hc
    clear hc
    go_enter Tryz.func12, Tryz.ntmps12
    go_wp2
    have hd0 := blk_cell hL.out.1
    have hd1 := blk_cell hL.out.2.1
    have hd2 := blk_cell hL.out.2.2.1
    refine Reg.region [(0,.L),(1,.L),(2,.C),(3,.L),(4,.L),(5,.L),(6,.C),(7,.L),(8,.L),(9,.L),(10,.L),(11,.L),(12,.L),(13,.N),(14,.C),(15,.L),(16,.L)] [] (by kernel_rfl) (by kernel_rfl) ?_
    repeat first | refine sP ?_ | refine sS ?_ | refine sA ?_ | refine sL ?_ | refine sQ ?_ | refine sO ?_
    refine callC (.bool false) Tryz.func23 (fun w' hS => ?_) ?_
    focus exact (areComparable_calls w' A0 c0 A1 c1 rs fs (h0.on (hb.out.trans hS)) (h1.on (hb.out.trans hS)) A2 c2 A3 c3 qs gs (h2.on (hb.out.trans hS)) (h3.on (hb.out.trans hS))).mono fun e w'' h => ⟨by rw [h.1, hc'.out], h.2⟩
    repeat first | refine sP ?_ | refine sS ?_ | refine sA ?_ | refine sL ?_ | refine sQ ?_ | refine sO ?_
    refine Reg.nil fun w2 hS => ?_
    go_wp2
    go_ret
    exact ⟨ret_bool hr.out.symm, hb.out.trans hS⟩
  | true =>
    have hk1 : okInst rs fs = true := by cases h1 : okInst rs fs; simp [h1] at hc; rfl
    have hk2 : okInst qs gs = true := by cases h2 : okInst qs gs; simp [h2] at hc; rfl
    have hk3 : decide (rs = qs) = true := by cases h3 : decide (rs = qs); rw [h3] at hc; simp at hc; rfl
    have hl2 : ∀ f ∈ fs, f.2.length ≤ 2000000 := fun f hf => Nat.le_trans (okFact_len (okInst_mem hk1 f hf)) (by omega)
    have hr0 := Aside0.mk (show isHom rs fs qs gs ns vs = (okSub ns vs && (decide (ns = nulsI fs) && fs.all fun f => hasF gs (appF ns vs f))) by unfold isHom; rw [hk1, hk2, hk3]; rfl)
    have hc' := Aside0.mk hc
    clear hc hk1 hk2 hk3
    cases hs : okSub ns vs with
    | false =>
      have hs' := Aside0.mk hs
      clear hs
      go_enter Tryz.func12, Tryz.ntmps12
      go_wp2
      have hd0 := blk_cell hL.out.1
      have hd1 := blk_cell hL.out.2.1
      have hd2 := blk_cell hL.out.2.2.1
      refine Reg.region [(0,.L),(1,.L),(2,.C),(3,.L),(4,.L),(5,.L),(6,.C),(7,.L),(8,.L),(9,.L),(10,.L),(11,.L),(12,.L),(13,.N),(14,.C),(15,.L),(16,.L)] [] (by kernel_rfl) (by kernel_rfl) ?_
      repeat first | refine sP ?_ | refine sS ?_ | refine sA ?_ | refine sL ?_ | refine sQ ?_ | refine sO ?_
      refine callC (.bool true) Tryz.func23 (fun w' hS => ?_) ?_
      focus exact (areComparable_calls w' A0 c0 A1 c1 rs fs (h0.on (hb.out.trans hS)) (h1.on (hb.out.trans hS)) A2 c2 A3 c3 qs gs (h2.on (hb.out.trans hS)) (h3.on (hb.out.trans hS))).mono fun e w'' h => ⟨by rw [h.1, hc'.out], h.2⟩
      repeat first | refine sP ?_ | refine sS ?_ | refine sA ?_ | refine sL ?_ | refine sQ ?_ | refine sO ?_
      refine callC (.bool false) Tryz.func24 (fun w' hS => ?_) ?_
      focus exact (iIsValidSub_calls w' A4 c4 A5 c5 ns vs (h4.on (hb.out.trans hS)) (h5.on (hb.out.trans hS))).mono fun e w'' h => ⟨by rw [h.1, hs'.out], h.2⟩
      repeat first | refine sP ?_ | refine sS ?_ | refine sA ?_ | refine sL ?_ | refine sQ ?_ | refine sO ?_
      refine Reg.nil fun w2 hS => ?_
      go_wp2
      go_ret
      exact ⟨ret_bool (by rw [hr0.out, hs'.out]; rfl), hb.out.trans hS⟩
    | true =>
      have hs' := Aside0.mk hs
      clear hs
      cases hn : decide (ns = nulsI fs) with
      | false =>
        have hn' := Aside0.mk hn
        clear hn
        go_enter Tryz.func12, Tryz.ntmps12
        go_wp2
        have hd0 := blk_cell hL.out.1
        have hd1 := blk_cell hL.out.2.1
        have hd2 := blk_cell hL.out.2.2.1
        refine Reg.region [(0,.L),(1,.L),(2,.C),(3,.L),(4,.L),(5,.L),(6,.C),(7,.L),(8,.L),(9,.L),(10,.L),(11,.L),(12,.L),(13,.N),(14,.C),(15,.L),(16,.L)] [] (by kernel_rfl) (by kernel_rfl) ?_
        repeat first | refine sP ?_ | refine sS ?_ | refine sA ?_ | refine sL ?_ | refine sQ ?_ | refine sO ?_
        refine callC (.bool true) Tryz.func23 (fun w' hS => ?_) ?_
        focus exact (areComparable_calls w' A0 c0 A1 c1 rs fs (h0.on (hb.out.trans hS)) (h1.on (hb.out.trans hS)) A2 c2 A3 c3 qs gs (h2.on (hb.out.trans hS)) (h3.on (hb.out.trans hS))).mono fun e w'' h => ⟨by rw [h.1, hc'.out], h.2⟩
        repeat first | refine sP ?_ | refine sS ?_ | refine sA ?_ | refine sL ?_ | refine sQ ?_ | refine sO ?_
        refine callC (.bool true) Tryz.func24 (fun w' hS => ?_) ?_
        focus exact (iIsValidSub_calls w' A4 c4 A5 c5 ns vs (h4.on (hb.out.trans hS)) (h5.on (hb.out.trans hS))).mono fun e w'' h => ⟨by rw [h.1, hs'.out], h.2⟩
        repeat first | refine sP ?_ | refine sS ?_ | refine sA ?_ | refine sL ?_ | refine sQ ?_ | refine sO ?_
        refine callN Tryz.func26 (fun w2 hS2 => ?_)
        refine (iNullsOfInstance_calls w2 A0 rs.length c0 A1 c1 fs (h1.on (hb.out.trans hS2)) hz).mono ?_
        rintro e w3 ⟨v3, rfl, hO3, hb3⟩
        obtain ⟨A6, c6, rfl, hI6⟩ := hO3.rd (nulsI_inR fs)
        refine ⟨_, rfl, hb3, fun a' ha => ?_⟩
        simp only [Act.put, List.setIfInBounds_toArray, List.set_cons_zero, List.set_cons_succ] at ha
        subst ha
        repeat first | refine sP ?_ | refine sS ?_ | refine sA ?_ | refine sL ?_ | refine sQ ?_ | refine sO ?_
        refine callC (.bool false) Tryz.func25 (fun w' hS => ?_) ?_
        focus exact (equalI_calls w' A4 c4 A6 c6 ns (nulsI fs) (h4.on (hb.out.trans (hS2.trans (hb3.trans hS)))) (hI6.on hS)).mono fun e w'' h => ⟨by rw [h.1, hn'.out], h.2⟩
        repeat first | refine sP ?_ | refine sS ?_ | refine sA ?_ | refine sL ?_ | refine sQ ?_ | refine sO ?_
        refine Reg.nil fun w5 hS5 => ?_
        go_wp2
        go_ret
        exact ⟨ret_bool (by rw [hr0.out, hs'.out, hn'.out]; rfl), hb.out.trans (hS2.trans (hb3.trans hS5))⟩
      | true =>
        have hn' := Aside0.mk hn
        clear hn
        go_enter Tryz.func12, Tryz.ntmps12
        go_wp2
        have hd0 := blk_cell hL.out.1
        have hd1 := blk_cell hL.out.2.1
        have hd2 := blk_cell hL.out.2.2.1
        refine Reg.region [(0,.L),(1,.L),(2,.C),(3,.L),(4,.L),(5,.L),(6,.C),(7,.L),(8,.L),(9,.L),(10,.L),(11,.L),(12,.L),(13,.N),(14,.C),(15,.L),(16,.L)] [] (by kernel_rfl) (by kernel_rfl) ?_
        repeat first | refine sP ?_ | refine sS ?_ | refine sA ?_ | refine sL ?_ | refine sQ ?_ | refine sO ?_
        refine callC (.bool true) Tryz.func23 (fun w' hS => ?_) ?_
        focus exact (areComparable_calls w' A0 c0 A1 c1 rs fs (h0.on (hb.out.trans hS)) (h1.on (hb.out.trans hS)) A2 c2 A3 c3 qs gs (h2.on (hb.out.trans hS)) (h3.on (hb.out.trans hS))).mono fun e w'' h => ⟨by rw [h.1, hc'.out], h.2⟩
        repeat first | refine sP ?_ | refine sS ?_ | refine sA ?_ | refine sL ?_ | refine sQ ?_ | refine sO ?_
        refine callC (.bool true) Tryz.func24 (fun w' hS => ?_) ?_
        focus exact (iIsValidSub_calls w' A4 c4 A5 c5 ns vs (h4.on (hb.out.trans hS)) (h5.on (hb.out.trans hS))).mono fun e w'' h => ⟨by rw [h.1, hs'.out], h.2⟩
        repeat first | refine sP ?_ | refine sS ?_ | refine sA ?_ | refine sL ?_ | refine sQ ?_ | refine sO ?_
        refine callN Tryz.func26 (fun w2 hS2 => ?_)
        refine (iNullsOfInstance_calls w2 A0 rs.length c0 A1 c1 fs (h1.on (hb.out.trans hS2)) hz).mono ?_
        rintro e w3 ⟨v3, rfl, hO3, hb3⟩
        obtain ⟨A6, c6, rfl, hI6⟩ := hO3.rd (nulsI_inR fs)
        refine ⟨_, rfl, hb3, fun a' ha => ?_⟩
        simp only [Act.put, List.setIfInBounds_toArray, List.set_cons_zero, List.set_cons_succ] at ha
        subst ha
        repeat first | refine sP ?_ | refine sS ?_ | refine sA ?_ | refine sL ?_ | refine sQ ?_ | refine sO ?_
        refine callC (.bool true) Tryz.func25 (fun w' hS => ?_) ?_
        focus exact (equalI_calls w' A4 c4 A6 c6 ns (nulsI fs) (h4.on (hb.out.trans (hS2.trans (hb3.trans hS)))) (hI6.on hS)).mono fun e w'' h => ⟨by rw [h.1, hn'.out], h.2⟩
        repeat first | refine sP ?_ | refine sS ?_ | refine sA ?_ | refine sL ?_ | refine sQ ?_ | refine sO ?_
        refine Reg.nil fun w5 hS5 => ?_
        have hB5 := Aside0.mk (hb.out.trans (hS2.trans (hb3.trans hS5)))
        have hL5 := Aside0.mk (Loc.on (hS2.trans (hb3.trans hS5)) hL.out)
        have hc0 := blk_cell hL5.out.1
        go_wp2_with (go_at_call 27; refine (ContainsFuncF_calls _ A1 c1 fs (h1.on hB5.out) (fn := 28) #[.pointer (some ⟨w.heap.size + 1, 0, none⟩), .pointer (some ⟨w.heap.size + 1 + 1, 0, none⟩)] (fun f => !hasF gs (appF ns vs f)) Tryz.func28 (by kernel_rfl) rfl (fun w' hw f hf B d hI => IsHom1_calls w' B d A4 c4 A5 c5 A3 c3 f _ ns vs gs (w.heap.size + 1) (w.heap.size + 1 + 1) hI (h4.on (hB5.out.trans hw)) (h5.on (hB5.out.trans hw)) (h3.on (hB5.out.trans hw)) (blk_below hL5.out.2.1 hw) (blk_below hL5.out.2.2.1 hw) (hl2 f hf))).mono ?_; rintro e w6 ⟨rfl, hb6⟩)
        go_ret
        exact ⟨ret_bool (by rw [hr0.out, hs'.out, hn'.out]; simp [List.all_eq_not_any_not]), hB5.out.trans hb6⟩

theorem sIsHom_calls (w : World) (A0 c0 A1 c1) (rs : List Rel) (fs : List Fct) (h0 : Rels w A0 c0 rs) (h1 : Fcts w A1 c1 fs) (A2 c2 A3 c3) (qs : List Rel) (gs : List Fct) (h2 : Rels w A2 c2 qs) (h3 : Fcts w A3 c3 gs) (A4 c4 A5 c5) (ns vs : List Int) (h4 : Ints w A4 c4 ns) (h5 : Ints w A5 c5 vs) (hz : wF fs ≤ 10000000) :
    Calls Tryz.prog 13 #[.agg #[.slice A0 rs.length c0, .slice A1 fs.length c1], .agg #[.slice A2 qs.length c2, .slice A3 gs.length c3], .agg #[.slice A4 ns.length c4, .slice A5 vs.length c5]] w fun e w' => e = .returned (.bool (isHom rs fs qs gs ns vs)) ∧ On w w' := by
  have hb := Aside0.mk (On.alloc (On.alloc (On.alloc (On.refl w) (.cells #[.slice A0 rs.length c0, .slice A1 fs.length c1] 27)) (.cells #[.slice A2 qs.length c2, .slice A3 gs.length c3] 27)) (.cells #[.slice A4 ns.length c4, .slice A5 vs.length c5] 32))
  have hL := Aside0.mk (loc3 w #[.slice A0 rs.length c0, .slice A1 fs.length c1] #[.slice A2 qs.length c2, .slice A3 gs.length c3] #[.slice A4 ns.length c4, .slice A5 vs.length c5] 27 27 32)
  have hmax := h1.max

  cases ha : okInst rs fs with
  | false =>
    have ha' := Aside0.mk ha
    clear ha
    have hr := Aside0.mk (show isHom rs fs qs gs ns vs = false by unfold isHom; rw [ha'.out]; rfl)
    go_enter Tryz.func13, Tryz.ntmps13
    go_wp2
    have hd0 := blk_cell hL.out.1
    have hd1 := blk_cell hL.out.2.1
    have hd2 := blk_cell hL.out.2.2.1
    refine Reg.region [(0,.L),(1,.C),(2,.L),(3,.L),(4,.L),(5,.C),(6,.L),(7,.L),(8,.L),(9,.L),(10,.C),(11,.L),(12,.L),(13,.L),(14,.L),(15,.L),(16,.L),(17,.L),(18,.C),(19,.L),(20,.L),(21,.L),(22,.L),(23,.L),(24,.L),(25,.N),(26,.C),(27,.L),(28,.L)] [] (by kernel_rfl) (by kernel_rfl) ?_
    repeat first | refine sP ?_ | refine sS ?_ | refine sA ?_ | refine sL ?_ | refine sQ ?_ | refine sO ?_
    refine callC (.bool false) Tryz.func31 (fun w' hS => ?_) ?_
    focus exact (IsValidInstance_calls w' A0 c0 A1 c1 rs fs (h0.on (hb.out.trans hS)) (h1.on (hb.out.trans hS))).mono fun e w'' h => ⟨by rw [h.1, ha'.out], h.2⟩
    repeat first | refine sP ?_ | refine sS ?_ | refine sA ?_ | refine sL ?_ | refine sQ ?_ | refine sO ?_
    refine Reg.nil fun w5 hS5 => ?_
    go_wp2
    go_ret
    exact ⟨ret_bool hr.out.symm, hb.out.trans hS5⟩
  | true =>
    have hl2 : ∀ f ∈ fs, f.2.length ≤ 2000000 := fun f hf => Nat.le_trans (okFact_len (okInst_mem ha f hf)) (by omega)
    have ha' := Aside0.mk ha
    clear ha
    cases hb : okInst qs gs with
    | false =>
      have hb' := Aside0.mk hb
      clear hb
      have hr := Aside0.mk (show isHom rs fs qs gs ns vs = false by unfold isHom; rw [ha'.out, hb'.out]; rfl)
      go_enter Tryz.func13, Tryz.ntmps13
      go_wp2
      have hd0 := blk_cell hL.out.1
      have hd1 := blk_cell hL.out.2.1
      have hd2 := blk_cell hL.out.2.2.1
      refine Reg.region [(0,.L),(1,.C),(2,.L),(3,.L),(4,.L),(5,.C),(6,.L),(7,.L),(8,.L),(9,.L),(10,.C),(11,.L),(12,.L),(13,.L),(14,.L),(15,.L),(16,.L),(17,.L),(18,.C),(19,.L),(20,.L),(21,.L),(22,.L),(23,.L),(24,.L),(25,.N),(26,.C),(27,.L),(28,.L)] [] (by kernel_rfl) (by kernel_rfl) ?_
      repeat first | refine sP ?_ | refine sS ?_ | refine sA ?_ | refine sL ?_ | refine sQ ?_ | refine sO ?_
      refine callC (.bool true) Tryz.func31 (fun w' hS => ?_) ?_
      focus exact (IsValidInstance_calls w' A0 c0 A1 c1 rs fs (h0.on (hb.out.trans hS)) (h1.on (hb.out.trans hS))).mono fun e w'' h => ⟨by rw [h.1, ha'.out], h.2⟩
      repeat first | refine sP ?_ | refine sS ?_ | refine sA ?_ | refine sL ?_ | refine sQ ?_ | refine sO ?_
      refine callC (.bool false) Tryz.func31 (fun w' hS => ?_) ?_
      focus exact (IsValidInstance_calls w' A2 c2 A3 c3 qs gs (h2.on (hb.out.trans hS)) (h3.on (hb.out.trans hS))).mono fun e w'' h => ⟨by rw [h.1, hb'.out], h.2⟩
      repeat first | refine sP ?_ | refine sS ?_ | refine sA ?_ | refine sL ?_ | refine sQ ?_ | refine sO ?_
      refine Reg.nil fun w5 hS5 => ?_
      go_wp2
      go_ret
      exact ⟨ret_bool hr.out.symm, hb.out.trans hS5⟩
    | true =>
      have hb' := Aside0.mk hb
      clear hb
      cases hc : okSub ns vs with
      | false =>
        have hc' := Aside0.mk hc
        clear hc
        have hr := Aside0.mk (show isHom rs fs qs gs ns vs = false by unfold isHom; rw [ha'.out, hb'.out, hc'.out]; rfl)
        go_enter Tryz.func13, Tryz.ntmps13
        go_wp2
        have hd0 := blk_cell hL.out.1
        have hd1 := blk_cell hL.out.2.1
        have hd2 := blk_cell hL.out.2.2.1
        refine Reg.region [(0,.L),(1,.C),(2,.L),(3,.L),(4,.L),(5,.C),(6,.L),(7,.L),(8,.L),(9,.L),(10,.C),(11,.L),(12,.L),(13,.L),(14,.L),(15,.L),(16,.L),(17,.L),(18,.C),(19,.L),(20,.L),(21,.L),(22,.L),(23,.L),(24,.L),(25,.N),(26,.C),(27,.L),(28,.L)] [] (by kernel_rfl) (by kernel_rfl) ?_
        repeat first | refine sP ?_ | refine sS ?_ | refine sA ?_ | refine sL ?_ | refine sQ ?_ | refine sO ?_
        refine callC (.bool true) Tryz.func31 (fun w' hS => ?_) ?_
        focus exact (IsValidInstance_calls w' A0 c0 A1 c1 rs fs (h0.on (hb.out.trans hS)) (h1.on (hb.out.trans hS))).mono fun e w'' h => ⟨by rw [h.1, ha'.out], h.2⟩
        repeat first | refine sP ?_ | refine sS ?_ | refine sA ?_ | refine sL ?_ | refine sQ ?_ | refine sO ?_
        refine callC (.bool true) Tryz.func31 (fun w' hS => ?_) ?_
        focus exact (IsValidInstance_calls w' A2 c2 A3 c3 qs gs (h2.on (hb.out.trans hS)) (h3.on (hb.out.trans hS))).mono fun e w'' h => ⟨by rw [h.1, hb'.out], h.2⟩
        repeat first | refine sP ?_ | refine sS ?_ | refine sA ?_ | refine sL ?_ | refine sQ ?_ | refine sO ?_
        refine callC (.bool false) Tryz.func32 (fun w' hS => ?_) ?_
        focus exact (sIsValidSub_calls w' A4 c4 A5 c5 ns vs (h4.on (hb.out.trans hS)) (h5.on (hb.out.trans hS))).mono fun e w'' h => ⟨by rw [h.1, hc'.out], h.2⟩
        repeat first | refine sP ?_ | refine sS ?_ | refine sA ?_ | refine sL ?_ | refine sQ ?_ | refine sO ?_
        refine Reg.nil fun w5 hS5 => ?_
        go_wp2
        go_ret
        exact ⟨ret_bool hr.out.symm, hb.out.trans hS5⟩
      | true =>
        have hc' := Aside0.mk hc
        clear hc
        cases hd : decide (rs = qs) with
        | false =>
          have hd' := Aside0.mk hd
          clear hd
          have hr := Aside0.mk (show isHom rs fs qs gs ns vs = false by unfold isHom; rw [ha'.out, hb'.out, hc'.out, hd'.out]; rfl)
          go_enter Tryz.func13, Tryz.ntmps13
          go_wp2
          have hd0 := blk_cell hL.out.1
          have hd1 := blk_cell hL.out.2.1
          have hd2 := blk_cell hL.out.2.2.1
          refine Reg.region [(0,.L),(1,.C),(2,.L),(3,.L),(4,.L),(5,.C),(6,.L),(7,.L),(8,.L),(9,.L),(10,.C),(11,.L),(12,.L),(13,.L),(14,.L),(15,.L),(16,.L),(17,.L),(18,.C),(19,.L),(20,.L),(21,.L),(22,.L),(23,.L),(24,.L),(25,.N),(26,.C),(27,.L),(28,.L)] [] (by kernel_rfl) (by kernel_rfl) ?_
          repeat first | refine sP ?_ | refine sS ?_ | refine sA ?_ | refine sL ?_ | refine sQ ?_ | refine sO ?_
          refine callC (.bool true) Tryz.func31 (fun w' hS => ?_) ?_
          focus exact (IsValidInstance_calls w' A0 c0 A1 c1 rs fs (h0.on (hb.out.trans hS)) (h1.on (hb.out.trans hS))).mono fun e w'' h => ⟨by rw [h.1, ha'.out], h.2⟩
          repeat first | refine sP ?_ | refine sS ?_ | refine sA ?_ | refine sL ?_ | refine sQ ?_ | refine sO ?_
          refine callC (.bool true) Tryz.func31 (fun w' hS => ?_) ?_
          focus exact (IsValidInstance_calls w' A2 c2 A3 c3 qs gs (h2.on (hb.out.trans hS)) (h3.on (hb.out.trans hS))).mono fun e w'' h => ⟨by rw [h.1, hb'.out], h.2⟩
          repeat first | refine sP ?_ | refine sS ?_ | refine sA ?_ | refine sL ?_ | refine sQ ?_ | refine sO ?_
          refine callC (.bool true) Tryz.func32 (fun w' hS => ?_) ?_
          focus exact (sIsValidSub_calls w' A4 c4 A5 c5 ns vs (h4.on (hb.out.trans hS)) (h5.on (hb.out.trans hS))).mono fun e w'' h => ⟨by rw [h.1, hc'.out], h.2⟩
          repeat first | refine sP ?_ | refine sS ?_ | refine sA ?_ | refine sL ?_ | refine sQ ?_ | refine sO ?_
          refine callC (.bool false) Tryz.func33 (fun w' hS => ?_) ?_
          focus exact (l5Sigs_calls w' A0 c0 A2 c2 rs qs (h0.on (hb.out.trans hS)) (h2.on (hb.out.trans hS))).mono fun e w'' h => ⟨by rw [h.1, hd'.out], h.2⟩
          repeat first | refine sP ?_ | refine sS ?_ | refine sA ?_ | refine sL ?_ | refine sQ ?_ | refine sO ?_
          refine Reg.nil fun w5 hS5 => ?_
          go_wp2
          go_ret
          exact ⟨ret_bool hr.out.symm, hb.out.trans hS5⟩
        | true =>
          have hd' := Aside0.mk hd
          clear hd
          cases he : decide (ns = nulsI fs) with
          | false =>
            have he' := Aside0.mk he
            clear he
            have hr := Aside0.mk (show isHom rs fs qs gs ns vs = false by unfold isHom; rw [ha'.out, hb'.out, hc'.out, hd'.out, he'.out]; rfl)
            go_enter Tryz.func13, Tryz.ntmps13
            go_wp2
            have hd0 := blk_cell hL.out.1
            have hd1 := blk_cell hL.out.2.1
            have hd2 := blk_cell hL.out.2.2.1
            refine Reg.region [(0,.L),(1,.C),(2,.L),(3,.L),(4,.L),(5,.C),(6,.L),(7,.L),(8,.L),(9,.L),(10,.C),(11,.L),(12,.L),(13,.L),(14,.L),(15,.L),(16,.L),(17,.L),(18,.C),(19,.L),(20,.L),(21,.L),(22,.L),(23,.L),(24,.L),(25,.N),(26,.C),(27,.L),(28,.L)] [] (by kernel_rfl) (by kernel_rfl) ?_
            repeat first | refine sP ?_ | refine sS ?_ | refine sA ?_ | refine sL ?_ | refine sQ ?_ | refine sO ?_
            refine callC (.bool true) Tryz.func31 (fun w' hS => ?_) ?_
            focus exact (IsValidInstance_calls w' A0 c0 A1 c1 rs fs (h0.on (hb.out.trans hS)) (h1.on (hb.out.trans hS))).mono fun e w'' h => ⟨by rw [h.1, ha'.out], h.2⟩
            repeat first | refine sP ?_ | refine sS ?_ | refine sA ?_ | refine sL ?_ | refine sQ ?_ | refine sO ?_
            refine callC (.bool true) Tryz.func31 (fun w' hS => ?_) ?_
            focus exact (IsValidInstance_calls w' A2 c2 A3 c3 qs gs (h2.on (hb.out.trans hS)) (h3.on (hb.out.trans hS))).mono fun e w'' h => ⟨by rw [h.1, hb'.out], h.2⟩
            repeat first | refine sP ?_ | refine sS ?_ | refine sA ?_ | refine sL ?_ | refine sQ ?_ | refine sO ?_
            refine callC (.bool true) Tryz.func32 (fun w' hS => ?_) ?_
            focus exact (sIsValidSub_calls w' A4 c4 A5 c5 ns vs (h4.on (hb.out.trans hS)) (h5.on (hb.out.trans hS))).mono fun e w'' h => ⟨by rw [h.1, hc'.out], h.2⟩
            repeat first | refine sP ?_ | refine sS ?_ | refine sA ?_ | refine sL ?_ | refine sQ ?_ | refine sO ?_
            refine callC (.bool true) Tryz.func33 (fun w' hS => ?_) ?_
            focus exact (l5Sigs_calls w' A0 c0 A2 c2 rs qs (h0.on (hb.out.trans hS)) (h2.on (hb.out.trans hS))).mono fun e w'' h => ⟨by rw [h.1, hd'.out], h.2⟩
            repeat first | refine sP ?_ | refine sS ?_ | refine sA ?_ | refine sL ?_ | refine sQ ?_ | refine sO ?_
            refine callN Tryz.func34 (fun w2 hS2 => ?_)
            refine (sNullsOfInstance_calls w2 A0 rs.length c0 A1 c1 fs (h1.on (hb.out.trans hS2)) hz).mono ?_
            rintro e w3 ⟨v3, rfl, hO3, hb3⟩
            obtain ⟨A6, c6, rfl, hI6⟩ := hO3.slice (nulsI_inR fs)
            refine ⟨_, rfl, hb3, fun a' ha => ?_⟩
            simp only [Act.put, List.setIfInBounds_toArray, List.set_cons_zero, List.set_cons_succ] at ha
            subst ha
            repeat first | refine sP ?_ | refine sS ?_ | refine sA ?_ | refine sL ?_ | refine sQ ?_ | refine sO ?_
            have hne : (ints ns (nulsI fs) != 0) = true := by rw [bne, ints_zero, he'.out]; rfl
            refine callC (.int .i64 (ints ns (nulsI fs))) Tryz.func22 (fun w' hS => ?_) ?_
            focus exact l4Ints_calls w' A4 A6 c4 c6 ns (nulsI fs) (h4.on (hb.out.trans (hS2.trans (hb3.trans hS)))) (hI6.on hS)
            repeat first | refine sP ?_ | refine sS ?_ | refine sA ?_ | refine sL ?_ | refine sQ ?_ | refine sO ?_
            refine Reg.nil fun w5 hS5 => ?_
            go_wp2
            go_ret
            exact ⟨ret_bool hr.out.symm, hb.out.trans (hS2.trans (hb3.trans hS5))⟩
          | true =>
            have he' := Aside0.mk he
            clear he
            have hr := Aside0.mk (show isHom rs fs qs gs ns vs = (fs.all fun f => hasF gs (appF ns vs f)) by unfold isHom; rw [ha'.out, hb'.out, hc'.out, hd'.out, he'.out]; rfl)
            go_enter Tryz.func13, Tryz.ntmps13
            go_wp2
            have hd0 := blk_cell hL.out.1
            have hd1 := blk_cell hL.out.2.1
            have hd2 := blk_cell hL.out.2.2.1
            refine Reg.region [(0,.L),(1,.C),(2,.L),(3,.L),(4,.L),(5,.C),(6,.L),(7,.L),(8,.L),(9,.L),(10,.C),(11,.L),(12,.L),(13,.L),(14,.L),(15,.L),(16,.L),(17,.L),(18,.C),(19,.L),(20,.L),(21,.L),(22,.L),(23,.L),(24,.L),(25,.N),(26,.C),(27,.L),(28,.L)] [] (by kernel_rfl) (by kernel_rfl) ?_
            repeat first | refine sP ?_ | refine sS ?_ | refine sA ?_ | refine sL ?_ | refine sQ ?_ | refine sO ?_
            refine callC (.bool true) Tryz.func31 (fun w' hS => ?_) ?_
            focus exact (IsValidInstance_calls w' A0 c0 A1 c1 rs fs (h0.on (hb.out.trans hS)) (h1.on (hb.out.trans hS))).mono fun e w'' h => ⟨by rw [h.1, ha'.out], h.2⟩
            repeat first | refine sP ?_ | refine sS ?_ | refine sA ?_ | refine sL ?_ | refine sQ ?_ | refine sO ?_
            refine callC (.bool true) Tryz.func31 (fun w' hS => ?_) ?_
            focus exact (IsValidInstance_calls w' A2 c2 A3 c3 qs gs (h2.on (hb.out.trans hS)) (h3.on (hb.out.trans hS))).mono fun e w'' h => ⟨by rw [h.1, hb'.out], h.2⟩
            repeat first | refine sP ?_ | refine sS ?_ | refine sA ?_ | refine sL ?_ | refine sQ ?_ | refine sO ?_
            refine callC (.bool true) Tryz.func32 (fun w' hS => ?_) ?_
            focus exact (sIsValidSub_calls w' A4 c4 A5 c5 ns vs (h4.on (hb.out.trans hS)) (h5.on (hb.out.trans hS))).mono fun e w'' h => ⟨by rw [h.1, hc'.out], h.2⟩
            repeat first | refine sP ?_ | refine sS ?_ | refine sA ?_ | refine sL ?_ | refine sQ ?_ | refine sO ?_
            refine callC (.bool true) Tryz.func33 (fun w' hS => ?_) ?_
            focus exact (l5Sigs_calls w' A0 c0 A2 c2 rs qs (h0.on (hb.out.trans hS)) (h2.on (hb.out.trans hS))).mono fun e w'' h => ⟨by rw [h.1, hd'.out], h.2⟩
            repeat first | refine sP ?_ | refine sS ?_ | refine sA ?_ | refine sL ?_ | refine sQ ?_ | refine sO ?_
            refine callN Tryz.func34 (fun w2 hS2 => ?_)
            refine (sNullsOfInstance_calls w2 A0 rs.length c0 A1 c1 fs (h1.on (hb.out.trans hS2)) hz).mono ?_
            rintro e w3 ⟨v3, rfl, hO3, hb3⟩
            obtain ⟨A6, c6, rfl, hI6⟩ := hO3.slice (nulsI_inR fs)
            refine ⟨_, rfl, hb3, fun a' ha => ?_⟩
            simp only [Act.put, List.setIfInBounds_toArray, List.set_cons_zero, List.set_cons_succ] at ha
            subst ha
            repeat first | refine sP ?_ | refine sS ?_ | refine sA ?_ | refine sL ?_ | refine sQ ?_ | refine sO ?_
            have hne : (ints ns (nulsI fs) != 0) = false := by rw [bne, ints_zero, he'.out]; rfl
            refine callC (.int .i64 (ints ns (nulsI fs))) Tryz.func22 (fun w' hS => ?_) ?_
            focus exact l4Ints_calls w' A4 A6 c4 c6 ns (nulsI fs) (h4.on (hb.out.trans (hS2.trans (hb3.trans hS)))) (hI6.on hS)
            repeat first | refine sP ?_ | refine sS ?_ | refine sA ?_ | refine sL ?_ | refine sQ ?_ | refine sO ?_
            refine Reg.nil fun w5 hS5 => ?_
            obtain ⟨Wb, hWb⟩ : ∃ Wb, ((w.alloc (.cells #[.slice A0 rs.length c0, .slice A1 fs.length c1] 27)).alloc (.cells #[.slice A2 qs.length c2, .slice A3 gs.length c3] 27)).alloc (.cells #[.slice A4 ns.length c4, .slice A5 vs.length c5] 32) = Wb := ⟨_, rfl⟩
            rw [hWb] at hb hL hS2
            clear hWb hd0 hd1 hd2
            have hBw := Aside0.mk (hS2.trans (hb3.trans hS5))
            clear hne
            go_wp2
            go_loopw [7] (fun v wr => ∃ k : Nat, k ≤ fs.length ∧ v = .int .i64 k ∧ Aside0 ((fs.drop k).all (fun f => hasF gs (appF ns vs f)) = fs.all fun f => hasF gs (appF ns vs f)) ∧ On Wb wr) (fun v _ => fs.length - (intOf v).toNat)
            case atStart => exact ⟨0, Nat.zero_le _, rfl, ⟨rfl⟩, hBw.out⟩
            case round =>
              obtain ⟨k, hk, rfl, hp, hB⟩ := hrel
              have hBr := Aside0.mk (hb.out.trans hB)
              have hLr := Aside0.mk (Loc.on hB hL.out)
              have hd0 := blk_cell hLr.out.1
              have hd1 := blk_cell hLr.out.2.1
              have hd2 := blk_cell hLr.out.2.2.1
              have hB' := Aside0.mk hB
              clear hB
              by_cases hlt : k < fs.length
              · obtain ⟨ad, A7, c7, rfl, hx0, hx1, hx2⟩ := (h1.on hBr.out).at k hlt
                have hl7 := hl2 fs[k] (List.getElem_mem hlt)
                have hp' := Aside0.mk (show (hasF gs (appF ns vs fs[k]) && (fs.drop (k + 1)).all (fun f => hasF gs (appF ns vs f))) = fs.all fun f => hasF gs (appF ns vs f) by rw [← hp.out, List.drop_eq_getElem_cons hlt]; rfl)
                clear hp
                cases hq : hasF gs (appF ns vs fs[k]) with
                | false =>
                  have hq' := Aside0.mk hq
                  have hpl := Aside0.mk (show place gs (appF ns vs fs[k]) < 0 by have h := hq; rw [hasF_place] at h; have := of_decide_eq_false h; omega)
                  clear hq
                  go_wp2
                  refine Reg.region [(0,.L),(1,.L),(2,.L),(3,.L),(4,.L),(5,.L),(6,.L),(7,.N),(8,.C),(9,.L)] [] (by kernel_rfl) (by kernel_rfl) ?_
                  repeat first | refine sP ?_ | refine sS ?_ | refine sA ?_ | refine sL ?_ | refine sQ ?_ | refine sO ?_
                  refine callN Tryz.func36 (fun w6 hS6 => ?_)
                  refine (sApplyToFact_calls w6 A4 c4 A5 c5 A7 c7 ns vs fs[k] (h4.on (hBr.out.trans hS6)) (h5.on (hBr.out.trans hS6)) (hx2.on hS6) hl7).mono ?_
                  rintro e w7 ⟨v7, rfl, v8, rfl, hO7, hb7⟩
                  obtain ⟨A8, c8, rfl, hI8⟩ := hO7.rd (map_inR (ns := ns) (vs := vs) hx2.2.2)
                  refine ⟨_, rfl, hb7, fun a' ha => ?_⟩
                  simp only [Act.put, List.setIfInBounds_toArray, List.set_cons_zero, List.set_cons_succ] at ha
                  subst ha
                  repeat first | refine sP ?_ | refine sS ?_ | refine sA ?_ | refine sL ?_ | refine sQ ?_ | refine sO ?_
                  refine callC (.int .i64 (place gs (appF ns vs fs[k]))) Tryz.func35 (fun w' hS => ?_) ?_
                  focus exact l5Place_calls w' A2 qs.length c2 A3 c3 A8 c8 gs (appF ns vs fs[k]) (h3.on (hBr.out.trans (hS6.trans (hb7.trans hS)))) (hI8.on hS)
                  have hltb : decide (place gs (appF ns vs fs[k]) < 0) = true := decide_eq_true hpl.out
                  repeat first | refine sP ?_ | refine sS ?_ | refine sA ?_ | refine sL ?_ | refine sQ ?_ | refine sO ?_
                  refine Reg.nil fun w8 hS8 => ?_
                  go_wp2
                  go_ret
                  exact ⟨ret_bool (by rw [hr.out, ← hp'.out, hq'.out]; rfl), hBr.out.trans (hS6.trans (hb7.trans hS8))⟩
                | true =>
                  have hq' := Aside0.mk hq
                  have hpl := Aside0.mk (show 0 ≤ place gs (appF ns vs fs[k]) by have h := hq; rw [hasF_place] at h; exact of_decide_eq_true h)
                  clear hq
                  go_wp2
                  refine Reg.region [(0,.L),(1,.L),(2,.L),(3,.L),(4,.L),(5,.L),(6,.L),(7,.N),(8,.C),(9,.L)] [] (by kernel_rfl) (by kernel_rfl) ?_
                  repeat first | refine sP ?_ | refine sS ?_ | refine sA ?_ | refine sL ?_ | refine sQ ?_ | refine sO ?_
                  refine callN Tryz.func36 (fun w6 hS6 => ?_)
                  refine (sApplyToFact_calls w6 A4 c4 A5 c5 A7 c7 ns vs fs[k] (h4.on (hBr.out.trans hS6)) (h5.on (hBr.out.trans hS6)) (hx2.on hS6) hl7).mono ?_
                  rintro e w7 ⟨v7, rfl, v8, rfl, hO7, hb7⟩
                  obtain ⟨A8, c8, rfl, hI8⟩ := hO7.rd (map_inR (ns := ns) (vs := vs) hx2.2.2)
                  refine ⟨_, rfl, hb7, fun a' ha => ?_⟩
                  simp only [Act.put, List.setIfInBounds_toArray, List.set_cons_zero, List.set_cons_succ] at ha
                  subst ha
                  repeat first | refine sP ?_ | refine sS ?_ | refine sA ?_ | refine sL ?_ | refine sQ ?_ | refine sO ?_
                  refine callC (.int .i64 (place gs (appF ns vs fs[k]))) Tryz.func35 (fun w' hS => ?_) ?_
                  focus exact l5Place_calls w' A2 qs.length c2 A3 c3 A8 c8 gs (appF ns vs fs[k]) (h3.on (hBr.out.trans (hS6.trans (hb7.trans hS)))) (hI8.on hS)
                  have hltb : decide (place gs (appF ns vs fs[k]) < 0) = false := decide_eq_false (by have := hpl.out; omega)
                  repeat first | refine sP ?_ | refine sS ?_ | refine sA ?_ | refine sL ?_ | refine sQ ?_ | refine sO ?_
                  refine Reg.nil fun w8 hS8 => ?_
                  go_wp2
                  exact ⟨⟨k + 1, by omega, by go_num, ⟨by rw [← hp'.out, hq'.out]; rfl⟩, hB'.out.trans (hS6.trans (hb7.trans hS8))⟩, by simp [intOf]; omega⟩
              · go_wp2
                go_ret
                exact ⟨ret_bool (by rw [hr.out, ← hp.out, List.drop_of_length_le (by omega)]; rfl), hBr.out⟩
end Go.Proofs.YtgemaohdlibboaaGreat.H
/- What the search answers first, plain; equal substitutions, subsets of the reference. No condition. -/
namespace Go.Proofs.YtgemaohdlibboaaGreat.H
open Go Go.RowKit Go.Proofs.YtgemaohdlibboaaGreatW.PrintWords Go.Proofs.YtgemaohdlibboaaGreatW.PrintLast
open Go.Proofs.YtgemaohdlibboaaGreat.Reg (On on_draw)
set_option maxHeartbeats 4000000
set_option maxRecDepth 100000
set_option linter.unusedVariables false
set_option linter.unusedSimpArgs false

theorem wstep_head {tos fs : List Fct} {f : Fct} {x : List Int} {m : Nat} {a : List Int} {o : List (List Int)} (g : Fct) : ∃ r, wstep tos fs f x m (a :: o) g = a :: r := by
  unfold wstep
  split
  · split
    · exact ⟨_, rfl⟩
    · exact ⟨_, rfl⟩
  · exact ⟨_, rfl⟩
theorem fold_head {tos fs : List Fct} {f : Fct} {x : List Int} {m : Nat} (hm : 1 ≤ m) (ih : ∀ y k, 1 ≤ k → (walk tos fs y k).head? = (walk tos fs y 1).head?) : ∀ (l : List Fct) (o1 o2 : List (List Int)), o1.head? = o2.head? → (l.foldl (wstep tos fs f x m) o1).head? = (l.foldl (wstep tos fs f x 1) o2).head?
  | [], o1, o2, h => h
  | g :: l, o1, o2, h => by
    rw [List.foldl_cons, List.foldl_cons]
    refine fold_head hm ih l _ _ ?_
    cases o1 with
    | nil =>
      cases o2 with
      | cons b o2 => cases h
      | nil =>
        unfold wstep
        rw [if_pos (show ([] : List (List Int)).length < m by simp; omega), if_pos (show ([] : List (List Int)).length < 1 by simp)]
        cases fit f g x with
        | none => rfl
        | some y =>
          show ([] ++ walk tos fs y (m - 0)).head? = ([] ++ walk tos fs y (1 - 0)).head?
          rw [List.nil_append, List.nil_append]
          exact ih y m hm
    | cons a o1 =>
      cases o2 with
      | nil => cases h
      | cons b o2 =>
        injection h with h
        subst h
        obtain ⟨r1, h1⟩ := wstep_head (tos := tos) (fs := fs) (f := f) (x := x) (m := m) (a := a) (o := o1) g
        obtain ⟨r2, h2⟩ := wstep_head (tos := tos) (fs := fs) (f := f) (x := x) (m := 1) (a := a) (o := o2) g
        rw [h1, h2]; rfl
theorem walk_head (tos : List Fct) : ∀ (fs : List Fct) (x : List Int) (m : Nat), 1 ≤ m → (walk tos fs x m).head? = (walk tos fs x 1).head?
  | [], x, m, _ => by simp [walk]
  | f :: fs, x, m, hm => by
    rw [walk_cons, walk_cons]
    exact fold_head hm (fun y k hk => walk_head tos fs y k hk) tos [] [] rfl
theorem homs_head (r1 : List Rel) (f1 : List Fct) (r2 : List Rel) (f2 : List Fct) : (homs r1 f1 r2 f2 100).head? = (homs r1 f1 r2 f2 1).head? := by
  unfold homs
  split
  · exact walk_head f2 f1 none40 100 (by omega)
  · rfl
/-- What is found: the first of all, if there is one. -/
theorem subs_head (r1 : List Rel) (f1 : List Fct) (r2 : List Rel) (f2 : List Fct) : (hasHom r1 f1 r2 f2 = false ∧ subs r1 f1 r2 f2 100 = [] ∧ head1 r1 f1 r2 f2 = ([], [])) ∨ (hasHom r1 f1 r2 f2 = true ∧ ∃ r, subs r1 f1 r2 f2 100 = head1 r1 f1 r2 f2 :: r) := by
  have hh := homs_head r1 f1 r2 f2
  unfold hasHom head1 subs
  cases h1 : homs r1 f1 r2 f2 1 with
  | nil =>
    rw [h1] at hh
    cases h2 : homs r1 f1 r2 f2 100 with
    | nil => exact .inl ⟨rfl, rfl, rfl⟩
    | cons a l => rw [h2] at hh; cases hh
  | cons b k =>
    rw [h1] at hh
    cases h2 : homs r1 f1 r2 f2 100 with
    | nil => rw [h2] at hh; cases hh
    | cons a l =>
      rw [h2] at hh
      injection hh with hh
      subst hh
      exact .inr ⟨rfl, _, rfl⟩
theorem subs_isHom {r1 : List Rel} {f1 : List Fct} {r2 : List Rel} {f2 : List Fct} {p : List Int × List Int} (h : p ∈ subs r1 f1 r2 f2 100) : isHom r1 f1 r2 f2 p.1 p.2 = true ∧ ∀ f ∈ appI r1 f1 p.1 p.2, hasF f2 f = true := by
  unfold subs at h
  obtain ⟨y, hy, rfl⟩ := List.mem_map.1 h
  obtain ⟨h1, h2⟩ := homs_isHom hy
  refine ⟨h1, fun f hf => ?_⟩
  unfold appI at hf
  split at hf
  · rw [(setF_spec _).2] at hf
    obtain ⟨g, hg, rfl⟩ := List.mem_map.1 hf
    exact (hasF_mem _ _).2 (h2 g hg)
  · cases hf
theorem EqSub_calls (w : World) (v u : Value) (ns vs : List Int) (h : RSu w v ns vs) (k : RSu w u ns vs) : Calls Tryz.prog 9 #[v, u] w fun e w' => e = .returned (.bool true) ∧ On w w' := by
  obtain ⟨A0, c0, A1, c1, rfl, h0, h1⟩ := h.out
  obtain ⟨B0, d0, B1, d1, rfl, k0, k1⟩ := k.out
  have hb := Aside0.mk (On.alloc (On.alloc (On.refl w) (.cells #[.slice A0 ns.length c0, .slice A1 vs.length c1] 32)) (.cells #[.slice B0 ns.length d0, .slice B1 vs.length d1] 32))
  have hL := Aside0.mk (loc2 w #[.slice A0 ns.length c0, .slice A1 vs.length c1] #[.slice B0 ns.length d0, .slice B1 vs.length d1] 32 32)
  have e0 := (ints_eq ns ns).2 rfl
  have e1 := (ints_eq vs vs).2 rfl
  go_enter Tryz.func9, Tryz.ntmps9
  go_wp2_with (go_at_call 22; refine Stop.out ?_)
  refine ⟨(l4Ints_calls _ _ _ _ _ ns ns (h0.on hb.out) (k0.on hb.out)).mono ?_⟩
  rintro e w1 ⟨rfl, hb1⟩
  rw [e0]
  have hL1 := Aside0.mk (Loc.on hb1 hL.out)
  have hB1 := Aside0.mk (hb.out.trans hb1)
  have q0 := blk_cell hL1.out.1
  have q1 := blk_cell hL1.out.2.1
  clear hb1
  go_wp2_with (go_at_call 22; refine Stop.out ?_)
  refine ⟨(l4Ints_calls _ _ _ _ _ vs vs (h1.on hB1.out) (k1.on hB1.out)).mono ?_⟩
  rintro e w2 ⟨rfl, hb2⟩
  rw [e1]
  clear q0 q1
  go_wp2
  go_ret
  exact ⟨rfl, hB1.out.trans hb2⟩
theorem sIsSubset_calls (w : World) (A0 n0 c0 A1 c1) (fs : List Fct) (h1 : Fcts w A1 c1 fs) (A2 n2 c2 A3 c3) (gs : List Fct) (h3 : Fcts w A3 c3 gs) (hs : ∀ f ∈ fs, hasF gs f = true) : Calls Tryz.prog 16 #[.agg #[.slice A0 n0 c0, .slice A1 fs.length c1], .agg #[.slice A2 n2 c2, .slice A3 gs.length c3]] w fun e w' => e = .returned (.bool true) ∧ On w w' := by
  have hmax := h1.max
  have h1' := Aside0.mk h1
  have h3' := Aside0.mk h3
  have hs' := Aside0.mk hs
  clear h1 h3 hs
  have hb := Aside0.mk (On.alloc (On.alloc (On.refl w) (.cells #[.slice A0 n0 c0, .slice A1 fs.length c1] 27)) (.cells #[.slice A2 n2 c2, .slice A3 gs.length c3] 27))
  have hL := Aside0.mk (loc2 w #[.slice A0 n0 c0, .slice A1 fs.length c1] #[.slice A2 n2 c2, .slice A3 gs.length c3] 27 27)
  go_enter Tryz.func16, Tryz.ntmps16
  go_wp2
  go_loopw [5] (fun v wr => ∃ k : Nat, k ≤ fs.length ∧ v = .int .i64 k ∧ Aside0 (On w wr) ∧ Aside0 (Loc wr [(w.heap.size, #[.slice A0 n0 c0, .slice A1 fs.length c1], 27), (w.heap.size + 1, #[.slice A2 n2 c2, .slice A3 gs.length c3], 27)])) (fun v _ => fs.length - (intOf v).toNat)
  case atStart => exact ⟨0, Nat.zero_le _, rfl, hb, hL⟩
  case round =>
    obtain ⟨k, hk, rfl, hB, hLr⟩ := hrel
    have q0 := blk_cell hLr.out.1
    have q1 := blk_cell hLr.out.2.1
    by_cases hlt : k < fs.length
    · obtain ⟨ad, A4, c4, rfl, x0, x1, x2⟩ := (h1'.out.on hB.out).at k hlt
      have hpl := Aside0.mk (show 0 ≤ place gs fs[k] by have h := hs'.out _ (List.getElem_mem hlt); rw [hasF_place] at h; exact of_decide_eq_true h)
      obtain ⟨f, hf⟩ : ∃ f, fs[k] = f := ⟨_, rfl⟩
      rw [hf] at x0 x1 x2 hpl
      have x2' := Aside0.mk x2
      clear hf x2
      obtain ⟨pl, hp⟩ : ∃ pl, place gs f = pl := ⟨_, rfl⟩
      have hpc := Aside0.mk (fun W (hS : On wr W) => l5Place_calls W A2 n2 c2 A3 c3 A4 c4 gs f (h3'.out.on (hB.out.trans hS)) (x2'.out.on hS))
      rw [hp] at hpl hpc
      clear hp
      have hn1 : decide (pl < 0) = false := decide_eq_false (by have := hpl.out; omega)
      have hn2 : (pl < 0) = False := eq_false (by have := hpl.out; omega)
      go_wp2
      refine Reg.region [(0,.L),(1,.L),(2,.L),(3,.L),(4,.L),(5,.L),(6,.C),(7,.L)] [] (by kernel_rfl) (by kernel_rfl) ?_
      repeat first | refine sP ?_ | refine sS ?_ | refine sA ?_ | refine sL ?_ | refine sQ ?_ | refine sO ?_
      refine callC (.int .i64 pl) Tryz.func35 (fun w' hS => ?_) ?_
      focus exact hpc.out w' hS
      repeat first | refine sP ?_ | refine sS ?_ | refine sA ?_ | refine sL ?_ | refine sQ ?_ | refine sO ?_
      refine Reg.nil fun w2 hS => ?_
      have hS' := Aside0.mk hS
      clear hS
      go_wp2
      exact ⟨⟨k + 1, by omega, by go_num, ⟨hB.out.trans hS'.out⟩, ⟨Loc.on hS'.out hLr.out⟩⟩, by simp [intOf]; omega⟩
    · go_wp2
      go_ret
      exact ⟨rfl, hB.out⟩
end Go.Proofs.YtgemaohdlibboaaGreat.H
/- Walk: the law FnExactFindHomomorphism. No condition. -/
namespace Go.Proofs.YtgemaohdlibboaaGreat.H
open Go Go.RowKit Go.Proofs.YtgemaohdlibboaaGreatW.PrintWords Go.Proofs.YtgemaohdlibboaaGreatW.PrintLast
open Go.Proofs.YtgemaohdlibboaaGreat.Reg (On on_draw)
set_option maxHeartbeats 8000000
set_option maxRecDepth 100000
set_option linter.unusedVariables false
set_option linter.unusedSimpArgs false

theorem sFindV (w : World) (v u : Value) (rs : List Rel) (fs : List Fct) (qs : List Rel) (gs : List Fct) (h : RIn w v rs fs) (k : RIn w u qs gs) : Calls Tryz.prog 7 #[v, u] w (Got fun v w' => ∃ v1, v = .tuple #[v1, .bool (hasHom rs fs qs gs)] ∧ OSp w' w.heap.size v1 (head1 rs fs qs gs).1 (head1 rs fs qs gs).2 ∧ On w w') := by
  obtain ⟨A0, c0, A1, c1, rfl, h0, h1⟩ := h.out
  obtain ⟨A2, c2, A3, c3, rfl, h2, h3⟩ := k.out
  refine (sFind_calls w A0 c0 A1 c1 rs fs h0 h1 A2 c2 A3 c3 qs gs h2 h3).mono fun e w' hh => ?_
  obtain ⟨v, rfl, a, b, rfl, hS, hb⟩ := hh
  exact ⟨_, rfl, _, rfl, OSp.of hS, hb⟩
theorem iFindV (w : World) (v u : Value) (rs : List Rel) (fs : List Fct) (qs : List Rel) (gs : List Fct) (h : RIn w v rs fs) (k : RIn w u qs gs) : Calls Tryz.prog 6 #[v, u] w (Got fun v w' => ∃ v1, v = .tuple #[v1, .bool (hasHom rs fs qs gs)] ∧ OSp w' w.heap.size v1 (head1 rs fs qs gs).1 (head1 rs fs qs gs).2 ∧ On w w') := by
  obtain ⟨A0, c0, A1, c1, rfl, h0, h1⟩ := h.out
  obtain ⟨A2, c2, A3, c3, rfl, h2, h3⟩ := k.out
  refine (iFind_calls w A0 c0 A1 c1 rs fs h0 h1 A2 c2 A3 c3 qs gs h2 h3).mono fun e w' hh => ?_
  obtain ⟨v, rfl, a, b, rfl, hS, hb⟩ := hh
  exact ⟨_, rfl, _, rfl, OSp.of hS, hb⟩
end Go.Proofs.YtgemaohdlibboaaGreat.H
/- Walks: the draw of two instances and a substitution. What is told: that they can be read; sizes. No condition. -/
namespace Go.Proofs.YtgemaohdlibboaaGreat.H
open Go Go.RowKit Go.Proofs.YtgemaohdlibboaaGreatW.PrintWords Go.Proofs.YtgemaohdlibboaaGreatW.PrintLast
open Go.Proofs.YtgemaohdlibboaaGreat.Reg (On on_draw)
set_option maxHeartbeats 8000000
set_option maxRecDepth 100000
set_option linter.unusedVariables false
set_option linter.unusedSimpArgs false

section
variable {fn : Func} {p u z : Tmp} {tmps : Array Value} {w : World} {g g' g'' : Nat} {t t' t'' : TypeId} {cs cs' cs'' : Array Value} {fr fr' fr'' : Nat × Nat}
theorem retIIS (h : fn.results = #[.cell p 27, .cell u 27, .cell z 32]) (hp : tmps.getD p undef = .pointer (some ⟨g, 0, none⟩)) (hp' : tmps.getD u undef = .pointer (some ⟨g', 0, none⟩)) (hp'' : tmps.getD z undef = .pointer (some ⟨g'', 0, none⟩)) (hg : w.heap[g]? = some (.cells cs t fr)) (hg' : w.heap[g']? = some (.cells cs' t' fr')) (hg'' : w.heap[g'']? = some (.cells cs'' t'' fr'')) (hs : cs.size = 2) (hs' : cs'.size = 2) (hs'' : cs''.size = 2) : (results fn tmps).run Tryz.prog w = .ok (.tuple #[.agg cs, .agg cs', .agg cs'']) w :=
  results_list (rs := [.cell p 27, .cell u 27, .cell z 32]) h (by simp) (.cell g t cs fr _ hp hg Tryz.underlying27 rfl (by rw [hs]; kernel_rfl) (.cell g' t' cs' fr' _ hp' hg' Tryz.underlying27 rfl (by rw [hs']; kernel_rfl) (.cell g'' t'' cs'' fr'' _ hp'' hg'' Tryz.underlying32 rfl (by rw [hs'']; kernel_rfl) .nil)))
end
/-- Two instances and a substitution that can be read. -/
structure DrV (w : World) (v1 v2 v3 : Value) : Prop where mk :: (out : ∃ rs fs qs gs ns vs, RIn w v1 rs fs ∧ RIn w v2 qs gs ∧ RSu w v3 ns vs ∧ fs.length ≤ 200 ∧ ∀ f ∈ fs, f.2.length ≤ 3)
/-- What the last region comes to. -/
structure MIs (w : World) (a' : Act) (w' : World) : Prop where mk :: (out : a'.tmps.getD 2 undef = .pointer (some ⟨w.heap.size, 0, none⟩) ∧ a'.tmps.getD 3 undef = .pointer (some ⟨w.heap.size + 1, 0, none⟩) ∧ a'.tmps.getD 4 undef = .pointer (some ⟨w.heap.size + 2, 0, none⟩) ∧ a'.defers = [] ∧ ∃ c1 c2 c3 : Array Value, w'.heap[w.heap.size]? = some (.cells c1 27 (0, 0)) ∧ w'.heap[w.heap.size + 1]? = some (.cells c2 27 (0, 0)) ∧ w'.heap[w.heap.size + 2]? = some (.cells c3 32 (0, 0)) ∧ c1.size = 2 ∧ c2.size = 2 ∧ c3.size = 2 ∧ DrV w' (.agg c1) (.agg c2) (.agg c3) ∧ On w w')
theorem DrawIsHomomorphism_calls (w : World) (A c) (xs : List Int) (hc : xs.length ≤ c) (hK : kBytes.C w A xs.length xs) :
    Calls Tryz.prog 15 #[.slice A xs.length c] w (Got fun v w' => ∃ v1 v2 v3, v = .tuple #[v1, v2, v3] ∧ DrV w' v1 v2 v3 ∧ On w w') := by
  have hb0 := Aside0.mk (On.alloc (On.alloc (On.alloc (On.refl w) (.cells #[.slice none 0 0, .slice none 0 0] 27 (0, 0))) (.cells #[.slice none 0 0, .slice none 0 0] 27 (0, 0))) (.cells #[.slice none 0 0, .slice none 0 0] 32 (0, 0)))
  have hL := Aside0.mk (loc3 w #[.slice none 0 0, .slice none 0 0] #[.slice none 0 0, .slice none 0 0] #[.slice none 0 0, .slice none 0 0] 27 27 32)
  have hw0 := Aside0.mk (show (((w.alloc (.cells #[.slice none 0 0, .slice none 0 0] 27 (0, 0))).alloc (.cells #[.slice none 0 0, .slice none 0 0] 27 (0, 0))).alloc (.cells #[.slice none 0 0, .slice none 0 0] 32 (0, 0))).heap.size = w.heap.size + 3 by simp only [World.size_alloc])
  have hK' := Aside0.mk hK
  have hc' := Aside0.mk hc
  clear hK hc
  go_enter Tryz.func15, Tryz.ntmps15
  go_wp2_with (go_at_call 19; refine Stop.out ?_)
  obtain ⟨w0, hw⟩ : ∃ w0, (((w.alloc (.cells #[.slice none 0 0, .slice none 0 0] 27 (0, 0))).alloc (.cells #[.slice none 0 0, .slice none 0 0] 27 (0, 0))).alloc (.cells #[.slice none 0 0, .slice none 0 0] 32 (0, 0))) = w0 := ⟨_, rfl⟩
  rw [hw] at hb0 hL hw0 ⊢
  clear hw
  refine ⟨(l7Two_calls w0 A c xs hc'.out (Kd.C_below hK'.out hb0.out)).mono ?_⟩
  rintro e w1 ⟨v, rfl, q, v1, v2, rs, fs, qs, gs, rfl, hR, hF, hl0, hl, hl2, hl3, hl4, hl5, hC, hb1⟩
  rw [hw0.out] at hR hF
  obtain ⟨A0, n0, c0, A1, n1, c1, rfl⟩ := hR.read.shape
  obtain ⟨B0, m0, d0, B1, m1, d1, rfl⟩ := hF.read.shape
  have hR' := Aside0.mk hR
  have hF' := Aside0.mk hF
  have hC' := Aside0.mk hC
  have hfl := Aside0.mk (And.intro hl hl2)
  have hW1 := Aside0.mk (hb0.out.trans hb1)
  have hi := Aside0.mk (blk_below hL.out.1 hb1)
  have hr := Aside0.mk (blk_below hL.out.2.1 hb1)
  have hz := Aside0.mk (blk_below hL.out.2.2.1 hb1)
  have hq := Aside0.mk (show w.heap.size + 3 ≤ q ∧ q < w1.heap.size from ⟨by have := hC.lo; have := hw0.out; omega, by obtain ⟨_, _, _, _, _, h, _⟩ := hC.blk; exact blk_lt h⟩)
  clear hR hF hl0 hl hl2 hl3 hl4 hl5 hb1 hC hL hb0
  have hL5 := Aside0.mk (loc2 w1 #[.slice none 0 0, .slice none 0 0] #[.slice none 0 0, .slice none 0 0] 27 27)
  have hd0 := blk_cell hL5.out.1
  have hd1 := blk_cell hL5.out.2.1
  have hf0 := blk_frozen hL5.out.1
  have hf1 := blk_frozen hL5.out.2.1
  go_wp2_with (go_at_call 7; refine Stop.out ?_)
  clear hd0 hd1 hf0 hf1 hL5
  obtain ⟨W3, hW3⟩ : ∃ W3, (w1.alloc (.cells #[.slice A0 n0 c0, .slice A1 n1 c1] 27 (0, 0))).alloc (.cells #[.slice B0 m0 d0, .slice B1 m1 d1] 27 (0, 0)) = W3 := ⟨_, rfl⟩
  have hS3 := Aside0.mk (show On w1 W3 from hW3 ▸ On.alloc (On.alloc (On.refl _) _) _)
  have hL3 := Aside0.mk (show Loc W3 [(w1.heap.size, #[.slice A0 n0 c0, .slice A1 n1 c1], 27), (w1.heap.size + 1, #[.slice B0 m0 d0, .slice B1 m1 d1], 27)] from hW3 ▸ loc2 w1 _ _ _ _)
  rw [hW3]
  clear hW3
  obtain ⟨g3, hg3⟩ : ∃ g3, w1.heap.size = g3 := ⟨_, rfl⟩
  rw [hg3] at hL3 hq ⊢
  clear hg3
  refine ⟨(sFindV W3 _ _ rs fs qs gs (hR'.out.read.on hS3.out) (hF'.out.read.on hS3.out)).mono ?_⟩
  rintro e w4 ⟨_, rfl, v3, rfl, hO, hb4⟩
  obtain ⟨x1, x2, rfl, hO1, hO2, hi1, hi2, -⟩ := hO.out
  obtain ⟨ns0, hns0⟩ : ∃ x, (head1 rs fs qs gs).1 = x := ⟨_, rfl⟩
  obtain ⟨vs0, hvs0⟩ : ∃ x, (head1 rs fs qs gs).2 = x := ⟨_, rfl⟩
  rw [hns0] at hO1 hi1
  rw [hvs0] at hO2 hi2
  obtain ⟨S0, s0, rfl⟩ := own_slice hO1
  obtain ⟨S1, s1, rfl⟩ := own_slice hO2
  have hO1' := Aside0.mk hO1
  have hO2' := Aside0.mk hO2
  have hin0 := Aside0.mk (And.intro hi1 hi2)
  have hS4 := Aside0.mk (hS3.out.trans hb4)
  have hL4 := Aside0.mk (Loc.on hb4 hL3.out)
  have hW3s := Aside0.mk (show w.heap.size + 3 ≤ W3.heap.size by have h1 := blk_lt hL3.out.1; have := hq.out; omega)
  have hq3 := Aside0.mk (show q < W3.heap.size by have h1 := blk_lt hL3.out.1; have := hq.out; omega)
  clear hO hO1 hO2 hi1 hi2 hns0 hvs0 hb4 hL3 hS3
  have hfill := alloc_fill w4
  have hk8 := Aside0.mk (loc_new w4 #[.slice S0 ns0.length s0, .slice S1 vs0.length s1] 32)
  have hS5 := Aside0.mk (On.alloc (On.refl w4) (.cells #[.slice S0 ns0.length s0, .slice S1 vs0.length s1] 32 (0, 0)))
  have hg4 := Aside0.mk (show g3 + 1 < w4.heap.size from blk_lt hL4.out.2.1)
  obtain ⟨bo, hbo⟩ : ∃ bo, hasHom rs fs qs gs = bo := ⟨_, rfl⟩
  rw [hbo]
  clear hbo
  cases bo with
  | false =>
    go_wp2
    clear hfill
    obtain ⟨w6, hw6⟩ : ∃ w6, w4.alloc (.cells #[.slice S0 ns0.length s0, .slice S1 vs0.length s1] 32 (0, 0)) = w6 := ⟨_, rfl⟩
    rw [hw6] at hk8 hS5 ⊢
    clear hw6
    obtain ⟨g8, hg8⟩ : ∃ g8, w4.heap.size = g8 := ⟨_, rfl⟩
    rw [hg8] at hk8 hg4 ⊢
    clear hg8
    have hS6 := Aside0.mk (hS4.out.trans hS5.out)
    have hL6 := Aside0.mk (Loc.on hS5.out hL4.out)
    have hg6 := Aside0.mk (And.intro hL6.out.1 (And.intro hL6.out.2.1 hk8.out))
    have hsg := Aside0.mk (show w.heap.size + 3 ≤ g3 ∧ w.heap.size + 3 ≤ g8 by have := hq.out; have := hg4.out; omega)
    replace hq := Aside0.mk (show w.heap.size + 3 ≤ q ∧ q < g3 ∧ q < g8 by have := hq.out; have := hg4.out; omega)
    have hi6 := Aside0.mk (blk_below hi.out hS6.out)
    have hr6 := Aside0.mk (blk_below hr.out hS6.out)
    have hz6 := Aside0.mk (blk_below hz.out hS6.out)
    have hA6 := Aside0.mk (hR'.out.on hS6.out)
    have hB6 := Aside0.mk (hF'.out.on hS6.out)
    have hC6 := Aside0.mk (hC'.out.next hS6.out)
    have hW6 := Aside0.mk (hW1.out.trans hS6.out)
    refine Reg.regionH (fun w' => w'.heap[g3]? = some (.cells #[.slice A0 n0 c0, .slice A1 n1 c1] 27 (0, 0)) ∧ w'.heap[g3 + 1]? = some (.cells #[.slice B0 m0 d0, .slice B1 m1 d1] 27 (0, 0)) ∧ w'.heap[g8]? = some (.cells #[.slice S0 ns0.length s0, .slice S1 vs0.length s1] 32 (0, 0))) (.r 0 (.r 1 (.r 2 (.n 3 (.leaf [4,5,6]))))) 6 (fun a a' w' => MIs w a' w') (by kernel_rfl) (by kernel_rfl) ⟨blk_below hg6.out.1 (on_draw _), blk_below hg6.out.2.1 (on_draw _), blk_below hg6.out.2.2 (on_draw _)⟩ ?_ ?_
    · obtain ⟨u0, hu0⟩ : ∃ u0, ({ w6 with drawn := w6.drawn + 1 } : World) = u0 := ⟨_, rfl⟩
      have hS0 := Aside0.mk (show On w6 u0 from (hu0 ▸ on_draw w6))
      rw [hu0]
      clear hu0
      refine Reg.hR (hy := by intro w' hS; have hA := blk_cell hS.1; clear hS; (go_simp; first | done | rfl)) ?_
      refine Reg.hR (hy := by intro w' hS; have hA := blk_cell hS.2.1; clear hS; (go_simp; first | done | rfl)) ?_
      refine Reg.hR (hy := by intro w' hS; clear hS; (go_simp; first | done | rfl)) ?_
      refine Reg.hN ?_
      refine goesF 33 Tryz.func40 ((l6Sub_calls _ _ q (hC6.out.next hS0.out) 3 (by omega)).mono ?_)
      rintro e u ⟨v, rfl, ⟨D0, y0, D1, y1, ns, vs, rfl, hN0, hN1, hi0, hi1, -, -⟩, hC, hE⟩
      have hqq := hq.out
      have hss := hsg.out
      have hE' := Aside0.mk ((Ex.of_on (S := fun b => b = q) hS0.out).trans hE fun _ _ h => h)
      have hsz := Aside0.mk (show w.heap.size + 3 ≤ u0.heap.size by have h1 := blk_lt hz6.out; have h2 := hS0.out.size; omega)
      have hgu := Aside0.mk (And.intro (blk_ex hE'.out hg6.out.1 (by omega)) (And.intro (blk_ex hE'.out hg6.out.2.1 (by omega)) (blk_ex hE'.out hg6.out.2.2 (by omega))))
      have hDu := Aside0.mk (And.intro (own_lower hN0 hsz.out) (own_lower hN1 hsz.out))
      have hin := Aside0.mk (And.intro hi0 hi1)
      have hiu := Aside0.mk (blk_ex hE'.out hi6.out (by omega))
      have hru := Aside0.mk (blk_ex hE'.out hr6.out (by omega))
      have hzu := Aside0.mk (blk_ex hE'.out hz6.out (by omega))
      have hAu := Aside0.mk (hA6.out.ex (hE'.out.mono fun b h => .inr h))
      have hBu := Aside0.mk (hB6.out.ex (hE'.out.mono fun b h => .inr h))
      have hWu := Aside0.mk (Ex.on hW6.out hE'.out (fun i h => by have h' : i = q := h; omega))
      clear hN0 hN1 hi0 hi1 hC hE hqq hss
      refine ⟨_, rfl, hgu.out, ?_⟩
      simp only [Act.put, List.setIfInBounds_toArray, List.set_cons_zero, List.set_cons_succ]
      refine Reg.hLeaf ?_
      refine Reg.tG ?_
      have hcr := blk_cell hiu.out
      have hfr := blk_frozen hiu.out
      have hqs := hsg.out
      obtain ⟨X, hX⟩ : ∃ X, (u.setCell ⟨w.heap.size, 0, none⟩ (.slice A0 n0 c0)).setCell ⟨w.heap.size, 1, none⟩ (.slice A1 n1 c1) = X := ⟨_, rfl⟩
      have EX := Aside0.mk (show Ex (fun b => b = w.heap.size) u X from hX ▸ (Ex.set u ⟨w.heap.size, 0, none⟩ (.slice A0 n0 c0)).trans (Ex.set _ ⟨w.heap.size, 1, none⟩ (.slice A1 n1 c1)) (fun _ _ h => h))
      have hiX := Aside0.mk (show X.heap[w.heap.size]? = some (.cells #[.slice A0 n0 c0, .slice A1 n1 c1] 27 (0, 0)) from hX ▸ blk_set (blk_set hiu.out 0 _) 1 _)
      have hrX := Aside0.mk (blk_ex EX.out hru.out (by omega))
      have hzX := Aside0.mk (blk_ex EX.out hzu.out (by omega))
      have hgX := Aside0.mk (And.intro (blk_ex EX.out hgu.out.1 (by omega)) (And.intro (blk_ex EX.out hgu.out.2.1 (by omega)) (blk_ex EX.out hgu.out.2.2 (by omega))))
      have hX' := Aside0.mk hX
      clear hX hqs
      go_wp2
      rw [hX'.out]
      refine ⟨hgX.out, ?_⟩
      refine Reg.tG ?_
      clear hcr hfr
      have hcr := blk_cell hrX.out
      have hfr := blk_frozen hrX.out
      have hqs := hsg.out
      obtain ⟨Y, hY⟩ : ∃ Y, (X.setCell ⟨w.heap.size + 1, 0, none⟩ (.slice B0 m0 d0)).setCell ⟨w.heap.size + 1, 1, none⟩ (.slice B1 m1 d1) = Y := ⟨_, rfl⟩
      have EY := Aside0.mk (show Ex (fun b => b = w.heap.size + 1) X Y from hY ▸ (Ex.set X ⟨w.heap.size + 1, 0, none⟩ (.slice B0 m0 d0)).trans (Ex.set _ ⟨w.heap.size + 1, 1, none⟩ (.slice B1 m1 d1)) (fun _ _ h => h))
      have hrY := Aside0.mk (show Y.heap[w.heap.size + 1]? = some (.cells #[.slice B0 m0 d0, .slice B1 m1 d1] 27 (0, 0)) from hY ▸ blk_set (blk_set hrX.out 0 _) 1 _)
      have hiY := Aside0.mk (blk_ex EY.out hiX.out (by omega))
      have hzY := Aside0.mk (blk_ex EY.out hzX.out (by omega))
      have hgY := Aside0.mk (And.intro (blk_ex EY.out hgX.out.1 (by omega)) (And.intro (blk_ex EY.out hgX.out.2.1 (by omega)) (blk_ex EY.out hgX.out.2.2 (by omega))))
      have hY' := Aside0.mk hY
      clear hY hqs
      go_wp2
      rw [hY'.out]
      refine ⟨hgY.out, ?_⟩
      refine Reg.tE ?_
      clear hcr hfr
      have hcr := blk_cell hzY.out
      have hfr := blk_frozen hzY.out
      go_wp2
      have EZ := (Ex.set Y ⟨w.heap.size + 2, 0, none⟩ (.slice D0 ns.length y0)).trans (Ex.set _ ⟨w.heap.size + 2, 1, none⟩ (.slice D1 vs.length y1)) (fun _ _ h => h)
      have EE := ((EX.out.mono (S' := fun b => b = w.heap.size ∨ b = w.heap.size + 1 ∨ b = w.heap.size + 2) fun _ h => .inl h).trans EY.out (fun i hi h => .inr (.inl h))).trans EZ (fun i hi h => .inr (.inr h))
      have hqs := hsg.out
      have hN0 := own_ex hDu.out.1 EE (fun i hi e => by have := own_base hDu.out.1 i hi; omega)
      have hN1 := own_ex hDu.out.2 EE (fun i hi e => by have := own_base hDu.out.2 i hi; omega)
      exact ⟨trivial, rfl, rfl, rfl, rfl, #[.slice A0 n0 c0, .slice A1 n1 c1], #[.slice B0 m0 d0, .slice B1 m1 d1], #[.slice D0 ns.length y0, .slice D1 vs.length y1], blk_ex EZ hiY.out (fun e => by have e' : w.heap.size = w.heap.size + 2 := e; omega), blk_ex EZ hrY.out (fun e => by have e' : w.heap.size + 1 = w.heap.size + 2 := e; omega), blk_set (blk_set hzY.out 0 _) 1 _, rfl, rfl, rfl, ⟨rs, fs, qs, gs, ns, vs, (hAu.out.ex (EE.mono fun b h => by omega)).read, (hBu.out.ex (EE.mono fun b h => by omega)).read, ⟨D0, y0, D1, y1, rfl, (OI.same hN0 hin.out.1).2, (OI.same hN1 hin.out.2).2⟩, hfl.out.1, hfl.out.2⟩, Ex.on hWu.out EE (fun i h => by omega)⟩
    · skip
      intro a' w' hM
      obtain ⟨h2, h3, h4, hd, k1, k2, k3, e1, e2, e3, z1, z2, z3, hV, hb⟩ := hM.out
      go_wp2
      refine bodyPost_ret (retIIS rfl h2 h3 h4 e1 e2 e3 z1 z2 z3) hd ?_
      exact ⟨_, rfl, _, _, _, rfl, hV, hb⟩
  | true =>
    go_wp2_with (go_at_call 39; refine Stop.out ?_)
    clear hfill
    obtain ⟨w5, hw5⟩ : ∃ w6, w4.alloc (.cells #[.slice S0 ns0.length s0, .slice S1 vs0.length s1] 32 (0, 0)) = w6 := ⟨_, rfl⟩
    rw [hw5] at hk8 hS5 ⊢
    clear hw5
    obtain ⟨g8, hg8⟩ : ∃ g8, w4.heap.size = g8 := ⟨_, rfl⟩
    rw [hg8] at hk8 hg4 ⊢
    clear hg8
    refine ⟨(l1Once_calls w0 w5 q (hC'.out.next (hS4.out.trans hS5.out)) 2 (by omega) (by omega)).mono ?_⟩
    rintro e w6 ⟨v, rfl, ⟨on, rfl⟩, hC, hE⟩
    have hC6 := Aside0.mk hC
    have hE6 := Aside0.mk ((Ex.of_on (S := fun b => b = q) (hS4.out.trans hS5.out)).trans hE fun _ _ h => h)
    have hE5 := Aside0.mk hE
    clear hC hE
    have hsg := Aside0.mk (show w.heap.size + 3 ≤ g3 ∧ w.heap.size + 3 ≤ g8 by have := hq.out; have := hg4.out; omega)
    replace hq := Aside0.mk (show w.heap.size + 3 ≤ q ∧ q < g3 ∧ q < g8 by have := hq.out; have := hg4.out; omega)
    have hqq := hq.out
    have hss := hsg.out
    have hL6 := Aside0.mk (Loc.on hS5.out hL4.out)
    have hg6 := Aside0.mk (And.intro (blk_ex hE5.out hL6.out.1 (by omega)) (And.intro (blk_ex hE5.out hL6.out.2.1 (by omega)) (blk_ex hE5.out hk8.out (by omega))))
    have hi6 := Aside0.mk (blk_ex hE6.out hi.out (by omega))
    have hr6 := Aside0.mk (blk_ex hE6.out hr.out (by omega))
    have hz6 := Aside0.mk (blk_ex hE6.out hz.out (by omega))
    have hA6 := Aside0.mk (hR'.out.ex (hE6.out.mono fun b h => .inr h))
    have hB6 := Aside0.mk (hF'.out.ex (hE6.out.mono fun b h => .inr h))
    have hW6 := Aside0.mk (Ex.on hW1.out hE6.out (fun i h => by have h' : i = q := h; omega))
    have hD6 := Aside0.mk (And.intro (own_ex (pw_own_below hO1'.out hS5.out) hE5.out (fun i hi e => by have h1 := own_base hO1'.out i hi; have h2 : i = q := e; have h3 := hq3.out; omega)) (own_ex (pw_own_below hO2'.out hS5.out) hE5.out (fun i hi e => by have h1 := own_base hO2'.out i hi; have h2 : i = q := e; have h3 := hq3.out; omega)))
    clear hqq hss
    cases on with
    | false =>
      go_wp2
      refine Reg.regionH (fun w' => w'.heap[g3]? = some (.cells #[.slice A0 n0 c0, .slice A1 n1 c1] 27 (0, 0)) ∧ w'.heap[g3 + 1]? = some (.cells #[.slice B0 m0 d0, .slice B1 m1 d1] 27 (0, 0)) ∧ w'.heap[g8]? = some (.cells #[.slice S0 ns0.length s0, .slice S1 vs0.length s1] 32 (0, 0))) (.r 0 (.r 1 (.r 2 (.n 3 (.leaf [4,5,6]))))) 6 (fun a a' w' => MIs w a' w') (by kernel_rfl) (by kernel_rfl) ⟨blk_below hg6.out.1 (on_draw _), blk_below hg6.out.2.1 (on_draw _), blk_below hg6.out.2.2 (on_draw _)⟩ ?_ ?_
      · obtain ⟨u0, hu0⟩ : ∃ u0, ({ w6 with drawn := w6.drawn + 1 } : World) = u0 := ⟨_, rfl⟩
        have hS0 := Aside0.mk (show On w6 u0 from (hu0 ▸ on_draw w6))
        rw [hu0]
        clear hu0
        refine Reg.hR (hy := by intro w' hS; have hA := blk_cell hS.1; clear hS; (go_simp; first | done | rfl)) ?_
        refine Reg.hR (hy := by intro w' hS; have hA := blk_cell hS.2.1; clear hS; (go_simp; first | done | rfl)) ?_
        refine Reg.hR (hy := by intro w' hS; clear hS; (go_simp; first | done | rfl)) ?_
        refine Reg.hN ?_
        refine goesF 33 Tryz.func40 ((l6Sub_calls _ _ q (hC6.out.next hS0.out) 3 (by omega)).mono ?_)
        rintro e u ⟨v, rfl, ⟨D0, y0, D1, y1, ns, vs, rfl, hN0, hN1, hi0, hi1, -, -⟩, hC, hE⟩
        have hqq := hq.out
        have hss := hsg.out
        have hE' := Aside0.mk ((Ex.of_on (S := fun b => b = q) hS0.out).trans hE fun _ _ h => h)
        have hsz := Aside0.mk (show w.heap.size + 3 ≤ u0.heap.size by have h1 := blk_lt hz6.out; have h2 := hS0.out.size; omega)
        have hgu := Aside0.mk (And.intro (blk_ex hE'.out hg6.out.1 (by omega)) (And.intro (blk_ex hE'.out hg6.out.2.1 (by omega)) (blk_ex hE'.out hg6.out.2.2 (by omega))))
        have hDu := Aside0.mk (And.intro (own_lower hN0 hsz.out) (own_lower hN1 hsz.out))
        have hin := Aside0.mk (And.intro hi0 hi1)
        have hiu := Aside0.mk (blk_ex hE'.out hi6.out (by omega))
        have hru := Aside0.mk (blk_ex hE'.out hr6.out (by omega))
        have hzu := Aside0.mk (blk_ex hE'.out hz6.out (by omega))
        have hAu := Aside0.mk (hA6.out.ex (hE'.out.mono fun b h => .inr h))
        have hBu := Aside0.mk (hB6.out.ex (hE'.out.mono fun b h => .inr h))
        have hWu := Aside0.mk (Ex.on hW6.out hE'.out (fun i h => by have h' : i = q := h; omega))
        clear hN0 hN1 hi0 hi1 hC hE hqq hss
        refine ⟨_, rfl, hgu.out, ?_⟩
        simp only [Act.put, List.setIfInBounds_toArray, List.set_cons_zero, List.set_cons_succ]
        refine Reg.hLeaf ?_
        refine Reg.tG ?_
        have hcr := blk_cell hiu.out
        have hfr := blk_frozen hiu.out
        have hqs := hsg.out
        obtain ⟨X, hX⟩ : ∃ X, (u.setCell ⟨w.heap.size, 0, none⟩ (.slice A0 n0 c0)).setCell ⟨w.heap.size, 1, none⟩ (.slice A1 n1 c1) = X := ⟨_, rfl⟩
        have EX := Aside0.mk (show Ex (fun b => b = w.heap.size) u X from hX ▸ (Ex.set u ⟨w.heap.size, 0, none⟩ (.slice A0 n0 c0)).trans (Ex.set _ ⟨w.heap.size, 1, none⟩ (.slice A1 n1 c1)) (fun _ _ h => h))
        have hiX := Aside0.mk (show X.heap[w.heap.size]? = some (.cells #[.slice A0 n0 c0, .slice A1 n1 c1] 27 (0, 0)) from hX ▸ blk_set (blk_set hiu.out 0 _) 1 _)
        have hrX := Aside0.mk (blk_ex EX.out hru.out (by omega))
        have hzX := Aside0.mk (blk_ex EX.out hzu.out (by omega))
        have hgX := Aside0.mk (And.intro (blk_ex EX.out hgu.out.1 (by omega)) (And.intro (blk_ex EX.out hgu.out.2.1 (by omega)) (blk_ex EX.out hgu.out.2.2 (by omega))))
        have hX' := Aside0.mk hX
        clear hX hqs
        go_wp2
        rw [hX'.out]
        refine ⟨hgX.out, ?_⟩
        refine Reg.tG ?_
        clear hcr hfr
        have hcr := blk_cell hrX.out
        have hfr := blk_frozen hrX.out
        have hqs := hsg.out
        obtain ⟨Y, hY⟩ : ∃ Y, (X.setCell ⟨w.heap.size + 1, 0, none⟩ (.slice B0 m0 d0)).setCell ⟨w.heap.size + 1, 1, none⟩ (.slice B1 m1 d1) = Y := ⟨_, rfl⟩
        have EY := Aside0.mk (show Ex (fun b => b = w.heap.size + 1) X Y from hY ▸ (Ex.set X ⟨w.heap.size + 1, 0, none⟩ (.slice B0 m0 d0)).trans (Ex.set _ ⟨w.heap.size + 1, 1, none⟩ (.slice B1 m1 d1)) (fun _ _ h => h))
        have hrY := Aside0.mk (show Y.heap[w.heap.size + 1]? = some (.cells #[.slice B0 m0 d0, .slice B1 m1 d1] 27 (0, 0)) from hY ▸ blk_set (blk_set hrX.out 0 _) 1 _)
        have hiY := Aside0.mk (blk_ex EY.out hiX.out (by omega))
        have hzY := Aside0.mk (blk_ex EY.out hzX.out (by omega))
        have hgY := Aside0.mk (And.intro (blk_ex EY.out hgX.out.1 (by omega)) (And.intro (blk_ex EY.out hgX.out.2.1 (by omega)) (blk_ex EY.out hgX.out.2.2 (by omega))))
        have hY' := Aside0.mk hY
        clear hY hqs
        go_wp2
        rw [hY'.out]
        refine ⟨hgY.out, ?_⟩
        refine Reg.tE ?_
        clear hcr hfr
        have hcr := blk_cell hzY.out
        have hfr := blk_frozen hzY.out
        go_wp2
        have EZ := (Ex.set Y ⟨w.heap.size + 2, 0, none⟩ (.slice D0 ns.length y0)).trans (Ex.set _ ⟨w.heap.size + 2, 1, none⟩ (.slice D1 vs.length y1)) (fun _ _ h => h)
        have EE := ((EX.out.mono (S' := fun b => b = w.heap.size ∨ b = w.heap.size + 1 ∨ b = w.heap.size + 2) fun _ h => .inl h).trans EY.out (fun i hi h => .inr (.inl h))).trans EZ (fun i hi h => .inr (.inr h))
        have hqs := hsg.out
        have hN0 := own_ex hDu.out.1 EE (fun i hi e => by have := own_base hDu.out.1 i hi; omega)
        have hN1 := own_ex hDu.out.2 EE (fun i hi e => by have := own_base hDu.out.2 i hi; omega)
        exact ⟨trivial, rfl, rfl, rfl, rfl, #[.slice A0 n0 c0, .slice A1 n1 c1], #[.slice B0 m0 d0, .slice B1 m1 d1], #[.slice D0 ns.length y0, .slice D1 vs.length y1], blk_ex EZ hiY.out (fun e => by have e' : w.heap.size = w.heap.size + 2 := e; omega), blk_ex EZ hrY.out (fun e => by have e' : w.heap.size + 1 = w.heap.size + 2 := e; omega), blk_set (blk_set hzY.out 0 _) 1 _, rfl, rfl, rfl, ⟨rs, fs, qs, gs, ns, vs, (hAu.out.ex (EE.mono fun b h => by omega)).read, (hBu.out.ex (EE.mono fun b h => by omega)).read, ⟨D0, y0, D1, y1, rfl, (OI.same hN0 hin.out.1).2, (OI.same hN1 hin.out.2).2⟩, hfl.out.1, hfl.out.2⟩, Ex.on hWu.out EE (fun i h => by omega)⟩
      · skip
        intro a' w' hM
        obtain ⟨h2, h3, h4, hd, k1, k2, k3, e1, e2, e3, z1, z2, z3, hV, hb⟩ := hM.out
        go_wp2
        refine bodyPost_ret (retIIS rfl h2 h3 h4 e1 e2 e3 z1 z2 z3) hd ?_
        exact ⟨_, rfl, _, _, _, rfl, hV, hb⟩
    | true =>
      go_wp2
      refine Reg.regionH (fun w' => w'.heap[g3]? = some (.cells #[.slice A0 n0 c0, .slice A1 n1 c1] 27 (0, 0)) ∧ w'.heap[g3 + 1]? = some (.cells #[.slice B0 m0 d0, .slice B1 m1 d1] 27 (0, 0)) ∧ w'.heap[g8]? = some (.cells #[.slice S0 ns0.length s0, .slice S1 vs0.length s1] 32 (0, 0))) (.r 0 (.r 1 (.r 2 (.leaf [3,4,5])))) 5 (fun a a' w' => MIs w a' w') (by kernel_rfl) (by kernel_rfl) ⟨blk_below hg6.out.1 (on_draw _), blk_below hg6.out.2.1 (on_draw _), blk_below hg6.out.2.2 (on_draw _)⟩ ?_ ?_
      · obtain ⟨u, hu0⟩ : ∃ u0, ({ w6 with drawn := w6.drawn + 1 } : World) = u0 := ⟨_, rfl⟩
        have hS0 := Aside0.mk (show On w6 u from (hu0 ▸ on_draw w6))
        rw [hu0]
        clear hu0
        refine Reg.hR (hy := by intro w' hS; have hA := blk_cell hS.1; clear hS; (go_simp; first | done | rfl)) ?_
        refine Reg.hR (hy := by intro w' hS; have hA := blk_cell hS.2.1; clear hS; (go_simp; first | done | rfl)) ?_
        refine Reg.hR (hy := by intro w' hS; have hA := blk_cell hS.2.2; clear hS; (go_simp; first | done | rfl)) ?_
        obtain ⟨D0, hD0⟩ : ∃ x, x = S0 := ⟨_, rfl⟩
        obtain ⟨D1, hD1⟩ : ∃ x, x = S1 := ⟨_, rfl⟩
        obtain ⟨y0, hy0⟩ : ∃ x, x = s0 := ⟨_, rfl⟩
        obtain ⟨y1, hy1⟩ : ∃ x, x = s1 := ⟨_, rfl⟩
        obtain ⟨ns, hns⟩ : ∃ x, x = ns0 := ⟨_, rfl⟩
        obtain ⟨vs, hvs⟩ : ∃ x, x = vs0 := ⟨_, rfl⟩
        subst hD0 hD1 hy0 hy1 hns hvs
        have hgu := Aside0.mk (And.intro (blk_below hg6.out.1 hS0.out) (And.intro (blk_below hg6.out.2.1 hS0.out) (blk_below hg6.out.2.2 hS0.out)))
        have hDu := Aside0.mk (And.intro (own_lower (pw_own_below hD6.out.1 hS0.out) hW3s.out) (own_lower (pw_own_below hD6.out.2 hS0.out) hW3s.out))
        have hin := hin0
        have hiu := Aside0.mk (blk_below hi6.out hS0.out)
        have hru := Aside0.mk (blk_below hr6.out hS0.out)
        have hzu := Aside0.mk (blk_below hz6.out hS0.out)
        have hAu := Aside0.mk (hA6.out.on hS0.out)
        have hBu := Aside0.mk (hB6.out.on hS0.out)
        have hWu := Aside0.mk (hW6.out.trans hS0.out)
        refine Reg.hLeaf ?_
        refine Reg.tG ?_
        have hcr := blk_cell hiu.out
        have hfr := blk_frozen hiu.out
        have hqs := hsg.out
        obtain ⟨X, hX⟩ : ∃ X, (u.setCell ⟨w.heap.size, 0, none⟩ (.slice A0 n0 c0)).setCell ⟨w.heap.size, 1, none⟩ (.slice A1 n1 c1) = X := ⟨_, rfl⟩
        have EX := Aside0.mk (show Ex (fun b => b = w.heap.size) u X from hX ▸ (Ex.set u ⟨w.heap.size, 0, none⟩ (.slice A0 n0 c0)).trans (Ex.set _ ⟨w.heap.size, 1, none⟩ (.slice A1 n1 c1)) (fun _ _ h => h))
        have hiX := Aside0.mk (show X.heap[w.heap.size]? = some (.cells #[.slice A0 n0 c0, .slice A1 n1 c1] 27 (0, 0)) from hX ▸ blk_set (blk_set hiu.out 0 _) 1 _)
        have hrX := Aside0.mk (blk_ex EX.out hru.out (by omega))
        have hzX := Aside0.mk (blk_ex EX.out hzu.out (by omega))
        have hgX := Aside0.mk (And.intro (blk_ex EX.out hgu.out.1 (by omega)) (And.intro (blk_ex EX.out hgu.out.2.1 (by omega)) (blk_ex EX.out hgu.out.2.2 (by omega))))
        have hX' := Aside0.mk hX
        clear hX hqs
        go_wp2
        rw [hX'.out]
        refine ⟨hgX.out, ?_⟩
        refine Reg.tG ?_
        clear hcr hfr
        have hcr := blk_cell hrX.out
        have hfr := blk_frozen hrX.out
        have hqs := hsg.out
        obtain ⟨Y, hY⟩ : ∃ Y, (X.setCell ⟨w.heap.size + 1, 0, none⟩ (.slice B0 m0 d0)).setCell ⟨w.heap.size + 1, 1, none⟩ (.slice B1 m1 d1) = Y := ⟨_, rfl⟩
        have EY := Aside0.mk (show Ex (fun b => b = w.heap.size + 1) X Y from hY ▸ (Ex.set X ⟨w.heap.size + 1, 0, none⟩ (.slice B0 m0 d0)).trans (Ex.set _ ⟨w.heap.size + 1, 1, none⟩ (.slice B1 m1 d1)) (fun _ _ h => h))
        have hrY := Aside0.mk (show Y.heap[w.heap.size + 1]? = some (.cells #[.slice B0 m0 d0, .slice B1 m1 d1] 27 (0, 0)) from hY ▸ blk_set (blk_set hrX.out 0 _) 1 _)
        have hiY := Aside0.mk (blk_ex EY.out hiX.out (by omega))
        have hzY := Aside0.mk (blk_ex EY.out hzX.out (by omega))
        have hgY := Aside0.mk (And.intro (blk_ex EY.out hgX.out.1 (by omega)) (And.intro (blk_ex EY.out hgX.out.2.1 (by omega)) (blk_ex EY.out hgX.out.2.2 (by omega))))
        have hY' := Aside0.mk hY
        clear hY hqs
        go_wp2
        rw [hY'.out]
        refine ⟨hgY.out, ?_⟩
        refine Reg.tE ?_
        clear hcr hfr
        have hcr := blk_cell hzY.out
        have hfr := blk_frozen hzY.out
        go_wp2
        have EZ := (Ex.set Y ⟨w.heap.size + 2, 0, none⟩ (.slice D0 ns.length y0)).trans (Ex.set _ ⟨w.heap.size + 2, 1, none⟩ (.slice D1 vs.length y1)) (fun _ _ h => h)
        have EE := ((EX.out.mono (S' := fun b => b = w.heap.size ∨ b = w.heap.size + 1 ∨ b = w.heap.size + 2) fun _ h => .inl h).trans EY.out (fun i hi h => .inr (.inl h))).trans EZ (fun i hi h => .inr (.inr h))
        have hqs := hsg.out
        have hN0 := own_ex hDu.out.1 EE (fun i hi e => by have := own_base hDu.out.1 i hi; omega)
        have hN1 := own_ex hDu.out.2 EE (fun i hi e => by have := own_base hDu.out.2 i hi; omega)
        exact ⟨trivial, rfl, rfl, rfl, rfl, #[.slice A0 n0 c0, .slice A1 n1 c1], #[.slice B0 m0 d0, .slice B1 m1 d1], #[.slice D0 ns.length y0, .slice D1 vs.length y1], blk_ex EZ hiY.out (fun e => by have e' : w.heap.size = w.heap.size + 2 := e; omega), blk_ex EZ hrY.out (fun e => by have e' : w.heap.size + 1 = w.heap.size + 2 := e; omega), blk_set (blk_set hzY.out 0 _) 1 _, rfl, rfl, rfl, ⟨rs, fs, qs, gs, ns, vs, (hAu.out.ex (EE.mono fun b h => by omega)).read, (hBu.out.ex (EE.mono fun b h => by omega)).read, ⟨D0, y0, D1, y1, rfl, (OI.same hN0 hin.out.1).2, (OI.same hN1 hin.out.2).2⟩, hfl.out.1, hfl.out.2⟩, Ex.on hWu.out EE (fun i h => by omega)⟩
      · skip
        intro a' w' hM
        obtain ⟨h2, h3, h4, hd, k1, k2, k3, e1, e2, e3, z1, z2, z3, hV, hb⟩ := hM.out
        go_wp2
        refine bodyPost_ret (retIIS rfl h2 h3 h4 e1 e2 e3 z1 z2 z3) hd ?_
        exact ⟨_, rfl, _, _, _, rfl, hV, hb⟩
end Go.Proofs.YtgemaohdlibboaaGreat.H
/- Walks: the draws of one fact of an instance, of an instance with a fact. What is told: sizes and ranges. No condition. -/
namespace Go.Proofs.YtgemaohdlibboaaGreat.H
open Go Go.RowKit Go.Proofs.YtgemaohdlibboaaGreatW.PrintWords Go.Proofs.YtgemaohdlibboaaGreatW.PrintLast
open Go.Proofs.YtgemaohdlibboaaGreat.Reg (On on_draw)
set_option maxHeartbeats 4000000
set_option maxRecDepth 100000
set_option linter.unusedVariables false
set_option linter.unusedSimpArgs false

/-- A fact read whatever happens to blocks S. -/
def RSa (S : Nat → Prop) (w : World) (v : Value) (f : Fct) : Prop := ∀ w', Ex S w w' → RFa w' v f
theorem RSa.ex {S : Nat → Prop} {W w : World} {v : Value} {f : Fct} (h : RSa S W v f) (k : Ex S W w) : RSa S w v f := fun w' h' => h w' (k.trans h' fun _ _ h => h)
theorem OFa.rs {S : Nat → Prop} {w : World} {lo : Nat} {v : Value} {f : Fct} (h : OFa w lo v f) (hS : ∀ b, S b → b < lo) : RSa S w v f := fun w' k => (h.ex k hS).read
theorem RH.at {w : World} {A : Option Addr} {c : Nat} {hs : List Hdr} (h : RH w A c hs) (k : Nat) (hk : k < hs.length) : ∃ ad, A = some ad ∧ w.cell? (ad.add (k * 2)) = some (.int .i64 hs[k].1) ∧ w.cell? ⟨(ad.add (k * 2)).block, (ad.add (k * 2)).off + 1, none⟩ = some (hdV hs[k]) := by
  obtain ⟨ad, e, h0⟩ := h.cell (k * 2 + 0) _ ((flat_get (enc := encH) (sz := 2) (fun _ => rfl) hs k 0 hk (by omega)).trans rfl)
  obtain ⟨ad', e', h1⟩ := h.cell (k * 2 + 1) _ ((flat_get (enc := encH) (sz := 2) (fun _ => rfl) hs k 1 hk (by omega)).trans rfl)
  obtain rfl : ad = ad' := Option.some.inj (e.symm.trans e')
  exact ⟨ad, e, h0, by rw [← add_field _ _ 1 (by omega)]; exact h1⟩
section
variable {fn : Func} {p u : Tmp} {tmps : Array Value} {w : World} {g g' : Nat} {t t' : TypeId} {cs cs' : Array Value} {fr fr' : Nat × Nat}
end
end Go.Proofs.YtgemaohdlibboaaGreat.H
/- Walks: the reference's draws of an instance with a fact and of two facts. What is told: sizes and ranges. No condition. -/
namespace Go.Proofs.YtgemaohdlibboaaGreat.H
open Go Go.RowKit Go.Proofs.YtgemaohdlibboaaGreatW.PrintWords Go.Proofs.YtgemaohdlibboaaGreatW.PrintLast
open Go.Proofs.YtgemaohdlibboaaGreat.Reg (On on_draw)
set_option maxHeartbeats 4000000
set_option maxRecDepth 100000
set_option linter.unusedVariables false
set_option linter.unusedSimpArgs false

end Go.Proofs.YtgemaohdlibboaaGreat.H
/- Walks: the reference's draw of two facts. What is told: sizes and ranges. No condition. -/
namespace Go.Proofs.YtgemaohdlibboaaGreat.H
open Go Go.RowKit Go.Proofs.YtgemaohdlibboaaGreatW.PrintWords Go.Proofs.YtgemaohdlibboaaGreatW.PrintLast
open Go.Proofs.YtgemaohdlibboaaGreat.Reg (On on_draw)
set_option maxHeartbeats 4000000
set_option maxRecDepth 100000
set_option linter.unusedVariables false
set_option linter.unusedSimpArgs false

section
variable {fn : Func} {p u : Tmp} {tmps : Array Value} {w : World} {g g' : Nat} {t t' : TypeId} {cs cs' : Array Value} {fr fr' : Nat × Nat}
end
end Go.Proofs.YtgemaohdlibboaaGreat.H
/- Walk: spec.EqualInstances. No condition. -/
namespace Go.Proofs.YtgemaohdlibboaaGreat.H
open Go Go.RowKit Go.Proofs.YtgemaohdlibboaaGreatW.PrintWords Go.Proofs.YtgemaohdlibboaaGreatW.PrintLast
open Go.Proofs.YtgemaohdlibboaaGreat.Reg (On on_draw)
set_option maxHeartbeats 4000000
set_option maxRecDepth 100000
set_option linter.unusedVariables false
set_option linter.unusedSimpArgs false

end Go.Proofs.YtgemaohdlibboaaGreat.H
/- Walk: impl.IsSubset. No condition. -/
namespace Go.Proofs.YtgemaohdlibboaaGreat.H
open Go Go.RowKit Go.Proofs.YtgemaohdlibboaaGreatW.PrintWords Go.Proofs.YtgemaohdlibboaaGreatW.PrintLast
open Go.Proofs.YtgemaohdlibboaaGreat.Reg (On on_draw)
set_option maxHeartbeats 4000000
set_option maxRecDepth 100000
set_option linter.unusedVariables false
set_option linter.unusedSimpArgs false

end Go.Proofs.YtgemaohdlibboaaGreat.H
/- Walks: the program takes facts out of an instance. No condition. -/
namespace Go.Proofs.YtgemaohdlibboaaGreat.H
open Go Go.RowKit Go.Proofs.YtgemaohdlibboaaGreatW.PrintWords Go.Proofs.YtgemaohdlibboaaGreatW.PrintLast
open Go.Proofs.YtgemaohdlibboaaGreat.Reg (On on_draw)
set_option maxHeartbeats 4000000
set_option maxRecDepth 100000
set_option linter.unusedVariables false
set_option linter.unusedSimpArgs false

/-- The headers that are kept of the first j. -/
def kept (p : Fct → Bool) (hs : List Hdr) (fs : List Fct) (j : Nat) : List Hdr := (((hs.zip fs).take j).filter fun q => !p q.2).map Prod.fst
theorem kept_succ (p : Fct → Bool) (hs : List Hdr) (fs : List Fct) (j : Nat) (hl : hs.length = fs.length) (h : j < fs.length) : kept p hs fs (j + 1) = kept p hs fs j ++ (if p fs[j] then [] else [hs[j]'(by omega)]) := by
  unfold kept
  rw [List.take_succ_eq_append_getElem (by rw [List.length_zip]; omega), List.filter_append, List.map_append, List.getElem_zip, List.filter_cons]
  cases p fs[j] <;> simp
theorem kept_front (p : Fct → Bool) (hs : List Hdr) (fs : List Fct) (hl : hs.length = fs.length) : ∀ j, j ≤ fs.length → (∀ i, (h : i < j) → (hi : i < fs.length) → p fs[i] = false) → kept p hs fs j = hs.take j
  | 0, _, _ => by simp [kept]
  | j + 1, hj, h => by
    rw [kept_succ p hs fs j hl (by omega), kept_front p hs fs hl j (by omega) (fun i hi hf => h i (by omega) hf), h j (by omega) (by omega), List.take_succ_eq_append_getElem (by omega)]
    rfl
/-- How the row stands when j facts are looked at, of which i are kept. -/
structure KI (p : Fct → Bool) (hs : List Hdr) (fs : List Fct) (j i : Nat) (L : List Hdr) : Prop where
  len : L.length = fs.length
  lt : i < j
  is : i = (kept p hs fs j).length
  row : ∃ M, L = kept p hs fs j ++ M ++ hs.drop j
theorem KI.start (p : Fct → Bool) (hs : List Hdr) (fs : List Fct) (hl : hs.length = fs.length) (k : Nat) (hk : k < fs.length) (ht : p fs[k] = true) (hall : ∀ j, (hj : j < k) → p (fs[j]'(by omega)) = false) : KI p hs fs (k + 1) k hs := by
  have e : kept p hs fs (k + 1) = hs.take k := by
    rw [kept_succ p hs fs k hl hk, ht, if_pos rfl, List.append_nil, kept_front p hs fs hl k (by omega) (fun i hi _ => hall i hi)]
  refine ⟨hl, Nat.lt_succ_self _, by rw [e, List.length_take]; omega, ⟨[hs[k]], ?_⟩⟩
  rw [e, ← List.take_succ_eq_append_getElem (by omega), List.take_append_drop]
theorem KI.mid {p : Fct → Bool} {hs : List Hdr} {fs : List Fct} {j i : Nat} {L : List Hdr} (h : KI p hs fs j i L) (hl : hs.length = fs.length) (hj : j < fs.length) : ∃ m M, L = kept p hs fs j ++ (m :: M) ++ hs.drop j ∧ i + (M.length + 1) = j := by
  obtain ⟨M, e⟩ := h.row
  have h1 := congrArg List.length e
  rw [h.len, List.length_append, List.length_append, List.length_drop, ← h.is] at h1
  cases M with
  | nil => have := h.lt; simp at h1; omega
  | cons m M => exact ⟨m, M, e, by simp at h1; omega⟩
theorem KI.skip {p : Fct → Bool} {hs : List Hdr} {fs : List Fct} {j i : Nat} {L : List Hdr} (h : KI p hs fs j i L) (hl : hs.length = fs.length) (hj : j < fs.length) (hp : p fs[j] = true) : KI p hs fs (j + 1) i L := by
  obtain ⟨M, e⟩ := h.row
  have ek : kept p hs fs (j + 1) = kept p hs fs j := by rw [kept_succ p hs fs j hl hj, hp, if_pos rfl, List.append_nil]
  refine ⟨h.len, Nat.lt_succ_of_lt h.lt, by rw [ek]; exact h.is, ⟨M ++ [hs[j]'(by omega)], ?_⟩⟩
  rw [ek, e, List.drop_eq_getElem_cons (by omega : j < hs.length)]
  simp
theorem KI.keep {p : Fct → Bool} {hs : List Hdr} {fs : List Fct} {j i : Nat} {L : List Hdr} (h : KI p hs fs j i L) (hl : hs.length = fs.length) (hj : j < fs.length) (hp : p fs[j] = false) : KI p hs fs (j + 1) (i + 1) (L.set i (hs[j]'(by omega))) := by
  obtain ⟨m, M, e, hM⟩ := h.mid hl hj
  have ek : kept p hs fs (j + 1) = kept p hs fs j ++ [hs[j]'(by omega)] := by rw [kept_succ p hs fs j hl hj, hp, if_neg (by simp)]
  refine ⟨by rw [List.length_set]; exact h.len, Nat.succ_lt_succ h.lt, by rw [ek, List.length_append, ← h.is]; rfl, ⟨M ++ [hs[j]'(by omega)], ?_⟩⟩
  rw [ek, e, List.append_assoc, List.cons_append, set_mid _ _ _ _ _ h.is.symm, List.drop_eq_getElem_cons (by omega : j < hs.length)]
  simp
theorem KI.done {p : Fct → Bool} {hs : List Hdr} {fs : List Fct} {i : Nat} {L : List Hdr} (h : KI p hs fs fs.length i L) : L.take i = kept p hs fs fs.length := by
  obtain ⟨M, e⟩ := h.row
  rw [e, List.append_assoc, h.is, List.take_left]
end Go.Proofs.YtgemaohdlibboaaGreat.H
/- Walks: the library's CompactFunc at facts. No condition. -/
namespace Go.Proofs.YtgemaohdlibboaaGreat.H
open Go Go.RowKit Go.Proofs.YtgemaohdlibboaaGreatW.PrintWords Go.Proofs.YtgemaohdlibboaaGreatW.PrintLast
open Go.Proofs.YtgemaohdlibboaaGreat.Reg (On on_draw)
set_option maxHeartbeats 4000000
set_option maxRecDepth 100000
set_option linter.unusedVariables false
set_option linter.unusedSimpArgs false

section
variable {P : Program} {ops : Array Oper} {Q : Exit → Act → World → Prop} {i : Nat} {tail : List Nat} {l : List (Nat × Reg.K)} {a a' : Act} {W : World} {o : Oper} {N : Tmp}
end
/-- The headers that are keptB of the first j. -/
def keptB (p : Bool → Bool) (hs : List Hdr) (fs : List Bool) (j : Nat) : List Hdr := (((hs.zip fs).take j).filter fun q => !p q.2).map Prod.fst
theorem keptB_succ (p : Bool → Bool) (hs : List Hdr) (fs : List Bool) (j : Nat) (hl : hs.length = fs.length) (h : j < fs.length) : keptB p hs fs (j + 1) = keptB p hs fs j ++ (if p fs[j] then [] else [hs[j]'(by omega)]) := by
  unfold keptB
  rw [List.take_succ_eq_append_getElem (by rw [List.length_zip]; omega), List.filter_append, List.map_append, List.getElem_zip, List.filter_cons]
  cases p fs[j] <;> simp
theorem keptB_front (p : Bool → Bool) (hs : List Hdr) (fs : List Bool) (hl : hs.length = fs.length) : ∀ j, j ≤ fs.length → (∀ i, (h : i < j) → (hi : i < fs.length) → p fs[i] = false) → keptB p hs fs j = hs.take j
  | 0, _, _ => by simp [keptB]
  | j + 1, hj, h => by
    rw [keptB_succ p hs fs j hl (by omega), keptB_front p hs fs hl j (by omega) (fun i hi hf => h i (by omega) hf), h j (by omega) (by omega), List.take_succ_eq_append_getElem (by omega)]
    rfl
/-- How the row stands when j facts are looked at, of which i are keptB. -/
structure KB (p : Bool → Bool) (hs : List Hdr) (fs : List Bool) (j i : Nat) (L : List Hdr) : Prop where
  len : L.length = fs.length
  lt : i < j
  is : i = (keptB p hs fs j).length
  row : ∃ M, L = keptB p hs fs j ++ M ++ hs.drop j
theorem KB.start (p : Bool → Bool) (hs : List Hdr) (fs : List Bool) (hl : hs.length = fs.length) (k : Nat) (hk : k < fs.length) (ht : p fs[k] = true) (hall : ∀ j, (hj : j < k) → p (fs[j]'(by omega)) = false) : KB p hs fs (k + 1) k hs := by
  have e : keptB p hs fs (k + 1) = hs.take k := by
    rw [keptB_succ p hs fs k hl hk, ht, if_pos rfl, List.append_nil, keptB_front p hs fs hl k (by omega) (fun i hi _ => hall i hi)]
  refine ⟨hl, Nat.lt_succ_self _, by rw [e, List.length_take]; omega, ⟨[hs[k]], ?_⟩⟩
  rw [e, ← List.take_succ_eq_append_getElem (by omega), List.take_append_drop]
theorem KB.mid {p : Bool → Bool} {hs : List Hdr} {fs : List Bool} {j i : Nat} {L : List Hdr} (h : KB p hs fs j i L) (hl : hs.length = fs.length) (hj : j < fs.length) : ∃ m M, L = keptB p hs fs j ++ (m :: M) ++ hs.drop j ∧ i + (M.length + 1) = j := by
  obtain ⟨M, e⟩ := h.row
  have h1 := congrArg List.length e
  rw [h.len, List.length_append, List.length_append, List.length_drop, ← h.is] at h1
  cases M with
  | nil => have := h.lt; simp at h1; omega
  | cons m M => exact ⟨m, M, e, by simp at h1; omega⟩
theorem KB.skip {p : Bool → Bool} {hs : List Hdr} {fs : List Bool} {j i : Nat} {L : List Hdr} (h : KB p hs fs j i L) (hl : hs.length = fs.length) (hj : j < fs.length) (hp : p fs[j] = true) : KB p hs fs (j + 1) i L := by
  obtain ⟨M, e⟩ := h.row
  have ek : keptB p hs fs (j + 1) = keptB p hs fs j := by rw [keptB_succ p hs fs j hl hj, hp, if_pos rfl, List.append_nil]
  refine ⟨h.len, Nat.lt_succ_of_lt h.lt, by rw [ek]; exact h.is, ⟨M ++ [hs[j]'(by omega)], ?_⟩⟩
  rw [ek, e, List.drop_eq_getElem_cons (by omega : j < hs.length)]
  simp
theorem KB.keep {p : Bool → Bool} {hs : List Hdr} {fs : List Bool} {j i : Nat} {L : List Hdr} (h : KB p hs fs j i L) (hl : hs.length = fs.length) (hj : j < fs.length) (hp : p fs[j] = false) : KB p hs fs (j + 1) (i + 1) (L.set i (hs[j]'(by omega))) := by
  obtain ⟨m, M, e, hM⟩ := h.mid hl hj
  have ek : keptB p hs fs (j + 1) = keptB p hs fs j ++ [hs[j]'(by omega)] := by rw [keptB_succ p hs fs j hl hj, hp, if_neg (by simp)]
  refine ⟨by rw [List.length_set]; exact h.len, Nat.succ_lt_succ h.lt, by rw [ek, List.length_append, ← h.is]; rfl, ⟨M ++ [hs[j]'(by omega)], ?_⟩⟩
  rw [ek, e, List.append_assoc, List.cons_append, set_mid _ _ _ _ _ h.is.symm, List.drop_eq_getElem_cons (by omega : j < hs.length)]
  simp
theorem KB.done {p : Bool → Bool} {hs : List Hdr} {fs : List Bool} {i : Nat} {L : List Hdr} (h : KB p hs fs fs.length i L) : L.take i = keptB p hs fs fs.length := by
  obtain ⟨M, e⟩ := h.row
  rw [e, List.append_assoc, h.is, List.take_left]
end Go.Proofs.YtgemaohdlibboaaGreat.H
/- The rule for regions that draw once more, over worlds of which it is also told that the count of draws grows. No condition. -/
namespace Go.Proofs.YtgemaohdlibboaaGreat.RegD
open Go Go.RowKit Go.Proofs.YtgemaohdlibboaaGreat.Reg
variable {P : Program} {ops : Array Oper} {Q : Exit → Act → World → Prop} {md : Region.Mode}
/-- The worlds that go on from W, their count of draws too. -/
structure On (W w : World) : Prop where
  low : Below W.heap.size W w
  drawn : W.drawn ≤ w.drawn
theorem On.refl (W : World) : On W W := ⟨Below.refl _ _, Nat.le_refl _⟩
theorem On.trans {a b c : World} (h : On a b) (k : On b c) : On a c := ⟨Reg.On.trans h.low k.low, Nat.le_trans h.drawn k.drawn⟩
theorem On.eq {W w : World} (h : On W w) : ∀ p, (W.cell? p).isSome = true → w.cell? p = W.cell? p := Reg.On.eq h.low
theorem On.alloc {W w : World} (h : On W w) (o : Obj) : On W (w.alloc o) := ⟨Reg.On.alloc h.low o, h.drawn⟩
theorem on_draw (W : World) : On W { W with drawn := W.drawn + 1 } := ⟨Reg.on_draw W, Nat.le_succ _⟩
def wpOrd (P : Program) (ops : Array Oper) (Q : Exit → Act → World → Prop) (tail : List Nat) : List (Nat × K) → Act → World → Prop
  | [], a, W => ∀ w, On W w → wpList P ops Q (tail.filterMap fun i => ops[i]?) a w
  | (i, k) :: l, a, W =>
    match ops[i]? with
    | none => False
    | some o =>
      if Region.wanted o (yielded ops a.tmps) then
        (match k with
          | .L => ∃ v, (∀ w, On W w → (execOp a.eval o).run P w = .ok (.value v) w) ∧ wpOrd P ops Q tail l (a.put o.dst v) W
          | .C => ∃ v, (∀ w, On W w → nAt P o a w fun u w' => u = v ∧ On W w') ∧ wpOrd P ops Q tail l (a.put o.dst v) W
          | .N => ∀ w, On W w → wpList P ops (Exit.then (fun a' w' => On W w' ∧ wpOrd P ops Q tail l a' w') Q) [o] a w
          | .P => ∃ v, (∀ w, (execOp a.eval o).run P w = .ok (.value v) w) ∧ wpOrd P ops Q tail l (a.put o.dst v) W)
      else wpOrd P ops Q tail l (a.put o.dst undef) W
theorem wpOp_of_one {i : Nat} {o : Oper} {T : Act → World → Prop} {a : Act} {w : World} (hi : ops[i]? = some o) (h : wpList P ops (Exit.then T Q) [o] a w) (hl : LetsOut (Exit.then T Q) → LetsOut Q := by exact id) : wpOp P ops Q i T a w := by
  simp only [wpList] at h
  unfold wpOp
  simp only [hi]
  split
  · rename_i hw
    rw [if_pos hw] at h
    rcases h with h | ⟨h1, h2⟩
    · refine .inl ?_
      unfold Oper.wp at *
      generalize (execOp a.eval o).run P w = r at *
      cases r with
      | ok n w' =>
        cases n <;> simp only [Oper.upon] at h ⊢ <;>
          first
            | exact h
            | exact h.mono (fun e w'' he => by cases e <;> first | exact he | exact hl he)
      | halt x w' => cases x <;> simp only [Oper.upon] at h ⊢ <;> exact h
    · exact .inr ⟨h1, hl h2⟩
  · rename_i hw
    rw [if_neg hw] at h
    exact h
theorem wpT_of_tail {cl : Nat → Bool} : ∀ (l : List Nat) (listed : Array Bool) (a : Act) (S : World → Prop), (∀ i ∈ l, cl i = true) → chkTail md ops l listed = true → (∀ w, S w → wpList P ops Q (l.filterMap fun i => ops[i]?) a w) → wpT P md ops Q cl l.length listed a S
  | [], listed, a, S, _, hc, h => ⟨by simpa [chkTail] using hc, h⟩
  | i :: l, listed, a, S, hcl, hc, h => by
    simp only [chkTail, Bool.and_eq_true, beq_iff_eq] at hc
    obtain ⟨⟨hr, hbusy⟩, hl⟩ := hc
    cases hi : ops[i]? with
    | none => simp [hi] at hbusy
    | some o =>
      rw [List.length_cons]
      refine ⟨fun h0 => (by rw [hr] at h0; cases h0), fun j hj => ?_⟩
      rw [hr] at hj
      obtain rfl := List.mem_singleton.1 hj
      have ih := fun a S h => wpT_of_tail l (listed.setIfInBounds j true) a S (fun k hk => hcl k (List.mem_cons_of_mem _ hk)) hl h
      have hlist : ∀ w, S w → wpOp P ops Q j (wpList P ops Q (l.filterMap fun i => ops[i]?)) a w := fun w hS => by
        have h1 := h w hS
        simp only [List.filterMap_cons, hi] at h1
        unfold wpOp
        simp only [hi]
        unfold wpList at h1
        exact h1
      unfold Reg.stepT
      simp only [hi]
      split
      · exact .inr (.inr ⟨.inr (hcl j List.mem_cons_self), fun w hS => wpOp_mono (fun a' w' hh => ⟨fun w => w = w', rfl, fun h0 => (by rw [hcl j List.mem_cons_self] at h0; cases h0), ih a' _ (fun w e => by subst e; exact hh)⟩) (hlist w hS)⟩)
      · rename_i hw
        refine ih _ _ fun w hS => ?_
        have h1 := hlist w hS
        unfold wpOp at h1
        simp only [hi] at h1
        rw [if_neg hw] at h1
        exact h1
theorem wpT_of_ord (hs : Region.noSelect ops = true) (hQ : Plain Q) (tail : List Nat) : ∀ (l : List (Nat × K)) (listed : Array Bool) (a : Act) (W : World), closed md ops listed → chk md ops tail l listed = true → wpOrd P ops Q tail l a W → wpT P md ops Q (fun j => tail.contains j) (l.length + tail.length) listed a (On W)
  | [], listed, a, W, _, hc, h => by
    rw [List.length_nil, Nat.zero_add]
    exact wpT_of_tail tail listed a _ (fun i hi => by simpa using hi) hc h
  | (i, k) :: l, listed, a, W, hclosed, hc, h => by
    simp only [chk, Bool.and_eq_true] at hc
    obtain ⟨hk, hl⟩ := hc
    simp only [wpOrd] at h
    cases hi : ops[i]? with
    | none => simp only [hi] at h
    | some o =>
      simp only [hi] at h
      have hri : i ∈ Region.ready md ops listed := by
        cases k <;> simp only [Bool.and_eq_true, beq_iff_eq] at hk
        · simpa using hk.1.1
        · simpa using hk.1.1
        · rw [hk.1.1]; exact List.mem_singleton.2 rfl
        · simpa using hk.1
      have ih := fun a W h => wpT_of_ord hs hQ tail l (listed.setIfInBounds i true) a W (hclosed.set hri) hl h
      have sel := Region.noSelect_spec hs
      have hlen : (((i, k) :: l).length + tail.length) = (l.length + tail.length) + 1 := by rw [List.length_cons]; omega
      rw [hlen]
      have hreach : k ≠ .N → k ≠ .P → ∀ j, (tail.contains j) = true → reach md ops j i = true := by
        intro hkn hkp j hj
        have hj' : j ∈ tail := by simpa using hj
        cases k <;> simp only [Bool.and_eq_true, List.all_eq_true] at hk
        · exact hk.2 j hj'
        · exact hk.2 j hj'
        · exact absurd rfl hkn
        · exact absurd rfl hkp
      by_cases hw : Region.wanted o (yielded ops a.tmps) = true
      · rw [if_pos hw] at h
        cases k with
        | L =>
          simp only [Bool.and_eq_true] at hk
          obtain ⟨v, h1, h2⟩ := h
          exact wpT_first (c := false) hQ hi sel (hreach (by simp) (by simp)) _ listed a _ hclosed (fun j oj hj hne hun hno => freeC_spec hi hk.1.2 j oj hj hne hun hno) hri (.inl ⟨hw, fun w hS => by simpa using h1 w hS⟩) (ih _ _ h2)
        | C =>
          simp only [Bool.and_eq_true] at hk
          obtain ⟨v, h1, h2⟩ := h
          exact wpT_first (c := true) hQ hi sel (hreach (by simp) (by simp)) _ listed a _ hclosed (fun j oj hj hne hun hno => freeC_spec hi hk.1.2 j oj hj hne hun hno) hri (.inl ⟨hw, fun w hS => by simpa using h1 w hS⟩) (ih _ _ h2)
        | N =>
          simp only [Bool.and_eq_true, beq_iff_eq, busy, hi, Bool.not_eq_true'] at hk
          refine ⟨fun h0 => (by rw [hk.1.1] at h0; cases h0), fun j hj => ?_⟩
          rw [hk.1.1] at hj
          obtain rfl := List.mem_singleton.1 hj
          unfold Reg.stepT
          simp only [hi]
          rw [if_pos hw]
          exact .inr (.inr ⟨.inl hk.1.2, fun w hS => wpOp_mono (fun a' w' ⟨hon, hh⟩ => ⟨On w', On.refl _, fun _ w'' hw'' => hon.trans hw'', ih _ _ hh⟩) (wpOp_of_one hi (h w hS))⟩)
        | P =>
          simp only [Bool.and_eq_true] at hk
          obtain ⟨v, h1, h2⟩ := h
          exact wpT_firstP hQ hi sel _ listed a _ hclosed (fun j oj hj hne hun hno => (freeC_spec hi hk.2 j oj hj hne hun hno).1) hri (.inl ⟨hw, fun w _ => by simpa using h1 w⟩) (ih _ _ h2)
      · rw [if_neg hw] at h
        have hw' : Region.wanted o (yielded ops a.tmps) = false := by simpa using hw
        cases k with
        | P =>
          simp only [Bool.and_eq_true] at hk
          exact wpT_firstP hQ hi sel _ listed a _ hclosed (fun j oj hj hne hun hno => (freeC_spec hi hk.2 j oj hj hne hun hno).1) hri (.inr ⟨hw', rfl⟩) (ih _ _ h)
        | L =>
          simp only [Bool.and_eq_true] at hk
          exact wpT_first (c := false) hQ hi sel (hreach (by simp) (by simp)) _ listed a _ hclosed (fun j oj hj hne hun hno => ⟨(freeC_spec hi hk.1.2 j oj hj hne hun hno).1, fun h => by cases h⟩) hri (.inr ⟨hw', rfl⟩) (ih _ _ h)
        | C =>
          simp only [Bool.and_eq_true] at hk
          exact wpT_first (c := false) hQ hi sel (hreach (by simp) (by simp)) _ listed a _ hclosed (fun j oj hj hne hun hno => ⟨(freeC_spec hi hk.1.2 j oj hj hne hun hno).1, fun h => by cases h⟩) hri (.inr ⟨hw', rfl⟩) (ih _ _ h)
        | N =>
          simp only [Bool.and_eq_true, beq_iff_eq, busy, hi, Bool.not_eq_true'] at hk
          refine ⟨fun h0 => (by rw [hk.1.1] at h0; cases h0), fun j hj => ?_⟩
          rw [hk.1.1] at hj
          obtain rfl := List.mem_singleton.1 hj
          unfold Reg.stepT
          simp only [hi]
          rw [if_neg hw]
          exact ih _ _ h
/-- The same, shut (so that nobody lays it open unasked). -/
structure Ord (P : Program) (ops : Array Oper) (Q : Exit → Act → World → Prop) (tail : List Nat) (l : List (Nat × K)) (a : Act) (W : World) : Prop where mk :: (out : wpOrd P ops Q tail l a W)
/-- The rule: a region that draws its order, its operations taken in the order l, then the tail. -/
theorem region {id : Nat} {a : Act} {w : World} (l : List (Nat × K)) (tail : List Nat) (hm : P.follows .mixedOrders = true) (hc : (Region.noSelect ops && (l.length + tail.length == ops.size) && chk .any ops tail l (Array.replicate ops.size false)) = true)
    (h : Ord P ops Q tail l a w) (hQ : Plain Q := by exact fun c a d v w h => by cases d <;> exact h) : (Code.region id ops true).wp P Q a w := by
  simp only [Bool.and_eq_true, beq_iff_eq] at hc
  refine wp_region_any hm (wpAny_of_wpT (cl := fun j => tail.contains j) _ _ _ (On w) _ (below_drew' w) ?_)
  rw [← hc.1.2]
  exact wpT_of_ord hc.1.1 hQ tail l _ a w (closed.start _) (by rw [hc.1.2]; exact hc.2) h.out
where
  below_drew' (w : World) : On w { w with drawn := w.drawn + 1 } := on_draw w
/-! The moves. -/
section
variable {i : Nat} {tail : List Nat} {l : List (Nat × K)} {a : Act} {W : World} {o : Oper} {N : Tmp}
theorem nil (h : ∀ w, On W w → Q .normal a w) : Ord P ops Q [] [] a W := ⟨h⟩
theorem stepL {v : Value} (hy : ∀ w, On W w → (execOp a.eval o).run P w = .ok (.value v) w) (h : Ord P ops Q tail l (a.put (some N) v) W) (hi : ops[i]? = some o) (hN : o.dst = some N)
    (hw : Region.wanted o (yielded ops a.tmps) = true) : Ord P ops Q tail ((i, .L) :: l) a W := by
  refine ⟨?_⟩
  simp only [wpOrd, hi]
  rw [if_pos hw]
  exact ⟨v, hy, hN ▸ h.out⟩
theorem stepP {v : Value} (hy : ∀ w, (execOp a.eval o).run P w = .ok (.value v) w) (h : Ord P ops Q tail l (a.put (some N) v) W) (hi : ops[i]? = some o) (hN : o.dst = some N)
    (hw : Region.wanted o (yielded ops a.tmps) = true) : Ord P ops Q tail ((i, .P) :: l) a W := by
  refine ⟨?_⟩
  simp only [wpOrd, hi]
  rw [if_pos hw]
  exact ⟨v, hy, hN ▸ h.out⟩
theorem stepC {v : Value} (hy : ∀ w, On W w → nAt P o a w fun u w' => u = v ∧ On W w') (h : Ord P ops Q tail l (a.put (some N) v) W) (hi : ops[i]? = some o) (hN : o.dst = some N)
    (hw : Region.wanted o (yielded ops a.tmps) = true) : Ord P ops Q tail ((i, .C) :: l) a W := by
  refine ⟨?_⟩
  simp only [wpOrd, hi]
  rw [if_pos hw]
  exact ⟨v, hy, hN ▸ h.out⟩
theorem wpList_mono_normal {os : List Oper} {T T' : Act → World → Prop} (hT : ∀ a w, T a w → T' a w) : ∀ {a : Act} {w : World}, wpList P ops (Exit.then T Q) os a w → wpList P ops (Exit.then T' Q) os a w := by
  induction os with
  | nil => intro a w h; exact hT _ _ h
  | cons o os ih =>
    intro a w h
    unfold wpList at h ⊢
    split
    · rename_i hw
      rw [if_pos hw] at h
      rcases h with h | ⟨h1, h2⟩
      · refine .inl ?_
        unfold Oper.wp at *
        generalize (execOp a.eval o).run P w = r at *
        cases r with
        | ok n w' =>
          cases n <;> simp only [Oper.upon] at h ⊢ <;>
            first
              | exact ih h
              | exact h.mono (fun e w'' he => by cases e <;> first | exact ih he | exact he)
              | exact Rows.mono h (fun _ _ he => ih he)
        | halt x w' => cases x <;> simp only [Oper.upon] at h ⊢ <;> exact h
      · exact .inr ⟨h1, h2⟩
    · rename_i hw
      rw [if_neg hw] at h
      exact ih h
theorem stepN (h : ∀ w, On W w → wpList P ops (Exit.then (fun a' w' => On W w' ∧ Ord P ops Q tail l a' w') Q) [o] a w) (hi : ops[i]? = some o)
    (hw : Region.wanted o (yielded ops a.tmps) = true) : Ord P ops Q tail ((i, .N) :: l) a W := by
  refine ⟨?_⟩
  simp only [wpOrd, hi]
  rw [if_pos hw]
  exact fun w hS => wpList_mono_normal (fun a w ⟨h1, h2⟩ => ⟨h1, h2.out⟩) (h w hS)
theorem skip {k : K} (h : Ord P ops Q tail l (a.put (some N) undef) W) (hi : ops[i]? = some o) (hN : o.dst = some N) (hw : Region.wanted o (yielded ops a.tmps) = false) : Ord P ops Q tail ((i, k) :: l) a W := by
  refine ⟨?_⟩
  simp only [wpOrd, hi]
  rw [if_neg (by simp [hw]), hN]
  exact h.out
theorem tail_ {os : List Oper} (h : ∀ w, On W w → wpList P ops Q os a w) (hos : (tail.filterMap fun i => ops[i]?) = os := by simp only [List.filterMap_cons, List.filterMap_nil, List.getElem?_toArray, List.getElem?_cons_zero, List.getElem?_cons_succ]; rfl) : Ord P ops Q tail [] a W := by
  subst hos
  exact ⟨h⟩
end
end Go.Proofs.YtgemaohdlibboaaGreat.RegD
namespace Go.Proofs.YtgemaohdlibboaaGreat.HD
open Go Go.RowKit Go.Proofs.YtgemaohdlibboaaGreatW.PrintWords Go.Proofs.YtgemaohdlibboaaGreatW.PrintLast Go.Proofs.YtgemaohdlibboaaGreat.H
open Go.Proofs.YtgemaohdlibboaaGreat.RegD (On on_draw)
set_option linter.unusedVariables false
/-! Steps inside a region that draws. -/
section
variable {P : Program} {ops : Array Oper} {Q : Exit → Act → World → Prop} {i : Nat} {tail : List Nat} {l : List (Nat × Reg.K)} {a a' : Act} {W : World} {o : Oper} {N : Tmp}
theorem nAt_call {f : FuncId} {fn : Func} {xs : Array Operand} {ts : Array TypeId} {args : Array Value} {w : World} {R : Value → World → Prop} (hf : P.funcs[f]? = some fn) (hname : (fn.name == "runtime.NumGoroutine") = false) (hb : fn.body.isSome = true)
    (hop : o.op = .call { callee := .value (.func f), args := xs, argTypes := ts }) (hargs : xs.map a.eval = args) (h : Calls P f args w fun e w' => ∃ u, e = .returned u ∧ R u w') : Reg.nAt P o a w R := by
  have he := enters_ hf hname hb args w
  have hrun : (execOp a.eval o).run P w = .ok (.enter f args) w := by
    unfold execOp
    simp [hop, resolve, Deferred.ofValue, invoke, Act.eval, hargs, he]
  unfold Reg.nAt
  rw [hrun]
  exact h
/-- A call that hands back one value. -/
theorem callC {f : FuncId} {fn : Func} {xs : Array Operand} {ts : Array TypeId} {args : Array Value} (v : Value) (hf : P.funcs[f]? = some fn)
    (h : ∀ w, On W w → Calls P f args w fun e w' => e = .returned v ∧ On w w') (rest : RegD.Ord P ops Q tail l a' W) (hi : ops[i]? = some o := by rfl) (hN : o.dst = some N := by rfl)
    (hop : o.op = .call { callee := .value (.func f), args := xs, argTypes := ts } := by rfl) (hargs : xs.map a.eval = args := by (try simp only [List.map_toArray, List.map_cons, List.map_nil]); rfl)
    (hname : (fn.name == "runtime.NumGoroutine") = false := by kernel_rfl) (hb : fn.body.isSome = true := by rfl)
    (hw : Region.wanted o (yielded ops a.tmps) = true := by with_unfolding_all rfl) (ha : a.put (some N) v = a' := by simp only [Act.put, List.setIfInBounds_toArray, List.set_cons_zero, List.set_cons_succ]; rfl) : RegD.Ord P ops Q tail ((i, .C) :: l) a W :=
  RegD.stepC (v := v) (fun w hS => nAt_call hf hname hb hop hargs ((h w hS).mono fun e w' ⟨he, hS'⟩ => ⟨v, he, rfl, hS.trans hS'⟩)) (ha ▸ rest) hi hN hw
/-- A call of which more is told: what follows stands behind it. -/
theorem callN {f : FuncId} {fn : Func} {xs : Array Operand} {ts : Array TypeId} {args : Array Value} (hf : P.funcs[f]? = some fn)
    (h : ∀ w, On W w → Calls P f args w fun e w' => ∃ v, e = .returned v ∧ On w w' ∧ ∀ a', a' = a.put (some N) v → RegD.Ord P ops Q tail l a' w') (hi : ops[i]? = some o := by rfl) (hN : o.dst = some N := by rfl)
    (hop : o.op = .call { callee := .value (.func f), args := xs, argTypes := ts } := by rfl) (hargs : xs.map a.eval = args := by (try simp only [List.map_toArray, List.map_cons, List.map_nil]); rfl)
    (hname : (fn.name == "runtime.NumGoroutine") = false := by kernel_rfl) (hb : fn.body.isSome = true := by rfl)
    (hw : Region.wanted o (yielded ops a.tmps) = true := by rfl) : RegD.Ord P ops Q tail ((i, .N) :: l) a W := by
  refine RegD.stepN (fun w hS => ?_) hi hw
  unfold wpList
  rw [if_pos hw]
  refine .inl (Reg.wp_of_nAt (nAt_call hf hname hb hop hargs ((h w hS).mono fun e w' ⟨v, he, hon, hk⟩ => ⟨v, he, ?_⟩)))
  rw [hN]
  exact ⟨hS.trans hon, hk _ rfl⟩
/-- A read, a sum, an address. -/
theorem sL {v : Value} (h : RegD.Ord P ops Q tail l a' W) (hi : ops[i]? = some o := by rfl) (hN : o.dst = some N := by rfl) (hw : Region.wanted o (yielded ops a.tmps) = true := by rfl)
    (hy : ∀ w, On W w → (execOp a.eval o).run P w = .ok (.value v) w := by intro w' hS; have hA := RegD.On.eq hS; clear hS; (go_simp; first | done | rfl))
    (ha : a.put (some N) v = a' := by simp only [Act.put, List.setIfInBounds_toArray, List.set_cons_zero, List.set_cons_succ]; rfl) : RegD.Ord P ops Q tail ((i, .L) :: l) a W := RegD.stepL hy (ha ▸ h) hi hN hw
/-- What asks the world nothing. -/
theorem sQ {v : Value} (h : RegD.Ord P ops Q tail l a' W) (hi : ops[i]? = some o := by rfl) (hN : o.dst = some N := by rfl) (hw : Region.wanted o (yielded ops a.tmps) = true := by rfl)
    (hy : ∀ w, (execOp a.eval o).run P w = .ok (.value v) w := by intro w'; (go_simp; first | done | rfl))
    (ha : a.put (some N) v = a' := by simp only [Act.put, List.setIfInBounds_toArray, List.set_cons_zero, List.set_cons_succ]; rfl) : RegD.Ord P ops Q tail ((i, .P) :: l) a W := RegD.stepP hy (ha ▸ h) hi hN hw
/-- Sums and differences whose bounds are known. -/
theorem sS {x y : Operand} {m n : Int} {t t2 : TypeId} (h : RegD.Ord P ops Q tail l a' W) (hi : ops[i]? = some o := by rfl) (hN : o.dst = some N := by rfl) (hop : o.op = .binOp .sub t x y t2 := by rfl) (hw : Region.wanted o (yielded ops a.tmps) = true := by rfl)
    (hx : a.eval x = .int .i64 m := by rfl) (hy : a.eval y = .int .i64 n := by rfl) {r : Int} (hb : IntKind.i64.wrap (m - n) = r := by first | (with_reducible assumption) | exact IntWalk.i64_in _ (by omega))
    (ha : a.put (some N) (.int .i64 r) = a' := by simp only [Act.put, List.setIfInBounds_toArray, List.set_cons_zero, List.set_cons_succ]; rfl) : RegD.Ord P ops Q tail ((i, .L) :: l) a W :=
  RegD.stepL (fun w _ => by
    subst hb
    unfold execOp
    simp only [hop, hx, hy]
    rfl) (ha ▸ h) hi hN hw
theorem sA {x y : Operand} {m n : Int} {t t2 : TypeId} (h : RegD.Ord P ops Q tail l a' W) (hi : ops[i]? = some o := by rfl) (hN : o.dst = some N := by rfl) (hop : o.op = .binOp .add t x y t2 := by rfl) (hw : Region.wanted o (yielded ops a.tmps) = true := by rfl)
    (hx : a.eval x = .int .i64 m := by rfl) (hy : a.eval y = .int .i64 n := by rfl) {r : Int} (hb : IntKind.i64.wrap (m + n) = r := by first | (with_reducible assumption) | exact IntWalk.i64_in _ (by omega))
    (ha : a.put (some N) (.int .i64 r) = a' := by simp only [Act.put, List.setIfInBounds_toArray, List.set_cons_zero, List.set_cons_succ]; rfl) : RegD.Ord P ops Q tail ((i, .L) :: l) a W :=
  RegD.stepL (fun w _ => by
    subst hb
    unfold execOp
    simp only [hop, hx, hy]
    rfl) (ha ▸ h) hi hN hw
/-- A choice, decided. -/
theorem sP {v : Value} {c x y : Operand} {b : Bool} (h : RegD.Ord P ops Q tail l a' W) (hi : ops[i]? = some o := by rfl) (hN : o.dst = some N := by rfl) (hop : o.op = .pick c x y := by rfl) (hw : Region.wanted o (yielded ops a.tmps) = true := by rfl)
    (hc : a.eval c = .bool b := by rfl) (hv : (if b then a.eval x else a.eval y) = v := by (go_simp; first | done | rfl))
    (ha : a.put (some N) v = a' := by simp only [Act.put, List.setIfInBounds_toArray, List.set_cons_zero, List.set_cons_succ]; rfl) : RegD.Ord P ops Q tail ((i, .L) :: l) a W :=
  RegD.stepL (fun w _ => by unfold execOp; simp only [hop, hc]; subst hv; cases b <;> rfl) (ha ▸ h) hi hN hw
/-- An operation whose guard is off. -/
theorem sO {k : Reg.K} (h : RegD.Ord P ops Q tail l a' W) (hi : ops[i]? = some o := by rfl) (hN : o.dst = some N := by rfl) (hw : Region.wanted o (yielded ops a.tmps) = false := by with_unfolding_all rfl)
    (ha : a.put (some N) undef = a' := by simp only [Act.put, List.setIfInBounds_toArray, List.set_cons_zero, List.set_cons_succ]; rfl) : RegD.Ord P ops Q tail ((i, k) :: l) a W := RegD.skip (ha ▸ h) hi hN hw
end
end Go.Proofs.YtgemaohdlibboaaGreat.HD
/- Walks: the program's order of facts, in the form that SortFunc asks for. No condition. -/
namespace Go.Proofs.YtgemaohdlibboaaGreat.HD
open Go Go.RowKit Go.Proofs.YtgemaohdlibboaaGreatW.PrintWords Go.Proofs.YtgemaohdlibboaaGreatW.PrintLast Go.Proofs.YtgemaohdlibboaaGreat.H
open Go.Proofs.YtgemaohdlibboaaGreat.RegD (On on_draw)
set_option maxHeartbeats 1000000
set_option maxRecDepth 100000
set_option linter.unusedVariables false
set_option linter.unusedSimpArgs false

theorem isNaN_calls (w : World) (v : Int) : Calls Tryz.prog 106 #[.int .i64 v] w fun e w' => e = .returned (.bool false) ∧ On w w' := by
  go_enter Tryz.func106, Tryz.ntmps106
  go_wp2
  go_ret
  exact ⟨by simp, On.refl _⟩
theorem cmpCompare_calls (w : World) (a b : Int) : Calls Tryz.prog 99 #[.int .i64 a, .int .i64 b] w fun e w' => e = .returned (.int .i64 (cmpI a b)) ∧ On w w' := by
  by_cases h1 : a < b
  · have h1b : decide (a < b) = true := decide_eq_true h1
    go_enter Tryz.func99, Tryz.ntmps99
    go_wp2_with (first | (go_at_call 106; refine (isNaN_calls w _).mono ?_; rintro e w1 ⟨rfl, hb1⟩) | (go_at_call 106; refine (isNaN_calls w1 _).mono ?_; rintro e w2 ⟨rfl, hb2⟩))
    go_ret
    exact ⟨ret_int (by unfold cmpI; rw [if_pos (of_decide_eq_true h1b)]), hb1.trans hb2⟩
  · have h1b : decide (a < b) = false := decide_eq_false h1
    by_cases h2 : b < a
    · have h2b : decide (b < a) = true := decide_eq_true h2
      go_enter Tryz.func99, Tryz.ntmps99
      go_wp2_with (first | (go_at_call 106; refine (isNaN_calls w _).mono ?_; rintro e w1 ⟨rfl, hb1⟩) | (go_at_call 106; refine (isNaN_calls w1 _).mono ?_; rintro e w2 ⟨rfl, hb2⟩))
      go_ret
      exact ⟨ret_int (by unfold cmpI; rw [if_neg (of_decide_eq_false h1b), if_pos (of_decide_eq_true h2b)]), hb1.trans hb2⟩
    · have h2b : decide (b < a) = false := decide_eq_false h2
      go_enter Tryz.func99, Tryz.ntmps99
      go_wp2_with (first | (go_at_call 106; refine (isNaN_calls w _).mono ?_; rintro e w1 ⟨rfl, hb1⟩) | (go_at_call 106; refine (isNaN_calls w1 _).mono ?_; rintro e w2 ⟨rfl, hb2⟩))
      go_ret
      exact ⟨ret_int (by unfold cmpI; rw [if_neg (of_decide_eq_false h1b), if_neg (of_decide_eq_false h2b)]), hb1.trans hb2⟩
theorem slicesCompare_calls (w : World) (A B : Option Addr) (c d : Nat) (a b : List Int) (ha : Ints w A c a) (hb : Ints w B d b) : Calls Tryz.prog 100 #[.slice A a.length c, .slice B b.length d] w fun e w' => e = .returned (.int .i64 (ints a b)) ∧ On w w' := by
  have hma := ha.max
  have hmb := hb.max
  go_enter Tryz.func100, Tryz.ntmps100
  go_wp2
  go_loopw [11] (fun v wr => ∃ k : Nat, k ≤ a.length ∧ k ≤ b.length ∧ v = .int .i64 k ∧ Hid (ints (a.drop k) (b.drop k) = ints a b) ∧ On w wr) (fun v _ => a.length - (intOf v).toNat)
  case atStart => exact ⟨0, Nat.zero_le _, Nat.zero_le _, rfl, rfl, On.refl _⟩
  case round =>
    obtain ⟨k, hk1, hk2, rfl, hp, hB⟩ := hrel
    by_cases h1 : k < a.length
    · obtain ⟨ad, rfl, hx⟩ := (ha.on hB.low).at k h1
      by_cases h2 : k < b.length
      · obtain ⟨bd, rfl, hy⟩ := (hb.on hB.low).at k h2
        have h2n : decide (b.length ≤ k) = false := decide_eq_false (by omega)
        have hst := Aside0.mk ((ints_stepI a b k h1 h2).symm.trans hp.out)
        clear hp
        by_cases h3 : cmpI a[k] b[k] = 0
        · have h3' := Aside0.mk h3
          have h3b : (cmpI a[k] b[k] != 0) = false := by simp [h3]
          clear h3
          go_wp2_with (go_at_call 99; refine (cmpCompare_calls _ _ _).mono ?_; rintro e w3 ⟨rfl, hb3⟩)
          go_roundw
          case rel => exact ⟨k + 1, by omega, by omega, by go_num, (by have := hst.out; rwa [if_pos h3'.out] at this : _ = _), hB.trans hb3⟩
          case measure => simp [intOf]; omega
        · have h3' := Aside0.mk h3
          have h3b : (cmpI a[k] b[k] != 0) = true := by simp [h3]
          clear h3
          go_wp2_with (go_at_call 99; refine (cmpCompare_calls _ _ _).mono ?_; rintro e w3 ⟨rfl, hb3⟩)
          go_ret
          exact ⟨ret_int (by have := hst.out; rwa [if_neg h3'.out] at this), hB.trans hb3⟩
      · have hb0 : b.drop k = [] := List.drop_of_length_le (by omega)
        have h2n : decide (b.length ≤ k) = true := decide_eq_true (by omega)
        have hp' := Aside0.mk hp.out
        clear hp
        go_wp2
        go_ret
        exact ⟨ret_int (by rw [← hp'.out, hb0, List.drop_eq_getElem_cons h1]; rfl), hB⟩
    · have ha0 : a.drop k = [] := List.drop_of_length_le (by omega)
      have hp' := Aside0.mk hp.out
      clear hp
      by_cases h2 : k < b.length
      · have h4 : a.length < b.length := by omega
        go_wp2
        go_ret
        exact ⟨ret_int (by rw [← hp'.out, ha0, List.drop_eq_getElem_cons h2]; rfl), hB⟩
      · have hb0 : b.drop k = [] := List.drop_of_length_le (by omega)
        have h4 : ¬ a.length < b.length := by omega
        go_wp2
        go_ret
        exact ⟨ret_int (by rw [← hp'.out, ha0, hb0]; rfl), hB⟩
theorem cmpOr_calls (w : World) (A c) (l : List Int) (h : Ints w A c l) : Calls Tryz.prog 98 #[.slice A l.length c] w fun e w' => e = .returned (.int .i64 (orFrom l)) ∧ On w w' := by
  have hmax := h.max
  go_enter Tryz.func98, Tryz.ntmps98
  go_wp2
  go_loop [8] (fun v => ∃ k : Nat, k ≤ l.length ∧ v = .int .i64 k ∧ Hid (orFrom (l.drop k) = orFrom l)) (fun v => l.length - (intOf v).toNat)
  case atStart => exact ⟨0, Nat.zero_le _, rfl, rfl⟩
  case round =>
    obtain ⟨k, hk, rfl, hp⟩ := hrel
    by_cases hlt : k < l.length
    · obtain ⟨ad, rfl, hx⟩ := h.at k hlt
      have hst := Aside0.mk ((orFrom_step l k hlt).symm.trans hp.out)
      clear hp
      by_cases h3 : l[k] = 0
      · have h3' := Aside0.mk h3
        have h3b : (l[k] != 0) = false := by simp [h3]
        clear h3
        go_wp2
        go_round
        case rel => exact ⟨k + 1, by omega, by go_num, (by have := hst.out; rwa [if_pos h3'.out] at this : _ = _)⟩
        case measure => simp [intOf]; omega
      · have h3' := Aside0.mk h3
        have h3b : (l[k] != 0) = true := by simp [h3]
        clear h3
        go_wp2
        go_ret
        exact ⟨ret_int (by have := hst.out; rwa [if_neg h3'.out] at this), On.refl _⟩
    · go_wp2
      go_ret
      exact ⟨ret_int (by rw [← hp.out, List.drop_of_length_le (by omega)]; rfl), On.refl _⟩
theorem iCompareFacts_calls (w : World) (A0 c0 A1 c1) (f g : Fct) (h0 : Ints w A0 c0 f.2) (h1 : Ints w A1 c1 g.2) : Calls Tryz.prog 80 #[.agg #[.int .i64 f.1, .slice A0 f.2.length c0], .agg #[.int .i64 g.1, .slice A1 g.2.length c1]] w fun e w' => e = .returned (.int .i64 (cmpF f g)) ∧ On w w' := by
  have hb0 := Aside0.mk (On.alloc (On.alloc (On.refl w) (.cells #[.int .i64 f.1, .slice A0 f.2.length c0] 54)) (.cells #[.int .i64 g.1, .slice A1 g.2.length c1] 54))
  go_enter Tryz.func80, Tryz.ntmps80
  go_wp2
  refine RegD.region [(0,.L),(1,.L),(2,.L),(3,.L),(4,.C),(5,.L),(6,.L),(7,.L),(8,.L),(9,.C)] [10,11,12] (by kernel_rfl) (by kernel_rfl) ?_
  repeat first | refine sP ?_ | refine sS ?_ | refine sA ?_ | refine sL ?_ | refine sQ ?_ | refine sO ?_
  refine callC (.int .i64 (cmpI f.1 g.1)) Tryz.func99 (fun w' hS => ?_) ?_
  focus exact cmpCompare_calls w' _ _
  repeat first | refine sP ?_ | refine sS ?_ | refine sA ?_ | refine sL ?_ | refine sQ ?_ | refine sO ?_
  refine callC (.int .i64 (ints f.2 g.2)) Tryz.func100 (fun w' hS => ?_) ?_
  focus exact slicesCompare_calls w' _ _ _ _ f.2 g.2 (h0.on (hb0.out.trans hS).low) (h1.on (hb0.out.trans hS).low)
  repeat first | refine sP ?_ | refine sS ?_ | refine sA ?_ | refine sL ?_ | refine sQ ?_ | refine sO ?_
  refine RegD.tail_ fun w2 hS => ?_
  have hc := cmpI_bd f.1 g.1
  have hi := ints_bd f.2 g.2
  have hr := Aside0.mk ((ints2 w2 (cmpI f.1 g.1) (ints f.2 g.2)).2 (fun x hx => by simp at hx; rcases hx with rfl | rfl <;> omega))
  clear hc hi
  go_wp2_with (go_at_call 98; refine (cmpOr_calls _ _ _ _ hr.out).mono ?_; rintro e w3 ⟨rfl, hb3⟩)
  go_ret
  refine ⟨ret_int ?_, (hb0.out.trans hS).trans ((On.alloc (On.refl _) _).trans hb3)⟩
  rw [cmpF_or]
  simp only [orFrom]
  by_cases h3 : cmpI f.1 g.1 = 0
  · simp only [h3, if_pos, ne_eq, not_true, if_false]
    by_cases h4 : ints f.2 g.2 = 0
    · rw [if_pos h4, h4]
    · rw [if_neg h4]
  · simp [h3]
end Go.Proofs.YtgemaohdlibboaaGreat.HD
/- Facts that are read, with their headers: what SortFunc's contract takes and gives. No condition. -/
namespace Go.Proofs.YtgemaohdlibboaaGreat.H
open Go Go.RowKit Go.Proofs.YtgemaohdlibboaaGreatW.PrintWords Go.Proofs.YtgemaohdlibboaaGreatW.PrintLast
open Go.Proofs.YtgemaohdlibboaaGreat.Reg (On on_draw)
set_option maxHeartbeats 4000000
set_option maxRecDepth 100000
set_option linter.unusedVariables false
set_option linter.unusedSimpArgs false

/-- A fact of the call's own: its header, what it reads as. -/
structure Fa (w : World) (lo : Nat) where
  h : Hdr
  f : Fct
  n : h.1 = f.1
  o : OI w lo (hdV h) f.2
  r : InR f.2
instance (w : World) (lo : Nat) : Inhabited (Fa w lo) := ⟨⟨((0 : Int), none, 0, 0), ((0 : Int), []), rfl, World.ownsRow_nil _ _ _ _, fun x hx => by cases hx⟩⟩
/-- Rows that own no block in common. -/
def Off (a b : Hdr) : Prop := ∀ k, (hdV a).ownBlock = some k → (hdV b).ownBlock = some k → False
theorem Sep.pair {w : World} {lo : Nat} {hs : List Hdr} {fs : List Fct} (h : Sep w lo hs fs) : hs.Pairwise Off := by
  rw [List.pairwise_iff_getElem]
  intro i j hi hj hij k h1 h2
  have := h.apart i j _ _ k (List.getElem?_eq_getElem hi) (List.getElem?_eq_getElem hj) h1 h2
  omega
end Go.Proofs.YtgemaohdlibboaaGreat.H
/- The library's SortFunc at facts: the shelf's contract laid for this program. Printed by a program of this session. No condition. -/
namespace Go.Proofs.YtgemaohdlibboaaGreat.H
open Go Go.RowKit Go.Shelf Go.Proofs.YtgemaohdlibboaaGreatW.PrintWords Go.Proofs.YtgemaohdlibboaaGreatW.PrintLast
open Go.Proofs.YtgemaohdlibboaaGreat.Reg (On on_draw)
set_option maxHeartbeats 4000000
set_option maxRecDepth 100000
set_option linter.unusedVariables false
end Go.Proofs.YtgemaohdlibboaaGreat.H
/- Walks: the program puts a fact into an instance: facts sorted, each once. No condition. -/
namespace Go.Proofs.YtgemaohdlibboaaGreat.H
open Go Go.RowKit Go.Proofs.YtgemaohdlibboaaGreatW.PrintWords Go.Proofs.YtgemaohdlibboaaGreatW.PrintLast
open Go.Proofs.YtgemaohdlibboaaGreat.Reg (On on_draw)
set_option maxHeartbeats 4000000
set_option maxRecDepth 100000
set_option linter.unusedVariables false
set_option linter.unusedSimpArgs false

end Go.Proofs.YtgemaohdlibboaaGreat.H
/- Walks: the reference puts a fact into an instance, if that is valid. No condition. -/
namespace Go.Proofs.YtgemaohdlibboaaGreat.H
open Go Go.RowKit Go.Proofs.YtgemaohdlibboaaGreatW.PrintWords Go.Proofs.YtgemaohdlibboaaGreatW.PrintLast
open Go.Proofs.YtgemaohdlibboaaGreat.Reg (On on_draw)
set_option maxHeartbeats 4000000
set_option maxRecDepth 100000
set_option linter.unusedVariables false
set_option linter.unusedSimpArgs false

end Go.Proofs.YtgemaohdlibboaaGreat.H
/- Plain: what the law FnInsertDelete asks of insertion and deletion. No condition. -/
namespace Go.Proofs.YtgemaohdlibboaaGreat.H
open Go
set_option maxHeartbeats 1000000
set_option linter.unusedVariables false
set_option linter.unusedSimpArgs false

end Go.Proofs.YtgemaohdlibboaaGreat.H
/- Walks: what the law FnInsertDelete calls, in terms of values; its size test. No condition. -/
namespace Go.Proofs.YtgemaohdlibboaaGreat.H
open Go Go.RowKit Go.Proofs.YtgemaohdlibboaaGreatW.PrintWords Go.Proofs.YtgemaohdlibboaaGreatW.PrintLast
open Go.Proofs.YtgemaohdlibboaaGreat.Reg (On on_draw)
set_option maxHeartbeats 4000000
set_option maxRecDepth 100000
set_option linter.unusedVariables false
set_option linter.unusedSimpArgs false

theorem big_calls (w : World) (A n c) : Calls Tryz.prog 4 #[.slice A n c] w fun e w' => e = .returned (.bool (decide (1048576 < (n : Int)))) ∧ On w w' := by
  go_enter Tryz.func4, Tryz.ntmps4
  go_wp2
  go_ret
  exact ⟨rfl, On.refl _⟩
end Go.Proofs.YtgemaohdlibboaaGreat.H
/- Walk: the law FnExactFindHomomorphisms. No condition. -/
namespace Go.Proofs.YtgemaohdlibboaaGreat.H
open Go Go.RowKit Go.Proofs.YtgemaohdlibboaaGreatW.PrintWords Go.Proofs.YtgemaohdlibboaaGreatW.PrintLast
open Go.Proofs.YtgemaohdlibboaaGreat.Reg (On on_draw)
set_option maxHeartbeats 8000000
set_option maxRecDepth 100000
set_option linter.unusedVariables false
set_option linter.unusedSimpArgs false

theorem sFindAllV (w : World) (v u : Value) (rs : List Rel) (fs : List Fct) (qs : List Rel) (gs : List Fct) (h : RIn w v rs fs) (k : RIn w u qs gs) : Calls Tryz.prog 10 #[v, u] w (Got fun v w' => ORw w' w.heap.size v (allF rs fs qs gs) ∧ On w w') := by
  obtain ⟨A0, c0, A1, c1, rfl, h0, h1⟩ := h.out
  obtain ⟨A2, c2, A3, c3, rfl, h2, h3⟩ := k.out
  refine (sFindAll_calls w A0 c0 A1 c1 rs fs h0 h1 A2 c2 A3 c3 qs gs h2 h3).mono fun e w' hh => ?_
  obtain ⟨v, rfl, hs, hO, hS, hb⟩ := hh
  exact ⟨_, rfl, ⟨hs, hO, hS.sep⟩, hb⟩
theorem iFindAllV (w : World) (v u : Value) (rs : List Rel) (fs : List Fct) (qs : List Rel) (gs : List Fct) (h : RIn w v rs fs) (k : RIn w u qs gs) : Calls Tryz.prog 8 #[v, u] w (Got fun v w' => ORw w' w.heap.size v (allF rs fs qs gs) ∧ On w w') := by
  obtain ⟨A0, c0, A1, c1, rfl, h0, h1⟩ := h.out
  obtain ⟨A2, c2, A3, c3, rfl, h2, h3⟩ := k.out
  refine (iFindAll_calls w A0 c0 A1 c1 rs fs h0 h1 A2 c2 A3 c3 qs gs h2 h3).mono fun e w' hh => ?_
  obtain ⟨v, rfl, hs, hO, hS, hb⟩ := hh
  exact ⟨_, rfl, ⟨hs, hO, hS.sep⟩, hb⟩
end Go.Proofs.YtgemaohdlibboaaGreat.H
