/- Walks and plain laws for the law FnExactFindHomomorphisms, part 3 of 6: the texts HM1, HM2, HB8, HS2, HM3, HL8, HRegT, HL9, HM4 in one. No condition. -/
import Derived.Test.YtngjhblbpapjeaaWEqStruct
import Derived.Test.YtngjhblbpapjeaaZFnExactFindHomomorphisms2
/- Walks: the reference's search for homomorphisms: one fact fitted. No condition. -/
namespace Go.Proofs.Ytngjhblbpapjeaa.H
open Go Go.RowKit Go.Proofs.YtngjhblbpapjeaaW.PrintWords Go.Proofs.YtngjhblbpapjeaaW.PrintLast
open Go.Proofs.Ytngjhblbpapjeaa.Reg (On on_draw)
set_option maxHeartbeats 4000000
set_option maxRecDepth 100000
set_option linter.unusedVariables false
set_option linter.unusedSimpArgs false

theorem own_at0 {w : World} {lo e sz n c : Nat} {A : Option Addr} {cs : List Value} (h : w.ownsRow lo e sz (.slice A n c) n cs) (hn : 0 < n) : ∃ g, A = some ⟨g, 0, none⟩ := by
  rcases h.2 with ⟨h', h2⟩ | ⟨g', cap', cur, h', _⟩
  · injection h' with e1 e2 e3
    subst e1
    omega
  · injection h' with e1 e2 e3
    exact ⟨g', e1⟩
theorem add_zero0 (g m : Nat) : (⟨g, 0, none⟩ : Addr).add m = ⟨g, m, none⟩ := by
  by_cases h : m = 0
  · subst h; rfl
  · simp [Addr.add, h]
theorem flat_set (z : List Int) (m : Nat) (u : Int) : (z.flatMap encI).set m (.int .i64 u) = (z.set m u).flatMap encI := by
  have e : ∀ l : List Int, l.flatMap encI = l.map (Value.int .i64) := by
    intro l
    induction l with
    | nil => rfl
    | cons x l ih => rw [List.flatMap_cons, ih]; rfl
  rw [e, e, List.map_set]
theorem inR_set {z : List Int} {m : Nat} {u : Int} (h : InR z) (hu : -9223372036854775808 ≤ u ∧ u ≤ 9223372036854775807) : InR (z.set m u) := fun y hy => by
  rcases List.mem_or_eq_of_mem_set hy with hy | rfl
  · exact h y hy
  · exact hu
theorem l7Fit_calls (w : World) (A0 c0 A1 c1 A2 c2) (f g : Fct) (x : List Int) (h0 : Ints w A0 c0 f.2) (h1 : Ints w A1 c1 g.2) (h2 : Ints w A2 c2 x) (hx : x.length = 40) :
    Calls Try.prog 150 #[.agg #[.int .i64 f.1, .slice A0 f.2.length c0], .agg #[.int .i64 g.1, .slice A1 g.2.length c1], .slice A2 x.length c2] w (Got fun v w' => ∃ v1, v = .tuple #[v1, .bool (fit f g x).isSome] ∧ (∀ y, fit f g x = some y → OI w' w.heap.size v1 y ∧ InR y ∧ y.length = 40) ∧ On w w') := by
  have hm0 := h0.max
  have hm1 := h1.max
  have hx' := Aside0.mk hx
  clear hx
  have hb := Aside0.mk (On.alloc (On.alloc (On.refl w) (.cells #[.int .i64 f.1, .slice A0 f.2.length c0] 55)) (.cells #[.int .i64 g.1, .slice A1 g.2.length c1] 55))
  have hL := Aside0.mk (loc2 w #[.int .i64 f.1, .slice A0 f.2.length c0] #[.int .i64 g.1, .slice A1 g.2.length c1] 55 55)
  have hsx := Aside0.mk (show ((w.alloc (.cells #[.int .i64 f.1, .slice A0 f.2.length c0] 55)).alloc (.cells #[.int .i64 g.1, .slice A1 g.2.length c1] 55)).heap.size = w.heap.size + 1 + 1 by simp)
  by_cases hr : f.1 = g.1
  · have hrb : (f.1 == g.1) = true := by simp [hr]
    have hrc : (f.1 != g.1) = false := by simp [bne, hrb]
    have hr' := Aside0.mk hr
    clear hr
    by_cases hl : f.2.length = g.2.length
    · have hlb : ((f.2.length : Int) == (g.2.length : Int)) = true := by simp [hl]
      have hlc : ((f.2.length : Int) != (g.2.length : Int)) = false := by simp [bne, hlb]
      have hld : (f.2.length == g.2.length) = true := by simp [hl]
      have hl' := Aside0.mk hl
      clear hl
      have hfit := Aside0.mk (show fit f g x = fitFrom f.2 g.2 x by unfold fit; rw [if_neg (by simp [hr'.out, hl'.out])])
      go_enter Try.func150, Try.ntmps150
      go_wp2_with (refine gate 29 ?_)
      clear hlb hlc hld hrb hrc
      obtain ⟨Wx, hWx⟩ : ∃ Wx, (w.alloc (.cells #[.int .i64 f.1, .slice A0 f.2.length c0] 55)).alloc (.cells #[.int .i64 g.1, .slice A1 g.2.length c1] 55) = Wx := ⟨_, rfl⟩
      rw [hWx] at hb hL hsx ⊢
      clear hWx
      have hlit := lit_own Wx #[] 3 1 0 Wx.heap.size (Nat.le_refl _) (by omega) rfl
      rw [hsx.out] at hlit
      refine ⟨apIf 29 (List.nil_append _) hlit rfl (h2.on (hb.out.trans (On.alloc (On.refl _) _))) (by rw [World.size_alloc, hsx.out]; omega) (by rw [hx'.out]; simp) fun v3 w3 hO3 hb3 => ?_⟩
      have hBs := Aside0.mk ((On.alloc (On.refl Wx) _).trans hb3)
      clear hb3 hlit
      obtain ⟨A3, c3, rfl⟩ := own_slice hO3
      obtain ⟨g0, rfl⟩ := own_at0 hO3 (by rw [hx'.out]; omega)
      have hO3' := Aside0.mk hO3
      clear hO3
      go_wp2
      go_loopw [9] (fun v wr => ∃ (k : Nat) (z : List Int), k ≤ f.2.length ∧ v = .int .i64 k ∧ Aside0 (fitFrom (f.2.drop k) (g.2.drop k) z = fitFrom f.2 g.2 x) ∧ Aside0 (z.length = x.length ∧ InR z) ∧ Aside0 (wr.ownsRow (w.heap.size + 1 + 1) 3 1 (.slice (some ⟨g0, 0, none⟩) x.length c3) x.length (z.flatMap encI)) ∧ Aside0 (On Wx wr)) (fun v _ => f.2.length - (intOf v).toNat)
      case atStart => exact ⟨0, x, Nat.zero_le _, rfl, ⟨rfl⟩, ⟨rfl, h2.2.2⟩, hO3', hBs⟩
      case round =>
        obtain ⟨k, z, hk, rfl, hp, hz, hO, hB⟩ := hrel
        have hBr := Aside0.mk (hb.out.trans hB.out)
        have hLr := Aside0.mk (Loc.on hB.out hL.out)
        have hd0 := blk_cell hLr.out.1
        have hd1 := blk_cell hLr.out.2.1
        by_cases hlt : k < f.2.length
        · have hlt2 : k < g.2.length := by have := hl'.out; omega
          obtain ⟨ad, rfl, hx1⟩ := (h0.on hBr.out).at k hlt
          obtain ⟨bd, rfl, hy1⟩ := (h1.on hBr.out).at k hlt2
          have hbd := h0.bd k hlt
          have hgd := Aside0.mk (h1.bd k hlt2)
          have hst := Aside0.mk ((fitFrom_step f.2 g.2 z k hlt hlt2).symm.trans hp.out)
          clear hp
          cases hv : isNul f.2[k] with
          | false =>
            have hv' := Aside0.mk hv
            have hm := Aside0.mk (show nulNum f.2[k] = (nulNum f.2[k]) from rfl)
            clear hv
            by_cases hq : f.2[k] = g.2[k]
            · have hq2 : (f.2[k] != g.2[k]) = false := by simp [bne, hq]
              have hq3 : (f.2[k] == g.2[k]) = true := by simp [hq]
              have hq' := Aside0.mk hq
              clear hq
              go_wp2_with (
                (go_at_call 100; refine (NullNumber_calls _ _ hbd.1).mono ?_; rintro e w2 ⟨rfl, hb2⟩; rw [hv'.out, hm.out]; have hL2 := Aside0.mk (Loc.on hb2 hLr.out); have hd0 := blk_cell hL2.out.1; have hd1 := blk_cell hL2.out.2.1; replace hx1 := (hb2.eq _ (by rw [hx1]; rfl)).trans hx1; replace hy1 := (hb2.eq _ (by rw [hy1]; rfl)).trans hy1)
                )
              refine Reg.region [(0,.L),(1,.L),(2,.L),(3,.L),(4,.L),(5,.L),(6,.L),(7,.L),(8,.L),(9,.L),(10,.L)] [] (by kernel_rfl) (by kernel_rfl) ?_
              repeat first | refine sP ?_ | refine sS ?_ | refine sA ?_ | refine sL ?_ | refine sQ ?_ | refine sO ?_
              refine Reg.nil fun w5 hS => ?_
              clear hq2 hq3
              go_wp2
              have hn : nxt z f.2[k] g.2[k] = some z := by unfold nxt; rw [hv'.out]; simp [hq'.out]
              exact ⟨⟨k + 1, z, by omega, by go_num, ⟨by rw [← hst.out, hn]; rfl⟩, hz, ⟨pw_own_below hO.out (hb2.trans hS)⟩, ⟨hB.out.trans (hb2.trans hS)⟩⟩, by simp [intOf]; omega⟩
            · have hq2 : (f.2[k] != g.2[k]) = true := by simp [bne]; exact hq
              have hq3 : (f.2[k] == g.2[k]) = false := by simpa using hq
              have hq' := Aside0.mk hq
              clear hq
              go_wp2_with (
                (go_at_call 100; refine (NullNumber_calls _ _ hbd.1).mono ?_; rintro e w2 ⟨rfl, hb2⟩; rw [hv'.out, hm.out]; have hL2 := Aside0.mk (Loc.on hb2 hLr.out); have hd0 := blk_cell hL2.out.1; have hd1 := blk_cell hL2.out.2.1; replace hx1 := (hb2.eq _ (by rw [hx1]; rfl)).trans hx1; replace hy1 := (hb2.eq _ (by rw [hy1]; rfl)).trans hy1)
                )
              refine Reg.region [(0,.L),(1,.L),(2,.L),(3,.L),(4,.L),(5,.L),(6,.L),(7,.L),(8,.L),(9,.L),(10,.L)] [] (by kernel_rfl) (by kernel_rfl) ?_
              repeat first | refine sP ?_ | refine sS ?_ | refine sA ?_ | refine sL ?_ | refine sQ ?_ | refine sO ?_
              refine Reg.nil fun w5 hS => ?_
              clear hq2 hq3
              go_wp2
              go_ret2
              have hn : nxt z f.2[k] g.2[k] = none := by unfold nxt; rw [hv'.out]; simp [hq'.out]
              have hno : fit f g x = none := by rw [hfit.out, ← hst.out, hn]; rfl
              exact ⟨_, rfl, .slice A2 x.length c2, by rw [hno]; rfl, fun y hy => (by rw [hno] at hy; cases hy), hBr.out.trans (hb2.trans hS)⟩
          | true =>
            obtain ⟨m, hm0, hm40⟩ : ∃ m : Nat, nulNum f.2[k] = (m : Int) ∧ m < 40 := by
              refine ⟨(nulNum f.2[k]).toNat, ?_, ?_⟩ <;> (unfold nulNum; rw [hv]; simp only [isNul, decide_eq_true_eq] at hv; simp only [if_true]; omega)
            have hm := Aside0.mk hm0
            have hmx : m < x.length := by rw [hx'.out]; exact hm40
            have hmz := Aside0.mk (show m < z.length by rw [hz.out.1]; exact hmx)
            have hI : Ints wr (some ⟨g0, 0, none⟩) c3 z := by
              have h3 : OI wr (w.heap.size + 1 + 1) (.slice (some ⟨g0, 0, none⟩) x.length c3) z := by
                unfold OI
                rw [hz.out.1]
                exact hO.out
              obtain ⟨A, c, e, h4⟩ := OI.rd h3 hz.out.2
              injection e with e1 e2 e3
              subst e1 e3
              exact h4
            obtain ⟨ad', e', hzc⟩ := hI.at m hmz.out
            obtain rfl : (⟨g0, 0, none⟩ : Addr) = ad' := by simpa using e'
            rw [add_zero0] at hzc
            have hv' := Aside0.mk hv
            have hget := Aside0.mk (show z.getD (nulNum f.2[k]).toNat 10 = z[m]'hmz.out by rw [hm0]; simp [hmz.out])
            clear hv hm0 e' hI hm40
            by_cases h10 : z[m]'hmz.out = 10
            · have hb1 : ((z[m]'hmz.out) != 10) = false := by simp [bne, h10]
              have hb0 : ((z[m]'hmz.out) == 10) = true := by simp [h10]
              have hc := Aside0.mk (show z[m]'hmz.out = 10 ∨ z[m]'hmz.out = g.2[k] from .inl h10)
              clear h10
              go_wp2_with (
                (go_at_call 100; refine (NullNumber_calls _ _ hbd.1).mono ?_; rintro e w2 ⟨rfl, hb2⟩; rw [hv'.out, hm.out]; have hL2 := Aside0.mk (Loc.on hb2 hLr.out); have hd0 := blk_cell hL2.out.1; have hd1 := blk_cell hL2.out.2.1; replace hx1 := (hb2.eq _ (by rw [hx1]; rfl)).trans hx1; replace hy1 := (hb2.eq _ (by rw [hy1]; rfl)).trans hy1; replace hzc := (hb2.eq _ (by rw [hzc]; rfl)).trans hzc)
                )
              refine Reg.region [(0,.L),(1,.L),(2,.L),(3,.L),(4,.L),(5,.L),(6,.L),(7,.L),(8,.L),(9,.L),(10,.L),(11,.L),(12,.L),(13,.L),(14,.L),(15,.L),(16,.L)] [] (by kernel_rfl) (by kernel_rfl) ?_
              repeat first | refine sP ?_ | refine sS ?_ | refine sA ?_ | refine sL ?_ | refine sQ ?_ | refine sO ?_
              refine Reg.nil fun w5 hS => ?_
              have hO5 := Aside0.mk (pw_own_below hO.out (hb2.trans hS))
              have hL5 := Aside0.mk (Loc.on hS hL2.out)
              clear hd0
              replace hd1 := blk_cell hL5.out.2.1
              replace hy1 := (hS.eq _ (by rw [hy1]; rfl)).trans hy1
              have hfz : w5.frozen? ⟨g0, m, none⟩ = false := own_frozen hO5.out m
              obtain ⟨z0, hz0⟩ := own_some hO5.out m (by omega)
              have hgl := Aside0.mk (show w.heap.size + 1 + 1 ≤ g0 from own_base hO5.out g0 rfl)
              clear hb0 hb1 hzc
              go_wp2
              have hn : nxt z f.2[k] g.2[k] = some (z.set m g.2[k]) := by unfold nxt; rw [hv'.out, if_pos rfl, hget.out, if_neg (by have := hc.out; omega), hm.out]; rfl
              refine ⟨⟨k + 1, z.set m g.2[k], by omega, by go_num, ⟨by rw [← hst.out, hn]; rfl⟩, ⟨by rw [List.length_set]; exact hz.out.1, inR_set hz.out.2 hgd.out⟩, ⟨?_⟩, ⟨Reg.On.set (hB.out.trans (hb2.trans hS)) (by rw [hsx.out]; exact hgl.out) _⟩⟩, by simp [intOf]; omega⟩
              rw [← flat_set]
              exact (hO5.out.stored m (.int .i64 g.2[k])).1
            · have hb1 : ((z[m]'hmz.out) != 10) = true := by simp [bne]; exact h10
              have hb0 : ((z[m]'hmz.out) == 10) = false := by simpa using h10
              by_cases hq : z[m]'hmz.out = g.2[k]
              · have hq2 : ((z[m]'hmz.out) != g.2[k]) = false := by simp [bne, hq]
                have hq3 : ((z[m]'hmz.out) == g.2[k]) = true := by simp [hq]
                have hc := Aside0.mk (show z[m]'hmz.out = 10 ∨ z[m]'hmz.out = g.2[k] from .inr hq)
                clear h10 hq
                go_wp2_with (
                  (go_at_call 100; refine (NullNumber_calls _ _ hbd.1).mono ?_; rintro e w2 ⟨rfl, hb2⟩; rw [hv'.out, hm.out]; have hL2 := Aside0.mk (Loc.on hb2 hLr.out); have hd0 := blk_cell hL2.out.1; have hd1 := blk_cell hL2.out.2.1; replace hx1 := (hb2.eq _ (by rw [hx1]; rfl)).trans hx1; replace hy1 := (hb2.eq _ (by rw [hy1]; rfl)).trans hy1; replace hzc := (hb2.eq _ (by rw [hzc]; rfl)).trans hzc)
                  )
                refine Reg.region [(0,.L),(1,.L),(2,.L),(3,.L),(4,.L),(5,.L),(6,.L),(7,.L),(8,.L),(9,.L),(10,.L),(11,.L),(12,.L),(13,.L),(14,.L),(15,.L),(16,.L)] [] (by kernel_rfl) (by kernel_rfl) ?_
                repeat first | refine sP ?_ | refine sS ?_ | refine sA ?_ | refine sL ?_ | refine sQ ?_ | refine sO ?_
                refine Reg.nil fun w5 hS => ?_
                have hO5 := Aside0.mk (pw_own_below hO.out (hb2.trans hS))
                have hL5 := Aside0.mk (Loc.on hS hL2.out)
                clear hd0
                replace hd1 := blk_cell hL5.out.2.1
                replace hy1 := (hS.eq _ (by rw [hy1]; rfl)).trans hy1
                have hfz : w5.frozen? ⟨g0, m, none⟩ = false := own_frozen hO5.out m
                obtain ⟨z0, hz0⟩ := own_some hO5.out m (by omega)
                have hgl := Aside0.mk (show w.heap.size + 1 + 1 ≤ g0 from own_base hO5.out g0 rfl)
                clear hb0 hb1 hq2 hq3 hzc
                go_wp2
                have hn : nxt z f.2[k] g.2[k] = some (z.set m g.2[k]) := by unfold nxt; rw [hv'.out, if_pos rfl, hget.out, if_neg (by have := hc.out; omega), hm.out]; rfl
                refine ⟨⟨k + 1, z.set m g.2[k], by omega, by go_num, ⟨by rw [← hst.out, hn]; rfl⟩, ⟨by rw [List.length_set]; exact hz.out.1, inR_set hz.out.2 hgd.out⟩, ⟨?_⟩, ⟨Reg.On.set (hB.out.trans (hb2.trans hS)) (by rw [hsx.out]; exact hgl.out) _⟩⟩, by simp [intOf]; omega⟩
                rw [← flat_set]
                exact (hO5.out.stored m (.int .i64 g.2[k])).1
              · have hq2 : ((z[m]'hmz.out) != g.2[k]) = true := by simp [bne]; exact hq
                have hq3 : ((z[m]'hmz.out) == g.2[k]) = false := by simpa using hq
                have hc := Aside0.mk (show z[m]'hmz.out ≠ 10 ∧ z[m]'hmz.out ≠ g.2[k] from ⟨h10, hq⟩)
                clear h10 hq
                go_wp2_with (
                  (go_at_call 100; refine (NullNumber_calls _ _ hbd.1).mono ?_; rintro e w2 ⟨rfl, hb2⟩; rw [hv'.out, hm.out]; have hL2 := Aside0.mk (Loc.on hb2 hLr.out); have hd0 := blk_cell hL2.out.1; have hd1 := blk_cell hL2.out.2.1; replace hx1 := (hb2.eq _ (by rw [hx1]; rfl)).trans hx1; replace hy1 := (hb2.eq _ (by rw [hy1]; rfl)).trans hy1; replace hzc := (hb2.eq _ (by rw [hzc]; rfl)).trans hzc)
                  )
                refine Reg.region [(0,.L),(1,.L),(2,.L),(3,.L),(4,.L),(5,.L),(6,.L),(7,.L),(8,.L),(9,.L),(10,.L),(11,.L),(12,.L),(13,.L),(14,.L),(15,.L),(16,.L)] [] (by kernel_rfl) (by kernel_rfl) ?_
                repeat first | refine sP ?_ | refine sS ?_ | refine sA ?_ | refine sL ?_ | refine sQ ?_ | refine sO ?_
                refine Reg.nil fun w5 hS => ?_
                clear hb0 hb1 hq2 hq3 hzc
                go_wp2
                go_ret2
                have hn : nxt z f.2[k] g.2[k] = none := by unfold nxt; rw [hv'.out, if_pos rfl, hget.out, if_pos hc.out]
                have hno : fit f g x = none := by rw [hfit.out, ← hst.out, hn]; rfl
                exact ⟨_, rfl, .slice A2 x.length c2, by rw [hno]; rfl, fun y hy => (by rw [hno] at hy; cases hy), hBr.out.trans (hb2.trans hS)⟩
        · have hfin := Aside0.mk (show fit f g x = some z by rw [hfit.out, ← hp.out, List.drop_of_length_le (by omega)]; rfl)
          go_wp2
          go_ret2
          refine ⟨_, rfl, .slice (some ⟨g0, 0, none⟩) x.length c3, by rw [hfin.out]; rfl, fun y hy => ?_, hBr.out⟩
          rw [hfin.out] at hy
          obtain rfl : z = y := Option.some.inj hy
          refine ⟨?_, hz.out.2, hz.out.1.trans hx'.out⟩
          have h3 := own_lower hO.out (show w.heap.size ≤ w.heap.size + 1 + 1 by omega)
          unfold OI
          rw [hz.out.1]
          exact h3
    · have hlb : ((f.2.length : Int) == (g.2.length : Int)) = false := by rw [beq_eq_false_iff_ne]; omega
      have hlc : ((f.2.length : Int) != (g.2.length : Int)) = true := by simp [bne, hlb]
      have hld : (f.2.length == g.2.length) = false := by simpa using hl
      have hno := Aside0.mk (show fit f g x = none by unfold fit; rw [if_pos (.inr hl)])
      clear hl
      go_enter Try.func150, Try.ntmps150
      go_wp2
      go_ret2
      exact ⟨_, rfl, .slice A2 x.length c2, by rw [hno.out]; rfl, fun y hy => (by rw [hno.out] at hy; cases hy), hb.out⟩
  · have hrb : (f.1 == g.1) = false := by simpa using hr
    have hrc : (f.1 != g.1) = true := by simp [bne, hrb]
    have hno := Aside0.mk (show fit f g x = none by unfold fit; rw [if_pos (.inl hr)])
    clear hr
    go_enter Try.func150, Try.ntmps150
    go_wp2
    go_ret2
    exact ⟨_, rfl, .slice A2 x.length c2, by rw [hno.out]; rfl, fun y hy => (by rw [hno.out] at hy; cases hy), hb.out⟩
end Go.Proofs.Ytngjhblbpapjeaa.H
/- Rows of substitutions: their headers, own rows apart, append. No condition. -/
namespace Go.Proofs.Ytngjhblbpapjeaa.H
open Go Go.RowKit Go.Proofs.YtngjhblbpapjeaaW.PrintWords Go.Proofs.YtngjhblbpapjeaaW.PrintLast
open Go.Proofs.Ytngjhblbpapjeaa.Reg (On on_draw)
set_option maxHeartbeats 4000000
set_option maxRecDepth 100000
set_option linter.unusedVariables false
set_option linter.unusedSimpArgs false

abbrev Sli := Option Addr × Nat × Nat
abbrev SHd := Sli × Sli
abbrev Su := List Int × List Int
abbrev slV (h : Sli) : Value := .slice h.1 h.2.1 h.2.2
abbrev encS (h : SHd) : List Value := [slV h.1, slV h.2]
abbrev OS (w : World) (lo : Nat) (v : Value) (hs : List SHd) : Prop := w.ownsRow lo 45 2 v hs.length (hs.flatMap encS)
theorem infoSu : (Try.prog.info? 45).map (fun i => (i.zero, i.size, i.bytes)) = some (some (.agg #[.slice none 0 0, .slice none 0 0]), 2, 48) := by kernel_rfl
/-- A substitution's two rows as two facts (of relation 0). -/
def flH (hs : List SHd) : List Hdr := hs.flatMap fun h => [((0 : Int), h.1), ((0 : Int), h.2)]
def flF (ss : List Su) : List Fct := ss.flatMap fun s => [((0 : Int), s.1), ((0 : Int), s.2)]
theorem flH_append (a b : List SHd) : flH (a ++ b) = flH a ++ flH b := List.flatMap_append
theorem flF_append (a b : List Su) : flF (a ++ b) = flF a ++ flF b := List.flatMap_append
/-- Substitutions whose rows are the call's own and lie apart. -/
structure SepS (w : World) (lo : Nat) (hs : List SHd) (ss : List Su) : Prop where
  len : hs.length = ss.length
  sep : Sep w lo (flH hs) (flF ss)
theorem SepS.nil (w : World) (lo : Nat) : SepS w lo [] [] := ⟨rfl, Sep.nil _ _⟩
theorem SepS.on {W w : World} {lo : Nat} {hs : List SHd} {ss : List Su} (h : SepS W lo hs ss) (hb : On W w) : SepS w lo hs ss := ⟨h.len, h.sep.on hb⟩
theorem SepS.lower {w : World} {lo lo' : Nat} {hs : List SHd} {ss : List Su} (h : SepS w lo hs ss) (hl : lo' ≤ lo) : SepS w lo' hs ss := ⟨h.len, h.sep.lower hl⟩
theorem SepS.set {W : World} {lo : Nat} {hs : List SHd} {ss : List Su} (h : SepS W lo hs ss) {p : Addr} (hp : p.block < lo) (u : Value) : SepS (W.setCell p u) lo hs ss := ⟨h.len, h.sep.set hp u⟩
theorem Sep.append {W w : World} {lo lo2 : Nat} {hs hs' : List Hdr} {fs fs' : List Fct} (h : Sep W lo hs fs) (h' : Sep w lo2 hs' fs') (hb : On W w) (hl : lo ≤ lo2) (h2 : W.heap.size ≤ lo2) : Sep w lo (hs ++ hs') (fs ++ fs') := by
  have hlen := h.len
  refine ⟨by rw [List.length_append, List.length_append, h.len, h'.len], fun i a f ha hf => ?_, fun i j a b k ha hb' h1 h3 => ?_⟩
  · rcases Nat.lt_or_ge i hs.length with hi | hi
    · rw [List.getElem?_append_left hi] at ha
      rw [List.getElem?_append_left (by omega)] at hf
      exact (h.on hb).at_ i a f ha hf
    · rw [List.getElem?_append_right hi] at ha
      rw [List.getElem?_append_right (by omega), ← hlen] at hf
      exact (h'.lower hl).at_ _ a f ha hf
  · rcases Nat.lt_or_ge i hs.length with hi | hi <;> rcases Nat.lt_or_ge j hs.length with hj | hj
    · rw [List.getElem?_append_left hi] at ha
      rw [List.getElem?_append_left hj] at hb'
      exact h.apart i j a b k ha hb' h1 h3
    · rw [List.getElem?_append_left hi] at ha
      rw [List.getElem?_append_right hj] at hb'
      have e1 := (h.lt ha h1).2
      have e2 := (h'.lt hb' h3).1
      omega
    · rw [List.getElem?_append_right hi] at ha
      rw [List.getElem?_append_left hj] at hb'
      have e1 := (h'.lt ha h1).1
      have e2 := (h.lt hb' h3).2
      omega
    · rw [List.getElem?_append_right hi] at ha
      rw [List.getElem?_append_right hj] at hb'
      have := h'.apart _ _ a b k ha hb' h1 h3
      omega
theorem SepS.append {W w : World} {lo lo2 : Nat} {hs hs' : List SHd} {ss ss' : List Su} (h : SepS W lo hs ss) (h' : SepS w lo2 hs' ss') (hb : On W w) (hl : lo ≤ lo2) (h2 : W.heap.size ≤ lo2) : SepS w lo (hs ++ hs') (ss ++ ss') :=
  ⟨by rw [List.length_append, List.length_append, h.len, h'.len], by rw [flH_append, flF_append]; exact h.sep.append h'.sep hb hl h2⟩
theorem SepS.one {w : World} {lo : Nat} {a b : Sli} {ns vs : List Int} (h1 : OI w lo (slV a) ns) (h2 : OI w lo (slV b) vs) (r1 : InR ns) (r2 : InR vs) (hne : ∀ k, (slV a).ownBlock = some k → (slV b).ownBlock = some k → False) : SepS w lo [(a, b)] [(ns, vs)] := by
  refine ⟨rfl, ⟨rfl, fun i x f hx hf => ?_, fun i j x y k hx hy e1 e2 => ?_⟩⟩
  · match i with
    | 0 => obtain rfl := Option.some.inj hx; obtain rfl := Option.some.inj hf; exact ⟨rfl, h1, r1⟩
    | 1 => obtain rfl := Option.some.inj hx; obtain rfl := Option.some.inj hf; exact ⟨rfl, h2, r2⟩
    | i + 2 => simp [flH] at hx
  · match i, j with
    | 0, 0 => rfl
    | 1, 1 => rfl
    | 0, 1 => obtain rfl := Option.some.inj hx; obtain rfl := Option.some.inj hy; exact (hne k e1 e2).elim
    | 1, 0 => obtain rfl := Option.some.inj hx; obtain rfl := Option.some.inj hy; exact (hne k e2 e1).elim
    | i + 2, _ => simp [flH] at hx
    | _, j + 2 => simp [flH] at hy
structure RS (w : World) (A : Option Addr) (c : Nat) (hs : List SHd) : Prop where
  cap : hs.length ≤ c
  max : hs.length ≤ 9223372036854775807
  cell : ∀ j u, (hs.flatMap encS)[j]? = some u → ∃ ad, A = some ad ∧ w.cell? (ad.add j) = some u
theorem RS.on {W w : World} {A : Option Addr} {c : Nat} {hs : List SHd} (h : RS W A c hs) (hb : On W w) : RS w A c hs := ⟨h.cap, h.max, fun j u hu => by
  obtain ⟨ad, e, hc⟩ := h.cell j u hu
  exact ⟨ad, e, (hb.eq _ (by rw [hc]; rfl)).trans hc⟩⟩
theorem OS.slice {w : World} {lo : Nat} {v : Value} {hs : List SHd} (h : OS w lo v hs) : ∃ A c, v = .slice A hs.length c ∧ RS w A c hs := by
  obtain ⟨A, c, rfl⟩ := own_slice h
  obtain ⟨h1, h2⟩ := own_capmax h
  refine ⟨A, c, rfl, h1, h2, fun j u hu => ?_⟩
  rcases h.2 with ⟨h1, h3⟩ | ⟨g, cap, cur, h1, _⟩
  · obtain rfl : hs = [] := List.eq_nil_of_length_eq_zero h3
    simp at hu
  · injection h1 with h1 h5 h6
    subst h1
    exact ⟨_, rfl, h.cells rfl j u hu⟩
theorem lit_S (W : World) (a b : Sli) : OS (W.alloc (.cells #[slV a, slV b] 45 (0, 0))) W.heap.size (.slice (some ⟨W.heap.size, 0, none⟩) 1 1) [(a, b)] :=
  lit_own W #[slV a, slV b] 45 2 1 W.heap.size (Nat.le_refl _) (by omega) rfl
section
variable {ops : Array Oper} {rest : List Oper} {o : Oper} {a : Act} {Q : Exit → Act → World → Prop} {W : World}
theorem apS (N : Tmp) {s x : Operand} {v : Value} {A : Option Addr} {c base : Nat} {xs ys zs : List SHd} (hz : xs ++ ys = zs)
    (HO : OS W base v xs) (HR : RS W A c ys) (hbase : base ≤ W.heap.size) (hl : xs.length + ys.length ≤ 1000000000)
    (h : ∀ v1 w1, OS w1 base v1 zs → W.grownBy w1 v.ownBlock → wpList Try.prog ops Q rest (a.put (some N) v1) w1)
    (hop : o.op = .call { callee := .builtin .append, args := #[s, x], argTypes := #[71, 71] } := by rfl)
    (hd : o.dst = some N := by rfl) (hg : o.guard = none := by rfl) (hs : a.eval s = v := by rfl) (hx : a.eval x = .slice A ys.length c := by rfl) : wpList Try.prog ops Q (o :: rest) a W := by
  subst hz
  obtain ⟨i0, hi, hzz⟩ := Option.map_eq_some_iff.1 infoSu
  simp only [Prod.mk.injEq] at hzz
  obtain ⟨hz0, hz1, hz2⟩ := hzz
  have hnil : ys = [] → wpList Try.prog ops Q (o :: rest) a W := by
    rintro rfl
    rw [List.append_nil] at h
    cases A with
    | none => exact ap_none N Try.underlying71 infoSu HO (h v W HO (World.grownBy.refl W _)) hop hd hg hs hx
    | some ad =>
      refine wpList_append_own_at W hg s x 71 hop base 45 i0 _ 2 48 Try.underlying71 hi hz0 hz1 hz2 rfl (by omega) v xs.length _ hs HO ad 0 c [] hx rfl (by simp) (by simp) (by simp at hl; simp [maxLen]; omega) (by simp at hl; omega) hbase fun v1 w1 h1 h2 _ _ => ?_
      rw [hd]
      exact h v1 w1 (by simpa using h1) h2
  cases A with
  | none =>
    refine hnil ?_
    cases ys with
    | nil => rfl
    | cons y ys => obtain ⟨_, e, _⟩ := HR.cell 0 _ rfl; cases e
  | some ad =>
    refine wpList_append_own_at W hg s x 71 hop base 45 i0 _ 2 48 Try.underlying71 hi hz0 hz1 hz2 rfl (by omega) v xs.length _ hs HO ad ys.length c (ys.flatMap encS) hx (flat_len (enc := encS) (sz := 2) (fun _ => rfl) ys) (fun j u hu => ?_) (fun u hu => ?_) (by simp [maxLen]; omega) (by omega) hbase fun v1 w1 h1 h2 _ _ => ?_
    · obtain ⟨ad', e, hc⟩ := HR.cell j u hu
      injection e with e; subst e; exact hc
    · obtain ⟨y, _, hy⟩ := List.mem_flatMap.1 hu
      simp only [List.mem_cons, List.not_mem_nil, or_false] at hy
      rcases hy with rfl | rfl <;> rfl
    · rw [hd]
      refine h v1 w1 ?_ h2
      have e : (xs ++ ys).flatMap encS = xs.flatMap encS ++ ys.flatMap encS := List.flatMap_append
      show World.ownsRow _ _ _ _ _ (xs ++ ys).length _
      rw [e, List.length_append]
      exact h1
end
end Go.Proofs.Ytngjhblbpapjeaa.H
/- Walks: the reference takes a fact out; restricts. No condition. -/
namespace Go.Proofs.Ytngjhblbpapjeaa.H
open Go Go.RowKit Go.Proofs.YtngjhblbpapjeaaW.PrintWords Go.Proofs.YtngjhblbpapjeaaW.PrintLast
open Go.Proofs.Ytngjhblbpapjeaa.Reg (On on_draw)
set_option maxHeartbeats 1000000
set_option maxRecDepth 100000
set_option linter.unusedVariables false
set_option linter.unusedSimpArgs false

/-- An instance that is read. -/
structure RIn (w : World) (v : Value) (rs : List Rel) (fs : List Fct) : Prop where mk :: (out : ∃ A0 c0 A1 c1, v = .agg #[.slice A0 rs.length c0, .slice A1 fs.length c1] ∧ Rels w A0 c0 rs ∧ Fcts w A1 c1 fs)
theorem RIn.on {W w : World} {v : Value} {rs : List Rel} {fs : List Fct} (h : RIn W v rs fs) (hb : On W w) : RIn w v rs fs := by
  obtain ⟨A0, c0, A1, c1, e, h0, h1⟩ := h.out
  exact ⟨A0, c0, A1, c1, e, h0.on hb, h1.on hb⟩
theorem OIn.read {w : World} {lo : Nat} {v : Value} {rs : List Rel} {fs : List Fct} (h : OIn w lo v rs fs) : RIn w v rs fs := by
  obtain ⟨vr, vf, hs, rfl, hR, hH, hS⟩ := h.out
  obtain ⟨A0, c0, rfl, h0⟩ := OR.rd hR
  obtain ⟨A1, c1, rfl, h1⟩ := OH.rd hH hS.reads
  exact ⟨A0, c0, A1, c1, rfl, h0, h1⟩
theorem RH.take {w : World} {A : Option Addr} {c : Nat} {hs : List Hdr} (h : RH w A c hs) (k : Nat) (hk : k ≤ hs.length) : RH w A c (hs.take k) := by
  have hl : (hs.take k).length = k := by rw [List.length_take]; omega
  refine ⟨by rw [hl]; have := h.cap; omega, by rw [hl]; have := h.max; omega, fun j u hu => h.cell j u ?_⟩
  have e : hs.flatMap encH = (hs.take k).flatMap encH ++ (hs.drop k).flatMap encH := by rw [← List.flatMap_append, List.take_append_drop]
  rw [e, List.getElem?_append_left (List.getElem?_eq_some_iff.1 hu).1]; exact hu
theorem RH.drop {w : World} {A : Option Addr} {c : Nat} {hs : List Hdr} (h : RH w A c hs) (k : Nat) (hk : k ≤ hs.length) : RH w (if c = k then A else A.map (·.add (k * 2))) (c - k) (hs.drop k) := by
  have hl : (hs.drop k).length = hs.length - k := List.length_drop
  have hcap := h.cap
  have e : hs.flatMap encH = (hs.take k).flatMap encH ++ (hs.drop k).flatMap encH := by rw [← List.flatMap_append, List.take_append_drop]
  have hl2 : ((hs.take k).flatMap encH).length = k * 2 := by rw [flat_len (enc := encH) (sz := 2) (fun _ => rfl), List.length_take]; congr 1; omega
  refine ⟨by rw [hl]; omega, by rw [hl]; have := h.max; omega, fun j u hu => ?_⟩
  obtain ⟨ad, e2, hc⟩ := h.cell (k * 2 + j) u (by rw [e, List.getElem?_append_right (by omega), hl2, show k * 2 + j - k * 2 = j by omega]; exact hu)
  subst e2
  have hlt : 0 < (hs.drop k).length := by
    have := (List.getElem?_eq_some_iff.1 hu).1
    rw [flat_len (enc := encH) (sz := 2) (fun _ => rfl)] at this
    omega
  rw [if_neg (by omega)]
  exact ⟨_, rfl, by rw [Addr.add_add]; exact hc⟩
section
variable {ops : Array Oper} {Q : Exit → Act → World → Prop} {i : Nat} {tail : List Nat} {l : List (Nat × Reg.K)} {a : Act} {W : World} {o : Oper} {N : Tmp}
/-- Cuts of rows of facts. -/
theorem sTo {x y : Operand} {A : Option Addr} {n c k : Nat} (hk : k ≤ n) (hc : n ≤ c) (h : Reg.Ord Try.prog ops Q tail l (a.put (some N) (.slice A k c)) W) (hi : ops[i]? = some o := by rfl) (hN : o.dst = some N := by rfl) (hw : Region.wanted o (yielded ops a.tmps) = true := by rfl)
    (hop : o.op = .slice 30 x none (some y) none := by rfl) (hx : a.eval x = .slice A n c := by rfl) (hy : a.eval y = .int .i64 (k : Int) := by rfl) : Reg.Ord Try.prog ops Q tail ((i, .L) :: l) a W := by
  obtain ⟨i0, hi0, _, hsz, _⟩ := info_parts infoF
  have hcut := cut_to (P := Try.prog) 30 55 .i64 Try.underlying30 hi0 A n c (k : Int) (by omega) (by omega) hc
  refine Reg.stepL (v := .slice A k c) (fun w _ => ?_) h hi hN hw
  unfold execOp
  simp only [hop, hx, hy, Option.map_some, Option.map_none]
  have := hcut w
  simp only [Int.toNat_natCast] at this
  go_simp
theorem sFrom {x y : Operand} {A A' : Option Addr} {n c k m c' : Nat} (hA : (if c = k then A else A.map (·.add (k * 2))) = A') (hm : n - k = m) (hc' : c - k = c') (hk : k ≤ n) (hc : n ≤ c) (h : Reg.Ord Try.prog ops Q tail l (a.put (some N) (.slice A' m c')) W) (hi : ops[i]? = some o := by rfl) (hN : o.dst = some N := by rfl) (hw : Region.wanted o (yielded ops a.tmps) = true := by rfl)
    (hop : o.op = .slice 30 x (some y) none none := by rfl) (hx : a.eval x = .slice A n c := by rfl) (hy : a.eval y = .int .i64 (k : Int) := by rfl) : Reg.Ord Try.prog ops Q tail ((i, .L) :: l) a W := by
  subst hA hm hc'
  obtain ⟨i0, hi0, _, hsz, _⟩ := info_parts infoF
  have hcut := cut_from (P := Try.prog) 30 55 .i64 Try.underlying30 hi0 2 hsz A n c (k : Int) (by omega) (by omega)
  refine Reg.stepL (v := .slice (if c = k then A else A.map (·.add (k * 2))) (n - k) (c - k)) (fun w _ => ?_) h hi hN hw
  unfold execOp
  simp only [hop, hx, hy, Option.map_some, Option.map_none]
  have := hcut w
  simp only [Int.toNat_natCast] at this
  go_simp
end
/-- What is left of an instance's facts without g. -/
def delI (rs : List Rel) (fs : List Fct) (g : Fct) : List Fct := if okInst rs fs && hasF fs g then delF fs g else fs
theorem factsFrom_asc {rs : List Rel} : ∀ {p : Option Fct} {fs : List Fct}, factsFrom rs p fs = true → Asc fs ∧ ∀ q, p = some q → ∀ f ∈ fs, cmpF q f < 0
  | _, [], _ => ⟨List.Pairwise.nil, fun _ _ _ h => by cases h⟩
  | p, f :: fs, h => by
    simp only [factsFrom, Bool.and_eq_true] at h
    obtain ⟨h1, h2⟩ := factsFrom_asc h.2
    refine ⟨List.pairwise_cons.2 ⟨h2 f rfl, h1⟩, fun q hq g hg => ?_⟩
    subst hq
    have hqf : cmpF q f < 0 := by
      have := h.1; simp only [okNext, okPrev, Bool.and_eq_true, decide_eq_true_eq] at this; exact this.1.2
    rcases List.mem_cons.1 hg with rfl | hg
    · exact hqf
    · exact cmpF_trans _ _ _ hqf (h2 f rfl g hg)
theorem okInst_asc {rs : List Rel} {fs : List Fct} (h : okInst rs fs = true) : Asc fs := by
  simp only [okInst, Bool.and_eq_true] at h; exact (factsFrom_asc h.1).1
theorem okInst_len {rs : List Rel} {fs : List Fct} (h : okInst rs fs = true) : rs.length ≤ 6 ∧ fs.length ≤ 30 := by
  simp only [okInst, okRels, Bool.and_eq_true, decide_eq_true_eq] at h; exact ⟨h.2.1.2, h.2.2⟩
theorem sDeleteFact_calls (w : World) (A0 c0 A1 c1) (rs : List Rel) (fs : List Fct) (h0 : Rels w A0 c0 rs) (h1 : Fcts w A1 c1 fs) (A2 c2) (g : Fct) (h2 : Ints w A2 c2 g.2) (hl0 : rs.length ≤ 2000000) (hl : fs.length ≤ 2000000) (hl2 : ∀ f ∈ fs, f.2.length ≤ 2000000) :
    Calls Try.prog 32 #[.agg #[.slice A0 rs.length c0, .slice A1 fs.length c1], .agg #[.int .i64 g.1, .slice A2 g.2.length c2]] w (Got fun v w' => ∃ v1, v = .tuple #[v1, .bool (okInst rs fs && hasF fs g)] ∧ OIn w' w.heap.size v1 rs (delI rs fs g) ∧ On w w') := by
  have hb := Aside0.mk (On.alloc (On.alloc (On.alloc (On.refl w) (.cells #[.slice A0 rs.length c0, .slice A1 fs.length c1] 32)) (.cells #[.int .i64 g.1, .slice A2 g.2.length c2] 55)) (.cells #[.slice none 0 0, .slice none 0 0] 32))
  have hL := Aside0.mk (loc3 w #[.slice A0 rs.length c0, .slice A1 fs.length c1] #[.int .i64 g.1, .slice A2 g.2.length c2] #[.slice none 0 0, .slice none 0 0] 32 55 32)
  have hsz3 := Aside0.mk (show (((w.alloc (.cells #[.slice A0 rs.length c0, .slice A1 fs.length c1] 32)).alloc (.cells #[.int .i64 g.1, .slice A2 g.2.length c2] 55)).alloc (.cells #[.slice none 0 0, .slice none 0 0] 32)).heap.size = w.heap.size + 3 by simp)
  cases ho : okInst rs fs && hasF fs g with
  | false =>
    have ho' := Aside0.mk ho
    clear ho
    go_enter Try.func32, Try.ntmps32
    go_wp2_with (first
      | (go_at_call 86; refine (l5Copy_calls _ A0 c0 A1 c1 rs fs (h0.on hb.out) (h1.on hb.out) hl0 hl hl2).mono ?_; rintro e w1 ⟨v1, rfl, ⟨vr, vf, hs, rfl, hR, hH, hS⟩, hb1⟩; obtain ⟨Ar, cr, rfl⟩ := own_slice hR; obtain ⟨Af, cf, rfl⟩ := own_slice hH; have hfill := alloc_fill w1; have hI := Aside0.mk (OIn.mk ⟨_, _, hs, rfl, hR, hH, hS⟩); have hB1 := Aside0.mk (hb1.trans (On.alloc (On.refl _) (.cells #[.slice Ar rs.length cr, .slice Af hs.length cf] 32))); have hL1 := Aside0.mk (Loc.on hB1.out hL.out); have hc0 := blk_cell hL1.out.1; have hc1 := blk_cell hL1.out.2.1; have hY1 := Aside0.mk (loc_new w1 #[.slice Ar rs.length cr, .slice Af hs.length cf] 32); clear hR hH hS)
      | (go_at_call 87; refine (sContainsFact_calls _ A0 c0 A1 c1 rs fs (h0.on (hb.out.trans hB1.out)) (h1.on (hb.out.trans hB1.out)) A2 c2 g (h2.on (hb.out.trans hB1.out))).mono ?_; rintro e w2 ⟨rfl, hb2⟩; rw [ho'.out]; have hL2 := Aside0.mk (Loc.on (hB1.out.trans hb2) hL.out); have hy := blk_cell (blk_below hY1.out hb2); have hcr : ∀ i, w2.cell? ⟨w.heap.size + 1 + 1, i, none⟩ = _ := blk_cell hL2.out.2.2.1; have hfr : ∀ i, w2.frozen? ⟨w.heap.size + 1 + 1, i, none⟩ = _ := blk_frozen hL2.out.2.2.1; have hI2 := Aside0.mk (hI.out.on ((On.alloc (On.refl _) _).trans hb2)); clear hc0 hc1 hfill))
    refine bodyPost_ret (retIB rfl rfl (g := w.heap.size + 2) (blk_set (blk_set hL2.out.2.2.1 0 _) 1 _) rfl) rfl ?_
    have hI3 := hI2.out
    rw [hsz3.out] at hI3
    refine ⟨_, rfl, _, rfl, ?_, Reg.On.set (Reg.On.set (hb.out.trans (hB1.out.trans hb2)) (by simp; omega) _) (by simp; omega) _⟩
    unfold delI; rw [ho'.out, if_neg (by simp)]
    exact OIn.lower (OIn.set (OIn.set hI3 (by simp) _) (by simp) _) (by omega)
  | true =>
    have hg : g ∈ fs := (hasF_mem fs g).1 (Bool.and_eq_true_iff.1 ho).2
    have hasc := okInst_asc (Bool.and_eq_true_iff.1 ho).1
    have hle := okInst_len (Bool.and_eq_true_iff.1 ho).1
    rcases place_spec fs g with ⟨_, hn⟩ | ⟨k, hk, hpl, hkg, _⟩
    · exact absurd hg hn
    have hdel := Aside0.mk (show delI rs fs g = fs.take k ++ fs.drop (k + 1) by unfold delI; rw [ho, if_pos rfl, delF_at fs g hasc k hk hkg])
    have ho' := Aside0.mk ho
    clear ho hg hasc hkg
    go_enter Try.func32, Try.ntmps32
    go_wp2_with (first
      | (go_at_call 86; refine (l5Copy_calls _ A0 c0 A1 c1 rs fs (h0.on hb.out) (h1.on hb.out) hl0 hl hl2).mono ?_; rintro e w1 ⟨v1, rfl, ⟨vr, vf, hs, rfl, hR, hH, hS⟩, hb1⟩; obtain ⟨Ar, cr, rfl⟩ := own_slice hR; obtain ⟨Af, cf, rfl⟩ := own_slice hH; have hfill := alloc_fill w1; have hR1 := Aside0.mk hR; have hH1 := Aside0.mk hH; have hS1 := Aside0.mk hS; have hlen := Aside0.mk hS.len; have hB1 := Aside0.mk (hb1.trans (On.alloc (On.refl _) (.cells #[.slice Ar rs.length cr, .slice Af hs.length cf] 32))); have hL1 := Aside0.mk (Loc.on hB1.out hL.out); have hc0 := blk_cell hL1.out.1; have hc1 := blk_cell hL1.out.2.1; have hY1 := Aside0.mk (loc_new w1 #[.slice Ar rs.length cr, .slice Af hs.length cf] 32); clear hR hH hS)
      | (go_at_call 87; refine (sContainsFact_calls _ A0 c0 A1 c1 rs fs (h0.on (hb.out.trans hB1.out)) (h1.on (hb.out.trans hB1.out)) A2 c2 g (h2.on (hb.out.trans hB1.out))).mono ?_; rintro e w2 ⟨rfl, hb2⟩; rw [ho'.out]; have hL2 := Aside0.mk (Loc.on (hB1.out.trans hb2) hL.out); have hy := blk_cell (blk_below hY1.out hb2); have hcg := blk_cell hL2.out.2.1; have hb2' := Aside0.mk ((On.alloc (On.refl w1) (.cells #[.slice Ar rs.length cr, .slice Af hs.length cf] 32)).trans hb2); have hF2 := Aside0.mk ((OH.rh (pw_own_below hH1.out hb2'.out)).2.fcts ((hS1.out.on hb2'.out).reads)); clear hc0 hc1 hfill)
      | (go_at_call 76; rw [hlen.out]; refine (l5Place_calls w2 Ar rs.length cr Af cf A2 c2 fs g hF2.out (h2.on (hb.out.trans (hB1.out.trans hb2)))).mono ?_; rintro e w3 ⟨rfl, hb3⟩; rw [hpl]; have hL3 := Aside0.mk (Loc.on hb3 hL2.out); have hY3 := Aside0.mk (blk_below (blk_below hY1.out hb2) hb3); have hy3 := blk_cell hY3.out; clear hy hcg))
    have hH3 := Aside0.mk (pw_own_below hH1.out (hb2'.out.trans hb3))
    have hS3 := Aside0.mk (hS1.out.on (hb2'.out.trans hb3))
    have hRH := Aside0.mk (OH.rh hH3.out).2
    have hkk := Aside0.mk (show k < hs.length by rw [hlen.out]; exact hk)
    have hcap := hRH.out.cap
    have hB3 := Aside0.mk (hB1.out.trans (hb2.trans hb3))
    refine Reg.region [(1,.L),(2,.L),(3,.L),(4,.L),(6,.L),(7,.L),(8,.L),(9,.L),(10,.L),(0,.N),(5,.N)] [11,12,13] (by kernel_rfl) (by kernel_rfl) ?_
    repeat first | refine sP ?_ | refine sS ?_ | refine sA ?_ | refine sL ?_ | refine sQ ?_ | refine sO ?_
    refine sTo (k := k) (Nat.le_of_lt hkk.out) hcap ?_
    simp only [Act.put, List.setIfInBounds_toArray, List.set_cons_zero, List.set_cons_succ]
    repeat first | refine sP ?_ | refine sS ?_ | refine sA ?_ | refine sL ?_ | refine sQ ?_ | refine sO ?_
    obtain ⟨xs, hxs⟩ : ∃ xs, hs.take k = xs := ⟨_, rfl⟩
    obtain ⟨ys, hys⟩ : ∃ ys, hs.drop (k + 1) = ys := ⟨_, rfl⟩
    obtain ⟨Ad, hAd⟩ : ∃ Ad, (if cf = k + 1 then Af else Af.map (·.add ((k + 1) * 2))) = Ad := ⟨_, rfl⟩
    obtain ⟨cd, hcd⟩ : ∃ cd, cf - (k + 1) = cd := ⟨_, rfl⟩
    refine sFrom (k := k + 1) (m := ys.length) hAd (by rw [← hys, List.length_drop]) hcd hkk.out hcap ?_
    have hRx := Aside0.mk (hxs ▸ hRH.out.take k (Nat.le_of_lt hkk.out))
    have hRy := Aside0.mk (show RH w3 Ad cd ys from hAd ▸ hcd ▸ hys ▸ hRH.out.drop (k + 1) hkk.out)
    have hxl := Aside0.mk (show xs.length = k by rw [← hxs, List.length_take]; have := hkk.out; omega)
    have hxys := Aside0.mk (show hs.take k ++ hs.drop (k + 1) = xs ++ ys by rw [hxs, hys])
    clear hxs hys hAd hcd hcap
    simp only [Act.put, List.setIfInBounds_toArray, List.set_cons_zero, List.set_cons_succ]
    refine stepM (fun w4 hS4 => ?_)
    go_wp2
    refine ⟨hS4.trans (On.alloc (On.refl _) _), ?_⟩
    refine stepM (fun w5 hS5 => ?_)
    have hS35 := Aside0.mk (hS4.trans ((On.alloc (On.refl _) _).trans hS5))
    refine apHf 23 (List.nil_append xs) (pw_own_below (lit_own w4 #[] 55 2 0 w4.heap.size (Nat.le_refl _) (by omega) rfl) hS5) rfl (hRx.out.on hS35.out) (Nat.le_trans (by simp) hS5.size) (by have := hxl.out; omega) (fun v6 w6 hO6 hb6 => ?_) (hx := by rw [hxl.out]; rfl)
    refine ⟨hS5.trans hb6, ?_⟩
    obtain ⟨A6, c6, rfl⟩ := own_slice hO6
    simp only [Act.put, List.setIfInBounds_toArray, List.set_cons_zero, List.set_cons_succ]
    refine Reg.tail_ fun w7 hS7 => ?_
    have hB7 := Aside0.mk (hS35.out.trans (hb6.trans hS7))
    have hO7 := Aside0.mk (pw_own_below hO6 hS7)
    have hs34 := hS4.size
    have hs45 := ((On.alloc (On.refl w4) (.cells #[] 55)).trans hS5).size
    have hw13 : w.heap.size + 3 ≤ w1.heap.size := by have := hb1.size; rwa [hsz3.out] at this
    have hw1l : w1.heap.size < w3.heap.size := blk_lt hY3.out
    have hge : ∀ i, some i = Value.ownBlock (.slice A6 xs.length c6) → w4.heap.size ≤ i := fun i e => own_base hO6 i e.symm
    have hge' := Aside0.mk hge
    obtain ⟨zs, hzs⟩ : ∃ zs, xs ++ ys = zs := ⟨_, rfl⟩
    have hzl : xs.length + ys.length ≤ 1000000000 := by have h5 := congrArg List.length hxys.out; rw [List.length_append, List.length_append, List.length_take, List.length_drop] at h5; have := hlen.out; omega
    refine apH 29 hzs hO7.out (hRy.out.on hB7.out) (by have := (hb6.trans hS7).size; omega) hzl fun v8 w8 hO8 hg8 => ?_
    obtain ⟨A8, c8, rfl⟩ := own_slice hO8
    have hy8 := blk_grown hg8 (blk_below hY3.out hB7.out) (fun e => by have := hge _ e; have := blk_lt hY1.out; have := (hb2'.out.trans hb3).size; have := blk_lt hY3.out; omega)
    have hr8 := blk_grown hg8 (Loc.on hB7.out hL3.out).2.2.1 (fun e => by have := hge _ e; have := blk_lt hL3.out.2.2.1; omega)
    have hcy := blk_cell hy8
    have hfy := blk_frozen hy8
    have hcr : ∀ i, w8.cell? ⟨w.heap.size + 1 + 1, i, none⟩ = _ := blk_cell hr8
    have hfr : ∀ i, w8.frozen? ⟨w.heap.size + 1 + 1, i, none⟩ = _ := blk_frozen hr8
    have hr8' := Aside0.mk hr8
    have hne := Aside0.mk (show w.heap.size + 2 ≠ w1.heap.size by have := hb1.size; rw [hsz3.out] at this; omega)
    have hne1 : ¬ (w.heap.size + 1 + 1 = w1.heap.size) := hne.out
    have hne2 : ¬ (w1.heap.size = w.heap.size + 1 + 1) := fun e => hne.out e.symm
    have hy8' := Aside0.mk hy8
    clear hy8 hr8 hge hy3 hzl
    go_wp2
    refine bodyPost_ret (retIB rfl rfl (g := w.heap.size + 2) (blk_set (blk_set (blk_far hr8'.out (by simpa using hne1) _) 0 _) 1 _) rfl) rfl ?_
    have hEx : Ex (fun b => w1.heap.size = b ∨ w4.heap.size ≤ b) w3 (w8.setCell ⟨w1.heap.size, 1, none⟩ (.slice A8 zs.length c8)) :=
      ((Ex.of_on hB7.out).trans (Ex.of_grown hg8) (fun i _ e => .inr (hge'.out i e))).trans (Ex.set _ _ _) (fun i _ e => .inl e.symm)
    have hI : OIn (w8.setCell ⟨w1.heap.size, 1, none⟩ (.slice A8 zs.length c8)) (w.heap.size + 3) (.agg #[.slice Ar rs.length cr, .slice A8 zs.length c8]) rs (fs.take k ++ fs.drop (k + 1)) := by
      have hR3 := pw_own_below hR1.out (hb2'.out.trans hb3)
      have hy3' := blk_lt hY3.out
      rw [hsz3.out] at hR3
      have hS9 := hS3.out.erase k
      rw [hxys.out, hzs, hsz3.out] at hS9
      refine ⟨_, _, zs, rfl, own_ex hR3 hEx (fun i hi h => ?_), own_lower (own_ex hO8 (Ex.set _ _ _) (fun i hi h => ?_)) (by omega), hS9.ex hEx (fun i a b ha hb h => ?_)⟩
      · have := own_lt hR1.out i hi; omega
      · have h7 := own_base hO8 i hi; have h8 : i = w1.heap.size := h; omega
      · have h1 := (hS1.out.erase k)
        rw [hxys.out, hzs] at h1
        have := h1.lt ha hb; omega
    rw [hdel.out]
    refine ⟨_, rfl, _, rfl, OIn.lower (OIn.set (OIn.set hI (by simp) _) (by simp) _) (by omega), Reg.On.set (Reg.On.set (Ex.on (hb.out.trans (hB1.out.trans (hb2.trans hb3))) hEx (fun i h => by omega)) (by simp; omega) _) (by simp; omega) _⟩
/-- The facts of the source's relations, or of the others. -/
def resF (rs : List Rel) (fs : List Fct) (b : Bool) : List Fct := fs.filter fun f => srcOf rs f.1 == b
def resI (rs : List Rel) (fs : List Fct) (b : Bool) : List Fct := if okInst rs fs then resF rs fs b else []
def resR (rs : List Rel) (fs : List Fct) : List Rel := if okInst rs fs then rs else []
theorem resF_step (rs : List Rel) (fs : List Fct) (b : Bool) (k : Nat) (h : k < fs.length) : resF rs (fs.take (k + 1)) b = resF rs (fs.take k) b ++ (if srcOf rs fs[k].1 == b then [fs[k]] else []) := by
  unfold resF; rw [List.take_succ_eq_append_getElem h, List.filter_append, List.filter_cons]; split <;> simp
theorem factsFrom_mem {rs : List Rel} : ∀ {p : Option Fct} {fs : List Fct}, factsFrom rs p fs = true → ∀ f ∈ fs, okFact rs f = true
  | _, [], _, f, hf => by cases hf
  | p, g :: fs, h, f, hf => by
    simp only [factsFrom, okNext, Bool.and_eq_true] at h
    rcases List.mem_cons.1 hf with rfl | hf
    · exact h.1.1.1
    · exact factsFrom_mem h.2 f hf
theorem okInst_mem {rs : List Rel} {fs : List Fct} (h : okInst rs fs = true) : ∀ f ∈ fs, okFact rs f = true := by
  simp only [okInst, Bool.and_eq_true] at h; exact factsFrom_mem h.1
theorem sRestrict_calls (w : World) (A0 c0 A1 c1) (rs : List Rel) (fs : List Fct) (b : Bool) (h0 : Rels w A0 c0 rs) (h1 : Fcts w A1 c1 fs) :
    Calls Try.prog 21 #[.agg #[.slice A0 rs.length c0, .slice A1 fs.length c1], .bool b] w (Got fun v w' => RIn w' v (resR rs fs) (resI rs fs b) ∧ On w w') := by
  have hb := Aside0.mk (On.alloc (On.alloc (On.refl w) (.cells #[.slice A0 rs.length c0, .slice A1 fs.length c1] 32)) (.cells #[.slice none 0 0, .slice none 0 0] 32))
  have hL := Aside0.mk (loc2 w #[.slice A0 rs.length c0, .slice A1 fs.length c1] #[.slice none 0 0, .slice none 0 0] 32 32)
  cases ho : okInst rs fs with
  | false =>
    have ho' := Aside0.mk ho
    clear ho
    go_enter Try.func21, Try.ntmps21
    go_wp2_with (go_at_call 41; refine (IsValidInstance_calls _ A0 c0 A1 c1 rs fs (h0.on hb.out) (h1.on hb.out)).mono ?_; rintro e w1 ⟨rfl, hb1⟩; rw [ho'.out]; have hL1 := Aside0.mk (Loc.on hb1 hL.out); have hcr := blk_cell hL1.out.2.1; have hfr := blk_frozen hL1.out.2.1)
    refine bodyPost_ret (retI rfl rfl (g := w.heap.size + 1) (blk_set (blk_set hL1.out.2.1 0 _) 1 _) rfl) rfl ?_
    refine ⟨_, rfl, ?_, Reg.On.set (Reg.On.set (hb.out.trans hb1) (by simp) _) (by simp) _⟩
    unfold resR resI; rw [ho'.out, if_neg (by simp), if_neg (by simp)]
    exact ⟨none, 0, none, 0, rfl, ⟨Nat.le_refl _, rfl, by simp, fun h => absurd h (by simp)⟩, ⟨Nat.le_refl _, ⟨rfl, by simp, fun h => absurd h (by simp)⟩, fun f hf => by cases hf⟩⟩
  | true =>
    have hle := okInst_len ho
    have hmem := Aside0.mk (okInst_mem ho)
    have ho' := Aside0.mk ho
    clear ho
    go_enter Try.func21, Try.ntmps21
    go_wp2_with (first | (go_at_call 41; refine (IsValidInstance_calls _ A0 c0 A1 c1 rs fs (h0.on hb.out) (h1.on hb.out)).mono ?_; rintro e w0 ⟨rfl, hb0⟩; rw [ho'.out]; have hL0 := Aside0.mk (Loc.on hb0 hL.out); have hc0 := blk_cell hL0.out.1; have hc1 := blk_cell (blk_alloc hL0.out.1 (.cells #[] 87)); have hB0 := Aside0.mk (hb.out.trans hb0)) | (refine gate 14 ?_))
    refine ⟨apRf 14 (List.nil_append _) (lit_own w0 #[] 87 3 0 (w.heap.size + 2) (blk_lt hL0.out.2.1) (by omega) rfl) rfl (h0.on (hB0.out.trans (On.alloc (On.refl _) _))) (by have := blk_lt hL0.out.2.1; simp; omega) (by omega) fun v1 w1 hO1 hb1 => ?_⟩
    obtain ⟨Ar, cr, rfl⟩ := own_slice hO1
    have hfill := alloc_fill w1
    go_wp2
    clear hfill hc0 hc1
    have hbL := Aside0.mk (Loc.on ((On.alloc (On.refl _) _).trans hb1) hL0.out)
    have hB1 := Aside0.mk (hB0.out.trans ((On.alloc (On.refl _) _).trans hb1))
    have hOR := Aside0.mk hO1
    clear hb1 hO1
    have hyb := Aside0.mk (loc_new w1 #[.slice Ar rs.length cr, .slice none 0 0] 32)
    have hBy := Aside0.mk (On.alloc (On.refl w1) (.cells #[.slice Ar rs.length cr, .slice none 0 0] 32))
    have hsy := Aside0.mk (show (w1.alloc (.cells #[.slice Ar rs.length cr, .slice none 0 0] 32)).heap.size = w1.heap.size + 1 by simp)
    obtain ⟨Wy, hWy⟩ : ∃ Wy, w1.alloc (.cells #[.slice Ar rs.length cr, .slice none 0 0] 32) = Wy := ⟨_, rfl⟩
    rw [hWy] at hyb hBy hsy ⊢
    clear hWy
    go_loopw [6] (fun v wr => ∃ (k : Nat) (hs : List Hdr) (A' : Option Addr) (c' : Nat), k ≤ fs.length ∧ v = .int .i64 k ∧ Aside0 (OH wr (w1.heap.size + 1) (.slice A' hs.length c') hs) ∧ Aside0 (Sep wr (w1.heap.size + 1) hs (resF rs (fs.take k) b)) ∧ Aside0 (w1.heap.size + 1 ≤ wr.heap.size) ∧ Aside0 (Ex (fun b => w1.heap.size ≤ b) w1 wr) ∧ wr.heap[w1.heap.size]? = some (.cells #[.slice Ar rs.length cr, .slice A' hs.length c'] 32 (0, 0))) (fun v _ => fs.length - (intOf v).toNat)
    case atStart => exact ⟨0, [], none, 0, Nat.zero_le _, rfl, ⟨World.ownsRow_nil _ _ _ _⟩, ⟨Sep.nil _ _⟩, ⟨by rw [hsy.out]; exact Nat.le_refl _⟩, ⟨Ex.of_on hBy.out⟩, hyb.out⟩
    case round =>
      obtain ⟨k, hs, A', c', hk, rfl, hO, hS, hsz, hE, hy⟩ := hrel
      have hlen := Aside0.mk (show hs.length ≤ k by have := hS.out.len; have h6 : (resF rs (fs.take k) b).length ≤ (fs.take k).length := List.length_filter_le _ _; rw [List.length_take] at h6; omega)
      have hB := Aside0.mk (Ex.on hB1.out hE.out (fun i hi => by have := hB1.out.size; omega))
      have hLr := Aside0.mk (show Loc wr _ from Loc.on (Ex.to_on hE.out (fun i hi => hi)) hbL.out)
      have hc0 := blk_cell hLr.out.1
      have hcy := blk_cell hy
      have hy' := Aside0.mk hy
      clear hy
      by_cases hlt : k < fs.length
      · obtain ⟨ad, A3, c3, rfl, hx0, hx1, hx2⟩ := (h1.on hB.out).at k hlt
        have hat := okFact_at (hmem.out _ (List.getElem_mem hlt))
        have hat1 : fs[k].1.toNat < rs.length := by omega
        have hat2 : 0 ≤ fs[k].1 := hat.1
        have hat3 : fs[k].1 < rs.length := hat.2
        obtain ⟨ad0, rfl, _, _, hxs⟩ := (h0.on hB.out).at fs[k].1.toNat hat1
        have hsr : rs[fs[k].1.toNat].2.2 = srcOf rs fs[k].1 := by simp [srcOf, hat1]
        rw [hsr] at hxs
        have hstep := Aside0.mk (resF_step rs fs b k hlt)
        clear hsr hat
        cases hq : (srcOf rs fs[k].1 == b) with
        | true =>
          have hq' := Aside0.mk hq
          go_wp2
          refine Reg.region [(0,.L),(1,.L),(2,.L),(3,.L),(4,.L),(5,.L),(6,.L),(7,.L),(8,.L),(9,.L),(10,.L),(11,.L),(12,.L)] [] (by kernel_rfl) (by kernel_rfl) ?_
          repeat first | refine sP ?_ | refine sS ?_ | refine sA ?_ | refine sL ?_ | refine sQ ?_ | refine sO ?_
          refine Reg.nil fun w2 hS2 => ?_
          have hEq2 := hS2.eq
          have hc2 := blk_cell (Loc.on hS2 hLr.out).1
          have hcy2 := blk_cell (blk_below hy'.out hS2)
          have hx0' := (hS2.eq _ (by rw [hx0]; rfl)).trans hx0
          have hx1' := (hS2.eq _ (by rw [hx1]; rfl)).trans hx1
          clear hEq2 hc0 hcy hx0 hx1 hxs
          go_wp2
          refine Reg.region [(0,.L),(1,.L),(2,.L),(3,.L),(4,.L),(5,.L),(6,.L),(7,.N),(8,.N)] [9,10,11] (by kernel_rfl) (by kernel_rfl) ?_
          repeat first | refine sP ?_ | refine sS ?_ | refine sA ?_ | refine sL ?_ | refine sQ ?_ | refine sO ?_
          have hO2 := Aside0.mk (pw_own_below hO.out hS2)
          have hSp2 := Aside0.mk (hS.out.on hS2)
          have hsz2 := Aside0.mk (Nat.le_trans hsz.out hS2.size)
          have hy2 := Aside0.mk (blk_below hy'.out hS2)
          have hl3 := Nat.le_trans (okFact_len (hmem.out _ (List.getElem_mem hlt))) (show 3 ≤ 2000000 by omega)
          refine callN Try.func65 (fun w3 hS3 => ?_)
          refine (l5Fact_calls w3 A3 c3 fs[k] (hx2.on (hS2.trans hS3)) hl3).mono ?_
          rintro e w4 ⟨v4, rfl, v5, rfl, hO4, hb4⟩
          obtain ⟨A4, c4, rfl⟩ := own_slice hO4
          refine ⟨_, rfl, hb4, fun a' ha => ?_⟩
          simp only [Act.put, List.setIfInBounds_toArray, List.set_cons_zero, List.set_cons_succ] at ha
          subst ha
          refine stepM (fun w5 hS5 => ?_)
          go_wp2
          refine ⟨hS5.trans (On.alloc (On.refl _) _), ?_⟩
          refine Reg.tail_ fun w6 hS6 => ?_
          have hB6 := Aside0.mk ((hS3.trans (hb4.trans (hS5.trans (On.alloc (On.refl _) _)))).trans hS6)
          have hlit := Aside0.mk (lit_RH hS6)
          have hO6 := Aside0.mk (pw_own_below hO2.out hB6.out)
          obtain ⟨zs, hz⟩ : ∃ zs, hs ++ [(fs[k].1, A4, fs[k].2.length, c4)] = zs := ⟨_, rfl⟩
          have hz' := Aside0.mk hz
          refine apH 45 hz hO6.out hlit.out (Nat.le_trans hsz2.out hB6.out.size) (by have := hlen.out; simp; omega) fun v7 w7 hO7 hg7 => ?_
          obtain ⟨A7, c7, rfl⟩ := own_slice hO7
          have hgy : some w1.heap.size ≠ Value.ownBlock (.slice A' hs.length c') := fun e => by have := own_base hO.out _ e.symm; omega
          have hk7 := blk_grown hg7 (blk_below hy2.out hB6.out) hgy
          have hcy7 := blk_cell hk7
          have hf7 := blk_frozen hk7
          have hk7' := Aside0.mk hk7
          have hS7 := Aside0.mk (copy_more (r := fs[k].1) (vs := fs[k].2) hSp2.out hsz2.out hO2.out (own_lower hO4 hS3.size) (hx2.2.2) (hS3.trans hb4) (hS5.trans ((On.alloc (On.refl _) _).trans hS6)) hg7)
          have hS7 := Aside0.mk (hz ▸ hS7.out)
          clear hk7 hgy hcy2 hz hc2 hx0' hx1'
          go_wp2
          refine ⟨⟨k + 1, zs, A7, c7, by omega, by go_num, ⟨ownsRow_setCell_below hO7 (Nat.lt_succ_self _) _⟩, ⟨?_⟩, ⟨?_⟩, ⟨?_⟩, blk_set hk7'.out 1 _⟩, by simp [intOf]; omega⟩
          · rw [hstep.out, hq'.out, if_pos rfl]
            exact Sep.set hS7.out (Nat.lt_succ_self _) _
          · have h3 := hg7.size; have h4 := hB6.out.size; have := hsz2.out; simp [World.setCell]; omega
          · exact ((hE.out.then_on (hS2.trans hB6.out)).trans (Ex.of_grown hg7) (fun i _ e => by have := own_base hO6.out i e.symm; omega)).trans (Ex.set _ _ _) (fun i _ e => by subst e; exact Nat.le_refl _)
        | false =>
          have hq' := Aside0.mk hq
          go_wp2
          refine Reg.region [(0,.L),(1,.L),(2,.L),(3,.L),(4,.L),(5,.L),(6,.L),(7,.L),(8,.L),(9,.L),(10,.L),(11,.L),(12,.L)] [] (by kernel_rfl) (by kernel_rfl) ?_
          repeat first | refine sP ?_ | refine sS ?_ | refine sA ?_ | refine sL ?_ | refine sQ ?_ | refine sO ?_
          refine Reg.nil fun w2 hS2 => ?_
          go_wp2
          refine ⟨⟨k + 1, hs, A', c', by omega, by go_num, ⟨pw_own_below hO.out hS2⟩, ⟨?_⟩, ⟨Nat.le_trans hsz.out hS2.size⟩, ⟨hE.out.then_on hS2⟩, blk_below hy'.out hS2⟩, by simp [intOf]; omega⟩
          rw [hstep.out, hq'.out, if_neg (by simp), List.append_nil]; exact hS.out.on hS2
      · have e1 : fs.take k = fs := List.take_of_length_le (by omega)
        rw [e1] at hS
        have hcr := blk_cell hLr.out.2.1
        have hfr := blk_frozen hLr.out.2.1
        go_wp2
        have hs1 := hBy.out.size
        have hw1 := blk_lt hbL.out.2.1
        refine bodyPost_ret (retI rfl rfl (g := w.heap.size + 1) (blk_set (blk_set hLr.out.2.1 0 _) 1 _) rfl) rfl ?_
        have hI : OIn wr (w.heap.size + 2) (.agg #[.slice Ar rs.length cr, .slice A' hs.length c']) rs (resF rs fs b) :=
          ⟨_, _, hs, rfl, own_ex hOR.out hE.out (fun i hi h => by have := own_lt hOR.out i hi; omega), own_lower hO.out (by omega), hS.out.lower (by omega)⟩
        refine ⟨_, rfl, ?_, Reg.On.set (Reg.On.set hB.out (by simp) _) (by simp) _⟩
        unfold resR resI; rw [ho'.out, if_pos rfl, if_pos rfl]
        exact (OIn.set (OIn.set hI (by simp) _) (by simp) _).read
end Go.Proofs.Ytngjhblbpapjeaa.H
/- Walks: substitutions of the reference. No condition. -/
namespace Go.Proofs.Ytngjhblbpapjeaa.H
open Go Go.RowKit Go.Proofs.YtngjhblbpapjeaaW.PrintWords Go.Proofs.YtngjhblbpapjeaaW.PrintLast
open Go.Proofs.Ytngjhblbpapjeaa.Reg (On on_draw)
set_option maxHeartbeats 4000000
set_option maxRecDepth 100000
set_option linter.unusedVariables false
set_option linter.unusedSimpArgs false

theorem sIsValidSub_calls (w : World) (A0 c0 A1 c1) (ns vs : List Int) (h0 : Ints w A0 c0 ns) (h1 : Ints w A1 c1 vs) :
    Calls Try.prog 73 #[.agg #[.slice A0 ns.length c0, .slice A1 vs.length c1]] w fun e w' => e = .returned (.bool (okSub ns vs)) ∧ On w w' := by
  have hm0 := h0.max
  have hm1 := h1.max
  have hb := Aside0.mk (On.alloc (On.refl w) (.cells #[.slice A0 ns.length c0, .slice A1 vs.length c1] 45))
  have hL := Aside0.mk (loc1 w #[.slice A0 ns.length c0, .slice A1 vs.length c1] 45)
  by_cases hl : ns.length = vs.length
  · have hlb : ((ns.length : Int) == (vs.length : Int)) = true := by simp [hl]
    have hlc : ((ns.length : Int) != (vs.length : Int)) = false := by simp [bne, hlb]
    have hld : (ns.length == vs.length) = true := by simp [hl]
    have hl' := Aside0.mk hl
    clear hl
    go_enter Try.func73, Try.ntmps73
    go_wp2
    clear hlb hlc hld
    go_loopw [3] (fun v wr => ∃ k : Nat, k ≤ ns.length ∧ v = .int .i64 k ∧ Aside0 (subFrom (prevI ns k) (ns.drop k) (vs.drop k) = subFrom none ns vs) ∧ On w wr ∧ Loc wr [(w.heap.size, #[.slice A0 ns.length c0, .slice A1 vs.length c1], 45)]) (fun v _ => ns.length - (intOf v).toNat)
    case atStart => exact ⟨0, Nat.zero_le _, rfl, ⟨rfl⟩, hb.out, hL.out⟩
    case round =>
      obtain ⟨k, hk, rfl, hp, hB0, hL0⟩ := hrel
      have hc0 := blk_cell hL0.1
      have hL' := Aside0.mk hL0
      have hB := Aside0.mk hB0
      clear hL0
      by_cases hlt : k < ns.length
      · have hlt2 : k < vs.length := by have := hl'.out; omega
        obtain ⟨ad, rfl, hx⟩ := (h0.on hB0).at k hlt
        obtain ⟨bd, rfl, hy⟩ := (h1.on hB0).at k hlt2
        have hbd := h1.bd k hlt2
        have hst := Aside0.mk ((subFrom_step ns vs k hlt hlt2).symm.trans hp.out)
        clear hp hB0
        cases hi : within ns[k] 0 39 with
        | false =>
          have hi' := Aside0.mk hi
          clear hi
          go_wp2
          refine Reg.region [(0,.L),(1,.L),(2,.L),(3,.L),(4,.L),(5,.C),(6,.L),(7,.L),(8,.L),(9,.L),(10,.L),(11,.L),(12,.L),(13,.L),(14,.L),(15,.L),(16,.L),(17,.L),(18,.L),(19,.L),(20,.L),(21,.L),(22,.L),(23,.L),(24,.L),(25,.L),(26,.L),(27,.L),(28,.L),(29,.L),(30,.L),(31,.C),(32,.L),(33,.L)] [] (by kernel_rfl) (by kernel_rfl) ?_
          repeat first | refine sP ?_ | refine sS ?_ | refine sA ?_ | refine sL ?_ | refine sQ ?_ | refine sO ?_
          refine callC (.bool false) Try.func114 (fun w' hS => ?_) ?_
          focus exact (l1In_calls w' _ _ _).mono fun e w'' h => ⟨by rw [h.1, hi'.out], h.2⟩
          repeat first | refine sP ?_ | refine sS ?_ | refine sA ?_ | refine sL ?_ | refine sQ ?_ | refine sO ?_
          refine Reg.nil fun w2 hS => ?_
          go_wp2
          go_ret
          exact ⟨ret_bool (by have := hst.out; rw [hi'.out] at this; simp at this; simp [okSub, this]), hB.out.trans hS⟩
        | true =>
          have hi' := Aside0.mk hi
          clear hi
          by_cases hk0 : 0 < k
          · have hk0' : decide (0 < (k : Int)) = true := decide_eq_true (by omega)
            have hki : IntKind.i64.wrap ((k : Int) - 1) = ((k - 1 : Nat) : Int) := by rw [IntWalk.i64_in _ (by omega)]; omega
            have hk1 : k - 1 < ns.length := by omega
            obtain ⟨ad', e', hz⟩ := (h0.on hB.out).at (k - 1) hk1
            obtain rfl : ad = ad' := by simpa using e'
            have hpn : prevI ns k = some ns[k - 1] := by simp [prevI, show ¬ k = 0 by omega, show k - 1 < ns.length by omega]
            by_cases hc : ns[k] ≤ ns[k - 1]
            · have hcb : decide (ns[k] ≤ ns[k - 1]) = true := decide_eq_true hc
              have hp' := Aside0.mk (show okPrevI (prevI ns k) ns[k] = false by rw [hpn]; exact decide_eq_false (by omega))
              clear hc hpn
              go_wp2
              refine Reg.region [(0,.L),(1,.L),(2,.L),(3,.L),(4,.L),(5,.C),(6,.L),(7,.L),(8,.L),(9,.L),(10,.L),(11,.L),(12,.L),(13,.L),(14,.L),(15,.L),(16,.L),(17,.L),(18,.L),(19,.L),(20,.L),(21,.L),(22,.L),(23,.L),(24,.L),(25,.L),(26,.L),(27,.L),(28,.L),(29,.L),(30,.L),(31,.C),(32,.L),(33,.L)] [] (by kernel_rfl) (by kernel_rfl) ?_
              repeat first | refine sP ?_ | refine sS ?_ | refine sA ?_ | refine sL ?_ | refine sQ ?_ | refine sO ?_
              refine callC (.bool true) Try.func114 (fun w' hS => ?_) ?_
              focus exact (l1In_calls w' _ _ _).mono fun e w'' h => ⟨by rw [h.1, hi'.out], h.2⟩
              repeat first | refine sP ?_ | refine sS ?_ | refine sA ?_ | refine sL ?_ | refine sQ ?_ | refine sO ?_
              refine Reg.nil fun w2 hS => ?_
              go_wp2
              go_ret
              exact ⟨ret_bool (by have := hst.out; rw [hi'.out, hp'.out] at this; simp at this; simp [okSub, this]), hB.out.trans hS⟩
            · have hcb : decide (ns[k] ≤ ns[k - 1]) = false := decide_eq_false hc
              have hp' := Aside0.mk (show okPrevI (prevI ns k) ns[k] = true by rw [hpn]; exact decide_eq_true (by omega))
              clear hc hpn
              cases hv : okVal vs[k] with
              | true =>
                have hv' := Aside0.mk hv
                clear hv
                go_wp2
                refine Reg.region [(0,.L),(1,.L),(2,.L),(3,.L),(4,.L),(5,.C),(6,.L),(7,.L),(8,.L),(9,.L),(10,.L),(11,.L),(12,.L),(13,.L),(14,.L),(15,.L),(16,.L),(17,.L),(18,.L),(19,.L),(20,.L),(21,.L),(22,.L),(23,.L),(24,.L),(25,.L),(26,.L),(27,.L),(28,.L),(29,.L),(30,.L),(31,.C),(32,.L),(33,.L)] [] (by kernel_rfl) (by kernel_rfl) ?_
                repeat first | refine sP ?_ | refine sS ?_ | refine sA ?_ | refine sL ?_ | refine sQ ?_ | refine sO ?_
                refine callC (.bool true) Try.func114 (fun w' hS => ?_) ?_
                focus exact (l1In_calls w' _ _ _).mono fun e w'' h => ⟨by rw [h.1, hi'.out], h.2⟩
                repeat first | refine sP ?_ | refine sS ?_ | refine sA ?_ | refine sL ?_ | refine sQ ?_ | refine sO ?_
                refine callC (.bool true) Try.func115 (fun w' hS => ?_) ?_
                focus exact (IsValidValue_calls w' _ hbd.1).mono fun e w'' h => ⟨by rw [h.1, hv'.out], h.2⟩
                repeat first | refine sP ?_ | refine sS ?_ | refine sA ?_ | refine sL ?_ | refine sQ ?_ | refine sO ?_
                refine Reg.nil fun w2 hS => ?_
                go_wp2
                exact ⟨⟨k + 1, by omega, by go_num, ⟨by have := hst.out; rw [hi'.out, hp'.out, hv'.out] at this; simpa using this⟩, hB.out.trans hS, Loc.on hS hL'.out⟩, by simp [intOf]; omega⟩
              | false =>
                have hv' := Aside0.mk hv
                clear hv
                go_wp2
                refine Reg.region [(0,.L),(1,.L),(2,.L),(3,.L),(4,.L),(5,.C),(6,.L),(7,.L),(8,.L),(9,.L),(10,.L),(11,.L),(12,.L),(13,.L),(14,.L),(15,.L),(16,.L),(17,.L),(18,.L),(19,.L),(20,.L),(21,.L),(22,.L),(23,.L),(24,.L),(25,.L),(26,.L),(27,.L),(28,.L),(29,.L),(30,.L),(31,.C),(32,.L),(33,.L)] [] (by kernel_rfl) (by kernel_rfl) ?_
                repeat first | refine sP ?_ | refine sS ?_ | refine sA ?_ | refine sL ?_ | refine sQ ?_ | refine sO ?_
                refine callC (.bool true) Try.func114 (fun w' hS => ?_) ?_
                focus exact (l1In_calls w' _ _ _).mono fun e w'' h => ⟨by rw [h.1, hi'.out], h.2⟩
                repeat first | refine sP ?_ | refine sS ?_ | refine sA ?_ | refine sL ?_ | refine sQ ?_ | refine sO ?_
                refine callC (.bool false) Try.func115 (fun w' hS => ?_) ?_
                focus exact (IsValidValue_calls w' _ hbd.1).mono fun e w'' h => ⟨by rw [h.1, hv'.out], h.2⟩
                repeat first | refine sP ?_ | refine sS ?_ | refine sA ?_ | refine sL ?_ | refine sQ ?_ | refine sO ?_
                refine Reg.nil fun w2 hS => ?_
                go_wp2
                go_ret
                exact ⟨ret_bool (by have := hst.out; rw [hi'.out, hp'.out, hv'.out] at this; simp at this; simp [okSub, this]), hB.out.trans hS⟩
          · have hk0' : decide (0 < (k : Int)) = false := decide_eq_false (by omega)
            have hp' := Aside0.mk (show okPrevI (prevI ns k) ns[k] = true by simp [okPrevI, prevI, show k = 0 by omega])
            cases hv : okVal vs[k] with
            | true =>
              have hv' := Aside0.mk hv
              clear hv
              go_wp2
              refine Reg.region [(0,.L),(1,.L),(2,.L),(3,.L),(4,.L),(5,.C),(6,.L),(7,.L),(8,.L),(9,.L),(10,.L),(11,.L),(12,.L),(13,.L),(14,.L),(15,.L),(16,.L),(17,.L),(18,.L),(19,.L),(20,.L),(21,.L),(22,.L),(23,.L),(24,.L),(25,.L),(26,.L),(27,.L),(28,.L),(29,.L),(30,.L),(31,.C),(32,.L),(33,.L)] [] (by kernel_rfl) (by kernel_rfl) ?_
              repeat first | refine sP ?_ | refine sS ?_ | refine sA ?_ | refine sL ?_ | refine sQ ?_ | refine sO ?_
              refine callC (.bool true) Try.func114 (fun w' hS => ?_) ?_
              focus exact (l1In_calls w' _ _ _).mono fun e w'' h => ⟨by rw [h.1, hi'.out], h.2⟩
              repeat first | refine sP ?_ | refine sS ?_ | refine sA ?_ | refine sL ?_ | refine sQ ?_ | refine sO ?_
              refine callC (.bool true) Try.func115 (fun w' hS => ?_) ?_
              focus exact (IsValidValue_calls w' _ hbd.1).mono fun e w'' h => ⟨by rw [h.1, hv'.out], h.2⟩
              repeat first | refine sP ?_ | refine sS ?_ | refine sA ?_ | refine sL ?_ | refine sQ ?_ | refine sO ?_
              refine Reg.nil fun w2 hS => ?_
              go_wp2
              exact ⟨⟨k + 1, by omega, by go_num, ⟨by have := hst.out; rw [hi'.out, hp'.out, hv'.out] at this; simpa using this⟩, hB.out.trans hS, Loc.on hS hL'.out⟩, by simp [intOf]; omega⟩
            | false =>
              have hv' := Aside0.mk hv
              clear hv
              go_wp2
              refine Reg.region [(0,.L),(1,.L),(2,.L),(3,.L),(4,.L),(5,.C),(6,.L),(7,.L),(8,.L),(9,.L),(10,.L),(11,.L),(12,.L),(13,.L),(14,.L),(15,.L),(16,.L),(17,.L),(18,.L),(19,.L),(20,.L),(21,.L),(22,.L),(23,.L),(24,.L),(25,.L),(26,.L),(27,.L),(28,.L),(29,.L),(30,.L),(31,.C),(32,.L),(33,.L)] [] (by kernel_rfl) (by kernel_rfl) ?_
              repeat first | refine sP ?_ | refine sS ?_ | refine sA ?_ | refine sL ?_ | refine sQ ?_ | refine sO ?_
              refine callC (.bool true) Try.func114 (fun w' hS => ?_) ?_
              focus exact (l1In_calls w' _ _ _).mono fun e w'' h => ⟨by rw [h.1, hi'.out], h.2⟩
              repeat first | refine sP ?_ | refine sS ?_ | refine sA ?_ | refine sL ?_ | refine sQ ?_ | refine sO ?_
              refine callC (.bool false) Try.func115 (fun w' hS => ?_) ?_
              focus exact (IsValidValue_calls w' _ hbd.1).mono fun e w'' h => ⟨by rw [h.1, hv'.out], h.2⟩
              repeat first | refine sP ?_ | refine sS ?_ | refine sA ?_ | refine sL ?_ | refine sQ ?_ | refine sO ?_
              refine Reg.nil fun w2 hS => ?_
              go_wp2
              go_ret
              exact ⟨ret_bool (by have := hst.out; rw [hi'.out, hp'.out, hv'.out] at this; simp at this; simp [okSub, this]), hB.out.trans hS⟩
      · have hp' := Aside0.mk (show subFrom none ns vs = true by rw [← hp.out, List.drop_of_length_le (by omega)]; cases prevI ns k <;> rfl)
        clear hp hB0
        go_wp2
        go_ret
        exact ⟨ret_bool (by simp [okSub, hp'.out, hl'.out]), hB.out⟩
  · have hlb : ((ns.length : Int) == (vs.length : Int)) = false := by rw [beq_eq_false_iff_ne]; omega
    have hlc : ((ns.length : Int) != (vs.length : Int)) = true := by simp [bne, hlb]
    have hld : (ns.length == vs.length) = false := by simpa using hl
    have hl' := Aside0.mk hl
    clear hl
    go_enter Try.func73, Try.ntmps73
    go_wp2
    go_ret
    exact ⟨ret_bool (by simp [okSub, hl'.out]), hb.out⟩
theorem sNullValue_calls (w : World) (k : Int) (h : -9223372036854775000 ≤ k ∧ k ≤ 9223372036854775000) : Calls Try.prog 139 #[.int .i64 k] w fun e w' => e = .returned (.int .i64 (-1 - k)) ∧ On w w' := by
  go_enter Try.func139, Try.ntmps139
  go_wp2
  go_ret
  exact ⟨rfl, On.refl _⟩
theorem sApplyToValue_calls (w : World) (A0 c0 A1 c1) (ns vs : List Int) (h0 : Ints w A0 c0 ns) (h1 : Ints w A1 c1 vs) (x : Int) :
    Calls Try.prog 116 #[.agg #[.slice A0 ns.length c0, .slice A1 vs.length c1], .int .i64 x] w fun e w' => e = .returned (.int .i64 (appV ns vs x)) ∧ On w w' := by
  have hm0 := h0.max
  have hb := Aside0.mk (On.alloc (On.refl w) (.cells #[.slice A0 ns.length c0, .slice A1 vs.length c1] 45))
  have hL := Aside0.mk (loc1 w #[.slice A0 ns.length c0, .slice A1 vs.length c1] 45)
  cases ho : okSub ns vs with
  | false =>
    have ho' := Aside0.mk ho
    clear ho
    go_enter Try.func116, Try.ntmps116
    go_wp2
    go_loopw [5] (fun v wr => v = .int .i64 0 ∧ On w wr ∧ Loc wr [(w.heap.size, #[.slice A0 ns.length c0, .slice A1 vs.length c1], 45)]) (fun v _ => ns.length - (intOf v).toNat)
    case atStart => exact ⟨rfl, hb.out, hL.out⟩
    case round =>
      obtain ⟨rfl, hB0, hL0⟩ := hrel
      have hc0 := blk_cell hL0.1
      have hB := Aside0.mk hB0
      clear hL0 hB0
      by_cases hlt : 0 < ns.length
      · go_wp2_with (go_at_call 73; refine (sIsValidSub_calls _ A0 c0 A1 c1 ns vs (h0.on hB.out) (h1.on hB.out)).mono ?_; rintro e w2 ⟨rfl, hb2⟩; rw [ho'.out])
        go_ret
        exact ⟨ret_int (by simp [appV, ho'.out]), hB.out.trans hb2⟩
      · go_wp2
        go_ret
        exact ⟨ret_int (by simp [appV, ho'.out]), hB.out⟩
  | true =>
    have hsp := okSub_spec ho
    have hlen := Aside0.mk hsp.1
    have hnb := Aside0.mk hsp.2.1
    have ho' := Aside0.mk ho
    clear ho hsp
    go_enter Try.func116, Try.ntmps116
    go_wp2
    go_loopw [5] (fun v wr => ∃ k : Nat, k ≤ ns.length ∧ v = .int .i64 k ∧ Aside0 (findV (ns.drop k) (vs.drop k) x = findV ns vs x) ∧ On w wr ∧ Loc wr [(w.heap.size, #[.slice A0 ns.length c0, .slice A1 vs.length c1], 45)]) (fun v _ => ns.length - (intOf v).toNat)
    case atStart => exact ⟨0, Nat.zero_le _, rfl, ⟨rfl⟩, hb.out, hL.out⟩
    case round =>
      obtain ⟨k, hk, rfl, hp, hB0, hL0⟩ := hrel
      have hc0 := blk_cell hL0.1
      have hL' := Aside0.mk hL0
      have hB := Aside0.mk hB0
      clear hL0
      by_cases hlt : k < ns.length
      · have hlt2 : k < vs.length := by have := hlen.out; omega
        obtain ⟨ad, rfl, _⟩ := (h0.on hB0).at k hlt
        obtain ⟨bd, rfl, _⟩ := (h1.on hB0).at k hlt2
        have hst := Aside0.mk ((findV_step ns vs x k hlt hlt2).symm.trans hp.out)
        have hn := hnb.out _ (List.getElem_mem hlt)
        clear hp hB0
        by_cases hq : -1 - ns[k] = x
        · have hqb : (-1 - ns[k] == x) = true := by simpa using hq
          have hq' := Aside0.mk hq
          clear hq
          go_wp2_with (first
            | (go_at_call 73; refine (sIsValidSub_calls _ _ c0 _ c1 ns vs (h0.on hB.out) (h1.on hB.out)).mono ?_; rintro e w2 ⟨rfl, hb2⟩; rw [ho'.out]; have hc2 := blk_cell (Loc.on hb2 hL'.out).1; obtain ⟨ad', e', hx⟩ := (h0.on (hB.out.trans hb2)).at k hlt; obtain rfl : ad = ad' := (by simpa using e'); clear e')
            | (go_at_call 139; refine (sNullValue_calls _ _ (by omega)).mono ?_; rintro e w3 ⟨rfl, hb3⟩; have hc3 := blk_cell (Loc.on (hb2.trans hb3) hL'.out).1; obtain ⟨bd', e', hy⟩ := (h1.on (hB.out.trans (hb2.trans hb3))).at k hlt2; obtain rfl : bd = bd' := (by simpa using e'); clear e'))
          go_ret
          exact ⟨ret_int (by have := hst.out; rw [if_pos hq'.out] at this; simp [appV, ho'.out, ← this]), hB.out.trans (hb2.trans hb3)⟩
        · have hqb : (-1 - ns[k] == x) = false := by simpa using hq
          have hq' := Aside0.mk hq
          clear hq
          go_wp2_with (first
            | (go_at_call 73; refine (sIsValidSub_calls _ _ c0 _ c1 ns vs (h0.on hB.out) (h1.on hB.out)).mono ?_; rintro e w2 ⟨rfl, hb2⟩; rw [ho'.out]; have hc2 := blk_cell (Loc.on hb2 hL'.out).1; obtain ⟨ad', e', hx⟩ := (h0.on (hB.out.trans hb2)).at k hlt; obtain rfl : ad = ad' := (by simpa using e'); clear e')
            | (go_at_call 139; refine (sNullValue_calls _ _ (by omega)).mono ?_; rintro e w3 ⟨rfl, hb3⟩))
          exact ⟨⟨k + 1, by omega, by go_num, ⟨by have := hst.out; rwa [if_neg hq'.out] at this⟩, hB.out.trans (hb2.trans hb3), Loc.on (hb2.trans hb3) hL'.out⟩, by simp [intOf]; omega⟩
      · have hp' := Aside0.mk (show findV ns vs x = none by rw [← hp.out]; exact findV_nil ns vs x k (by omega))
        clear hp hB0
        go_wp2
        go_ret
        exact ⟨ret_int (by simp [appV, ho'.out, hp'.out]), hB.out⟩

theorem own1I (W : World) (x : Int) : OI (W.alloc (.cells #[.int .i64 x] 3 (0, 0))) W.heap.size (.slice (some ⟨W.heap.size, 0, none⟩) 1 1) [x] := lit_own W #[.int .i64 x] 3 1 1 W.heap.size (Nat.le_refl _) (by omega) rfl
theorem lit_RI {W w : World} {x : Int} (hx : -9223372036854775808 ≤ x ∧ x ≤ 9223372036854775807) (hb : On (W.alloc (.cells #[.int .i64 x] 3 (0, 0))) w) : kInts.C w (some ⟨W.heap.size, 0, none⟩) 1 [x] := by
  obtain ⟨A, c, e, h⟩ := OI.rd (pw_own_below (own1I W x) hb) (fun y hy => by simp at hy; subst hy; exact hx)
  injection e with e1 e2 e3
  subst e1
  exact h.2.1
theorem map_inR {ns vs xs : List Int} (h : InR xs) : InR (xs.map (appV ns vs)) := fun y hy => by
  obtain ⟨x, hx, rfl⟩ := List.mem_map.1 hy
  exact appV_bd (h x hx)
theorem sApplyToFact_calls (w : World) (A0 c0 A1 c1 A2 c2) (ns vs : List Int) (f : Fct) (h0 : Ints w A0 c0 ns) (h1 : Ints w A1 c1 vs) (h2 : Ints w A2 c2 f.2) (hl : f.2.length ≤ 2000000) :
    Calls Try.prog 77 #[.agg #[.slice A0 ns.length c0, .slice A1 vs.length c1], .agg #[.int .i64 f.1, .slice A2 f.2.length c2]] w (Got fun v w' => ∃ v1, v = .agg #[.int .i64 f.1, v1] ∧ OI w' w.heap.size v1 (f.2.map (appV ns vs)) ∧ On w w') := by
  have hb := Aside0.mk (On.alloc (On.alloc (On.alloc (On.refl w) (.cells #[.slice A0 ns.length c0, .slice A1 vs.length c1] 45)) (.cells #[.int .i64 f.1, .slice A2 f.2.length c2] 55)) (.cells #[.int .i64 0, .slice none 0 0] 55))
  have hL := Aside0.mk (loc3 w #[.slice A0 ns.length c0, .slice A1 vs.length c1] #[.int .i64 f.1, .slice A2 f.2.length c2] #[.int .i64 0, .slice none 0 0] 45 55 55)
  have hsz3 := Aside0.mk (show (((w.alloc (.cells #[.slice A0 ns.length c0, .slice A1 vs.length c1] 45)).alloc (.cells #[.int .i64 f.1, .slice A2 f.2.length c2] 55)).alloc (.cells #[.int .i64 0, .slice none 0 0] 55)).heap.size = w.heap.size + 3 by simp)
  have hfill := alloc_fill (((w.alloc (.cells #[.slice A0 ns.length c0, .slice A1 vs.length c1] 45)).alloc (.cells #[.int .i64 f.1, .slice A2 f.2.length c2] 55)).alloc (.cells #[.int .i64 0, .slice none 0 0] 55))
  go_enter Try.func77, Try.ntmps77
  go_wp2
  clear hfill
  obtain ⟨Wx, hWx⟩ : ∃ Wx, ((w.alloc (.cells #[.slice A0 ns.length c0, .slice A1 vs.length c1] 45)).alloc (.cells #[.int .i64 f.1, .slice A2 f.2.length c2] 55)).alloc (.cells #[.int .i64 0, .slice none 0 0] 55) = Wx := ⟨_, rfl⟩
  rw [hWx] at hb hL hsz3 ⊢
  clear hWx
  have hyb := Aside0.mk (show (Wx.alloc (.cells #[.int .i64 f.1, .slice none 0 0] 55)).heap[w.heap.size + 1 + 1 + 1]? = some (.cells #[.int .i64 f.1, .slice none 0 0] 55 (0, 0)) from by have h := loc_new Wx #[.int .i64 f.1, .slice none 0 0] 55; rw [hsz3.out] at h; exact h)
  have hBy := Aside0.mk (On.alloc (On.refl Wx) (.cells #[.int .i64 f.1, .slice none 0 0] 55))
  have hsy := Aside0.mk (show (Wx.alloc (.cells #[.int .i64 f.1, .slice none 0 0] 55)).heap.size = w.heap.size + 4 by simp [hsz3.out])
  obtain ⟨Wy, hWy⟩ : ∃ Wy, Wx.alloc (.cells #[.int .i64 f.1, .slice none 0 0] 55) = Wy := ⟨_, rfl⟩
  rw [hWy] at hyb hBy hsy ⊢
  clear hWy
  go_loopw [6] (fun v wr => ∃ (k : Nat) (xs : List Int) (A' : Option Addr) (c' : Nat), k ≤ f.2.length ∧ v = .int .i64 k ∧ Aside0 (xs = (f.2.take k).map (appV ns vs)) ∧ Aside0 (OI wr (w.heap.size + 4) (.slice A' xs.length c') xs) ∧ Aside0 (w.heap.size + 4 ≤ wr.heap.size) ∧ Aside0 (Ex (fun b => w.heap.size + 3 ≤ b) Wx wr) ∧ wr.heap[w.heap.size + 1 + 1 + 1]? = some (.cells #[.int .i64 f.1, .slice A' xs.length c'] 55 (0, 0))) (fun v _ => f.2.length - (intOf v).toNat)
  case atStart => exact ⟨0, [], none, 0, Nat.zero_le _, rfl, ⟨rfl⟩, ⟨World.ownsRow_nil _ _ _ _⟩, ⟨by rw [hsy.out]; exact Nat.le_refl _⟩, ⟨Ex.of_on hBy.out⟩, hyb.out⟩
  case round =>
    obtain ⟨k, xs, A', c', hk, rfl, hxs, hO, hsz, hE, hy⟩ := hrel
    have hlen := Aside0.mk (show xs.length = k by rw [hxs.out, List.length_map, List.length_take]; omega)
    have hLr := Aside0.mk (show Loc wr _ from Loc.on (Ex.to_on hE.out (fun i hi => by rw [hsz3.out]; exact hi)) hL.out)
    have hB := Aside0.mk (hb.out.trans (Ex.to_on hE.out (fun i hi => by rw [hsz3.out]; exact hi)))
    have hc0 := blk_cell hLr.out.1
    have hc1 := blk_cell hLr.out.2.1
    have hcy := blk_cell hy
    have hy' := Aside0.mk hy
    clear hy
    by_cases hlt : k < f.2.length
    · obtain ⟨ad, rfl, hx⟩ := (h2.on hB.out).at k hlt
      have hbd := h2.bd k hlt
      have hab := Aside0.mk (appV_bd (ns := ns) (vs := vs) hbd)
      go_wp2
      refine Reg.region [(0,.L),(1,.L),(2,.L),(3,.L),(4,.L),(5,.L),(6,.L),(7,.L),(8,.C),(9,.N)] [10,11,12] (by kernel_rfl) (by kernel_rfl) ?_
      repeat first | refine sP ?_ | refine sS ?_ | refine sA ?_ | refine sL ?_ | refine sQ ?_ | refine sO ?_
      refine callC (.int .i64 (appV ns vs f.2[k])) Try.func116 (fun w' hS => ?_) ?_
      focus exact sApplyToValue_calls w' A0 c0 A1 c1 ns vs (h0.on (hB.out.trans hS)) (h1.on (hB.out.trans hS)) f.2[k]
      refine stepM (fun w4 hS4 => ?_)
      go_wp2
      refine ⟨hS4.trans (On.alloc (On.refl _) _), ?_⟩
      refine Reg.tail_ fun w5 hS5 => ?_
      have hB5 := Aside0.mk ((hS4.trans (On.alloc (On.refl _) _)).trans hS5)
      have hO5 := Aside0.mk (pw_own_below hO.out hB5.out)
      obtain ⟨zs, hz⟩ : ∃ zs, xs ++ [appV ns vs f.2[k]] = zs := ⟨_, rfl⟩
      have hz' := Aside0.mk hz
      refine apI 27 hz (OI.to hO5.out) (lit_RI hab.out hS5) (Nat.le_trans hsz.out hB5.out.size) (by have := hlen.out; omega) fun v6 w6 hO6' hg6 hat6 => ?_
      have hO6 := OI.of hO6'
      obtain ⟨A6, c6, rfl⟩ := own_slice hO6
      have hgy : some (w.heap.size + 1 + 1 + 1) ≠ Value.ownBlock (.slice A' xs.length c') := fun e => by have := own_base hO.out _ e.symm; omega
      have hk6 := blk_grown hg6 (blk_below hy'.out hB5.out) hgy
      have hcy6 := blk_cell hk6
      have hf6 := blk_frozen hk6
      have hk6' := Aside0.mk hk6
      clear hk6 hgy hcy hz hat6 hO6'
      go_wp2
      refine ⟨⟨k + 1, zs, A6, c6, by omega, by go_num, ⟨?_⟩, ⟨ownsRow_setCell_below hO6 (by simp) _⟩, ⟨?_⟩, ⟨?_⟩, blk_set hk6'.out 1 _⟩, by simp [intOf]; omega⟩
      · rw [← hz'.out, List.take_succ_eq_append_getElem hlt, List.map_append, hxs.out]; rfl
      · have h3 := hg6.size; have h4 := hB5.out.size; have := hsz.out; simp [World.setCell]; omega
      · exact ((hE.out.then_on hB5.out).trans (Ex.of_grown hg6) (fun i _ e => by have := own_base hO5.out i e.symm; omega)).trans (Ex.set _ _ _) (fun i _ e => by have h : i = w.heap.size + 1 + 1 + 1 := e; omega)
    · have e1 : f.2.take k = f.2 := List.take_of_length_le (by omega)
      rw [e1] at hxs
      have hcr : ∀ i, wr.cell? ⟨w.heap.size + 1 + 1, i, none⟩ = _ := blk_cell hLr.out.2.2.1
      have hfr : ∀ i, wr.frozen? ⟨w.heap.size + 1 + 1, i, none⟩ = _ := blk_frozen hLr.out.2.2.1
      go_wp2
      refine bodyPost_ret (retF rfl rfl (g := w.heap.size + 2) (blk_set (blk_set hLr.out.2.2.1 0 _) 1 _) rfl) rfl ?_
      have hO2 := hO.out
      rw [hxs.out] at hO2
      refine ⟨_, rfl, _, rfl, ?_, Reg.On.set (Reg.On.set hB.out (by simp; omega) _) (by simp; omega) _⟩
      rw [hxs.out]
      exact own_lower (ownsRow_setCell_below (ownsRow_setCell_below hO2 (by simp) _) (by simp) _) (by omega)
/-- Two relations are the same. -/
def sameR (r q : Rel) : Bool := decide (r = q)
theorem sameR_eq (r q : Rel) : (r.1.toList == q.1.toList && (r.2.1 == q.2.1 && (r.2.2 == q.2.2))) = sameR r q := by
  obtain ⟨a, b, c⟩ := r
  obtain ⟨d, e, f⟩ := q
  rw [Bool.eq_iff_iff]
  simp only [sameR, Bool.and_eq_true, beq_iff_eq, decide_eq_true_eq, Prod.mk.injEq]
  rw [ByteArray.toList_eq, ByteArray.toList_eq, Array.toList_inj]
  exact ⟨fun h => ⟨ByteArray.ext h.1, h.2⟩, fun h => ⟨congrArg _ h.1, h.2⟩⟩
theorem eqRel (d : Nat) (w : World) (r q : Rel) :
    (Op.equalIn (d + 2) 87 (.agg #[.string r.1, .int .i64 r.2.1, .bool r.2.2]) (.agg #[.string q.1, .int .i64 q.2.1, .bool q.2.2])).run Try.prog w = .ok (sameR r q) w := by
  rw [← sameR_eq]
  refine eqA_of Try.underlying87 (by kernel_rfl) ?_
  refine eqf_cons (by rfl) (by go_simp; rfl) (by go_simp; rfl) (by go_simp) ?_
  refine eqf_cons (by rfl) (by go_simp; rfl) (by go_simp; rfl) (by go_simp) ?_
  exact eqf_last (by rfl) (by go_simp; rfl) (by go_simp; rfl) (by go_simp)
attribute [local go_sem high] eqRel
theorem l5Sigs_calls (w : World) (A c B d) (rs qs : List Rel) (h0 : Rels w A c rs) (h1 : Rels w B d qs) : Calls Try.prog 74 #[.slice A rs.length c, .slice B qs.length d] w fun e w' => e = .returned (.bool (decide (rs = qs))) ∧ On w w' := by
  have hm0 := h0.max
  have hm1 := h1.max
  by_cases hl : rs.length = qs.length
  · have hlb : ((rs.length : Int) == (qs.length : Int)) = true := by simp [hl]
    have hlc : ((rs.length : Int) != (qs.length : Int)) = false := by simp [bne, hlb]
    have hld : (rs.length == qs.length) = true := by simp [hl]
    have hl' := Aside0.mk hl
    clear hl
    go_enter Try.func74, Try.ntmps74
    go_wp2
    clear hlb hlc hld
    go_loopw [5] (fun v wr => ∃ k : Nat, k ≤ rs.length ∧ v = .int .i64 k ∧ Aside0 (rs.take k = qs.take k) ∧ On w wr) (fun v _ => rs.length - (intOf v).toNat)
    case atStart => exact ⟨0, Nat.zero_le _, rfl, ⟨rfl⟩, On.refl _⟩
    case round =>
      obtain ⟨k, hk, rfl, hp, hB⟩ := hrel
      by_cases hlt : k < rs.length
      · have hlt2 : k < qs.length := by have := hl'.out; omega
        obtain ⟨ad, rfl, hx0, hx1, hx2⟩ := (h0.on hB).at k hlt
        obtain ⟨bd, rfl, hy0, hy1, hy2⟩ := (h1.on hB).at k hlt2
        cases hq : sameR rs[k] qs[k] with
        | true =>
          have hq' := Aside0.mk (of_decide_eq_true hq : rs[k] = qs[k])
          go_wp2
          refine Reg.region [(0,.L),(1,.L),(2,.L),(3,.L),(4,.L),(5,.L),(6,.L),(7,.L),(8,.L)] [] (by kernel_rfl) (by kernel_rfl) ?_
          repeat first | refine sP ?_ | refine sS ?_ | refine sA ?_ | refine sL ?_ | refine sQ ?_ | refine sO ?_
          refine Reg.nil fun w2 hS => ?_
          clear hq
          go_wp2
          exact ⟨⟨k + 1, by omega, by go_num, ⟨by rw [List.take_succ_eq_append_getElem hlt, List.take_succ_eq_append_getElem hlt2, hp.out, hq'.out]⟩, hB.trans hS⟩, by simp [intOf]; omega⟩
        | false =>
          have hq' := Aside0.mk (of_decide_eq_false hq : ¬ rs[k] = qs[k])
          go_wp2
          refine Reg.region [(0,.L),(1,.L),(2,.L),(3,.L),(4,.L),(5,.L),(6,.L),(7,.L),(8,.L)] [] (by kernel_rfl) (by kernel_rfl) ?_
          repeat first | refine sP ?_ | refine sS ?_ | refine sA ?_ | refine sL ?_ | refine sQ ?_ | refine sO ?_
          refine Reg.nil fun w2 hS => ?_
          clear hq
          go_wp2
          go_ret
          exact ⟨ret_bool (by symm; exact decide_eq_false fun e => hq'.out (by subst e; rfl)), hB.trans hS⟩
      · have e1 : rs.take k = rs := List.take_of_length_le (by omega)
        have e2 : qs.take k = qs := List.take_of_length_le (by have := hl'.out; omega)
        rw [e1, e2] at hp
        go_wp2
        go_ret
        exact ⟨ret_bool (by symm; exact decide_eq_true hp.out), hB⟩
  · have hlb : ((rs.length : Int) == (qs.length : Int)) = false := by rw [beq_eq_false_iff_ne]; omega
    have hlc : ((rs.length : Int) != (qs.length : Int)) = true := by simp [bne, hlb]
    have hld : (rs.length == qs.length) = false := by simpa using hl
    have hl' := Aside0.mk hl
    clear hl
    go_enter Try.func74, Try.ntmps74
    go_wp2
    go_ret
    exact ⟨ret_bool (by symm; exact decide_eq_false fun e => hl'.out (congrArg _ e)), On.refl _⟩
end Go.Proofs.Ytngjhblbpapjeaa.H
/- Walks: the reference's search: a binding told as a substitution. No condition. -/
namespace Go.Proofs.Ytngjhblbpapjeaa.H
open Go Go.RowKit Go.Proofs.YtngjhblbpapjeaaW.PrintWords Go.Proofs.YtngjhblbpapjeaaW.PrintLast
open Go.Proofs.Ytngjhblbpapjeaa.Reg (On on_draw)
set_option maxHeartbeats 4000000
set_option maxRecDepth 100000
set_option linter.unusedVariables false
set_option linter.unusedSimpArgs false

theorem subI_inR : ∀ (l : List Int) (k : Nat), InR l → k + l.length ≤ 1000000 → InR (subI k l).1 ∧ InR (subI k l).2
  | [], k, _, _ => ⟨fun x hx => by simp [subI] at hx, fun x hx => by simp [subI] at hx⟩
  | v :: l, k, h, hk => by
    have ih := subI_inR l (k + 1) (fun x hx => h x (List.mem_cons_of_mem _ hx)) (by simp at hk; omega)
    rw [subI_cons]
    split
    · exact ih
    · simp at hk
      exact ⟨fun x hx => by
        rcases List.mem_cons.1 hx with rfl | hx
        · omega
        · exact ih.1 x hx, fun x hx => by
        rcases List.mem_cons.1 hx with rfl | hx
        · exact h _ List.mem_cons_self
        · exact ih.2 x hx⟩
/-- Two rows of one's own in different blocks. -/
def Ap (u v : Value) : Prop := ∀ k, u.ownBlock = some k → v.ownBlock = some k → False
theorem l7Base_calls (w : World) (A0 m0 c0 A1 c1 A2 m2 c2 A3 c3 A4 c4) (fs gs : List Fct) (x : List Int) (n : Nat) (most : Int) (h1 : Fcts w A1 c1 fs) (h3 : Fcts w A3 c3 gs) (h4 : Ints w A4 c4 x) (hx : x.length = 40) (hn : n = fs.length) :
    Calls Try.prog 128 #[.agg #[.slice A0 m0 c0, .slice A1 fs.length c1], .agg #[.slice A2 m2 c2, .slice A3 gs.length c3], .int .i64 n, .slice A4 x.length c4, .int .i64 most] w (Got fun v w' => ∃ hs, OS w' w.heap.size v hs ∧ SepS w' w.heap.size hs [subI 0 x] ∧ On w w') := by
  subst hn
  have hmax := h1.max
  have hx' := Aside0.mk hx
  clear hx
  have hmx := h4.max
  have hb := Aside0.mk (On.alloc (On.alloc (On.refl w) (.cells #[.slice A0 m0 c0, .slice A1 fs.length c1] 32)) (.cells #[.slice A2 m2 c2, .slice A3 gs.length c3] 32))
  have hL := Aside0.mk (loc2 w #[.slice A0 m0 c0, .slice A1 fs.length c1] #[.slice A2 m2 c2, .slice A3 gs.length c3] 32 32)
  have hsx := Aside0.mk (show ((w.alloc (.cells #[.slice A0 m0 c0, .slice A1 fs.length c1] 32)).alloc (.cells #[.slice A2 m2 c2, .slice A3 gs.length c3] 32)).heap.size = w.heap.size + 1 + 1 by simp)
  have hfill := alloc_fill ((w.alloc (.cells #[.slice A0 m0 c0, .slice A1 fs.length c1] 32)).alloc (.cells #[.slice A2 m2 c2, .slice A3 gs.length c3] 32))
  go_enter Try.func128, Try.ntmps128
  go_wp2
  clear hfill
  obtain ⟨Wx, hWx⟩ : ∃ Wx, (w.alloc (.cells #[.slice A0 m0 c0, .slice A1 fs.length c1] 32)).alloc (.cells #[.slice A2 m2 c2, .slice A3 gs.length c3] 32) = Wx := ⟨_, rfl⟩
  rw [hWx] at hb hL hsx ⊢
  clear hWx
  have hyb := Aside0.mk (show (Wx.alloc (.cells #[.slice none 0 0, .slice none 0 0] 45)).heap[w.heap.size + 1 + 1]? = some (.cells #[.slice none 0 0, .slice none 0 0] 45 (0, 0)) from by have h := loc_new Wx #[.slice none 0 0, .slice none 0 0] 45; rw [hsx.out] at h; exact h)
  have hBy := Aside0.mk (On.alloc (On.refl Wx) (.cells #[.slice none 0 0, .slice none 0 0] 45))
  have hsy := Aside0.mk (show (Wx.alloc (.cells #[.slice none 0 0, .slice none 0 0] 45)).heap.size = w.heap.size + 3 by simp [hsx.out])
  obtain ⟨Wy, hWy⟩ : ∃ Wy, Wx.alloc (.cells #[.slice none 0 0, .slice none 0 0] 45) = Wy := ⟨_, rfl⟩
  rw [hWy] at hyb hBy hsy ⊢
  clear hWy
  go_loopw [12] (fun v wr => ∃ (k : Nat) (ns vs : List Int) (A : Option Addr) (c : Nat) (B : Option Addr) (d : Nat), k ≤ x.length ∧ v = .int .i64 k ∧ Aside0 (subI 0 (x.take k) = (ns, vs)) ∧ Aside0 (OI wr (w.heap.size + 3) (.slice A ns.length c) ns) ∧ Aside0 (OI wr (w.heap.size + 3) (.slice B vs.length d) vs) ∧ Aside0 (Ap (.slice A ns.length c) (.slice B vs.length d)) ∧ Aside0 (w.heap.size + 3 ≤ wr.heap.size) ∧ Aside0 (Ex (fun b => w.heap.size + 2 ≤ b) Wx wr) ∧ wr.heap[w.heap.size + 1 + 1]? = some (.cells #[.slice A ns.length c, .slice B vs.length d] 45 (0, 0))) (fun v _ => x.length - (intOf v).toNat)
  case atStart => exact ⟨0, [], [], none, 0, none, 0, Nat.zero_le _, rfl, ⟨rfl⟩, ⟨World.ownsRow_nil _ _ _ _⟩, ⟨World.ownsRow_nil _ _ _ _⟩, ⟨fun k h => by cases h⟩, ⟨by rw [hsy.out]; exact Nat.le_refl _⟩, ⟨Ex.of_on hBy.out⟩, hyb.out⟩
  case round =>
    obtain ⟨k, ns, vs, A, c, B, d, hk, rfl, hsu, hOA, hOB, hAp, hsz, hE, hyr⟩ := hrel
    have hBx := Aside0.mk (Ex.to_on hE.out (fun i hi => by rw [hsx.out]; exact hi))
    have hBr := Aside0.mk (hb.out.trans hBx.out)
    have hle := Aside0.mk (show ns.length = vs.length ∧ ns.length ≤ 40 by
      have h := subI_len 0 (x.take k)
      rw [hsu.out] at h
      simp only at h
      have h2 : (x.take k).length ≤ 40 := by rw [List.length_take, hx'.out]; omega
      exact ⟨h.1, by omega⟩)
    have hcy := blk_cell hyr
    have hy' := Aside0.mk hyr
    clear hyr
    by_cases hlt : k < x.length
    · obtain ⟨ad, rfl, hxc⟩ := (h4.on hBr.out).at k hlt
      have hbd := Aside0.mk (h4.bd k hlt)
      have hsucc := Aside0.mk (subI_succ x k hlt)
      by_cases h10 : x[k] = 10
      · have hq2 : (x[k] != 10) = false := by simp [bne, h10]
        have hq3 : (x[k] == 10) = true := by simp [h10]
        have h10' := Aside0.mk h10
        clear h10
        go_wp2
        exact ⟨⟨k + 1, ns, vs, A, c, B, d, by omega, by go_num, ⟨by rw [hsucc.out, if_pos h10'.out]; exact hsu.out⟩, hOA, hOB, hAp, hsz, hE, hy'.out⟩, by simp [intOf]; omega⟩
      · have hq2 : (x[k] != 10) = true := by simp [bne]; exact h10
        have hq3 : (x[k] == 10) = false := by simpa using h10
        have h10' := Aside0.mk h10
        clear h10
        go_wp2_with (refine gate 38 ?_)
        obtain ⟨zs, hz⟩ : ∃ zs, ns ++ [(k : Int)] = zs := ⟨_, rfl⟩
        have hz' := Aside0.mk hz
        clear hq2 hq3
        have hBl := Aside0.mk (On.alloc (On.refl wr) (.cells #[.int .i64 (k : Int)] 3))
        refine ⟨apI 38 hz (OI.to (pw_own_below hOA.out hBl.out)) (lit_RI (by have := hx'.out; omega) (On.refl _)) (Nat.le_trans hsz.out hBl.out.size) (by have := hle.out; omega) fun v6 w6 hO6' hg6 hat6 => ?_⟩
        have hO6 := OI.of hO6'
        obtain ⟨A6, c6, rfl⟩ := own_slice hO6
        have hgy : some (w.heap.size + 1 + 1) ≠ Value.ownBlock (.slice A ns.length c) := fun e => by have := own_base hOA.out _ e.symm; omega
        have hk6 := blk_grown hg6 (blk_below hy'.out hBl.out) hgy
        have hcy6 := blk_cell hk6
        have hf6 := blk_frozen hk6
        have hk6' := Aside0.mk hk6
        have hB6 := Aside0.mk (own_ex (pw_own_below hOB.out hBl.out) (Ex.of_grown hg6) (fun i hi e => hAp.out i e.symm hi))
        have hE6 := Aside0.mk ((hE.out.then_on hBl.out).trans (Ex.of_grown hg6) (fun i _ e => by have := own_base (pw_own_below hOA.out hBl.out) i e.symm; omega))
        have hs6 := Aside0.mk (Nat.le_trans (Nat.le_trans hsz.out hBl.out.size) hg6.size)
        have hAp6 := Aside0.mk (show Ap (.slice A6 zs.length c6) (.slice B vs.length d) from fun j h1 h2 => by
          rcases hat6 with e | ⟨b, e, hge⟩
          · rw [e] at h1; exact hAp.out j h1 h2
          · rw [e] at h1
            obtain rfl : b = j := Option.some.inj h1
            have h5 := own_lt hOB.out _ h2
            have h6 := hBl.out.size
            omega)
        have hO6a := Aside0.mk hO6
        clear hk6 hgy hcy hz hat6 hO6' hO6 hg6 hxc
        go_wp2
        clear hcy6 hf6
        have hk7 := Aside0.mk (blk_set hk6'.out 0 (.slice A6 zs.length c6))
        have hA7 := Aside0.mk (ownsRow_setCell_below hO6a.out (a := ⟨w.heap.size + 1 + 1, 0, none⟩) (by simp) (.slice A6 zs.length c6))
        have hB7 := Aside0.mk (ownsRow_setCell_below hB6.out (a := ⟨w.heap.size + 1 + 1, 0, none⟩) (by simp) (.slice A6 zs.length c6))
        have hE7 := Aside0.mk (hE6.out.trans (Ex.set w6 ⟨w.heap.size + 1 + 1, 0, none⟩ (.slice A6 zs.length c6)) (fun i _ e => by have h : i = w.heap.size + 1 + 1 := e; omega))
        have hs7 := Aside0.mk (show w.heap.size + 3 ≤ (w6.setCell ⟨w.heap.size + 1 + 1, 0, none⟩ (.slice A6 zs.length c6)).heap.size by have := hs6.out; simp [World.setCell]; omega)
        obtain ⟨w7, hw7⟩ : ∃ w7, w6.setCell ⟨w.heap.size + 1 + 1, 0, none⟩ (.slice A6 zs.length c6) = w7 := ⟨_, rfl⟩
        rw [hw7] at hk7 hA7 hB7 hE7 hs7 ⊢
        clear hw7
        have hBw := Aside0.mk (hb.out.trans (Ex.to_on hE7.out (fun i hi => by rw [hsx.out]; exact hi)))
        obtain ⟨ad', e', hxc⟩ := (h4.on hBw.out).at k hlt
        obtain rfl : ad = ad' := by simpa using e'
        clear e'
        have hc7 := blk_cell (show w7.heap[w.heap.size + 1 + 1]? = some (.cells #[.slice A6 zs.length c6, .slice B vs.length d] 45 (0, 0)) from hk7.out)
        refine Reg.region [(0,.L),(1,.L),(2,.L),(3,.L),(4,.L),(5,.L),(6,.N)] [7,8,9] (by kernel_rfl) (by kernel_rfl) ?_
        repeat first | refine sP ?_ | refine sS ?_ | refine sA ?_ | refine sL ?_ | refine sQ ?_ | refine sO ?_
        refine stepM (fun w8 hS8 => ?_)
        go_wp2
        refine ⟨hS8.trans (On.alloc (On.refl _) _), ?_⟩
        refine Reg.tail_ fun w9 hS9 => ?_
        have hB9 := Aside0.mk ((hS8.trans (On.alloc (On.refl _) _)).trans hS9)
        have hO9 := Aside0.mk (pw_own_below hB7.out hB9.out)
        obtain ⟨us, hu⟩ : ∃ us, vs ++ [x[k]] = us := ⟨_, rfl⟩
        have hu' := Aside0.mk hu
        refine apI 47 hu (OI.to hO9.out) (lit_RI hbd.out hS9) (Nat.le_trans hs7.out hB9.out.size) (by have := hle.out; omega) fun v10 w10 hO10' hg10 hat10 => ?_
        have hO10 := OI.of hO10'
        obtain ⟨B10, d10, rfl⟩ := own_slice hO10
        have hgy : some (w.heap.size + 1 + 1) ≠ Value.ownBlock (.slice B vs.length d) := fun e => by have := own_base hOB.out _ e.symm; omega
        have hk10 := blk_grown hg10 (blk_below (show w7.heap[w.heap.size + 1 + 1]? = some (.cells #[.slice A6 zs.length c6, .slice B vs.length d] 45 (0, 0)) from hk7.out) hB9.out) hgy
        have hcy10 := blk_cell hk10
        have hf10 := blk_frozen hk10
        have hk10' := Aside0.mk hk10
        have hA10 := Aside0.mk (own_ex (pw_own_below hA7.out hB9.out) (Ex.of_grown hg10) (fun i hi e => hAp6.out i hi e.symm))
        have hE10 := Aside0.mk ((hE7.out.then_on hB9.out).trans (Ex.of_grown hg10) (fun i _ e => by have := own_base hO9.out i e.symm; omega))
        have hs10 := Aside0.mk (Nat.le_trans (Nat.le_trans hs7.out hB9.out.size) hg10.size)
        have hAp10 := Aside0.mk (show Ap (.slice A6 zs.length c6) (.slice B10 us.length d10) from fun j h1 h2 => by
          rcases hat10 with e | ⟨b, e, hge⟩
          · rw [e] at h2; exact hAp6.out j h1 h2
          · rw [e] at h2
            obtain rfl : b = j := Option.some.inj h2
            have h5 := own_lt hA7.out _ h1
            have h6 := hB9.out.size
            omega)
        have hO10a := Aside0.mk hO10
        clear hk10 hgy hc7 hu hat10 hO10' hO10 hg10 hxc
        go_wp2
        refine ⟨⟨k + 1, zs, us, A6, c6, B10, d10, by omega, by go_num, ⟨?_⟩, ⟨ownsRow_setCell_below hA10.out (by simp) _⟩, ⟨ownsRow_setCell_below hO10a.out (by simp) _⟩, hAp10, ⟨by have := hs10.out; simp [World.setCell]; omega⟩, ⟨hE10.out.trans (Ex.set _ _ _) (fun i _ e => by have h : i = w.heap.size + 1 + 1 := e; omega)⟩, blk_set hk10'.out 1 _⟩, by simp [intOf]; omega⟩
        rw [hsucc.out, if_neg h10'.out, hsu.out, ← hz'.out, ← hu'.out]
    · have e1 : x.take k = x := List.take_of_length_le (by omega)
      rw [e1] at hsu
      go_wp2
      go_ret
      have hin := subI_inR x 0 h4.2.2 (by rw [hx'.out]; omega)
      rw [hsu.out] at hin
      have hBl := On.alloc (On.refl wr) (.cells #[.slice A ns.length c, .slice B vs.length d] 45)
      refine ⟨_, rfl, [((A, ns.length, c), (B, vs.length, d))], own_lower (lit_S wr (A, ns.length, c) (B, vs.length, d)) (by have := hsz.out; omega), ?_, hBr.out.trans hBl⟩
      rw [hsu.out]
      exact SepS.one (own_lower (pw_own_below hOA.out hBl) (by omega)) (own_lower (pw_own_below hOB.out hBl) (by omega)) hin.1 hin.2 hAp.out
end Go.Proofs.Ytngjhblbpapjeaa.H
/- Walks: marks of instances, and whether they hold. No condition. -/
namespace Go.Proofs.Ytngjhblbpapjeaa.H
open Go Go.RowKit Go.Proofs.YtngjhblbpapjeaaW.PrintWords Go.Proofs.YtngjhblbpapjeaaW.PrintLast
open Go.Proofs.Ytngjhblbpapjeaa.Reg (On on_draw)
set_option maxHeartbeats 1000000
set_option maxRecDepth 100000
set_option linter.unusedVariables false
set_option linter.unusedSimpArgs false

theorem markF_at (k : Int) (l : List Nat) (i : Nat) (h : i < l.length) : (markF k l)[i]'(by rw [markF_len]; exact h) = (k + cF (l.take i), markI (k + cF (l.take i) + 1) l[i]) := by
  induction l generalizing k i with
  | nil => simp at h
  | cons m l ih =>
    cases i with
    | zero => simp [markF, cF]
    | succ i =>
      have h' : i < l.length := by simpa using h
      have e : k + 1 + (m : Int) + cF (l.take i) = k + cF ((m :: l).take (i + 1)) := by simp [cF]; omega
      simp only [markF, List.getElem_cons_succ]
      rw [ih (k + 1 + m) i h', e]
theorem cF_take_succ (l : List Nat) (k : Nat) (h : k < l.length) : cF (l.take (k + 1)) = cF (l.take k) + (l[k] + 1) := by
  rw [List.take_succ_eq_append_getElem h, cF_snoc]
theorem cF_len (l : List Nat) : l.length ≤ cF l := by
  unfold cF
  induction l with
  | nil => simp
  | cons m l ih => simp at ih ⊢; omega
theorem heldFactS_calls (w : World) (A c) (l : List Nat) (k0 : Int) (h : Fcts w A c (markF k0 l)) (h0 : 0 ≤ k0) (h1 : k0 + cF l ≤ 10000000) : Calls Try.prog 71 #[.slice A l.length c, .int .i64 k0] w fun e w' => e = .returned (.int .i64 (k0 + cF l)) ∧ On w w' := by
  have hl := Aside0.mk (markF_len k0 l)
  have hlmax : l.length ≤ 10000000 := by have := cF_len l; omega
  go_enter Try.func71, Try.ntmps71
  go_wp2
  go_loopw [5, 1] (fun v5 v1 wr => ∃ k : Nat, k ≤ l.length ∧ v5 = .int .i64 k ∧ v1 = .int .i64 (k0 + cF (l.take k)) ∧ On w wr) (fun v5 _ _ => l.length - (intOf v5).toNat)
  case atStart => exact ⟨0, Nat.zero_le _, rfl, by simp [cF], On.refl _⟩
  case round =>
    obtain ⟨k, hk, rfl, rfl, hB⟩ := hrel
    by_cases hlt : k < l.length
    · obtain ⟨ad, A1, c1, rfl, hx0, hx1, hx2⟩ := (h.on hB).at k (by rw [hl.out]; exact hlt)
      rw [markF_at k0 l k hlt] at hx0 hx1 hx2
      have hcm := Aside0.mk (cF_take_succ l k hlt)
      have hcl := Aside0.mk (cF_take_le l (k + 1))
      obtain ⟨m, hm⟩ : ∃ m : Int, k0 + cF (l.take k) = m := ⟨_, rfl⟩
      have hm' := Aside0.mk hm
      rw [hm] at hx0 hx1 hx2
      have hx2' := Aside0.mk hx2
      replace hx1 : wr.cell? ⟨(ad.add (k * 2)).block, (ad.add (k * 2)).off + 1, none⟩ = some (.slice A1 l[k] c1) := by rw [hx1, markI_len]
      clear hx2 hcl
      have hm0 := Aside0.mk (show 0 ≤ m ∧ m + 1 + l[k] ≤ 10000000 by have := hcm.out; have := cF_take_le l (k + 1); omega)
      have hw1 : IntKind.i64.wrap (m + 1) = m + 1 := by have := hm0.out; rw [IntWalk.i64_in _ (by omega)]
      have hneg : decide (m + 1 + (l[k] : Int) < 0) = false := decide_eq_false (by have := hm0.out; omega)
      rw [hm]
      clear hm
      go_wp2_with (go_at_call 20; refine (heldIntS_calls _ A1 c1 l[k] (m + 1) hx2'.out (by have := hm0.out; omega) (by have := hm0.out; omega)).mono ?_; rintro e w2 ⟨rfl, hb2⟩)
      exact ⟨⟨k + 1, by omega, by go_num, by congr 1; have := hcm.out; have := hm'.out; omega, hB.trans hb2⟩, by simp [intOf]; omega⟩
    · go_wp2
      go_ret
      exact ⟨by show Ending.returned (.int .i64 _) = _; rw [List.take_of_length_le (by omega)], hB⟩
/-- The blocks of an instance. -/
def IB (vr vf : Value) (hs : List Hdr) (b : Nat) : Prop := some b = vr.ownBlock ∨ FB vf hs b
theorem FB.not_rel {w : World} {lo lo2 lo3 : Nat} {vr vf : Value} {hs : List Hdr} {rs : List Rel} {fs : List Fct} (hR : OR w lo3 vr rs) (h : OH w lo2 vf hs) (hS : Sep w lo hs fs) {b : Nat} (hb : vr.ownBlock = some b) : ¬ FB vf hs b := by
  rintro (e | ⟨i, a, ha, e⟩)
  · exact own_ne_blk hR h (by decide) hb e.symm
  · have hi : i < fs.length := by rw [← hS.len]; exact (List.getElem?_eq_some_iff.1 ha).1
    exact own_ne_blk hR (hS.at_ i a fs[i] ha (List.getElem?_eq_getElem hi)).2.1 (by decide) hb e.symm
theorem FB.lt {w : World} {lo lo2 : Nat} {vf : Value} {hs : List Hdr} {fs : List Fct} (h : OH w lo2 vf hs) (hS : Sep w lo hs fs) {b : Nat} (hb : FB vf hs b) : b < w.heap.size := by
  rcases hb with e | ⟨i, a, ha, e⟩
  · exact own_lt h b e.symm
  · exact (hS.lt ha e.symm).2
theorem Sep.ex_row {e lo3 sz n : Nat} {cs : List Value} {W w : World} {lo : Nat} {v : Value} {hs : List Hdr} {fs : List Fct} (h : Sep W lo hs fs) (hv : W.ownsRow lo3 e sz v n cs) (he : 3 ≠ e) (k : Ex (fun b => some b = v.ownBlock) W w) : Sep w lo hs fs :=
  h.ex k fun i a b ha hb e' => by
    have hi : i < fs.length := by rw [← h.len]; exact (List.getElem?_eq_some_iff.1 ha).1
    exact own_ne_blk (h.at_ i a fs[i] ha (List.getElem?_eq_getElem hi)).2.1 hv he hb e'.symm
theorem markInstance_calls (w : World) (lo lo2 lo3 : Nat) (vr vf : Value) (hs : List Hdr) (rs : List Rel) (fs : List Fct) (k0 : Int) (hR : OR w lo3 vr rs) (h : OH w lo2 vf hs) (hS : Sep w lo hs fs) (h0 : 1 ≤ k0) (h1 : k0 + 3 * rs.length + wF fs ≤ 10000000) : Calls Try.prog 18 #[.agg #[vr, vf], .int .i64 k0] w fun e w' => e = .returned (.int .i64 (k0 + 3 * rs.length + wF fs)) ∧ (∃ hs', OR w' lo3 vr (markR k0 rs.length) ∧ OH w' lo2 vf hs' ∧ Sep w' lo hs' (markF (k0 + 3 * rs.length) (lens fs)) ∧ ∀ b, FB vf hs' b → FB vf hs b) ∧ Ex (IB vr vf hs) w w' := by
  have hnr : ∀ b, vr.ownBlock = some b → ¬ FB vf hs b := fun b hb => FB.not_rel hR h hS hb
  obtain ⟨A0, c0, rfl⟩ := own_slice hR
  obtain ⟨A1, c1, rfl⟩ := own_slice h
  have hb := Aside0.mk (On.alloc (On.refl w) (.cells #[.slice A0 rs.length c0, .slice A1 hs.length c1] 32))
  have hL := Aside0.mk (loc1 w #[.slice A0 rs.length c0, .slice A1 hs.length c1] 32)
  have hm0 := Aside0.mk h1
  go_enter Try.func18, Try.ntmps18
  go_wp2_with (first | (go_at_call 63; refine (markRelationS_calls _ lo3 _ rs k0 (pw_own_below hR hb.out) h0 (by omega)).mono ?_; rintro e w1 ⟨rfl, hO, hE⟩; have hO' := Aside0.mk hO; have hE' := Aside0.mk hE; have hc0 := blk_cell ((hE.block w.heap.size (by simp) (fun e => absurd (own_lt hR _ e.symm) (by omega))).trans hL.out.1); clear hO hE) | (go_at_call 64; refine (markFactS_calls w1 lo lo2 _ hs fs (k0 + 3 * rs.length) (own_ex (pw_own_below h hb.out) hE'.out (fun b hb1 e => own_ne_blk h hR (by decide) hb1 e.symm)) (Sep.ex_row (hS.on hb.out) (pw_own_below hR hb.out) (by decide) hE'.out) (by omega) (by omega)).mono ?_; rintro e w2 ⟨rfl, ⟨hs', hO2, hS2, hF2⟩, hE2⟩))
  go_ret
  refine ⟨rfl, ⟨hs', ?_, hO2, hS2, hF2⟩, ((Ex.of_on hb.out).trans hE'.out (fun b _ e => .inl e)).trans hE2 (fun b _ e => .inr e)⟩
  show World.ownsRow _ _ _ _ _ (markR k0 rs.length).length _
  exact own_ex hO'.out hE2 (fun b hb1 => hnr b hb1)
theorem heldInstance_calls (w : World) (A0 c0 A1 c1) (n : Nat) (l : List Nat) (k0 : Int) (h0 : Rels w A0 c0 (markR k0 n)) (h1 : Fcts w A1 c1 (markF (k0 + 3 * n) l)) (hk : 1 ≤ k0) (hm : k0 + 3 * n + cF l ≤ 10000000) : Calls Try.prog 23 #[.agg #[.slice A0 n c0, .slice A1 l.length c1], .int .i64 k0] w fun e w' => e = .returned (.int .i64 (k0 + 3 * n + cF l)) ∧ On w w' := by
  have hb := Aside0.mk (On.alloc (On.refl w) (.cells #[.slice A0 n c0, .slice A1 l.length c1] 32))
  have hL := Aside0.mk (loc1 w #[.slice A0 n c0, .slice A1 l.length c1] 32)
  have hn1 : decide (k0 + 3 * (n : Int) < 0) = false := decide_eq_false (by omega)
  have hn2 : decide (k0 + 3 * (n : Int) + (cF l : Int) < 0) = false := decide_eq_false (by omega)
  have hm' := Aside0.mk hm
  clear hm
  go_enter Try.func23, Try.ntmps23
  go_wp2_with (first | (go_at_call 70; refine (heldRelationS_calls _ A0 c0 n k0 (h0.on hb.out) hk (by have := hm'.out; omega)).mono ?_; rintro e w1 ⟨rfl, hb1⟩; have hc0 := blk_cell (Loc.on hb1 hL.out).1) | (go_at_call 71; refine (heldFactS_calls _ A1 c1 l (k0 + 3 * n) (h1.on (hb.out.trans hb1)) (by omega) hm'.out).mono ?_; rintro e w2 ⟨rfl, hb2⟩))
  go_ret
  exact ⟨rfl, (hb.out.trans hb1).trans hb2⟩
theorem markFact_calls (w : World) (lo : Nat) (v : Value) (f : Fct) (k0 : Int) (h : OI w lo v f.2) (h0 : 0 ≤ k0) (h1 : k0 + f.2.length ≤ 10000000) : Calls Try.prog 36 #[.agg #[.int .i64 f.1, v], .int .i64 k0] w fun e w' => e = .returned (.int .i64 (k0 + f.2.length)) ∧ OI w' lo v (markI k0 f.2.length) ∧ Ex (fun b => some b = v.ownBlock) w w' := by
  obtain ⟨A1, c1, rfl⟩ := own_slice h
  have hb := Aside0.mk (On.alloc (On.refl w) (.cells #[.int .i64 f.1, .slice A1 f.2.length c1] 55))
  go_enter Try.func36, Try.ntmps36
  go_wp2_with (go_at_call 19; refine (markIntS_calls _ lo _ f.2 k0 (pw_own_below h hb.out) h0 h1).mono ?_; rintro e w1 ⟨rfl, hO, hE⟩; have hO' := Aside0.mk hO; have hE' := Aside0.mk hE; clear hO hE)
  go_ret
  exact ⟨rfl, hO'.out, (Ex.of_on hb.out).trans hE'.out (fun _ _ h => h)⟩
end Go.Proofs.Ytngjhblbpapjeaa.H
/- The rule for regions that draw their order, where two operations that make memory may come up at once. No condition. -/
namespace Go.Proofs.Ytngjhblbpapjeaa.Reg
open Go Go.RowKit
variable {P : Program} {ops : Array Oper} {Q : Exit → Act → World → Prop} {md : Region.Mode}
/-! Two operations that make memory may come up at once: both ways are walked. -/
inductive Tr where
  | leaf (l : List (Nat × K))
  | s (i : Nat) (k : K) (p : Tr)
  | two (i j : Nat) (p q : Tr)
def Tr.len : Tr → Nat
  | .leaf l => l.length
  | .s _ _ p => p.len + 1
  | .two _ _ p _ => p.len + 1
def chkTr (md : Region.Mode) (ops : Array Oper) (tail : List Nat) : Tr → Array Bool → Bool
  | .leaf l, listed => chk md ops tail l listed
  | .s i k p, listed =>
    (match k with
      | .L => (Region.ready md ops listed).contains i && freeC md ops false listed i && tail.all fun j => reach md ops j i
      | .C => (Region.ready md ops listed).contains i && freeC md ops true listed i && tail.all fun j => reach md ops j i
      | .N => Region.ready md ops listed == [i] && busy ops i && !tail.contains i
      | .P => (Region.ready md ops listed).contains i && freeC md ops false listed i)
    && chkTr md ops tail p (listed.setIfInBounds i true)
  | .two i j p q, listed => Region.ready md ops listed == [i, j] && busy ops i && busy ops j && p.len == q.len && chkTr md ops tail p (listed.setIfInBounds i true) && chkTr md ops tail q (listed.setIfInBounds j true)
def wpTr (P : Program) (ops : Array Oper) (Q : Exit → Act → World → Prop) (tail : List Nat) : Tr → Act → World → Prop
  | .leaf l, a, W => wpOrd P ops Q tail l a W
  | .s i k p, a, W =>
    match ops[i]? with
    | none => False
    | some o =>
      if Region.wanted o (yielded ops a.tmps) then
        (match k with
          | .L => ∃ v, (∀ w, On W w → (execOp a.eval o).run P w = .ok (.value v) w) ∧ wpTr P ops Q tail p (a.put o.dst v) W
          | .C => ∃ v, (∀ w, On W w → nAt P o a w fun u w' => u = v ∧ On W w') ∧ wpTr P ops Q tail p (a.put o.dst v) W
          | .N => ∀ w, On W w → wpList P ops (Exit.then (fun a' w' => On W w' ∧ wpTr P ops Q tail p a' w') Q) [o] a w
          | .P => ∃ v, (∀ w, (execOp a.eval o).run P w = .ok (.value v) w) ∧ wpTr P ops Q tail p (a.put o.dst v) W)
      else wpTr P ops Q tail p (a.put o.dst undef) W
  | .two i j p q, a, W =>
    (match ops[i]? with
      | none => False
      | some o => Region.wanted o (yielded ops a.tmps) = true ∧ ∀ w, On W w → wpList P ops (Exit.then (fun a' w' => On W w' ∧ wpTr P ops Q tail p a' w') Q) [o] a w) ∧
    (match ops[j]? with
      | none => False
      | some o => Region.wanted o (yielded ops a.tmps) = true ∧ ∀ w, On W w → wpList P ops (Exit.then (fun a' w' => On W w' ∧ wpTr P ops Q tail q a' w') Q) [o] a w)
theorem wpT_of_tr (hs : Region.noSelect ops = true) (hQ : Plain Q) (tail : List Nat) : ∀ (t : Tr) (listed : Array Bool) (a : Act) (W : World), closed md ops listed → chkTr md ops tail t listed = true → wpTr P ops Q tail t a W → wpT P md ops Q (fun j => tail.contains j) (t.len + tail.length) listed a (On W)
  | .leaf l, listed, a, W, hclosed, hc, h => wpT_of_ord hs hQ tail l listed a W hclosed hc h
  | .two i j p q, listed, a, W, hclosed, hc, h => by
    simp only [chkTr, Bool.and_eq_true, beq_iff_eq] at hc
    obtain ⟨⟨⟨⟨⟨hr, hbi⟩, hbj⟩, hlen⟩, hp⟩, hq⟩ := hc
    simp only [wpTr] at h
    obtain ⟨h1, h2⟩ := h
    have hl : (Tr.two i j p q).len + tail.length = (p.len + tail.length) + 1 := by simp only [Tr.len]; omega
    rw [hl]
    refine ⟨fun h0 => (by rw [hr] at h0; cases h0), fun x hx => ?_⟩
    have hx' := hx
    rw [hr] at hx
    rcases List.mem_cons.1 hx with rfl | hx
    · cases hi : ops[x]? with
      | none => simp only [hi] at h1
      | some o =>
        simp only [hi] at h1
        simp only [busy, hi, Bool.not_eq_true'] at hbi
        unfold stepT
        simp only [hi]
        rw [if_pos h1.1]
        exact .inr (.inr ⟨.inl hbi, fun w hS => wpOp_mono (fun a' w' ⟨hon, hh⟩ => ⟨On w', Below.refl _ _, fun _ w'' hw'' => hon.trans hw'', wpT_of_tr hs hQ tail p _ _ _ (hclosed.set hx') hp hh⟩) (wpOp_of_one hi (h1.2 w hS))⟩)
    · obtain rfl := List.mem_singleton.1 hx
      cases hi : ops[x]? with
      | none => simp only [hi] at h2
      | some o =>
        simp only [hi] at h2
        simp only [busy, hi, Bool.not_eq_true'] at hbj
        unfold stepT
        simp only [hi]
        rw [if_pos h2.1, hlen]
        exact .inr (.inr ⟨.inl hbj, fun w hS => wpOp_mono (fun a' w' ⟨hon, hh⟩ => ⟨On w', Below.refl _ _, fun _ w'' hw'' => hon.trans hw'', wpT_of_tr hs hQ tail q _ _ _ (hclosed.set hx') hq hh⟩) (wpOp_of_one hi (h2.2 w hS))⟩)
  | .s i k p, listed, a, W, hclosed, hc, h => by
    simp only [chkTr, Bool.and_eq_true] at hc
    obtain ⟨hk, hl⟩ := hc
    simp only [wpTr] at h
    cases hi : ops[i]? with
    | none => simp only [hi] at h
    | some o =>
      simp only [hi] at h
      have hri : i ∈ Region.ready md ops listed := by
        cases k <;> simp only [Bool.and_eq_true, beq_iff_eq] at hk
        · simpa using hk.1.1
        · simpa using hk.1.1
        · rw [hk.1.1]; exact List.mem_singleton.2 rfl
        · simpa using hk.1
      have ih := fun a W h => wpT_of_tr hs hQ tail p (listed.setIfInBounds i true) a W (hclosed.set hri) hl h
      have sel := Region.noSelect_spec hs
      have hlen : (Tr.s i k p).len + tail.length = (p.len + tail.length) + 1 := by simp only [Tr.len]; omega
      rw [hlen]
      have hreach : k ≠ .N → k ≠ .P → ∀ j, (tail.contains j) = true → reach md ops j i = true := by
        intro hkn hkp j hj
        have hj' : j ∈ tail := by simpa using hj
        cases k <;> simp only [Bool.and_eq_true, List.all_eq_true] at hk
        · exact hk.2 j hj'
        · exact hk.2 j hj'
        · exact absurd rfl hkn
        · exact absurd rfl hkp
      by_cases hw : Region.wanted o (yielded ops a.tmps) = true
      · rw [if_pos hw] at h
        cases k with
        | L =>
          simp only [Bool.and_eq_true] at hk
          obtain ⟨v, h1, h2⟩ := h
          exact wpT_first (c := false) hQ hi sel (hreach (by simp) (by simp)) _ listed a _ hclosed (fun j oj hj hne hun hno => freeC_spec hi hk.1.2 j oj hj hne hun hno) hri (.inl ⟨hw, fun w hS => by simpa using h1 w hS⟩) (ih _ _ h2)
        | C =>
          simp only [Bool.and_eq_true] at hk
          obtain ⟨v, h1, h2⟩ := h
          exact wpT_first (c := true) hQ hi sel (hreach (by simp) (by simp)) _ listed a _ hclosed (fun j oj hj hne hun hno => freeC_spec hi hk.1.2 j oj hj hne hun hno) hri (.inl ⟨hw, fun w hS => by simpa using h1 w hS⟩) (ih _ _ h2)
        | N =>
          simp only [Bool.and_eq_true, beq_iff_eq, busy, hi, Bool.not_eq_true'] at hk
          refine ⟨fun h0 => (by rw [hk.1.1] at h0; cases h0), fun j hj => ?_⟩
          rw [hk.1.1] at hj
          obtain rfl := List.mem_singleton.1 hj
          unfold stepT
          simp only [hi]
          rw [if_pos hw]
          exact .inr (.inr ⟨.inl hk.1.2, fun w hS => wpOp_mono (fun a' w' ⟨hon, hh⟩ => ⟨On w', Below.refl _ _, fun _ w'' hw'' => hon.trans hw'', ih _ _ hh⟩) (wpOp_of_one hi (h w hS))⟩)
        | P =>
          simp only [Bool.and_eq_true] at hk
          obtain ⟨v, h1, h2⟩ := h
          exact wpT_firstP hQ hi sel _ listed a _ hclosed (fun j oj hj hne hun hno => (freeC_spec hi hk.2 j oj hj hne hun hno).1) hri (.inl ⟨hw, fun w _ => by simpa using h1 w⟩) (ih _ _ h2)
      · rw [if_neg hw] at h
        have hw' : Region.wanted o (yielded ops a.tmps) = false := by simpa using hw
        cases k with
        | P =>
          simp only [Bool.and_eq_true] at hk
          exact wpT_firstP hQ hi sel _ listed a _ hclosed (fun j oj hj hne hun hno => (freeC_spec hi hk.2 j oj hj hne hun hno).1) hri (.inr ⟨hw', rfl⟩) (ih _ _ h)
        | L =>
          simp only [Bool.and_eq_true] at hk
          exact wpT_first (c := false) hQ hi sel (hreach (by simp) (by simp)) _ listed a _ hclosed (fun j oj hj hne hun hno => ⟨(freeC_spec hi hk.1.2 j oj hj hne hun hno).1, fun h => by cases h⟩) hri (.inr ⟨hw', rfl⟩) (ih _ _ h)
        | C =>
          simp only [Bool.and_eq_true] at hk
          exact wpT_first (c := false) hQ hi sel (hreach (by simp) (by simp)) _ listed a _ hclosed (fun j oj hj hne hun hno => ⟨(freeC_spec hi hk.1.2 j oj hj hne hun hno).1, fun h => by cases h⟩) hri (.inr ⟨hw', rfl⟩) (ih _ _ h)
        | N =>
          simp only [Bool.and_eq_true, beq_iff_eq, busy, hi, Bool.not_eq_true'] at hk
          refine ⟨fun h0 => (by rw [hk.1.1] at h0; cases h0), fun j hj => ?_⟩
          rw [hk.1.1] at hj
          obtain rfl := List.mem_singleton.1 hj
          unfold stepT
          simp only [hi]
          rw [if_neg hw]
          exact ih _ _ h
/-- The tree, shut. -/
structure OrdT (P : Program) (ops : Array Oper) (Q : Exit → Act → World → Prop) (tail : List Nat) (t : Tr) (a : Act) (W : World) : Prop where mk :: (out : wpTr P ops Q tail t a W)
/-- The rule with a tree; what follows stands behind what the region comes to (M). -/
theorem regionT {id : Nat} {a : Act} {w : World} (t : Tr) (tail : List Nat) (M : Act → World → Prop) (hm : P.follows .mixedOrders = true) (hc : (Region.noSelect ops && (t.len + tail.length == ops.size) && chkTr .any ops tail t (Array.replicate ops.size false)) = true)
    (h : OrdT P ops (fun x a w => x = .normal ∧ M a w) tail t a w) (k : ∀ a' w', M a' w' → Q .normal a' w') : (Code.region id ops true).wp P Q a w := by
  simp only [Bool.and_eq_true, beq_iff_eq] at hc
  refine Code.wp_mono (Q := fun x a w => x = .normal ∧ M a w) (fun e a w hx => by obtain ⟨rfl, hM⟩ := hx; exact k _ _ hM) ?_
  refine wp_region_any hm (wpAny_of_wpT (cl := fun j => tail.contains j) _ _ _ (On w) _ (region.below_drew' w) ?_)
  rw [← hc.1.2]
  exact wpT_of_tr hc.1.1 (fun c a d v w h => by obtain ⟨h, _⟩ := h; cases h) tail t _ a w (closed.start _) (by rw [hc.1.2]; exact hc.2) h.out
/-- The same; what the region comes to is told with the state ahead of it. -/
theorem regionM {id : Nat} {a : Act} {w : World} (t : Tr) (tail : List Nat) (M : Act → Act → World → Prop) (hm : P.follows .mixedOrders = true) (hc : (Region.noSelect ops && (t.len + tail.length == ops.size) && chkTr .any ops tail t (Array.replicate ops.size false)) = true)
    (h : OrdT P ops (fun x a' w => x = .normal ∧ M a a' w) tail t a w) (k : ∀ a' w', M a a' w' → Q .normal a' w') : (Code.region id ops true).wp P Q a w := regionT t tail (M a) hm hc h k
/-! The moves over a tree. -/
section
variable {i j : Nat} {tail : List Nat} {p q : Tr} {a : Act} {W : World} {o : Oper} {N : Tmp}
theorem tLeaf {l : List (Nat × K)} (h : Ord P ops Q tail l a W) : OrdT P ops Q tail (.leaf l) a W := ⟨h.out⟩
theorem tL {v : Value} (hy : ∀ w, On W w → (execOp a.eval o).run P w = .ok (.value v) w) (h : OrdT P ops Q tail p (a.put (some N) v) W) (hi : ops[i]? = some o) (hN : o.dst = some N)
    (hw : Region.wanted o (yielded ops a.tmps) = true) : OrdT P ops Q tail (.s i .L p) a W := by
  refine ⟨?_⟩
  simp only [wpTr, hi]
  rw [if_pos hw]
  exact ⟨v, hy, hN ▸ h.out⟩
theorem tTwo {o' : Oper} (h : ∀ w, On W w → wpList P ops (Exit.then (fun a' w' => On W w' ∧ OrdT P ops Q tail p a' w') Q) [o] a w) (h' : ∀ w, On W w → wpList P ops (Exit.then (fun a' w' => On W w' ∧ OrdT P ops Q tail q a' w') Q) [o'] a w)
    (hi : ops[i]? = some o) (hj : ops[j]? = some o') (hw : Region.wanted o (yielded ops a.tmps) = true) (hw' : Region.wanted o' (yielded ops a.tmps) = true) : OrdT P ops Q tail (.two i j p q) a W := by
  refine ⟨?_⟩
  simp only [wpTr, hi, hj]
  exact ⟨⟨hw, fun w hS => wpList_mono_normal (fun a w ⟨h1, h2⟩ => ⟨h1, h2.out⟩) (h w hS)⟩, ⟨hw', fun w hS => wpList_mono_normal (fun a w ⟨h1, h2⟩ => ⟨h1, h2.out⟩) (h' w hS)⟩⟩
end
end Go.Proofs.Ytngjhblbpapjeaa.Reg
namespace Go.Proofs.Ytngjhblbpapjeaa.H
open Go Go.RowKit Go.Proofs.YtngjhblbpapjeaaW.PrintWords Go.Proofs.YtngjhblbpapjeaaW.PrintLast
open Go.Proofs.Ytngjhblbpapjeaa.Reg (On on_draw)
section
variable {P : Program} {ops : Array Oper} {Q : Exit → Act → World → Prop} {i j : Nat} {tail : List Nat} {p q : Reg.Tr} {a a' : Act} {W : World} {o o' : Oper} {N : Tmp}
theorem tL {v : Value} (h : Reg.OrdT P ops Q tail p a' W) (hi : ops[i]? = some o := by rfl) (hN : o.dst = some N := by rfl) (hw : Region.wanted o (yielded ops a.tmps) = true := by rfl)
    (hy : ∀ w, On W w → (execOp a.eval o).run P w = .ok (.value v) w := by intro w' hS; have hA := Reg.On.eq hS; clear hS; (go_simp; first | done | rfl))
    (ha : a.put (some N) v = a' := by simp only [Act.put, List.setIfInBounds_toArray, List.set_cons_zero, List.set_cons_succ]; rfl) : Reg.OrdT P ops Q tail (.s i .L p) a W := Reg.tL hy (ha ▸ h) hi hN hw
theorem tTwo (h : ∀ w, On W w → wpList P ops (Exit.then (fun a' w' => On W w' ∧ Reg.OrdT P ops Q tail p a' w') Q) [o] a w) (h' : ∀ w, On W w → wpList P ops (Exit.then (fun a' w' => On W w' ∧ Reg.OrdT P ops Q tail q a' w') Q) [o'] a w)
    (hi : ops[i]? = some o := by rfl) (hj : ops[j]? = some o' := by rfl) (hw : Region.wanted o (yielded ops a.tmps) = true := by rfl) (hw' : Region.wanted o' (yielded ops a.tmps) = true := by rfl) : Reg.OrdT P ops Q tail (.two i j p q) a W := Reg.tTwo h h' hi hj hw hw'
end
end Go.Proofs.Ytngjhblbpapjeaa.H
/- The laws' own functions, told alike for each kind of datum. No condition. -/
namespace Go.Proofs.Ytngjhblbpapjeaa.H
open Go Go.RowKit Go.Proofs.YtngjhblbpapjeaaW.PrintWords Go.Proofs.YtngjhblbpapjeaaW.PrintLast
open Go.Proofs.Ytngjhblbpapjeaa.Reg (On on_draw)
set_option maxHeartbeats 1000000
set_option maxRecDepth 100000
set_option linter.unusedVariables false
set_option linter.unusedSimpArgs false

/-- A call of a plain function, met in line. -/
theorem goesF {ops : Array Oper} {rest : List Oper} {o : Oper} {a : Act} {Q : Exit → Act → World → Prop} {w : World} (N : Tmp) {f : FuncId} {fn : Func} {xs : Array Operand} {ts : Array TypeId} {args : Array Value} (hf : Try.prog.funcs[f]? = some fn)
    (h : Calls Try.prog f args w fun e w' => ∃ v, e = .returned v ∧ wpList Try.prog ops Q rest (a.put (some N) v) w') (hname : (fn.name == "runtime.NumGoroutine") = false := by kernel_rfl) (hb : fn.body.isSome = true := by rfl)
    (hop : o.op = .call { callee := .value (.func f), args := xs, argTypes := ts } := by rfl) (hargs : xs.map a.eval = args := by (try simp only [List.map_toArray, List.map_cons, List.map_nil]); rfl)
    (hd : o.dst = some N := by rfl) (hg : o.guard = none := by rfl) : wpList Try.prog ops Q (o :: rest) a w := by
  refine wpList_plain hg fun K hK => ?_
  have he := enters_ hf hname hb args w
  have hrun : (execOp a.eval o).run Try.prog w = .ok (.enter f args) w := by
    unfold execOp
    simp [hop, resolve, Deferred.ofValue, invoke, Act.eval, hargs, he]
  unfold Oper.wp
  rw [hrun, Oper.upon_enter]
  refine h.mono fun e w'' hh => ?_
  obtain ⟨v, rfl, hk⟩ := hh
  rw [← hd] at hk
  exact hK _ _ hk
theorem inW {P : Program} {f : FuncId} {args : Array Value} (w : World) {Q : Ending → World → Prop} (h : Calls P f args w Q) : Calls P f args w Q := h
theorem OIn.ex {S : Nat → Prop} {W w : World} {lo : Nat} {v : Value} {rs : List Rel} {fs : List Fct} (h : OIn W lo v rs fs) (k : Ex S W w) (hS : ∀ b, S b → b < lo) : OIn w lo v rs fs := by
  obtain ⟨vr, vf, hs, e, hR, hH, hSp⟩ := h.out
  refine ⟨vr, vf, hs, e, own_ex hR k (fun i hi h => ?_), own_ex hH k (fun i hi h => ?_), hSp.ex k (fun i a b ha hb h => ?_)⟩
  · have := own_base hR i hi; have := hS _ h; omega
  · have := own_base hH i hi; have := hS _ h; omega
  · have := (hSp.lt ha hb).1; have := hS _ h; omega
theorem RIn.shape {w : World} {v : Value} {rs : List Rel} {fs : List Fct} (h : RIn w v rs fs) : ∃ A n c B m d, v = .agg #[.slice A n c, .slice B m d] := by
  obtain ⟨A0, c0, A1, c1, e, _⟩ := h.out
  exact ⟨_, _, _, _, _, _, e⟩
theorem RIn.parts {w : World} {A B : Option Addr} {n c m d : Nat} {rs : List Rel} {fs : List Fct} (h : RIn w (.agg #[.slice A n c, .slice B m d]) rs fs) : n = rs.length ∧ m = fs.length ∧ Rels w A c rs ∧ Fcts w B d fs := by
  obtain ⟨A0, c0, A1, c1, e, h0, h1⟩ := h.out
  injection e with e
  have e' := congrArg Array.toList e
  simp only [List.cons.injEq, Value.slice.injEq, and_true] at e'
  obtain ⟨⟨rfl, rfl, rfl⟩, rfl, rfl, rfl⟩ := e'
  exact ⟨rfl, rfl, h0, h1⟩
/-- What an instance weighs, for the marks. -/
def mkI (rs : List Rel) (fs : List Fct) : Nat := 3 * rs.length + wF fs
theorem mkI_le (rs : List Rel) (fs : List Fct) : mkI rs fs ≤ 3 * (wR rs + wF fs) := by
  have h1 : rs.length ≤ wR rs := by
    unfold wR
    induction rs with
    | nil => simp
    | cons g rs ih => simp at ih ⊢; omega
  unfold mkI; omega
theorem wF_sub {l fs : List Fct} (h : l.Sublist fs) : wF l ≤ wF fs := by
  unfold wF
  induction h with
  | slnil => simp
  | cons a _ ih => simp at ih ⊢; omega
  | cons_cons a _ ih => simp at ih ⊢; omega
theorem wF_small (fs : List Fct) (h : ∀ f ∈ fs, f.2.length ≤ 3) : wF fs ≤ 4 * fs.length := by
  unfold wF
  induction fs with
  | nil => simp
  | cons f fs ih =>
    have h1 := h f List.mem_cons_self
    have h2 := ih (fun g hg => h g (List.mem_cons_of_mem _ hg))
    simp at h2 ⊢; omega
theorem szI_calls (w : World) (v : Value) (rs : List Rel) (fs : List Fct) (n : Int) (h0 : 0 ≤ n) (h1 : n ≤ 2000000) (h : RIn w v rs fs) (hsz : ∀ r ∈ rs, r.1.size ≤ 9223372036854775807) : Calls Try.prog 12 #[v, .int .i64 n] w (Sz n (wR rs + wF fs) w) := by
  obtain ⟨A0, c0, A1, c1, rfl, hr, hf⟩ := h.out
  exact szInstance_calls w A0 c0 A1 c1 rs fs n h0 h1 hr hf hsz
theorem toI_calls (w : World) (v : Value) (rs : List Rel) (fs : List Fct) (h : RIn w v rs fs) (hl : wR rs + wF fs ≤ 1048576) : Calls Try.prog 14 #[v] w (Got fun v w' => OIn w' w.heap.size v rs fs ∧ On w w') := by
  obtain ⟨A0, c0, A1, c1, rfl, hr, hf⟩ := h.out
  have h1 : rs.length ≤ wR rs := by
    unfold wR
    clear hr h hl
    induction rs with
    | nil => simp
    | cons g rs ih => simp at ih ⊢; omega
  have h2 := wF_len fs
  refine toInstance_calls w A0 c0 A1 c1 rs fs hr hf (by omega) (by omega) (fun f hm => ?_)
  have : f.2.length ≤ wF fs := by
    clear hf h hl h2
    unfold wF
    induction fs with
    | nil => cases hm
    | cons g fs ih =>
      rcases List.mem_cons.1 hm with rfl | hm
      · simp; omega
      · have := ih hm; simp at this ⊢; omega
  omega
theorem eqI_calls (w : World) (v u : Value) (rs : List Rel) (fs : List Fct) (h : RIn w v rs fs) (k : RIn w u rs fs) : Calls Try.prog 17 #[v, u] w fun e w' => e = .returned (.bool true) ∧ On w w' := by
  obtain ⟨A0, c0, A1, c1, rfl, h0, h1⟩ := h.out
  obtain ⟨B0, d0, B1, d1, rfl, k0, k1⟩ := k.out
  exact eqInstance_calls w A0 c0 A1 c1 B0 d0 B1 d1 rs fs h0 h1 k0 k1
/-- An instance of one's own whose blocks lie in a range. -/
structure OIb (w : World) (lo hi : Nat) (v : Value) (rs : List Rel) (fs : List Fct) : Prop where mk :: (out : ∃ vr vf hs, v = .agg #[vr, vf] ∧ OR w lo vr rs ∧ OH w lo vf hs ∧ Sep w lo hs fs ∧ ∀ b, IB vr vf hs b → b < hi)
theorem OIn.b {w : World} {lo : Nat} {v : Value} {rs : List Rel} {fs : List Fct} (h : OIn w lo v rs fs) : OIb w lo w.heap.size v rs fs := by
  obtain ⟨vr, vf, hs, e, hR, hH, hS⟩ := h.out
  refine ⟨vr, vf, hs, e, hR, hH, hS, fun b hb => ?_⟩
  rcases hb with e | e | ⟨i, a, ha, e⟩
  · exact own_lt hR b e.symm
  · exact own_lt hH b e.symm
  · exact (hS.lt ha e.symm).2
theorem OIb.n {w : World} {lo hi : Nat} {v : Value} {rs : List Rel} {fs : List Fct} (h : OIb w lo hi v rs fs) : OIn w lo v rs fs := by
  obtain ⟨vr, vf, hs, e, hR, hH, hS, _⟩ := h.out
  exact ⟨vr, vf, hs, e, hR, hH, hS⟩
theorem OIb.read {w : World} {lo hi : Nat} {v : Value} {rs : List Rel} {fs : List Fct} (h : OIb w lo hi v rs fs) : RIn w v rs fs := h.n.read
theorem OIb.on {W w : World} {lo hi : Nat} {v : Value} {rs : List Rel} {fs : List Fct} (h : OIb W lo hi v rs fs) (hb : On W w) : OIb w lo hi v rs fs := by
  obtain ⟨vr, vf, hs, e, hR, hH, hS, hh⟩ := h.out
  exact ⟨vr, vf, hs, e, pw_own_below hR hb, pw_own_below hH hb, hS.on hb, hh⟩
theorem OIb.ex {S : Nat → Prop} {W w : World} {lo hi : Nat} {v : Value} {rs : List Rel} {fs : List Fct} (h : OIb W lo hi v rs fs) (k : Ex S W w) (hS : ∀ b, lo ≤ b → b < hi → ¬ S b) : OIb w lo hi v rs fs := by
  obtain ⟨vr, vf, hs, e, hR, hH, hSp, hh⟩ := h.out
  exact ⟨vr, vf, hs, e, own_ex hR k (fun i hi h => hS i (own_base hR i hi) (hh i (.inl hi.symm)) h), own_ex hH k (fun i hi h => hS i (own_base hH i hi) (hh i (.inr (.inl hi.symm))) h), hSp.ex k (fun i a b ha hb h => hS b (hSp.lt ha hb).1 (hh b (.inr (.inr ⟨i, a, ha, hb.symm⟩))) h), hh⟩
theorem OIb.set {W : World} {lo hi g j : Nat} {v u : Value} {rs : List Rel} {fs : List Fct} (h : OIb W lo hi v rs fs) (hg : g < lo ∨ hi ≤ g) : OIb (W.setCell ⟨g, j, none⟩ u) lo hi v rs fs :=
  h.ex (Ex.set W ⟨g, j, none⟩ u) (fun b h1 h2 h3 => by have h4 : b = g := h3; omega)
theorem mkI_calls (w : World) (lo hi : Nat) (v : Value) (rs : List Rel) (fs : List Fct) (k0 : Int) (h : OIb w lo hi v rs fs) (h0 : 1 ≤ k0) (h1 : k0 + mkI rs fs ≤ 10000000) : Calls Try.prog 18 #[v, .int .i64 k0] w fun e w' => e = .returned (.int .i64 (k0 + mkI rs fs)) ∧ OIb w' lo hi v (markR k0 rs.length) (markF (k0 + 3 * rs.length) (lens fs)) ∧ Ex (fun b => lo ≤ b ∧ b < hi) w w' := by
  obtain ⟨vr, vf, hs, rfl, hR, hH, hS, hh⟩ := h.out
  unfold mkI at h1 ⊢
  refine (markInstance_calls w lo lo lo vr vf hs rs fs k0 hR hH hS h0 (by omega)).mono fun e w' hq => ?_
  obtain ⟨he, ⟨hs', hR', hH', hS', hF'⟩, hE⟩ := hq
  refine ⟨by rw [he]; congr 2; omega, ⟨vr, vf, hs', rfl, hR', hH', hS', fun b hb => hh b (hb.imp id (hF' b))⟩, hE.mono fun b hb => ⟨?_, hh b hb⟩⟩
  rcases hb with e | e | ⟨i, a, ha, e⟩
  · exact own_base hR b e.symm
  · exact own_base hH b e.symm
  · exact (hS.lt ha e.symm).1
theorem hdI_calls (w : World) (v : Value) (rs : List Rel) (fs : List Fct) (k0 : Int) (h : RIn w v (markR k0 rs.length) (markF (k0 + 3 * rs.length) (lens fs))) (h0 : 1 ≤ k0) (h1 : k0 + mkI rs fs ≤ 10000000) : Calls Try.prog 23 #[v, .int .i64 k0] w fun e w' => e = .returned (.int .i64 (k0 + mkI rs fs)) ∧ On w w' := by
  obtain ⟨A0, c0, A1, c1, rfl, hr, hf⟩ := h.out
  unfold mkI at h1 ⊢
  have hlr : (markR k0 rs.length).length = rs.length := by simp [markR_len]
  have hlf : (markF (k0 + 3 * rs.length) (lens fs)).length = (lens fs).length := markF_len _ _
  rw [hlr, hlf]
  refine (heldInstance_calls w A0 c0 A1 c1 rs.length (lens fs) k0 hr hf h0 (by rw [cF_lens]; omega)).mono fun e w' hh => ?_
  exact ⟨by rw [hh.1, cF_lens]; congr 2; omega, hh.2⟩
/-- One fact. -/
structure RFa (w : World) (v : Value) (f : Fct) : Prop where mk :: (out : ∃ A c, v = .agg #[.int .i64 f.1, .slice A f.2.length c] ∧ Ints w A c f.2)
structure OFa (w : World) (lo : Nat) (v : Value) (f : Fct) : Prop where mk :: (out : ∃ v1, v = .agg #[.int .i64 f.1, v1] ∧ OI w lo v1 f.2 ∧ InR f.2)
theorem RFa.on {W w : World} {v : Value} {f : Fct} (h : RFa W v f) (hb : On W w) : RFa w v f := by
  obtain ⟨A, c, e, h0⟩ := h.out
  exact ⟨A, c, e, h0.on hb⟩
theorem OFa.on {W w : World} {lo : Nat} {v : Value} {f : Fct} (h : OFa W lo v f) (hb : On W w) : OFa w lo v f := by
  obtain ⟨v1, e, h0, h1⟩ := h.out
  exact ⟨v1, e, pw_own_below h0 hb, h1⟩
theorem OFa.read {w : World} {lo : Nat} {v : Value} {f : Fct} (h : OFa w lo v f) : RFa w v f := by
  obtain ⟨v1, e, h0, h1⟩ := h.out
  obtain ⟨A, c, rfl, h2⟩ := OI.rd h0 h1
  exact ⟨A, c, e, h2⟩
theorem OFa.ex {S : Nat → Prop} {W w : World} {lo : Nat} {v : Value} {f : Fct} (h : OFa W lo v f) (k : Ex S W w) (hS : ∀ b, S b → b < lo) : OFa w lo v f := by
  obtain ⟨v1, e, h0, h1⟩ := h.out
  refine ⟨v1, e, own_ex h0 k (fun i hi h => ?_), h1⟩
  have := own_base h0 i hi; have := hS _ h; omega
theorem OFa.ex' {S : Nat → Prop} {W w : World} {lo : Nat} {v : Value} {f : Fct} (h : OFa W lo v f) (k : Ex S W w) (hS : ∀ b, S b → b < lo ∨ W.heap.size ≤ b) : OFa w lo v f := by
  obtain ⟨v1, e, h0, h1⟩ := h.out
  refine ⟨v1, e, own_ex h0 k (fun i hi h => ?_), h1⟩
  have := own_base h0 i hi; have := own_lt h0 i hi; have := hS _ h; omega
theorem RFa.shape {w : World} {v : Value} {f : Fct} (h : RFa w v f) : ∃ r A n c, v = .agg #[.int .i64 r, .slice A n c] := by
  obtain ⟨A, c, e, _⟩ := h.out
  exact ⟨_, _, _, _, e⟩
theorem RFa.parts {w : World} {r : Int} {A : Option Addr} {n c : Nat} {f : Fct} (h : RFa w (.agg #[.int .i64 r, .slice A n c]) f) : r = f.1 ∧ n = f.2.length ∧ Ints w A c f.2 := by
  obtain ⟨A0, c0, e, h0⟩ := h.out
  injection e with e
  have e' := congrArg Array.toList e
  simp only [List.cons.injEq, Value.slice.injEq, Value.int.injEq, and_true, true_and] at e'
  obtain ⟨rfl, rfl, rfl, rfl⟩ := e'
  exact ⟨rfl, rfl, h0⟩
theorem szF_calls (w : World) (v : Value) (f : Fct) (n : Int) (h0 : 0 ≤ n) (h1 : n ≤ 2000000) (h : RFa w v f) : Calls Try.prog 31 #[v, .int .i64 n] w (Sz n f.2.length w) := by
  obtain ⟨A, c, rfl, hr⟩ := h.out
  exact szFact_calls w A c f n h0 h1 hr
theorem toF_calls (w : World) (v : Value) (f : Fct) (h : RFa w v f) (hl : f.2.length ≤ 1048576) : Calls Try.prog 33 #[v] w (Got fun v w' => OFa w' w.heap.size v f ∧ On w w') := by
  obtain ⟨A, c, rfl, hr⟩ := h.out
  refine (toFact_calls w A c f hr (by omega)).mono fun e w' hh => ?_
  obtain ⟨v, rfl, v1, rfl, hO, hb⟩ := hh
  exact ⟨_, rfl, ⟨v1, rfl, hO, hr.2.2⟩, hb⟩
theorem eqF_calls (w : World) (v u : Value) (f : Fct) (h : RFa w v f) (k : RFa w u f) : Calls Try.prog 35 #[v, u] w fun e w' => e = .returned (.bool true) ∧ On w w' := by
  obtain ⟨A, c, rfl, h0⟩ := h.out
  obtain ⟨B, d, rfl, k0⟩ := k.out
  exact eqFact_calls w A c B d f h0 k0
/-- One fact of one's own whose block lies in a range. -/
structure OFb (w : World) (lo hi : Nat) (v : Value) (f : Fct) : Prop where mk :: (out : ∃ v1, v = .agg #[.int .i64 f.1, v1] ∧ OI w lo v1 f.2 ∧ InR f.2 ∧ ∀ b, v1.ownBlock = some b → b < hi)
theorem OFa.b {w : World} {lo : Nat} {v : Value} {f : Fct} (h : OFa w lo v f) : OFb w lo w.heap.size v f := by
  obtain ⟨v1, e, h0, h1⟩ := h.out
  exact ⟨v1, e, h0, h1, fun b hb => own_lt h0 b hb⟩
theorem OFb.read {w : World} {lo hi : Nat} {v : Value} {f : Fct} (h : OFb w lo hi v f) : RFa w v f := by
  obtain ⟨v1, e, h0, h1, _⟩ := h.out
  obtain ⟨A, c, rfl, h2⟩ := OI.rd h0 h1
  exact ⟨A, c, e, h2⟩
theorem OFb.on {W w : World} {lo hi : Nat} {v : Value} {f : Fct} (h : OFb W lo hi v f) (hb : On W w) : OFb w lo hi v f := by
  obtain ⟨v1, e, h0, h1, h2⟩ := h.out
  exact ⟨v1, e, pw_own_below h0 hb, h1, h2⟩
theorem OFb.ex {S : Nat → Prop} {W w : World} {lo hi : Nat} {v : Value} {f : Fct} (h : OFb W lo hi v f) (k : Ex S W w) (hS : ∀ b, lo ≤ b → b < hi → ¬ S b) : OFb w lo hi v f := by
  obtain ⟨v1, e, h0, h1, h2⟩ := h.out
  exact ⟨v1, e, own_ex h0 k (fun i hi h => hS i (own_base h0 i hi) (h2 i hi) h), h1, h2⟩
theorem mkF_calls (w : World) (lo hi : Nat) (v : Value) (f : Fct) (k0 : Int) (h : OFb w lo hi v f) (h0 : 1 ≤ k0) (h1 : k0 + f.2.length ≤ 10000000) : Calls Try.prog 36 #[v, .int .i64 k0] w fun e w' => e = .returned (.int .i64 (k0 + f.2.length)) ∧ Ex (fun b => lo ≤ b ∧ b < hi) w w' := by
  obtain ⟨v1, rfl, hO, hR, hh⟩ := h.out
  refine (markFact_calls w lo v1 f k0 hO (by omega) h1).mono fun e w' hq => ⟨hq.1, hq.2.2.mono fun b hb => ?_⟩
  exact ⟨own_base hO b hb.symm, hh b hb.symm⟩
end Go.Proofs.Ytngjhblbpapjeaa.H
/- Walks: the reference's search for homomorphisms. No condition. -/
namespace Go.Proofs.Ytngjhblbpapjeaa.H
open Go Go.RowKit Go.Proofs.YtngjhblbpapjeaaW.PrintWords Go.Proofs.YtngjhblbpapjeaaW.PrintLast
open Go.Proofs.Ytngjhblbpapjeaa.Reg (On on_draw)
set_option maxHeartbeats 4000000
set_option maxRecDepth 100000
set_option linter.unusedVariables false
set_option linter.unusedSimpArgs false

theorem SepS.grown {w w1 : World} {lo : Nat} {hs zs : List SHd} {ss : List Su} {v : Value} (h : SepS w lo zs ss) (hO : OS w lo v hs) (hg : w.grownBy w1 v.ownBlock) : SepS w1 lo zs ss := by
  refine ⟨h.len, Sep.ex h.sep (Ex.of_grown hg) (fun i a b ha hbk e => ?_)⟩
  have hi : i < (flF ss).length := by rw [← h.sep.len]; exact (List.getElem?_eq_some_iff.1 ha).1
  have hab := (h.sep.at_ i a _ ha (List.getElem?_eq_getElem hi)).2.1
  exact own_ne_blk hab hO (by decide) hbk e.symm
theorem wstep_some {tos fs : List Fct} {f : Fct} {x : List Int} {most : Nat} {out : List (List Int)} {g : Fct} {y : List Int} (h : out.length < most) (hf : fit f g x = some y) : wstep tos fs f x most out g = out ++ walk tos fs y (most - out.length) := by
  unfold wstep; rw [if_pos h, hf]
theorem wstep_none {tos fs : List Fct} {f : Fct} {x : List Int} {most : Nat} {out : List (List Int)} {g : Fct} (h : out.length < most) (hf : fit f g x = none) : wstep tos fs f x most out g = out := by
  unfold wstep; rw [if_pos h, hf]
theorem l7Walk_calls (fs gs : List Fct) (d : Nat) : ∀ (n : Nat), n + d = fs.length → ∀ (w : World) (A0 m0 c0 A1 c1 A2 m2 c2 A3 c3 A4 c4) (x : List Int) (most : Nat) (h1 : Fcts w A1 c1 fs) (h3 : Fcts w A3 c3 gs) (h4 : Ints w A4 c4 x) (hx : x.length = 40) (hp : 1 ≤ most) (hq : most ≤ 1000),
    Calls Try.prog 128 #[.agg #[.slice A0 m0 c0, .slice A1 fs.length c1], .agg #[.slice A2 m2 c2, .slice A3 gs.length c3], .int .i64 n, .slice A4 x.length c4, .int .i64 most] w (Got fun v w' => ∃ hs, OS w' w.heap.size v hs ∧ SepS w' w.heap.size hs ((walk gs (fs.drop n) x most).map (subI 0)) ∧ On w w') := by
  induction d with
  | zero =>
    intro n hn w A0 m0 c0 A1 c1 A2 m2 c2 A3 c3 A4 c4 x most h1 h3 h4 hx hp hq
    have e : (walk gs (fs.drop n) x most).map (subI 0) = [subI 0 x] := by rw [List.drop_of_length_le (by omega)]; rfl
    rw [e]
    exact l7Base_calls w A0 m0 c0 A1 c1 A2 m2 c2 A3 c3 A4 c4 fs gs x n most h1 h3 h4 hx (by omega)
  | succ d ih0 =>
    intro n hn w A0 m0 c0 A1 c1 A2 m2 c2 A3 c3 A4 c4 x most h1 h3 h4 hx hp hq
    have ih := Aside0.mk (ih0 (n + 1) (by omega))
    clear ih0
    have hx' := Aside0.mk hx
    clear hx
    have hm1 := h1.max
    have hm3 := h3.max
    have hm4 := h4.max
    have hnf : n < fs.length := by omega
    have hn' := Aside0.mk hn
    have hpq := Aside0.mk (show 1 ≤ most ∧ most ≤ 1000 from ⟨hp, hq⟩)
    have hnb : ((n : Int) == (fs.length : Int)) = false := by rw [beq_eq_false_iff_ne]; omega
    have hnd : (n == fs.length) = false := by rw [beq_eq_false_iff_ne]; omega
    have hwk := Aside0.mk (show walk gs (fs.drop n) x most = gs.foldl (wstep gs (fs.drop (n + 1)) fs[n] x most) [] by rw [List.drop_eq_getElem_cons hnf, walk_cons])
    have hwl := Aside0.mk (fun (y : List Int) (m : Nat) (hm : 1 ≤ m) => walk_len gs (fs.drop (n + 1)) y m hm)
    have hb := Aside0.mk (On.alloc (On.alloc (On.refl w) (.cells #[.slice A0 m0 c0, .slice A1 fs.length c1] 32)) (.cells #[.slice A2 m2 c2, .slice A3 gs.length c3] 32))
    have hL := Aside0.mk (loc2 w #[.slice A0 m0 c0, .slice A1 fs.length c1] #[.slice A2 m2 c2, .slice A3 gs.length c3] 32 32)
    have hsx := Aside0.mk (show ((w.alloc (.cells #[.slice A0 m0 c0, .slice A1 fs.length c1] 32)).alloc (.cells #[.slice A2 m2 c2, .slice A3 gs.length c3] 32)).heap.size = w.heap.size + 1 + 1 by simp)
    clear hn hp hq
    go_enter Try.func128, Try.ntmps128
    go_wp2
    clear hnb hnd
    obtain ⟨Wx, hWx⟩ : ∃ Wx, (w.alloc (.cells #[.slice A0 m0 c0, .slice A1 fs.length c1] 32)).alloc (.cells #[.slice A2 m2 c2, .slice A3 gs.length c3] 32) = Wx := ⟨_, rfl⟩
    rw [hWx] at hb hL hsx ⊢
    clear hWx
    have hlit := Aside0.mk (lit_own Wx #[] 45 2 0 Wx.heap.size (Nat.le_refl _) (by omega) rfl)
    have hlit2 := hlit.out
    rw [hsx.out] at hlit2
    have hlit3 := Aside0.mk hlit2
    clear hlit2 hlit
    have hwn : IntKind.i64.wrap ((n : Int) + 1) = ((n + 1 : Nat) : Int) := by rw [IntWalk.i64_in _ (by omega)]; omega
    go_loopw [14, 13] (fun v14 v13 wr => ∃ (i : Nat) (hs : List SHd) (A : Option Addr) (c : Nat), i ≤ gs.length ∧ v14 = .int .i64 i ∧ v13 = .slice A hs.length c ∧ Aside0 (OS wr (w.heap.size + 1 + 1) (.slice A hs.length c) hs) ∧ Aside0 (SepS wr (w.heap.size + 1 + 1) hs (((gs.take i).foldl (wstep gs (fs.drop (n + 1)) fs[n] x most) []).map (subI 0))) ∧ Aside0 (w.heap.size + 1 + 1 ≤ wr.heap.size) ∧ Aside0 (On Wx wr)) (fun v14 _ _ => gs.length - (intOf v14).toNat)
    case atStart => exact ⟨0, [], some ⟨w.heap.size + 1 + 1, 0, none⟩, 0, Nat.zero_le _, rfl, rfl, hlit3, ⟨SepS.nil _ _⟩, ⟨by rw [World.size_alloc, hsx.out]; omega⟩, ⟨On.alloc (On.refl _) _⟩⟩
    case round =>
      obtain ⟨i, hs, A, c, hi, rfl, rfl, hO, hS, hsz, hB⟩ := hrel
      have hBr := Aside0.mk (hb.out.trans hB.out)
      have hLr := Aside0.mk (Loc.on hB.out hL.out)
      have hd0 := blk_cell hLr.out.1
      have hd1 := blk_cell hLr.out.2.1
      have hlen := Aside0.mk (show hs.length = ((gs.take i).foldl (wstep gs (fs.drop (n + 1)) fs[n] x most) []).length by have := hS.out.len; rwa [List.length_map] at this)
      have hcm := (own_capmax hO.out).2
      by_cases hlt : i < gs.length
      · by_cases hlm : hs.length < most
        · have hlb : decide ((hs.length : Int) < (most : Int)) = true := decide_eq_true (by omega)
          have hlb2 : decide (hs.length < most) = true := decide_eq_true hlm
          have hsucc := Aside0.mk (wfold_succ gs (fs.drop (n + 1)) fs[n] x most i hlt)
          obtain ⟨ad, A5, c5, rfl, hx0, hx1, hx2⟩ := (h1.on hBr.out).at n hnf
          obtain ⟨bd, A6, c6, rfl, hy0, hy1, hy2⟩ := (h3.on hBr.out).at i hlt
          have hws : IntKind.i64.wrap ((most : Int) - (hs.length : Int)) = ((most - hs.length : Nat) : Int) := by have := hpq.out; rw [IntWalk.i64_in _ (by omega)]; omega
          cases hf : fit fs[n] gs[i] x with
          | none =>
            have hf' := Aside0.mk hf
            clear hf
            go_wp2
            refine Reg.region [(0,.L),(1,.L),(2,.L),(3,.L),(4,.L),(5,.L),(6,.L),(7,.L),(8,.L),(9,.L),(10,.L),(11,.N),(12,.L),(13,.L),(14,.P)] [15,16] (by kernel_rfl) (by kernel_rfl) ?_
            repeat first | refine sP ?_ | refine sS ?_ | refine sA ?_ | refine sL ?_ | refine sQ ?_ | refine sO ?_
            refine callN Try.func150 (fun w2 hS2 => ?_)
            refine (l7Fit_calls w2 A5 c5 A6 c6 A4 c4 fs[n] gs[i] x (hx2.on hS2) (hy2.on hS2) (h4.on (hBr.out.trans hS2)) hx'.out).mono ?_
            rintro e w3 ⟨v3, rfl, v4, rfl, hfit, hb3⟩
            rw [hf'.out]
            clear hfit
            refine ⟨_, rfl, hb3, fun a' ha => ?_⟩
            simp only [Act.put, List.setIfInBounds_toArray, List.set_cons_zero, List.set_cons_succ] at ha
            subst ha
            repeat first | refine sP ?_ | refine sS ?_ | refine sA ?_ | refine sL ?_ | refine sQ ?_ | refine sO ?_
            refine Reg.tail_ fun w4 hS4 => ?_
            have hB4 := Aside0.mk (hS2.trans (hb3.trans hS4))
            clear hlb hlb2 hx0 hx1 hy0 hy1
            go_wp2
            refine ⟨⟨i + 1, hs, A, c, by omega, by go_num, rfl, ⟨pw_own_below hO.out hB4.out⟩, ⟨?_⟩, ⟨Nat.le_trans hsz.out hB4.out.size⟩, ⟨hB.out.trans hB4.out⟩⟩, by simp [intOf]; omega⟩
            rw [hsucc.out]
            rw [wstep_none (by have := hlen.out; omega) hf'.out]
            exact hS.out.on hB4.out
          | some y =>
            have hf' := Aside0.mk hf
            clear hf
            go_wp2
            refine Reg.region [(0,.L),(1,.L),(2,.L),(3,.L),(4,.L),(5,.L),(6,.L),(7,.L),(8,.L),(9,.L),(10,.L),(11,.N),(12,.L),(13,.L),(14,.P)] [15,16] (by kernel_rfl) (by kernel_rfl) ?_
            repeat first | refine sP ?_ | refine sS ?_ | refine sA ?_ | refine sL ?_ | refine sQ ?_ | refine sO ?_
            refine callN Try.func150 (fun w2 hS2 => ?_)
            refine (l7Fit_calls w2 A5 c5 A6 c6 A4 c4 fs[n] gs[i] x (hx2.on hS2) (hy2.on hS2) (h4.on (hBr.out.trans hS2)) hx'.out).mono ?_
            rintro e w3 ⟨v3, rfl, v4, rfl, hfit, hb3⟩
            obtain ⟨hOy, hRy, hly⟩ := hfit y hf'.out
            obtain ⟨A7, c7, rfl, hIy⟩ := OI.rd hOy hRy
            have hly' := Aside0.mk hly
            clear hly
            rw [hf'.out]
            clear hfit hOy
            refine ⟨_, rfl, hb3, fun a' ha => ?_⟩
            simp only [Act.put, List.setIfInBounds_toArray, List.set_cons_zero, List.set_cons_succ] at ha
            subst ha
            repeat first | refine sP ?_ | refine sS ?_ | refine sA ?_ | refine sL ?_ | refine sQ ?_ | refine sO ?_
            refine Reg.tail_ fun w4 hS4 => ?_
            have hB4 := Aside0.mk (hS2.trans (hb3.trans hS4))
            have hI4 := Aside0.mk (hIy.on hS4)
            have hL4 := Aside0.mk (Loc.on hB4.out hLr.out)
            replace hd0 := blk_cell hL4.out.1
            replace hd1 := blk_cell hL4.out.2.1
            clear hlb hlb2 hx0 hx1 hy0 hy1 hIy
            go_wp2_with (refine gate 91 ?_)
            refine ⟨goesF 91 Try.func128 ((ih.out w4 A0 m0 c0 _ c1 A2 m2 c2 _ c3 A7 c7 y (most - hs.length) (h1.on (hBr.out.trans hB4.out)) (h3.on (hBr.out.trans hB4.out)) hI4.out hly'.out (by omega) (by have := hpq.out; omega)).mono ?_)⟩
            rintro e w5 ⟨v5, rfl, hs5, hO5, hS5, hb5⟩
            refine ⟨_, rfl, ?_⟩
            obtain ⟨A8, c8, rfl, hR8⟩ := OS.slice hO5
            have hl5 : hs5.length ≤ most - hs.length := by
              have h1 := hS5.len
              rw [List.length_map] at h1
              have h2 := hwl.out y (most - hs.length) (by omega)
              omega
            obtain ⟨zs, hz⟩ : ∃ zs, hs ++ hs5 = zs := ⟨_, rfl⟩
            have hB5 := Aside0.mk (hB4.out.trans hb5)
            have hO5a := Aside0.mk (pw_own_below hO.out hB5.out)
            have hS5a := Aside0.mk (hS.out.append hS5 hB5.out (Nat.le_trans hsz.out hB4.out.size) hB4.out.size)
            refine apS 92 hz hO5a.out hR8 (Nat.le_trans hsz.out hB5.out.size) (by have := hpq.out; omega) fun v6 w6 hO6 hg6 => ?_
            have hS6 := Aside0.mk (hS5a.out.grown hO5a.out hg6)
            obtain ⟨A6', c6', rfl⟩ := own_slice hO6
            have hB6 := Aside0.mk (own_grows (hB.out.trans hB5.out) hO5a.out hg6 (by rw [hsx.out]; exact Nat.le_refl _))
            have hs6 := Aside0.mk (Nat.le_trans (Nat.le_trans hsz.out hB5.out.size) hg6.size)
            have hO6a := Aside0.mk hO6
            have hz' := Aside0.mk hz
            clear hO6 hg6 hR8 hO5 hS5 hz hd0 hd1 hl5
            go_wp2
            refine ⟨⟨i + 1, zs, A6', c6', by omega, by go_num, rfl, hO6a, ⟨?_⟩, hs6, hB6⟩, by simp [intOf]; omega⟩
            rw [hsucc.out]
            rw [wstep_some (by have := hlen.out; omega) hf'.out, ← hz'.out, ← hlen.out, List.map_append]
            exact hS6.out
        · have hlb : decide ((hs.length : Int) < (most : Int)) = false := decide_eq_false (by omega)
          have hlb2 : decide (hs.length < most) = false := decide_eq_false hlm
          have hend := Aside0.mk (wfold_stop gs (fs.drop (n + 1)) fs[n] x most i (by have := hlen.out; omega))
          go_wp2
          go_ret
          exact ⟨_, rfl, hs, own_lower hO.out (by omega), by rw [hwk.out, hend.out]; exact hS.out.lower (by omega), hBr.out⟩
      · have e1 : gs.take i = gs := List.take_of_length_le (by omega)
        rw [e1] at hS
        go_wp2
        go_ret
        exact ⟨_, rfl, hs, own_lower hO.out (by omega), by rw [hwk.out]; exact hS.out.lower (by omega), hBr.out⟩
end Go.Proofs.Ytngjhblbpapjeaa.H
