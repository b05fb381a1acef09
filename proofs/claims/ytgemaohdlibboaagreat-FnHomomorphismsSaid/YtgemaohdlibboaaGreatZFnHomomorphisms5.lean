/- Walks and plain laws for the law FnHomomorphisms, part 5 of 8: the texts HM1, HM2, HM3, HM4, HM5, HM6, HM7, HM8, HC1, HM9, HM10, HE, HK1, HM11, HM12, HD7 in one. No condition. -/
import Derived.Maps.OwnSet
import Derived.Maps.Views
import Derived.Shelf.SlMaps.Clone
import Derived.Shelf.SlIterI.Nil
import Derived.Shelf.SlIterI.Sorted
import Derived.Test.YtgemaohdlibboaaGreatShelf
import Derived.Maps.Ext
import Derived.Lib.SlKeysI
import Derived.Maps.OwnOps
import Derived.Test.YtgemaohdlibboaaGreatZFnHomomorphisms4
/- Walks: the reference's search for homomorphisms: one fact fitted. No condition. -/
namespace Go.Proofs.YtgemaohdlibboaaGreat.H
open Go Go.RowKit Go.Proofs.YtgemaohdlibboaaGreatW.PrintWords Go.Proofs.YtgemaohdlibboaaGreatW.PrintLast
open Go.Proofs.YtgemaohdlibboaaGreat.Reg (On on_draw)
set_option maxHeartbeats 4000000
set_option maxRecDepth 100000
set_option linter.unusedVariables false
set_option linter.unusedSimpArgs false

theorem own_at0 {w : World} {lo e sz n c : Nat} {A : Option Addr} {cs : List Value} (h : w.ownsRow lo e sz (.slice A n c) n cs) (hn : 0 < n) : ∃ g, A = some ⟨g, 0, none⟩ := by
  rcases h.2 with ⟨h', h2⟩ | ⟨g', cap', cur, h', _⟩
  · injection h' with e1 e2 e3
    subst e1
    omega
  · injection h' with e1 e2 e3
    exact ⟨g', e1⟩
theorem add_zero0 (g m : Nat) : (⟨g, 0, none⟩ : Addr).add m = ⟨g, m, none⟩ := by
  by_cases h : m = 0
  · subst h; rfl
  · simp [Addr.add, h]
theorem flat_setM (z : List Int) (m : Nat) (u : Int) : (z.flatMap encI).set m (.int .i64 u) = (z.set m u).flatMap encI := by
  have e : ∀ l : List Int, l.flatMap encI = l.map (Value.int .i64) := by
    intro l
    induction l with
    | nil => rfl
    | cons x l ih => rw [List.flatMap_cons, ih]; rfl
  rw [e, e, List.map_set]
theorem inR_set {z : List Int} {m : Nat} {u : Int} (h : InR z) (hu : -9223372036854775808 ≤ u ∧ u ≤ 9223372036854775807) : InR (z.set m u) := fun y hy => by
  rcases List.mem_or_eq_of_mem_set hy with hy | rfl
  · exact h y hy
  · exact hu
theorem l7Fit_calls (w : World) (A0 c0 A1 c1 A2 c2) (f g : Fct) (x : List Int) (h0 : Ints w A0 c0 f.2) (h1 : Ints w A1 c1 g.2) (h2 : Ints w A2 c2 x) (hx : x.length = 40) :
    Calls Tryz.prog 77 #[.agg #[.int .i64 f.1, .slice A0 f.2.length c0], .agg #[.int .i64 g.1, .slice A1 g.2.length c1], .slice A2 x.length c2] w (Got fun v w' => ∃ v1, v = .tuple #[v1, .bool (fit f g x).isSome] ∧ (∀ y, fit f g x = some y → OI w' w.heap.size v1 y ∧ InR y ∧ y.length = 40) ∧ On w w') := by
  have hm0 := h0.max
  have hm1 := h1.max
  have hx' := Aside0.mk hx
  clear hx
  have hb := Aside0.mk (On.alloc (On.alloc (On.refl w) (.cells #[.int .i64 f.1, .slice A0 f.2.length c0] 54)) (.cells #[.int .i64 g.1, .slice A1 g.2.length c1] 54))
  have hL := Aside0.mk (loc2 w #[.int .i64 f.1, .slice A0 f.2.length c0] #[.int .i64 g.1, .slice A1 g.2.length c1] 54 54)
  have hsx := Aside0.mk (show ((w.alloc (.cells #[.int .i64 f.1, .slice A0 f.2.length c0] 54)).alloc (.cells #[.int .i64 g.1, .slice A1 g.2.length c1] 54)).heap.size = w.heap.size + 1 + 1 by simp)
  by_cases hr : f.1 = g.1
  · have hrb : (f.1 == g.1) = true := by simp [hr]
    have hrc : (f.1 != g.1) = false := by simp [bne, hrb]
    have hr' := Aside0.mk hr
    clear hr
    by_cases hl : f.2.length = g.2.length
    · have hlb : ((f.2.length : Int) == (g.2.length : Int)) = true := by simp [hl]
      have hlc : ((f.2.length : Int) != (g.2.length : Int)) = false := by simp [bne, hlb]
      have hld : (f.2.length == g.2.length) = true := by simp [hl]
      have hl' := Aside0.mk hl
      clear hl
      have hfit := Aside0.mk (show fit f g x = fitFrom f.2 g.2 x by unfold fit; rw [if_neg (by simp [hr'.out, hl'.out])])
      go_enter Tryz.func77, Tryz.ntmps77
      go_wp2_with (refine gate 29 ?_)
      clear hlb hlc hld hrb hrc
      obtain ⟨Wx, hWx⟩ : ∃ Wx, (w.alloc (.cells #[.int .i64 f.1, .slice A0 f.2.length c0] 54)).alloc (.cells #[.int .i64 g.1, .slice A1 g.2.length c1] 54) = Wx := ⟨_, rfl⟩
      rw [hWx] at hb hL hsx ⊢
      clear hWx
      have hlit := lit_own Wx #[] 3 1 0 Wx.heap.size (Nat.le_refl _) (by omega) rfl
      rw [hsx.out] at hlit
      refine ⟨apIf 29 (List.nil_append _) hlit rfl (h2.on (hb.out.trans (On.alloc (On.refl _) _))) (by rw [World.size_alloc, hsx.out]; omega) (by rw [hx'.out]; simp) fun v3 w3 hO3 hb3 => ?_⟩
      have hBs := Aside0.mk ((On.alloc (On.refl Wx) _).trans hb3)
      clear hb3 hlit
      obtain ⟨A3, c3, rfl⟩ := own_slice hO3
      obtain ⟨g0, rfl⟩ := own_at0 hO3 (by rw [hx'.out]; omega)
      have hO3' := Aside0.mk hO3
      clear hO3
      go_wp2
      go_loopw [9] (fun v wr => ∃ (k : Nat) (z : List Int), k ≤ f.2.length ∧ v = .int .i64 k ∧ Aside0 (fitFrom (f.2.drop k) (g.2.drop k) z = fitFrom f.2 g.2 x) ∧ Aside0 (z.length = x.length ∧ InR z) ∧ Aside0 (wr.ownsRow (w.heap.size + 1 + 1) 3 1 (.slice (some ⟨g0, 0, none⟩) x.length c3) x.length (z.flatMap encI)) ∧ Aside0 (On Wx wr)) (fun v _ => f.2.length - (intOf v).toNat)
      case atStart => exact ⟨0, x, Nat.zero_le _, rfl, ⟨rfl⟩, ⟨rfl, h2.2.2⟩, hO3', hBs⟩
      case round =>
        obtain ⟨k, z, hk, rfl, hp, hz, hO, hB⟩ := hrel
        have hBr := Aside0.mk (hb.out.trans hB.out)
        have hLr := Aside0.mk (Loc.on hB.out hL.out)
        have hd0 := blk_cell hLr.out.1
        have hd1 := blk_cell hLr.out.2.1
        by_cases hlt : k < f.2.length
        · have hlt2 : k < g.2.length := by have := hl'.out; omega
          obtain ⟨ad, rfl, hx1⟩ := (h0.on hBr.out).at k hlt
          obtain ⟨bd, rfl, hy1⟩ := (h1.on hBr.out).at k hlt2
          have hbd := h0.bd k hlt
          have hgd := Aside0.mk (h1.bd k hlt2)
          have hst := Aside0.mk ((fitFrom_step f.2 g.2 z k hlt hlt2).symm.trans hp.out)
          clear hp
          cases hv : isNul f.2[k] with
          | false =>
            have hv' := Aside0.mk hv
            have hm := Aside0.mk (show nulNum f.2[k] = (nulNum f.2[k]) from rfl)
            clear hv
            by_cases hq : f.2[k] = g.2[k]
            · have hq2 : (f.2[k] != g.2[k]) = false := by simp [bne, hq]
              have hq3 : (f.2[k] == g.2[k]) = true := by simp [hq]
              have hq' := Aside0.mk hq
              clear hq
              go_wp2_with (
                (go_at_call 87; refine (NullNumber_calls _ _ hbd.1).mono ?_; rintro e w2 ⟨rfl, hb2⟩; rw [hv'.out, hm.out]; have hL2 := Aside0.mk (Loc.on hb2 hLr.out); have hd0 := blk_cell hL2.out.1; have hd1 := blk_cell hL2.out.2.1; replace hx1 := (hb2.eq _ (by rw [hx1]; rfl)).trans hx1; replace hy1 := (hb2.eq _ (by rw [hy1]; rfl)).trans hy1)
                )
              refine Reg.region [(0,.L),(1,.L),(2,.L),(3,.L),(4,.L),(5,.L),(6,.L),(7,.L),(8,.L),(9,.L),(10,.L)] [] (by kernel_rfl) (by kernel_rfl) ?_
              repeat first | refine sP ?_ | refine sS ?_ | refine sA ?_ | refine sL ?_ | refine sQ ?_ | refine sO ?_
              refine Reg.nil fun w5 hS => ?_
              clear hq2 hq3
              go_wp2
              have hn : nxt z f.2[k] g.2[k] = some z := by unfold nxt; rw [hv'.out]; simp [hq'.out]
              exact ⟨⟨k + 1, z, by omega, by go_num, ⟨by rw [← hst.out, hn]; rfl⟩, hz, ⟨pw_own_below hO.out (hb2.trans hS)⟩, ⟨hB.out.trans (hb2.trans hS)⟩⟩, by simp [intOf]; omega⟩
            · have hq2 : (f.2[k] != g.2[k]) = true := by simp [bne]; exact hq
              have hq3 : (f.2[k] == g.2[k]) = false := by simpa using hq
              have hq' := Aside0.mk hq
              clear hq
              go_wp2_with (
                (go_at_call 87; refine (NullNumber_calls _ _ hbd.1).mono ?_; rintro e w2 ⟨rfl, hb2⟩; rw [hv'.out, hm.out]; have hL2 := Aside0.mk (Loc.on hb2 hLr.out); have hd0 := blk_cell hL2.out.1; have hd1 := blk_cell hL2.out.2.1; replace hx1 := (hb2.eq _ (by rw [hx1]; rfl)).trans hx1; replace hy1 := (hb2.eq _ (by rw [hy1]; rfl)).trans hy1)
                )
              refine Reg.region [(0,.L),(1,.L),(2,.L),(3,.L),(4,.L),(5,.L),(6,.L),(7,.L),(8,.L),(9,.L),(10,.L)] [] (by kernel_rfl) (by kernel_rfl) ?_
              repeat first | refine sP ?_ | refine sS ?_ | refine sA ?_ | refine sL ?_ | refine sQ ?_ | refine sO ?_
              refine Reg.nil fun w5 hS => ?_
              clear hq2 hq3
              go_wp2
              go_ret2
              have hn : nxt z f.2[k] g.2[k] = none := by unfold nxt; rw [hv'.out]; simp [hq'.out]
              have hno : fit f g x = none := by rw [hfit.out, ← hst.out, hn]; rfl
              exact ⟨_, rfl, .slice A2 x.length c2, by rw [hno]; rfl, fun y hy => (by rw [hno] at hy; cases hy), hBr.out.trans (hb2.trans hS)⟩
          | true =>
            obtain ⟨m, hm0, hm40⟩ : ∃ m : Nat, nulNum f.2[k] = (m : Int) ∧ m < 40 := by
              refine ⟨(nulNum f.2[k]).toNat, ?_, ?_⟩ <;> (unfold nulNum; rw [hv]; simp only [isNul, decide_eq_true_eq] at hv; simp only [if_true]; omega)
            have hm := Aside0.mk hm0
            have hmx : m < x.length := by rw [hx'.out]; exact hm40
            have hmz := Aside0.mk (show m < z.length by rw [hz.out.1]; exact hmx)
            have hI : Ints wr (some ⟨g0, 0, none⟩) c3 z := by
              have h3 : OI wr (w.heap.size + 1 + 1) (.slice (some ⟨g0, 0, none⟩) x.length c3) z := by
                unfold OI
                rw [hz.out.1]
                exact hO.out
              obtain ⟨A, c, e, h4⟩ := OI.rd h3 hz.out.2
              injection e with e1 e2 e3
              subst e1 e3
              exact h4
            obtain ⟨ad', e', hzc⟩ := hI.at m hmz.out
            obtain rfl : (⟨g0, 0, none⟩ : Addr) = ad' := by simpa using e'
            rw [add_zero0] at hzc
            have hv' := Aside0.mk hv
            have hget := Aside0.mk (show z.getD (nulNum f.2[k]).toNat 10 = z[m]'hmz.out by rw [hm0]; simp [hmz.out])
            clear hv hm0 e' hI hm40
            by_cases h10 : z[m]'hmz.out = 10
            · have hb1 : ((z[m]'hmz.out) != 10) = false := by simp [bne, h10]
              have hb0 : ((z[m]'hmz.out) == 10) = true := by simp [h10]
              have hc := Aside0.mk (show z[m]'hmz.out = 10 ∨ z[m]'hmz.out = g.2[k] from .inl h10)
              clear h10
              go_wp2_with (
                (go_at_call 87; refine (NullNumber_calls _ _ hbd.1).mono ?_; rintro e w2 ⟨rfl, hb2⟩; rw [hv'.out, hm.out]; have hL2 := Aside0.mk (Loc.on hb2 hLr.out); have hd0 := blk_cell hL2.out.1; have hd1 := blk_cell hL2.out.2.1; replace hx1 := (hb2.eq _ (by rw [hx1]; rfl)).trans hx1; replace hy1 := (hb2.eq _ (by rw [hy1]; rfl)).trans hy1; replace hzc := (hb2.eq _ (by rw [hzc]; rfl)).trans hzc)
                )
              refine Reg.region [(0,.L),(1,.L),(2,.L),(3,.L),(4,.L),(5,.L),(6,.L),(7,.L),(8,.L),(9,.L),(10,.L),(11,.L),(12,.L),(13,.L),(14,.L),(15,.L),(16,.L)] [] (by kernel_rfl) (by kernel_rfl) ?_
              repeat first | refine sP ?_ | refine sS ?_ | refine sA ?_ | refine sL ?_ | refine sQ ?_ | refine sO ?_
              refine Reg.nil fun w5 hS => ?_
              have hO5 := Aside0.mk (pw_own_below hO.out (hb2.trans hS))
              have hL5 := Aside0.mk (Loc.on hS hL2.out)
              clear hd0
              replace hd1 := blk_cell hL5.out.2.1
              replace hy1 := (hS.eq _ (by rw [hy1]; rfl)).trans hy1
              have hfz : w5.frozen? ⟨g0, m, none⟩ = false := own_frozen hO5.out m
              obtain ⟨z0, hz0⟩ := own_some hO5.out m (by omega)
              have hgl := Aside0.mk (show w.heap.size + 1 + 1 ≤ g0 from own_base hO5.out g0 rfl)
              clear hb0 hb1 hzc
              go_wp2
              have hn : nxt z f.2[k] g.2[k] = some (z.set m g.2[k]) := by unfold nxt; rw [hv'.out, if_pos rfl, hget.out, if_neg (by have := hc.out; omega), hm.out]; rfl
              refine ⟨⟨k + 1, z.set m g.2[k], by omega, by go_num, ⟨by rw [← hst.out, hn]; rfl⟩, ⟨by rw [List.length_set]; exact hz.out.1, inR_set hz.out.2 hgd.out⟩, ⟨?_⟩, ⟨Reg.On.set (hB.out.trans (hb2.trans hS)) (by rw [hsx.out]; exact hgl.out) _⟩⟩, by simp [intOf]; omega⟩
              rw [← flat_setM]
              exact (hO5.out.stored m (.int .i64 g.2[k])).1
            · have hb1 : ((z[m]'hmz.out) != 10) = true := by simp [bne]; exact h10
              have hb0 : ((z[m]'hmz.out) == 10) = false := by simpa using h10
              by_cases hq : z[m]'hmz.out = g.2[k]
              · have hq2 : ((z[m]'hmz.out) != g.2[k]) = false := by simp [bne, hq]
                have hq3 : ((z[m]'hmz.out) == g.2[k]) = true := by simp [hq]
                have hc := Aside0.mk (show z[m]'hmz.out = 10 ∨ z[m]'hmz.out = g.2[k] from .inr hq)
                clear h10 hq
                go_wp2_with (
                  (go_at_call 87; refine (NullNumber_calls _ _ hbd.1).mono ?_; rintro e w2 ⟨rfl, hb2⟩; rw [hv'.out, hm.out]; have hL2 := Aside0.mk (Loc.on hb2 hLr.out); have hd0 := blk_cell hL2.out.1; have hd1 := blk_cell hL2.out.2.1; replace hx1 := (hb2.eq _ (by rw [hx1]; rfl)).trans hx1; replace hy1 := (hb2.eq _ (by rw [hy1]; rfl)).trans hy1; replace hzc := (hb2.eq _ (by rw [hzc]; rfl)).trans hzc)
                  )
                refine Reg.region [(0,.L),(1,.L),(2,.L),(3,.L),(4,.L),(5,.L),(6,.L),(7,.L),(8,.L),(9,.L),(10,.L),(11,.L),(12,.L),(13,.L),(14,.L),(15,.L),(16,.L)] [] (by kernel_rfl) (by kernel_rfl) ?_
                repeat first | refine sP ?_ | refine sS ?_ | refine sA ?_ | refine sL ?_ | refine sQ ?_ | refine sO ?_
                refine Reg.nil fun w5 hS => ?_
                have hO5 := Aside0.mk (pw_own_below hO.out (hb2.trans hS))
                have hL5 := Aside0.mk (Loc.on hS hL2.out)
                clear hd0
                replace hd1 := blk_cell hL5.out.2.1
                replace hy1 := (hS.eq _ (by rw [hy1]; rfl)).trans hy1
                have hfz : w5.frozen? ⟨g0, m, none⟩ = false := own_frozen hO5.out m
                obtain ⟨z0, hz0⟩ := own_some hO5.out m (by omega)
                have hgl := Aside0.mk (show w.heap.size + 1 + 1 ≤ g0 from own_base hO5.out g0 rfl)
                clear hb0 hb1 hq2 hq3 hzc
                go_wp2
                have hn : nxt z f.2[k] g.2[k] = some (z.set m g.2[k]) := by unfold nxt; rw [hv'.out, if_pos rfl, hget.out, if_neg (by have := hc.out; omega), hm.out]; rfl
                refine ⟨⟨k + 1, z.set m g.2[k], by omega, by go_num, ⟨by rw [← hst.out, hn]; rfl⟩, ⟨by rw [List.length_set]; exact hz.out.1, inR_set hz.out.2 hgd.out⟩, ⟨?_⟩, ⟨Reg.On.set (hB.out.trans (hb2.trans hS)) (by rw [hsx.out]; exact hgl.out) _⟩⟩, by simp [intOf]; omega⟩
                rw [← flat_setM]
                exact (hO5.out.stored m (.int .i64 g.2[k])).1
              · have hq2 : ((z[m]'hmz.out) != g.2[k]) = true := by simp [bne]; exact hq
                have hq3 : ((z[m]'hmz.out) == g.2[k]) = false := by simpa using hq
                have hc := Aside0.mk (show z[m]'hmz.out ≠ 10 ∧ z[m]'hmz.out ≠ g.2[k] from ⟨h10, hq⟩)
                clear h10 hq
                go_wp2_with (
                  (go_at_call 87; refine (NullNumber_calls _ _ hbd.1).mono ?_; rintro e w2 ⟨rfl, hb2⟩; rw [hv'.out, hm.out]; have hL2 := Aside0.mk (Loc.on hb2 hLr.out); have hd0 := blk_cell hL2.out.1; have hd1 := blk_cell hL2.out.2.1; replace hx1 := (hb2.eq _ (by rw [hx1]; rfl)).trans hx1; replace hy1 := (hb2.eq _ (by rw [hy1]; rfl)).trans hy1; replace hzc := (hb2.eq _ (by rw [hzc]; rfl)).trans hzc)
                  )
                refine Reg.region [(0,.L),(1,.L),(2,.L),(3,.L),(4,.L),(5,.L),(6,.L),(7,.L),(8,.L),(9,.L),(10,.L),(11,.L),(12,.L),(13,.L),(14,.L),(15,.L),(16,.L)] [] (by kernel_rfl) (by kernel_rfl) ?_
                repeat first | refine sP ?_ | refine sS ?_ | refine sA ?_ | refine sL ?_ | refine sQ ?_ | refine sO ?_
                refine Reg.nil fun w5 hS => ?_
                clear hb0 hb1 hq2 hq3 hzc
                go_wp2
                go_ret2
                have hn : nxt z f.2[k] g.2[k] = none := by unfold nxt; rw [hv'.out, if_pos rfl, hget.out, if_pos hc.out]
                have hno : fit f g x = none := by rw [hfit.out, ← hst.out, hn]; rfl
                exact ⟨_, rfl, .slice A2 x.length c2, by rw [hno]; rfl, fun y hy => (by rw [hno] at hy; cases hy), hBr.out.trans (hb2.trans hS)⟩
        · have hfin := Aside0.mk (show fit f g x = some z by rw [hfit.out, ← hp.out, List.drop_of_length_le (by omega)]; rfl)
          go_wp2
          go_ret2
          refine ⟨_, rfl, .slice (some ⟨g0, 0, none⟩) x.length c3, by rw [hfin.out]; rfl, fun y hy => ?_, hBr.out⟩
          rw [hfin.out] at hy
          obtain rfl : z = y := Option.some.inj hy
          refine ⟨?_, hz.out.2, hz.out.1.trans hx'.out⟩
          have h3 := own_lower hO.out (show w.heap.size ≤ w.heap.size + 1 + 1 by omega)
          unfold OI
          rw [hz.out.1]
          exact h3
    · have hlb : ((f.2.length : Int) == (g.2.length : Int)) = false := by rw [beq_eq_false_iff_ne]; omega
      have hlc : ((f.2.length : Int) != (g.2.length : Int)) = true := by simp [bne, hlb]
      have hld : (f.2.length == g.2.length) = false := by simpa using hl
      have hno := Aside0.mk (show fit f g x = none by unfold fit; rw [if_pos (.inr hl)])
      clear hl
      go_enter Tryz.func77, Tryz.ntmps77
      go_wp2
      go_ret2
      exact ⟨_, rfl, .slice A2 x.length c2, by rw [hno.out]; rfl, fun y hy => (by rw [hno.out] at hy; cases hy), hb.out⟩
  · have hrb : (f.1 == g.1) = false := by simpa using hr
    have hrc : (f.1 != g.1) = true := by simp [bne, hrb]
    have hno := Aside0.mk (show fit f g x = none by unfold fit; rw [if_pos (.inl hr)])
    clear hr
    go_enter Tryz.func77, Tryz.ntmps77
    go_wp2
    go_ret2
    exact ⟨_, rfl, .slice A2 x.length c2, by rw [hno.out]; rfl, fun y hy => (by rw [hno.out] at hy; cases hy), hb.out⟩
end Go.Proofs.YtgemaohdlibboaaGreat.H
/- Rows of substitutions: their headers, own rows apart, append. No condition. -/
namespace Go.Proofs.YtgemaohdlibboaaGreat.H
open Go Go.RowKit Go.Proofs.YtgemaohdlibboaaGreatW.PrintWords Go.Proofs.YtgemaohdlibboaaGreatW.PrintLast
open Go.Proofs.YtgemaohdlibboaaGreat.Reg (On on_draw)
set_option maxHeartbeats 4000000
set_option maxRecDepth 100000
set_option linter.unusedVariables false
set_option linter.unusedSimpArgs false

abbrev Sli := Option Addr × Nat × Nat
abbrev SHd := Sli × Sli
abbrev Su := List Int × List Int
abbrev slV (h : Sli) : Value := .slice h.1 h.2.1 h.2.2
abbrev encSb (h : SHd) : List Value := [slV h.1, slV h.2]
abbrev OS (w : World) (lo : Nat) (v : Value) (hs : List SHd) : Prop := w.ownsRow lo 32 2 v hs.length (hs.flatMap encSb)
theorem infoSu : (Tryz.prog.info? 32).map (fun i => (i.zero, i.size, i.bytes)) = some (some (.agg #[.slice none 0 0, .slice none 0 0]), 2, 48) := by kernel_rfl
/-- A substitution's two rows as two facts (of relation 0). -/
def flH (hs : List SHd) : List Hdr := hs.flatMap fun h => [((0 : Int), h.1), ((0 : Int), h.2)]
def flF (ss : List Su) : List Fct := ss.flatMap fun s => [((0 : Int), s.1), ((0 : Int), s.2)]
theorem flH_append (a b : List SHd) : flH (a ++ b) = flH a ++ flH b := List.flatMap_append
theorem flF_append (a b : List Su) : flF (a ++ b) = flF a ++ flF b := List.flatMap_append
/-- Substitutions whose rows are the call's own and lie apart. -/
structure SepS (w : World) (lo : Nat) (hs : List SHd) (ss : List Su) : Prop where
  len : hs.length = ss.length
  sep : Sep w lo (flH hs) (flF ss)
theorem SepS.nil (w : World) (lo : Nat) : SepS w lo [] [] := ⟨rfl, Sep.nil _ _⟩
theorem SepS.on {W w : World} {lo : Nat} {hs : List SHd} {ss : List Su} (h : SepS W lo hs ss) (hb : On W w) : SepS w lo hs ss := ⟨h.len, h.sep.on hb⟩
theorem SepS.lower {w : World} {lo lo' : Nat} {hs : List SHd} {ss : List Su} (h : SepS w lo hs ss) (hl : lo' ≤ lo) : SepS w lo' hs ss := ⟨h.len, h.sep.lower hl⟩
theorem SepS.set {W : World} {lo : Nat} {hs : List SHd} {ss : List Su} (h : SepS W lo hs ss) {p : Addr} (hp : p.block < lo) (u : Value) : SepS (W.setCell p u) lo hs ss := ⟨h.len, h.sep.set hp u⟩
theorem Sep.append {W w : World} {lo lo2 : Nat} {hs hs' : List Hdr} {fs fs' : List Fct} (h : Sep W lo hs fs) (h' : Sep w lo2 hs' fs') (hb : On W w) (hl : lo ≤ lo2) (h2 : W.heap.size ≤ lo2) : Sep w lo (hs ++ hs') (fs ++ fs') := by
  have hlen := h.len
  refine ⟨by rw [List.length_append, List.length_append, h.len, h'.len], fun i a f ha hf => ?_, fun i j a b k ha hb' h1 h3 => ?_⟩
  · rcases Nat.lt_or_ge i hs.length with hi | hi
    · rw [List.getElem?_append_left hi] at ha
      rw [List.getElem?_append_left (by omega)] at hf
      exact (h.on hb).at_ i a f ha hf
    · rw [List.getElem?_append_right hi] at ha
      rw [List.getElem?_append_right (by omega), ← hlen] at hf
      exact (h'.lower hl).at_ _ a f ha hf
  · rcases Nat.lt_or_ge i hs.length with hi | hi <;> rcases Nat.lt_or_ge j hs.length with hj | hj
    · rw [List.getElem?_append_left hi] at ha
      rw [List.getElem?_append_left hj] at hb'
      exact h.apart i j a b k ha hb' h1 h3
    · rw [List.getElem?_append_left hi] at ha
      rw [List.getElem?_append_right hj] at hb'
      have e1 := (h.lt ha h1).2
      have e2 := (h'.lt hb' h3).1
      omega
    · rw [List.getElem?_append_right hi] at ha
      rw [List.getElem?_append_left hj] at hb'
      have e1 := (h'.lt ha h1).1
      have e2 := (h.lt hb' h3).2
      omega
    · rw [List.getElem?_append_right hi] at ha
      rw [List.getElem?_append_right hj] at hb'
      have := h'.apart _ _ a b k ha hb' h1 h3
      omega
theorem SepS.append {W w : World} {lo lo2 : Nat} {hs hs' : List SHd} {ss ss' : List Su} (h : SepS W lo hs ss) (h' : SepS w lo2 hs' ss') (hb : On W w) (hl : lo ≤ lo2) (h2 : W.heap.size ≤ lo2) : SepS w lo (hs ++ hs') (ss ++ ss') :=
  ⟨by rw [List.length_append, List.length_append, h.len, h'.len], by rw [flH_append, flF_append]; exact h.sep.append h'.sep hb hl h2⟩
theorem SepS.one {w : World} {lo : Nat} {a b : Sli} {ns vs : List Int} (h1 : OI w lo (slV a) ns) (h2 : OI w lo (slV b) vs) (r1 : InR ns) (r2 : InR vs) (hne : ∀ k, (slV a).ownBlock = some k → (slV b).ownBlock = some k → False) : SepS w lo [(a, b)] [(ns, vs)] := by
  refine ⟨rfl, ⟨rfl, fun i x f hx hf => ?_, fun i j x y k hx hy e1 e2 => ?_⟩⟩
  · match i with
    | 0 => obtain rfl := Option.some.inj hx; obtain rfl := Option.some.inj hf; exact ⟨rfl, h1, r1⟩
    | 1 => obtain rfl := Option.some.inj hx; obtain rfl := Option.some.inj hf; exact ⟨rfl, h2, r2⟩
    | i + 2 => simp [flH] at hx
  · match i, j with
    | 0, 0 => rfl
    | 1, 1 => rfl
    | 0, 1 => obtain rfl := Option.some.inj hx; obtain rfl := Option.some.inj hy; exact (hne k e1 e2).elim
    | 1, 0 => obtain rfl := Option.some.inj hx; obtain rfl := Option.some.inj hy; exact (hne k e2 e1).elim
    | i + 2, _ => simp [flH] at hx
    | _, j + 2 => simp [flH] at hy
structure RSm (w : World) (A : Option Addr) (c : Nat) (hs : List SHd) : Prop where
  cap : hs.length ≤ c
  max : hs.length ≤ 9223372036854775807
  cell : ∀ j u, (hs.flatMap encSb)[j]? = some u → ∃ ad, A = some ad ∧ w.cell? (ad.add j) = some u
theorem RSm.on {W w : World} {A : Option Addr} {c : Nat} {hs : List SHd} (h : RSm W A c hs) (hb : On W w) : RSm w A c hs := ⟨h.cap, h.max, fun j u hu => by
  obtain ⟨ad, e, hc⟩ := h.cell j u hu
  exact ⟨ad, e, (hb.eq _ (by rw [hc]; rfl)).trans hc⟩⟩
theorem OS.slice {w : World} {lo : Nat} {v : Value} {hs : List SHd} (h : OS w lo v hs) : ∃ A c, v = .slice A hs.length c ∧ RSm w A c hs := by
  obtain ⟨A, c, rfl⟩ := own_slice h
  obtain ⟨h1, h2⟩ := own_capmax h
  refine ⟨A, c, rfl, h1, h2, fun j u hu => ?_⟩
  rcases h.2 with ⟨h1, h3⟩ | ⟨g, cap, cur, h1, _⟩
  · obtain rfl : hs = [] := List.eq_nil_of_length_eq_zero h3
    simp at hu
  · injection h1 with h1 h5 h6
    subst h1
    exact ⟨_, rfl, h.cells rfl j u hu⟩
theorem lit_Sb (W : World) (a b : Sli) : OS (W.alloc (.cells #[slV a, slV b] 32 (0, 0))) W.heap.size (.slice (some ⟨W.heap.size, 0, none⟩) 1 1) [(a, b)] :=
  lit_own W #[slV a, slV b] 32 2 1 W.heap.size (Nat.le_refl _) (by omega) rfl
section
variable {ops : Array Oper} {rest : List Oper} {o : Oper} {a : Act} {Q : Exit → Act → World → Prop} {W : World}
theorem apS (N : Tmp) {s x : Operand} {v : Value} {A : Option Addr} {c base : Nat} {xs ys zs : List SHd} (hz : xs ++ ys = zs)
    (HO : OS W base v xs) (HR : RSm W A c ys) (hbase : base ≤ W.heap.size) (hl : xs.length + ys.length ≤ 1000000000)
    (h : ∀ v1 w1, OS w1 base v1 zs → W.grownBy w1 v.ownBlock → wpList Tryz.prog ops Q rest (a.put (some N) v1) w1)
    (hop : o.op = .call { callee := .builtin .append, args := #[s, x], argTypes := #[35, 35] } := by rfl)
    (hd : o.dst = some N := by rfl) (hg : o.guard = none := by rfl) (hs : a.eval s = v := by rfl) (hx : a.eval x = .slice A ys.length c := by rfl) : wpList Tryz.prog ops Q (o :: rest) a W := by
  subst hz
  obtain ⟨i0, hi, hzz⟩ := Option.map_eq_some_iff.1 infoSu
  simp only [Prod.mk.injEq] at hzz
  obtain ⟨hz0, hz1, hz2⟩ := hzz
  have hnil : ys = [] → wpList Tryz.prog ops Q (o :: rest) a W := by
    rintro rfl
    rw [List.append_nil] at h
    cases A with
    | none => exact ap_none N Tryz.underlying35 infoSu HO (h v W HO (World.grownBy.refl W _)) hop hd hg hs hx
    | some ad =>
      refine wpList_append_own_at W hg s x 35 hop base 32 i0 _ 2 48 Tryz.underlying35 hi hz0 hz1 hz2 rfl (by omega) v xs.length _ hs HO ad 0 c [] hx rfl (by simp) (by simp) (by simp at hl; simp [maxLen]; omega) (by simp at hl; omega) hbase fun v1 w1 h1 h2 _ _ => ?_
      rw [hd]
      exact h v1 w1 (by simpa using h1) h2
  cases A with
  | none =>
    refine hnil ?_
    cases ys with
    | nil => rfl
    | cons y ys => obtain ⟨_, e, _⟩ := HR.cell 0 _ rfl; cases e
  | some ad =>
    refine wpList_append_own_at W hg s x 35 hop base 32 i0 _ 2 48 Tryz.underlying35 hi hz0 hz1 hz2 rfl (by omega) v xs.length _ hs HO ad ys.length c (ys.flatMap encSb) hx (flat_len (enc := encSb) (sz := 2) (fun _ => rfl) ys) (fun j u hu => ?_) (fun u hu => ?_) (by simp [maxLen]; omega) (by omega) hbase fun v1 w1 h1 h2 _ _ => ?_
    · obtain ⟨ad', e, hc⟩ := HR.cell j u hu
      injection e with e; subst e; exact hc
    · obtain ⟨y, _, hy⟩ := List.mem_flatMap.1 hu
      simp only [List.mem_cons, List.not_mem_nil, or_false] at hy
      rcases hy with rfl | rfl <;> rfl
    · rw [hd]
      refine h v1 w1 ?_ h2
      have e : (xs ++ ys).flatMap encSb = xs.flatMap encSb ++ ys.flatMap encSb := List.flatMap_append
      show World.ownsRow _ _ _ _ _ (xs ++ ys).length _
      rw [e, List.length_append]
      exact h1
end
end Go.Proofs.YtgemaohdlibboaaGreat.H
/- Walks: the reference's search: a binding told as a substitution. No condition. -/
namespace Go.Proofs.YtgemaohdlibboaaGreat.H
open Go Go.RowKit Go.Proofs.YtgemaohdlibboaaGreatW.PrintWords Go.Proofs.YtgemaohdlibboaaGreatW.PrintLast
open Go.Proofs.YtgemaohdlibboaaGreat.Reg (On on_draw)
set_option maxHeartbeats 4000000
set_option maxRecDepth 100000
set_option linter.unusedVariables false
set_option linter.unusedSimpArgs false

theorem subI_inR : ∀ (l : List Int) (k : Nat), InR l → k + l.length ≤ 1000000 → InR (subI k l).1 ∧ InR (subI k l).2
  | [], k, _, _ => ⟨fun x hx => by simp [subI] at hx, fun x hx => by simp [subI] at hx⟩
  | v :: l, k, h, hk => by
    have ih := subI_inR l (k + 1) (fun x hx => h x (List.mem_cons_of_mem _ hx)) (by simp at hk; omega)
    rw [subI_cons]
    split
    · exact ih
    · simp at hk
      exact ⟨fun x hx => by
        rcases List.mem_cons.1 hx with rfl | hx
        · omega
        · exact ih.1 x hx, fun x hx => by
        rcases List.mem_cons.1 hx with rfl | hx
        · exact h _ List.mem_cons_self
        · exact ih.2 x hx⟩
/-- Two rows of one's own in different blocks. -/
def Ap (u v : Value) : Prop := ∀ k, u.ownBlock = some k → v.ownBlock = some k → False
theorem l7Base_calls (w : World) (A0 m0 c0 A1 c1 A2 m2 c2 A3 c3 A4 c4) (fs gs : List Fct) (x : List Int) (n : Nat) (most : Int) (h1 : Fcts w A1 c1 fs) (h3 : Fcts w A3 c3 gs) (h4 : Ints w A4 c4 x) (hx : x.length = 40) (hn : n = fs.length) :
    Calls Tryz.prog 46 #[.agg #[.slice A0 m0 c0, .slice A1 fs.length c1], .agg #[.slice A2 m2 c2, .slice A3 gs.length c3], .int .i64 n, .slice A4 x.length c4, .int .i64 most] w (Got fun v w' => ∃ hs, OS w' w.heap.size v hs ∧ SepS w' w.heap.size hs [subI 0 x] ∧ On w w') := by
  subst hn
  have hmax := h1.max
  have hx' := Aside0.mk hx
  clear hx
  have hmx := h4.max
  have hb := Aside0.mk (On.alloc (On.alloc (On.refl w) (.cells #[.slice A0 m0 c0, .slice A1 fs.length c1] 27)) (.cells #[.slice A2 m2 c2, .slice A3 gs.length c3] 27))
  have hL := Aside0.mk (loc2 w #[.slice A0 m0 c0, .slice A1 fs.length c1] #[.slice A2 m2 c2, .slice A3 gs.length c3] 27 27)
  have hsx := Aside0.mk (show ((w.alloc (.cells #[.slice A0 m0 c0, .slice A1 fs.length c1] 27)).alloc (.cells #[.slice A2 m2 c2, .slice A3 gs.length c3] 27)).heap.size = w.heap.size + 1 + 1 by simp)
  have hfill := alloc_fill ((w.alloc (.cells #[.slice A0 m0 c0, .slice A1 fs.length c1] 27)).alloc (.cells #[.slice A2 m2 c2, .slice A3 gs.length c3] 27))
  go_enter Tryz.func46, Tryz.ntmps46
  go_wp2
  clear hfill
  obtain ⟨Wx, hWx⟩ : ∃ Wx, (w.alloc (.cells #[.slice A0 m0 c0, .slice A1 fs.length c1] 27)).alloc (.cells #[.slice A2 m2 c2, .slice A3 gs.length c3] 27) = Wx := ⟨_, rfl⟩
  rw [hWx] at hb hL hsx ⊢
  clear hWx
  have hyb := Aside0.mk (show (Wx.alloc (.cells #[.slice none 0 0, .slice none 0 0] 32)).heap[w.heap.size + 1 + 1]? = some (.cells #[.slice none 0 0, .slice none 0 0] 32 (0, 0)) from by have h := loc_new Wx #[.slice none 0 0, .slice none 0 0] 32; rw [hsx.out] at h; exact h)
  have hBy := Aside0.mk (On.alloc (On.refl Wx) (.cells #[.slice none 0 0, .slice none 0 0] 32))
  have hsy := Aside0.mk (show (Wx.alloc (.cells #[.slice none 0 0, .slice none 0 0] 32)).heap.size = w.heap.size + 3 by simp [hsx.out])
  obtain ⟨Wy, hWy⟩ : ∃ Wy, Wx.alloc (.cells #[.slice none 0 0, .slice none 0 0] 32) = Wy := ⟨_, rfl⟩
  rw [hWy] at hyb hBy hsy ⊢
  clear hWy
  go_loopw [12] (fun v wr => ∃ (k : Nat) (ns vs : List Int) (A : Option Addr) (c : Nat) (B : Option Addr) (d : Nat), k ≤ x.length ∧ v = .int .i64 k ∧ Aside0 (subI 0 (x.take k) = (ns, vs)) ∧ Aside0 (OI wr (w.heap.size + 3) (.slice A ns.length c) ns) ∧ Aside0 (OI wr (w.heap.size + 3) (.slice B vs.length d) vs) ∧ Aside0 (Ap (.slice A ns.length c) (.slice B vs.length d)) ∧ Aside0 (w.heap.size + 3 ≤ wr.heap.size) ∧ Aside0 (Ex (fun b => w.heap.size + 2 ≤ b) Wx wr) ∧ wr.heap[w.heap.size + 1 + 1]? = some (.cells #[.slice A ns.length c, .slice B vs.length d] 32 (0, 0))) (fun v _ => x.length - (intOf v).toNat)
  case atStart => exact ⟨0, [], [], none, 0, none, 0, Nat.zero_le _, rfl, ⟨rfl⟩, ⟨World.ownsRow_nil _ _ _ _⟩, ⟨World.ownsRow_nil _ _ _ _⟩, ⟨fun k h => by cases h⟩, ⟨by rw [hsy.out]; exact Nat.le_refl _⟩, ⟨Ex.of_on hBy.out⟩, hyb.out⟩
  case round =>
    obtain ⟨k, ns, vs, A, c, B, d, hk, rfl, hsu, hOA, hOB, hAp, hsz, hE, hyr⟩ := hrel
    have hBx := Aside0.mk (Ex.to_on hE.out (fun i hi => by rw [hsx.out]; exact hi))
    have hBr := Aside0.mk (hb.out.trans hBx.out)
    have hle := Aside0.mk (show ns.length = vs.length ∧ ns.length ≤ 40 by
      have h := subI_len 0 (x.take k)
      rw [hsu.out] at h
      simp only at h
      have h2 : (x.take k).length ≤ 40 := by rw [List.length_take, hx'.out]; omega
      exact ⟨h.1, by omega⟩)
    have hcy := blk_cell hyr
    have hy' := Aside0.mk hyr
    clear hyr
    by_cases hlt : k < x.length
    · obtain ⟨ad, rfl, hxc⟩ := (h4.on hBr.out).at k hlt
      have hbd := Aside0.mk (h4.bd k hlt)
      have hsucc := Aside0.mk (subI_succ x k hlt)
      by_cases h10 : x[k] = 10
      · have hq2 : (x[k] != 10) = false := by simp [bne, h10]
        have hq3 : (x[k] == 10) = true := by simp [h10]
        have h10' := Aside0.mk h10
        clear h10
        go_wp2
        exact ⟨⟨k + 1, ns, vs, A, c, B, d, by omega, by go_num, ⟨by rw [hsucc.out, if_pos h10'.out]; exact hsu.out⟩, hOA, hOB, hAp, hsz, hE, hy'.out⟩, by simp [intOf]; omega⟩
      · have hq2 : (x[k] != 10) = true := by simp [bne]; exact h10
        have hq3 : (x[k] == 10) = false := by simpa using h10
        have h10' := Aside0.mk h10
        clear h10
        go_wp2_with (refine gate 38 ?_)
        obtain ⟨zs, hz⟩ : ∃ zs, ns ++ [(k : Int)] = zs := ⟨_, rfl⟩
        have hz' := Aside0.mk hz
        clear hq2 hq3
        have hBl := Aside0.mk (On.alloc (On.refl wr) (.cells #[.int .i64 (k : Int)] 3))
        refine ⟨apI 38 hz (OI.to (pw_own_below hOA.out hBl.out)) (lit_RI (by have := hx'.out; omega) (On.refl _)) (Nat.le_trans hsz.out hBl.out.size) (by have := hle.out; omega) fun v6 w6 hO6' hg6 hat6 => ?_⟩
        have hO6 := OI.of hO6'
        obtain ⟨A6, c6, rfl⟩ := own_slice hO6
        have hgy : some (w.heap.size + 1 + 1) ≠ Value.ownBlock (.slice A ns.length c) := fun e => by have := own_base hOA.out _ e.symm; omega
        have hk6 := blk_grown hg6 (blk_below hy'.out hBl.out) hgy
        have hcy6 := blk_cell hk6
        have hf6 := blk_frozen hk6
        have hk6' := Aside0.mk hk6
        have hB6 := Aside0.mk (own_ex (pw_own_below hOB.out hBl.out) (Ex.of_grown hg6) (fun i hi e => hAp.out i e.symm hi))
        have hE6 := Aside0.mk ((hE.out.then_on hBl.out).trans (Ex.of_grown hg6) (fun i _ e => by have := own_base (pw_own_below hOA.out hBl.out) i e.symm; omega))
        have hs6 := Aside0.mk (Nat.le_trans (Nat.le_trans hsz.out hBl.out.size) hg6.size)
        have hAp6 := Aside0.mk (show Ap (.slice A6 zs.length c6) (.slice B vs.length d) from fun j h1 h2 => by
          rcases hat6 with e | ⟨b, e, hge⟩
          · rw [e] at h1; exact hAp.out j h1 h2
          · rw [e] at h1
            obtain rfl : b = j := Option.some.inj h1
            have h5 := own_lt hOB.out _ h2
            have h6 := hBl.out.size
            omega)
        have hO6a := Aside0.mk hO6
        clear hk6 hgy hcy hz hat6 hO6' hO6 hg6 hxc
        go_wp2
        clear hcy6 hf6
        have hk7 := Aside0.mk (blk_set hk6'.out 0 (.slice A6 zs.length c6))
        have hA7 := Aside0.mk (ownsRow_setCell_below hO6a.out (a := ⟨w.heap.size + 1 + 1, 0, none⟩) (by simp) (.slice A6 zs.length c6))
        have hB7 := Aside0.mk (ownsRow_setCell_below hB6.out (a := ⟨w.heap.size + 1 + 1, 0, none⟩) (by simp) (.slice A6 zs.length c6))
        have hE7 := Aside0.mk (hE6.out.trans (Ex.set w6 ⟨w.heap.size + 1 + 1, 0, none⟩ (.slice A6 zs.length c6)) (fun i _ e => by have h : i = w.heap.size + 1 + 1 := e; omega))
        have hs7 := Aside0.mk (show w.heap.size + 3 ≤ (w6.setCell ⟨w.heap.size + 1 + 1, 0, none⟩ (.slice A6 zs.length c6)).heap.size by have := hs6.out; simp [World.setCell]; omega)
        obtain ⟨w7, hw7⟩ : ∃ w7, w6.setCell ⟨w.heap.size + 1 + 1, 0, none⟩ (.slice A6 zs.length c6) = w7 := ⟨_, rfl⟩
        rw [hw7] at hk7 hA7 hB7 hE7 hs7 ⊢
        clear hw7
        have hBw := Aside0.mk (hb.out.trans (Ex.to_on hE7.out (fun i hi => by rw [hsx.out]; exact hi)))
        obtain ⟨ad', e', hxc⟩ := (h4.on hBw.out).at k hlt
        obtain rfl : ad = ad' := by simpa using e'
        clear e'
        have hc7 := blk_cell (show w7.heap[w.heap.size + 1 + 1]? = some (.cells #[.slice A6 zs.length c6, .slice B vs.length d] 32 (0, 0)) from hk7.out)
        refine Reg.region [(0,.L),(1,.L),(2,.L),(3,.L),(4,.L),(5,.L),(6,.N)] [7,8,9] (by kernel_rfl) (by kernel_rfl) ?_
        repeat first | refine sP ?_ | refine sS ?_ | refine sA ?_ | refine sL ?_ | refine sQ ?_ | refine sO ?_
        refine stepM (fun w8 hS8 => ?_)
        go_wp2
        refine ⟨hS8.trans (On.alloc (On.refl _) _), ?_⟩
        refine Reg.tail_ fun w9 hS9 => ?_
        have hB9 := Aside0.mk ((hS8.trans (On.alloc (On.refl _) _)).trans hS9)
        have hO9 := Aside0.mk (pw_own_below hB7.out hB9.out)
        obtain ⟨us, hu⟩ : ∃ us, vs ++ [x[k]] = us := ⟨_, rfl⟩
        have hu' := Aside0.mk hu
        refine apI 47 hu (OI.to hO9.out) (lit_RI hbd.out hS9) (Nat.le_trans hs7.out hB9.out.size) (by have := hle.out; omega) fun v10 w10 hO10' hg10 hat10 => ?_
        have hO10 := OI.of hO10'
        obtain ⟨B10, d10, rfl⟩ := own_slice hO10
        have hgy : some (w.heap.size + 1 + 1) ≠ Value.ownBlock (.slice B vs.length d) := fun e => by have := own_base hOB.out _ e.symm; omega
        have hk10 := blk_grown hg10 (blk_below (show w7.heap[w.heap.size + 1 + 1]? = some (.cells #[.slice A6 zs.length c6, .slice B vs.length d] 32 (0, 0)) from hk7.out) hB9.out) hgy
        have hcy10 := blk_cell hk10
        have hf10 := blk_frozen hk10
        have hk10' := Aside0.mk hk10
        have hA10 := Aside0.mk (own_ex (pw_own_below hA7.out hB9.out) (Ex.of_grown hg10) (fun i hi e => hAp6.out i hi e.symm))
        have hE10 := Aside0.mk ((hE7.out.then_on hB9.out).trans (Ex.of_grown hg10) (fun i _ e => by have := own_base hO9.out i e.symm; omega))
        have hs10 := Aside0.mk (Nat.le_trans (Nat.le_trans hs7.out hB9.out.size) hg10.size)
        have hAp10 := Aside0.mk (show Ap (.slice A6 zs.length c6) (.slice B10 us.length d10) from fun j h1 h2 => by
          rcases hat10 with e | ⟨b, e, hge⟩
          · rw [e] at h2; exact hAp6.out j h1 h2
          · rw [e] at h2
            obtain rfl : b = j := Option.some.inj h2
            have h5 := own_lt hA7.out _ h1
            have h6 := hB9.out.size
            omega)
        have hO10a := Aside0.mk hO10
        clear hk10 hgy hc7 hu hat10 hO10' hO10 hg10 hxc
        go_wp2
        refine ⟨⟨k + 1, zs, us, A6, c6, B10, d10, by omega, by go_num, ⟨?_⟩, ⟨ownsRow_setCell_below hA10.out (by simp) _⟩, ⟨ownsRow_setCell_below hO10a.out (by simp) _⟩, hAp10, ⟨by have := hs10.out; simp [World.setCell]; omega⟩, ⟨hE10.out.trans (Ex.set _ _ _) (fun i _ e => by have h : i = w.heap.size + 1 + 1 := e; omega)⟩, blk_set hk10'.out 1 _⟩, by simp [intOf]; omega⟩
        rw [hsucc.out, if_neg h10'.out, hsu.out, ← hz'.out, ← hu'.out]
    · have e1 : x.take k = x := List.take_of_length_le (by omega)
      rw [e1] at hsu
      go_wp2
      go_ret
      have hin := subI_inR x 0 h4.2.2 (by rw [hx'.out]; omega)
      rw [hsu.out] at hin
      have hBl := On.alloc (On.refl wr) (.cells #[.slice A ns.length c, .slice B vs.length d] 32)
      refine ⟨_, rfl, [((A, ns.length, c), (B, vs.length, d))], own_lower (lit_Sb wr (A, ns.length, c) (B, vs.length, d)) (by have := hsz.out; omega), ?_, hBr.out.trans hBl⟩
      rw [hsu.out]
      exact SepS.one (own_lower (pw_own_below hOA.out hBl) (by omega)) (own_lower (pw_own_below hOB.out hBl) (by omega)) hin.1 hin.2 hAp.out
end Go.Proofs.YtgemaohdlibboaaGreat.H
/- Walks: the reference's search for homomorphisms. No condition. -/
namespace Go.Proofs.YtgemaohdlibboaaGreat.H
open Go Go.RowKit Go.Proofs.YtgemaohdlibboaaGreatW.PrintWords Go.Proofs.YtgemaohdlibboaaGreatW.PrintLast
open Go.Proofs.YtgemaohdlibboaaGreat.Reg (On on_draw)
set_option maxHeartbeats 4000000
set_option maxRecDepth 100000
set_option linter.unusedVariables false
set_option linter.unusedSimpArgs false

theorem SepS.grown {w w1 : World} {lo : Nat} {hs zs : List SHd} {ss : List Su} {v : Value} (h : SepS w lo zs ss) (hO : OS w lo v hs) (hg : w.grownBy w1 v.ownBlock) : SepS w1 lo zs ss := by
  refine ⟨h.len, Sep.ex h.sep (Ex.of_grown hg) (fun i a b ha hbk e => ?_)⟩
  have hi : i < (flF ss).length := by rw [← h.sep.len]; exact (List.getElem?_eq_some_iff.1 ha).1
  have hab := (h.sep.at_ i a _ ha (List.getElem?_eq_getElem hi)).2.1
  exact own_ne_blk hab hO (by decide) hbk e.symm
theorem wstep_some {tos fs : List Fct} {f : Fct} {x : List Int} {most : Nat} {out : List (List Int)} {g : Fct} {y : List Int} (h : out.length < most) (hf : fit f g x = some y) : wstep tos fs f x most out g = out ++ walk tos fs y (most - out.length) := by
  unfold wstep; rw [if_pos h, hf]
theorem wstep_none {tos fs : List Fct} {f : Fct} {x : List Int} {most : Nat} {out : List (List Int)} {g : Fct} (h : out.length < most) (hf : fit f g x = none) : wstep tos fs f x most out g = out := by
  unfold wstep; rw [if_pos h, hf]
theorem l7Walk_calls (fs gs : List Fct) (d : Nat) : ∀ (n : Nat), n + d = fs.length → ∀ (w : World) (A0 m0 c0 A1 c1 A2 m2 c2 A3 c3 A4 c4) (x : List Int) (most : Nat) (h1 : Fcts w A1 c1 fs) (h3 : Fcts w A3 c3 gs) (h4 : Ints w A4 c4 x) (hx : x.length = 40) (hp : 1 ≤ most) (hq : most ≤ 1000),
    Calls Tryz.prog 46 #[.agg #[.slice A0 m0 c0, .slice A1 fs.length c1], .agg #[.slice A2 m2 c2, .slice A3 gs.length c3], .int .i64 n, .slice A4 x.length c4, .int .i64 most] w (Got fun v w' => ∃ hs, OS w' w.heap.size v hs ∧ SepS w' w.heap.size hs ((walk gs (fs.drop n) x most).map (subI 0)) ∧ On w w') := by
  induction d with
  | zero =>
    intro n hn w A0 m0 c0 A1 c1 A2 m2 c2 A3 c3 A4 c4 x most h1 h3 h4 hx hp hq
    have e : (walk gs (fs.drop n) x most).map (subI 0) = [subI 0 x] := by rw [List.drop_of_length_le (by omega)]; rfl
    rw [e]
    exact l7Base_calls w A0 m0 c0 A1 c1 A2 m2 c2 A3 c3 A4 c4 fs gs x n most h1 h3 h4 hx (by omega)
  | succ d ih0 =>
    intro n hn w A0 m0 c0 A1 c1 A2 m2 c2 A3 c3 A4 c4 x most h1 h3 h4 hx hp hq
    have ih := Aside0.mk (ih0 (n + 1) (by omega))
    clear ih0
    have hx' := Aside0.mk hx
    clear hx
    have hm1 := h1.max
    have hm3 := h3.max
    have hm4 := h4.max
    have hnf : n < fs.length := by omega
    have hn' := Aside0.mk hn
    have hpq := Aside0.mk (show 1 ≤ most ∧ most ≤ 1000 from ⟨hp, hq⟩)
    have hnb : ((n : Int) == (fs.length : Int)) = false := by rw [beq_eq_false_iff_ne]; omega
    have hnd : (n == fs.length) = false := by rw [beq_eq_false_iff_ne]; omega
    have hwk := Aside0.mk (show walk gs (fs.drop n) x most = gs.foldl (wstep gs (fs.drop (n + 1)) fs[n] x most) [] by rw [List.drop_eq_getElem_cons hnf, walk_cons])
    have hwl := Aside0.mk (fun (y : List Int) (m : Nat) (hm : 1 ≤ m) => walk_len gs (fs.drop (n + 1)) y m hm)
    have hb := Aside0.mk (On.alloc (On.alloc (On.refl w) (.cells #[.slice A0 m0 c0, .slice A1 fs.length c1] 27)) (.cells #[.slice A2 m2 c2, .slice A3 gs.length c3] 27))
    have hL := Aside0.mk (loc2 w #[.slice A0 m0 c0, .slice A1 fs.length c1] #[.slice A2 m2 c2, .slice A3 gs.length c3] 27 27)
    have hsx := Aside0.mk (show ((w.alloc (.cells #[.slice A0 m0 c0, .slice A1 fs.length c1] 27)).alloc (.cells #[.slice A2 m2 c2, .slice A3 gs.length c3] 27)).heap.size = w.heap.size + 1 + 1 by simp)
    clear hn hp hq
    go_enter Tryz.func46, Tryz.ntmps46
    go_wp2
    clear hnb hnd
    obtain ⟨Wx, hWx⟩ : ∃ Wx, (w.alloc (.cells #[.slice A0 m0 c0, .slice A1 fs.length c1] 27)).alloc (.cells #[.slice A2 m2 c2, .slice A3 gs.length c3] 27) = Wx := ⟨_, rfl⟩
    rw [hWx] at hb hL hsx ⊢
    clear hWx
    have hlit := Aside0.mk (lit_own Wx #[] 32 2 0 Wx.heap.size (Nat.le_refl _) (by omega) rfl)
    have hlit2 := hlit.out
    rw [hsx.out] at hlit2
    have hlit3 := Aside0.mk hlit2
    clear hlit2 hlit
    have hwn : IntKind.i64.wrap ((n : Int) + 1) = ((n + 1 : Nat) : Int) := by rw [IntWalk.i64_in _ (by omega)]; omega
    go_loopw [14, 13] (fun v14 v13 wr => ∃ (i : Nat) (hs : List SHd) (A : Option Addr) (c : Nat), i ≤ gs.length ∧ v14 = .int .i64 i ∧ v13 = .slice A hs.length c ∧ Aside0 (OS wr (w.heap.size + 1 + 1) (.slice A hs.length c) hs) ∧ Aside0 (SepS wr (w.heap.size + 1 + 1) hs (((gs.take i).foldl (wstep gs (fs.drop (n + 1)) fs[n] x most) []).map (subI 0))) ∧ Aside0 (w.heap.size + 1 + 1 ≤ wr.heap.size) ∧ Aside0 (On Wx wr)) (fun v14 _ _ => gs.length - (intOf v14).toNat)
    case atStart => exact ⟨0, [], some ⟨w.heap.size + 1 + 1, 0, none⟩, 0, Nat.zero_le _, rfl, rfl, hlit3, ⟨SepS.nil _ _⟩, ⟨by rw [World.size_alloc, hsx.out]; omega⟩, ⟨On.alloc (On.refl _) _⟩⟩
    case round =>
      obtain ⟨i, hs, A, c, hi, rfl, rfl, hO, hS, hsz, hB⟩ := hrel
      have hBr := Aside0.mk (hb.out.trans hB.out)
      have hLr := Aside0.mk (Loc.on hB.out hL.out)
      have hd0 := blk_cell hLr.out.1
      have hd1 := blk_cell hLr.out.2.1
      have hlen := Aside0.mk (show hs.length = ((gs.take i).foldl (wstep gs (fs.drop (n + 1)) fs[n] x most) []).length by have := hS.out.len; rwa [List.length_map] at this)
      have hcm := (own_capmax hO.out).2
      by_cases hlt : i < gs.length
      · by_cases hlm : hs.length < most
        · have hlb : decide ((hs.length : Int) < (most : Int)) = true := decide_eq_true (by omega)
          have hlb2 : decide (hs.length < most) = true := decide_eq_true hlm
          have hsucc := Aside0.mk (wfold_succ gs (fs.drop (n + 1)) fs[n] x most i hlt)
          obtain ⟨ad, A5, c5, rfl, hx0, hx1, hx2⟩ := (h1.on hBr.out).at n hnf
          obtain ⟨bd, A6, c6, rfl, hy0, hy1, hy2⟩ := (h3.on hBr.out).at i hlt
          have hws : IntKind.i64.wrap ((most : Int) - (hs.length : Int)) = ((most - hs.length : Nat) : Int) := by have := hpq.out; rw [IntWalk.i64_in _ (by omega)]; omega
          cases hf : fit fs[n] gs[i] x with
          | none =>
            have hf' := Aside0.mk hf
            clear hf
            go_wp2
            refine Reg.region [(0,.L),(1,.L),(2,.L),(3,.L),(4,.L),(5,.L),(6,.L),(7,.L),(8,.L),(9,.L),(10,.L),(11,.N),(12,.L),(13,.L),(14,.P)] [15,16] (by kernel_rfl) (by kernel_rfl) ?_
            repeat first | refine sP ?_ | refine sS ?_ | refine sA ?_ | refine sL ?_ | refine sQ ?_ | refine sO ?_
            refine callN Tryz.func77 (fun w2 hS2 => ?_)
            refine (l7Fit_calls w2 A5 c5 A6 c6 A4 c4 fs[n] gs[i] x (hx2.on hS2) (hy2.on hS2) (h4.on (hBr.out.trans hS2)) hx'.out).mono ?_
            rintro e w3 ⟨v3, rfl, v4, rfl, hfit, hb3⟩
            rw [hf'.out]
            clear hfit
            refine ⟨_, rfl, hb3, fun a' ha => ?_⟩
            simp only [Act.put, List.setIfInBounds_toArray, List.set_cons_zero, List.set_cons_succ] at ha
            subst ha
            repeat first | refine sP ?_ | refine sS ?_ | refine sA ?_ | refine sL ?_ | refine sQ ?_ | refine sO ?_
            refine Reg.tail_ fun w4 hS4 => ?_
            have hB4 := Aside0.mk (hS2.trans (hb3.trans hS4))
            clear hlb hlb2 hx0 hx1 hy0 hy1
            go_wp2
            refine ⟨⟨i + 1, hs, A, c, by omega, by go_num, rfl, ⟨pw_own_below hO.out hB4.out⟩, ⟨?_⟩, ⟨Nat.le_trans hsz.out hB4.out.size⟩, ⟨hB.out.trans hB4.out⟩⟩, by simp [intOf]; omega⟩
            rw [hsucc.out]
            rw [wstep_none (by have := hlen.out; omega) hf'.out]
            exact hS.out.on hB4.out
          | some y =>
            have hf' := Aside0.mk hf
            clear hf
            go_wp2
            refine Reg.region [(0,.L),(1,.L),(2,.L),(3,.L),(4,.L),(5,.L),(6,.L),(7,.L),(8,.L),(9,.L),(10,.L),(11,.N),(12,.L),(13,.L),(14,.P)] [15,16] (by kernel_rfl) (by kernel_rfl) ?_
            repeat first | refine sP ?_ | refine sS ?_ | refine sA ?_ | refine sL ?_ | refine sQ ?_ | refine sO ?_
            refine callN Tryz.func77 (fun w2 hS2 => ?_)
            refine (l7Fit_calls w2 A5 c5 A6 c6 A4 c4 fs[n] gs[i] x (hx2.on hS2) (hy2.on hS2) (h4.on (hBr.out.trans hS2)) hx'.out).mono ?_
            rintro e w3 ⟨v3, rfl, v4, rfl, hfit, hb3⟩
            obtain ⟨hOy, hRy, hly⟩ := hfit y hf'.out
            obtain ⟨A7, c7, rfl, hIy⟩ := OI.rd hOy hRy
            have hly' := Aside0.mk hly
            clear hly
            rw [hf'.out]
            clear hfit hOy
            refine ⟨_, rfl, hb3, fun a' ha => ?_⟩
            simp only [Act.put, List.setIfInBounds_toArray, List.set_cons_zero, List.set_cons_succ] at ha
            subst ha
            repeat first | refine sP ?_ | refine sS ?_ | refine sA ?_ | refine sL ?_ | refine sQ ?_ | refine sO ?_
            refine Reg.tail_ fun w4 hS4 => ?_
            have hB4 := Aside0.mk (hS2.trans (hb3.trans hS4))
            have hI4 := Aside0.mk (hIy.on hS4)
            have hL4 := Aside0.mk (Loc.on hB4.out hLr.out)
            replace hd0 := blk_cell hL4.out.1
            replace hd1 := blk_cell hL4.out.2.1
            clear hlb hlb2 hx0 hx1 hy0 hy1 hIy
            go_wp2_with (refine gate 91 ?_)
            refine ⟨goesF 91 Tryz.func46 ((ih.out w4 A0 m0 c0 _ c1 A2 m2 c2 _ c3 A7 c7 y (most - hs.length) (h1.on (hBr.out.trans hB4.out)) (h3.on (hBr.out.trans hB4.out)) hI4.out hly'.out (by omega) (by have := hpq.out; omega)).mono ?_)⟩
            rintro e w5 ⟨v5, rfl, hs5, hO5, hS5, hb5⟩
            refine ⟨_, rfl, ?_⟩
            obtain ⟨A8, c8, rfl, hR8⟩ := OS.slice hO5
            have hl5 : hs5.length ≤ most - hs.length := by
              have h1 := hS5.len
              rw [List.length_map] at h1
              have h2 := hwl.out y (most - hs.length) (by omega)
              omega
            obtain ⟨zs, hz⟩ : ∃ zs, hs ++ hs5 = zs := ⟨_, rfl⟩
            have hB5 := Aside0.mk (hB4.out.trans hb5)
            have hO5a := Aside0.mk (pw_own_below hO.out hB5.out)
            have hS5a := Aside0.mk (hS.out.append hS5 hB5.out (Nat.le_trans hsz.out hB4.out.size) hB4.out.size)
            refine apS 92 hz hO5a.out hR8 (Nat.le_trans hsz.out hB5.out.size) (by have := hpq.out; omega) fun v6 w6 hO6 hg6 => ?_
            have hS6 := Aside0.mk (hS5a.out.grown hO5a.out hg6)
            obtain ⟨A6', c6', rfl⟩ := own_slice hO6
            have hB6 := Aside0.mk (own_grows (hB.out.trans hB5.out) hO5a.out hg6 (by rw [hsx.out]; exact Nat.le_refl _))
            have hs6 := Aside0.mk (Nat.le_trans (Nat.le_trans hsz.out hB5.out.size) hg6.size)
            have hO6a := Aside0.mk hO6
            have hz' := Aside0.mk hz
            clear hO6 hg6 hR8 hO5 hS5 hz hd0 hd1 hl5
            go_wp2
            refine ⟨⟨i + 1, zs, A6', c6', by omega, by go_num, rfl, hO6a, ⟨?_⟩, hs6, hB6⟩, by simp [intOf]; omega⟩
            rw [hsucc.out]
            rw [wstep_some (by have := hlen.out; omega) hf'.out, ← hz'.out, ← hlen.out, List.map_append]
            exact hS6.out
        · have hlb : decide ((hs.length : Int) < (most : Int)) = false := decide_eq_false (by omega)
          have hlb2 : decide (hs.length < most) = false := decide_eq_false hlm
          have hend := Aside0.mk (wfold_stop gs (fs.drop (n + 1)) fs[n] x most i (by have := hlen.out; omega))
          go_wp2
          go_ret
          exact ⟨_, rfl, hs, own_lower hO.out (by omega), by rw [hwk.out, hend.out]; exact hS.out.lower (by omega), hBr.out⟩
      · have e1 : gs.take i = gs := List.take_of_length_le (by omega)
        rw [e1] at hS
        go_wp2
        go_ret
        exact ⟨_, rfl, hs, own_lower hO.out (by omega), by rw [hwk.out]; exact hS.out.lower (by omega), hBr.out⟩
end Go.Proofs.YtgemaohdlibboaaGreat.H
/- Walks: the reference's homomorphisms. No condition. -/
namespace Go.Proofs.YtgemaohdlibboaaGreat.H
open Go Go.RowKit Go.Proofs.YtgemaohdlibboaaGreatW.PrintWords Go.Proofs.YtgemaohdlibboaaGreatW.PrintLast
open Go.Proofs.YtgemaohdlibboaaGreat.Reg (On on_draw)
set_option maxHeartbeats 4000000
set_option maxRecDepth 100000
set_option linter.unusedVariables false
set_option linter.unusedSimpArgs false

def slLen : Value → Nat | .slice _ n _ => n | _ => 0
theorem subs_no {r1 r2 : List Rel} {f1 f2 : List Fct} {most : Nat} (h : (okInst r1 f1 && okInst r2 f2 && decide (r1 = r2)) = false) : subs r1 f1 r2 f2 most = [] := by
  unfold subs homs; rw [h]; rfl
theorem subs_yes {r1 r2 : List Rel} {f1 f2 : List Fct} {most : Nat} (h : (okInst r1 f1 && okInst r2 f2 && decide (r1 = r2)) = true) : subs r1 f1 r2 f2 most = (walk f2 f1 none40 most).map (subI 0) := by
  unfold subs homs; rw [h]; rfl
theorem l7Homs_calls (w : World) (A0 c0 A1 c1) (rs : List Rel) (fs : List Fct) (h0 : Rels w A0 c0 rs) (h1 : Fcts w A1 c1 fs) (A2 c2 A3 c3) (qs : List Rel) (gs : List Fct) (h2 : Rels w A2 c2 qs) (h3 : Fcts w A3 c3 gs) (most : Nat) (hp : 1 ≤ most) (hq : most ≤ 1000) :
    Calls Tryz.prog 21 #[.agg #[.slice A0 rs.length c0, .slice A1 fs.length c1], .agg #[.slice A2 qs.length c2, .slice A3 gs.length c3], .int .i64 most] w (Got fun v w' => ∃ hs, OS w' w.heap.size v hs ∧ SepS w' w.heap.size hs (subs rs fs qs gs most) ∧ On w w') := by
  have hb := Aside0.mk (On.alloc (On.alloc (On.refl w) (.cells #[.slice A0 rs.length c0, .slice A1 fs.length c1] 27)) (.cells #[.slice A2 qs.length c2, .slice A3 gs.length c3] 27))
  have hL := Aside0.mk (loc2 w #[.slice A0 rs.length c0, .slice A1 fs.length c1] #[.slice A2 qs.length c2, .slice A3 gs.length c3] 27 27)
  have hpq := Aside0.mk (show 1 ≤ most ∧ most ≤ 1000 from ⟨hp, hq⟩)
  clear hp hq
  cases ho : okInst rs fs with
  | false =>
    have hno := Aside0.mk (subs_no (most := most) (show (okInst rs fs && okInst qs gs && decide (rs = qs)) = false by rw [ho]; rfl))
    have ho' := Aside0.mk ho
    clear ho
    go_enter Tryz.func21, Tryz.ntmps21
    go_wp2_with (
      (go_at_call 31; refine (IsValidInstance_calls _ A0 c0 A1 c1 rs fs (h0.on hb.out) (h1.on hb.out)).mono ?_; rintro e w1 ⟨rfl, hb1⟩; rw [ho'.out]; have hL1 := Aside0.mk (Loc.on hb1 hL.out); have hd0 := blk_cell hL1.out.1; have hd1 := blk_cell hL1.out.2.1)
      )
    have hWe := hb.out.trans hb1
    go_ret
    refine ⟨_, rfl, [], lit_own _ #[] 32 2 0 w.heap.size hWe.size (by omega) rfl, ?_, hWe.trans (On.alloc (On.refl _) _)⟩
    rw [hno.out]
    exact SepS.nil _ _
  | true =>
    have ho' := Aside0.mk ho
    clear ho
    cases hp : okInst qs gs with
    | false =>
      have hno := Aside0.mk (subs_no (most := most) (show (okInst rs fs && okInst qs gs && decide (rs = qs)) = false by rw [ho'.out, hp]; rfl))
      have hp' := Aside0.mk hp
      clear hp
      go_enter Tryz.func21, Tryz.ntmps21
      go_wp2_with (first
        |
        (go_at_call 31; refine (IsValidInstance_calls _ A2 c2 A3 c3 qs gs (h2.on (hb.out.trans hb1)) (h3.on (hb.out.trans hb1))).mono ?_; rintro e w2 ⟨rfl, hb2⟩; rw [hp'.out]; have hL2 := Aside0.mk (Loc.on (hb1.trans hb2) hL.out); have hd2 := blk_cell hL2.out.1; have hd3 := blk_cell hL2.out.2.1)
        |
        (go_at_call 31; refine (IsValidInstance_calls _ A0 c0 A1 c1 rs fs (h0.on hb.out) (h1.on hb.out)).mono ?_; rintro e w1 ⟨rfl, hb1⟩; rw [ho'.out]; have hL1 := Aside0.mk (Loc.on hb1 hL.out); have hd0 := blk_cell hL1.out.1; have hd1 := blk_cell hL1.out.2.1)
        )
      have hWe := hb.out.trans (hb1.trans hb2)
      go_ret
      refine ⟨_, rfl, [], lit_own _ #[] 32 2 0 w.heap.size hWe.size (by omega) rfl, ?_, hWe.trans (On.alloc (On.refl _) _)⟩
      rw [hno.out]
      exact SepS.nil _ _
    | true =>
      have hp' := Aside0.mk hp
      clear hp
      cases hr : decide (rs = qs) with
      | false =>
        have hno := Aside0.mk (subs_no (most := most) (show (okInst rs fs && okInst qs gs && decide (rs = qs)) = false by rw [ho'.out, hp'.out, hr]; rfl))
        have hr' := Aside0.mk hr
        clear hr
        go_enter Tryz.func21, Tryz.ntmps21
        go_wp2_with (first
          |
          (go_at_call 31; refine (IsValidInstance_calls _ A2 c2 A3 c3 qs gs (h2.on (hb.out.trans hb1)) (h3.on (hb.out.trans hb1))).mono ?_; rintro e w2 ⟨rfl, hb2⟩; rw [hp'.out]; have hL2 := Aside0.mk (Loc.on (hb1.trans hb2) hL.out); have hd2 := blk_cell hL2.out.1; have hd3 := blk_cell hL2.out.2.1)
          |
          (go_at_call 31; refine (IsValidInstance_calls _ A0 c0 A1 c1 rs fs (h0.on hb.out) (h1.on hb.out)).mono ?_; rintro e w1 ⟨rfl, hb1⟩; rw [ho'.out]; have hL1 := Aside0.mk (Loc.on hb1 hL.out); have hd0 := blk_cell hL1.out.1; have hd1 := blk_cell hL1.out.2.1)
          |
          (go_at_call 33; refine (l5Sigs_calls _ A0 c0 A2 c2 rs qs (h0.on (hb.out.trans (hb1.trans hb2))) (h2.on (hb.out.trans (hb1.trans hb2)))).mono ?_; rintro e w3 ⟨rfl, hb3⟩; rw [hr'.out])
          )
        have hWe := hb.out.trans (hb1.trans (hb2.trans hb3))
        go_ret
        refine ⟨_, rfl, [], lit_own _ #[] 32 2 0 w.heap.size hWe.size (by omega) rfl, ?_, hWe.trans (On.alloc (On.refl _) _)⟩
        rw [hno.out]
        exact SepS.nil _ _
      | true =>
        have hyes := Aside0.mk (subs_yes (most := most) (show (okInst rs fs && okInst qs gs && decide (rs = qs)) = true by rw [ho'.out, hp'.out, hr]; rfl))
        have hr' := Aside0.mk hr
        clear hr
        go_enter Tryz.func21, Tryz.ntmps21
        go_wp2_with (first
          |
          (go_at_call 31; refine (IsValidInstance_calls _ A2 c2 A3 c3 qs gs (h2.on (hb.out.trans hb1)) (h3.on (hb.out.trans hb1))).mono ?_; rintro e w2 ⟨rfl, hb2⟩; rw [hp'.out]; have hL2 := Aside0.mk (Loc.on (hb1.trans hb2) hL.out); have hd2 := blk_cell hL2.out.1; have hd3 := blk_cell hL2.out.2.1)
          |
          (go_at_call 31; refine (IsValidInstance_calls _ A0 c0 A1 c1 rs fs (h0.on hb.out) (h1.on hb.out)).mono ?_; rintro e w1 ⟨rfl, hb1⟩; rw [ho'.out]; have hL1 := Aside0.mk (Loc.on hb1 hL.out); have hd0 := blk_cell hL1.out.1; have hd1 := blk_cell hL1.out.2.1)
          |
          (go_at_call 33; refine (l5Sigs_calls _ A0 c0 A2 c2 rs qs (h0.on (hb.out.trans (hb1.trans hb2))) (h2.on (hb.out.trans (hb1.trans hb2)))).mono ?_; rintro e w3 ⟨rfl, hb3⟩; rw [hr'.out])
          )
        have hBc := Aside0.mk (hb1.trans (hb2.trans hb3))
        have hWc := Aside0.mk (hb.out.trans hBc.out)
        have hlit := Aside0.mk (lit_own w3 #[] 3 1 0 w3.heap.size (Nat.le_refl _) (by omega) rfl)
        clear hd0 hd1 hd2 hd3
        go_loopw [7] (fun v wr => ∃ (xs : List Int) (A : Option Addr) (c : Nat), xs.length ≤ 40 ∧ v = .slice A xs.length c ∧ Aside0 (xs = List.replicate xs.length 10) ∧ Aside0 (OI wr w3.heap.size (.slice A xs.length c) xs) ∧ Aside0 (On w3 wr)) (fun v _ => 40 - slLen v)
        case atStart => exact ⟨[], some ⟨w3.heap.size, 0, none⟩, 0, by simp, rfl, ⟨rfl⟩, hlit, ⟨On.alloc (On.refl _) _⟩⟩
        case round =>
          obtain ⟨xs, A, c, hx40, rfl, hrep, hO, hB⟩ := hrel
          have hBw := Aside0.mk (hWc.out.trans hB.out)
          by_cases hlt : xs.length < 40
          · obtain ⟨zs, hz⟩ : ∃ zs, xs ++ [10] = zs := ⟨_, rfl⟩
            have hz' := Aside0.mk hz
            have hBl := Aside0.mk (On.alloc (On.refl wr) (.cells #[.int .i64 10] 3))
            go_wp2_with (refine gate 31 ?_)
            refine ⟨apI 31 hz (OI.to (pw_own_below hO.out hBl.out)) (lit_RI (by omega) (On.refl _)) (Nat.le_trans hB.out.size hBl.out.size) (by omega) fun v6 w6 hO6' hg6 hat6 => ?_⟩
            have hO6 := Aside0.mk (OI.of hO6')
            obtain ⟨A6, c6, rfl⟩ := own_slice hO6.out
            have hB6 := Aside0.mk (own_grows (hB.out.trans hBl.out) (pw_own_below hO.out hBl.out) hg6 (Nat.le_refl _))
            have hzl := Aside0.mk (show zs.length = xs.length + 1 by rw [← hz, List.length_append]; rfl)
            clear hO6' hg6 hat6 hz
            go_wp2
            refine ⟨⟨zs, A6, c6, by have := hzl.out; omega, rfl, ⟨?_⟩, hO6, hB6⟩, by have := hzl.out; simp only [slLen]; omega⟩
            rw [hzl.out, List.replicate_succ', ← hrep.out]
            exact hz'.out.symm
          · have hx := Aside0.mk (show xs = none40 by have h := hrep.out; rw [show xs.length = 40 by omega] at h; exact h)
            have hl40 := Aside0.mk (show xs.length = 40 by omega)
            have hR : InR xs := fun y hy => by
              rw [hx.out] at hy
              have := List.eq_of_mem_replicate hy
              omega
            obtain ⟨A', c', e, hI⟩ := OI.rd hO.out hR
            injection e with e1 e2 e3
            subst e1 e3
            have hI' := Aside0.mk hI
            clear hI e2 hR
            have hLr := Aside0.mk (Loc.on (hBc.out.trans hB.out) hL.out)
            have hd0 := blk_cell hLr.out.1
            have hd1 := blk_cell hLr.out.2.1
            go_wp2_with (refine gate 36 ?_)
            refine ⟨goesF 36 Tryz.func46 ((l7Walk_calls fs gs fs.length 0 (Nat.zero_add _) wr A0 rs.length c0 A1 c1 A2 qs.length c2 A3 c3 A c xs most (h1.on hBw.out) (h3.on hBw.out) hI'.out hl40.out hpq.out.1 hpq.out.2).mono ?_)⟩
            rintro e w5 ⟨v5, rfl, hs5, hO5, hS5, hb5⟩
            refine ⟨_, rfl, ?_⟩
            go_wp2
            go_ret
            refine ⟨_, rfl, hs5, own_lower hO5 hBw.out.size, ?_, hBw.out.trans hb5⟩
            rw [hyes.out, ← hx.out]
            exact hS5.lower hBw.out.size
end Go.Proofs.YtgemaohdlibboaaGreat.H
/- Walks: the reference's FindHomomorphism, HasHomomorphism, AreHomEquivalent. No condition. -/
namespace Go.Proofs.YtgemaohdlibboaaGreat.H
open Go Go.RowKit Go.Proofs.YtgemaohdlibboaaGreatW.PrintWords Go.Proofs.YtgemaohdlibboaaGreatW.PrintLast
open Go.Proofs.YtgemaohdlibboaaGreat.Reg (On on_draw)
set_option maxHeartbeats 4000000
set_option maxRecDepth 100000
set_option linter.unusedVariables false
set_option linter.unusedSimpArgs false

section
variable {fn : Func} {p u : Tmp} {tmps : Array Value} {w : World} {g : Nat} {t : TypeId} {cs : Array Value} {fr : Nat × Nat}
theorem retSB (h : fn.results = #[.cell p 32, .tmp u]) (hp : tmps.getD p undef = .pointer (some ⟨g, 0, none⟩)) (hg : w.heap[g]? = some (.cells cs t fr)) (hs : cs.size = 2) : (results fn tmps).run Tryz.prog w = .ok (.tuple #[.agg cs, tmps.getD u undef]) w :=
  results_ct h tmps w g t cs fr _ hp hg Tryz.underlying32 rfl (by rw [hs]; kernel_rfl)
end
theorem subs_len (r1 : List Rel) (f1 : List Fct) (r2 : List Rel) (f2 : List Fct) (most : Nat) (h : 1 ≤ most) : (subs r1 f1 r2 f2 most).length = (homs r1 f1 r2 f2 most).length ∧ (subs r1 f1 r2 f2 most).length ≤ most := by
  have e : (subs r1 f1 r2 f2 most).length = (homs r1 f1 r2 f2 most).length := by unfold subs; rw [List.length_map]
  refine ⟨e, ?_⟩
  rw [e]
  unfold homs
  split
  · exact walk_len _ _ _ _ h
  · simp
theorem sFind_calls (w : World) (A0 c0 A1 c1) (rs : List Rel) (fs : List Fct) (h0 : Rels w A0 c0 rs) (h1 : Fcts w A1 c1 fs) (A2 c2 A3 c3) (qs : List Rel) (gs : List Fct) (h2 : Rels w A2 c2 qs) (h3 : Fcts w A3 c3 gs) :
    Calls Tryz.prog 7 #[.agg #[.slice A0 rs.length c0, .slice A1 fs.length c1], .agg #[.slice A2 qs.length c2, .slice A3 gs.length c3]] w (Got fun v w' => ∃ a b : Sli, v = .tuple #[.agg #[slV a, slV b], .bool (hasHom rs fs qs gs)] ∧ SepS w' w.heap.size [(a, b)] [(subs rs fs qs gs 1).headD ([], [])] ∧ On w w') := by
  have hb := Aside0.mk (On.alloc (On.alloc (On.alloc (On.refl w) (.cells #[.slice A0 rs.length c0, .slice A1 fs.length c1] 27)) (.cells #[.slice A2 qs.length c2, .slice A3 gs.length c3] 27)) (.cells #[.slice none 0 0, .slice none 0 0] 32))
  have hL := Aside0.mk (loc3 w #[.slice A0 rs.length c0, .slice A1 fs.length c1] #[.slice A2 qs.length c2, .slice A3 gs.length c3] #[.slice none 0 0, .slice none 0 0] 27 27 32)
  have hsx := Aside0.mk (show (((w.alloc (.cells #[.slice A0 rs.length c0, .slice A1 fs.length c1] 27)).alloc (.cells #[.slice A2 qs.length c2, .slice A3 gs.length c3] 27)).alloc (.cells #[.slice none 0 0, .slice none 0 0] 32)).heap.size = w.heap.size + 3 by simp)
  have hsl := Aside0.mk (subs_len rs fs qs gs 1 (Nat.le_refl _))
  go_enter Tryz.func7, Tryz.ntmps7
  go_wp2_with (refine gate 9 ?_)
  obtain ⟨Wx, hWx⟩ : ∃ Wx, ((w.alloc (.cells #[.slice A0 rs.length c0, .slice A1 fs.length c1] 27)).alloc (.cells #[.slice A2 qs.length c2, .slice A3 gs.length c3] 27)).alloc (.cells #[.slice none 0 0, .slice none 0 0] 32) = Wx := ⟨_, rfl⟩
  rw [hWx] at hb hL hsx ⊢
  clear hWx
  refine ⟨goesF 9 Tryz.func21 ((l7Homs_calls Wx A0 c0 A1 c1 rs fs (h0.on hb.out) (h1.on hb.out) A2 c2 A3 c3 qs gs (h2.on hb.out) (h3.on hb.out) 1 (Nat.le_refl _) (by omega)).mono ?_)⟩
  rintro e w1 ⟨v1, rfl, hs, hO, hS, hb1⟩
  refine ⟨_, rfl, ?_⟩
  have hk := (Loc.on hb1 hL.out).2.2.1
  have hc : ∀ i, w1.cell? ⟨w.heap.size + 1 + 1, i, none⟩ = _ := blk_cell hk
  have hf : ∀ i, w1.frozen? ⟨w.heap.size + 1 + 1, i, none⟩ = _ := blk_frozen hk
  have hk' := Aside0.mk hk
  clear hk
  have hsz := Aside0.mk (show w.heap.size + 3 ≤ w1.heap.size by have := hb1.size; rw [hsx.out] at this; exact this)
  have hlen := hS.len
  have hl1 := hsl.out
  rcases hs with _ | ⟨h, tl⟩
  · have hnil : subs rs fs qs gs 1 = [] := List.eq_nil_of_length_eq_zero hlen.symm
    have hhas := Aside0.mk (show hasHom rs fs qs gs = false by unfold hasHom; rw [← hl1.1, hnil]; rfl)
    obtain ⟨A', c', rfl⟩ := own_slice hO
    clear hlen hl1
    go_wp2
    refine bodyPost_ret (retSB rfl rfl (g := w.heap.size + 2) (blk_set (blk_set hk'.out 0 _) 1 _) rfl) rfl ?_
    refine ⟨_, rfl, (none, 0, 0), (none, 0, 0), by rw [hhas.out]; rfl, ?_, Reg.On.set (Reg.On.set (hb.out.trans hb1) (by simp; omega) _) (by simp; omega) _⟩
    rw [hnil]
    exact SepS.one (World.ownsRow_nil _ _ _ _) (World.ownsRow_nil _ _ _ _) (fun x hx => by cases hx) (fun x hx => by cases hx) (fun k hk => by cases hk)
  · obtain rfl : tl = [] := List.eq_nil_of_length_eq_zero (by have := hl1.2; simp at hlen; omega)
    obtain ⟨⟨A5, n5, c5⟩, ⟨A6, n6, c6⟩⟩ := h
    have hhas := Aside0.mk (show hasHom rs fs qs gs = true by unfold hasHom; rw [← hl1.1, ← hlen]; rfl)
    obtain ⟨s, hs⟩ : ∃ s, subs rs fs qs gs 1 = [s] := by
      match h : subs rs fs qs gs 1, hlen with
      | [s], _ => exact ⟨s, rfl⟩
    obtain ⟨A', c', e, hR⟩ := OS.slice hO
    subst e
    obtain ⟨g, rfl⟩ := own_at0 hO (by simp)
    obtain ⟨_, e0, hc0⟩ := hR.cell 0 (.slice A5 n5 c5) rfl
    obtain ⟨_, e1, hc1⟩ := hR.cell 1 (.slice A6 n6 c6) rfl
    obtain rfl := Option.some.inj e0
    obtain rfl := Option.some.inj e1
    rw [add_zero0] at hc0 hc1
    have hS' := Aside0.mk hS
    clear hlen hl1 hO hR e0 e1 hS
    go_wp2
    refine bodyPost_ret (retSB rfl rfl (g := w.heap.size + 2) (blk_set (blk_set hk'.out 0 _) 1 _) rfl) rfl ?_
    refine ⟨_, rfl, (A5, n5, c5), (A6, n6, c6), by rw [hhas.out]; rfl, ?_, Reg.On.set (Reg.On.set (hb.out.trans hb1) (by simp; omega) _) (by simp; omega) _⟩
    have h9 := hS'.out
    rw [hs] at h9 ⊢
    exact ((h9.set (by rw [hsx.out]; show w.heap.size + 1 + 1 < _; omega) _).set (by rw [hsx.out]; show w.heap.size + 1 + 1 < _; omega) _).lower (by rw [hsx.out]; omega)
theorem sHas_calls (w : World) (A0 c0 A1 c1) (rs : List Rel) (fs : List Fct) (h0 : Rels w A0 c0 rs) (h1 : Fcts w A1 c1 fs) (A2 c2 A3 c3) (qs : List Rel) (gs : List Fct) (h2 : Rels w A2 c2 qs) (h3 : Fcts w A3 c3 gs) :
    Calls Tryz.prog 18 #[.agg #[.slice A0 rs.length c0, .slice A1 fs.length c1], .agg #[.slice A2 qs.length c2, .slice A3 gs.length c3]] w fun e w' => e = .returned (.bool (hasHom rs fs qs gs)) ∧ On w w' := by
  have hb := Aside0.mk (On.alloc (On.alloc (On.refl w) (.cells #[.slice A0 rs.length c0, .slice A1 fs.length c1] 27)) (.cells #[.slice A2 qs.length c2, .slice A3 gs.length c3] 27))
  go_enter Tryz.func18, Tryz.ntmps18
  go_wp2_with (go_at_call 7; refine (sFind_calls _ A0 c0 A1 c1 rs fs (h0.on hb.out) (h1.on hb.out) A2 c2 A3 c3 qs gs (h2.on hb.out) (h3.on hb.out)).mono ?_; rintro e w1 ⟨v, rfl, ⟨Aa, na, ca⟩, ⟨Ab, nb, cb⟩, rfl, hS, hb1⟩; clear hS; have hfill := alloc_fill w1)
  go_ret
  exact ⟨rfl, hb.out.trans (hb1.trans (On.alloc (On.refl _) _))⟩
end Go.Proofs.YtgemaohdlibboaaGreat.H
/- Walks: the program's own search: the visit that keeps. No condition. -/
namespace Go.Proofs.YtgemaohdlibboaaGreat.H
open Go Go.RowKit Go.Proofs.YtgemaohdlibboaaGreatW.PrintWords Go.Proofs.YtgemaohdlibboaaGreatW.PrintLast
open Go.Proofs.YtgemaohdlibboaaGreat.Reg (On on_draw)
set_option maxHeartbeats 4000000
set_option maxRecDepth 100000
set_option linter.unusedVariables false
set_option linter.unusedSimpArgs false

theorem blk_not_own {w : World} {lo e sz n b : Nat} {v : Value} {xs : List Value} {cs : Array Value} {t : TypeId} (h : w.ownsRow lo e sz v n xs) (hb : w.heap[b]? = some (.cells cs t (0, 0))) (hne : t ≠ e) : some b ≠ v.ownBlock := fun e1 => by
  obtain ⟨c, hc⟩ := own_typed h b e1.symm
  rw [hb] at hc
  injection hc with hc
  injection hc with _ h3
  exact hne h3
theorem own_set_other {w : World} {lo e sz n b : Nat} {v : Value} {xs : List Value} {cs : Array Value} {t : TypeId} (h : w.ownsRow lo e sz v n xs) (hb : w.heap[b]? = some (.cells cs t (0, 0))) (hne : t ≠ e) (u : Value) : (w.setCell ⟨b, 0, none⟩ u).ownsRow lo e sz v n xs :=
  own_ex h (Ex.set w ⟨b, 0, none⟩ u) fun i hi e1 => blk_not_own h hb hne (by rw [hi, show i = b from e1])
theorem lit_RS {W w : World} {a b : Sli} (hb : On (W.alloc (.cells #[slV a, slV b] 32 (0, 0))) w) : RSm w (some ⟨W.heap.size, 0, none⟩) 1 [(a, b)] := by
  obtain ⟨A, c, e, h⟩ := OS.slice (pw_own_below (lit_Sb W a b) hb)
  injection e with e1 e2 e3
  subst e1 e3
  exact h
section
variable {ops : Array Oper} {rest : List Oper} {o : Oper} {a : Act} {Q : Exit → Act → World → Prop} {W : World}
theorem apSx (N : Tmp) {s x : Operand} {v : Value} {A : Option Addr} {c base : Nat} {xs ys zs : List SHd} (hz : xs ++ ys = zs)
    (HO : OS W base v xs) (HR : RSm W A c ys) (hbase : base ≤ W.heap.size) (hl : xs.length + ys.length ≤ 1000000000)
    (h : ∀ v1 w1, OS w1 base v1 zs → W.grownBy w1 v.ownBlock → (v1.ownBlock = v.ownBlock ∨ ∃ b, v1.ownBlock = some b ∧ W.heap.size ≤ b) → wpList Tryz.prog ops Q rest (a.put (some N) v1) w1)
    (hop : o.op = .call { callee := .builtin .append, args := #[s, x], argTypes := #[35, 35] } := by rfl)
    (hd : o.dst = some N := by rfl) (hg : o.guard = none := by rfl) (hs : a.eval s = v := by rfl) (hx : a.eval x = .slice A ys.length c := by rfl) : wpList Tryz.prog ops Q (o :: rest) a W := by
  subst hz
  obtain ⟨i0, hi, hzz⟩ := Option.map_eq_some_iff.1 infoSu
  simp only [Prod.mk.injEq] at hzz
  obtain ⟨hz0, hz1, hz2⟩ := hzz
  have hnil : ys = [] → wpList Tryz.prog ops Q (o :: rest) a W := by
    rintro rfl
    rw [List.append_nil] at h
    cases A with
    | none => exact ap_none N Tryz.underlying35 infoSu HO (h v W HO (World.grownBy.refl W _) (.inl rfl)) hop hd hg hs hx
    | some ad =>
      refine wpList_append_own_at W hg s x 35 hop base 32 i0 _ 2 48 Tryz.underlying35 hi hz0 hz1 hz2 rfl (by omega) v xs.length _ hs HO ad 0 c [] hx rfl (by simp) (by simp) (by simp at hl; simp [maxLen]; omega) (by simp at hl; omega) hbase fun v1 w1 h1 h2 _ h4 => ?_
      rw [hd]
      exact h v1 w1 (by simpa using h1) h2 (h4.imp id fun e => ⟨_, e, Nat.le_refl _⟩)
  cases A with
  | none =>
    refine hnil ?_
    cases ys with
    | nil => rfl
    | cons y ys => obtain ⟨_, e, _⟩ := HR.cell 0 _ rfl; cases e
  | some ad =>
    refine wpList_append_own_at W hg s x 35 hop base 32 i0 _ 2 48 Tryz.underlying35 hi hz0 hz1 hz2 rfl (by omega) v xs.length _ hs HO ad ys.length c (ys.flatMap encSb) hx (flat_len (enc := encSb) (sz := 2) (fun _ => rfl) ys) (fun j u hu => ?_) (fun u hu => ?_) (by simp [maxLen]; omega) (by omega) hbase fun v1 w1 h1 h2 _ h4 => ?_
    · obtain ⟨ad', e, hc⟩ := HR.cell j u hu
      injection e with e; subst e; exact hc
    · obtain ⟨y, _, hy⟩ := List.mem_flatMap.1 hu
      simp only [List.mem_cons, List.not_mem_nil, or_false] at hy
      rcases hy with rfl | rfl <;> rfl
    · rw [hd]
      refine h v1 w1 ?_ h2 (h4.imp id fun e => ⟨_, e, Nat.le_refl _⟩)
      have e : (xs ++ ys).flatMap encSb = xs.flatMap encSb ++ ys.flatMap encSb := List.flatMap_append
      show World.ownsRow _ _ _ _ _ (xs ++ ys).length _
      rw [e, List.length_append]
      exact h1
end
theorem keep_calls (w : World) (lo b b2 : Nat) (A : Option Addr) (c : Nat) (hs : List SHd) (x y : Sli) (most : Int) (hO : OS w lo (.slice A hs.length c) hs) (hlo : lo ≤ w.heap.size) (hl : hs.length ≤ 1000)
    (hb0 : w.heap[b]? = some (.cells #[.slice A hs.length c] 35 (0, 0))) (hb2 : w.heap[b2]? = some (.cells #[.int .i64 most] 3 (0, 0))) (hne : b2 ≠ b) :
    Calls Tryz.prog 45 #[.agg #[slV x, slV y], .pointer (some ⟨b, 0, none⟩), .pointer (some ⟨b2, 0, none⟩)] w fun e w' => ∃ A' c' zs, zs = hs ++ [(x, y)] ∧ e = .returned (.bool ((zs.length : Int) == most)) ∧ OS w' lo (.slice A' zs.length c') zs ∧ w'.heap[b]? = some (.cells #[.slice A' zs.length c'] 35 (0, 0)) ∧ Ex (fun k => k = b ∨ some k = Value.ownBlock (.slice A hs.length c)) w w' ∧ (Value.ownBlock (.slice A' zs.length c') = Value.ownBlock (.slice A hs.length c) ∨ ∃ k, Value.ownBlock (.slice A' zs.length c') = some k ∧ w.heap.size ≤ k) := by
  obtain ⟨x1, x2, x3⟩ := x
  obtain ⟨y1, y2, y3⟩ := y
  have hb := Aside0.mk (On.alloc (On.refl w) (.cells #[.slice x1 x2 x3, .slice y1 y2 y3] 32))
  have hcn := blk_cell (loc_new w #[.slice x1 x2 x3, .slice y1 y2 y3] 32)
  have hc := blk_cell (blk_below hb0 hb.out)
  have hbb := Aside0.mk (show b ≠ w.heap.size ∧ b2 ≠ w.heap.size from ⟨by have := blk_lt hb0; omega, by have := blk_lt hb2; omega⟩)
  obtain ⟨zs, hz⟩ : ∃ zs, hs ++ [(((x1, x2, x3), (y1, y2, y3)) : SHd)] = zs := ⟨_, rfl⟩
  have hb0' := Aside0.mk hb0
  have hb2' := Aside0.mk hb2
  have hO' := Aside0.mk hO
  have hz' := Aside0.mk hz
  clear hb0 hb2 hO hz
  go_enter Tryz.func45, Tryz.ntmps45
  go_wp2_with (refine gate 8 ?_)
  have hsz : (w.alloc (.cells #[slV (x1, x2, x3), slV (y1, y2, y3)] 32)).heap.size = w.heap.size + 1 := by simp
  have hR := lit_RS (On.refl ((w.alloc (.cells #[slV (x1, x2, x3), slV (y1, y2, y3)] 32)).alloc (.cells #[slV (x1, x2, x3), slV (y1, y2, y3)] 32 (0, 0))))
  rw [hsz] at hR
  have hB2 := Aside0.mk (hb.out.trans (On.alloc (On.refl _) (.cells #[.slice x1 x2 x3, .slice y1 y2 y3] 32)))
  refine ⟨apSx 8 hz'.out (pw_own_below hO'.out hB2.out) hR (Nat.le_trans hlo hB2.out.size) (by simp; omega) fun v6 w6 hO6 hg6 hat6 => ?_⟩
  obtain ⟨A6, c6, rfl⟩ := own_slice hO6
  have hat := Aside0.mk (hat6.imp id fun ⟨k, e, h⟩ => (⟨k, e, Nat.le_trans hB2.out.size h⟩ : ∃ k, Value.ownBlock (.slice A6 zs.length c6) = some k ∧ w.heap.size ≤ k))
  clear hat6
  have hk0 := blk_grown hg6 (blk_below hb0'.out hB2.out) (blk_not_own hO'.out hb0'.out (by decide))
  have hk2 := blk_grown hg6 (blk_below hb2'.out hB2.out) (blk_not_own hO'.out hb2'.out (by decide))
  have hc0 := blk_cell hk0
  have hf0 := blk_frozen hk0
  have hc2 := blk_cell hk2
  have hk0' := Aside0.mk hk0
  have hE6 := Aside0.mk ((Ex.of_on (S := fun k => k = b ∨ some k = Value.ownBlock (.slice A hs.length c)) hB2.out).trans (Ex.of_grown hg6) (fun i _ e => .inr e))
  have hO6' := Aside0.mk hO6
  clear hR hsz hcn hc hk0 hk2 hg6 hO6
  go_wp2
  go_ret
  exact ⟨A6, c6, zs, hz'.out.symm, rfl, own_set_other hO6'.out hk0'.out (by decide) _, blk_set hk0'.out 0 _, hE6.out.trans (Ex.set _ _ _) (fun i _ e => .inl e), hat.out⟩
end Go.Proofs.YtgemaohdlibboaaGreat.H
/- Bindings kept in a map: what a block of the kind map[int]int tells of forty cells. No condition. -/
namespace Go.Proofs.YtgemaohdlibboaaGreat.H
open Go Go.RowKit Go.Proofs.YtgemaohdlibboaaGreatW.PrintWords Go.Proofs.YtgemaohdlibboaaGreatW.PrintLast
open Go.Proofs.YtgemaohdlibboaaGreat.Reg (On on_draw)
set_option maxHeartbeats 4000000
set_option maxRecDepth 100000
set_option linter.unusedVariables false
set_option linter.unusedSimpArgs false

theorem mapClone_calls (w : World) (b : Nat) (es : Array MapEntry) (clock : Nat) (hb : w.heap[b]? = some (.map es clock)) :
    Calls Tryz.prog 94 #[.map (some b)] w fun e w' => e = .returned (.map (some w.heap.size)) ∧ w' = w.alloc (.map es clock) := by
  have hq := fun w => run_eql_map_nil_sl (P := Tryz.prog) w 69 _ _ (some b) Tryz.underlying69
  go_enter Tryz.func94, Tryz.ntmps94
  go_wp2
  rw [run_callFunc_extern Tryz.func104 (by kernel_rfl) (by kernel_rfl) (by kernel_rfl) (e := Extern.MapsClone.clone) (by kernel_rfl), run_maps_clone_sl w 69 hb]
  simp only [Result.andThen]
  rw [Oper.upon_value]
  go_wp2
  rw [run_typeAssert_map_sl _ 69 _ _ _ _ Tryz.underlying69]
  simp only [Result.andThen]
  rw [Oper.upon_value]
  go_wp2
  go_ret
  exact ⟨rfl, rfl⟩
abbrev kl (k : Int) : Lit := .int .i64 k
noncomputable abbrev plE (v : Value) : Option (DataW Unit × List MemPlace) := plainElem Tryz.prog 3 v
/-- The block b is a map of at most n entries that tells the binding z. -/
structure BM (w : World) (b n : Nat) (z : List Int) : Prop where
  mk :: (out : ∃ D : DataW Unit, w.ownsMap Tryz.prog 3 plE b n D ∧ Maps.IsMap D ∧ (∀ k : Nat, k < 40 → Maps.has D (kl k) = decide (z.getD k 10 ≠ 10) ∧ (z.getD k 10 ≠ 10 → ∀ zd, D.atKey (kl k) zd = .lit (.int .i64 (z.getD k 10)))) ∧ ∀ k : Int, Maps.has D (kl k) = true → 0 ≤ k ∧ k < 40)
theorem none40_get (k : Nat) : none40.getD k 10 = 10 := by
  unfold none40
  rw [List.getD_eq_getElem?_getD, List.getElem?_replicate]
  split <;> rfl
theorem BM.start (w : World) : BM (w.alloc (.map #[] 0)) w.heap.size 0 none40 := by
  refine ⟨.map [], World.ownsMap_made w _ _ _, ⟨_, rfl⟩, fun k hk => ⟨?_, fun h => absurd (none40_get k) h⟩, fun k h => ?_⟩
  · rw [none40_get]; rfl
  · cases h
theorem BM.on {W w : World} {b n : Nat} {z : List Int} (h : BM W b n z) (hb : On W w) : BM w b n z := by
  obtain ⟨D, h1, h2⟩ := h.out
  exact ⟨D, h1.kept (grown_of_below hb none) (by simp), h2⟩
theorem wf_i64 {a : Int} (h : -9223372036854775808 ≤ a ∧ a ≤ 9223372036854775807) : (Lit.int .i64 a).wf = true := by
  show (decide (IntKind.i64.min ≤ a) && decide (a ≤ IntKind.i64.max)) = true
  rw [show IntKind.i64.min = -9223372036854775808 from rfl, show IntKind.i64.max = 9223372036854775807 from rfl]
  simp [h.1, h.2]
theorem key_lit {k : Int} (h : 0 ≤ k ∧ k < 40) : keyOf Tryz.prog 3 (.int .i64 k) = some (kl k) := Maps.keyOf_int_mk Tryz.underlying3 (wf_i64 (by omega))
theorem keyed : Maps.Keyed Tryz.prog 3 := Maps.int_keyed Tryz.underlying3
section
variable {ops : Array Oper} {rest : List Oper} {o : Oper} {a : Act} {Q : Exit → Act → World → Prop} {W : World} {b n : Nat} {z : List Int}
theorem bmLookOk (N : Tmp) {m x : Operand} (h : BM W b n z) (k : Nat) (hk : k < 40) (K : wpList Tryz.prog ops Q rest (a.put (some N) (.tuple #[.int .i64 (if z.getD k 10 = 10 then 0 else z.getD k 10), .bool (decide (z.getD k 10 ≠ 10))])) W)
    (hop : o.op = Op.lookup 69 m x true := by rfl) (hd : o.dst = some N := by rfl) (hg : o.guard = none := by rfl) (hm : a.eval m = .map (some b) := by rfl) (hx : a.eval x = .int .i64 (k : Int) := by rfl) : wpList Tryz.prog ops Q (o :: rest) a W := by
  obtain ⟨D, h1, h2, h3, h4⟩ := h.out
  refine wpList_lookup_own_ok_int W hg m x 69 hop 3 3 .i64 keyed Tryz.underlying69 Tryz.underlying3 (Tryz.zeroValue3 W) b n D hm h1 _ (kl k) hx (key_lit (by omega)) fun c hc hw => ?_
  rw [hd, (h3 k hk).1]
  by_cases h10 : z.getD k 10 = 10
  · have e := Maps.atKey_of_not_has (by rw [(h3 k hk).1, h10]; rfl : Maps.has D (kl k) = false) (DataW.lit (.int .i64 0))
    rw [hc] at e
    injection e with e
    injection e with _ e
    subst e
    rw [if_pos h10] at K
    exact K
  · have e := (h3 k hk).2 h10 (.lit (.int .i64 0))
    rw [hc] at e
    injection e with e
    injection e with _ e
    subst e
    rw [if_neg h10] at K
    exact K
theorem set_get (z : List Int) (k : Nat) (hk : k < z.length) (u : Int) (j : Nat) : (z.set k u).getD j 10 = if j = k then u else z.getD j 10 := by
  rw [List.getD_eq_getElem?_getD, List.getD_eq_getElem?_getD, List.getElem?_set]
  by_cases h : k = j
  · subst h; simp [hk]
  · rw [if_neg h, if_neg (fun e => h e.symm)]
theorem bmSet {m x v : Operand} (h : BM W b n z) (hn : n < 1000000) (k : Nat) (hk : k < 40) (hz : z.length = 40) (u : Int) (hu : u ≠ 10) (hr : -9223372036854775808 ≤ u ∧ u ≤ 9223372036854775807)
    (K : ∀ w', BM w' b (n + 1) (z.set k u) → W.grownBy w' (some b) → wpList Tryz.prog ops Q rest (a.put o.dst undef) w')
    (hop : o.op = Op.mapUpdate 69 m x v := by rfl) (hg : o.guard = none := by rfl) (hm : a.eval m = .map (some b) := by rfl) (hx : a.eval x = .int .i64 (k : Int) := by rfl) (hv : a.eval v = .int .i64 u := by rfl) : wpList Tryz.prog ops Q (o :: rest) a W := by
  obtain ⟨D, h1, h2, h3, h4⟩ := h.out
  have hkey := key_lit (k := (k : Int)) (by omega)
  refine wpList_mapUpdate_own W hg m x v 69 hop 3 3 keyed Tryz.underlying69 plE b n D hm h1 (by simp [maxLen]; omega) _ _ (kl k) hx hv hkey (.lit (.int .i64 u)) [] (plainElem_int Tryz.underlying3 (wf_i64 hr)) fun w' h5 h6 => K w' ⟨_, h5, h2.put _ _, fun j hj => ?_, fun j hj => ?_⟩ h6
  · rw [set_get z k (by omega) u j]
    by_cases e : j = k
    · subst e
      rw [if_pos rfl]
      exact ⟨by rw [Maps.has_put_same h2 (keyed.key hkey)]; simp [hu], fun _ zd => Maps.atKey_put_same h2 (keyed.key hkey) _ zd⟩
    · have hne : kl j ≠ kl k := fun c => by injection c with _ c; omega
      rw [if_neg e]
      exact ⟨by rw [Maps.has_put_other hne]; exact (h3 j hj).1, fun h10 zd => by rw [Maps.atKey_put_other hne]; exact (h3 j hj).2 h10 zd⟩
  · by_cases e : j = k
    · omega
    · have hne : kl j ≠ kl k := fun c => by injection c with _ c; exact e c
      rw [Maps.has_put_other hne] at hj
      exact h4 j hj
end
end Go.Proofs.YtgemaohdlibboaaGreat.H
/- Walks: the program's own small functions on values and relations. No condition. -/
namespace Go.Proofs.YtgemaohdlibboaaGreat.H
open Go Go.RowKit Go.Proofs.YtgemaohdlibboaaGreatW.PrintWords Go.Proofs.YtgemaohdlibboaaGreatW.PrintLast
open Go.Proofs.YtgemaohdlibboaaGreat.Reg (On on_draw)
set_option maxHeartbeats 1000000
set_option maxRecDepth 100000
set_option linter.unusedVariables false
set_option linter.unusedSimpArgs false

theorem within_calls (w : World) (x a b : Int) : Calls Tryz.prog 49 #[.int .i64 x, .int .i64 a, .int .i64 b] w fun e w' => e = .returned (.bool (within x a b)) ∧ On w w' := by
  by_cases h1 : a ≤ x
  · have h1' : decide (a ≤ x) = true := by simpa using h1
    go_enter Tryz.func49, Tryz.ntmps49
    go_wp2
    go_ret
    exact ⟨by simp [within, h1], On.refl _⟩
  · have h1' : decide (a ≤ x) = false := by simpa using h1
    go_enter Tryz.func49, Tryz.ntmps49
    go_wp2
    go_ret
    exact ⟨by simp [within]; omega, On.refl _⟩
theorem iIsValidValue_calls (w : World) (v : Int) : Calls Tryz.prog 50 #[.int .i64 v] w fun e w' => e = .returned (.bool (okVal v)) ∧ On w w' := by
  go_enter Tryz.func50, Tryz.ntmps50
  go_wp2_with (go_at_call 49; refine (within_calls _ _ _ _).mono ?_; rintro e w1 ⟨rfl, hb1⟩)
  go_ret
  exact ⟨ret_bool (by simp only [okVal, within]), hb1⟩
theorem iNullNumber_calls (w : World) (v : Int) (hv : -9223372036854775808 ≤ v ∧ v ≤ 9223372036854775807) : Calls Tryz.prog 82 #[.int .i64 v] w fun e w' => e = .returned (.tuple #[.int .i64 (nulNum v), .bool (isNul v)]) ∧ On w w' := by
  have hwr : IntKind.i64.wrap (-1 - v) = -1 - v := IntWalk.i64_in _ (by omega)
  by_cases h : -40 ≤ v ∧ v ≤ -1
  · have hw : within (-1 - v) 0 39 = true := by simp only [within, decide_eq_true_eq]; omega
    have hi := Aside0.mk (show isNul v = true by simp [isNul, h])
    go_enter Tryz.func82, Tryz.ntmps82
    go_wp2_with (go_at_call 49; refine (within_calls _ _ _ _).mono ?_; rintro e w1 ⟨rfl, hb1⟩)
    go_ret2
    exact ⟨by rw [hi.out, show nulNum v = -1 - v by simp [nulNum, hi.out]]; rfl, hb1⟩
  · have hw : within (-1 - v) 0 39 = false := by simp only [within, decide_eq_false_iff_not]; omega
    have hi := Aside0.mk (show isNul v = false by simp [isNul]; omega)
    go_enter Tryz.func82, Tryz.ntmps82
    go_wp2_with (go_at_call 49; refine (within_calls _ _ _ _).mono ?_; rintro e w1 ⟨rfl, hb1⟩)
    go_ret2
    exact ⟨by rw [hi.out, show nulNum v = 0 by simp [nulNum, hi.out]]; rfl, hb1⟩
theorem str1_lt (s : ByteArray) (h : s.size = 1) (c : UInt8) : Op.bytesLess s.toList [c] = decide (bt s 0 < c.toNat) ∧ Op.bytesLess [c] s.toList = decide ((c.toNat : Int) < bt s 0) ∧ (s.toList == [c]) = decide (bt s 0 = c.toNat) := by
  have hl : s.data.toList.length = 1 := by simpa using h
  obtain ⟨x, hx⟩ := List.length_eq_one_iff.1 hl
  have e1 : s.toList = [x] := by rw [ByteArray.toList_eq]; exact hx
  have e2 : bt s 0 = x.toNat := by
    have h0 : (0 : Int).toNat < s.size := by simp [h]
    unfold bt
    rw [dif_pos h0]
    have : s[(0 : Int).toNat] = x := by
      show s.data[(0:Int).toNat] = x
      have h1 : 0 < s.data.size := by have : s.data.size = 1 := h; omega
      have := Array.getElem_toList (xs := s.data) (i := 0) h1
      simp only [Int.toNat_zero]
      rw [← this]
      simp [hx]
    rw [this]
  rw [e1, e2]
  refine ⟨?_, ?_, ?_⟩
  · simp [Op.bytesLess, UInt8.lt_iff_toNat_lt]
  · simp [Op.bytesLess, UInt8.lt_iff_toNat_lt]
  · rw [Bool.eq_iff_iff]; simp [← UInt8.toNat_inj]; omega
theorem iIsValidRelation_calls (w : World) (r : Rel) : Calls Tryz.prog 95 #[.agg #[.string r.1, .int .i64 r.2.1, .bool r.2.2]] w fun e w' => e = .returned (.bool (okRel r)) ∧ On w w' := by
  by_cases h1 : (r.1.size : Int) = 1
  · have h1b : ((r.1.size : Int) == 1) = true := beq_iff_eq.mpr h1
    have e1 : Op.bytesLess r.1.toList [97] = decide (bt r.1 0 < 97) := (str1_lt r.1 (by omega) 97).1
    have e2 : Op.bytesLess r.1.toList [122] = decide (bt r.1 0 < 122) := (str1_lt r.1 (by omega) 122).1
    have e3 : (r.1.toList == [122]) = decide (bt r.1 0 = 122) := (str1_lt r.1 (by omega) 122).2.2
    have e4 : (r.1.toList = [122]) = (bt r.1 0 = 122) := by
      apply propext; have := Bool.eq_iff_iff.1 e3; simpa using this
    go_enter Tryz.func95, Tryz.ntmps95
    go_wp2_with (go_at_call 49; refine (within_calls _ _ _ _).mono ?_; rintro e w2 ⟨rfl, hb2⟩)
    all_goals
      go_ret
      first | exact ⟨ret_bool (by rw [Bool.eq_iff_iff]; simp [okRel, within]; omega), (On.alloc (On.refl _) _).trans hb2⟩ | exact ⟨ret_bool (by simp [okRel]; omega), On.alloc (On.refl _) _⟩
  · have h1b : ((r.1.size : Int) == 1) = false := beq_eq_false_iff_ne.mpr h1
    go_enter Tryz.func95, Tryz.ntmps95
    go_wp2
    go_ret
    exact ⟨ret_bool (by simp [okRel]; omega), On.alloc (On.refl _) _⟩
theorem iAreValidRelations_calls (w : World) (A : Option Addr) (c : Nat) (l : List Rel) (h : Rels w A c l) : Calls Tryz.prog 78 #[.slice A l.length c] w fun e w' => e = .returned (.bool (okRels l)) ∧ On w w' := by
  have hmax := h.max
  go_enter Tryz.func78, Tryz.ntmps78
  go_wp2
  go_loopw [7] (fun v wr => ∃ k : Nat, k ≤ l.length ∧ v = .int .i64 k ∧ Hid (relsFrom (prevName l k) (l.drop k) = relsFrom none l) ∧ On w wr) (fun v _ => l.length - (intOf v).toNat)
  case atStart => exact ⟨0, Nat.zero_le _, rfl, rfl, On.refl _⟩
  case round =>
    obtain ⟨k, hk, rfl, hp, hB⟩ := hrel
    by_cases hlt : k < l.length
    · obtain ⟨ad, rfl, hx0, hx1, hx2⟩ := (h.on hB).at k hlt
      have hp' := Aside0.mk ((relsFrom_step l k hlt).symm.trans hp.out)
      have hfill := alloc_fill3 wr
      have hbx := Aside0.mk (On.alloc (On.refl wr) (.cells #[.string l[k].1, .int .i64 l[k].2.1, .bool l[k].2.2] 72))
      have hB2 := Aside0.mk (hB.trans hbx.out)
      have hcn := blk_cell (loc_new wr #[.string l[k].1, .int .i64 l[k].2.1, .bool l[k].2.2] 72)
      clear hp
      cases hok : okRel l[k] with
      | false =>
        have hok' := Aside0.mk hok
        clear hok
        go_wp2
        refine Reg.region [(0,.L),(1,.C),(2,.L),(3,.L),(4,.L),(5,.L),(6,.L),(7,.L),(8,.L),(9,.L),(10,.L),(11,.L),(12,.L),(13,.L),(14,.L),(15,.L),(16,.L),(17,.L)] [] (by kernel_rfl) (by kernel_rfl) ?_
        repeat first | refine sP ?_ | refine sS ?_ | refine sA ?_ | refine sL ?_ | refine sQ ?_ | refine sO ?_
        refine callC (.bool false) Tryz.func95 (fun w' hS => ?_) ?_
        focus exact (iIsValidRelation_calls w' l[k]).mono fun e w'' h => ⟨by rw [h.1, hok'.out], h.2⟩
        repeat first | refine sP ?_ | refine sS ?_ | refine sA ?_ | refine sL ?_ | refine sQ ?_ | refine sO ?_
        refine Reg.nil fun w2 hS => ?_
        go_wp2
        go_ret
        exact ⟨ret_bool (by have := hp'.out; rw [hok'.out] at this; simp at this; simp [okRels, this]), hB2.out.trans hS⟩
      | true =>
        have hok' := Aside0.mk hok
        clear hok
        by_cases hk0 : 0 < k
        · have hk0' : decide (0 < (k : Int)) = true := decide_eq_true (by omega)
          have hki : IntKind.i64.wrap ((k : Int) - 1) = ((k - 1 : Nat) : Int) := by rw [IntWalk.i64_in _ (by omega)]; omega
          have hk1 : k - 1 < l.length := by omega
          obtain ⟨ad', e', hy0, _, _⟩ := (h.on hB2.out).at (k - 1) hk1
          obtain rfl : ad = ad' := by simpa using e'
          have hpn : prevName l k = some l[k - 1].1 := by simp [prevName, show ¬ k = 0 by omega, show k - 1 < l.length by omega]
          rw [hpn] at hp'
          replace hp' : Aside0 ((okRel l[k] && strLt l[k - 1].1 l[k].1 && relsFrom (prevName l (k + 1)) (l.drop (k + 1))) = relsFrom none l) := hp'
          cases hs : strLt l[k - 1].1 l[k].1 with
          | true =>
            have hs1 : Op.bytesLess l[k - 1].1.toList l[k].1.toList = true := hs
            have hs2 := bl_asymm _ _ hs1
            have hs3 := bl_ne hs1
            have hs4 := bl_ne' hs1
            have hs' := Aside0.mk hs
            clear hs
            go_wp2
            refine Reg.region [(0,.L),(1,.C),(2,.L),(3,.L),(4,.L),(5,.L),(6,.L),(7,.L),(8,.L),(9,.L),(10,.L),(11,.L),(12,.L),(13,.L),(14,.L),(15,.L),(16,.L),(17,.L)] [] (by kernel_rfl) (by kernel_rfl) ?_
            repeat first | refine sP ?_ | refine sS ?_ | refine sA ?_ | refine sL ?_ | refine sQ ?_ | refine sO ?_
            refine callC (.bool true) Tryz.func95 (fun w' hS => ?_) ?_
            focus exact (iIsValidRelation_calls w' l[k]).mono fun e w'' h => ⟨by rw [h.1, hok'.out], h.2⟩
            repeat first | refine sP ?_ | refine sS ?_ | refine sA ?_ | refine sL ?_ | refine sQ ?_ | refine sO ?_
            refine Reg.nil fun w2 hS => ?_
            go_wp2
            go_roundw
            case rel => exact ⟨k + 1, by omega, by go_num, (by have := hp'.out; rw [hok'.out, hs'.out] at this; simpa using this : _ = _), hB2.out.trans hS⟩
            case measure => simp [intOf]; omega
          | false =>
            have hs1 : Op.bytesLess l[k - 1].1.toList l[k].1.toList = false := hs
            have hs2 := bl_total _ _ hs1
            have hs' := Aside0.mk hs
            clear hs
            go_wp2
            refine Reg.region [(0,.L),(1,.C),(2,.L),(3,.L),(4,.L),(5,.L),(6,.L),(7,.L),(8,.L),(9,.L),(10,.L),(11,.L),(12,.L),(13,.L),(14,.L),(15,.L),(16,.L),(17,.L)] [] (by kernel_rfl) (by kernel_rfl) ?_
            repeat first | refine sP ?_ | refine sS ?_ | refine sA ?_ | refine sL ?_ | refine sQ ?_ | refine sO ?_
            refine callC (.bool true) Tryz.func95 (fun w' hS => ?_) ?_
            focus exact (iIsValidRelation_calls w' l[k]).mono fun e w'' h => ⟨by rw [h.1, hok'.out], h.2⟩
            repeat first | refine sP ?_ | refine sS ?_ | refine sA ?_ | refine sL ?_ | refine sQ ?_ | refine sO ?_
            refine Reg.nil fun w2 hS => ?_
            go_wp2
            go_ret
            exact ⟨ret_bool (by have := hp'.out; rw [hok'.out, hs'.out] at this; simp at this; simp [okRels, this]), hB2.out.trans hS⟩
        · have hk0' : decide (0 < (k : Int)) = false := decide_eq_false (by omega)
          have hpn : prevName l k = none := by simp [prevName, show k = 0 by omega]
          rw [hpn] at hp'
          replace hp' : Aside0 ((okRel l[k] && true && relsFrom (prevName l (k + 1)) (l.drop (k + 1))) = relsFrom none l) := hp'
          go_wp2
          refine Reg.region [(0,.L),(1,.C),(2,.L),(3,.L),(4,.L),(5,.L),(6,.L),(7,.L),(8,.L),(9,.L),(10,.L),(11,.L),(12,.L),(13,.L),(14,.L),(15,.L),(16,.L),(17,.L)] [] (by kernel_rfl) (by kernel_rfl) ?_
          repeat first | refine sP ?_ | refine sS ?_ | refine sA ?_ | refine sL ?_ | refine sQ ?_ | refine sO ?_
          refine callC (.bool true) Tryz.func95 (fun w' hS => ?_) ?_
          focus exact (iIsValidRelation_calls w' l[k]).mono fun e w'' h => ⟨by rw [h.1, hok'.out], h.2⟩
          repeat first | refine sP ?_ | refine sS ?_ | refine sA ?_ | refine sL ?_ | refine sQ ?_ | refine sO ?_
          refine Reg.nil fun w2 hS => ?_
          go_wp2
          go_roundw
          case rel => exact ⟨k + 1, by omega, by go_num, (by have := hp'.out; rw [hok'.out] at this; simpa using this : _ = _), hB2.out.trans hS⟩
          case measure => simp [intOf]; omega
    · go_wp2
      go_ret
      have e1 : relsFrom none l = true := by rw [← hp.out, List.drop_of_length_le (by omega)]; cases prevName l k <;> rfl
      exact ⟨ret_bool (by simp [okRels, e1]; omega), hB⟩
end Go.Proofs.YtgemaohdlibboaaGreat.H
/- Walks: the program's own search: one fact mapped. No condition. -/
namespace Go.Proofs.YtgemaohdlibboaaGreat.H
open Go Go.RowKit Go.Proofs.YtgemaohdlibboaaGreatW.PrintWords Go.Proofs.YtgemaohdlibboaaGreatW.PrintLast
open Go.Proofs.YtgemaohdlibboaaGreat.Reg (On on_draw)
set_option maxHeartbeats 4000000
set_option maxRecDepth 100000
set_option linter.unusedVariables false
set_option linter.unusedSimpArgs false

theorem BM.mono {w : World} {b n n' : Nat} {z : List Int} (h : BM w b n z) (hn : n ≤ n') : BM w b n' z := by
  obtain ⟨D, h1, h2⟩ := h.out
  exact ⟨D, h1.mono hn, h2⟩
theorem bmClone_calls (w : World) (b n : Nat) (z : List Int) (h : BM w b n z) : Calls Tryz.prog 94 #[.map (some b)] w fun e w' => e = .returned (.map (some w.heap.size)) ∧ BM w' w.heap.size n z ∧ On w w' := by
  obtain ⟨D, ⟨es, clock, hb, F, hs, hD⟩, h2⟩ := h.out
  refine (mapClone_calls w b es clock hb).mono fun e w' hh => ?_
  obtain ⟨rfl, rfl⟩ := hh
  exact ⟨rfl, ⟨D, ⟨es, clock, (MapKept.heap_alloc w _).1, F, hs, hD⟩, h2⟩, On.alloc (On.refl w) _⟩
theorem mapped_calls (w : World) (b n : Nat) (A0 c0 A1 c1) (f g : Fct) (x : List Int) (h0 : Ints w A0 c0 f.2) (h1 : Ints w A1 c1 g.2) (h2 : BM w b n x) (hR : InR x) (hx : x.length = 40) (hg10 : ∀ v ∈ g.2, v ≠ 10) (hn : n + f.2.length < 1000000) :
    Calls Tryz.prog 76 #[.map (some b), .agg #[.int .i64 f.1, .slice A0 f.2.length c0], .agg #[.int .i64 g.1, .slice A1 g.2.length c1]] w (Got fun v w' => ∃ mv, v = .tuple #[mv, .bool (fit f g x).isSome] ∧ (∀ y, fit f g x = some y → ∃ b', mv = .map (some b') ∧ BM w' b' (n + f.2.length) y ∧ w.heap.size ≤ b' ∧ InR y ∧ y.length = 40) ∧ On w w') := by
  have hm0 := h0.max
  have hm1 := h1.max
  have hx' := Aside0.mk hx
  clear hx
  have hb := Aside0.mk (On.alloc (On.alloc (On.refl w) (.cells #[.int .i64 f.1, .slice A0 f.2.length c0] 54)) (.cells #[.int .i64 g.1, .slice A1 g.2.length c1] 54))
  have hL := Aside0.mk (loc2 w #[.int .i64 f.1, .slice A0 f.2.length c0] #[.int .i64 g.1, .slice A1 g.2.length c1] 54 54)
  have hsx := Aside0.mk (show ((w.alloc (.cells #[.int .i64 f.1, .slice A0 f.2.length c0] 54)).alloc (.cells #[.int .i64 g.1, .slice A1 g.2.length c1] 54)).heap.size = w.heap.size + 1 + 1 by simp)
  by_cases hr : f.1 = g.1
  · have hrb : (f.1 == g.1) = true := by simp [hr]
    have hrc : (f.1 != g.1) = false := by simp [bne, hrb]
    have hr' := Aside0.mk hr
    clear hr
    by_cases hl : f.2.length = g.2.length
    · have hlb : ((f.2.length : Int) == (g.2.length : Int)) = true := by simp [hl]
      have hlc : ((f.2.length : Int) != (g.2.length : Int)) = false := by simp [bne, hlb]
      have hld : (f.2.length == g.2.length) = true := by simp [hl]
      have hl' := Aside0.mk hl
      clear hl
      have hfit := Aside0.mk (show fit f g x = fitFrom f.2 g.2 x by unfold fit; rw [if_neg (by simp [hr'.out, hl'.out])])
      go_enter Tryz.func76, Tryz.ntmps76
      go_wp2_with (refine gate 31 ?_)
      clear hlb hlc hld hrb hrc
      obtain ⟨Wx, hWx⟩ : ∃ Wx, (w.alloc (.cells #[.int .i64 f.1, .slice A0 f.2.length c0] 54)).alloc (.cells #[.int .i64 g.1, .slice A1 g.2.length c1] 54) = Wx := ⟨_, rfl⟩
      rw [hWx] at hb hL hsx ⊢
      clear hWx
      refine ⟨goesF 31 Tryz.func94 ((bmClone_calls Wx b n x (h2.on hb.out)).mono ?_)⟩
      rintro e w3 ⟨rfl, hM3, hb3⟩
      refine ⟨_, rfl, ?_⟩
      have hBs := Aside0.mk hb3
      have hM3' := Aside0.mk hM3
      have hbz := Aside0.mk (show w.heap.size + 1 + 1 = Wx.heap.size from hsx.out.symm)
      obtain ⟨q, hq0⟩ : ∃ q, Wx.heap.size = q := ⟨_, rfl⟩
      have hq'0 := Aside0.mk hq0
      rw [hq0] at hM3' ⊢
      have hL3 := Aside0.mk (Loc.on hb3 hL.out)
      have hd0 := blk_cell hL3.out.1
      clear hb3 hM3 hq0
      go_wp2
      clear hd0
      go_loopw [35] (fun v wr => ∃ (k : Nat) (z : List Int), k ≤ f.2.length ∧ v = .int .i64 k ∧ Aside0 (fitFrom (f.2.drop k) (g.2.drop k) z = fitFrom f.2 g.2 x) ∧ Aside0 (z.length = x.length ∧ InR z) ∧ Aside0 (BM wr q (n + k) z) ∧ Aside0 (On Wx wr)) (fun v _ => f.2.length - (intOf v).toNat)
      case atStart => exact ⟨0, x, Nat.zero_le _, rfl, ⟨rfl⟩, ⟨rfl, hR⟩, hM3', hBs⟩
      case round =>
        obtain ⟨k, z, hk, rfl, hp, hz, hM, hB⟩ := hrel
        have hBr := Aside0.mk (hb.out.trans hB.out)
        have hLr := Aside0.mk (Loc.on hB.out hL.out)
        have hd0 := blk_cell hLr.out.1
        have hd1 := blk_cell hLr.out.2.1
        by_cases hlt : k < f.2.length
        · have hlt2 : k < g.2.length := by have := hl'.out; omega
          obtain ⟨ad, rfl, hx1⟩ := (h0.on hBr.out).at k hlt
          obtain ⟨bd, rfl, hy1⟩ := (h1.on hBr.out).at k hlt2
          have hbd := h0.bd k hlt
          have hgd := Aside0.mk (h1.bd k hlt2)
          have hst := Aside0.mk ((fitFrom_step f.2 g.2 z k hlt hlt2).symm.trans hp.out)
          clear hp
          have hu10 := Aside0.mk (show g.2[k] ≠ 10 from hg10 _ (List.getElem_mem hlt2))
          cases hv : isNul f.2[k] with
          | false =>
            have hv' := Aside0.mk hv
            have hm := Aside0.mk (show nulNum f.2[k] = (nulNum f.2[k]) from rfl)
            clear hv
            by_cases hq : f.2[k] = g.2[k]
            · have hq2 : (f.2[k] != g.2[k]) = false := by simp [bne, hq]
              have hq3 : (f.2[k] == g.2[k]) = true := by simp [hq]
              have hq' := Aside0.mk hq
              clear hq
              go_wp2_with (
                (go_at_call 82; refine (iNullNumber_calls _ _ hbd).mono ?_; rintro e w2 ⟨rfl, hb2⟩; rw [hv'.out, hm.out]; have hL2 := Aside0.mk (Loc.on hb2 hLr.out); have hd0 := blk_cell hL2.out.1; have hd1 := blk_cell hL2.out.2.1; replace hx1 := (hb2.eq _ (by rw [hx1]; rfl)).trans hx1; replace hy1 := (hb2.eq _ (by rw [hy1]; rfl)).trans hy1)
                )
              have hn : nxt z f.2[k] g.2[k] = some z := by unfold nxt; rw [hv'.out]; simp [hq'.out]
              exact ⟨⟨k + 1, z, by omega, by go_num, ⟨by rw [← hst.out, hn]; rfl⟩, hz, ⟨(hM.out.on hb2).mono (by omega)⟩, ⟨hB.out.trans hb2⟩⟩, by simp [intOf]; omega⟩
            · have hq2 : (f.2[k] != g.2[k]) = true := by simp [bne]; exact hq
              have hq3 : (f.2[k] == g.2[k]) = false := by simpa using hq
              have hq' := Aside0.mk hq
              clear hq
              go_wp2_with (
                (go_at_call 82; refine (iNullNumber_calls _ _ hbd).mono ?_; rintro e w2 ⟨rfl, hb2⟩; rw [hv'.out, hm.out]; have hL2 := Aside0.mk (Loc.on hb2 hLr.out); have hd0 := blk_cell hL2.out.1; have hd1 := blk_cell hL2.out.2.1; replace hx1 := (hb2.eq _ (by rw [hx1]; rfl)).trans hx1; replace hy1 := (hb2.eq _ (by rw [hy1]; rfl)).trans hy1)
                )
              go_ret2
              have hn : nxt z f.2[k] g.2[k] = none := by unfold nxt; rw [hv'.out]; simp [hq'.out]
              have hno : fit f g x = none := by rw [hfit.out, ← hst.out, hn]; rfl
              exact ⟨_, rfl, (.map none), by rw [hno]; rfl, fun y hy => (by rw [hno] at hy; cases hy), hBr.out.trans hb2⟩
          | true =>
            obtain ⟨m, hm0, hm40⟩ : ∃ m : Nat, nulNum f.2[k] = (m : Int) ∧ m < 40 := by
              refine ⟨(nulNum f.2[k]).toNat, ?_, ?_⟩ <;> (unfold nulNum; rw [hv]; simp only [isNul, decide_eq_true_eq] at hv; simp only [if_true]; omega)
            have hm := Aside0.mk hm0
            have hv' := Aside0.mk hv
            have hzl := Aside0.mk (hz.out.1.trans hx'.out)
            have hm4 := Aside0.mk hm40
            have hget := Aside0.mk (show (nulNum f.2[k]).toNat = m by rw [hm0]; rfl)
            clear hv hm0 hm40
            by_cases h10 : z.getD m 10 = 10
            · have h10' := Aside0.mk h10
              clear h10
              go_wp2_with (first
                |
                (go_at_call 82; refine (iNullNumber_calls _ _ hbd).mono ?_; rintro e w2 ⟨rfl, hb2⟩; rw [hv'.out, hm.out]; have hL2 := Aside0.mk (Loc.on hb2 hLr.out); have hd0 := blk_cell hL2.out.1; have hd1 := blk_cell hL2.out.2.1; replace hx1 := (hb2.eq _ (by rw [hx1]; rfl)).trans hx1; replace hy1 := (hb2.eq _ (by rw [hy1]; rfl)).trans hy1)
                | (refine gate 58 ?_))
              refine ⟨bmLookOk 58 (hM.out.on hb2) m hm4.out ?_⟩
              rw [if_pos h10'.out, show decide (z.getD m 10 ≠ 10) = false from decide_eq_false (fun h => h h10'.out)]
              go_wp2_with (at_mapUpdate; refine bmSet (hM.out.on hb2) (by omega) m hm4.out hzl.out g.2[k] hu10.out hgd.out (fun w6 h6 hg6 => ?_))
              have hn : nxt z f.2[k] g.2[k] = some (z.set m g.2[k]) := by unfold nxt; rw [hv'.out, if_pos rfl, hget.out, if_neg (fun h => by first | exact h.1 h10'.out | exact h.2 hq'.out)]
              exact ⟨⟨k + 1, z.set m g.2[k], by omega, by go_num, ⟨by rw [← hst.out, hn]; rfl⟩, ⟨by rw [List.length_set]; exact hz.out.1, inR_set hz.out.2 hgd.out⟩, ⟨h6⟩, ⟨on_grown (hB.out.trans hb2) hg6 (fun j hj => by injection hj with hj; have := hq'0.out; omega)⟩⟩, by simp [intOf]; omega⟩
            · by_cases hq : z.getD m 10 = g.2[k]
              · have h10' := Aside0.mk h10
                have hq' := Aside0.mk hq
                have hq2 : (g.2[k] != g.2[k]) = false := by simp
                clear h10 hq
                go_wp2_with (first
                  |
                  (go_at_call 82; refine (iNullNumber_calls _ _ hbd).mono ?_; rintro e w2 ⟨rfl, hb2⟩; rw [hv'.out, hm.out]; have hL2 := Aside0.mk (Loc.on hb2 hLr.out); have hd0 := blk_cell hL2.out.1; have hd1 := blk_cell hL2.out.2.1; replace hx1 := (hb2.eq _ (by rw [hx1]; rfl)).trans hx1; replace hy1 := (hb2.eq _ (by rw [hy1]; rfl)).trans hy1)
                  | (refine gate 58 ?_))
                refine ⟨bmLookOk 58 (hM.out.on hb2) m hm4.out ?_⟩
                rw [if_neg h10'.out, show decide (z.getD m 10 ≠ 10) = true from decide_eq_true h10'.out, hq'.out]
                go_wp2_with (at_mapUpdate; refine bmSet (hM.out.on hb2) (by omega) m hm4.out hzl.out g.2[k] hu10.out hgd.out (fun w6 h6 hg6 => ?_))
                have hn : nxt z f.2[k] g.2[k] = some (z.set m g.2[k]) := by unfold nxt; rw [hv'.out, if_pos rfl, hget.out, if_neg (fun h => by first | exact h.1 h10'.out | exact h.2 hq'.out)]
                exact ⟨⟨k + 1, z.set m g.2[k], by omega, by go_num, ⟨by rw [← hst.out, hn]; rfl⟩, ⟨by rw [List.length_set]; exact hz.out.1, inR_set hz.out.2 hgd.out⟩, ⟨h6⟩, ⟨on_grown (hB.out.trans hb2) hg6 (fun j hj => by injection hj with hj; have := hq'0.out; omega)⟩⟩, by simp [intOf]; omega⟩
              · have h10' := Aside0.mk h10
                have hq' := Aside0.mk hq
                obtain ⟨c, hc⟩ : ∃ c, z.getD m 10 = c := ⟨_, rfl⟩
                rw [hc] at hq
                have hc' := Aside0.mk hc
                have hq2 : (c != g.2[k]) = true := by simp [bne]; exact hq
                have hq3 : (c == g.2[k]) = false := by simpa using hq
                clear h10 hq hc
                go_wp2_with (first
                  |
                  (go_at_call 82; refine (iNullNumber_calls _ _ hbd).mono ?_; rintro e w2 ⟨rfl, hb2⟩; rw [hv'.out, hm.out]; have hL2 := Aside0.mk (Loc.on hb2 hLr.out); have hd0 := blk_cell hL2.out.1; have hd1 := blk_cell hL2.out.2.1; replace hx1 := (hb2.eq _ (by rw [hx1]; rfl)).trans hx1; replace hy1 := (hb2.eq _ (by rw [hy1]; rfl)).trans hy1)
                  | (refine gate 58 ?_))
                refine ⟨bmLookOk 58 (hM.out.on hb2) m hm4.out ?_⟩
                rw [if_neg h10'.out, show decide (z.getD m 10 ≠ 10) = true from decide_eq_true h10'.out, hc'.out]
                go_wp2
                go_ret2
                have hn : nxt z f.2[k] g.2[k] = none := by unfold nxt; rw [hv'.out, if_pos rfl, hget.out, if_pos ⟨h10'.out, hq'.out⟩]
                have hno : fit f g x = none := by rw [hfit.out, ← hst.out, hn]; rfl
                exact ⟨_, rfl, (.map none), by rw [hno]; rfl, fun y hy => (by rw [hno] at hy; cases hy), hBr.out.trans hb2⟩
        · have hfin := Aside0.mk (show fit f g x = some z by rw [hfit.out, ← hp.out, List.drop_of_length_le (by omega)]; rfl)
          go_wp2
          go_ret2
          refine ⟨_, rfl, .map (some q), by rw [hfin.out]; rfl, fun y hy => ?_, hBr.out⟩
          rw [hfin.out] at hy
          obtain rfl : z = y := Option.some.inj hy
          exact ⟨q, rfl, hM.out.mono (by omega), by have h1 := hq'0.out; have h2 := hsx.out; omega, hz.out.2, hz.out.1.trans hx'.out⟩
    · have hlb : ((f.2.length : Int) == (g.2.length : Int)) = false := by rw [beq_eq_false_iff_ne]; omega
      have hlc : ((f.2.length : Int) != (g.2.length : Int)) = true := by simp [bne, hlb]
      have hld : (f.2.length == g.2.length) = false := by simpa using hl
      have hno := Aside0.mk (show fit f g x = none by unfold fit; rw [if_pos (.inr hl)])
      clear hl
      go_enter Tryz.func76, Tryz.ntmps76
      go_wp2
      go_ret2
      exact ⟨_, rfl, (.map none), by rw [hno.out]; rfl, fun y hy => (by rw [hno.out] at hy; cases hy), hb.out⟩
  · have hrb : (f.1 == g.1) = false := by simpa using hr
    have hrc : (f.1 != g.1) = true := by simp [bne, hrb]
    have hno := Aside0.mk (show fit f g x = none by unfold fit; rw [if_pos (.inl hr)])
    clear hr
    go_enter Tryz.func76, Tryz.ntmps76
    go_wp2
    go_ret2
    exact ⟨_, rfl, (.map none), by rw [hno.out]; rfl, fun y hy => (by rw [hno.out] at hy; cases hy), hb.out⟩
end Go.Proofs.YtgemaohdlibboaaGreat.H
/- The shelf's maps.Keys and slices.Sorted at this program: the facts they ask. Printed by a program of this session. No condition. -/
namespace Go.Proofs.YtgemaohdlibboaaGreat.H
open Go Go.RowKit Go.Shelf Go.Proofs.YtgemaohdlibboaaGreatW.PrintWords
set_option maxRecDepth 100000
def keysRen : Go.Shelf.Ren := ⟨fun | 6 => 74 | 7 => 75 | 8 => 92 | 9 => 83 | 10 => 93 | 11 => 103 | n => n, fun | 0 => 0 | 3 => 3 | 4 => 4 | 23 => 69 | 24 => 30 | 26 => 3 | 27 => 95 | 28 => 96 | 33 => 74 | n => n, fun | n => n⟩
theorem laysKeys : Go.Proofs.SlLaysZI.n7 Tryz.prog keysRen := {
  mixed := by kernel_rfl
  f7 := ⟨Tryz.f75.name, by decide, Tryz.func75.trans (congrArg some (by kernel_rfl))⟩
  f10 := ⟨Tryz.f93.name, by decide, Tryz.func93.trans (congrArg some (by kernel_rfl))⟩
  t0 := Tryz.underlying0
  a0 := Tryz.isAgg0
  z0 := Tryz.sizeOf0
  v0 := Tryz.zeroValue0
  t4 := Tryz.underlying4
  a4 := Tryz.isAgg4
  z4 := Tryz.sizeOf4
  v4 := Tryz.zeroValue4
  t23 := Tryz.underlying69
  a23 := Tryz.isAgg69
  z23 := Tryz.sizeOf69
  v23 := Tryz.zeroValue69
  t26 := Tryz.underlying3
  a26 := Tryz.isAgg3
  z26 := Tryz.sizeOf3
  v26 := Tryz.zeroValue3
  t27 := Tryz.underlying95
  a27 := Tryz.isAgg95
  z27 := Tryz.sizeOf95
  v27 := Tryz.zeroValue95
  t28 := Tryz.underlying96
  a28 := Tryz.isAgg96
  z28 := Tryz.sizeOf96
  v28 := Tryz.zeroValue96
  t33 := Tryz.underlying74
  a33 := Tryz.isAgg74
  z33 := Tryz.sizeOf74
  v33 := Tryz.zeroValue74 }
theorem laysSorted : Go.Proofs.SlLaysZI.n6 Tryz.prog keysRen := {
  mixed := by kernel_rfl
  f6 := ⟨Tryz.f74.name, by decide, Tryz.func74.trans (congrArg some (by kernel_rfl))⟩
  f8 := ⟨Tryz.f92.name, by decide, Tryz.func92.trans (congrArg some (by kernel_rfl))⟩
  f11 := ⟨Tryz.f103.name, by decide, Tryz.func103.trans (congrArg some (by kernel_rfl))⟩
  t0 := Tryz.underlying0
  a0 := Tryz.isAgg0
  z0 := Tryz.sizeOf0
  v0 := Tryz.zeroValue0
  t24 := Tryz.underlying30
  a24 := Tryz.isAgg30
  z24 := Tryz.sizeOf30
  v24 := Tryz.zeroValue30
  t26 := Tryz.underlying3
  a26 := Tryz.isAgg3
  z26 := Tryz.sizeOf3
  v26 := Tryz.zeroValue3
  t28 := Tryz.underlying96
  a28 := Tryz.isAgg96
  z28 := Tryz.sizeOf96
  v28 := Tryz.zeroValue96
  i26 := by kernel_rfl }
end Go.Proofs.YtgemaohdlibboaaGreat.H
/- Sorted, each once: plain. No condition. -/
namespace Go.Proofs.YtgemaohdlibboaaGreat.H
open Go Go.RowKit Go.Proofs.YtgemaohdlibboaaGreatW.PrintWords Go.Proofs.YtgemaohdlibboaaGreatW.PrintLast
open Go.Proofs.YtgemaohdlibboaaGreat.Reg (On on_draw)
set_option maxHeartbeats 1000000
set_option linter.unusedVariables false
set_option linter.unusedSimpArgs false

theorem mem_put (x z : Int) : ∀ l : List Int, z ∈ put l x ↔ z = x ∨ z ∈ l
  | [] => by simp [put]
  | y :: l => by
    unfold put
    by_cases c : y < x
    · rw [if_pos c, List.mem_cons, List.mem_cons, mem_put x z l]
      constructor <;> rintro (h | h | h) <;> simp [h]
    · rw [if_neg c]
      by_cases c2 : y = x
      · rw [if_pos c2]; subst c2; simp
      · rw [if_neg c2]; simp
theorem put_up (x : Int) : ∀ l : List Int, l.Pairwise (· < ·) → (put l x).Pairwise (· < ·)
  | [], _ => by simp [put]
  | y :: l, h => by
    rw [List.pairwise_cons] at h
    unfold put
    by_cases c : y < x
    · rw [if_pos c, List.pairwise_cons]
      refine ⟨fun z hz => ?_, put_up x l h.2⟩
      rcases (mem_put x z l).1 hz with rfl | hz
      · exact c
      · exact h.1 z hz
    · rw [if_neg c]
      by_cases c2 : y = x
      · rw [if_pos c2, List.pairwise_cons]; exact h
      · rw [if_neg c2, List.pairwise_cons, List.pairwise_cons]
        refine ⟨fun z hz => ?_, h⟩
        rcases List.mem_cons.1 hz with rfl | hz
        · omega
        · have := h.1 z hz; omega
/-- Two ascending lists with the same elements are one. -/
theorem up_ext : ∀ a b : List Int, a.Pairwise (· < ·) → b.Pairwise (· < ·) → (∀ x, x ∈ a ↔ x ∈ b) → a = b
  | [], [], _, _, _ => rfl
  | [], y :: b, _, _, h => absurd ((h y).2 (by simp)) (by simp)
  | x :: a, [], _, _, h => absurd ((h x).1 (by simp)) (by simp)
  | x :: a, y :: b, ha, hb, h => by
    rw [List.pairwise_cons] at ha hb
    have e : x = y := by
      rcases List.mem_cons.1 ((h x).1 (by simp)) with e | hx
      · exact e
      · rcases List.mem_cons.1 ((h y).2 (by simp)) with e | hy
        · exact e.symm
        · have h1 := hb.1 x hx
          have h2 := ha.1 y hy
          omega
    subst e
    rw [up_ext a b ha.2 hb.2 (fun z => ?_)]
    constructor
    · intro hz
      rcases List.mem_cons.1 ((h z).1 (List.mem_cons_of_mem _ hz)) with e | hz'
      · have := ha.1 z hz; omega
      · exact hz'
    · intro hz
      rcases List.mem_cons.1 ((h z).2 (List.mem_cons_of_mem _ hz)) with e | hz'
      · have := hb.1 z hz; omega
      · exact hz'
/-- An array in order, of which neighbours that are equal go: ascending, each once. -/
theorem compactUpTo_up (d : Array Int) (hs : ∀ i j, i < j → j < d.size → d[i]! ≤ d[j]!) : ∀ m, m ≤ d.size → (Go.Lib.compactUpTo d m).Pairwise (· < ·) ∧ (∀ x, x ∈ Go.Lib.compactUpTo d m ↔ ∃ j, j < m ∧ d[j]! = x) := by
  intro m
  induction m with
  | zero => intro _; simp [Go.Lib.compactUpTo]
  | succ m ih =>
    intro hm
    obtain ⟨h1, h2⟩ := ih (by omega)
    rw [Go.Lib.compactUpTo_succ]
    by_cases c : Go.Lib.keeps d m = true
    · rw [if_pos c]
      have hk : m = 0 ∨ d[m]! ≠ d[m - 1]! := by simpa [Go.Lib.keeps] using c
      refine ⟨?_, fun x => ?_⟩
      · rw [List.pairwise_append]
        refine ⟨h1, by simp, fun x hx y hy => ?_⟩
        obtain rfl : y = d[m]! := by simpa using hy
        obtain ⟨j, hj, rfl⟩ := (h2 x).1 hx
        rcases hk with hk | hk
        · omega
        · have a1 : d[m - 1]! ≤ d[m]! := hs (m - 1) m (by omega) (by omega)
          have a2 : d[j]! ≤ d[m - 1]! := by
            by_cases e : j = m - 1
            · rw [e]; exact Int.le_refl _
            · exact hs j (m - 1) (by omega) (by omega)
          omega
      · rw [List.mem_append, h2]
        constructor
        · rintro (⟨j, hj, e⟩ | h)
          · exact ⟨j, by omega, e⟩
          · exact ⟨m, by omega, (List.mem_singleton.1 h).symm⟩
        · rintro ⟨j, hj, e⟩
          by_cases c2 : j = m
          · subst c2; exact .inr (by simp [e])
          · exact .inl ⟨j, by omega, e⟩
    · rw [if_neg c, List.append_nil]
      refine ⟨h1, fun x => ?_⟩
      have hk : ¬ (m = 0 ∨ d[m]! ≠ d[m - 1]!) := by simpa [Go.Lib.keeps] using c
      have hm0 : m ≠ 0 := fun e => hk (.inl e)
      have he : d[m]! = d[m - 1]! := by
        by_cases e : d[m]! = d[m - 1]!
        · exact e
        · exact absurd (.inr e) hk
      rw [h2]
      constructor
      · rintro ⟨j, hj, e⟩; exact ⟨j, by omega, e⟩
      · rintro ⟨j, hj, e⟩
        by_cases c2 : j = m
        · subst c2; exact ⟨j - 1, by omega, by rw [← he]; exact e⟩
        · exact ⟨j, by omega, e⟩
/-- Sorted, then made sparse: what the two library calls come to. -/
def sortU (l : List Int) : List Int := Go.Lib.compact (l.mergeSort fun x y => decide (x ≤ y))
theorem sortU_up (l : List Int) : (sortU l).Pairwise (· < ·) ∧ ∀ x, x ∈ sortU l ↔ x ∈ l := by
  have hp := List.mergeSort_perm l (fun x y : Int => decide (x ≤ y))
  have ho : (l.mergeSort fun x y : Int => decide (x ≤ y)).Pairwise (fun x y => decide (x ≤ y) = true) := List.pairwise_mergeSort (fun a b c h1 h2 => by simp at *; omega) (fun a b => by simp; omega) l
  unfold sortU
  generalize hs : (l.mergeSort fun x y : Int => decide (x ≤ y)) = s at hp ho
  have hg : ∀ j, (h : j < s.length) → (s.toArray)[j]! = s[j] := fun j h => by simp [h]
  have h := compactUpTo_up s.toArray (fun i j hij hj => by
    have hj' : j < s.length := by simpa using hj
    rw [hg i (by omega), hg j hj']
    have := (List.pairwise_iff_getElem.1 ho) i j (by omega) hj' hij
    simpa using this) s.length (by simp)
  refine ⟨h.1, fun x => ?_⟩
  unfold Go.Lib.compact
  rw [h.2]
  rw [← hp.mem_iff]
  constructor
  · rintro ⟨j, hj, e⟩
    rw [hg j hj] at e
    exact e ▸ List.getElem_mem hj
  · intro hx
    obtain ⟨j, hj, e⟩ := List.mem_iff_getElem.1 hx
    exact ⟨j, hj, by rw [hg j hj]; exact e⟩
theorem up_len : ∀ (l : List Int) (a : Int) (b : Nat), l.Pairwise (· < ·) → (∀ x ∈ l, a ≤ x ∧ x < a + b) → l.length ≤ b
  | [], _, _, _, _ => Nat.zero_le _
  | x :: l, a, b, h, hb => by
    rw [List.pairwise_cons] at h
    have hx := hb x (by simp)
    have := up_len l (x + 1) ((a + b - (x + 1)).toNat) h.2 (fun y hy => by
      have h1 := h.1 y hy
      have h2 := hb y (List.mem_cons_of_mem _ hy)
      omega)
    simp only [List.length_cons]
    omega
/-- The numbers of the nulls, as they come. -/
def nulSeq (vs : List Int) : List Int := (vs.filter isNul).map nulNum
theorem nulSeq_cons (v : Int) (vs : List Int) : nulSeq (v :: vs) = (if isNul v then nulNum v :: nulSeq vs else nulSeq vs) := by
  unfold nulSeq; rw [List.filter_cons]; split <;> simp
theorem nulsFrom_up (vs out : List Int) (h : out.Pairwise (· < ·)) : (nulsFrom out vs).Pairwise (· < ·) ∧ ∀ x, x ∈ nulsFrom out vs ↔ x ∈ out ∨ x ∈ nulSeq vs := by
  induction vs generalizing out with
  | nil => exact ⟨h, fun x => by simp [nulsFrom, nulSeq]⟩
  | cons v vs ih =>
    rw [nulSeq_cons]
    unfold nulsFrom
    by_cases c : isNul v = true
    · rw [if_pos c, if_pos c]
      obtain ⟨h1, h2⟩ := ih _ (put_up (nulNum v) out h)
      refine ⟨h1, fun x => ?_⟩
      rw [h2, mem_put, List.mem_cons]
      constructor
      · rintro ((h | h) | h)
        · exact .inr (.inl h)
        · exact .inl h
        · exact .inr (.inr h)
      · rintro (h | h | h)
        · exact .inl (.inr h)
        · exact .inl (.inl h)
        · exact .inr h
    · rw [if_neg c, if_neg c]
      exact ih out h
theorem nuls_sort (vs : List Int) : sortU (nulSeq vs) = nuls vs := by
  obtain ⟨h1, h2⟩ := nulsFrom_up vs [] (by simp)
  obtain ⟨h3, h4⟩ := sortU_up (nulSeq vs)
  exact up_ext _ _ h3 h1 fun x => by rw [h4]; unfold nuls; rw [h2]; simp
theorem putAll_up (l out : List Int) (h : out.Pairwise (· < ·)) : (putAll out l).Pairwise (· < ·) ∧ ∀ x, x ∈ putAll out l ↔ x ∈ out ∨ x ∈ l := by
  induction l generalizing out with
  | nil => exact ⟨h, fun x => by simp [putAll]⟩
  | cons y l ih =>
    unfold putAll
    obtain ⟨h1, h2⟩ := ih _ (put_up y out h)
    refine ⟨h1, fun x => ?_⟩
    rw [h2, mem_put, List.mem_cons]
    constructor
    · rintro ((h | h) | h)
      · exact .inr (.inl h)
      · exact .inl h
      · exact .inr (.inr h)
    · rintro (h | h | h)
      · exact .inl (.inr h)
      · exact .inl (.inl h)
      · exact .inr h
/-- All values of some facts. -/
def valsOf (fs : List Fct) : List Int := fs.flatMap fun f => f.2
theorem nulSeq_append (a b : List Int) : nulSeq (a ++ b) = nulSeq a ++ nulSeq b := by simp [nulSeq]
theorem nulsIFrom_up (fs : List Fct) (out : List Int) (h : out.Pairwise (· < ·)) : (nulsIFrom out fs).Pairwise (· < ·) ∧ ∀ x, x ∈ nulsIFrom out fs ↔ x ∈ out ∨ x ∈ nulSeq (valsOf fs) := by
  induction fs generalizing out with
  | nil => exact ⟨h, fun x => by simp [nulsIFrom, valsOf, nulSeq]⟩
  | cons f fs ih =>
    unfold nulsIFrom
    obtain ⟨p1, p2⟩ := putAll_up (nuls f.2) out h
    obtain ⟨h1, h2⟩ := ih _ p1
    obtain ⟨_, q2⟩ := nulsFrom_up f.2 [] (by simp)
    refine ⟨h1, fun x => ?_⟩
    have e : valsOf (f :: fs) = f.2 ++ valsOf fs := rfl
    rw [h2, p2, e, nulSeq_append, List.mem_append]
    have q3 := q2 x
    simp only [List.not_mem_nil, false_or] at q3
    unfold nuls
    rw [q3]
    exact or_assoc
theorem nulsI_sort (fs : List Fct) : sortU (nulSeq (valsOf fs)) = nulsI fs := by
  obtain ⟨h1, h2⟩ := nulsIFrom_up fs [] (by simp)
  obtain ⟨h3, h4⟩ := sortU_up (nulSeq (valsOf fs))
  exact up_ext _ _ h3 h1 fun x => by rw [h4]; unfold nulsI; rw [h2]; simp
theorem nulSeq_ok (vs : List Int) : (∀ x ∈ nulSeq vs, 0 ≤ x ∧ x ≤ 39) ∧ (nulSeq vs).length ≤ vs.length := by
  refine ⟨fun x hx => ?_, ?_⟩
  · obtain ⟨v, _, rfl⟩ := List.mem_map.1 hx
    exact nulNum_bd v
  · unfold nulSeq; rw [List.length_map]; exact List.length_filter_le _ _
end Go.Proofs.YtgemaohdlibboaaGreat.H
/- Walks: the program's own nulls; the library's sorting over its shelf. No condition. -/
namespace Go.Proofs.YtgemaohdlibboaaGreat.H
open Go Go.RowKit Go.Proofs.YtgemaohdlibboaaGreatW.PrintWords Go.Proofs.YtgemaohdlibboaaGreatW.PrintLast
open Go.Proofs.YtgemaohdlibboaaGreat.Reg (On on_draw)
set_option maxHeartbeats 1000000
set_option maxRecDepth 100000
set_option linter.unusedVariables false
set_option linter.unusedSimpArgs false

theorem own_setCells {base g n cap : Nat} {e : TypeId} : ∀ (ys : List Value) (i : Nat) (xs : List Value) (W : World), W.ownsRow base e 1 (.slice (some ⟨g, 0, none⟩) n cap) n xs → i + ys.length ≤ n →
    (W.setCells g i ys).ownsRow base e 1 (.slice (some ⟨g, 0, none⟩) n cap) n (xs.take i ++ ys ++ xs.drop (i + ys.length)) ∧ W.grownBy (W.setCells g i ys) (some g)
  | [], i, xs, W, h, _ => ⟨by simpa [World.setCells] using h, World.grownBy.refl W _⟩
  | y :: ys, i, xs, W, h, hl => by
    have hx : xs.length = n := by have := h.1; omega
    simp only [List.length_cons] at hl
    obtain ⟨h1, g1⟩ := h.stored i y
    obtain ⟨h2, g2⟩ := own_setCells ys (i + 1) _ _ h1 (by omega)
    refine ⟨?_, World.grownBy.trans g1 g2⟩
    have e : (xs.set i y).take (i + 1) ++ ys ++ (xs.set i y).drop (i + 1 + ys.length) = xs.take i ++ (y :: ys) ++ xs.drop (i + (y :: ys).length) := by
      rw [List.take_succ_eq_append_getElem (by simp; omega), List.take_set_of_le (Nat.le_refl _), List.getElem_set_self, List.drop_set_of_lt (by omega)]
      rw [show i + 1 + ys.length = i + (y :: ys).length by simp; omega]
      simp
    rw [e] at h2
    exact h2
theorem own_holds {base g cap : Nat} {e : TypeId} {w : World} {zs : List Int} (h : w.ownsRow base e 1 (.slice (some ⟨g, 0, none⟩) zs.length cap) zs.length (encs (Value.int .i64) zs)) : Go.Sort.Holds (Value.int .i64) w g 0 zs.toArray := by
  intro j hj
  have hj' : j < zs.length := by simpa using hj
  constructor
  · have hc := h.cells (g := g) rfl j (.int .i64 zs[j]) (by simp [encs, List.getElem?_eq_getElem hj'])
    rw [add_plain] at hc
    rw [Nat.zero_add, hc]
    simp [hj']
  · rcases h.2 with ⟨h', _⟩ | ⟨g', cap', cur, h', _, hh, _⟩
    · cases h'
    · have : g = g' := by injection h' with h'; injection h' with h'; injection h' with h'
      subst this
      simp [World.frozen?, hh]
theorem own_row {base g cap : Nat} {e : TypeId} {w : World} {zs ys : List Int} (q : Nat) (h : w.ownsRow base e 1 (.slice (some ⟨g, 0, none⟩) zs.length cap) zs.length (encs (Value.int .i64) zs)) (hl : ys.length = zs.length) :
    (Go.Sort.putRow (Value.int .i64) (Go.Sort.ahead w q) g 0 ys.toArray).ownsRow base e 1 (.slice (some ⟨g, 0, none⟩) zs.length cap) zs.length (encs (Value.int .i64) ys) ∧ w.grownBy (Go.Sort.putRow (Value.int .i64) (Go.Sort.ahead w q) g 0 ys.toArray) (some g) := by
  rw [Go.Lib.putRow_eq_setCells _ w g 0 zs.toArray ys q (own_holds h) (by simpa using hl)]
  have h1 : (w.drewN q).ownsRow base e 1 (.slice (some ⟨g, 0, none⟩) zs.length cap) zs.length (encs (Value.int .i64) zs) := own_move h (fun _ _ => rfl)
  obtain ⟨h2, g2⟩ := own_setCells (ys.map (Value.int .i64)) 0 _ _ h1 (by simp; omega)
  have e : (encs (Value.int .i64) zs).take 0 ++ ys.map (Value.int .i64) ++ (encs (Value.int .i64) zs).drop (0 + (ys.map (Value.int .i64)).length) = encs (Value.int .i64) ys := by
    rw [List.drop_of_length_le (by simp [encs]; omega)]
    simp [encs]
  rw [e] at h2
  exact ⟨h2, ⟨g2.os, g2.tape, g2.output, g2.size, g2.block⟩⟩
theorem grownBy_grow {w w1 : World} {row : Option Nat} (h : w.grownBy w1 row) (os : Array Obj) : w.grownBy (Go.Sort.grow w1 os) row := by
  refine ⟨h.os, h.tape, h.output, by have := h.size; simp [Go.Sort.grow]; omega, fun k hk hr => ?_⟩
  have hs := h.size
  show (w1.heap ++ os)[k]? = _
  rw [Array.getElem?_append_left (by omega)]
  exact h.block k hk hr
theorem own_grow {w : World} {base : Nat} {e : TypeId} {size n : Nat} {v : Value} {xs : List Value} (h : w.ownsRow base e size v n xs) (os : Array Obj) : (Go.Sort.grow w os).ownsRow base e size v n xs := by
  refine own_move h fun k hk => ?_
  have := own_lt h k hk
  show (w.heap ++ os)[k]? = _
  rw [Array.getElem?_append_left (by omega)]
theorem own_cut1 {base g cap n : Nat} {e : TypeId} {w : World} {xs : List Value} (h : w.ownsRow base e 1 (.slice (some ⟨g, 0, none⟩) n cap) n xs) (m : Nat) (hm : m ≤ n) : w.ownsRow base e 1 (.slice (some ⟨g, 0, none⟩) m cap) m (xs.take m) := by
  have hx : xs.length = n := by have := h.1; omega
  rcases h.2 with ⟨h', _⟩ | ⟨g', cap', cur, h', hg, hh, hnc, hcm, hcs, htk⟩
  · cases h'
  · injection h' with h1 h2 h3
    injection h1 with h1
    injection h1 with h1
    subst h1 h3
    refine ⟨by rw [List.length_take]; omega, .inr ⟨g, cap, cur, rfl, hg, hh, by omega, hcm, hcs, ?_⟩⟩
    rw [← htk, List.take_take]
    congr 1
    omega
theorem sortI_calls (w : World) (lo : Nat) (v : Value) (xs : List Int) (h : OI w lo v xs) (hl : xs.length < 1099511627776) : Calls Tryz.prog 83 #[v] w fun e w' => e = .returned (.tuple #[]) ∧ OI w' lo v (xs.mergeSort fun x y => decide (x ≤ y)) ∧ Ex (fun b => some b = v.ownBlock) w w' := by
  have hown : w.ownsRow lo 3 1 v xs.length (encs (Value.int .i64) xs) := by rw [encs_flat]; exact h
  rcases hown.2 with ⟨rfl, hn⟩ | ⟨g, cap, cur, rfl, hg, hh, hr⟩
  · obtain rfl : xs = [] := List.eq_nil_of_length_eq_zero hn
    refine (Tryz.slices_Sort_int_none none 0 w).mono fun e w' ⟨he, hw⟩ => ?_
    subst hw
    exact ⟨he, by simpa using h, Ex.refl _ _⟩
  · have hlt : g < w.heap.size := own_lt hown g rfl
    refine (Tryz.slices_Sort_int g 0 cap xs w (own_holds hown) hlt (by omega)).mono fun e w' ⟨he, n, os, hw⟩ => ?_
    obtain ⟨h1, g1⟩ := own_row (ys := xs.mergeSort fun x y => decide (x ≤ y)) n hown (by simp)
    have h2 := own_grow h1 os
    have g2 := grownBy_grow g1 os
    rw [← hw] at h2 g2
    refine ⟨he, ?_, Ex.of_grown g2⟩
    show World.ownsRow _ _ _ _ _ (xs.mergeSort fun x y => decide (x ≤ y)).length _
    rw [← encs_flat, List.length_mergeSort]
    exact h2
theorem compactI_calls (w : World) (lo : Nat) (v : Value) (xs : List Int) (h : OI w lo v xs) (hl : xs.length < 1099511627776) : Calls Tryz.prog 84 #[v] w (Got fun v1 w' => OI w' lo v1 (Go.Lib.compact xs) ∧ Ex (fun b => some b = v.ownBlock) w w') := by
  have hown : w.ownsRow lo 3 1 v xs.length (encs (Value.int .i64) xs) := by rw [encs_flat]; exact h
  rcases hown.2 with ⟨rfl, hn⟩ | ⟨g, cap, cur, rfl, hg, hh, hnc, hr⟩
  · obtain rfl : xs = [] := List.eq_nil_of_length_eq_zero hn
    refine (Tryz.slices_Compact_int_empty none 0 w).mono fun e w' ⟨he, hw⟩ => ?_
    subst hw
    exact ⟨_, he, by simpa [Go.Lib.compact, Go.Lib.compactUpTo] using h, Ex.refl _ _⟩
  · have hle := Go.Lib.compact_length_le xs
    refine (Tryz.slices_Compact_int g 0 cap xs w (own_holds hown) (by omega) hnc).mono fun e w' ⟨he, n, hw⟩ => ?_
    obtain ⟨h1, g1⟩ := own_row (ys := Go.Lib.compact xs ++ List.replicate (xs.length - (Go.Lib.compact xs).length) 0) n hown (by simp; omega)
    have h2 := own_cut1 h1 (Go.Lib.compact xs).length hle
    have e2 : (encs (Value.int .i64) (Go.Lib.compact xs ++ List.replicate (xs.length - (Go.Lib.compact xs).length) 0)).take (Go.Lib.compact xs).length = encs (Value.int .i64) (Go.Lib.compact xs) := by
      simp [encs]
    rw [e2] at h2
    rw [← hw] at h2 g1
    rw [encs_flat] at h2
    exact ⟨_, he, h2, Ex.of_grown g1⟩
theorem nullsOf_calls (w : World) (A c) (vs : List Int) (h : Ints w A c vs) (hl : vs.length ≤ 1000000000) : Calls Tryz.prog 51 #[.slice A vs.length c] w (Got fun v' w' => OI w' w.heap.size v' (sortU (nulSeq vs)) ∧ On w w') := by
  go_enter Tryz.func51, Tryz.ntmps51
  go_wp2
  go_loopw [3, 11] (fun v3 v11 wr => ∃ k : Nat, k ≤ vs.length ∧ v11 = .int .i64 k ∧ Aside0 (OInts wr w.heap.size v3 (nulSeq (vs.take k))) ∧ On w wr) (fun _ v11 _ => vs.length - (intOf v11).toNat)
  case atStart => exact ⟨0, Nat.zero_le _, rfl, ⟨own0' (by simp) (by simp)⟩, On.alloc (On.refl _) _⟩
  case round =>
    obtain ⟨k, hk, rfl, hO, hB⟩ := hrel
    by_cases hlt : k < vs.length
    · obtain ⟨ad, rfl, hx⟩ := (h.on hB).at k hlt
      have hbd := h.bd k hlt
      have hseq := Aside0.mk (show nulSeq (vs.take (k + 1)) = nulSeq (vs.take k) ++ (if isNul vs[k] then [nulNum vs[k]] else []) by rw [List.take_succ_eq_append_getElem hlt, nulSeq_append, nulSeq_cons]; split <;> rfl)
      have hlq := Aside0.mk (show (nulSeq (vs.take k)).length ≤ k by have := (nulSeq_ok (vs.take k)).2; rw [List.length_take] at this; omega)
      cases hn : isNul vs[k] with
      | false =>
        have hn' := Aside0.mk hn
        clear hn
        go_wp2_with (go_at_call 82; refine (iNullNumber_calls _ _ hbd).mono ?_; rintro e w2 ⟨rfl, hb2⟩; rw [hn'.out])
        exact ⟨⟨k + 1, by omega, by go_num, ⟨by rw [hseq.out, hn'.out]; simpa using OInts.on hO.out hb2⟩, hB.trans hb2⟩, by simp [intOf]; omega⟩
      | true =>
        have hn' := Aside0.mk hn
        clear hn
        go_wp2_with (first | (go_at_call 82; refine (iNullNumber_calls _ _ hbd).mono ?_; rintro e w2 ⟨rfl, hb2⟩; rw [hn'.out]) | (refine gate 24 ?_))
        have hBA := (hB.trans hb2).trans (On.alloc (On.refl w2) (.cells #[.int .i64 (nulNum vs[k])] 3))
        have hOA := OInts.on hO.out (hb2.trans (On.alloc (On.refl w2) (.cells #[.int .i64 (nulNum vs[k])] 3)))
        obtain ⟨ys, hys⟩ : ∃ ys, nulSeq (vs.take k) ++ [nulNum vs[k]] = ys := ⟨_, rfl⟩
        have hys' := Aside0.mk hys
        have hl2 : (nulSeq (vs.take k)).length + 1 ≤ 10000000000 := by have := hlq.out; omega
        refine ⟨apI 24 hys hOA (Kd.R_reads' (own1 w2 (nulNum vs[k]))).2.2 hBA.size hl2 fun v3 w3 hO3 hg3 hat3 => ?_⟩
        clear hys
        have hB3 := grown_own hBA hOA hg3 (Nat.le_refl _)
        clear hl2 hat3
        go_wp2
        exact ⟨⟨k + 1, by omega, by go_num, ⟨by rw [hseq.out, hn'.out, if_pos rfl, hys'.out]; exact hO3⟩, hB3⟩, by simp [intOf]; omega⟩
    · have e1 : vs.take k = vs := List.take_of_length_le (by omega)
      rw [e1] at hO
      have hlq := (nulSeq_ok vs).2
      go_wp2_with (first | (go_at_call 83; refine (sortI_calls wr w.heap.size _ (nulSeq vs) (OI.of hO.out) (by omega)).mono ?_; rintro e w2 ⟨rfl, hO2, hE2⟩; have hO3 := Aside0.mk hO2; clear hO2) | (go_at_call 84; refine (compactI_calls w2 w.heap.size _ _ hO3.out (by rw [List.length_mergeSort]; omega)).mono ?_; rintro e w3 ⟨v3, rfl, hO4, hE4⟩))
      go_ret
      exact ⟨_, rfl, hO4, Ex.on (Ex.on hB hE2 (fun i e => own_base (OI.of hO.out) i e.symm)) hE4 (fun i e => own_base (OI.of hO.out) i e.symm)⟩
theorem iNullsOfFact_calls (w : World) (A c) (r : Int) (vs : List Int) (h : Ints w A c vs) (hl : vs.length ≤ 1000000000) : Calls Tryz.prog 81 #[.agg #[.int .i64 r, .slice A vs.length c]] w (Got fun v' w' => OI w' w.heap.size v' (nuls vs) ∧ On w w') := by
  have hb := Aside0.mk (On.alloc (On.refl w) (.cells #[.int .i64 r, .slice A vs.length c] 54))
  go_enter Tryz.func81, Tryz.ntmps81
  go_wp2_with (go_at_call 51; refine (nullsOf_calls _ A c vs (h.on hb.out) hl).mono ?_; rintro e w2 ⟨v, rfl, hO, hb2⟩; have hO' := Aside0.mk hO; clear hO)
  go_ret
  exact ⟨_, rfl, by rw [← nuls_sort]; exact own_lower hO'.out hb.out.size, hb.out.trans hb2⟩
theorem valsOf_take (fs : List Fct) (k : Nat) (h : k < fs.length) : valsOf (fs.take (k + 1)) = valsOf (fs.take k) ++ fs[k].2 := by
  unfold valsOf; rw [List.take_succ_eq_append_getElem h, List.flatMap_append]; simp
theorem valsOf_inR {fs : List Fct} (h : InF fs) : InR (valsOf fs) := fun x hx => by
  obtain ⟨f, hf, hx⟩ := List.mem_flatMap.1 hx
  exact h f hf x hx
theorem valsOf_len (fs : List Fct) : (valsOf fs).length ≤ wF fs := by
  unfold valsOf wF
  induction fs with
  | nil => simp
  | cons f fs ih => simp at ih ⊢; omega
theorem iNullsOfInstance_calls (w : World) (A0 n0 c0 A1 c1) (fs : List Fct) (h1 : Fcts w A1 c1 fs) (hl : wF fs ≤ 10000000) : Calls Tryz.prog 26 #[.agg #[.slice A0 n0 c0, .slice A1 fs.length c1]] w (Got fun v' w' => OI w' w.heap.size v' (nulsI fs) ∧ On w w') := by
  have hmax : fs.length ≤ 10000000 := by have := wF_len fs; omega
  go_enter Tryz.func26, Tryz.ntmps26
  go_wp2
  go_loopw [3, 10] (fun v3 v10 wr => ∃ k : Nat, k ≤ fs.length ∧ v10 = .int .i64 k ∧ Aside0 (OInts wr w.heap.size v3 (valsOf (fs.take k))) ∧ On w wr) (fun _ v10 _ => fs.length - (intOf v10).toNat)
  case atStart => exact ⟨0, Nat.zero_le _, rfl, ⟨own0' (by simp) (by simp)⟩, On.alloc (On.alloc (On.refl _) _) _⟩
  case round =>
    obtain ⟨k, hk, rfl, hO, hB⟩ := hrel
    by_cases hlt : k < fs.length
    · obtain ⟨ad, A3, c3, rfl, hx0, hx1, hx2'⟩ := (h1.on hB).at k hlt
      have hvt := Aside0.mk (valsOf_take fs k hlt)
      have hlv := Aside0.mk (show (valsOf (fs.take k)).length + fs[k].2.length ≤ 10000000000 by
        have h3 := valsOf_len (fs.take (k + 1)); rw [hvt.out, List.length_append] at h3
        have h4 := cF_take_le (lens fs) (k + 1); rw [cF_lens, ← List.map_take] at h4
        have h5 := cF_lens (fs.take (k + 1)); simp only [lens] at h5; omega)
      have hfill := alloc_fill wr
      have hcn := blk_cell (loc_new wr #[.int .i64 fs[k].1, .slice A3 fs[k].2.length c3] 54)
      have hbx := Aside0.mk (On.alloc (On.refl wr) (.cells #[.int .i64 fs[k].1, .slice A3 fs[k].2.length c3] 54))
      go_wp2_with (refine gate 17 ?_)
      obtain ⟨ys, hys⟩ : ∃ ys, valsOf (fs.take k) ++ fs[k].2 = ys := ⟨_, rfl⟩
      have hys' := Aside0.mk hys
      have hOA := OInts.on hO.out hbx.out
      have hBA := hB.trans hbx.out
      refine ⟨apI 17 hys hOA (hx2'.on hbx.out).2.1 hBA.size hlv.out fun v3 w3 hO3 hg3 hat3 => ?_⟩
      clear hys
      have hB3 := grown_own hBA hOA hg3 (Nat.le_refl _)
      clear hat3 hfill hcn
      go_wp2
      exact ⟨⟨k + 1, by omega, by go_num, ⟨by rw [hvt.out, hys'.out]; exact hO3⟩, hB3⟩, by simp [intOf]; omega⟩
    · have e1 : fs.take k = fs := List.take_of_length_le (by omega)
      rw [e1] at hO
      have hvl := valsOf_len fs
      have hOI := Aside0.mk (OI.of hO.out)
      obtain ⟨A5, c5, rfl, hI5⟩ := OInts.slice hO.out (valsOf_inR h1.2.2)
      go_wp2_with (go_at_call 51; refine (nullsOf_calls wr A5 c5 (valsOf fs) hI5 (by omega)).mono ?_; rintro e w2 ⟨v, rfl, hO2, hb2⟩)
      go_ret
      exact ⟨_, rfl, by rw [← nulsI_sort]; exact own_lower hO2 hB.size, hB.trans hb2⟩
end Go.Proofs.YtgemaohdlibboaaGreat.H
/- Walks: a map's keys, sorted. No condition. -/
namespace Go.Proofs.YtgemaohdlibboaaGreat.H
open Go Go.RowKit Go.Shelf Go.Maps Go.Sort Go.Proofs.YtgemaohdlibboaaGreatW.PrintWords
open Go.Proofs.YtgemaohdlibboaaGreat.Reg (On on_draw)
set_option maxHeartbeats 1000000
set_option maxRecDepth 100000

theorem keysOf_calls (w : World) (b : Nat) : Calls Tryz.prog 75 #[.map (some b)] w fun e w' => e = .returned (.func (.func 93) #[] #[.pointer (some ⟨w.heap.size, 0, none⟩)]) ∧ w' = w.alloc (.cells #[.map (some b)] 69) :=
  (callsIn_wide (n := 5)).1 (AnyZI.keys_in laysKeys Fence.wide 5 trivial rfl (some b) w)
theorem sortsK (m : Nat) : AnyZI.SortsIn Tryz.prog keysRen Fence.wide m :=
  ⟨fun blk off cap ss W hH hblk hsz => callsIn_wide.2 (Tryz.slices_Sort_int blk off cap ss W hH hblk hsz),
   fun p cap W => callsIn_wide.2 (Tryz.slices_Sort_int_none p cap W)⟩
theorem sortedKeys_calls (w : World) (b n : Nat) (D : DataW Unit) (hown : w.ownsMap Tryz.prog 3 plE b n D) (hmax : Maps.size D ≤ 1000000) :
    Calls Tryz.prog 74 #[.func (.func 93) #[] #[.pointer (some ⟨w.heap.size, 0, none⟩)]] (w.alloc (.cells #[.map (some b)] 69)) fun e w' => ∃ (v : Value) (ss : List Int), e = .returned v ∧ ss.Perm (intKeys D) ∧
      w'.ownsRow (w.alloc (.cells #[.map (some b)] 69)).heap.size 3 1 v ss.length ((ss.mergeSort (fun x y => decide (x ≤ y))).map encZ) ∧ On (w.alloc (.cells #[.map (some b)] 69)) w' := by
  have hbl := hown.lt
  have hseq : SeqGives Fence.wide 2 Tryz.prog 93 #[.pointer (some ⟨w.heap.size, 0, none⟩)] encZ (fun ss => ss.Perm (intKeys D)) (Maps.size D) (w.alloc (.cells #[.map (some b)] 69)) :=
    AnyZI.keys_gives (ρ := keysRen) { laysKeys with } Fence.wide _ trivial rfl (by omega) w.heap.size b n D _ (by simp) (by simp) (by
      obtain ⟨es, clock, hb, Ft, hs, hD⟩ := hown
      exact ⟨es, clock, (Below.heap_alloc _ _ b hbl).trans hb, Ft, hs, hD⟩)
  have cS := AnyZI.sorted_in laysSorted Fence.wide 5 trivial trivial trivial trivial rfl (by omega) (sortsK _) (enters_of Tryz.func83 (by kernel_rfl) rfl) 93 #[.pointer (some ⟨w.heap.size, 0, none⟩)] trivial (enters_of Tryz.func93 (by kernel_rfl) rfl) _ _ (by simp [maxLen]; omega) (by omega) _ hseq
  exact ((callsIn_wide (n := 5)).1 cS).mono fun e w' ⟨v, ss, h1, h2, h3, _, h5⟩ => ⟨v, ss, h1, h2, h3, h5⟩
end Go.Proofs.YtgemaohdlibboaaGreat.H
/- The keys of a binding, sorted: the nulls that the substitution names. Plain. No condition. -/
namespace Go.Proofs.YtgemaohdlibboaaGreat.H
open Go Go.RowKit Go.Shelf Go.Maps Go.Sort Go.Proofs.YtgemaohdlibboaaGreatW.PrintWords
set_option maxHeartbeats 1000000

theorem subI_mem : ∀ (l : List Int) (k : Nat) (x : Int), x ∈ (subI k l).1 ↔ ∃ j : Nat, j < l.length ∧ l.getD j 10 ≠ 10 ∧ x = ((k + j : Nat) : Int)
  | [], k, x => by simp [subI]
  | v :: l, k, x => by
    have ih := subI_mem l (k + 1) x
    rw [subI_cons]
    constructor
    · intro h
      split at h
      · obtain ⟨j, h1, h2, h3⟩ := ih.1 h
        exact ⟨j + 1, by simp; omega, by simpa using h2, by rw [h3]; omega⟩
      · rename_i hv
        rcases List.mem_cons.1 h with rfl | h
        · exact ⟨0, by simp, by simpa using hv, by simp⟩
        · obtain ⟨j, h1, h2, h3⟩ := ih.1 h
          exact ⟨j + 1, by simp; omega, by simpa using h2, by rw [h3]; omega⟩
    · rintro ⟨j, h1, h2, h3⟩
      cases j with
      | zero =>
        have hv : v ≠ 10 := by simpa using h2
        rw [if_neg hv]
        exact List.mem_cons.2 (.inl (by rw [h3]; rfl))
      | succ j =>
        have h4 := ih.2 ⟨j, by simp at h1; omega, by simpa using h2, by rw [h3]; omega⟩
        split
        · exact h4
        · exact List.mem_cons_of_mem _ h4
theorem subI_up : ∀ (l : List Int) (k : Nat), (subI k l).1.Pairwise (· < ·)
  | [], k => by simp [subI]
  | v :: l, k => by
    rw [subI_cons]
    split
    · exact subI_up l (k + 1)
    · refine List.pairwise_cons.2 ⟨fun x hx => ?_, subI_up l (k + 1)⟩
      obtain ⟨j, _, _, e⟩ := (subI_mem l (k + 1) x).1 hx
      omega
theorem keys_sorted {w : World} {b n : Nat} {z : List Int} {D : DataW Unit} {ss : List Int} (hown : w.ownsMap Tryz.prog 3 plE b n D) (hz : z.length = 40)
    (h3 : ∀ k : Nat, k < 40 → Maps.has D (kl k) = decide (z.getD k 10 ≠ 10)) (h4 : ∀ k : Int, Maps.has D (kl k) = true → 0 ≤ k ∧ k < 40) (hp : ss.Perm (intKeys D)) :
    ss.mergeSort (fun x y => decide (x ≤ y)) = (subI 0 z).1 := by
  have hu := subI_up z 0
  have hc : CollectedI D (fun _ => false) (subI 0 z).1 := by
    refine ⟨hu.imp (fun {a b} h e => by omega), fun x => ?_⟩
    rw [subI_mem]
    constructor
    · rintro ⟨j, h1, h2, rfl⟩
      refine ⟨?_, rfl⟩
      have := h3 j (by omega)
      rw [Nat.zero_add]
      exact this.trans (decide_eq_true h2)
    · rintro ⟨h, _⟩
      obtain ⟨e1, e2⟩ := h4 x h
      refine ⟨x.toNat, by omega, ?_, by omega⟩
      have h5 := h3 x.toNat (by omega)
      rw [show ((x.toNat : Nat) : Int) = x by omega] at h5
      rw [show Maps.has D (kl x) = true from h] at h5
      exact of_decide_eq_true h5.symm
  have hq : (ss.mergeSort (fun x y => decide (x ≤ y))).Perm (subI 0 z).1 := (List.mergeSort_perm _ _).trans (hp.trans (hc.perm hown keyed Tryz.underlying3 (fun _ => rfl)).symm)
  have hs : (ss.mergeSort fun x y : Int => decide (x ≤ y)).Pairwise (fun x y => decide (x ≤ y) = true) := List.pairwise_mergeSort (fun a b c h1 h2 => by simp at *; omega) (fun a b => by simp; omega) ss
  have hs2 : (subI 0 z).1.Pairwise (fun x y => decide (x ≤ y) = true) := hu.imp (fun {a b} h => by simp; omega)
  exact hq.eq_of_pairwise (fun a b _ _ h1 h2 => by simp at h1 h2; omega) hs hs2
section
variable {ops : Array Oper} {rest : List Oper} {o : Oper} {a : Act} {Q : Exit → Act → World → Prop} {W : World} {b n : Nat} {z : List Int}
/-- A look-up of what is there. -/
theorem bmLook (N : Tmp) {m x : Operand} (h : BM W b n z) (k : Nat) (hk : k < 40) (h10 : z.getD k 10 ≠ 10) (K : wpList Tryz.prog ops Q rest (a.put (some N) (.int .i64 (z.getD k 10))) W)
    (hop : o.op = Op.lookup 69 m x false := by rfl) (hd : o.dst = some N := by rfl) (hg : o.guard = none := by rfl) (hm : a.eval m = .map (some b) := by rfl) (hx : a.eval x = .int .i64 (k : Int) := by rfl) : wpList Tryz.prog ops Q (o :: rest) a W := by
  obtain ⟨D, h1, h2, h3, h4⟩ := h.out
  refine wpList_lookup_own_int W hg m x 69 hop 3 3 .i64 keyed Tryz.underlying69 Tryz.underlying3 (Tryz.zeroValue3 W) b n D hm h1 _ (kl k) hx (key_lit (by omega)) fun c hc hw => ?_
  rw [hd]
  have e := (h3 k hk).2 h10 (.lit (.int .i64 0))
  rw [hc] at e
  injection e with e
  injection e with _ e
  subst e
  exact K
end
end Go.Proofs.YtgemaohdlibboaaGreat.H
/- Plain: what the search hands back is a homomorphism. No condition. -/
namespace Go.Proofs.YtgemaohdlibboaaGreat.H
open Go Go.RowKit
set_option linter.unusedVariables false
set_option linter.unusedSimpArgs false

theorem subFrom_of : ∀ (ns vs : List Int) (p : Option Int), ns.length = vs.length → (∀ k ∈ ns, 0 ≤ k ∧ k ≤ 39) → (∀ v ∈ vs, okVal v = true) → ns.Pairwise (· < ·) → (∀ q, p = some q → ∀ k ∈ ns, q < k) → subFrom p ns vs = true
  | [], _, _, _, _, _, _, _ => rfl
  | _ :: _, [], _, h, _, _, _, _ => by simp at h
  | k :: ns, v :: vs, p, hl, h1, h2, h3, h4 => by
    rw [List.pairwise_cons] at h3
    have ih := subFrom_of ns vs (some k) (by simpa using hl) (fun x hx => h1 x (List.mem_cons_of_mem _ hx)) (fun x hx => h2 x (List.mem_cons_of_mem _ hx)) h3.2 (fun q hq x hx => by cases hq; exact h3.1 x hx)
    simp only [subFrom, Bool.and_eq_true, List.headD_cons, List.tail_cons]
    refine ⟨⟨⟨?_, ?_⟩, h2 v List.mem_cons_self⟩, ih⟩
    · simp only [within, decide_eq_true_eq]; exact h1 k List.mem_cons_self
    · cases p with
      | none => rfl
      | some q => exact decide_eq_true (h4 q rfl k List.mem_cons_self)
theorem okSub_of {ns vs : List Int} (hl : ns.length = vs.length) (h1 : ∀ k ∈ ns, 0 ≤ k ∧ k ≤ 39) (h2 : ∀ v ∈ vs, okVal v = true) (h3 : ns.Pairwise (· < ·)) : okSub ns vs = true := by
  unfold okSub
  rw [decide_eq_true hl, subFrom_of ns vs none hl h1 h2 h3 (fun q hq => by cases hq)]; rfl
theorem subI_snd : ∀ (l : List Int) (k : Nat) (x : Int), x ∈ (subI k l).2 → ∃ j : Nat, l.getD j 10 ≠ 10 ∧ x = l.getD j 10
  | [], k, x, h => by simp [subI] at h
  | v :: l, k, x, h => by
    rw [subI_cons] at h
    split at h
    · obtain ⟨j, h1, h2⟩ := subI_snd l (k + 1) x h
      exact ⟨j + 1, by simpa using h1, by simpa using h2⟩
    · rename_i hv
      rcases List.mem_cons.1 h with rfl | h
      · exact ⟨0, by simpa using hv, by simp⟩
      · obtain ⟨j, h1, h2⟩ := subI_snd l (k + 1) x h
        exact ⟨j + 1, by simpa using h1, by simpa using h2⟩
theorem findV_none : ∀ (ns vs : List Int) (x : Int), (∀ n ∈ ns, -1 - n ≠ x) → findV ns vs x = none
  | [], _, _, _ => rfl
  | _ :: _, [], _, _ => rfl
  | n :: ns, v :: vs, x, h => by
    unfold findV
    rw [if_neg (h n List.mem_cons_self)]
    exact findV_none ns vs x fun n hn => h n (List.mem_cons_of_mem _ hn)
theorem findV_subI : ∀ (l : List Int) (k j : Nat), findV (subI k l).1 (subI k l).2 (-1 - ((k + j : Nat) : Int)) = if l.getD j 10 = 10 then none else some (l.getD j 10)
  | [], k, j => by simp [subI, findV]
  | v :: l, k, 0 => by
    have hn : findV (subI (k + 1) l).1 (subI (k + 1) l).2 (-1 - ((k + 0 : Nat) : Int)) = none := findV_none _ _ _ fun n hn => by
      obtain ⟨j, _, _, e⟩ := (subI_mem l (k + 1) n).1 hn
      omega
    rw [subI_cons]
    by_cases c : v = 10
    · rw [if_pos c, hn]; simp [c]
    · rw [if_neg c]
      simp only [findV]
      rw [if_pos (by omega)]
      simp [c]
  | v :: l, k, j + 1 => by
    have ih := findV_subI l (k + 1) j
    rw [show k + 1 + j = k + (j + 1) by omega] at ih
    rw [subI_cons]
    by_cases c : v = 10
    · rw [if_pos c, ih]; simp
    · rw [if_neg c]
      simp only [findV]
      rw [if_neg (by omega), ih]; simp
theorem appV_subI {y : List Int} (hl : y.length = 40) (hs : okSub (subI 0 y).1 (subI 0 y).2 = true) (v : Int) (hb : isNul v = true → y.getD (nulNum v).toNat 10 ≠ 10) : appV (subI 0 y).1 (subI 0 y).2 v = valB y v := by
  unfold appV valB
  rw [if_pos hs]
  by_cases c : isNul v = true
  · rw [if_pos c]
    have e := findV_subI y 0 (nulNum v).toNat
    rw [if_neg (hb c)] at e
    have c' := c
    simp only [isNul, decide_eq_true_eq] at c'
    have hn : nulNum v = -1 - v := by unfold nulNum; rw [if_pos c]
    rw [show (-1 - ((0 + (nulNum v).toNat : Nat) : Int)) = v by omega] at e
    rw [e]; rfl
  · rw [if_neg c, findV_not (okSub_spec hs).2.1 (by simpa using c)]; rfl
theorem homs_isHom {r1 : List Rel} {f1 : List Fct} {r2 : List Rel} {f2 : List Fct} {most : Nat} {y : List Int} (h : y ∈ homs r1 f1 r2 f2 most) :
    isHom r1 f1 r2 f2 (subI 0 y).1 (subI 0 y).2 = true ∧ ∀ f, f ∈ f1 → appF (subI 0 y).1 (subI 0 y).2 f ∈ f2 := by
  unfold homs at h
  by_cases c : (okInst r1 f1 && okInst r2 f2 && decide (r1 = r2)) = true
  · rw [if_pos c] at h
    simp only [Bool.and_eq_true, decide_eq_true_eq] at c
    obtain ⟨⟨c1, c2⟩, c3⟩ := c
    have hv2 := okInst_vals c2
    obtain ⟨hs, hi⟩ := walk_snd hv2 f1 none40 most (by simp [none40]) y h
    have hz : ∀ k : Nat, none40.getD k 10 = 10 := fun k => by
      unfold none40
      rw [List.getD_eq_getElem?_getD, List.getElem?_replicate]
      split <;> rfl
    have hnew : ∀ k : Nat, y.getD k 10 ≠ 10 → okVal (y.getD k 10) = true ∧ ∃ v ∈ vsAll f1, isNul v = true ∧ (nulNum v).toNat = k := fun k hk => (hs.new k hk).resolve_left fun h => h (hz k)
    have hbound : ∀ f ∈ f1, ∀ v ∈ f.2, isNul v = true → y.getD (nulNum v).toNat 10 ≠ 10 := fun f hf v hv c => by
      have := ok_ne (hv2 _ (hi f hf) (valB y v) (List.mem_map.2 ⟨v, hv, rfl⟩))
      unfold valB at this
      rwa [if_pos c] at this
    have hok : okSub (subI 0 y).1 (subI 0 y).2 = true := okSub_of (subI_len 0 y).1
      (fun k hk => by obtain ⟨j, h1, _, e⟩ := (subI_mem y 0 k).1 hk; have := hs.len; omega)
      (fun v hv => by obtain ⟨j, h1, e⟩ := subI_snd y 0 v hv; rw [e]; exact (hnew j h1).1) (subI_up y 0)
    have hn : (subI 0 y).1 = nulsI f1 := by
      obtain ⟨h1, h2⟩ := nulsIFrom_up f1 [] (by simp)
      refine up_ext _ _ (subI_up y 0) h1 fun x => ?_
      refine Iff.trans (subI_mem y 0 x) (Iff.trans ?_ (h2 x).symm)
      simp only [List.not_mem_nil, false_or]
      constructor
      · rintro ⟨j, h3, h4, rfl⟩
        obtain ⟨_, v, h5, h6, h7⟩ := hnew j h4
        have := nulNum_bd v
        unfold nulSeq
        exact List.mem_map.2 ⟨v, List.mem_filter.2 ⟨h5, h6⟩, by omega⟩
      · intro hx
        unfold nulSeq at hx
        obtain ⟨v, hv, rfl⟩ := List.mem_map.1 hx
        obtain ⟨h5, h6⟩ := List.mem_filter.1 hv
        obtain ⟨f, hf, hvf⟩ := List.mem_flatMap.1 h5
        have h8 := nulNum_bd v
        exact ⟨(nulNum v).toNat, by have := hs.len; have := nul_lt v; omega, hbound f hf v hvf h6, by omega⟩
    have happ : ∀ f ∈ f1, appF (subI 0 y).1 (subI 0 y).2 f = imgB y f := fun f hf => by
      unfold appF imgB
      congr 1
      exact List.map_congr_left fun v hv => appV_subI hs.len hok v (hbound f hf v hv)
    have hmem : ∀ f, f ∈ f1 → appF (subI 0 y).1 (subI 0 y).2 f ∈ f2 := fun f hf => by rw [happ f hf]; exact hi f hf
    refine ⟨?_, hmem⟩
    unfold isHom
    rw [c1, c2, hok, decide_eq_true c3, decide_eq_true hn]
    simp only [Bool.true_and, List.all_eq_true]
    exact fun f hf => (hasF_mem _ _).2 (hmem f hf)
  · rw [if_neg c] at h; cases h
end Go.Proofs.YtgemaohdlibboaaGreat.H
