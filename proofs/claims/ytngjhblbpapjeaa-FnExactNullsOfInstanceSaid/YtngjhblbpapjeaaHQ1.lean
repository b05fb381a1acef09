/- Walk: the law FnExactNullsOfInstance. No condition. -/
import Derived.Test.YtngjhblbpapjeaaHK1
import Derived.Test.YtngjhblbpapjeaaHL8
namespace Go.Proofs.Ytngjhblbpapjeaa.H
open Go Go.RowKit Go.Proofs.YtngjhblbpapjeaaW.PrintWords Go.Proofs.YtngjhblbpapjeaaW.PrintLast
open Go.Proofs.Ytngjhblbpapjeaa.Reg (On on_draw)
set_option maxHeartbeats 4000000
set_option maxRecDepth 100000
set_option linter.unusedVariables false
set_option linter.unusedSimpArgs false

theorem nulsI_ok (fs : List Fct) : (∀ x ∈ nulsI fs, 0 ≤ x ∧ x ≤ 39) ∧ (nulsI fs).length ≤ 40 := by
  have h1 : ∀ x ∈ nulsI fs, 0 ≤ x ∧ x ≤ 39 := fun x hx => by
    have := ((nulsIFrom_up fs [] (by simp)).2 x).1 hx
    simp only [List.not_mem_nil, false_or] at this
    exact (nulSeq_ok _).1 x this
  exact ⟨h1, up_len _ 0 40 (nulsIFrom_up fs [] (by simp)).1 (fun x hx => by have := h1 x hx; omega)⟩
theorem wF_mem {fs : List Fct} {f : Fct} (h : f ∈ fs) : f.2.length ≤ wF fs := by
  unfold wF
  induction fs with
  | nil => cases h
  | cons g fs ih =>
    rcases List.mem_cons.1 h with rfl | h
    · simp; omega
    · have := ih h; simp at this ⊢; omega
theorem wR_len (rs : List Rel) : rs.length ≤ wR rs := by
  unfold wR
  induction rs with
  | nil => simp
  | cons g rs ih => simp at ih ⊢; omega
/-- A call in this world. -/
theorem inW {P : Program} {f : FuncId} {args : Array Value} (w : World) {Q : Ending → World → Prop} (h : Calls P f args w Q) : Calls P f args w Q := h
theorem OI.ints {w : World} {lo n c : Nat} {A : Option Addr} {xs : List Int} (h : OI w lo (.slice A n c) xs) (hr : InR xs) : Ints w A c xs := by
  obtain ⟨A', c', e, h'⟩ := OI.rd h hr
  injection e with e1 e2 e3
  subst e1 e3
  exact h'
theorem IB.range {w : World} {lo : Nat} {vr vf : Value} {hs : List Hdr} {rs : List Rel} {fs : List Fct} (hR : OR w lo vr rs) (h : OH w lo vf hs) (hS : Sep w lo hs fs) {b : Nat} (hb : IB vr vf hs b) : lo ≤ b ∧ b < w.heap.size := by
  rcases hb with e | e | ⟨i, a, ha, e⟩
  · exact ⟨own_base hR b e.symm, own_lt hR b e.symm⟩
  · exact ⟨own_base h b e.symm, own_lt h b e.symm⟩
  · exact hS.lt ha e.symm
theorem FnExactNullsOfInstance_calls (w : World) (A0 c0 A1 c1) (rs : List Rel) (fs : List Fct) (h0 : Rels w A0 c0 rs) (h1 : Fcts w A1 c1 fs) (hsz : ∀ r ∈ rs, r.1.size ≤ 9223372036854775807) : Calls Try.prog 3 #[.agg #[.slice A0 rs.length c0, .slice A1 fs.length c1]] w fun e w' => e = .returned (.bool true) ∧ On w w' := by
  have hb := Aside0.mk (On.alloc (On.refl w) (.cells #[.slice A0 rs.length c0, .slice A1 fs.length c1] 25))
  have hL := Aside0.mk (loc1 w #[.slice A0 rs.length c0, .slice A1 fs.length c1] 25)
  have hN := Aside0.mk (nulsI_ok fs)
  go_enter Try.func3, Try.ntmps3
  go_wp2_with (first
    | (go_at_call 12; refine (szInstance_calls _ A0 c0 A1 c1 rs fs 1048576 (by omega) (by omega) (h0.on hb.out) (h1.on hb.out) hsz).mono ?_; rintro e w1 ⟨q, rfl, hq0, hb1⟩; have hq := Aside0.mk hq0; clear hq0; have hL1 := Aside0.mk (Loc.on hb1 hL.out); have hc1 := blk_cell hL1.out.1; have hB1 := Aside0.mk (hb.out.trans hb1); clear hb1; by_cases hneg : q < 0)
    | (go_at_call 14; (with_reducible refine inW w1 ?_); have hW := Aside0.mk (show wR rs + wF fs ≤ 1048576 by have := hq.out (by omega); omega); have hl0 : rs.length ≤ 1048576 := by { have := wR_len rs; have := hW.out; omega }; have hl1 : fs.length ≤ 1048576 := by { have := wF_len fs; have := hW.out; omega }; have hl2 := Aside0.mk (fun f (hf : f ∈ fs) => show f.2.length ≤ 2000000 by have := wF_mem hf; have := hW.out; omega); have hl3 := Aside0.mk (show wF fs ≤ 10000000 by have := hW.out; omega); refine (toInstance_calls w1 A0 c0 A1 c1 rs fs (h0.on hB1.out) (h1.on hB1.out) (by omega) (by omega) hl2.out).mono ?_; rintro e w2 ⟨v2, rfl, ⟨vr2, vf2, hs2, rfl, hR2, hH2, hS2⟩, hb2⟩; obtain ⟨Ar2, cr2, rfl, hRr2⟩ := OR.rd hR2; obtain ⟨Af2, cf2, rfl, hFf2⟩ := OH.rd hH2 hS2.reads; have hB2 := Aside0.mk (hB1.out.trans hb2); have hL2 := Aside0.mk (Loc.on hb2 hL1.out); have hF2 := Aside0.mk hFf2; clear hR2 hH2 hS2 hRr2 hFf2 hb2)
    | (go_at_call 13; refine (sNullsOfInstance_calls w2 Ar2 rs.length cr2 Af2 cf2 fs hF2.out hl3.out).mono ?_; rintro e w3 ⟨v3, rfl, hO3, hb3⟩; obtain ⟨As3, cs3, rfl, hI3⟩ := OInts.slice hO3 (inR_of hN.out.1); have hW3 := Aside0.mk hI3; have hB3 := Aside0.mk (hB2.out.trans hb3); have hL3 := Aside0.mk (Loc.on hb3 hL2.out); have hc3 := blk_cell hL3.out.1; clear hO3 hI3 hb3 hc1)
    | (go_at_call 14; (with_reducible refine inW w3 ?_); refine (toInstance_calls w3 A0 c0 A1 c1 rs fs (h0.on hB3.out) (h1.on hB3.out) (by omega) (by omega) hl2.out).mono ?_; rintro e w4 ⟨v4, rfl, ⟨vr4, vf4, hs4, rfl, hR4, hH4, hS4⟩, hb4⟩; have hRo := Aside0.mk hR4; have hHo := Aside0.mk hH4; have hSo := Aside0.mk hS4; obtain ⟨Ar4, cr4, rfl, hRr4⟩ := OR.rd hR4; obtain ⟨Af4, cf4, rfl, hFf4⟩ := OH.rd hH4 hS4.reads; have hb4' := Aside0.mk hb4; have hRx := Aside0.mk hRr4; have hFx := Aside0.mk hFf4; have hL4 := Aside0.mk (Loc.on hb4 hL3.out); have hfill := alloc_fill w4; have hbx := Aside0.mk (On.alloc (On.refl w4) (.cells #[.slice Ar4 rs.length cr4, .slice Af4 fs.length cf4] 32)); have hLx := Aside0.mk (loc_new w4 #[.slice Ar4 rs.length cr4, .slice Af4 fs.length cf4] 32); have hcx := blk_cell hLx.out; clear hR4 hH4 hS4 hRr4 hFf4 hb4 hc3)
    | (go_at_call 15; refine (iNullsOfInstance_calls _ Ar4 rs.length cr4 Af4 cf4 fs (hFx.out.on hbx.out) hl3.out).mono ?_; rintro e w5 ⟨v5, rfl, hO5, hb5⟩; have hG := Aside0.mk hO5; obtain ⟨Ag, cg, rfl, hI5⟩ := OI.rd hO5 (inR_of hN.out.1); have hb5' := Aside0.mk hb5; have hI5' := Aside0.mk hI5; clear hO5 hb5 hI5 hfill hcx)
    | (go_at_call 16; (with_reducible refine inW w5 ?_); refine (eqIntS_calls w5 Ag cg As3 cs3 (nulsI fs) hI5'.out (hW3.out.on ((hb4'.out.trans hbx.out).trans hb5'.out))).mono ?_; rintro e w6 ⟨rfl, hb6⟩; have hb6' := Aside0.mk hb6; clear hb6))
  · go_ret
    exact ⟨rfl, hB1.out⟩
  have hK6 := Aside0.mk (hb5'.out.trans hb6'.out)
  have hcx := blk_cell (blk_below hLx.out hK6.out)
  have hL6 := Aside0.mk (Loc.on (hbx.out.trans hK6.out) hL4.out)
  have hc6 := blk_cell hL6.out.1
  have hB6 := Aside0.mk (hB3.out.trans ((hb4'.out.trans hbx.out).trans hK6.out))
  refine Reg.region [(0,.L),(1,.L),(2,.N),(3,.C),(4,.L)] [] (by kernel_rfl) (by kernel_rfl) ?_
  repeat first | refine sP ?_ | refine sS ?_ | refine sA ?_ | refine sL ?_ | refine sO ?_
  refine callN Try.func14 (fun w' hS => ?_)
  refine (toInstance_calls w' A0 c0 A1 c1 rs fs (h0.on (hB6.out.trans hS)) (h1.on (hB6.out.trans hS)) (by omega) (by omega) hl2.out).mono ?_
  rintro e w7 ⟨v7, rfl, ⟨vr7, vf7, hs7, rfl, hR7, hH7, hS7⟩, hb7⟩
  obtain ⟨Ar7, cr7, rfl, hRr7⟩ := OR.rd hR7
  obtain ⟨Af7, cf7, rfl, hFf7⟩ := OH.rd hH7 hS7.reads
  refine ⟨_, rfl, hb7, fun a' ha => ?_⟩
  simp only [Act.put, List.setIfInBounds_toArray, List.set_cons_zero, List.set_cons_succ] at ha
  subst ha
  have hb7' := Aside0.mk (hS.trans hb7)
  have hRr7' := Aside0.mk hRr7
  have hFf7' := Aside0.mk hFf7
  clear hR7 hH7 hS7 hb7 hS hRr7 hFf7
  repeat first | refine sP ?_ | refine sS ?_ | refine sA ?_ | refine sL ?_ | refine sO ?_
  refine callC (.bool true) Try.func17 (fun w' hS => ?_) ?_
  focus exact eqInstance_calls w' Ar4 cr4 Af4 cf4 Ar7 cr7 Af7 cf7 rs fs (hRx.out.on ((hbx.out.trans hK6.out).trans (hb7'.out.trans hS))) (hFx.out.on ((hbx.out.trans hK6.out).trans (hb7'.out.trans hS))) (hRr7'.out.on hS) (hFf7'.out.on hS)
  repeat first | refine sP ?_ | refine sS ?_ | refine sA ?_ | refine sL ?_ | refine sO ?_
  refine Reg.nil fun w8 hS8 => ?_
  have hK8 := Aside0.mk (hK6.out.trans (hb7'.out.trans hS8))
  have h48 := Aside0.mk (hbx.out.trans hK8.out)
  have hB8 := Aside0.mk (hB6.out.trans (hb7'.out.trans hS8))
  have h68 := Aside0.mk (hb6'.out.trans (hb7'.out.trans hS8))
  have hIB := Aside0.mk (fun b hb => IB.range hRo.out hHo.out hSo.out (b := b) hb)
  have hw4s := Aside0.mk (show w.heap.size ≤ w3.heap.size ∧ w.heap.size + 1 ≤ w3.heap.size ∧ w3.heap.size ≤ w4.heap.size by
    have h3 := blk_lt hL3.out.1; have := hb4'.out.size; omega)
  have hcx8 := blk_cell (blk_below hLx.out hK8.out)
  have hgs := Aside0.mk (show (w4.alloc (.cells #[.slice Ar4 rs.length cr4, .slice Af4 fs.length cf4] 32)).heap.size = w4.heap.size + 1 by simp)
  have hG9 := hG.out
  rw [hgs.out] at hG9
  have hG' := Aside0.mk hG9
  have hL8 := Aside0.mk (Loc.on (hb7'.out.trans hS8) hL6.out)
  have hneg1 : decide (1 + 3 * (rs.length : Int) + (wF fs : Int) < 0) = false := decide_eq_false (by omega)
  have hneg2 : decide (1 + ((nulsI fs).length : Int) < 0) = false := decide_eq_false (by omega)
  clear hG9 hS8 hcx hc6
  go_wp2_with (first
    | (go_at_call 18; refine (markInstance_calls w8 w3.heap.size w3.heap.size w3.heap.size _ _ hs4 rs fs 1 (pw_own_below hRo.out h48.out) (pw_own_below hHo.out h48.out) (hSo.out.on h48.out) (by omega) (by have := hW.out; omega)).mono ?_; rintro e w9 ⟨rfl, _, hE⟩; have hE9 := Aside0.mk hE; clear hE; have h39 := Aside0.mk (Ex.on (hb4'.out.trans h48.out) hE9.out (fun i h => (hIB.out i h).1)); have hG9 := Aside0.mk (own_ex (pw_own_below hG'.out h68.out) hE9.out (fun b hb h => by have := (hIB.out b h).2; have := own_base hG'.out b hb; omega)); have hI9 := Aside0.mk (OI.ints hG9.out (inR_of hN.out.1)))
    | (go_at_call 16; (with_reducible refine inW w9 ?_); refine (eqIntS_calls w9 Ag cg As3 cs3 (nulsI fs) hI9.out (hW3.out.on h39.out)).mono ?_; rintro e w10 ⟨rfl, hb10⟩; have hb10' := Aside0.mk hb10; clear hb10)
    | (go_at_call 19; refine (markIntS_calls w10 (w4.heap.size + 1) _ (nulsI fs) 1 (pw_own_below hG9.out hb10'.out) (by omega) (by have := hN.out.2; omega)).mono ?_; rintro e w11 ⟨rfl, hO11, hE⟩; have hE11 := Aside0.mk hE; have hG11 := Aside0.mk hO11; clear hE hO11; have h311 := Aside0.mk (Ex.on (h39.out.trans hb10'.out) hE11.out (fun i h => by have := own_base hG9.out i h.symm; have := hw4s.out; omega)); have hI11 := Aside0.mk (OI.ints hG11.out (markI_inR _ _ (by omega) (by have := hN.out.2; omega))))
    | (go_at_call 20; (with_reducible refine inW w11 ?_); refine (heldIntS_calls w11 Ag cg (nulsI fs).length 1 hI11.out (by omega) (by have := hN.out.2; omega)).mono ?_; rintro e w12 ⟨rfl, hb12⟩; have h312 := Aside0.mk (h311.out.trans hb12); have hb12' := Aside0.mk hb12; clear hb12; have hL12 := Aside0.mk (Loc.on h312.out hL3.out); have hc12 := blk_cell hL12.out.1; have hB12 := Aside0.mk (hB3.out.trans h312.out))
    | (go_at_call 14; (with_reducible refine inW w12 ?_); refine (toInstance_calls w12 A0 c0 A1 c1 rs fs (h0.on hB12.out) (h1.on hB12.out) (by omega) (by omega) hl2.out).mono ?_; rintro e w13 ⟨v13, rfl, ⟨vr13, vf13, hs13, rfl, hR13, hH13, hS13⟩, hb13⟩; obtain ⟨Ar13, cr13, rfl, hRr13⟩ := OR.rd hR13; obtain ⟨Af13, cf13, rfl, hFf13⟩ := OH.rd hH13 hS13.reads; have hF13 := Aside0.mk hFf13; have hb13' := Aside0.mk hb13; clear hR13 hH13 hS13 hRr13 hFf13 hb13)
    | (go_at_call 15; refine (iNullsOfInstance_calls w13 Ar13 rs.length cr13 Af13 cf13 fs hF13.out hl3.out).mono ?_; rintro e w14 ⟨v14, rfl, hO14, hb14⟩; obtain ⟨Ah, ch, rfl, hI14⟩ := OI.rd hO14 (inR_of hN.out.1); have hb14' := Aside0.mk hb14; have hI14' := Aside0.mk hI14; clear hO14 hb14 hI14)
    | (go_at_call 16; (with_reducible refine inW w14 ?_); refine (eqIntS_calls w14 Ah ch As3 cs3 (nulsI fs) hI14'.out (hW3.out.on (h312.out.trans (hb13'.out.trans hb14'.out)))).mono ?_; rintro e w15 ⟨rfl, hb15⟩; have hb15' := Aside0.mk hb15; clear hb15)
    | (go_at_call 20; (with_reducible refine inW w15 ?_); refine (heldIntS_calls w15 Ag cg (nulsI fs).length 1 (hI11.out.on (hb12'.out.trans ((hb13'.out.trans hb14'.out).trans hb15'.out))) (by omega) (by have := hN.out.2; omega)).mono ?_; rintro e w16 ⟨rfl, hb16⟩; have hb16' := Aside0.mk hb16; clear hb16))
  go_ret
  exact ⟨rfl, hB12.out.trans (((hb13'.out.trans hb14'.out).trans hb15'.out).trans hb16'.out)⟩
end Go.Proofs.Ytngjhblbpapjeaa.H
