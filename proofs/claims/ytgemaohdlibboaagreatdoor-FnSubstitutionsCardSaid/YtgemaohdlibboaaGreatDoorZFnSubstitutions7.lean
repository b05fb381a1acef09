/- Walks and plain laws for the law FnSubstitutions, part 7 of 7: the texts HJ9, HS9, HG9, HG10, HG11, HG12, HG13, HG15, HQFnSubstitutions in one. No condition. -/
import Derived.Test.YtgemaohdlibboaaGreatDoorZFnSubstitutions6
/- Walks: the program applies a substitution to an instance. No condition. -/
namespace Go.Proofs.YtgemaohdlibboaaGreatDoor.H
open Go Go.RowKit Go.Proofs.YtgemaohdlibboaaGreatDoorW.PrintWords Go.Proofs.YtgemaohdlibboaaGreatDoorW.PrintLast
open Go.Proofs.YtgemaohdlibboaaGreatDoor.Reg (On on_draw)
set_option maxHeartbeats 4000000
set_option maxRecDepth 100000
set_option linter.unusedVariables false
set_option linter.unusedSimpArgs false

theorem own_at1 {w : World} {lo e sz m n c : Nat} {A : Option Addr} {cs : List Value} (h : w.ownsRow lo e sz (.slice A m c) n cs) (hn : 0 < n) : ∃ g, A = some ⟨g, 0, none⟩ := by
  rcases h.2 with ⟨h', h2⟩ | ⟨g', cap', cur, h', _⟩
  · injection h' with e1 e2 e3
    subst e1
    omega
  · injection h' with e1 e2 e3
    exact ⟨g', e1⟩
theorem Sep.store {S : Nat → Prop} {W w : World} {lo : Nat} {hs : List Hdr} {fs : List Fct} {i : Nat} {a : Hdr} {f : Fct} (h : Sep W lo hs fs) (hE : Ex S W w) (hS : ∀ (j : Nat) (b : Hdr) (k : Nat), hs[j]? = some b → (hdV b).ownBlock = some k → ¬ S k) (hi : i < hs.length) (h1 : a.1 = f.1) (h2 : OI w W.heap.size (hdV a) f.2) (h3 : InR f.2) (hlo : lo ≤ W.heap.size) : Sep w lo (hs.set i a) (fs.set i f) := by
  have hl := h.len
  refine ⟨by simp [hl], fun j b g hb hg => ?_, fun j j' b b' k hb hb' e1 e2 => ?_⟩
  · by_cases e : i = j
    · subst e
      rw [List.getElem?_set_self hi] at hb
      rw [List.getElem?_set_self (by omega)] at hg
      injection hb with hb; injection hg with hg; subst hb hg
      exact ⟨h1, own_lower h2 hlo, h3⟩
    · rw [List.getElem?_set_ne e] at hb hg
      obtain ⟨q1, q2, q3⟩ := h.at_ j b g hb hg
      exact ⟨q1, own_ex q2 hE (fun m hm => hS j b m hb hm), q3⟩
  · by_cases e : i = j <;> by_cases e' : i = j'
    · omega
    · subst e
      rw [List.getElem?_set_self hi] at hb
      rw [List.getElem?_set_ne e'] at hb'
      injection hb with hb; subst hb
      have := own_base h2 k e1
      have := (h.lt hb' e2).2
      omega
    · subst e'
      rw [List.getElem?_set_self hi] at hb'
      rw [List.getElem?_set_ne e] at hb
      injection hb' with hb'; subst hb'
      have := own_base h2 k e2
      have := (h.lt hb e1).2
      omega
    · rw [List.getElem?_set_ne e] at hb
      rw [List.getElem?_set_ne e'] at hb'
      exact h.apart j j' b b' k hb hb' e1 e2
theorem iApplyToInstance_calls (w : World) (A0 c0 A1 c1) (ns vs : List Int) (h0 : Ints w A0 c0 ns) (h1 : Ints w A1 c1 vs) (A2 c2 A3 c3) (rs : List Rel) (fs : List Fct) (h2 : Rels w A2 c2 rs) (h3 : Fcts w A3 c3 fs) :
    Calls Tryz.prog 24 #[.agg #[.slice A0 ns.length c0, .slice A1 vs.length c1], .agg #[.slice A2 rs.length c2, .slice A3 fs.length c3]] w (Got fun v w' => ∃ v1, v = .tuple #[v1, .bool (appOk rs fs ns vs)] ∧ OIn w' w.heap.size v1 (appR rs fs ns vs) (appI rs fs ns vs) ∧ On w w') := by
  have hb := Aside0.mk (On.alloc (On.alloc (On.alloc (On.refl w) (.cells #[.slice A0 ns.length c0, .slice A1 vs.length c1] 41)) (.cells #[.slice A2 rs.length c2, .slice A3 fs.length c3] 25)) (.cells #[.slice none 0 0, .slice none 0 0] 25))
  have hL := Aside0.mk (loc3 w #[.slice A0 ns.length c0, .slice A1 vs.length c1] #[.slice A2 rs.length c2, .slice A3 fs.length c3] #[.slice none 0 0, .slice none 0 0] 41 25 25)
  cases hs : okSub ns vs with
  | false =>
    have hno := Aside0.mk (show appOk rs fs ns vs = false by unfold appOk; rw [hs]; rfl)
    have hs' := Aside0.mk hs
    clear hs
    go_enter Tryz.func24, Tryz.ntmps24
    go_wp2_with (go_at_call 28; refine (iIsValidSub_calls _ A0 c0 A1 c1 ns vs (h0.on hb.out) (h1.on hb.out)).mono ?_; rintro e w1 ⟨rfl, hb1⟩; rw [hs'.out]; have hBx := Aside0.mk (hb.out.trans hb1); have hRx := Aside0.mk (Loc.on hb1 hL.out).2.2.1; have hcr : ∀ i, w1.cell? ⟨w.heap.size + 1 + 1, i, none⟩ = _ := blk_cell hRx.out; have hfr : ∀ i, w1.frozen? ⟨w.heap.size + 1 + 1, i, none⟩ = _ := blk_frozen hRx.out)
    go_wp2
    refine bodyPost_ret (retIB rfl rfl (g := w.heap.size + 2) (blk_set (blk_set hRx.out 0 _) 1 _) rfl) rfl ?_
    have hlt := blk_lt hRx.out
    refine ⟨_, rfl, _, by rw [hno.out]; rfl, ?_, Reg.On.set (Reg.On.set hBx.out (by simp; omega) _) (by simp; omega) _⟩
    have e1 : appR rs fs ns vs = [] := by unfold appR; rw [hno.out]; rfl
    have e2 : appI rs fs ns vs = [] := by unfold appI; rw [hno.out]; rfl
    rw [e1, e2]
    exact ⟨_, _, [], rfl, World.ownsRow_nil _ _ _ _, World.ownsRow_nil _ _ _ _, Sep.nil _ _⟩
  | true =>
    have hs' := Aside0.mk hs
    cases ho : okInst rs fs with
    | false =>
      have hno := Aside0.mk (show appOk rs fs ns vs = false by unfold appOk; rw [hs, ho]; rfl)
      have ho' := Aside0.mk ho
      clear hs ho
      go_enter Tryz.func24, Tryz.ntmps24
      go_wp2_with (first
        | (go_at_call 19; refine (iIsValidInstance_calls _ A2 c2 A3 c3 rs fs (h2.on (hb.out.trans hb1)) (h3.on (hb.out.trans hb1))).mono ?_; rintro e w2 ⟨rfl, hb2⟩; rw [ho'.out]; have hBx := Aside0.mk ((hb.out.trans hb1).trans hb2); have hRx := Aside0.mk (Loc.on (hb1.trans hb2) hL.out).2.2.1; have hcr : ∀ i, w2.cell? ⟨w.heap.size + 1 + 1, i, none⟩ = _ := blk_cell hRx.out; have hfr : ∀ i, w2.frozen? ⟨w.heap.size + 1 + 1, i, none⟩ = _ := blk_frozen hRx.out)
        | (go_at_call 28; refine (iIsValidSub_calls _ A0 c0 A1 c1 ns vs (h0.on hb.out) (h1.on hb.out)).mono ?_; rintro e w1 ⟨rfl, hb1⟩; rw [hs'.out]; have hd0 := blk_cell (Loc.on hb1 hL.out).2.1))
      go_wp2
      refine bodyPost_ret (retIB rfl rfl (g := w.heap.size + 2) (blk_set (blk_set hRx.out 0 _) 1 _) rfl) rfl ?_
      have hlt := blk_lt hRx.out
      refine ⟨_, rfl, _, by rw [hno.out]; rfl, ?_, Reg.On.set (Reg.On.set hBx.out (by simp; omega) _) (by simp; omega) _⟩
      have e1 : appR rs fs ns vs = [] := by unfold appR; rw [hno.out]; rfl
      have e2 : appI rs fs ns vs = [] := by unfold appI; rw [hno.out]; rfl
      rw [e1, e2]
      exact ⟨_, _, [], rfl, World.ownsRow_nil _ _ _ _, World.ownsRow_nil _ _ _ _, Sep.nil _ _⟩
    | true =>
      have hyes := Aside0.mk (show appOk rs fs ns vs = true by unfold appOk; rw [hs, ho]; rfl)
      have ho' := Aside0.mk ho
      have hle := Aside0.mk (okInst_len ho)
      have hle3 := Aside0.mk (fun f hf => okFact_len (okInst_mem ho f hf))
      have hmx := h3.max
      clear hs ho
      go_enter Tryz.func24, Tryz.ntmps24
      go_wp2_with (first
        | (go_at_call 19; refine (iIsValidInstance_calls _ A2 c2 A3 c3 rs fs (h2.on (hb.out.trans hb1)) (h3.on (hb.out.trans hb1))).mono ?_; rintro e w2 ⟨rfl, hb2⟩; rw [ho'.out]; have hB2 := Aside0.mk ((hb.out.trans hb1).trans hb2); have hL2 := Aside0.mk (Loc.on (hb1.trans hb2) hL.out); have hd1 := blk_cell hL2.out.2.1)
        | (go_at_call 28; refine (iIsValidSub_calls _ A0 c0 A1 c1 ns vs (h0.on hb.out) (h1.on hb.out)).mono ?_; rintro e w1 ⟨rfl, hb1⟩; rw [hs'.out]; have hd0 := blk_cell (Loc.on hb1 hL.out).2.1)
        | (refine gate 19 ?_))
      clear hd0 hd1 hb1 hb2
      refine ⟨goesF 19 Tryz.func78 ((instanceCopy_calls w2 A2 c2 A3 c3 rs fs (h2.on hB2.out) (h3.on hB2.out) (by have := hle.out; omega) (by have := hle.out; omega) (fun f hf => by have := hle3.out f hf; omega)).mono ?_)⟩
      rintro e w3 ⟨v3, rfl, ⟨vr, vf, hs0, rfl, hR, hH, hS⟩, hb3⟩
      refine ⟨_, rfl, ?_⟩
      obtain ⟨Ar, cr, rfl⟩ := own_slice hR
      obtain ⟨Af, cf, rfl⟩ := own_slice hH
      have hlen := Aside0.mk hS.len
      have hR1 := Aside0.mk hR
      have hH1 := Aside0.mk hH
      have hw2 := Aside0.mk (show w.heap.size + 3 ≤ w2.heap.size from blk_lt hL2.out.2.2.1)
      have hb3' := Aside0.mk hb3
      have hfill := alloc_fill w3
      have hS34 := On.alloc (On.refl w3) (.cells #[.slice Ar rs.length cr, .slice Af hs0.length cf] 25)
      have hY3 := loc_new w3 #[.slice Ar rs.length cr, .slice Af hs0.length cf] 25
      obtain ⟨q, hq⟩ : ∃ q, w3.heap.size = q := ⟨_, rfl⟩
      rw [hq] at hY3
      have hqq := Aside0.mk (show ∀ i, Value.ownBlock (.slice Ar rs.length cr) = some i → i < q from fun i hi => by rw [← hq]; exact own_lt hR i hi)
      have hq2 := Aside0.mk (show w2.heap.size ≤ q from by rw [← hq]; exact hb3.size)
      go_wp2_with (refine gate 21 ?_)
      clear hfill
      obtain ⟨w4, hw4⟩ : ∃ w4, w3.alloc (.cells #[.slice Ar rs.length cr, .slice Af hs0.length cf] 25) = w4 := ⟨_, rfl⟩
      rw [hw4] at hS34 hY3 ⊢
      try rw [hq]
      clear hw4 hq
      have hB4 := Aside0.mk (hb3.trans hS34)
      have hL4 := Aside0.mk (Loc.on hB4.out hL2.out)
      have hO4 := Aside0.mk (pw_own_below hH hS34)
      have hR4 := Aside0.mk (pw_own_below hR hS34)
      have hS4 := Aside0.mk (hS.on hS34)
      have hY4 := Aside0.mk hY3
      have hd1 := blk_cell hL4.out.2.1
      clear hR hH hS hb3 hS34 hY3
      refine ⟨?_⟩
      go_wp2
      clear hd1
      go_loopw [23] (fun v23 wr => ∃ (i : Nat) (L : List Hdr), v23 = .int .i64 i ∧ i ≤ fs.length ∧ Aside0 (L.length = hs0.length) ∧ Aside0 (OH wr w2.heap.size (.slice Af hs0.length cf) L) ∧ Aside0 (Sep wr w2.heap.size L ((fs.map (appF ns vs)).take i ++ fs.drop i)) ∧ Aside0 (OR wr w2.heap.size (.slice Ar rs.length cr) rs) ∧ Aside0 (On w2 wr) ∧ wr.heap[q]? = some (.cells #[.slice Ar rs.length cr, .slice Af hs0.length cf] 25 (0, 0))) (fun v23 _ => fs.length - (intOf v23).toNat)
      case atStart => exact ⟨0, hs0, rfl, Nat.zero_le _, ⟨rfl⟩, hO4, by simpa using hS4, hR4, hB4, hY4.out⟩
      case round =>
        obtain ⟨i, L, rfl, hi, hLl, hO, hSp, hR, hB, hY⟩ := hrel
        have hBw := Aside0.mk (hB2.out.trans hB.out)
        have hLr := Aside0.mk (Loc.on hB.out hL2.out)
        have hY' := Aside0.mk hY
        clear hY
        by_cases hlt : i < fs.length
        · have hiL := Aside0.mk (show i < L.length by rw [hLl.out, hlen.out]; exact hlt)
          have hlt0 : i < hs0.length := by have := hlen.out; omega
          have hmh : hs0.length ≤ 9223372036854775807 := by have := hlen.out; omega
          obtain ⟨g, rfl⟩ := own_at1 hO.out (by have := hiL.out; omega)
          obtain ⟨ad, A5, c5, rfl, x0, x1, x2⟩ := (h3.on hBw.out).at i hlt
          have x2' := Aside0.mk x2
          have hf3 := Aside0.mk (hle3.out fs[i] (List.getElem_mem hlt))
          have hfill := alloc_fill wr
          have hbx := Aside0.mk (On.alloc (On.refl wr) (.cells #[.int .i64 fs[i].1, .slice A5 fs[i].2.length c5] 60))
          have hcn := blk_cell (loc_new wr #[.int .i64 fs[i].1, .slice A5 fs[i].2.length c5] 60)
          have hd0 := blk_cell (blk_below hLr.out.1 hbx.out)
          have hyc := blk_cell (blk_below hY'.out hbx.out)
          clear x2
          go_wp2
          clear hfill
          refine Reg.region [(0,.L),(1,.L),(2,.L),(3,.L),(4,.L),(5,.N)] [6,7] (by kernel_rfl) (by kernel_rfl) ?_
          repeat first | refine sP ?_ | refine sS ?_ | refine sA ?_ | refine sL ?_ | refine sQ ?_ | refine sO ?_
          refine callN Tryz.func79 (fun w5 hS5 => ?_)
          have hB5 := Aside0.mk (hbx.out.trans hS5)
          refine (iApplyToFact_calls w5 A0 c0 A1 c1 A5 c5 ns vs fs[i] (h0.on (hBw.out.trans hB5.out)) (h1.on (hBw.out.trans hB5.out)) (x2'.out.on hB5.out) (by have := hf3.out; omega)).mono ?_
          rintro e w6 ⟨v6, rfl, u6, rfl, hO6, hb6⟩
          obtain ⟨F, hF⟩ : ∃ F : Fct, appF ns vs fs[i] = F := ⟨_, rfl⟩
          have hF1 : fs[i].1 = F.1 := by rw [← hF]; rfl
          have hF2 : fs[i].2.map (appV ns vs) = F.2 := by rw [← hF]; rfl
          rw [hF2] at hO6
          have hFR := Aside0.mk (show InR F.2 by
            rw [← hF2]
            intro x hx
            obtain ⟨y, hy, rfl⟩ := List.mem_map.1 hx
            exact appV_bd (x2'.out.2.2 y hy))
          obtain ⟨A6, c6, rfl⟩ := own_slice hO6
          refine ⟨.agg #[.int .i64 F.1, .slice A6 F.2.length c6], by rw [hF1], hb6, fun a' ha => ?_⟩
          simp only [Act.put, List.setIfInBounds_toArray, List.set_cons_zero, List.set_cons_succ] at ha
          subst ha
          refine Reg.tail_ fun w8 hS8 => ?_
          have hB8 := Aside0.mk (hB5.out.trans (hb6.trans hS8))
          have hO8 := Aside0.mk (pw_own_below hO.out hB8.out)
          have hO6' := Aside0.mk (own_lower (pw_own_below hO6 hS8) hB5.out.size)
          have hF' := Aside0.mk hF
          obtain ⟨hi0, hi1⟩ := OH.at hO8.out i hiL.out
          have hL2n : w8.ownsRow w2.heap.size 60 2 (.slice (some ⟨g, 0, none⟩) hs0.length cf) hs0.length (L.flatMap encH) := hLl.out ▸ hO8.out
          have hf0 := own_frozen hL2n (i * 2)
          have hf1 := own_frozen hL2n (i * 2 + 1)
          clear hL2n hO6 hF hF1 hF2 x0 x1 hcn hd0 hyc hb6
          go_wp2
          have hst := OH.store hO8.out i hiL.out (F.1, A6, F.2.length, c6)
          have hEs : Ex (fun b => b = g) w8 ((w8.setCell ⟨g, i * 2, none⟩ (.int .i64 F.1)).setCell ⟨g, i * 2 + 1, none⟩ (.slice A6 F.2.length c6)) := (Ex.set w8 ⟨g, i * 2, none⟩ _).trans (Ex.set _ ⟨g, i * 2 + 1, none⟩ _) (fun i _ h => h)
          have hEr := (Ex.of_on (S := fun b => b = g) hB8.out).trans hEs (fun _ _ h => h)
          have hgb : Value.ownBlock (.slice (some ⟨g, 0, none⟩) hs0.length cf) = some g := rfl
          have hgw := own_base hO8.out g hgb
          refine ⟨⟨i + 1, L.set i (F.1, A6, F.2.length, c6), by go_num, by omega, ⟨by rw [List.length_set]; exact hLl.out⟩, ⟨hst⟩, ⟨?_⟩, ⟨own_ex (pw_own_below hR.out hB8.out) hEs (fun k hk e => own_ne_blk (pw_own_below hR.out hB8.out) hO8.out (by decide) hk (by rw [e]; exact hgb))⟩, ⟨Reg.On.set (Reg.On.set (hB.out.trans hB8.out) hgw _) hgw _⟩, blk_ex hEs (blk_below hY'.out hB8.out) (fun e => row_ne_box hO8.out (blk_below hY'.out hB8.out) (by decide) (by rw [e]; rfl))⟩, by simp [intOf]; omega⟩
          have h9 := Sep.store (a := (F.1, A6, F.2.length, c6)) (f := F) hSp.out hEr (fun j b k hb hk e => (hSp.out.ne_row hO.out hb hk) (by rw [e]; rfl)) hiL.out rfl (own_ex hO6'.out hEs (fun k hk e => own_ne_blk hO6'.out hO8.out (by decide) hk (by rw [e]; exact hgb))) hFR.out hB.out.size
          have e2 : ((fs.map (appF ns vs)).take i ++ fs.drop i).set i F = (fs.map (appF ns vs)).take (i + 1) ++ fs.drop (i + 1) := by
            rw [List.drop_eq_getElem_cons hlt, set_mid _ _ _ _ i (by rw [List.length_take, List.length_map]; omega), List.take_succ_eq_append_getElem (by rw [List.length_map]; exact hlt), List.getElem_map, hF'.out, List.append_assoc]
            rfl
          rw [e2] at h9
          exact h9
        · have e1 : (fs.map (appF ns vs)).take i ++ fs.drop i = fs.map (appF ns vs) := by
            rw [List.take_of_length_le (by rw [List.length_map]; omega), List.drop_of_length_le (by omega), List.append_nil]
          rw [e1] at hSp
          have hyc := blk_cell hY'.out
          go_wp2_with (refine gate 38 ?_)
          have hRH := (OH.rh hO.out)
          have hFl := hRH.2.fcts hSp.out.reads
          have hlm : hs0.length = (fs.map (appF ns vs)).length := by rw [List.length_map]; exact hlen.out
          refine ⟨goesF 38 Tryz.func80 ((factsSet_calls wr Af hs0.length cf (fs.map (appF ns vs)) hFl hlm (by rw [List.length_map]; have := hle.out; omega) (fun f hf => ?_)).mono ?_)⟩
          · obtain ⟨f0, hf0, rfl⟩ := List.mem_map.1 hf
            have := hle3.out f0 hf0
            show (f0.2.map (appV ns vs)).length ≤ _
            rw [List.length_map]; omega
          rintro e w7 ⟨v7, rfl, hs7, hO7, hS7, hb7⟩
          obtain ⟨A7, c7, rfl⟩ := own_slice hO7
          refine ⟨_, rfl, ?_⟩
          have hO7' := Aside0.mk hO7
          have hS7' := Aside0.mk hS7
          have hB7 := Aside0.mk (hB.out.trans hb7)
          have hL7 := Aside0.mk (Loc.on hB7.out hL2.out)
          have hY7 := Aside0.mk (blk_below hY'.out hb7)
          have hR7 := Aside0.mk (pw_own_below hR.out hb7)
          have hwr := Aside0.mk (show q < wr.heap.size ∧ w2.heap.size ≤ wr.heap.size from ⟨blk_lt hY'.out, hB.out.size⟩)
          have hcy := blk_cell hY7.out
          have hfy := blk_frozen hY7.out
          have hcr : ∀ i, w7.cell? ⟨w.heap.size + 1 + 1, i, none⟩ = _ := blk_cell hL7.out.2.2.1
          have hfr : ∀ i, w7.frozen? ⟨w.heap.size + 1 + 1, i, none⟩ = _ := blk_frozen hL7.out.2.2.1
          have hne1 : ¬ (w.heap.size + 1 + 1 = q) := by have := hw2.out; have := hq2.out; omega
          have hne2 : ¬ (q = w.heap.size + 1 + 1) := fun e => hne1 e.symm
          clear hyc hO7 hS7 hRH hFl hlm hb7
          go_wp2
          refine bodyPost_ret (retIB rfl rfl (g := w.heap.size + 2) (blk_set (blk_set (blk_far hL7.out.2.2.1 (by simpa using hne1) _) 0 _) 1 _) rfl) rfl ?_
          have hw2' := hw2.out
          have hq2' := hq2.out
          have hwr' := hwr.out
          have hBx := Reg.On.set (p := ⟨q, 1, none⟩) (hB2.out.trans hB7.out) (by have := hB2.out.size; show _ ≤ q; omega) (.slice A7 hs7.length c7)
          refine ⟨_, rfl, _, by rw [hyes.out]; rfl, ?_, Reg.On.set (Reg.On.set hBx (by simp; omega) _) (by simp; omega) _⟩
          have e3 : appR rs fs ns vs = rs := by unfold appR; rw [hyes.out]; rfl
          have e4 : appI rs fs ns vs = setF (fs.map (appF ns vs)) := by unfold appI; rw [hyes.out]; rfl
          rw [e3, e4]
          have hEq := Ex.set w7 ⟨q, 1, none⟩ (.slice A7 hs7.length c7)
          have hI : OIn (w7.setCell ⟨q, 1, none⟩ (.slice A7 hs7.length c7)) w2.heap.size (.agg #[.slice Ar rs.length cr, .slice A7 hs7.length c7]) rs (setF (fs.map (appF ns vs))) :=
            ⟨_, _, hs7, rfl, own_ex hR7.out hEq (fun i hi e => by have := hqq.out i hi; have h5 : i = q := e; omega), own_lower (own_ex hO7'.out hEq (fun i hi e => by have := own_base hO7'.out i hi; have h5 : i = q := e; omega)) hwr'.2, (hS7'.out.ex hEq (fun i a b ha hb e => by have := (hS7'.out.lt ha hb).1; have h5 : b = q := e; omega)).lower hwr'.2⟩
          exact OIn.lower (OIn.set (OIn.set hI (by simp; omega) _) (by simp; omega) _) hB2.out.size
end Go.Proofs.YtgemaohdlibboaaGreatDoor.H
/- Walks: homomorphisms told, by both sides. No condition. -/
namespace Go.Proofs.YtgemaohdlibboaaGreatDoor.H
open Go Go.RowKit Go.Proofs.YtgemaohdlibboaaGreatDoorW.PrintWords Go.Proofs.YtgemaohdlibboaaGreatDoorW.PrintLast
open Go.Proofs.YtgemaohdlibboaaGreatDoor.Reg (On on_draw)
set_option maxHeartbeats 4000000
set_option maxRecDepth 100000
set_option linter.unusedVariables false
set_option linter.unusedSimpArgs false

theorem IsHom1_calls (w : World) (A c A0 c0 A1 c1 A2 c2) (f : Fct) (u : Value) (ns vs : List Int) (gs : List Fct) (b b2 : Nat) (h : Ints w A c f.2) (h0 : Ints w A0 c0 ns) (h1 : Ints w A1 c1 vs) (h2 : Fcts w A2 c2 gs)
    (hb0 : w.heap[b]? = some (.cells #[u, .slice A2 gs.length c2] 25 (0, 0))) (hb2 : w.heap[b2]? = some (.cells #[.slice A0 ns.length c0, .slice A1 vs.length c1] 41 (0, 0))) (hl : f.2.length ≤ 2000000) :
    Calls Tryz.prog 102 #[.agg #[.int .i64 f.1, .slice A f.2.length c], .pointer (some ⟨b, 0, none⟩), .pointer (some ⟨b2, 0, none⟩)] w fun e w' => e = .returned (.bool (!hasF gs (appF ns vs f))) ∧ On w w' := by
  have hb := Aside0.mk (On.alloc (On.refl w) (.cells #[.int .i64 f.1, .slice A f.2.length c] 60))
  have hc := blk_cell (blk_below hb0 hb.out)
  have hc2 := blk_cell (blk_below hb2 hb.out)
  have hcn := blk_cell (loc_new w #[.int .i64 f.1, .slice A f.2.length c] 60)
  clear hb0 hb2
  go_enter Tryz.func102, Tryz.ntmps102
  go_wp2
  refine Reg.region [(0,.L),(1,.L),(2,.L),(3,.L),(4,.N),(5,.C),(6,.L)] [7] (by kernel_rfl) (by kernel_rfl) ?_
  repeat first | refine sP ?_ | refine sS ?_ | refine sA ?_ | refine sL ?_ | refine sQ ?_ | refine sO ?_
  refine callN Tryz.func79 (fun w2 hS2 => ?_)
  refine (iApplyToFact_calls w2 A0 c0 A1 c1 A c ns vs f (h0.on (hb.out.trans hS2)) (h1.on (hb.out.trans hS2)) (h.on (hb.out.trans hS2)) hl).mono ?_
  rintro e w3 ⟨v, rfl, v3, rfl, hO3, hb3⟩
  obtain ⟨A3, c3, rfl, hI3⟩ := hO3.rd (map_inR (ns := ns) (vs := vs) h.2.2)
  refine ⟨_, rfl, hb3, fun a' ha => ?_⟩
  simp only [Act.put, List.setIfInBounds_toArray, List.set_cons_zero, List.set_cons_succ] at ha
  subst ha
  repeat first | refine sP ?_ | refine sS ?_ | refine sA ?_ | refine sL ?_ | refine sQ ?_ | refine sO ?_
  refine callC (.bool (hasF gs (appF ns vs f))) Tryz.func103 (fun w' hS => ?_) ?_
  focus exact hasFact_calls w' A2 c2 gs (h2.on (hb.out.trans (hS2.trans (hb3.trans hS)))) A3 c3 (appF ns vs f) (hI3.on hS)
  repeat first | refine sP ?_ | refine sS ?_ | refine sA ?_ | refine sL ?_ | refine sQ ?_ | refine sO ?_
  refine Reg.tail_ fun w5 hS5 => ?_
  go_wp2
  go_ret
  exact ⟨rfl, hb.out.trans (hS2.trans (hb3.trans hS5))⟩
theorem nulsI_okS (fs : List Fct) : (∀ x ∈ nulsI fs, 0 ≤ x ∧ x ≤ 39) ∧ (nulsI fs).length ≤ 40 := by
  have h1 : ∀ x ∈ nulsI fs, 0 ≤ x ∧ x ≤ 39 := fun x hx => by
    have := ((nulsIFrom_up fs [] (by simp)).2 x).1 hx
    simp only [List.not_mem_nil, false_or] at this
    exact (nulSeq_ok _).1 x this
  exact ⟨h1, up_len _ 0 40 (nulsIFrom_up fs [] (by simp)).1 (fun x hx => by have := h1 x hx; omega)⟩
theorem nulsI_inR (fs : List Fct) : InR (nulsI fs) := fun x hx => by
  have := (nulsI_okS fs).1 x hx
  omega
theorem iIsHom_calls (w : World) (A0 c0 A1 c1) (rs : List Rel) (fs : List Fct) (h0 : Rels w A0 c0 rs) (h1 : Fcts w A1 c1 fs) (A2 c2 A3 c3) (qs : List Rel) (gs : List Fct) (h2 : Rels w A2 c2 qs) (h3 : Fcts w A3 c3 gs) (A4 c4 A5 c5) (ns vs : List Int) (h4 : Ints w A4 c4 ns) (h5 : Ints w A5 c5 vs) (hz : wF fs ≤ 10000000) :
    Calls Tryz.prog 34 #[.agg #[.slice A0 rs.length c0, .slice A1 fs.length c1], .agg #[.slice A2 qs.length c2, .slice A3 gs.length c3], .agg #[.slice A4 ns.length c4, .slice A5 vs.length c5]] w fun e w' => e = .returned (.bool (isHom rs fs qs gs ns vs)) ∧ On w w' := by
  have hb := Aside0.mk (On.alloc (On.alloc (On.alloc (On.refl w) (.cells #[.slice A0 rs.length c0, .slice A1 fs.length c1] 25)) (.cells #[.slice A2 qs.length c2, .slice A3 gs.length c3] 25)) (.cells #[.slice A4 ns.length c4, .slice A5 vs.length c5] 41))
  have hL := Aside0.mk (loc3 w #[.slice A0 rs.length c0, .slice A1 fs.length c1] #[.slice A2 qs.length c2, .slice A3 gs.length c3] #[.slice A4 ns.length c4, .slice A5 vs.length c5] 25 25 41)
  cases hc : (okInst rs fs && (okInst qs gs && decide (rs = qs))) with
  | false =>
    have hr := Aside0.mk (show isHom rs fs qs gs ns vs = false by
      unfold isHom
      cases h1 : okInst rs fs <;> cases h2 : okInst qs gs <;> cases h3 : decide (rs = qs) <;> simp_all)
    have hc' := Aside0.mk hc
    clear hc
    go_enter Tryz.func34, Tryz.ntmps34
    go_wp2
    have hd0 := blk_cell hL.out.1
    have hd1 := blk_cell hL.out.2.1
    have hd2 := blk_cell hL.out.2.2.1
    refine Reg.region [(0,.L),(1,.L),(2,.C),(3,.L),(4,.L),(5,.L),(6,.C),(7,.L),(8,.L),(9,.L),(10,.L),(11,.L),(12,.L),(13,.N),(14,.C),(15,.L),(16,.L)] [] (by kernel_rfl) (by kernel_rfl) ?_
    repeat first | refine sP ?_ | refine sS ?_ | refine sA ?_ | refine sL ?_ | refine sQ ?_ | refine sO ?_
    refine callC (.bool false) Tryz.func99 (fun w' hS => ?_) ?_
    focus exact (areComparable_calls w' A0 c0 A1 c1 rs fs (h0.on (hb.out.trans hS)) (h1.on (hb.out.trans hS)) A2 c2 A3 c3 qs gs (h2.on (hb.out.trans hS)) (h3.on (hb.out.trans hS))).mono fun e w'' h => ⟨by rw [h.1, hc'.out], h.2⟩
    repeat first | refine sP ?_ | refine sS ?_ | refine sA ?_ | refine sL ?_ | refine sQ ?_ | refine sO ?_
    refine Reg.nil fun w2 hS => ?_
    go_wp2
    go_ret
    exact ⟨ret_bool hr.out.symm, hb.out.trans hS⟩
  | true =>
    have hk1 : okInst rs fs = true := by cases h1 : okInst rs fs; simp [h1] at hc; rfl
    have hk2 : okInst qs gs = true := by cases h2 : okInst qs gs; simp [h2] at hc; rfl
    have hk3 : decide (rs = qs) = true := by cases h3 : decide (rs = qs); rw [h3] at hc; simp at hc; rfl
    have hl2 : ∀ f ∈ fs, f.2.length ≤ 2000000 := fun f hf => Nat.le_trans (okFact_len (okInst_mem hk1 f hf)) (by omega)
    have hr0 := Aside0.mk (show isHom rs fs qs gs ns vs = (okSub ns vs && (decide (ns = nulsI fs) && fs.all fun f => hasF gs (appF ns vs f))) by unfold isHom; rw [hk1, hk2, hk3]; rfl)
    have hc' := Aside0.mk hc
    clear hc hk1 hk2 hk3
    cases hs : okSub ns vs with
    | false =>
      have hs' := Aside0.mk hs
      clear hs
      go_enter Tryz.func34, Tryz.ntmps34
      go_wp2
      have hd0 := blk_cell hL.out.1
      have hd1 := blk_cell hL.out.2.1
      have hd2 := blk_cell hL.out.2.2.1
      refine Reg.region [(0,.L),(1,.L),(2,.C),(3,.L),(4,.L),(5,.L),(6,.C),(7,.L),(8,.L),(9,.L),(10,.L),(11,.L),(12,.L),(13,.N),(14,.C),(15,.L),(16,.L)] [] (by kernel_rfl) (by kernel_rfl) ?_
      repeat first | refine sP ?_ | refine sS ?_ | refine sA ?_ | refine sL ?_ | refine sQ ?_ | refine sO ?_
      refine callC (.bool true) Tryz.func99 (fun w' hS => ?_) ?_
      focus exact (areComparable_calls w' A0 c0 A1 c1 rs fs (h0.on (hb.out.trans hS)) (h1.on (hb.out.trans hS)) A2 c2 A3 c3 qs gs (h2.on (hb.out.trans hS)) (h3.on (hb.out.trans hS))).mono fun e w'' h => ⟨by rw [h.1, hc'.out], h.2⟩
      repeat first | refine sP ?_ | refine sS ?_ | refine sA ?_ | refine sL ?_ | refine sQ ?_ | refine sO ?_
      refine callC (.bool false) Tryz.func28 (fun w' hS => ?_) ?_
      focus exact (iIsValidSub_calls w' A4 c4 A5 c5 ns vs (h4.on (hb.out.trans hS)) (h5.on (hb.out.trans hS))).mono fun e w'' h => ⟨by rw [h.1, hs'.out], h.2⟩
      repeat first | refine sP ?_ | refine sS ?_ | refine sA ?_ | refine sL ?_ | refine sQ ?_ | refine sO ?_
      refine Reg.nil fun w2 hS => ?_
      go_wp2
      go_ret
      exact ⟨ret_bool (by rw [hr0.out, hs'.out]; rfl), hb.out.trans hS⟩
    | true =>
      have hs' := Aside0.mk hs
      clear hs
      cases hn : decide (ns = nulsI fs) with
      | false =>
        have hn' := Aside0.mk hn
        clear hn
        go_enter Tryz.func34, Tryz.ntmps34
        go_wp2
        have hd0 := blk_cell hL.out.1
        have hd1 := blk_cell hL.out.2.1
        have hd2 := blk_cell hL.out.2.2.1
        refine Reg.region [(0,.L),(1,.L),(2,.C),(3,.L),(4,.L),(5,.L),(6,.C),(7,.L),(8,.L),(9,.L),(10,.L),(11,.L),(12,.L),(13,.N),(14,.C),(15,.L),(16,.L)] [] (by kernel_rfl) (by kernel_rfl) ?_
        repeat first | refine sP ?_ | refine sS ?_ | refine sA ?_ | refine sL ?_ | refine sQ ?_ | refine sO ?_
        refine callC (.bool true) Tryz.func99 (fun w' hS => ?_) ?_
        focus exact (areComparable_calls w' A0 c0 A1 c1 rs fs (h0.on (hb.out.trans hS)) (h1.on (hb.out.trans hS)) A2 c2 A3 c3 qs gs (h2.on (hb.out.trans hS)) (h3.on (hb.out.trans hS))).mono fun e w'' h => ⟨by rw [h.1, hc'.out], h.2⟩
        repeat first | refine sP ?_ | refine sS ?_ | refine sA ?_ | refine sL ?_ | refine sQ ?_ | refine sO ?_
        refine callC (.bool true) Tryz.func28 (fun w' hS => ?_) ?_
        focus exact (iIsValidSub_calls w' A4 c4 A5 c5 ns vs (h4.on (hb.out.trans hS)) (h5.on (hb.out.trans hS))).mono fun e w'' h => ⟨by rw [h.1, hs'.out], h.2⟩
        repeat first | refine sP ?_ | refine sS ?_ | refine sA ?_ | refine sL ?_ | refine sQ ?_ | refine sO ?_
        refine callN Tryz.func100 (fun w2 hS2 => ?_)
        refine (iNullsOfInstance_calls w2 A0 rs.length c0 A1 c1 fs (h1.on (hb.out.trans hS2)) hz).mono ?_
        rintro e w3 ⟨v3, rfl, hO3, hb3⟩
        obtain ⟨A6, c6, rfl, hI6⟩ := hO3.rd (nulsI_inR fs)
        refine ⟨_, rfl, hb3, fun a' ha => ?_⟩
        simp only [Act.put, List.setIfInBounds_toArray, List.set_cons_zero, List.set_cons_succ] at ha
        subst ha
        repeat first | refine sP ?_ | refine sS ?_ | refine sA ?_ | refine sL ?_ | refine sQ ?_ | refine sO ?_
        refine callC (.bool false) Tryz.func97 (fun w' hS => ?_) ?_
        focus exact (equalI_calls w' A4 c4 A6 c6 ns (nulsI fs) (h4.on (hb.out.trans (hS2.trans (hb3.trans hS)))) (hI6.on hS)).mono fun e w'' h => ⟨by rw [h.1, hn'.out], h.2⟩
        repeat first | refine sP ?_ | refine sS ?_ | refine sA ?_ | refine sL ?_ | refine sQ ?_ | refine sO ?_
        refine Reg.nil fun w5 hS5 => ?_
        go_wp2
        go_ret
        exact ⟨ret_bool (by rw [hr0.out, hs'.out, hn'.out]; rfl), hb.out.trans (hS2.trans (hb3.trans hS5))⟩
      | true =>
        have hn' := Aside0.mk hn
        clear hn
        go_enter Tryz.func34, Tryz.ntmps34
        go_wp2
        have hd0 := blk_cell hL.out.1
        have hd1 := blk_cell hL.out.2.1
        have hd2 := blk_cell hL.out.2.2.1
        refine Reg.region [(0,.L),(1,.L),(2,.C),(3,.L),(4,.L),(5,.L),(6,.C),(7,.L),(8,.L),(9,.L),(10,.L),(11,.L),(12,.L),(13,.N),(14,.C),(15,.L),(16,.L)] [] (by kernel_rfl) (by kernel_rfl) ?_
        repeat first | refine sP ?_ | refine sS ?_ | refine sA ?_ | refine sL ?_ | refine sQ ?_ | refine sO ?_
        refine callC (.bool true) Tryz.func99 (fun w' hS => ?_) ?_
        focus exact (areComparable_calls w' A0 c0 A1 c1 rs fs (h0.on (hb.out.trans hS)) (h1.on (hb.out.trans hS)) A2 c2 A3 c3 qs gs (h2.on (hb.out.trans hS)) (h3.on (hb.out.trans hS))).mono fun e w'' h => ⟨by rw [h.1, hc'.out], h.2⟩
        repeat first | refine sP ?_ | refine sS ?_ | refine sA ?_ | refine sL ?_ | refine sQ ?_ | refine sO ?_
        refine callC (.bool true) Tryz.func28 (fun w' hS => ?_) ?_
        focus exact (iIsValidSub_calls w' A4 c4 A5 c5 ns vs (h4.on (hb.out.trans hS)) (h5.on (hb.out.trans hS))).mono fun e w'' h => ⟨by rw [h.1, hs'.out], h.2⟩
        repeat first | refine sP ?_ | refine sS ?_ | refine sA ?_ | refine sL ?_ | refine sQ ?_ | refine sO ?_
        refine callN Tryz.func100 (fun w2 hS2 => ?_)
        refine (iNullsOfInstance_calls w2 A0 rs.length c0 A1 c1 fs (h1.on (hb.out.trans hS2)) hz).mono ?_
        rintro e w3 ⟨v3, rfl, hO3, hb3⟩
        obtain ⟨A6, c6, rfl, hI6⟩ := hO3.rd (nulsI_inR fs)
        refine ⟨_, rfl, hb3, fun a' ha => ?_⟩
        simp only [Act.put, List.setIfInBounds_toArray, List.set_cons_zero, List.set_cons_succ] at ha
        subst ha
        repeat first | refine sP ?_ | refine sS ?_ | refine sA ?_ | refine sL ?_ | refine sQ ?_ | refine sO ?_
        refine callC (.bool true) Tryz.func97 (fun w' hS => ?_) ?_
        focus exact (equalI_calls w' A4 c4 A6 c6 ns (nulsI fs) (h4.on (hb.out.trans (hS2.trans (hb3.trans hS)))) (hI6.on hS)).mono fun e w'' h => ⟨by rw [h.1, hn'.out], h.2⟩
        repeat first | refine sP ?_ | refine sS ?_ | refine sA ?_ | refine sL ?_ | refine sQ ?_ | refine sO ?_
        refine Reg.nil fun w5 hS5 => ?_
        have hB5 := Aside0.mk (hb.out.trans (hS2.trans (hb3.trans hS5)))
        have hL5 := Aside0.mk (Loc.on (hS2.trans (hb3.trans hS5)) hL.out)
        have hc0 := blk_cell hL5.out.1
        go_wp2_with (go_at_call 101; refine (ContainsFuncF_calls _ A1 c1 fs (h1.on hB5.out) (fn := 102) #[.pointer (some ⟨w.heap.size + 1, 0, none⟩), .pointer (some ⟨w.heap.size + 1 + 1, 0, none⟩)] (fun f => !hasF gs (appF ns vs f)) Tryz.func102 (by kernel_rfl) rfl (fun w' hw f hf B d hI => IsHom1_calls w' B d A4 c4 A5 c5 A3 c3 f _ ns vs gs (w.heap.size + 1) (w.heap.size + 1 + 1) hI (h4.on (hB5.out.trans hw)) (h5.on (hB5.out.trans hw)) (h3.on (hB5.out.trans hw)) (blk_below hL5.out.2.1 hw) (blk_below hL5.out.2.2.1 hw) (hl2 f hf))).mono ?_; rintro e w6 ⟨rfl, hb6⟩)
        go_ret
        exact ⟨ret_bool (by rw [hr0.out, hs'.out, hn'.out]; simp [List.all_eq_not_any_not]), hB5.out.trans hb6⟩

end Go.Proofs.YtgemaohdlibboaaGreatDoor.H
/- Walks: the draws of one fact of an instance, of an instance with a fact. What is told: sizes and ranges. No condition. -/
namespace Go.Proofs.YtgemaohdlibboaaGreatDoor.H
open Go Go.RowKit Go.Proofs.YtgemaohdlibboaaGreatDoorW.PrintWords Go.Proofs.YtgemaohdlibboaaGreatDoorW.PrintLast
open Go.Proofs.YtgemaohdlibboaaGreatDoor.Reg (On on_draw)
set_option maxHeartbeats 4000000
set_option maxRecDepth 100000
set_option linter.unusedVariables false
set_option linter.unusedSimpArgs false

/-- A fact read whatever happens to blocks S. -/
def RSa (S : Nat → Prop) (w : World) (v : Value) (f : Fct) : Prop := ∀ w', Ex S w w' → RFa w' v f
theorem RSa.ex {S : Nat → Prop} {W w : World} {v : Value} {f : Fct} (h : RSa S W v f) (k : Ex S W w) : RSa S w v f := fun w' h' => h w' (k.trans h' fun _ _ h => h)
theorem OFa.rs {S : Nat → Prop} {w : World} {lo : Nat} {v : Value} {f : Fct} (h : OFa w lo v f) (hS : ∀ b, S b → b < lo) : RSa S w v f := fun w' k => (h.ex k hS).read
theorem RH.at {w : World} {A : Option Addr} {c : Nat} {hs : List Hdr} (h : RH w A c hs) (k : Nat) (hk : k < hs.length) : ∃ ad, A = some ad ∧ w.cell? (ad.add (k * 2)) = some (.int .i64 hs[k].1) ∧ w.cell? ⟨(ad.add (k * 2)).block, (ad.add (k * 2)).off + 1, none⟩ = some (hdV hs[k]) := by
  obtain ⟨ad, e, h0⟩ := h.cell (k * 2 + 0) _ ((flat_get (enc := encH) (sz := 2) (fun _ => rfl) hs k 0 hk (by omega)).trans rfl)
  obtain ⟨ad', e', h1⟩ := h.cell (k * 2 + 1) _ ((flat_get (enc := encH) (sz := 2) (fun _ => rfl) hs k 1 hk (by omega)).trans rfl)
  obtain rfl : ad = ad' := Option.some.inj (e.symm.trans e')
  exact ⟨ad, e, h0, by rw [← add_field _ _ 1 (by omega)]; exact h1⟩
section
variable {fn : Func} {p u : Tmp} {tmps : Array Value} {w : World} {g g' : Nat} {t t' : TypeId} {cs cs' : Array Value} {fr fr' : Nat × Nat}
end
end Go.Proofs.YtgemaohdlibboaaGreatDoor.H
/- Walks: the reference's draws of an instance with a fact and of two facts. What is told: sizes and ranges. No condition. -/
namespace Go.Proofs.YtgemaohdlibboaaGreatDoor.H
open Go Go.RowKit Go.Proofs.YtgemaohdlibboaaGreatDoorW.PrintWords Go.Proofs.YtgemaohdlibboaaGreatDoorW.PrintLast
open Go.Proofs.YtgemaohdlibboaaGreatDoor.Reg (On on_draw)
set_option maxHeartbeats 4000000
set_option maxRecDepth 100000
set_option linter.unusedVariables false
set_option linter.unusedSimpArgs false

end Go.Proofs.YtgemaohdlibboaaGreatDoor.H
/- Walks: the reference's draw of two facts. What is told: sizes and ranges. No condition. -/
namespace Go.Proofs.YtgemaohdlibboaaGreatDoor.H
open Go Go.RowKit Go.Proofs.YtgemaohdlibboaaGreatDoorW.PrintWords Go.Proofs.YtgemaohdlibboaaGreatDoorW.PrintLast
open Go.Proofs.YtgemaohdlibboaaGreatDoor.Reg (On on_draw)
set_option maxHeartbeats 4000000
set_option maxRecDepth 100000
set_option linter.unusedVariables false
set_option linter.unusedSimpArgs false

section
variable {fn : Func} {p u : Tmp} {tmps : Array Value} {w : World} {g g' : Nat} {t t' : TypeId} {cs cs' : Array Value} {fr fr' : Nat × Nat}
end
end Go.Proofs.YtgemaohdlibboaaGreatDoor.H
/- Walk: spec.EqualInstances. No condition. -/
namespace Go.Proofs.YtgemaohdlibboaaGreatDoor.H
open Go Go.RowKit Go.Proofs.YtgemaohdlibboaaGreatDoorW.PrintWords Go.Proofs.YtgemaohdlibboaaGreatDoorW.PrintLast
open Go.Proofs.YtgemaohdlibboaaGreatDoor.Reg (On on_draw)
set_option maxHeartbeats 4000000
set_option maxRecDepth 100000
set_option linter.unusedVariables false
set_option linter.unusedSimpArgs false

theorem take_eq_succ {fs gs : List Fct} {k : Nat} (h1 : k < fs.length) (h2 : k < gs.length) (h : fs.take k = gs.take k) (he : fs[k] = gs[k]) : fs.take (k + 1) = gs.take (k + 1) := by
  rw [List.take_succ_eq_append_getElem h1, List.take_succ_eq_append_getElem h2, h, he]
theorem EqualInstances_calls (w : World) (A0 c0 A1 c1) (rs : List Rel) (fs : List Fct) (h0 : Rels w A0 c0 rs) (h1 : Fcts w A1 c1 fs) (A2 c2 A3 c3) (qs : List Rel) (gs : List Fct) (h2 : Rels w A2 c2 qs) (h3 : Fcts w A3 c3 gs) :
    Calls Tryz.prog 20 #[.agg #[.slice A0 rs.length c0, .slice A1 fs.length c1], .agg #[.slice A2 qs.length c2, .slice A3 gs.length c3]] w fun e w' => e = .returned (.bool (decide (rs = qs) && decide (fs = gs))) ∧ On w w' := by
  have hb := Aside0.mk (On.alloc (On.alloc (On.refl w) (.cells #[.slice A0 rs.length c0, .slice A1 fs.length c1] 25)) (.cells #[.slice A2 qs.length c2, .slice A3 gs.length c3] 25))
  have hL := Aside0.mk (loc2 w #[.slice A0 rs.length c0, .slice A1 fs.length c1] #[.slice A2 qs.length c2, .slice A3 gs.length c3] 25 25)
  cases he : decide (rs = qs) with
  | false =>
    have he' := Aside0.mk he
    clear he
    go_enter Tryz.func20, Tryz.ntmps20
    go_wp2_with (go_at_call 73; refine (l5Sigs_calls _ A0 c0 A2 c2 rs qs (h0.on hb.out) (h2.on hb.out)).mono ?_; rintro e w1 ⟨rfl, hb1⟩; rw [he'.out])
    go_ret
    exact ⟨ret_bool (by rw [Bool.false_and]), hb.out.trans hb1⟩
  | true =>
    have he' := Aside0.mk he
    clear he
    by_cases hl : fs.length = gs.length
    · have hl' := Aside0.mk hl
      have hlb : ((fs.length : Int) == (gs.length : Int)) = true := by simp [hl]
      have hlc : ((fs.length : Int) != (gs.length : Int)) = false := by simp [bne, hlb]
      have hld : (fs.length == gs.length) = true := by simp [hl]
      clear hl
      go_enter Tryz.func20, Tryz.ntmps20
      go_wp2_with (go_at_call 73; refine (l5Sigs_calls _ A0 c0 A2 c2 rs qs (h0.on hb.out) (h2.on hb.out)).mono ?_; rintro e w1 ⟨rfl, hb1⟩; rw [he'.out]; have hd := blk_cell (Loc.on hb1 hL.out).1; have hdx := blk_cell (Loc.on hb1 hL.out).2.1)
      clear hlb hlc hld hd hdx
      have hW1 := Aside0.mk (hb.out.trans hb1)
      have hL1 := Aside0.mk (Loc.on hb1 hL.out)
      clear hb1
      go_loopw [5] (fun v5 wr => ∃ (k : Nat), v5 = .int .i64 k ∧ k ≤ fs.length ∧ Aside0 (fs.take k = gs.take k) ∧ Aside0 (On w1 wr)) (fun v5 _ => fs.length - (intOf v5).toNat)
      case atStart => exact ⟨0, rfl, Nat.zero_le _, ⟨rfl⟩, ⟨On.refl _⟩⟩
      case round =>
        obtain ⟨k, rfl, hk, hall, hB⟩ := hrel
        have hBw := Aside0.mk (hW1.out.trans hB.out)
        have hLr := Aside0.mk (Loc.on hB.out hL1.out)
        have hd0 := blk_cell hLr.out.1
        have hd1 := blk_cell hLr.out.2.1
        by_cases hlt : k < fs.length
        · have hlt2 : k < gs.length := by have := hl'.out; omega
          obtain ⟨ad, B3, e3, hA1, x0, x1, x2⟩ := (h1.on hBw.out).at k hlt
          obtain ⟨bd, B4, e4, hA3, y0, y1, y2⟩ := (h3.on hBw.out).at k hlt2
          subst hA1 hA3
          have x2' := Aside0.mk x2
          have y2' := Aside0.mk y2
          have hB' := hB
          clear x2 y2
          by_cases hc : cmpF fs[k] gs[k] = 0
          · as_aux_lemma =>
              have hc' := Aside0.mk hc
              have hc1 : (cmpF fs[k] gs[k] != 0) = false := by simp [hc]
              have hc2 : (cmpF fs[k] gs[k] == 0) = true := by simp [hc]
              clear hc
              go_wp2
              refine Reg.region [(0,.L),(1,.L),(2,.L),(3,.L),(4,.L),(5,.L),(6,.L),(7,.L),(8,.L),(9,.L),(10,.C),(11,.L)] [] (by kernel_rfl) (by kernel_rfl) ?_
              repeat first | refine sP ?_ | refine sS ?_ | refine sA ?_ | refine sL ?_ | refine sQ ?_ | refine sO ?_
              refine callC (.int .i64 (cmpF fs[k] gs[k])) Tryz.func70 (fun w' hS => ?_) ?_
              focus exact CompareFacts_calls w' _ _ _ _ fs[k] gs[k] (x2'.out.on hS) (y2'.out.on hS)
              repeat first | refine sP ?_ | refine sS ?_ | refine sA ?_ | refine sL ?_ | refine sQ ?_ | refine sO ?_
              refine Reg.nil fun w2 hS => ?_
              clear x0 x1 y0 y1 hd0 hd1
              go_wp2
              have hwk : wrap64 ((k : Int) + 1) = ((k + 1 : Nat) : Int) := by rw [IntWalk.wrap64_in _ (by have := h1.max; omega)]; omega
              exact ⟨⟨k + 1, by rw [hwk], by omega, ⟨take_eq_succ hlt hlt2 hall.out ((cmpF_eq _ _).1 hc'.out)⟩, ⟨hB.out.trans hS⟩⟩, by rw [hwk]; simp [intOf]; omega⟩
          · as_aux_lemma =>
              have hc1 : (cmpF fs[k] gs[k] != 0) = true := by simp [hc]
              have hc2 : (cmpF fs[k] gs[k] == 0) = false := by simp [hc]
              have hne := Aside0.mk (show ¬ fs = gs from fun e => by subst e; exact hc (cmpF_self _))
              clear hc
              go_wp2
              refine Reg.region [(0,.L),(1,.L),(2,.L),(3,.L),(4,.L),(5,.L),(6,.L),(7,.L),(8,.L),(9,.L),(10,.C),(11,.L)] [] (by kernel_rfl) (by kernel_rfl) ?_
              repeat first | refine sP ?_ | refine sS ?_ | refine sA ?_ | refine sL ?_ | refine sQ ?_ | refine sO ?_
              refine callC (.int .i64 (cmpF fs[k] gs[k])) Tryz.func70 (fun w' hS => ?_) ?_
              focus exact CompareFacts_calls w' _ _ _ _ fs[k] gs[k] (x2'.out.on hS) (y2'.out.on hS)
              repeat first | refine sP ?_ | refine sS ?_ | refine sA ?_ | refine sL ?_ | refine sQ ?_ | refine sO ?_
              refine Reg.nil fun w2 hS => ?_
              clear x0 x1 y0 y1 hd0 hd1
              go_wp2
              go_ret
              exact ⟨ret_bool (by rw [decide_eq_false hne.out, Bool.and_false]), hBw.out.trans hS⟩
        · have hge := Aside0.mk (show fs = gs by
            have := hall.out
            rw [List.take_of_length_le (by omega), List.take_of_length_le (by have := hl'.out; omega)] at this
            exact this)
          go_wp2
          go_ret
          exact ⟨ret_bool (by rw [decide_eq_true hge.out]; rfl), hBw.out⟩
    · have hlb : ((fs.length : Int) == (gs.length : Int)) = false := by simp; omega
      have hlc : ((fs.length : Int) != (gs.length : Int)) = true := by simp [bne, hlb]
      have hld : (fs.length == gs.length) = false := by simp [hl]
      have hne := Aside0.mk (show ¬ fs = gs from fun e => hl (congrArg _ e))
      clear hl
      go_enter Tryz.func20, Tryz.ntmps20
      go_wp2_with (go_at_call 73; refine (l5Sigs_calls _ A0 c0 A2 c2 rs qs (h0.on hb.out) (h2.on hb.out)).mono ?_; rintro e w1 ⟨rfl, hb1⟩; rw [he'.out]; have hd := blk_cell (Loc.on hb1 hL.out).1; have hdx := blk_cell (Loc.on hb1 hL.out).2.1)
      go_ret
      exact ⟨ret_bool (by rw [decide_eq_false hne.out, Bool.and_false]), hb.out.trans hb1⟩
end Go.Proofs.YtgemaohdlibboaaGreatDoor.H
/- Walk: impl.IsSubset. No condition. -/
namespace Go.Proofs.YtgemaohdlibboaaGreatDoor.H
open Go Go.RowKit Go.Proofs.YtgemaohdlibboaaGreatDoorW.PrintWords Go.Proofs.YtgemaohdlibboaaGreatDoorW.PrintLast
open Go.Proofs.YtgemaohdlibboaaGreatDoor.Reg (On on_draw)
set_option maxHeartbeats 4000000
set_option maxRecDepth 100000
set_option linter.unusedVariables false
set_option linter.unusedSimpArgs false

end Go.Proofs.YtgemaohdlibboaaGreatDoor.H
/- Walks: what the law FnInsertDelete calls, in terms of values; its size test. No condition. -/
namespace Go.Proofs.YtgemaohdlibboaaGreatDoor.H
open Go Go.RowKit Go.Proofs.YtgemaohdlibboaaGreatDoorW.PrintWords Go.Proofs.YtgemaohdlibboaaGreatDoorW.PrintLast
open Go.Proofs.YtgemaohdlibboaaGreatDoor.Reg (On on_draw)
set_option maxHeartbeats 4000000
set_option maxRecDepth 100000
set_option linter.unusedVariables false
set_option linter.unusedSimpArgs false

theorem big_calls (w : World) (A n c) : Calls Tryz.prog 13 #[.slice A n c] w fun e w' => e = .returned (.bool (decide (1048576 < (n : Int)))) ∧ On w w' := by
  go_enter Tryz.func13, Tryz.ntmps13
  go_wp2
  go_ret
  exact ⟨rfl, On.refl _⟩
end Go.Proofs.YtgemaohdlibboaaGreatDoor.H
/- Walks: the law FnSubstitutions. No condition. -/
namespace Go.Proofs.YtgemaohdlibboaaGreatDoor.H
open Go Go.RowKit Go.Proofs.YtgemaohdlibboaaGreatDoorW.PrintWords Go.Proofs.YtgemaohdlibboaaGreatDoorW.PrintLast
open Go.Proofs.YtgemaohdlibboaaGreatDoor.Reg (On on_draw)
set_option maxHeartbeats 8000000
set_option maxRecDepth 100000
set_option linter.unusedVariables false
set_option linter.unusedSimpArgs false

theorem seqIV (w : World) (v u : Value) (rs : List Rel) (fs : List Fct) (qs : List Rel) (gs : List Fct) (h : RIn w v rs fs) (k : RIn w u qs gs) : Calls Tryz.prog 20 #[v, u] w fun e w' => e = .returned (.bool (decide (rs = qs) && decide (fs = gs))) ∧ On w w' := by
  obtain ⟨A0, c0, A1, c1, rfl, h0, h1⟩ := h.out
  obtain ⟨A2, c2, A3, c3, rfl, h2, h3⟩ := k.out
  exact EqualInstances_calls w A0 c0 A1 c1 rs fs h0 h1 A2 c2 A3 c3 qs gs h2 h3
theorem seqT (w : World) (v u : Value) (rs : List Rel) (fs : List Fct) (h : RIn w v rs fs) (k : RIn w u rs fs) : Calls Tryz.prog 20 #[v, u] w fun e w' => e = .returned (.bool true) ∧ On w w' :=
  (seqIV w v u rs fs rs fs h k).mono fun e w' h => ⟨by rw [h.1]; simp, h.2⟩
theorem sviV (w : World) (v : Value) (rs : List Rel) (fs : List Fct) (h : RIn w v rs fs) : Calls Tryz.prog 18 #[v] w fun e w' => e = .returned (.bool (okInst rs fs)) ∧ On w w' := by
  obtain ⟨A0, c0, A1, c1, rfl, h0, h1⟩ := h.out
  exact IsValidInstance_calls w A0 c0 A1 c1 rs fs h0 h1
theorem iviV (w : World) (v : Value) (rs : List Rel) (fs : List Fct) (h : RIn w v rs fs) : Calls Tryz.prog 19 #[v] w fun e w' => e = .returned (.bool (okInst rs fs)) ∧ On w w' := by
  obtain ⟨A0, c0, A1, c1, rfl, h0, h1⟩ := h.out
  exact iIsValidInstance_calls w A0 c0 A1 c1 rs fs h0 h1
theorem svsV (w : World) (v : Value) (ns vs : List Int) (h : RSu w v ns vs) : Calls Tryz.prog 29 #[v] w fun e w' => e = .returned (.bool (okSub ns vs)) ∧ On w w' := by
  obtain ⟨A0, c0, A1, c1, rfl, h0, h1⟩ := h.out
  exact sIsValidSub_calls w A0 c0 A1 c1 ns vs h0 h1
theorem ivsV (w : World) (v : Value) (ns vs : List Int) (h : RSu w v ns vs) : Calls Tryz.prog 28 #[v] w fun e w' => e = .returned (.bool (okSub ns vs)) ∧ On w w' := by
  obtain ⟨A0, c0, A1, c1, rfl, h0, h1⟩ := h.out
  exact iIsValidSub_calls w A0 c0 A1 c1 ns vs h0 h1
theorem sapV (w : World) (t v : Value) (ns vs : List Int) (rs : List Rel) (fs : List Fct) (l : RSu w t ns vs) (h : RIn w v rs fs) : Calls Tryz.prog 25 #[t, v] w (Got fun v w' => ∃ v1, v = .tuple #[v1, .bool (appOk rs fs ns vs)] ∧ RIn w' v1 (appR rs fs ns vs) (appI rs fs ns vs) ∧ On w w') := by
  obtain ⟨A4, c4, A5, c5, rfl, h4, h5⟩ := l.out
  obtain ⟨A0, c0, A1, c1, rfl, h0, h1⟩ := h.out
  exact (sApplyToInstance_calls w A4 c4 A5 c5 ns vs h4 h5 A0 c0 A1 c1 rs fs h0 h1).mono fun e w' ⟨v, he, v1, h1, h2, h3⟩ => ⟨v, he, v1, h1, h2.read, h3⟩
theorem iapV (w : World) (t v : Value) (ns vs : List Int) (rs : List Rel) (fs : List Fct) (l : RSu w t ns vs) (h : RIn w v rs fs) : Calls Tryz.prog 24 #[t, v] w (Got fun v w' => ∃ v1, v = .tuple #[v1, .bool (appOk rs fs ns vs)] ∧ RIn w' v1 (appR rs fs ns vs) (appI rs fs ns vs) ∧ On w w') := by
  obtain ⟨A4, c4, A5, c5, rfl, h4, h5⟩ := l.out
  obtain ⟨A0, c0, A1, c1, rfl, h0, h1⟩ := h.out
  exact (iApplyToInstance_calls w A4 c4 A5 c5 ns vs h4 h5 A0 c0 A1 c1 rs fs h0 h1).mono fun e w' ⟨v, he, v1, h1, h2, h3⟩ => ⟨v, he, v1, h1, h2.read, h3⟩
theorem iihV (w : World) (v u t : Value) (rs : List Rel) (fs : List Fct) (qs : List Rel) (gs : List Fct) (ns vs : List Int) (h : RIn w v rs fs) (k : RIn w u qs gs) (l : RSu w t ns vs) (hz : wF fs ≤ 10000000) : Calls Tryz.prog 34 #[v, u, t] w fun e w' => e = .returned (.bool (isHom rs fs qs gs ns vs)) ∧ On w w' := by
  obtain ⟨A0, c0, A1, c1, rfl, h0, h1⟩ := h.out
  obtain ⟨A2, c2, A3, c3, rfl, h2, h3⟩ := k.out
  obtain ⟨A4, c4, A5, c5, rfl, h4, h5⟩ := l.out
  exact iIsHom_calls w A0 c0 A1 c1 rs fs h0 h1 A2 c2 A3 c3 qs gs h2 h3 A4 c4 A5 c5 ns vs h4 h5 hz
theorem snuV (w : World) (v : Value) (rs : List Rel) (fs : List Fct) (h : RIn w v rs fs) (hz : wF fs ≤ 10000000) : Calls Tryz.prog 35 #[v] w (Got fun v w' => ∃ A c, v = .slice A (nulsI fs).length c ∧ On w w') := by
  obtain ⟨A0, c0, A1, c1, rfl, h0, h1⟩ := h.out
  refine (sNullsOfInstance_calls w A0 rs.length c0 A1 c1 fs h1 hz).mono ?_
  rintro e w' ⟨v, rfl, hO, hb⟩
  obtain ⟨A, c, rfl, -⟩ := OInts.slice hO (nulsI_inR fs)
  exact ⟨_, rfl, A, c, rfl, hb⟩
theorem wF_200s {fs : List Fct} (h : fs.length ≤ 200) (h3 : ∀ f ∈ fs, f.2.length ≤ 3) : wF fs ≤ 10000000 := by
  have := wF_small fs h3
  omega
theorem b_eq (b : Bool) : (b == b) = true := by cases b <;> rfl
theorem b_ne (b : Bool) : (b != b) = false := by cases b <;> rfl
theorem s_eq (s : List UInt8) : ((strB s).toList == (strB s).toList) = true := by rw [str_beq]; simp
theorem s_ne (s : List UInt8) : ((strB s).toList != (strB s).toList) = false := by unfold bne; rw [s_eq]; rfl

theorem FnSubstitutions_calls (w : World) (A c) (xs : List Int) (hc : xs.length ≤ c) (hK : kBytes.C w A xs.length xs) (hg : ∀ x ∈ xs, 0 ≤ x ∧ x ≤ 255) : Calls Tryz.prog 5 #[.slice A xs.length c] w fun e w' => e = .returned (.bool true) ∧ On w w' := by
  have hK' := Aside0.mk hK
  have hc' := Aside0.mk hc
  clear hK hc hg
  by_cases hbig : 1048576 < (xs.length : Int)
  · have hbb := Aside0.mk (decide_eq_true hbig)
    clear hbig
    go_enter Tryz.func5, Tryz.ntmps5
    go_wp2_with (go_at_call 13; refine (big_calls w A xs.length c).mono ?_; rintro e w1 ⟨rfl, hb1⟩; rw [hbb.out])
    go_ret
    exact ⟨rfl, hb1⟩
  · have hbb := Aside0.mk (decide_eq_false hbig)
    clear hbig
    go_enter Tryz.func5, Tryz.ntmps5
    go_wp2_with (first | (go_at_call 13; refine (big_calls w A xs.length c).mono ?_; rintro e w1 ⟨rfl, hb1⟩; rw [hbb.out]) | (go_at_call 22; refine Stop.out ?_))
    clear hbb
    refine ⟨(DrawApplyToInstance_calls _ A c xs hc'.out (Kd.C_below hK'.out hb1)).mono ?_⟩
    rintro e w2 ⟨v, rfl, v1, v2, rfl, hV, hb2⟩
    obtain ⟨ns, vs, rs, fs, hU1, hU2, hl1, hl2⟩ := hV.out
    have hS := Aside0.mk hU1
    have hX := Aside0.mk hU2
    obtain ⟨S0, cS0, S1, cS1, rfl, -, -⟩ := hU1.out
    obtain ⟨X0, cX0, X1, cX1, rfl, -, -⟩ := hU2.out
    have hwz := Aside0.mk (wF_200s hl1 hl2)
    have hW := Aside0.mk (hb1.trans hb2)
    clear hV hU1 hU2 hl1 hl2 hb1 hb2
    have hL := Aside0.mk (loc2 w2 #[.slice none 0 0, .slice none 0 0] #[.slice none 0 0, .slice none 0 0] 41 25)
    have hd0 := blk_cell hL.out.1
    have hd1 := blk_cell hL.out.2.1
    have hf0 := blk_frozen hL.out.1
    have hf1 := blk_frozen hL.out.2.1
    go_wp2_with (go_at_call 23; refine Stop.out ?_)
    clear hd0 hd1 hf0 hf1 hL
    obtain ⟨wa, hWe⟩ : ∃ W, (w2.alloc (.cells #[.slice S0 ns.length cS0, .slice S1 vs.length cS1] 41 (0, 0))).alloc (.cells #[.slice X0 rs.length cX0, .slice X1 fs.length cX1] 25 (0, 0)) = W := ⟨_, rfl⟩
    have hSe := Aside0.mk (show On w2 wa from hWe ▸ On.alloc (On.alloc (On.refl _) _) _)
    have hLe := Aside0.mk (show Loc wa [(w2.heap.size, #[.slice S0 ns.length cS0, .slice S1 vs.length cS1], 41), (w2.heap.size + 1, #[.slice X0 rs.length cX0, .slice X1 fs.length cX1], 25)] from hWe ▸ loc2 w2 _ _ _ _)
    rw [hWe]
    clear hWe
    replace hW := Aside0.mk (hW.out.trans hSe.out)
    replace hS := Aside0.mk (hS.out.on hSe.out)
    replace hX := Aside0.mk (hX.out.on hSe.out)
    have kS := Aside0.mk hLe.out.1
    have kX := Aside0.mk hLe.out.2.1
    clear hLe hSe
    refine ⟨(DrawCompose_calls wa A c xs hc'.out (Kd.C_below hK'.out hW.out)).mono ?_⟩
    rintro e w4 ⟨v, rfl, v1, v2, rfl, hV, hb1⟩
    obtain ⟨an, av, bn, bv, hU1, hU2⟩ := hV.out
    have hA := Aside0.mk hU1
    have hB := Aside0.mk hU2
    obtain ⟨A0, cA0, A1, cA1, rfl, -, -⟩ := hU1.out
    obtain ⟨B0, cB0, B1, cB1, rfl, -, -⟩ := hU2.out
    replace hW := Aside0.mk (hW.out.trans hb1)
    replace hS := Aside0.mk (hS.out.on hb1)
    replace hX := Aside0.mk (hX.out.on hb1)
    replace kS := Aside0.mk (blk_below kS.out hb1)
    replace kX := Aside0.mk (blk_below kX.out hb1)
    clear hV hU1 hU2 hb1
    have hL := Aside0.mk (loc2 w4 #[.slice none 0 0, .slice none 0 0] #[.slice none 0 0, .slice none 0 0] 41 41)
    have hd0 := blk_cell hL.out.1
    have hd1 := blk_cell hL.out.2.1
    have hf0 := blk_frozen hL.out.1
    have hf1 := blk_frozen hL.out.2.1
    have ckS := blk_cell (blk_below kS.out (On.alloc (On.alloc (On.refl w4) (.cells #[.slice A0 an.length cA0, .slice A1 av.length cA1] 41 (0, 0))) (.cells #[.slice B0 bn.length cB0, .slice B1 bv.length cB1] 41 (0, 0))))
    have ckX := blk_cell (blk_below kX.out (On.alloc (On.alloc (On.refl w4) (.cells #[.slice A0 an.length cA0, .slice A1 av.length cA1] 41 (0, 0))) (.cells #[.slice B0 bn.length cB0, .slice B1 bv.length cB1] 41 (0, 0))))
    go_wp2_with (go_at_call 24; refine Stop.out ?_)
    clear hd0 hd1 hf0 hf1 hL
    clear ckS ckX
    obtain ⟨wb, hWe⟩ : ∃ W, (w4.alloc (.cells #[.slice A0 an.length cA0, .slice A1 av.length cA1] 41 (0, 0))).alloc (.cells #[.slice B0 bn.length cB0, .slice B1 bv.length cB1] 41 (0, 0)) = W := ⟨_, rfl⟩
    have hSe := Aside0.mk (show On w4 wb from hWe ▸ On.alloc (On.alloc (On.refl _) _) _)
    have hLe := Aside0.mk (show Loc wb [(w4.heap.size, #[.slice A0 an.length cA0, .slice A1 av.length cA1], 41), (w4.heap.size + 1, #[.slice B0 bn.length cB0, .slice B1 bv.length cB1], 41)] from hWe ▸ loc2 w4 _ _ _ _)
    rw [hWe]
    clear hWe
    replace hW := Aside0.mk (hW.out.trans hSe.out)
    replace hS := Aside0.mk (hS.out.on hSe.out)
    replace hX := Aside0.mk (hX.out.on hSe.out)
    replace kS := Aside0.mk (blk_below kS.out hSe.out)
    replace kX := Aside0.mk (blk_below kX.out hSe.out)
    replace hA := Aside0.mk (hA.out.on hSe.out)
    replace hB := Aside0.mk (hB.out.on hSe.out)
    have kA := Aside0.mk hLe.out.1
    have kB := Aside0.mk hLe.out.2.1
    clear hLe hSe
    have hyes := Aside0.mk (fun h => app_yes (rs := rs) (fs := fs) (ns := ns) (vs := vs) h)
    have hci := Aside0.mk (fun W v u h k => iapV W v u ns vs rs fs h k)
    have hcs := Aside0.mk (fun W v u h k => sapV W v u ns vs rs fs h k)
    have hiok := Aside0.mk (show appOk rs fs ns vs = true → okInst rs fs = true from fun h => by simp only [appOk, Bool.and_eq_true] at h; exact h.2)
    obtain ⟨is, his⟩ : ∃ b, appOk rs fs ns vs = b := ⟨_, rfl⟩
    obtain ⟨yr, hyr⟩ : ∃ x, appR rs fs ns vs = x := ⟨_, rfl⟩
    obtain ⟨yf, hyf⟩ : ∃ x, appI rs fs ns vs = x := ⟨_, rfl⟩
    rw [his, hyr, hyf] at hyes
    rw [his, hyr, hyf] at hci hcs
    rw [his] at hiok
    clear his hyr hyf
    have hki := Aside0.mk (fun W v u h k => iCompose_calls W v u an av bn bv h k)
    have hks := Aside0.mk (fun W v u h k => sCompose_calls W v u an av bn bv h k)
    have hfin := Aside0.mk (show (okSub an av && okSub bn bv) = true → okSub an av = true ∧ okSub bn bv = true from fun h => by simpa using h)
    obtain ⟨fine, hfine⟩ : ∃ b, (okSub an av && okSub bn bv) = b := ⟨_, rfl⟩
    rw [hfine] at hki hks hfin
    clear hfine
    have hcn := Aside0.mk (show fine = true → cpN fine an bn = cmpN an bn ∧ cpV fine an av bn bv = cmpV an av bn bv from fun h => by subst h; exact ⟨rfl, rfl⟩)
    obtain ⟨cn, hcn1⟩ : ∃ x, cpN fine an bn = x := ⟨_, rfl⟩
    obtain ⟨cv, hcv1⟩ : ∃ x, cpV fine an av bn bv = x := ⟨_, rfl⟩
    rw [hcn1, hcv1] at hki hcn
    clear hcn1 hcv1
    have hvi := Aside0.mk (fun W v h => ivsV W v ns vs h)
    have hvs := Aside0.mk (fun W v h => svsV W v ns vs h)
    obtain ⟨sv, hsv⟩ : ∃ b, okSub ns vs = b := ⟨_, rfl⟩
    rw [hsv] at hvi hvs
    clear hsv
    have hfi := Aside0.mk (fun W v h => iFormatSub_calls W v ns vs h)
    have hfs := Aside0.mk (fun W v h => sFormatSub_calls W v ns vs h)
    obtain ⟨ft, hft⟩ : ∃ b, fmtS ns vs = b := ⟨_, rfl⟩
    rw [hft] at hfi hfs
    clear hft
    have hei := Aside0.mk (fun W v u h k => iEqSub_calls W v u an av bn bv h k)
    have hes := Aside0.mk (fun W v u h k => sEqSub_calls W v u an av bn bv h k)
    obtain ⟨es, hes1⟩ : ∃ b, eqSub an av bn bv = b := ⟨_, rfl⟩
    rw [hes1] at hei hes
    clear hes1
    have hvx := Aside0.mk (fun W v h => sviV W v rs fs h)
    have hok1 := Aside0.mk (fun h => app_nil (rs := rs) (fs := fs) h)
    have hok2 := Aside0.mk (fun h1 h2 h => app_cmp (rs := rs) (fs := fs) (an := an) (av := av) (bn := bn) (bv := bv) h1 h2 h)
    obtain ⟨ok, hok⟩ : ∃ b, okInst rs fs = b := ⟨_, rfl⟩
    rw [hok] at hvx hok1 hok2 hiok
    clear hok
    refine ⟨(hci.out _ _ _ hS.out hX.out).mono ?_⟩
    rintro e w5 ⟨_, rfl, v1, rfl, hU, hb1⟩
    have hY := Aside0.mk hU
    obtain ⟨Y0, cY0, Y1, cY1, rfl, -, -⟩ := hU.out
    replace hW := Aside0.mk (hW.out.trans hb1)
    replace hS := Aside0.mk (hS.out.on hb1)
    replace hX := Aside0.mk (hX.out.on hb1)
    replace kS := Aside0.mk (blk_below kS.out hb1)
    replace kX := Aside0.mk (blk_below kX.out hb1)
    replace hA := Aside0.mk (hA.out.on hb1)
    replace hB := Aside0.mk (hB.out.on hb1)
    replace kA := Aside0.mk (blk_below kA.out hb1)
    replace kB := Aside0.mk (blk_below kB.out hb1)
    clear hb1 hU
    have hfill := alloc_fill w5
    have kk := Aside0.mk (loc_new w5 #[.slice Y0 yr.length cY0, .slice Y1 yf.length cY1] 25)
    have hbb := Aside0.mk (On.alloc (On.refl w5) (.cells #[.slice Y0 yr.length cY0, .slice Y1 yf.length cY1] 25 (0, 0)))
    have ckS := blk_cell (blk_below kS.out hbb.out)
    have ckX := blk_cell (blk_below kX.out hbb.out)
    go_wp2_with (go_at_call 25; refine Stop.out ?_)
    clear ckS ckX
    clear hfill
    obtain ⟨w5x, hx⟩ : ∃ x, w5.alloc (.cells #[.slice Y0 yr.length cY0, .slice Y1 yf.length cY1] 25 (0, 0)) = x := ⟨_, rfl⟩
    rw [hx] at kk hbb ⊢
    clear hx
    replace hW := Aside0.mk (hW.out.trans hbb.out)
    replace hS := Aside0.mk (hS.out.on hbb.out)
    replace hX := Aside0.mk (hX.out.on hbb.out)
    replace kS := Aside0.mk (blk_below kS.out hbb.out)
    replace kX := Aside0.mk (blk_below kX.out hbb.out)
    replace hA := Aside0.mk (hA.out.on hbb.out)
    replace hB := Aside0.mk (hB.out.on hbb.out)
    replace kA := Aside0.mk (blk_below kA.out hbb.out)
    replace kB := Aside0.mk (blk_below kB.out hbb.out)
    replace hY := Aside0.mk (hY.out.on hbb.out)
    have kY := kk
    clear kk hbb
    refine ⟨(hcs.out _ _ _ hS.out hX.out).mono ?_⟩
    rintro e w6 ⟨_, rfl, v1, rfl, hU, hb1⟩
    have hT := Aside0.mk hU
    obtain ⟨T0, cT0, T1, cT1, rfl, -, -⟩ := hU.out
    replace hW := Aside0.mk (hW.out.trans hb1)
    replace hS := Aside0.mk (hS.out.on hb1)
    replace hX := Aside0.mk (hX.out.on hb1)
    replace kS := Aside0.mk (blk_below kS.out hb1)
    replace kX := Aside0.mk (blk_below kX.out hb1)
    replace hA := Aside0.mk (hA.out.on hb1)
    replace hB := Aside0.mk (hB.out.on hb1)
    replace kA := Aside0.mk (blk_below kA.out hb1)
    replace kB := Aside0.mk (blk_below kB.out hb1)
    replace hY := Aside0.mk (hY.out.on hb1)
    replace kY := Aside0.mk (blk_below kY.out hb1)
    clear hb1 hU
    have hfill := alloc_fill w6
    have kk := Aside0.mk (loc_new w6 #[.slice T0 yr.length cT0, .slice T1 yf.length cT1] 25)
    have hbb := Aside0.mk (On.alloc (On.refl w6) (.cells #[.slice T0 yr.length cT0, .slice T1 yf.length cT1] 25 (0, 0)))
    have ckA := blk_cell (blk_below kA.out hbb.out)
    have ckB := blk_cell (blk_below kB.out hbb.out)
    go_wp2_with (go_at_call 26; refine Stop.out ?_)
    clear ckA ckB
    clear hfill
    obtain ⟨w6x, hx⟩ : ∃ x, w6.alloc (.cells #[.slice T0 yr.length cT0, .slice T1 yf.length cT1] 25 (0, 0)) = x := ⟨_, rfl⟩
    rw [hx] at kk hbb ⊢
    clear hx
    replace hW := Aside0.mk (hW.out.trans hbb.out)
    replace hS := Aside0.mk (hS.out.on hbb.out)
    replace hX := Aside0.mk (hX.out.on hbb.out)
    replace kS := Aside0.mk (blk_below kS.out hbb.out)
    replace kX := Aside0.mk (blk_below kX.out hbb.out)
    replace hA := Aside0.mk (hA.out.on hbb.out)
    replace hB := Aside0.mk (hB.out.on hbb.out)
    replace kA := Aside0.mk (blk_below kA.out hbb.out)
    replace kB := Aside0.mk (blk_below kB.out hbb.out)
    replace hY := Aside0.mk (hY.out.on hbb.out)
    replace kY := Aside0.mk (blk_below kY.out hbb.out)
    replace hT := Aside0.mk (hT.out.on hbb.out)
    clear kk hbb
    clear hT
    refine ⟨(hki.out _ _ _ hA.out hB.out).mono ?_⟩
    rintro e w7 ⟨_, rfl, v1, rfl, hU, hb1⟩
    have hC := Aside0.mk hU
    obtain ⟨C0, cC0, C1, cC1, rfl, -, -⟩ := hU.out
    replace hW := Aside0.mk (hW.out.trans hb1)
    replace hS := Aside0.mk (hS.out.on hb1)
    replace hX := Aside0.mk (hX.out.on hb1)
    replace kS := Aside0.mk (blk_below kS.out hb1)
    replace kX := Aside0.mk (blk_below kX.out hb1)
    replace hA := Aside0.mk (hA.out.on hb1)
    replace hB := Aside0.mk (hB.out.on hb1)
    replace kA := Aside0.mk (blk_below kA.out hb1)
    replace kB := Aside0.mk (blk_below kB.out hb1)
    replace hY := Aside0.mk (hY.out.on hb1)
    replace kY := Aside0.mk (blk_below kY.out hb1)
    clear hb1 hU
    have hfill := alloc_fill w7
    have kk := Aside0.mk (loc_new w7 #[.slice C0 cn.length cC0, .slice C1 cv.length cC1] 41)
    have hbb := Aside0.mk (On.alloc (On.refl w7) (.cells #[.slice C0 cn.length cC0, .slice C1 cv.length cC1] 41 (0, 0)))
    have ckA := blk_cell (blk_below kA.out hbb.out)
    have ckB := blk_cell (blk_below kB.out hbb.out)
    go_wp2_with (go_at_call 27; refine Stop.out ?_)
    clear ckA ckB
    clear hfill
    obtain ⟨w7x, hx⟩ : ∃ x, w7.alloc (.cells #[.slice C0 cn.length cC0, .slice C1 cv.length cC1] 41 (0, 0)) = x := ⟨_, rfl⟩
    rw [hx] at kk hbb ⊢
    clear hx
    replace hW := Aside0.mk (hW.out.trans hbb.out)
    replace hS := Aside0.mk (hS.out.on hbb.out)
    replace hX := Aside0.mk (hX.out.on hbb.out)
    replace kS := Aside0.mk (blk_below kS.out hbb.out)
    replace kX := Aside0.mk (blk_below kX.out hbb.out)
    replace hA := Aside0.mk (hA.out.on hbb.out)
    replace hB := Aside0.mk (hB.out.on hbb.out)
    replace kA := Aside0.mk (blk_below kA.out hbb.out)
    replace kB := Aside0.mk (blk_below kB.out hbb.out)
    replace hY := Aside0.mk (hY.out.on hbb.out)
    replace kY := Aside0.mk (blk_below kY.out hbb.out)
    replace hC := Aside0.mk (hC.out.on hbb.out)
    have kC := kk
    clear kk hbb
    have hq1 := b_ne is
    have hq2 := b_ne fine
    have hq3 := b_ne sv
    have hq4 := b_ne es
    have hq5 := s_ne ft
    have hr1 := b_eq is
    have hr2 := b_eq fine
    have hr3 := b_eq sv
    have hr4 := b_eq es
    have hr5 := s_eq ft
    refine ⟨(hks.out _ _ _ hA.out hB.out).mono ?_⟩
    rintro e w8 ⟨_, rfl, D0, dn, cD0, D1, dv, cD1, rfl, hb1⟩
    replace hW := Aside0.mk (hW.out.trans hb1)
    replace hS := Aside0.mk (hS.out.on hb1)
    replace hX := Aside0.mk (hX.out.on hb1)
    replace kS := Aside0.mk (blk_below kS.out hb1)
    replace kX := Aside0.mk (blk_below kX.out hb1)
    replace hA := Aside0.mk (hA.out.on hb1)
    replace hB := Aside0.mk (hB.out.on hb1)
    replace kA := Aside0.mk (blk_below kA.out hb1)
    replace kB := Aside0.mk (blk_below kB.out hb1)
    replace hY := Aside0.mk (hY.out.on hb1)
    replace kY := Aside0.mk (blk_below kY.out hb1)
    replace hC := Aside0.mk (hC.out.on hb1)
    replace kC := Aside0.mk (blk_below kC.out hb1)
    clear hb1
    have hfill := alloc_fill w8
    have kk := Aside0.mk (loc_new w8 #[.slice D0 dn cD0, .slice D1 dv cD1] 41)
    have hbb := Aside0.mk (On.alloc (On.refl w8) (.cells #[.slice D0 dn cD0, .slice D1 dv cD1] 41 (0, 0)))
    have ckS := blk_cell (blk_below kS.out hbb.out)
    have ckA := blk_cell (blk_below kA.out hbb.out)
    have ckB := blk_cell (blk_below kB.out hbb.out)
    go_wp2
    clear ckS ckA ckB
    clear hfill
    obtain ⟨w8x, hx⟩ : ∃ x, w8.alloc (.cells #[.slice D0 dn cD0, .slice D1 dv cD1] 41 (0, 0)) = x := ⟨_, rfl⟩
    rw [hx] at kk hbb ⊢
    clear hx
    replace hW := Aside0.mk (hW.out.trans hbb.out)
    replace hS := Aside0.mk (hS.out.on hbb.out)
    replace hX := Aside0.mk (hX.out.on hbb.out)
    replace kS := Aside0.mk (blk_below kS.out hbb.out)
    replace kX := Aside0.mk (blk_below kX.out hbb.out)
    replace hA := Aside0.mk (hA.out.on hbb.out)
    replace hB := Aside0.mk (hB.out.on hbb.out)
    replace kA := Aside0.mk (blk_below kA.out hbb.out)
    replace kB := Aside0.mk (blk_below kB.out hbb.out)
    replace hY := Aside0.mk (hY.out.on hbb.out)
    replace kY := Aside0.mk (blk_below kY.out hbb.out)
    replace hC := Aside0.mk (hC.out.on hbb.out)
    replace kC := Aside0.mk (blk_below kC.out hbb.out)
    clear kk hbb
    have ckS := blk_cell kS.out
    have ckA := blk_cell kA.out
    have ckB := blk_cell kB.out
    go_wp2
    refine Reg.region [(0,.L),(1,.L),(2,.L),(3,.L),(4,.L),(5,.L),(6,.L),(7,.L),(8,.L),(9,.L),(10,.C),(11,.L),(12,.C),(13,.L),(14,.L),(15,.L),(16,.L),(17,.C),(18,.L),(19,.C),(20,.L),(21,.L),(22,.L),(23,.L),(24,.L),(25,.C),(26,.L),(27,.L),(28,.C),(29,.L),(30,.L)] [] (by kernel_rfl) (by kernel_rfl) ?_
    repeat first | refine sP ?_ | refine sS ?_ | refine sA ?_ | refine sL ?_ | refine sQ ?_ | refine sO ?_
    refine callC (.bool sv) Tryz.func28 (fun w' hS_ => ?_) ?_
    focus exact hvi.out w' _ (hS.out.on hS_)
    repeat first | refine sP ?_ | refine sS ?_ | refine sA ?_ | refine sL ?_ | refine sQ ?_ | refine sO ?_
    refine callC (.bool sv) Tryz.func29 (fun w' hS_ => ?_) ?_
    focus exact hvs.out w' _ (hS.out.on hS_)
    repeat first | refine sP ?_ | refine sS ?_ | refine sA ?_ | refine sL ?_ | refine sQ ?_ | refine sO ?_
    refine callC (.string (strB ft)) Tryz.func30 (fun w' hS_ => ?_) ?_
    focus exact hfi.out w' _ (hS.out.on hS_)
    repeat first | refine sP ?_ | refine sS ?_ | refine sA ?_ | refine sL ?_ | refine sQ ?_ | refine sO ?_
    refine callC (.string (strB ft)) Tryz.func31 (fun w' hS_ => ?_) ?_
    focus exact hfs.out w' _ (hS.out.on hS_)
    repeat first | refine sP ?_ | refine sS ?_ | refine sA ?_ | refine sL ?_ | refine sQ ?_ | refine sO ?_
    refine callC (.bool es) Tryz.func32 (fun w' hS_ => ?_) ?_
    focus exact hei.out w' _ _ (hA.out.on hS_) (hB.out.on hS_)
    repeat first | refine sP ?_ | refine sS ?_ | refine sA ?_ | refine sL ?_ | refine sQ ?_ | refine sO ?_
    refine callC (.bool es) Tryz.func33 (fun w' hS_ => ?_) ?_
    focus exact hes.out w' _ _ (hA.out.on hS_) (hB.out.on hS_)
    repeat first | refine sP ?_ | refine sS ?_ | refine sA ?_ | refine sL ?_ | refine sQ ?_ | refine sO ?_
    refine Reg.nil fun w20 hS20 => ?_
    replace hW := Aside0.mk (hW.out.trans hS20)
    replace hS := Aside0.mk (hS.out.on hS20)
    replace hX := Aside0.mk (hX.out.on hS20)
    replace kS := Aside0.mk (blk_below kS.out hS20)
    replace kX := Aside0.mk (blk_below kX.out hS20)
    replace hA := Aside0.mk (hA.out.on hS20)
    replace hB := Aside0.mk (hB.out.on hS20)
    replace kA := Aside0.mk (blk_below kA.out hS20)
    replace kB := Aside0.mk (blk_below kB.out hS20)
    replace hY := Aside0.mk (hY.out.on hS20)
    replace kY := Aside0.mk (blk_below kY.out hS20)
    replace hC := Aside0.mk (hC.out.on hS20)
    replace kC := Aside0.mk (blk_below kC.out hS20)
    clear hS20 hq1 hq2 hq3 hq4 hq5 hr1 hr2 hr3 hr4 hr5 ckS ckA ckB
    cases is with
    | false =>
      cases fine with
      | false =>
        go_wp2
        go_ret
        exact ⟨rfl, hW.out⟩
      | true =>
        have ckX := blk_cell kX.out
        go_wp2_with (go_at_call 18; refine Stop.out ?_)
        clear ckX
        refine ⟨(hvx.out _ _ hX.out).mono ?_⟩
        rintro e w21 ⟨rfl, hb1⟩
        replace hW := Aside0.mk (hW.out.trans hb1)
        replace hS := Aside0.mk (hS.out.on hb1)
        replace hX := Aside0.mk (hX.out.on hb1)
        replace kS := Aside0.mk (blk_below kS.out hb1)
        replace kX := Aside0.mk (blk_below kX.out hb1)
        replace hA := Aside0.mk (hA.out.on hb1)
        replace hB := Aside0.mk (hB.out.on hb1)
        replace kA := Aside0.mk (blk_below kA.out hb1)
        replace kB := Aside0.mk (blk_below kB.out hb1)
        replace hY := Aside0.mk (hY.out.on hb1)
        replace kY := Aside0.mk (blk_below kY.out hb1)
        replace hC := Aside0.mk (hC.out.on hb1)
        replace kC := Aside0.mk (blk_below kC.out hb1)
        clear hb1
        cases ok with
        | false =>
          go_wp2
          go_ret
          exact ⟨rfl, hW.out⟩
        | true =>
          have ckA := blk_cell kA.out
          have ckX := blk_cell kX.out
          go_wp2_with (go_at_call 24; refine Stop.out ?_)
          clear ckA ckX
          as_aux_lemma =>
            obtain ⟨hz1, hz2⟩ := hfin.out (by simp)
            obtain ⟨hz3, hz4⟩ := hcn.out (by simp)
            have hz5 := hok2.out hz1 hz2 (by simp)
            have hz6 := hok1.out (by simp)
            rw [← hz3, ← hz4] at hz5
            have hpa := Aside0.mk (fun W v u h k => iapV W v u an av rs fs h k)
            obtain ⟨pr, hpr⟩ : ∃ x, appR rs fs an av = x := ⟨_, rfl⟩
            obtain ⟨pf, hpf⟩ : ∃ x, appI rs fs an av = x := ⟨_, rfl⟩
            rw [hpr, hpf] at hpa hz5
            have hpb := Aside0.mk (fun W v u h k => iapV W v u bn bv pr pf h k)
            obtain ⟨qr, hqr⟩ : ∃ x, appR pr pf bn bv = x := ⟨_, rfl⟩
            obtain ⟨qf, hqf⟩ : ∃ x, appI pr pf bn bv = x := ⟨_, rfl⟩
            rw [hqr, hqf] at hpb hz5
            have hpc := Aside0.mk (fun W v u h k => iapV W v u cn cv rs fs h k)
            rw [← hz5.1, ← hz5.2] at hpc
            have hpz := Aside0.mk (fun W v u h k => iapV W v u [] [] rs fs h k)
            rw [hz6.1, hz6.2] at hpz
            clear hz1 hz2 hz3 hz4 hz5 hz6 hpr hpf hqr hqf
            refine ⟨(hpa.out _ _ _ hA.out hX.out).mono ?_⟩
            rintro e w22 ⟨_, rfl, v1, rfl, hU, hb1⟩
            have hP := Aside0.mk hU
            obtain ⟨P0, cP0, P1, cP1, rfl, -, -⟩ := hU.out
            replace hW := Aside0.mk (hW.out.trans hb1)
            replace hS := Aside0.mk (hS.out.on hb1)
            replace hX := Aside0.mk (hX.out.on hb1)
            replace kS := Aside0.mk (blk_below kS.out hb1)
            replace kX := Aside0.mk (blk_below kX.out hb1)
            replace hA := Aside0.mk (hA.out.on hb1)
            replace hB := Aside0.mk (hB.out.on hb1)
            replace kA := Aside0.mk (blk_below kA.out hb1)
            replace kB := Aside0.mk (blk_below kB.out hb1)
            replace hY := Aside0.mk (hY.out.on hb1)
            replace kY := Aside0.mk (blk_below kY.out hb1)
            replace hC := Aside0.mk (hC.out.on hb1)
            replace kC := Aside0.mk (blk_below kC.out hb1)
            clear hb1 hU
            have hfill := alloc_fill w22
            have kk := Aside0.mk (loc_new w22 #[.slice P0 pr.length cP0, .slice P1 pf.length cP1] 25)
            have hbb := Aside0.mk (On.alloc (On.refl w22) (.cells #[.slice P0 pr.length cP0, .slice P1 pf.length cP1] 25 (0, 0)))
            have ckB := blk_cell (blk_below kB.out hbb.out)
            have ckk := blk_cell kk.out
            go_wp2_with (go_at_call 24; refine Stop.out ?_)
            clear ckB
            clear ckk
            clear hfill
            obtain ⟨w22x, hx⟩ : ∃ x, w22.alloc (.cells #[.slice P0 pr.length cP0, .slice P1 pf.length cP1] 25 (0, 0)) = x := ⟨_, rfl⟩
            rw [hx] at kk hbb ⊢
            clear hx
            replace hW := Aside0.mk (hW.out.trans hbb.out)
            replace hS := Aside0.mk (hS.out.on hbb.out)
            replace hX := Aside0.mk (hX.out.on hbb.out)
            replace kS := Aside0.mk (blk_below kS.out hbb.out)
            replace kX := Aside0.mk (blk_below kX.out hbb.out)
            replace hA := Aside0.mk (hA.out.on hbb.out)
            replace hB := Aside0.mk (hB.out.on hbb.out)
            replace kA := Aside0.mk (blk_below kA.out hbb.out)
            replace kB := Aside0.mk (blk_below kB.out hbb.out)
            replace hY := Aside0.mk (hY.out.on hbb.out)
            replace kY := Aside0.mk (blk_below kY.out hbb.out)
            replace hC := Aside0.mk (hC.out.on hbb.out)
            replace kC := Aside0.mk (blk_below kC.out hbb.out)
            replace hP := Aside0.mk (hP.out.on hbb.out)
            have kP := kk
            clear kk hbb
            refine ⟨(hpb.out _ _ _ hB.out hP.out).mono ?_⟩
            rintro e w23 ⟨_, rfl, v1, rfl, hU, hb1⟩
            have hQ := Aside0.mk hU
            obtain ⟨Q0, cQ0, Q1, cQ1, rfl, -, -⟩ := hU.out
            replace hW := Aside0.mk (hW.out.trans hb1)
            replace hS := Aside0.mk (hS.out.on hb1)
            replace hX := Aside0.mk (hX.out.on hb1)
            replace kS := Aside0.mk (blk_below kS.out hb1)
            replace kX := Aside0.mk (blk_below kX.out hb1)
            replace hA := Aside0.mk (hA.out.on hb1)
            replace hB := Aside0.mk (hB.out.on hb1)
            replace kA := Aside0.mk (blk_below kA.out hb1)
            replace kB := Aside0.mk (blk_below kB.out hb1)
            replace hY := Aside0.mk (hY.out.on hb1)
            replace kY := Aside0.mk (blk_below kY.out hb1)
            replace hC := Aside0.mk (hC.out.on hb1)
            replace kC := Aside0.mk (blk_below kC.out hb1)
            replace hP := Aside0.mk (hP.out.on hb1)
            replace kP := Aside0.mk (blk_below kP.out hb1)
            clear hb1 hU
            have hfill := alloc_fill w23
            have kk := Aside0.mk (loc_new w23 #[.slice Q0 qr.length cQ0, .slice Q1 qf.length cQ1] 25)
            have hbb := Aside0.mk (On.alloc (On.refl w23) (.cells #[.slice Q0 qr.length cQ0, .slice Q1 qf.length cQ1] 25 (0, 0)))
            have ckC := blk_cell (blk_below kC.out hbb.out)
            have ckX := blk_cell (blk_below kX.out hbb.out)
            go_wp2_with (go_at_call 24; refine Stop.out ?_)
            clear ckC ckX
            clear hfill
            obtain ⟨w23x, hx⟩ : ∃ x, w23.alloc (.cells #[.slice Q0 qr.length cQ0, .slice Q1 qf.length cQ1] 25 (0, 0)) = x := ⟨_, rfl⟩
            rw [hx] at kk hbb ⊢
            clear hx
            replace hW := Aside0.mk (hW.out.trans hbb.out)
            replace hS := Aside0.mk (hS.out.on hbb.out)
            replace hX := Aside0.mk (hX.out.on hbb.out)
            replace kS := Aside0.mk (blk_below kS.out hbb.out)
            replace kX := Aside0.mk (blk_below kX.out hbb.out)
            replace hA := Aside0.mk (hA.out.on hbb.out)
            replace hB := Aside0.mk (hB.out.on hbb.out)
            replace kA := Aside0.mk (blk_below kA.out hbb.out)
            replace kB := Aside0.mk (blk_below kB.out hbb.out)
            replace hY := Aside0.mk (hY.out.on hbb.out)
            replace kY := Aside0.mk (blk_below kY.out hbb.out)
            replace hC := Aside0.mk (hC.out.on hbb.out)
            replace kC := Aside0.mk (blk_below kC.out hbb.out)
            replace hP := Aside0.mk (hP.out.on hbb.out)
            replace kP := Aside0.mk (blk_below kP.out hbb.out)
            replace hQ := Aside0.mk (hQ.out.on hbb.out)
            have kQ := kk
            clear kk hbb
            refine ⟨(hpc.out _ _ _ hC.out hX.out).mono ?_⟩
            rintro e w24 ⟨_, rfl, v1, rfl, hU, hb1⟩
            have hR := Aside0.mk hU
            obtain ⟨R0, cR0, R1, cR1, rfl, -, -⟩ := hU.out
            replace hW := Aside0.mk (hW.out.trans hb1)
            replace hS := Aside0.mk (hS.out.on hb1)
            replace hX := Aside0.mk (hX.out.on hb1)
            replace kS := Aside0.mk (blk_below kS.out hb1)
            replace kX := Aside0.mk (blk_below kX.out hb1)
            replace hA := Aside0.mk (hA.out.on hb1)
            replace hB := Aside0.mk (hB.out.on hb1)
            replace kA := Aside0.mk (blk_below kA.out hb1)
            replace kB := Aside0.mk (blk_below kB.out hb1)
            replace hY := Aside0.mk (hY.out.on hb1)
            replace kY := Aside0.mk (blk_below kY.out hb1)
            replace hC := Aside0.mk (hC.out.on hb1)
            replace kC := Aside0.mk (blk_below kC.out hb1)
            replace hP := Aside0.mk (hP.out.on hb1)
            replace kP := Aside0.mk (blk_below kP.out hb1)
            replace hQ := Aside0.mk (hQ.out.on hb1)
            replace kQ := Aside0.mk (blk_below kQ.out hb1)
            clear hb1 hU
            have hfill := alloc_fill w24
            have kk := Aside0.mk (loc_new w24 #[.slice R0 qr.length cR0, .slice R1 qf.length cR1] 25)
            have hbb := Aside0.mk (On.alloc (On.refl w24) (.cells #[.slice R0 qr.length cR0, .slice R1 qf.length cR1] 25 (0, 0)))
            have ckX := blk_cell (blk_below kX.out hbb.out)
            go_wp2_with (go_at_call 24; refine Stop.out ?_)
            clear ckX
            clear hfill
            obtain ⟨w24x, hx⟩ : ∃ x, w24.alloc (.cells #[.slice R0 qr.length cR0, .slice R1 qf.length cR1] 25 (0, 0)) = x := ⟨_, rfl⟩
            rw [hx] at kk hbb ⊢
            clear hx
            replace hW := Aside0.mk (hW.out.trans hbb.out)
            replace hS := Aside0.mk (hS.out.on hbb.out)
            replace hX := Aside0.mk (hX.out.on hbb.out)
            replace kS := Aside0.mk (blk_below kS.out hbb.out)
            replace kX := Aside0.mk (blk_below kX.out hbb.out)
            replace hA := Aside0.mk (hA.out.on hbb.out)
            replace hB := Aside0.mk (hB.out.on hbb.out)
            replace kA := Aside0.mk (blk_below kA.out hbb.out)
            replace kB := Aside0.mk (blk_below kB.out hbb.out)
            replace hY := Aside0.mk (hY.out.on hbb.out)
            replace kY := Aside0.mk (blk_below kY.out hbb.out)
            replace hC := Aside0.mk (hC.out.on hbb.out)
            replace kC := Aside0.mk (blk_below kC.out hbb.out)
            replace hP := Aside0.mk (hP.out.on hbb.out)
            replace kP := Aside0.mk (blk_below kP.out hbb.out)
            replace hQ := Aside0.mk (hQ.out.on hbb.out)
            replace kQ := Aside0.mk (blk_below kQ.out hbb.out)
            replace hR := Aside0.mk (hR.out.on hbb.out)
            have kR := kk
            clear kk hbb
            refine ⟨(hpz.out _ _ _ (RSu.nil _) hX.out).mono ?_⟩
            rintro e w25 ⟨_, rfl, v1, rfl, hU, hb1⟩
            have hZ := Aside0.mk hU
            obtain ⟨Z0, cZ0, Z1, cZ1, rfl, -, -⟩ := hU.out
            replace hW := Aside0.mk (hW.out.trans hb1)
            replace hS := Aside0.mk (hS.out.on hb1)
            replace hX := Aside0.mk (hX.out.on hb1)
            replace kS := Aside0.mk (blk_below kS.out hb1)
            replace kX := Aside0.mk (blk_below kX.out hb1)
            replace hA := Aside0.mk (hA.out.on hb1)
            replace hB := Aside0.mk (hB.out.on hb1)
            replace kA := Aside0.mk (blk_below kA.out hb1)
            replace kB := Aside0.mk (blk_below kB.out hb1)
            replace hY := Aside0.mk (hY.out.on hb1)
            replace kY := Aside0.mk (blk_below kY.out hb1)
            replace hC := Aside0.mk (hC.out.on hb1)
            replace kC := Aside0.mk (blk_below kC.out hb1)
            replace hP := Aside0.mk (hP.out.on hb1)
            replace kP := Aside0.mk (blk_below kP.out hb1)
            replace hQ := Aside0.mk (hQ.out.on hb1)
            replace kQ := Aside0.mk (blk_below kQ.out hb1)
            replace hR := Aside0.mk (hR.out.on hb1)
            replace kR := Aside0.mk (blk_below kR.out hb1)
            clear hb1 hU
            have hfill := alloc_fill w25
            have kk := Aside0.mk (loc_new w25 #[.slice Z0 rs.length cZ0, .slice Z1 fs.length cZ1] 25)
            have hbb := Aside0.mk (On.alloc (On.refl w25) (.cells #[.slice Z0 rs.length cZ0, .slice Z1 fs.length cZ1] 25 (0, 0)))
            have ckQ := blk_cell (blk_below kQ.out hbb.out)
            have ckR := blk_cell (blk_below kR.out hbb.out)
            go_wp2_with (go_at_call 20; refine Stop.out ?_)
            clear ckQ ckR
            clear hfill
            obtain ⟨w25x, hx⟩ : ∃ x, w25.alloc (.cells #[.slice Z0 rs.length cZ0, .slice Z1 fs.length cZ1] 25 (0, 0)) = x := ⟨_, rfl⟩
            rw [hx] at kk hbb ⊢
            clear hx
            replace hW := Aside0.mk (hW.out.trans hbb.out)
            replace hS := Aside0.mk (hS.out.on hbb.out)
            replace hX := Aside0.mk (hX.out.on hbb.out)
            replace kS := Aside0.mk (blk_below kS.out hbb.out)
            replace kX := Aside0.mk (blk_below kX.out hbb.out)
            replace hA := Aside0.mk (hA.out.on hbb.out)
            replace hB := Aside0.mk (hB.out.on hbb.out)
            replace kA := Aside0.mk (blk_below kA.out hbb.out)
            replace kB := Aside0.mk (blk_below kB.out hbb.out)
            replace hY := Aside0.mk (hY.out.on hbb.out)
            replace kY := Aside0.mk (blk_below kY.out hbb.out)
            replace hC := Aside0.mk (hC.out.on hbb.out)
            replace kC := Aside0.mk (blk_below kC.out hbb.out)
            replace hP := Aside0.mk (hP.out.on hbb.out)
            replace kP := Aside0.mk (blk_below kP.out hbb.out)
            replace hQ := Aside0.mk (hQ.out.on hbb.out)
            replace kQ := Aside0.mk (blk_below kQ.out hbb.out)
            replace hR := Aside0.mk (hR.out.on hbb.out)
            replace kR := Aside0.mk (blk_below kR.out hbb.out)
            replace hZ := Aside0.mk (hZ.out.on hbb.out)
            have kZ := kk
            clear kk hbb
            refine ⟨(seqT _ _ _ _ _ hQ.out hR.out).mono ?_⟩
            rintro e w26 ⟨rfl, hb1⟩
            replace hW := Aside0.mk (hW.out.trans hb1)
            replace hS := Aside0.mk (hS.out.on hb1)
            replace hX := Aside0.mk (hX.out.on hb1)
            replace kS := Aside0.mk (blk_below kS.out hb1)
            replace kX := Aside0.mk (blk_below kX.out hb1)
            replace hA := Aside0.mk (hA.out.on hb1)
            replace hB := Aside0.mk (hB.out.on hb1)
            replace kA := Aside0.mk (blk_below kA.out hb1)
            replace kB := Aside0.mk (blk_below kB.out hb1)
            replace hY := Aside0.mk (hY.out.on hb1)
            replace kY := Aside0.mk (blk_below kY.out hb1)
            replace hC := Aside0.mk (hC.out.on hb1)
            replace kC := Aside0.mk (blk_below kC.out hb1)
            replace hP := Aside0.mk (hP.out.on hb1)
            replace kP := Aside0.mk (blk_below kP.out hb1)
            replace hQ := Aside0.mk (hQ.out.on hb1)
            replace kQ := Aside0.mk (blk_below kQ.out hb1)
            replace hR := Aside0.mk (hR.out.on hb1)
            replace kR := Aside0.mk (blk_below kR.out hb1)
            replace hZ := Aside0.mk (hZ.out.on hb1)
            replace kZ := Aside0.mk (blk_below kZ.out hb1)
            clear hb1
            have ckZ := blk_cell kZ.out
            have ckX := blk_cell kX.out
            go_wp2_with (go_at_call 20; refine Stop.out ?_)
            clear ckZ ckX
            refine ⟨(seqT _ _ _ _ _ hZ.out hX.out).mono ?_⟩
            rintro e w27 ⟨rfl, hb1⟩
            replace hW := Aside0.mk (hW.out.trans hb1)
            replace hS := Aside0.mk (hS.out.on hb1)
            replace hX := Aside0.mk (hX.out.on hb1)
            replace kS := Aside0.mk (blk_below kS.out hb1)
            replace kX := Aside0.mk (blk_below kX.out hb1)
            replace hA := Aside0.mk (hA.out.on hb1)
            replace hB := Aside0.mk (hB.out.on hb1)
            replace kA := Aside0.mk (blk_below kA.out hb1)
            replace kB := Aside0.mk (blk_below kB.out hb1)
            replace hY := Aside0.mk (hY.out.on hb1)
            replace kY := Aside0.mk (blk_below kY.out hb1)
            replace hC := Aside0.mk (hC.out.on hb1)
            replace kC := Aside0.mk (blk_below kC.out hb1)
            replace hP := Aside0.mk (hP.out.on hb1)
            replace kP := Aside0.mk (blk_below kP.out hb1)
            replace hQ := Aside0.mk (hQ.out.on hb1)
            replace kQ := Aside0.mk (blk_below kQ.out hb1)
            replace hR := Aside0.mk (hR.out.on hb1)
            replace kR := Aside0.mk (blk_below kR.out hb1)
            replace hZ := Aside0.mk (hZ.out.on hb1)
            replace kZ := Aside0.mk (blk_below kZ.out hb1)
            clear hb1
            go_wp2
            go_ret
            exact ⟨rfl, hW.out⟩
    | true =>
      obtain ⟨hye, hyo, hyl, hyh⟩ := hyes.out (by simp)
      have hye2 := hye.symm
      subst hye2
      have hlen := Aside0.mk hyl
      have hhom := Aside0.mk hyh
      have hvy := Aside0.mk (fun W v h => iviV W v rs yf h)
      rw [hyo] at hvy
      have hhi := Aside0.mk (fun W v u t h k l => iihV W v u t rs fs rs yf [] [] h k l hwz.out)
      obtain ⟨hh, hhe⟩ : ∃ b, isHom rs fs rs yf [] [] = b := ⟨_, rfl⟩
      rw [hhe] at hhi hhom
      have hnu := Aside0.mk (fun W v h => snuV W v rs fs h hwz.out)
      obtain ⟨zs, hzs⟩ : ∃ x, nulsI fs = x := ⟨_, rfl⟩
      rw [hzs] at hnu hhom
      clear hyes hye hyo hyl hyh hhe hzs
      have ckY := blk_cell kY.out
      go_wp2_with (go_at_call 19; refine Stop.out ?_)
      clear ckY
      refine ⟨(hvy.out _ _ hY.out).mono ?_⟩
      rintro e w21 ⟨rfl, hb1⟩
      replace hW := Aside0.mk (hW.out.trans hb1)
      replace hS := Aside0.mk (hS.out.on hb1)
      replace hX := Aside0.mk (hX.out.on hb1)
      replace kS := Aside0.mk (blk_below kS.out hb1)
      replace kX := Aside0.mk (blk_below kX.out hb1)
      replace hA := Aside0.mk (hA.out.on hb1)
      replace hB := Aside0.mk (hB.out.on hb1)
      replace kA := Aside0.mk (blk_below kA.out hb1)
      replace kB := Aside0.mk (blk_below kB.out hb1)
      replace hY := Aside0.mk (hY.out.on hb1)
      replace kY := Aside0.mk (blk_below kY.out hb1)
      replace hC := Aside0.mk (hC.out.on hb1)
      replace kC := Aside0.mk (blk_below kC.out hb1)
      clear hb1
      have ckY := blk_cell kY.out
      have ckX := blk_cell kX.out
      have l1 : decide ((fs.length : Int) < (yf.length : Int)) = false := decide_eq_false (by have := hlen.out; omega)
      have l2 : decide (fs.length < yf.length) = false := decide_eq_false (by have := hlen.out; omega)
      have l3 : ((fs.length : Int) < (yf.length : Int)) = False := eq_false (by have := hlen.out; omega)
      have l4 : (fs.length < yf.length) = False := eq_false (by have := hlen.out; omega)
      go_wp2_with (go_at_call 34; refine Stop.out ?_)
      clear ckY ckX
      clear l1 l2 l3 l4
      refine ⟨(hhi.out _ _ _ _ hX.out hY.out (RSu.nil _)).mono ?_⟩
      rintro e w22 ⟨rfl, hb1⟩
      replace hW := Aside0.mk (hW.out.trans hb1)
      replace hS := Aside0.mk (hS.out.on hb1)
      replace hX := Aside0.mk (hX.out.on hb1)
      replace kS := Aside0.mk (blk_below kS.out hb1)
      replace kX := Aside0.mk (blk_below kX.out hb1)
      replace hA := Aside0.mk (hA.out.on hb1)
      replace hB := Aside0.mk (hB.out.on hb1)
      replace kA := Aside0.mk (blk_below kA.out hb1)
      replace kB := Aside0.mk (blk_below kB.out hb1)
      replace hY := Aside0.mk (hY.out.on hb1)
      replace kY := Aside0.mk (blk_below kY.out hb1)
      replace hC := Aside0.mk (hC.out.on hb1)
      replace kC := Aside0.mk (blk_below kC.out hb1)
      clear hb1
      cases hh with
      | true =>
        cases fine with
        | false =>
          go_wp2
          go_ret
          exact ⟨rfl, hW.out⟩
        | true =>
          obtain rfl : ok = true := hiok.out (by simp)
          have ckX := blk_cell kX.out
          go_wp2_with (go_at_call 18; refine Stop.out ?_)
          clear ckX
          refine ⟨(hvx.out _ _ hX.out).mono ?_⟩
          rintro e w23 ⟨rfl, hb1⟩
          replace hW := Aside0.mk (hW.out.trans hb1)
          replace hS := Aside0.mk (hS.out.on hb1)
          replace hX := Aside0.mk (hX.out.on hb1)
          replace kS := Aside0.mk (blk_below kS.out hb1)
          replace kX := Aside0.mk (blk_below kX.out hb1)
          replace hA := Aside0.mk (hA.out.on hb1)
          replace hB := Aside0.mk (hB.out.on hb1)
          replace kA := Aside0.mk (blk_below kA.out hb1)
          replace kB := Aside0.mk (blk_below kB.out hb1)
          replace hY := Aside0.mk (hY.out.on hb1)
          replace kY := Aside0.mk (blk_below kY.out hb1)
          replace hC := Aside0.mk (hC.out.on hb1)
          replace kC := Aside0.mk (blk_below kC.out hb1)
          clear hb1
          have ckA := blk_cell kA.out
          have ckX := blk_cell kX.out
          go_wp2_with (go_at_call 24; refine Stop.out ?_)
          clear ckA ckX
          as_aux_lemma =>
            obtain ⟨hz1, hz2⟩ := hfin.out (by simp)
            obtain ⟨hz3, hz4⟩ := hcn.out (by simp)
            have hz5 := hok2.out hz1 hz2 (by simp)
            have hz6 := hok1.out (by simp)
            rw [← hz3, ← hz4] at hz5
            have hpa := Aside0.mk (fun W v u h k => iapV W v u an av rs fs h k)
            obtain ⟨pr, hpr⟩ : ∃ x, appR rs fs an av = x := ⟨_, rfl⟩
            obtain ⟨pf, hpf⟩ : ∃ x, appI rs fs an av = x := ⟨_, rfl⟩
            rw [hpr, hpf] at hpa hz5
            have hpb := Aside0.mk (fun W v u h k => iapV W v u bn bv pr pf h k)
            obtain ⟨qr, hqr⟩ : ∃ x, appR pr pf bn bv = x := ⟨_, rfl⟩
            obtain ⟨qf, hqf⟩ : ∃ x, appI pr pf bn bv = x := ⟨_, rfl⟩
            rw [hqr, hqf] at hpb hz5
            have hpc := Aside0.mk (fun W v u h k => iapV W v u cn cv rs fs h k)
            rw [← hz5.1, ← hz5.2] at hpc
            have hpz := Aside0.mk (fun W v u h k => iapV W v u [] [] rs fs h k)
            rw [hz6.1, hz6.2] at hpz
            clear hz1 hz2 hz3 hz4 hz5 hz6 hpr hpf hqr hqf
            refine ⟨(hpa.out _ _ _ hA.out hX.out).mono ?_⟩
            rintro e w24 ⟨_, rfl, v1, rfl, hU, hb1⟩
            have hP := Aside0.mk hU
            obtain ⟨P0, cP0, P1, cP1, rfl, -, -⟩ := hU.out
            replace hW := Aside0.mk (hW.out.trans hb1)
            replace hS := Aside0.mk (hS.out.on hb1)
            replace hX := Aside0.mk (hX.out.on hb1)
            replace kS := Aside0.mk (blk_below kS.out hb1)
            replace kX := Aside0.mk (blk_below kX.out hb1)
            replace hA := Aside0.mk (hA.out.on hb1)
            replace hB := Aside0.mk (hB.out.on hb1)
            replace kA := Aside0.mk (blk_below kA.out hb1)
            replace kB := Aside0.mk (blk_below kB.out hb1)
            replace hY := Aside0.mk (hY.out.on hb1)
            replace kY := Aside0.mk (blk_below kY.out hb1)
            replace hC := Aside0.mk (hC.out.on hb1)
            replace kC := Aside0.mk (blk_below kC.out hb1)
            clear hb1 hU
            have hfill := alloc_fill w24
            have kk := Aside0.mk (loc_new w24 #[.slice P0 pr.length cP0, .slice P1 pf.length cP1] 25)
            have hbb := Aside0.mk (On.alloc (On.refl w24) (.cells #[.slice P0 pr.length cP0, .slice P1 pf.length cP1] 25 (0, 0)))
            have ckB := blk_cell (blk_below kB.out hbb.out)
            have ckk := blk_cell kk.out
            go_wp2_with (go_at_call 24; refine Stop.out ?_)
            clear ckB
            clear ckk
            clear hfill
            obtain ⟨w24x, hx⟩ : ∃ x, w24.alloc (.cells #[.slice P0 pr.length cP0, .slice P1 pf.length cP1] 25 (0, 0)) = x := ⟨_, rfl⟩
            rw [hx] at kk hbb ⊢
            clear hx
            replace hW := Aside0.mk (hW.out.trans hbb.out)
            replace hS := Aside0.mk (hS.out.on hbb.out)
            replace hX := Aside0.mk (hX.out.on hbb.out)
            replace kS := Aside0.mk (blk_below kS.out hbb.out)
            replace kX := Aside0.mk (blk_below kX.out hbb.out)
            replace hA := Aside0.mk (hA.out.on hbb.out)
            replace hB := Aside0.mk (hB.out.on hbb.out)
            replace kA := Aside0.mk (blk_below kA.out hbb.out)
            replace kB := Aside0.mk (blk_below kB.out hbb.out)
            replace hY := Aside0.mk (hY.out.on hbb.out)
            replace kY := Aside0.mk (blk_below kY.out hbb.out)
            replace hC := Aside0.mk (hC.out.on hbb.out)
            replace kC := Aside0.mk (blk_below kC.out hbb.out)
            replace hP := Aside0.mk (hP.out.on hbb.out)
            have kP := kk
            clear kk hbb
            refine ⟨(hpb.out _ _ _ hB.out hP.out).mono ?_⟩
            rintro e w25 ⟨_, rfl, v1, rfl, hU, hb1⟩
            have hQ := Aside0.mk hU
            obtain ⟨Q0, cQ0, Q1, cQ1, rfl, -, -⟩ := hU.out
            replace hW := Aside0.mk (hW.out.trans hb1)
            replace hS := Aside0.mk (hS.out.on hb1)
            replace hX := Aside0.mk (hX.out.on hb1)
            replace kS := Aside0.mk (blk_below kS.out hb1)
            replace kX := Aside0.mk (blk_below kX.out hb1)
            replace hA := Aside0.mk (hA.out.on hb1)
            replace hB := Aside0.mk (hB.out.on hb1)
            replace kA := Aside0.mk (blk_below kA.out hb1)
            replace kB := Aside0.mk (blk_below kB.out hb1)
            replace hY := Aside0.mk (hY.out.on hb1)
            replace kY := Aside0.mk (blk_below kY.out hb1)
            replace hC := Aside0.mk (hC.out.on hb1)
            replace kC := Aside0.mk (blk_below kC.out hb1)
            replace hP := Aside0.mk (hP.out.on hb1)
            replace kP := Aside0.mk (blk_below kP.out hb1)
            clear hb1 hU
            have hfill := alloc_fill w25
            have kk := Aside0.mk (loc_new w25 #[.slice Q0 qr.length cQ0, .slice Q1 qf.length cQ1] 25)
            have hbb := Aside0.mk (On.alloc (On.refl w25) (.cells #[.slice Q0 qr.length cQ0, .slice Q1 qf.length cQ1] 25 (0, 0)))
            have ckC := blk_cell (blk_below kC.out hbb.out)
            have ckX := blk_cell (blk_below kX.out hbb.out)
            go_wp2_with (go_at_call 24; refine Stop.out ?_)
            clear ckC ckX
            clear hfill
            obtain ⟨w25x, hx⟩ : ∃ x, w25.alloc (.cells #[.slice Q0 qr.length cQ0, .slice Q1 qf.length cQ1] 25 (0, 0)) = x := ⟨_, rfl⟩
            rw [hx] at kk hbb ⊢
            clear hx
            replace hW := Aside0.mk (hW.out.trans hbb.out)
            replace hS := Aside0.mk (hS.out.on hbb.out)
            replace hX := Aside0.mk (hX.out.on hbb.out)
            replace kS := Aside0.mk (blk_below kS.out hbb.out)
            replace kX := Aside0.mk (blk_below kX.out hbb.out)
            replace hA := Aside0.mk (hA.out.on hbb.out)
            replace hB := Aside0.mk (hB.out.on hbb.out)
            replace kA := Aside0.mk (blk_below kA.out hbb.out)
            replace kB := Aside0.mk (blk_below kB.out hbb.out)
            replace hY := Aside0.mk (hY.out.on hbb.out)
            replace kY := Aside0.mk (blk_below kY.out hbb.out)
            replace hC := Aside0.mk (hC.out.on hbb.out)
            replace kC := Aside0.mk (blk_below kC.out hbb.out)
            replace hP := Aside0.mk (hP.out.on hbb.out)
            replace kP := Aside0.mk (blk_below kP.out hbb.out)
            replace hQ := Aside0.mk (hQ.out.on hbb.out)
            have kQ := kk
            clear kk hbb
            refine ⟨(hpc.out _ _ _ hC.out hX.out).mono ?_⟩
            rintro e w26 ⟨_, rfl, v1, rfl, hU, hb1⟩
            have hR := Aside0.mk hU
            obtain ⟨R0, cR0, R1, cR1, rfl, -, -⟩ := hU.out
            replace hW := Aside0.mk (hW.out.trans hb1)
            replace hS := Aside0.mk (hS.out.on hb1)
            replace hX := Aside0.mk (hX.out.on hb1)
            replace kS := Aside0.mk (blk_below kS.out hb1)
            replace kX := Aside0.mk (blk_below kX.out hb1)
            replace hA := Aside0.mk (hA.out.on hb1)
            replace hB := Aside0.mk (hB.out.on hb1)
            replace kA := Aside0.mk (blk_below kA.out hb1)
            replace kB := Aside0.mk (blk_below kB.out hb1)
            replace hY := Aside0.mk (hY.out.on hb1)
            replace kY := Aside0.mk (blk_below kY.out hb1)
            replace hC := Aside0.mk (hC.out.on hb1)
            replace kC := Aside0.mk (blk_below kC.out hb1)
            replace hP := Aside0.mk (hP.out.on hb1)
            replace kP := Aside0.mk (blk_below kP.out hb1)
            replace hQ := Aside0.mk (hQ.out.on hb1)
            replace kQ := Aside0.mk (blk_below kQ.out hb1)
            clear hb1 hU
            have hfill := alloc_fill w26
            have kk := Aside0.mk (loc_new w26 #[.slice R0 qr.length cR0, .slice R1 qf.length cR1] 25)
            have hbb := Aside0.mk (On.alloc (On.refl w26) (.cells #[.slice R0 qr.length cR0, .slice R1 qf.length cR1] 25 (0, 0)))
            have ckX := blk_cell (blk_below kX.out hbb.out)
            go_wp2_with (go_at_call 24; refine Stop.out ?_)
            clear ckX
            clear hfill
            obtain ⟨w26x, hx⟩ : ∃ x, w26.alloc (.cells #[.slice R0 qr.length cR0, .slice R1 qf.length cR1] 25 (0, 0)) = x := ⟨_, rfl⟩
            rw [hx] at kk hbb ⊢
            clear hx
            replace hW := Aside0.mk (hW.out.trans hbb.out)
            replace hS := Aside0.mk (hS.out.on hbb.out)
            replace hX := Aside0.mk (hX.out.on hbb.out)
            replace kS := Aside0.mk (blk_below kS.out hbb.out)
            replace kX := Aside0.mk (blk_below kX.out hbb.out)
            replace hA := Aside0.mk (hA.out.on hbb.out)
            replace hB := Aside0.mk (hB.out.on hbb.out)
            replace kA := Aside0.mk (blk_below kA.out hbb.out)
            replace kB := Aside0.mk (blk_below kB.out hbb.out)
            replace hY := Aside0.mk (hY.out.on hbb.out)
            replace kY := Aside0.mk (blk_below kY.out hbb.out)
            replace hC := Aside0.mk (hC.out.on hbb.out)
            replace kC := Aside0.mk (blk_below kC.out hbb.out)
            replace hP := Aside0.mk (hP.out.on hbb.out)
            replace kP := Aside0.mk (blk_below kP.out hbb.out)
            replace hQ := Aside0.mk (hQ.out.on hbb.out)
            replace kQ := Aside0.mk (blk_below kQ.out hbb.out)
            replace hR := Aside0.mk (hR.out.on hbb.out)
            have kR := kk
            clear kk hbb
            refine ⟨(hpz.out _ _ _ (RSu.nil _) hX.out).mono ?_⟩
            rintro e w27 ⟨_, rfl, v1, rfl, hU, hb1⟩
            have hZ := Aside0.mk hU
            obtain ⟨Z0, cZ0, Z1, cZ1, rfl, -, -⟩ := hU.out
            replace hW := Aside0.mk (hW.out.trans hb1)
            replace hS := Aside0.mk (hS.out.on hb1)
            replace hX := Aside0.mk (hX.out.on hb1)
            replace kS := Aside0.mk (blk_below kS.out hb1)
            replace kX := Aside0.mk (blk_below kX.out hb1)
            replace hA := Aside0.mk (hA.out.on hb1)
            replace hB := Aside0.mk (hB.out.on hb1)
            replace kA := Aside0.mk (blk_below kA.out hb1)
            replace kB := Aside0.mk (blk_below kB.out hb1)
            replace hY := Aside0.mk (hY.out.on hb1)
            replace kY := Aside0.mk (blk_below kY.out hb1)
            replace hC := Aside0.mk (hC.out.on hb1)
            replace kC := Aside0.mk (blk_below kC.out hb1)
            replace hP := Aside0.mk (hP.out.on hb1)
            replace kP := Aside0.mk (blk_below kP.out hb1)
            replace hQ := Aside0.mk (hQ.out.on hb1)
            replace kQ := Aside0.mk (blk_below kQ.out hb1)
            replace hR := Aside0.mk (hR.out.on hb1)
            replace kR := Aside0.mk (blk_below kR.out hb1)
            clear hb1 hU
            have hfill := alloc_fill w27
            have kk := Aside0.mk (loc_new w27 #[.slice Z0 rs.length cZ0, .slice Z1 fs.length cZ1] 25)
            have hbb := Aside0.mk (On.alloc (On.refl w27) (.cells #[.slice Z0 rs.length cZ0, .slice Z1 fs.length cZ1] 25 (0, 0)))
            have ckQ := blk_cell (blk_below kQ.out hbb.out)
            have ckR := blk_cell (blk_below kR.out hbb.out)
            go_wp2_with (go_at_call 20; refine Stop.out ?_)
            clear ckQ ckR
            clear hfill
            obtain ⟨w27x, hx⟩ : ∃ x, w27.alloc (.cells #[.slice Z0 rs.length cZ0, .slice Z1 fs.length cZ1] 25 (0, 0)) = x := ⟨_, rfl⟩
            rw [hx] at kk hbb ⊢
            clear hx
            replace hW := Aside0.mk (hW.out.trans hbb.out)
            replace hS := Aside0.mk (hS.out.on hbb.out)
            replace hX := Aside0.mk (hX.out.on hbb.out)
            replace kS := Aside0.mk (blk_below kS.out hbb.out)
            replace kX := Aside0.mk (blk_below kX.out hbb.out)
            replace hA := Aside0.mk (hA.out.on hbb.out)
            replace hB := Aside0.mk (hB.out.on hbb.out)
            replace kA := Aside0.mk (blk_below kA.out hbb.out)
            replace kB := Aside0.mk (blk_below kB.out hbb.out)
            replace hY := Aside0.mk (hY.out.on hbb.out)
            replace kY := Aside0.mk (blk_below kY.out hbb.out)
            replace hC := Aside0.mk (hC.out.on hbb.out)
            replace kC := Aside0.mk (blk_below kC.out hbb.out)
            replace hP := Aside0.mk (hP.out.on hbb.out)
            replace kP := Aside0.mk (blk_below kP.out hbb.out)
            replace hQ := Aside0.mk (hQ.out.on hbb.out)
            replace kQ := Aside0.mk (blk_below kQ.out hbb.out)
            replace hR := Aside0.mk (hR.out.on hbb.out)
            replace kR := Aside0.mk (blk_below kR.out hbb.out)
            replace hZ := Aside0.mk (hZ.out.on hbb.out)
            have kZ := kk
            clear kk hbb
            refine ⟨(seqT _ _ _ _ _ hQ.out hR.out).mono ?_⟩
            rintro e w28 ⟨rfl, hb1⟩
            replace hW := Aside0.mk (hW.out.trans hb1)
            replace hS := Aside0.mk (hS.out.on hb1)
            replace hX := Aside0.mk (hX.out.on hb1)
            replace kS := Aside0.mk (blk_below kS.out hb1)
            replace kX := Aside0.mk (blk_below kX.out hb1)
            replace hA := Aside0.mk (hA.out.on hb1)
            replace hB := Aside0.mk (hB.out.on hb1)
            replace kA := Aside0.mk (blk_below kA.out hb1)
            replace kB := Aside0.mk (blk_below kB.out hb1)
            replace hY := Aside0.mk (hY.out.on hb1)
            replace kY := Aside0.mk (blk_below kY.out hb1)
            replace hC := Aside0.mk (hC.out.on hb1)
            replace kC := Aside0.mk (blk_below kC.out hb1)
            replace hP := Aside0.mk (hP.out.on hb1)
            replace kP := Aside0.mk (blk_below kP.out hb1)
            replace hQ := Aside0.mk (hQ.out.on hb1)
            replace kQ := Aside0.mk (blk_below kQ.out hb1)
            replace hR := Aside0.mk (hR.out.on hb1)
            replace kR := Aside0.mk (blk_below kR.out hb1)
            replace hZ := Aside0.mk (hZ.out.on hb1)
            replace kZ := Aside0.mk (blk_below kZ.out hb1)
            clear hb1
            have ckZ := blk_cell kZ.out
            have ckX := blk_cell kX.out
            go_wp2_with (go_at_call 20; refine Stop.out ?_)
            clear ckZ ckX
            refine ⟨(seqT _ _ _ _ _ hZ.out hX.out).mono ?_⟩
            rintro e w29 ⟨rfl, hb1⟩
            replace hW := Aside0.mk (hW.out.trans hb1)
            replace hS := Aside0.mk (hS.out.on hb1)
            replace hX := Aside0.mk (hX.out.on hb1)
            replace kS := Aside0.mk (blk_below kS.out hb1)
            replace kX := Aside0.mk (blk_below kX.out hb1)
            replace hA := Aside0.mk (hA.out.on hb1)
            replace hB := Aside0.mk (hB.out.on hb1)
            replace kA := Aside0.mk (blk_below kA.out hb1)
            replace kB := Aside0.mk (blk_below kB.out hb1)
            replace hY := Aside0.mk (hY.out.on hb1)
            replace kY := Aside0.mk (blk_below kY.out hb1)
            replace hC := Aside0.mk (hC.out.on hb1)
            replace kC := Aside0.mk (blk_below kC.out hb1)
            replace hP := Aside0.mk (hP.out.on hb1)
            replace kP := Aside0.mk (blk_below kP.out hb1)
            replace hQ := Aside0.mk (hQ.out.on hb1)
            replace kQ := Aside0.mk (blk_below kQ.out hb1)
            replace hR := Aside0.mk (hR.out.on hb1)
            replace kR := Aside0.mk (blk_below kR.out hb1)
            replace hZ := Aside0.mk (hZ.out.on hb1)
            replace kZ := Aside0.mk (blk_below kZ.out hb1)
            clear hb1
            go_wp2
            go_ret
            exact ⟨rfl, hW.out⟩
      | false =>
        have ckX := blk_cell kX.out
        go_wp2_with (go_at_call 35; refine Stop.out ?_)
        clear ckX
        refine ⟨(hnu.out _ _ hX.out).mono ?_⟩
        rintro e w23 ⟨_, rfl, Az, cz, rfl, hb1⟩
        replace hW := Aside0.mk (hW.out.trans hb1)
        replace hS := Aside0.mk (hS.out.on hb1)
        replace hX := Aside0.mk (hX.out.on hb1)
        replace kS := Aside0.mk (blk_below kS.out hb1)
        replace kX := Aside0.mk (blk_below kX.out hb1)
        replace hA := Aside0.mk (hA.out.on hb1)
        replace hB := Aside0.mk (hB.out.on hb1)
        replace kA := Aside0.mk (blk_below kA.out hb1)
        replace kB := Aside0.mk (blk_below kB.out hb1)
        replace hY := Aside0.mk (hY.out.on hb1)
        replace kY := Aside0.mk (blk_below kY.out hb1)
        replace hC := Aside0.mk (hC.out.on hb1)
        replace kC := Aside0.mk (blk_below kC.out hb1)
        have hze := Aside0.mk (show zs ≠ [] from fun e => Bool.false_ne_true (hhom.out e))
        have hzl := Aside0.mk (show zs.length ≠ 0 from fun e => hze.out (List.length_eq_zero_iff.1 e))
        have m1 : (zs.length == 0) = false := beq_eq_false_iff_ne.2 hzl.out
        have m2 : ((zs.length : Int) == 0) = false := beq_eq_false_iff_ne.2 (by have := hzl.out; omega)
        have m3 : (zs.length = 0) = False := eq_false hzl.out
        have m4 : ((zs.length : Int) = 0) = False := eq_false (by have := hzl.out; omega)
        have m5 : (zs = []) = False := eq_false hze.out
        clear hb1
        cases fine with
        | false =>
          go_wp2
          go_ret
          exact ⟨rfl, hW.out⟩
        | true =>
          obtain rfl : ok = true := hiok.out (by simp)
          have ckX := blk_cell kX.out
          go_wp2_with (go_at_call 18; refine Stop.out ?_)
          clear ckX
          refine ⟨(hvx.out _ _ hX.out).mono ?_⟩
          rintro e w24 ⟨rfl, hb1⟩
          replace hW := Aside0.mk (hW.out.trans hb1)
          replace hS := Aside0.mk (hS.out.on hb1)
          replace hX := Aside0.mk (hX.out.on hb1)
          replace kS := Aside0.mk (blk_below kS.out hb1)
          replace kX := Aside0.mk (blk_below kX.out hb1)
          replace hA := Aside0.mk (hA.out.on hb1)
          replace hB := Aside0.mk (hB.out.on hb1)
          replace kA := Aside0.mk (blk_below kA.out hb1)
          replace kB := Aside0.mk (blk_below kB.out hb1)
          replace hY := Aside0.mk (hY.out.on hb1)
          replace kY := Aside0.mk (blk_below kY.out hb1)
          replace hC := Aside0.mk (hC.out.on hb1)
          replace kC := Aside0.mk (blk_below kC.out hb1)
          clear hb1
          have ckA := blk_cell kA.out
          have ckX := blk_cell kX.out
          go_wp2_with (go_at_call 24; refine Stop.out ?_)
          clear ckA ckX
          as_aux_lemma =>
            obtain ⟨hz1, hz2⟩ := hfin.out (by simp)
            obtain ⟨hz3, hz4⟩ := hcn.out (by simp)
            have hz5 := hok2.out hz1 hz2 (by simp)
            have hz6 := hok1.out (by simp)
            rw [← hz3, ← hz4] at hz5
            have hpa := Aside0.mk (fun W v u h k => iapV W v u an av rs fs h k)
            obtain ⟨pr, hpr⟩ : ∃ x, appR rs fs an av = x := ⟨_, rfl⟩
            obtain ⟨pf, hpf⟩ : ∃ x, appI rs fs an av = x := ⟨_, rfl⟩
            rw [hpr, hpf] at hpa hz5
            have hpb := Aside0.mk (fun W v u h k => iapV W v u bn bv pr pf h k)
            obtain ⟨qr, hqr⟩ : ∃ x, appR pr pf bn bv = x := ⟨_, rfl⟩
            obtain ⟨qf, hqf⟩ : ∃ x, appI pr pf bn bv = x := ⟨_, rfl⟩
            rw [hqr, hqf] at hpb hz5
            have hpc := Aside0.mk (fun W v u h k => iapV W v u cn cv rs fs h k)
            rw [← hz5.1, ← hz5.2] at hpc
            have hpz := Aside0.mk (fun W v u h k => iapV W v u [] [] rs fs h k)
            rw [hz6.1, hz6.2] at hpz
            clear hz1 hz2 hz3 hz4 hz5 hz6 hpr hpf hqr hqf
            refine ⟨(hpa.out _ _ _ hA.out hX.out).mono ?_⟩
            rintro e w25 ⟨_, rfl, v1, rfl, hU, hb1⟩
            have hP := Aside0.mk hU
            obtain ⟨P0, cP0, P1, cP1, rfl, -, -⟩ := hU.out
            replace hW := Aside0.mk (hW.out.trans hb1)
            replace hS := Aside0.mk (hS.out.on hb1)
            replace hX := Aside0.mk (hX.out.on hb1)
            replace kS := Aside0.mk (blk_below kS.out hb1)
            replace kX := Aside0.mk (blk_below kX.out hb1)
            replace hA := Aside0.mk (hA.out.on hb1)
            replace hB := Aside0.mk (hB.out.on hb1)
            replace kA := Aside0.mk (blk_below kA.out hb1)
            replace kB := Aside0.mk (blk_below kB.out hb1)
            replace hY := Aside0.mk (hY.out.on hb1)
            replace kY := Aside0.mk (blk_below kY.out hb1)
            replace hC := Aside0.mk (hC.out.on hb1)
            replace kC := Aside0.mk (blk_below kC.out hb1)
            clear hb1 hU
            have hfill := alloc_fill w25
            have kk := Aside0.mk (loc_new w25 #[.slice P0 pr.length cP0, .slice P1 pf.length cP1] 25)
            have hbb := Aside0.mk (On.alloc (On.refl w25) (.cells #[.slice P0 pr.length cP0, .slice P1 pf.length cP1] 25 (0, 0)))
            have ckB := blk_cell (blk_below kB.out hbb.out)
            have ckk := blk_cell kk.out
            go_wp2_with (go_at_call 24; refine Stop.out ?_)
            clear ckB
            clear ckk
            clear hfill
            obtain ⟨w25x, hx⟩ : ∃ x, w25.alloc (.cells #[.slice P0 pr.length cP0, .slice P1 pf.length cP1] 25 (0, 0)) = x := ⟨_, rfl⟩
            rw [hx] at kk hbb ⊢
            clear hx
            replace hW := Aside0.mk (hW.out.trans hbb.out)
            replace hS := Aside0.mk (hS.out.on hbb.out)
            replace hX := Aside0.mk (hX.out.on hbb.out)
            replace kS := Aside0.mk (blk_below kS.out hbb.out)
            replace kX := Aside0.mk (blk_below kX.out hbb.out)
            replace hA := Aside0.mk (hA.out.on hbb.out)
            replace hB := Aside0.mk (hB.out.on hbb.out)
            replace kA := Aside0.mk (blk_below kA.out hbb.out)
            replace kB := Aside0.mk (blk_below kB.out hbb.out)
            replace hY := Aside0.mk (hY.out.on hbb.out)
            replace kY := Aside0.mk (blk_below kY.out hbb.out)
            replace hC := Aside0.mk (hC.out.on hbb.out)
            replace kC := Aside0.mk (blk_below kC.out hbb.out)
            replace hP := Aside0.mk (hP.out.on hbb.out)
            have kP := kk
            clear kk hbb
            refine ⟨(hpb.out _ _ _ hB.out hP.out).mono ?_⟩
            rintro e w26 ⟨_, rfl, v1, rfl, hU, hb1⟩
            have hQ := Aside0.mk hU
            obtain ⟨Q0, cQ0, Q1, cQ1, rfl, -, -⟩ := hU.out
            replace hW := Aside0.mk (hW.out.trans hb1)
            replace hS := Aside0.mk (hS.out.on hb1)
            replace hX := Aside0.mk (hX.out.on hb1)
            replace kS := Aside0.mk (blk_below kS.out hb1)
            replace kX := Aside0.mk (blk_below kX.out hb1)
            replace hA := Aside0.mk (hA.out.on hb1)
            replace hB := Aside0.mk (hB.out.on hb1)
            replace kA := Aside0.mk (blk_below kA.out hb1)
            replace kB := Aside0.mk (blk_below kB.out hb1)
            replace hY := Aside0.mk (hY.out.on hb1)
            replace kY := Aside0.mk (blk_below kY.out hb1)
            replace hC := Aside0.mk (hC.out.on hb1)
            replace kC := Aside0.mk (blk_below kC.out hb1)
            replace hP := Aside0.mk (hP.out.on hb1)
            replace kP := Aside0.mk (blk_below kP.out hb1)
            clear hb1 hU
            have hfill := alloc_fill w26
            have kk := Aside0.mk (loc_new w26 #[.slice Q0 qr.length cQ0, .slice Q1 qf.length cQ1] 25)
            have hbb := Aside0.mk (On.alloc (On.refl w26) (.cells #[.slice Q0 qr.length cQ0, .slice Q1 qf.length cQ1] 25 (0, 0)))
            have ckC := blk_cell (blk_below kC.out hbb.out)
            have ckX := blk_cell (blk_below kX.out hbb.out)
            go_wp2_with (go_at_call 24; refine Stop.out ?_)
            clear ckC ckX
            clear hfill
            obtain ⟨w26x, hx⟩ : ∃ x, w26.alloc (.cells #[.slice Q0 qr.length cQ0, .slice Q1 qf.length cQ1] 25 (0, 0)) = x := ⟨_, rfl⟩
            rw [hx] at kk hbb ⊢
            clear hx
            replace hW := Aside0.mk (hW.out.trans hbb.out)
            replace hS := Aside0.mk (hS.out.on hbb.out)
            replace hX := Aside0.mk (hX.out.on hbb.out)
            replace kS := Aside0.mk (blk_below kS.out hbb.out)
            replace kX := Aside0.mk (blk_below kX.out hbb.out)
            replace hA := Aside0.mk (hA.out.on hbb.out)
            replace hB := Aside0.mk (hB.out.on hbb.out)
            replace kA := Aside0.mk (blk_below kA.out hbb.out)
            replace kB := Aside0.mk (blk_below kB.out hbb.out)
            replace hY := Aside0.mk (hY.out.on hbb.out)
            replace kY := Aside0.mk (blk_below kY.out hbb.out)
            replace hC := Aside0.mk (hC.out.on hbb.out)
            replace kC := Aside0.mk (blk_below kC.out hbb.out)
            replace hP := Aside0.mk (hP.out.on hbb.out)
            replace kP := Aside0.mk (blk_below kP.out hbb.out)
            replace hQ := Aside0.mk (hQ.out.on hbb.out)
            have kQ := kk
            clear kk hbb
            refine ⟨(hpc.out _ _ _ hC.out hX.out).mono ?_⟩
            rintro e w27 ⟨_, rfl, v1, rfl, hU, hb1⟩
            have hR := Aside0.mk hU
            obtain ⟨R0, cR0, R1, cR1, rfl, -, -⟩ := hU.out
            replace hW := Aside0.mk (hW.out.trans hb1)
            replace hS := Aside0.mk (hS.out.on hb1)
            replace hX := Aside0.mk (hX.out.on hb1)
            replace kS := Aside0.mk (blk_below kS.out hb1)
            replace kX := Aside0.mk (blk_below kX.out hb1)
            replace hA := Aside0.mk (hA.out.on hb1)
            replace hB := Aside0.mk (hB.out.on hb1)
            replace kA := Aside0.mk (blk_below kA.out hb1)
            replace kB := Aside0.mk (blk_below kB.out hb1)
            replace hY := Aside0.mk (hY.out.on hb1)
            replace kY := Aside0.mk (blk_below kY.out hb1)
            replace hC := Aside0.mk (hC.out.on hb1)
            replace kC := Aside0.mk (blk_below kC.out hb1)
            replace hP := Aside0.mk (hP.out.on hb1)
            replace kP := Aside0.mk (blk_below kP.out hb1)
            replace hQ := Aside0.mk (hQ.out.on hb1)
            replace kQ := Aside0.mk (blk_below kQ.out hb1)
            clear hb1 hU
            have hfill := alloc_fill w27
            have kk := Aside0.mk (loc_new w27 #[.slice R0 qr.length cR0, .slice R1 qf.length cR1] 25)
            have hbb := Aside0.mk (On.alloc (On.refl w27) (.cells #[.slice R0 qr.length cR0, .slice R1 qf.length cR1] 25 (0, 0)))
            have ckX := blk_cell (blk_below kX.out hbb.out)
            go_wp2_with (go_at_call 24; refine Stop.out ?_)
            clear ckX
            clear hfill
            obtain ⟨w27x, hx⟩ : ∃ x, w27.alloc (.cells #[.slice R0 qr.length cR0, .slice R1 qf.length cR1] 25 (0, 0)) = x := ⟨_, rfl⟩
            rw [hx] at kk hbb ⊢
            clear hx
            replace hW := Aside0.mk (hW.out.trans hbb.out)
            replace hS := Aside0.mk (hS.out.on hbb.out)
            replace hX := Aside0.mk (hX.out.on hbb.out)
            replace kS := Aside0.mk (blk_below kS.out hbb.out)
            replace kX := Aside0.mk (blk_below kX.out hbb.out)
            replace hA := Aside0.mk (hA.out.on hbb.out)
            replace hB := Aside0.mk (hB.out.on hbb.out)
            replace kA := Aside0.mk (blk_below kA.out hbb.out)
            replace kB := Aside0.mk (blk_below kB.out hbb.out)
            replace hY := Aside0.mk (hY.out.on hbb.out)
            replace kY := Aside0.mk (blk_below kY.out hbb.out)
            replace hC := Aside0.mk (hC.out.on hbb.out)
            replace kC := Aside0.mk (blk_below kC.out hbb.out)
            replace hP := Aside0.mk (hP.out.on hbb.out)
            replace kP := Aside0.mk (blk_below kP.out hbb.out)
            replace hQ := Aside0.mk (hQ.out.on hbb.out)
            replace kQ := Aside0.mk (blk_below kQ.out hbb.out)
            replace hR := Aside0.mk (hR.out.on hbb.out)
            have kR := kk
            clear kk hbb
            refine ⟨(hpz.out _ _ _ (RSu.nil _) hX.out).mono ?_⟩
            rintro e w28 ⟨_, rfl, v1, rfl, hU, hb1⟩
            have hZ := Aside0.mk hU
            obtain ⟨Z0, cZ0, Z1, cZ1, rfl, -, -⟩ := hU.out
            replace hW := Aside0.mk (hW.out.trans hb1)
            replace hS := Aside0.mk (hS.out.on hb1)
            replace hX := Aside0.mk (hX.out.on hb1)
            replace kS := Aside0.mk (blk_below kS.out hb1)
            replace kX := Aside0.mk (blk_below kX.out hb1)
            replace hA := Aside0.mk (hA.out.on hb1)
            replace hB := Aside0.mk (hB.out.on hb1)
            replace kA := Aside0.mk (blk_below kA.out hb1)
            replace kB := Aside0.mk (blk_below kB.out hb1)
            replace hY := Aside0.mk (hY.out.on hb1)
            replace kY := Aside0.mk (blk_below kY.out hb1)
            replace hC := Aside0.mk (hC.out.on hb1)
            replace kC := Aside0.mk (blk_below kC.out hb1)
            replace hP := Aside0.mk (hP.out.on hb1)
            replace kP := Aside0.mk (blk_below kP.out hb1)
            replace hQ := Aside0.mk (hQ.out.on hb1)
            replace kQ := Aside0.mk (blk_below kQ.out hb1)
            replace hR := Aside0.mk (hR.out.on hb1)
            replace kR := Aside0.mk (blk_below kR.out hb1)
            clear hb1 hU
            have hfill := alloc_fill w28
            have kk := Aside0.mk (loc_new w28 #[.slice Z0 rs.length cZ0, .slice Z1 fs.length cZ1] 25)
            have hbb := Aside0.mk (On.alloc (On.refl w28) (.cells #[.slice Z0 rs.length cZ0, .slice Z1 fs.length cZ1] 25 (0, 0)))
            have ckQ := blk_cell (blk_below kQ.out hbb.out)
            have ckR := blk_cell (blk_below kR.out hbb.out)
            go_wp2_with (go_at_call 20; refine Stop.out ?_)
            clear ckQ ckR
            clear hfill
            obtain ⟨w28x, hx⟩ : ∃ x, w28.alloc (.cells #[.slice Z0 rs.length cZ0, .slice Z1 fs.length cZ1] 25 (0, 0)) = x := ⟨_, rfl⟩
            rw [hx] at kk hbb ⊢
            clear hx
            replace hW := Aside0.mk (hW.out.trans hbb.out)
            replace hS := Aside0.mk (hS.out.on hbb.out)
            replace hX := Aside0.mk (hX.out.on hbb.out)
            replace kS := Aside0.mk (blk_below kS.out hbb.out)
            replace kX := Aside0.mk (blk_below kX.out hbb.out)
            replace hA := Aside0.mk (hA.out.on hbb.out)
            replace hB := Aside0.mk (hB.out.on hbb.out)
            replace kA := Aside0.mk (blk_below kA.out hbb.out)
            replace kB := Aside0.mk (blk_below kB.out hbb.out)
            replace hY := Aside0.mk (hY.out.on hbb.out)
            replace kY := Aside0.mk (blk_below kY.out hbb.out)
            replace hC := Aside0.mk (hC.out.on hbb.out)
            replace kC := Aside0.mk (blk_below kC.out hbb.out)
            replace hP := Aside0.mk (hP.out.on hbb.out)
            replace kP := Aside0.mk (blk_below kP.out hbb.out)
            replace hQ := Aside0.mk (hQ.out.on hbb.out)
            replace kQ := Aside0.mk (blk_below kQ.out hbb.out)
            replace hR := Aside0.mk (hR.out.on hbb.out)
            replace kR := Aside0.mk (blk_below kR.out hbb.out)
            replace hZ := Aside0.mk (hZ.out.on hbb.out)
            have kZ := kk
            clear kk hbb
            refine ⟨(seqT _ _ _ _ _ hQ.out hR.out).mono ?_⟩
            rintro e w29 ⟨rfl, hb1⟩
            replace hW := Aside0.mk (hW.out.trans hb1)
            replace hS := Aside0.mk (hS.out.on hb1)
            replace hX := Aside0.mk (hX.out.on hb1)
            replace kS := Aside0.mk (blk_below kS.out hb1)
            replace kX := Aside0.mk (blk_below kX.out hb1)
            replace hA := Aside0.mk (hA.out.on hb1)
            replace hB := Aside0.mk (hB.out.on hb1)
            replace kA := Aside0.mk (blk_below kA.out hb1)
            replace kB := Aside0.mk (blk_below kB.out hb1)
            replace hY := Aside0.mk (hY.out.on hb1)
            replace kY := Aside0.mk (blk_below kY.out hb1)
            replace hC := Aside0.mk (hC.out.on hb1)
            replace kC := Aside0.mk (blk_below kC.out hb1)
            replace hP := Aside0.mk (hP.out.on hb1)
            replace kP := Aside0.mk (blk_below kP.out hb1)
            replace hQ := Aside0.mk (hQ.out.on hb1)
            replace kQ := Aside0.mk (blk_below kQ.out hb1)
            replace hR := Aside0.mk (hR.out.on hb1)
            replace kR := Aside0.mk (blk_below kR.out hb1)
            replace hZ := Aside0.mk (hZ.out.on hb1)
            replace kZ := Aside0.mk (blk_below kZ.out hb1)
            clear hb1
            have ckZ := blk_cell kZ.out
            have ckX := blk_cell kX.out
            go_wp2_with (go_at_call 20; refine Stop.out ?_)
            clear ckZ ckX
            refine ⟨(seqT _ _ _ _ _ hZ.out hX.out).mono ?_⟩
            rintro e w30 ⟨rfl, hb1⟩
            replace hW := Aside0.mk (hW.out.trans hb1)
            replace hS := Aside0.mk (hS.out.on hb1)
            replace hX := Aside0.mk (hX.out.on hb1)
            replace kS := Aside0.mk (blk_below kS.out hb1)
            replace kX := Aside0.mk (blk_below kX.out hb1)
            replace hA := Aside0.mk (hA.out.on hb1)
            replace hB := Aside0.mk (hB.out.on hb1)
            replace kA := Aside0.mk (blk_below kA.out hb1)
            replace kB := Aside0.mk (blk_below kB.out hb1)
            replace hY := Aside0.mk (hY.out.on hb1)
            replace kY := Aside0.mk (blk_below kY.out hb1)
            replace hC := Aside0.mk (hC.out.on hb1)
            replace kC := Aside0.mk (blk_below kC.out hb1)
            replace hP := Aside0.mk (hP.out.on hb1)
            replace kP := Aside0.mk (blk_below kP.out hb1)
            replace hQ := Aside0.mk (hQ.out.on hb1)
            replace kQ := Aside0.mk (blk_below kQ.out hb1)
            replace hR := Aside0.mk (hR.out.on hb1)
            replace kR := Aside0.mk (blk_below kR.out hb1)
            replace hZ := Aside0.mk (hZ.out.on hb1)
            replace kZ := Aside0.mk (blk_below kZ.out hb1)
            clear hb1
            go_wp2
            go_ret
            exact ⟨rfl, hW.out⟩
end Go.Proofs.YtgemaohdlibboaaGreatDoor.H
