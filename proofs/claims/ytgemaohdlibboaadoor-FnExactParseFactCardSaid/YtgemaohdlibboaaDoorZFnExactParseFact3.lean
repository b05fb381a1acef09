/- Walks and plain laws for the law FnExactParseFact, part 3 of 3: the texts HQFnExactParseFact in one. No condition. -/
import Derived.Test.YtgemaohdlibboaaDoorZFnExactParseFact2
/- Walks: the law FnExactParseFact. No condition. -/
namespace Go.Proofs.YtgemaohdlibboaaDoor.H
open Go Go.RowKit Go.Proofs.YtgemaohdlibboaaDoorW.PrintWords Go.Proofs.YtgemaohdlibboaaDoorW.PrintLast
open Go.Proofs.YtgemaohdlibboaaDoor.Reg (On on_draw)
set_option maxHeartbeats 8000000
set_option maxRecDepth 100000
set_option linter.unusedVariables false
set_option linter.unusedSimpArgs false

theorem parF_len3 (rs : List Rel) (s : List UInt8) : (parF rs s).1.2.length ≤ 3 := by
  cases h : (parF rs s).2 with
  | false => rw [(parF_true.2 h).1]; simp
  | true => exact okFact_len (parF_true.1 h).1
theorem parF_inR (rs : List Rel) (s : List UInt8) : InR (parF rs s).1.2 := by
  cases h : (parF rs s).2 with
  | false => rw [(parF_true.2 h).1]; intro x hx; cases hx
  | true => rw [(pf_B h).2.2.1]; exact vsW_inR _
theorem wR_len (rs : List Rel) : rs.length ≤ wR rs := by
  unfold wR
  induction rs with
  | nil => simp
  | cons r rs ih => simp at ih ⊢; omega
theorem heldFact_calls (w : World) (A c) (n : Nat) (r k0 : Int) (h : Ints w A c (markI k0 n)) (h0 : 0 ≤ k0) (h1 : k0 + n ≤ 10000000) : Calls Tryd.prog 16 #[.agg #[.int .i64 r, .slice A n c], .int .i64 k0] w fun e w' => e = .returned (.int .i64 (k0 + n)) ∧ On w w' := by
  have hb := Aside0.mk (On.alloc (On.refl w) (.cells #[.int .i64 r, .slice A n c] 32))
  have hn : (k0 + (n : Int) < 0) = False := eq_false (by omega)
  have hnb : decide (k0 + (n : Int) < 0) = false := decide_eq_false (by omega)
  go_enter Tryd.func16, Tryd.ntmps16
  go_wp2_with (go_at_call 36; refine (heldIntS_calls _ A c n k0 (h.on hb.out) h0 h1).mono ?_; rintro e w1 ⟨rfl, hb1⟩)
  go_ret
  exact ⟨rfl, hb.out.trans hb1⟩
theorem blk_not_own2 {w : World} {lo e sz n b : Nat} {v : Value} {xs : List Value} {cs : Array Value} {t : TypeId} (h : w.ownsRow lo e sz v n xs) (hb : w.heap[b]? = some (.cells cs t (0, 0))) (hne : t ≠ e) : some b ≠ v.ownBlock := fun e1 => by
  obtain ⟨c, hc⟩ := own_typed h b e1.symm
  rw [hb] at hc
  injection hc with hc
  injection hc with _ h3
  exact hne h3
theorem sPFV (w : World) (v : Value) (rs : List Rel) (s : List UInt8) (h : ∃ A c, v = .slice A rs.length c ∧ Rels w A c rs) (hl : s.length ≤ 1048576) : Calls Tryd.prog 11 #[v, .string (strB s)] w (Got fun u w' => ∃ v1, u = .tuple #[v1, .bool (parF rs s).2] ∧ OFa w' w.heap.size v1 (parF rs s).1 ∧ On w w') := by
  obtain ⟨A, c, rfl, hr⟩ := h
  refine (sParseFact_calls w A c rs hr s hl).mono ?_
  rintro e w' ⟨u, rfl, v1, rfl, hO, hb⟩
  exact ⟨_, rfl, _, rfl, ⟨_, rfl, hO, parF_inR rs s⟩, hb⟩
theorem iPFV (w : World) (v : Value) (rs : List Rel) (s : List UInt8) (h : ∃ A c, v = .slice A rs.length c ∧ Rels w A c rs) (hl : s.length ≤ 1048576) : Calls Tryd.prog 13 #[v, .string (strB s)] w (Got fun u w' => ∃ v1, u = .tuple #[v1, .bool (parF rs s).2] ∧ OFa w' w.heap.size v1 (parF rs s).1 ∧ On w w') := by
  obtain ⟨A, c, rfl, hr⟩ := h
  refine (iParseFact_calls w A c rs hr s hl).mono ?_
  rintro e w' ⟨u, rfl, v1, rfl, hO, hb⟩
  exact ⟨_, rfl, _, rfl, ⟨_, rfl, hO, parF_inR rs s⟩, hb⟩
theorem FnExactParseFact_calls (w : World) (V0 : Value) (rs : List Rel) (hA0 : ∃ A c, V0 = .slice A rs.length c ∧ Rels w A c rs) (hZ0 : ∀ r ∈ rs, r.1.size ≤ 9223372036854775807) (a : ByteArray) (ha : a.size ≤ 9223372036854775807) : Calls Tryd.prog 4 #[V0, .string a] w fun e w' => e = .returned (.bool true) ∧ On w w' := by
  obtain ⟨s, rfl⟩ : ∃ s, a = strB s := ⟨a.data.toList, by simp [strB]⟩
  obtain ⟨A, c, rfl, hA⟩ := hA0
  have hsz := strB_size s
  by_cases hb : s.length ≤ 1048576
  · have hl := Aside0.mk hb
    have hA' := Aside0.mk hA
    have hn := Aside0.mk (parF_len3 rs s)
    have hsp := Aside0.mk (fun w v h => sPFV w v rs s h hb)
    have hip := Aside0.mk (fun w v h => iPFV w v rs s h hb)
    have c1 : (1048576 < (strB s).size) = False := eq_false (by omega)
    have c2 : ((1048576 : Int) < ((strB s).size : Int)) = False := eq_false (by omega)
    obtain ⟨f, hf⟩ : ∃ f, (parF rs s).1 = f := ⟨_, rfl⟩
    obtain ⟨bo, hbo⟩ : ∃ bo, (parF rs s).2 = bo := ⟨_, rfl⟩
    rw [hf] at hn
    rw [hf, hbo] at hsp hip
    have hW := Aside0.mk (On.refl w)
    clear hf hbo hb hsz ha hA
    go_enter Tryd.func4, Tryd.ntmps4
    go_wp2_with (go_at_call 10; refine Stop.out ?_)
    clear c1 c2
    refine ⟨(szRelationS_calls _ A c rs 1048576 (by omega) (by omega) hA'.out hZ0).mono ?_⟩
    rintro e w1 ⟨q1, rfl, hq0, hb1⟩
    have hq1 := Aside0.mk hq0
    clear hq0
    replace hW := Aside0.mk (hW.out.trans hb1)
    clear hb1
    by_cases hneg1 : q1 < 0
    · go_wp2
      go_ret
      exact ⟨rfl, hW.out⟩
    have hrl := Aside0.mk (show rs.length ≤ 1048576 by have := hq1.out (by omega); have := wR_len rs; omega)
    go_wp2_with (go_at_call 12; refine Stop.out ?_)
    refine ⟨(toRelationS_calls _ A c rs (hA'.out.on hW.out) (by have := hrl.out; omega)).mono ?_⟩
    rintro e w2 ⟨v, rfl, hO, hb1⟩
    obtain ⟨Aa, da, rfl, -⟩ := OR.rd hO
    have hOa := Aside0.mk hO
    replace hW := Aside0.mk (hW.out.trans hb1)
    clear hb1 hO
    go_wp2_with (go_at_call 11; refine Stop.out ?_)
    refine ⟨(hsp.out _ _ ⟨Aa, da, rfl, (OR.same2 hOa.out).2⟩).mono ?_⟩
    rintro e w3 ⟨_, rfl, v0, rfl, hO, hb1⟩
    obtain ⟨v0', rfl, hO0, hR0⟩ := hO.out
    obtain ⟨A0, d0, rfl⟩ := own_slice hO0
    have hX0 := Aside0.mk (ints_of hO0 hR0)
    have hlt0 := Aside0.mk (own_lt hO0)
    have hXO := Aside0.mk hO0
    have hR := Aside0.mk hR0
    replace hW := Aside0.mk (hW.out.trans hb1)
    clear hb1 hO hO0 hR0 hOa
    have hfill := alloc_fill w3
    have kk := Aside0.mk (loc_new w3 #[.int .i64 f.1, .slice A0 f.2.length d0] 32)
    have hbb := Aside0.mk (On.alloc (On.refl w3) (.cells #[.int .i64 f.1, .slice A0 f.2.length d0] 32 (0, 0)))
    go_wp2_with (go_at_call 12; refine Stop.out ?_)
    obtain ⟨w3x, hx⟩ : ∃ x, w3.alloc (.cells #[.int .i64 f.1, .slice A0 f.2.length d0] 32 (0, 0)) = x := ⟨_, rfl⟩
    rw [hx] at kk hbb ⊢
    clear hx hfill
    replace hW := Aside0.mk (hW.out.trans hbb.out)
    replace hX0 := Aside0.mk (hX0.out.on hbb.out)
    replace hXO := Aside0.mk (pw_own_below hXO.out hbb.out)
    have k0 := kk
    clear kk hbb
    refine ⟨(toRelationS_calls _ A c rs (hA'.out.on hW.out) (by have := hrl.out; omega)).mono ?_⟩
    rintro e w4 ⟨v, rfl, hO, hb1⟩
    obtain ⟨Ax, dx, rfl, -⟩ := OR.rd hO
    have hsx := Aside0.mk (own_base hO)
    have hOx := Aside0.mk hO
    have hWx := Aside0.mk hW.out.size
    replace hW := Aside0.mk (hW.out.trans hb1)
    replace hX0 := Aside0.mk (hX0.out.on hb1)
    replace hXO := Aside0.mk (pw_own_below hXO.out hb1)
    replace k0 := Aside0.mk (blk_below k0.out hb1)
    have hltx := Aside0.mk (own_lt hO)
    clear hb1 hO
    go_wp2_with (go_at_call 13; refine Stop.out ?_)
    refine ⟨(hip.out _ _ ⟨Ax, dx, rfl, (OR.same2 hOx.out).2⟩).mono ?_⟩
    rintro e w5 ⟨_, rfl, v1, rfl, hO, hb1⟩
    obtain ⟨v1', rfl, hO1, hR1⟩ := hO.out
    obtain ⟨A1, d1, rfl⟩ := own_slice hO1
    have hX1 := Aside0.mk hO1
    have hs1 := Aside0.mk (own_base hO1)
    have hW1 := Aside0.mk hW.out.size
    have hk0l := Aside0.mk (blk_lt k0.out)
    replace hW := Aside0.mk (hW.out.trans hb1)
    replace hX0 := Aside0.mk (hX0.out.on hb1)
    replace hXO := Aside0.mk (pw_own_below hXO.out hb1)
    replace k0 := Aside0.mk (blk_below k0.out hb1)
    replace hOx := Aside0.mk (pw_own_below hOx.out hb1)
    clear hb1 hO hO1 hR1
    have hfill := alloc_fill w5
    have kk := Aside0.mk (loc_new w5 #[.int .i64 f.1, .slice A1 f.2.length d1] 32)
    have hbb := Aside0.mk (On.alloc (On.refl w5) (.cells #[.int .i64 f.1, .slice A1 f.2.length d1] 32 (0, 0)))
    have ck0 := blk_cell (blk_below k0.out hbb.out)
    have ckk := blk_cell kk.out
    go_wp2_with (go_at_call 14; refine Stop.out ?_)
    clear ck0 ckk
    obtain ⟨w5x, hx⟩ : ∃ x, w5.alloc (.cells #[.int .i64 f.1, .slice A1 f.2.length d1] 32 (0, 0)) = x := ⟨_, rfl⟩
    rw [hx] at kk hbb ⊢
    clear hx hfill
    replace hW := Aside0.mk (hW.out.trans hbb.out)
    replace hX0 := Aside0.mk (hX0.out.on hbb.out)
    replace hXO := Aside0.mk (pw_own_below hXO.out hbb.out)
    replace k0 := Aside0.mk (blk_below k0.out hbb.out)
    replace hOx := Aside0.mk (pw_own_below hOx.out hbb.out)
    replace hX1 := Aside0.mk (pw_own_below hX1.out hbb.out)
    have k1 := kk
    clear kk hbb
    refine ⟨(eqFact_calls _ A1 d1 A0 d0 f (ints_of hX1.out hR.out) hX0.out).mono ?_⟩
    rintro e w6 ⟨rfl, hb1⟩
    replace hW := Aside0.mk (hW.out.trans hb1)
    replace hX0 := Aside0.mk (hX0.out.on hb1)
    replace hXO := Aside0.mk (pw_own_below hXO.out hb1)
    replace k0 := Aside0.mk (blk_below k0.out hb1)
    replace hOx := Aside0.mk (pw_own_below hOx.out hb1)
    replace hX1 := Aside0.mk (pw_own_below hX1.out hb1)
    replace k1 := Aside0.mk (blk_below k1.out hb1)
    clear hb1
    have ck0 := blk_cell k0.out
    have ck1 := blk_cell k1.out
    go_wp2_with (go_at_call 12; refine Stop.out ?_)
    clear ck0 ck1
    refine ⟨(toRelationS_calls _ A c rs (hA'.out.on hW.out) (by have := hrl.out; omega)).mono ?_⟩
    rintro e w7 ⟨v, rfl, hO, hb1⟩
    obtain ⟨Ab, db, rfl, -⟩ := OR.rd hO
    have hOb := Aside0.mk hO
    replace hW := Aside0.mk (hW.out.trans hb1)
    replace hX0 := Aside0.mk (hX0.out.on hb1)
    replace hXO := Aside0.mk (pw_own_below hXO.out hb1)
    replace k0 := Aside0.mk (blk_below k0.out hb1)
    replace hOx := Aside0.mk (pw_own_below hOx.out hb1)
    replace hX1 := Aside0.mk (pw_own_below hX1.out hb1)
    replace k1 := Aside0.mk (blk_below k1.out hb1)
    clear hb1 hO
    go_wp2_with (go_at_call 7; refine Stop.out ?_)
    refine ⟨(eqRelationS_calls _ Ax dx Ab db rs (OR.same2 hOx.out).2 (OR.same2 hOb.out).2).mono ?_⟩
    rintro e w8 ⟨rfl, hb1⟩
    replace hW := Aside0.mk (hW.out.trans hb1)
    replace hX0 := Aside0.mk (hX0.out.on hb1)
    replace hXO := Aside0.mk (pw_own_below hXO.out hb1)
    replace k0 := Aside0.mk (blk_below k0.out hb1)
    replace hOx := Aside0.mk (pw_own_below hOx.out hb1)
    replace hX1 := Aside0.mk (pw_own_below hX1.out hb1)
    replace k1 := Aside0.mk (blk_below k1.out hb1)
    clear hb1 hOb
    go_wp2_with (go_at_call 8; refine Stop.out ?_)
    refine ⟨(markRelationS_calls _ _ _ rs 1 hOx.out (by omega) (by have := hrl.out; omega)).mono ?_⟩
    rintro e w9 ⟨rfl, hOn, hE⟩
    have hEx := Aside0.mk hE
    have hOx' := Aside0.mk hOx.out
    replace hW := Aside0.mk (Ex.on hW.out hE (fun i e => Nat.le_trans hWx.out (hsx.out i e.symm)))
    replace hXO := Aside0.mk (own_ex hXO.out hE (fun i hi e => own_ne_blk hXO.out hOx'.out (by decide) hi e.symm))
    replace hX1 := Aside0.mk (own_ex hX1.out hE (fun i hi e => own_ne_blk hX1.out hOx'.out (by decide) hi e.symm))
    replace hX0 := Aside0.mk (ints_of hXO.out hR.out)
    replace k0 := Aside0.mk (blk_ex hE k0.out (fun e => blk_not_own2 hOx'.out k0.out (by decide) e))
    replace k1 := Aside0.mk (blk_ex hE k1.out (fun e => blk_not_own2 hOx'.out k1.out (by decide) e))
    clear hE hOn hEx hOx hOx'
    have n0 : ((1 : Int) + 3 * (rs.length : Int) < 0) = False := eq_false (by omega)
    have n1 : decide ((1 : Int) + 3 * (rs.length : Int) < 0) = false := decide_eq_false (by omega)
    have ck0 := blk_cell k0.out
    have ck1 := blk_cell k1.out
    go_wp2_with (go_at_call 14; refine Stop.out ?_)
    clear ck0 ck1
    clear n0 n1
    refine ⟨(eqFact_calls _ A1 d1 A0 d0 f (ints_of hX1.out hR.out) hX0.out).mono ?_⟩
    rintro e w10 ⟨rfl, hb1⟩
    replace hW := Aside0.mk (hW.out.trans hb1)
    replace hX0 := Aside0.mk (hX0.out.on hb1)
    replace hXO := Aside0.mk (pw_own_below hXO.out hb1)
    replace k0 := Aside0.mk (blk_below k0.out hb1)
    replace hX1 := Aside0.mk (pw_own_below hX1.out hb1)
    replace k1 := Aside0.mk (blk_below k1.out hb1)
    clear hb1
    have ck0 := blk_cell k0.out
    have ck1 := blk_cell k1.out
    go_wp2_with (go_at_call 15; refine Stop.out ?_)
    clear ck0 ck1
    refine ⟨(markFact_calls _ _ _ f 1 hX1.out (by omega) (by have := hn.out; omega)).mono ?_⟩
    rintro e w11 ⟨rfl, hOn, hE⟩
    replace hW := Aside0.mk (Ex.on hW.out hE (fun i e => Nat.le_trans hW1.out (hs1.out i e.symm)))
    replace hXO := Aside0.mk (own_ex hXO.out hE (fun i hi e => by have h1 := hlt0.out i hi; have h2 := hs1.out i e.symm; have h3 := hk0l.out; omega))
    replace hX0 := Aside0.mk (ints_of hXO.out hR.out)
    replace k0 := Aside0.mk (blk_ex hE k0.out (fun e => by have h2 := hs1.out _ e.symm; have h3 := hk0l.out; omega))
    replace k1 := Aside0.mk (blk_ex hE k1.out (fun e => blk_not_own2 hX1.out k1.out (by decide) e))
    replace hX1 := Aside0.mk hOn
    clear hE hOn
    have ck0 := blk_cell k0.out
    have ck1 := blk_cell k1.out
    go_wp2_with (go_at_call 16; refine Stop.out ?_)
    clear ck0 ck1
    refine ⟨(heldFact_calls _ A1 d1 f.2.length f.1 1 (ints_of hX1.out (markI_inR 1 f.2.length (by omega) (by have := hn.out; omega))) (by omega) (by have := hn.out; omega)).mono ?_⟩
    rintro e w12 ⟨rfl, hb1⟩
    replace hW := Aside0.mk (hW.out.trans hb1)
    replace hX0 := Aside0.mk (hX0.out.on hb1)
    replace hXO := Aside0.mk (pw_own_below hXO.out hb1)
    replace k0 := Aside0.mk (blk_below k0.out hb1)
    replace hX1 := Aside0.mk (pw_own_below hX1.out hb1)
    replace k1 := Aside0.mk (blk_below k1.out hb1)
    clear hb1
    have n2 : ((1 : Int) + (f.2.length : Int) < 0) = False := eq_false (by omega)
    have n3 : decide ((1 : Int) + (f.2.length : Int) < 0) = false := decide_eq_false (by omega)
    go_wp2_with (go_at_call 12; refine Stop.out ?_)
    clear n2 n3
    refine ⟨(toRelationS_calls _ A c rs (hA'.out.on hW.out) (by have := hrl.out; omega)).mono ?_⟩
    rintro e w13 ⟨v, rfl, hO, hb1⟩
    obtain ⟨Ac, dc, rfl, -⟩ := OR.rd hO
    have hOc := Aside0.mk hO
    replace hW := Aside0.mk (hW.out.trans hb1)
    replace hX0 := Aside0.mk (hX0.out.on hb1)
    replace hXO := Aside0.mk (pw_own_below hXO.out hb1)
    replace k0 := Aside0.mk (blk_below k0.out hb1)
    replace hX1 := Aside0.mk (pw_own_below hX1.out hb1)
    replace k1 := Aside0.mk (blk_below k1.out hb1)
    clear hb1 hO
    go_wp2_with (go_at_call 13; refine Stop.out ?_)
    refine ⟨(hip.out _ _ ⟨Ac, dc, rfl, (OR.same2 hOc.out).2⟩).mono ?_⟩
    rintro e w14 ⟨_, rfl, v1, rfl, hO, hb1⟩
    obtain ⟨v1', rfl, hO2, hR2⟩ := hO.out
    obtain ⟨A2, d2, rfl⟩ := own_slice hO2
    have hX2 := Aside0.mk hO2
    replace hW := Aside0.mk (hW.out.trans hb1)
    replace hX0 := Aside0.mk (hX0.out.on hb1)
    replace hXO := Aside0.mk (pw_own_below hXO.out hb1)
    replace k0 := Aside0.mk (blk_below k0.out hb1)
    replace hX1 := Aside0.mk (pw_own_below hX1.out hb1)
    replace k1 := Aside0.mk (blk_below k1.out hb1)
    clear hb1 hO hO2 hR2 hOc
    have hfill := alloc_fill w14
    have kk := Aside0.mk (loc_new w14 #[.int .i64 f.1, .slice A2 f.2.length d2] 32)
    have hbb := Aside0.mk (On.alloc (On.refl w14) (.cells #[.int .i64 f.1, .slice A2 f.2.length d2] 32 (0, 0)))
    have ck0 := blk_cell (blk_below k0.out hbb.out)
    have ckk := blk_cell kk.out
    go_wp2_with (go_at_call 14; refine Stop.out ?_)
    clear ck0 ckk
    obtain ⟨w14x, hx⟩ : ∃ x, w14.alloc (.cells #[.int .i64 f.1, .slice A2 f.2.length d2] 32 (0, 0)) = x := ⟨_, rfl⟩
    rw [hx] at kk hbb ⊢
    clear hx hfill
    replace hW := Aside0.mk (hW.out.trans hbb.out)
    replace hX0 := Aside0.mk (hX0.out.on hbb.out)
    replace hXO := Aside0.mk (pw_own_below hXO.out hbb.out)
    replace k0 := Aside0.mk (blk_below k0.out hbb.out)
    replace hX1 := Aside0.mk (pw_own_below hX1.out hbb.out)
    replace k1 := Aside0.mk (blk_below k1.out hbb.out)
    replace hX2 := Aside0.mk (pw_own_below hX2.out hbb.out)
    have k2 := kk
    clear kk hbb
    refine ⟨(eqFact_calls _ A2 d2 A0 d0 f (ints_of hX2.out hR.out) hX0.out).mono ?_⟩
    rintro e w15 ⟨rfl, hb1⟩
    replace hW := Aside0.mk (hW.out.trans hb1)
    replace hX0 := Aside0.mk (hX0.out.on hb1)
    replace hXO := Aside0.mk (pw_own_below hXO.out hb1)
    replace k0 := Aside0.mk (blk_below k0.out hb1)
    replace hX1 := Aside0.mk (pw_own_below hX1.out hb1)
    replace k1 := Aside0.mk (blk_below k1.out hb1)
    replace hX2 := Aside0.mk (pw_own_below hX2.out hb1)
    replace k2 := Aside0.mk (blk_below k2.out hb1)
    clear hb1
    have ck0 := blk_cell k0.out
    have ck1 := blk_cell k1.out
    have ck2 := blk_cell k2.out
    go_wp2_with (go_at_call 16; refine Stop.out ?_)
    clear ck0 ck1 ck2
    refine ⟨(heldFact_calls _ A1 d1 f.2.length f.1 1 (ints_of hX1.out (markI_inR 1 f.2.length (by omega) (by have := hn.out; omega))) (by omega) (by have := hn.out; omega)).mono ?_⟩
    rintro e w16 ⟨rfl, hb1⟩
    replace hW := Aside0.mk (hW.out.trans hb1)
    replace hX0 := Aside0.mk (hX0.out.on hb1)
    replace hXO := Aside0.mk (pw_own_below hXO.out hb1)
    replace k0 := Aside0.mk (blk_below k0.out hb1)
    replace hX1 := Aside0.mk (pw_own_below hX1.out hb1)
    replace k1 := Aside0.mk (blk_below k1.out hb1)
    replace hX2 := Aside0.mk (pw_own_below hX2.out hb1)
    replace k2 := Aside0.mk (blk_below k2.out hb1)
    clear hb1
    have n2 : ((1 : Int) + (f.2.length : Int) < 0) = False := eq_false (by omega)
    have n3 : decide ((1 : Int) + (f.2.length : Int) < 0) = false := decide_eq_false (by omega)
    go_wp2
    go_ret
    exact ⟨rfl, hW.out⟩
  · have c1 : (1048576 < (strB s).size) = True := eq_true (by omega)
    have c2 : ((1048576 : Int) < ((strB s).size : Int)) = True := eq_true (by omega)
    clear hsz hb ha
    go_enter Tryd.func4, Tryd.ntmps4
    go_wp2
    go_ret
    exact ⟨rfl, On.refl _⟩
end Go.Proofs.YtgemaohdlibboaaDoor.H
