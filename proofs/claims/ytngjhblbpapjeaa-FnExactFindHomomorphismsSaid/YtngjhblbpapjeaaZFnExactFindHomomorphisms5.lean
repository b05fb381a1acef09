/- Walks and plain laws for the law FnExactFindHomomorphisms, part 5 of 6: the texts HM15, HC4, HS6, HM16, HL10, HL11, HL12 in one. No condition. -/
import Derived.Test.YtngjhblbpapjeaaZFnExactFindHomomorphisms4
/- Walks: the program's search. No condition. -/
namespace Go.Proofs.Ytngjhblbpapjeaa.H
open Go Go.RowKit Go.Proofs.YtngjhblbpapjeaaW.PrintWords Go.Proofs.YtngjhblbpapjeaaW.PrintLast
open Go.Proofs.Ytngjhblbpapjeaa.Reg (On on_draw)
set_option maxHeartbeats 4000000
set_option maxRecDepth 100000
set_option pp.deepTerms true
set_option linter.unusedVariables false
set_option linter.unusedSimpArgs false

theorem Fcts.tail {w : World} {A : Option Addr} {c : Nat} {f : Fct} {fs : List Fct} (h : Fcts w A c (f :: fs)) : Fcts w (if c = 1 then A else A.map (·.add (1 * 2))) (c - 1) fs := by
  have hr := Kd.C_drop (m := 1) (c := c) h.2.1 (by simp) h.1
  refine ⟨by have := h.1; simp at this; omega, hr, fun g hg => h.2.2 g (List.mem_cons_of_mem _ hg)⟩
def vals (fs : List Fct) : Nat := (fs.map fun f => f.2.length).sum
theorem vals_cons (f : Fct) (fs : List Fct) : vals (f :: fs) = f.2.length + vals fs := by simp [vals]
theorem search_calls (gs : List Fct) (hg10 : ∀ g ∈ gs, ∀ v ∈ g.2, v ≠ 10) (most : Nat) (hq : most ≤ 1000) : ∀ (fs : List Fct) {w0 w : World} {lo b b2 : Nat} {v : Value} {hs : List SHd} {ss : List Su} (A0 c0 A1 c1) (m n : Nat) (z : List Int) (h0 : Fcts w0 A0 c0 fs) (h1 : Fcts w0 A1 c1 gs) (hK : KS w0 w lo b b2 most v hs ss) (hl : hs.length < most) (hM : BM w m n z) (hz : z.length = 40) (hR : InR z) (hn : n + vals fs < 1000000),
    Calls Try.prog 129 #[.slice A0 fs.length c0, .slice A1 gs.length c1, .map (some m), visitor b b2] w (Got fun r w' => ∃ v' zs, r = .bool (decide (zs.length = most)) ∧ KS w0 w' lo b b2 most v' zs (ss ++ (walk gs fs z (most - hs.length)).map (subI 0)) ∧ Fr b v v' w w')
  | [], w0, w, lo, b, b2, v, hs, ss, A0, c0, A1, c1, m, n, z, h0, h1, hK, hl, hM, hz, hR, hn => by
    refine (searchBase_calls A0 c0 A1 gs.length c1 m n z hK (by omega) hM hz hR (by omega)).mono fun e w' hh => ?_
    obtain ⟨v1, rfl, v', zs, hzl, rfl, hK', hF⟩ := hh
    refine ⟨_, rfl, v', zs, ?_, hK', hF⟩
    congr 1
    by_cases h : zs.length = most
    · simp [h]
    · rw [decide_eq_false h, beq_eq_false_iff_ne]; omega
  | f :: fs, w0, w, lo, b, b2, v, hs, ss, A0, c0, A1, c1, m, n, z, h0, h1, hK, hl, hM, hz, hR, hn => by
    have ih := Aside0.mk (fun {w0 w : World} {lo b b2 : Nat} {v : Value} {hs : List SHd} {ss : List Su} => search_calls gs hg10 most hq fs (w0 := w0) (w := w) (lo := lo) (b := b) (b2 := b2) (v := v) (hs := hs) (ss := ss))
    have hm0 := h0.max
    have hm1 := h1.max
    have hc0 := h0.1
    have hK' := Aside0.mk hK
    have hM' := Aside0.mk hM
    have hz' := Aside0.mk hz
    have hR' := Aside0.mk hR
    have hn' := Aside0.mk (show n + f.2.length + vals fs < 1000000 by rw [vals_cons] at hn; omega)
    have hl' := Aside0.mk hl
    have hg' := Aside0.mk hg10
    have hwk := Aside0.mk (walk_cons gs fs f z (most - hs.length))
    have hwl := Aside0.mk (fun (y : List Int) (k : Nat) (hk : 1 ≤ k) => walk_len gs fs y k hk)
    have hfl : (f :: fs).length = fs.length + 1 := rfl
    have hfb : (((fs.length : Int) + 1) == 0) = false := by rw [beq_eq_false_iff_ne]; omega
    obtain ⟨i0, hi0, _, hszF, _⟩ := info_parts infoF
    have hcut := cut_from (P := Try.prog) 30 55 .i64 Try.underlying30 hi0 2 hszF A0 (f :: fs).length c0 (1 : Int) (by omega) (by rw [hfl]; omega)
    simp only [show (1 : Int).toNat = 1 from rfl, List.length_cons, Nat.add_sub_cancel] at hcut
    have hT0 := h0.tail
    obtain ⟨A', hA'⟩ : ∃ A', (if c0 = 1 then A0 else A0.map (·.add (1 * 2))) = A' := ⟨_, rfl⟩
    rw [hA'] at hT0 hcut
    have hT := Aside0.mk hT0
    have hcut' := Aside0.mk hcut
    clear hA' hT0
    clear hK hM hz hR hn hl hg10 hcut hi0 hszF
    go_enter Try.func129, Try.ntmps129
    go_wp2
    clear hfb
    go_loopw [44] (fun x wr => ∃ (i : Nat) (vk : Value) (hk : List SHd), i ≤ gs.length ∧ x = .int .i64 i ∧ Aside0 (KS w0 wr lo b b2 most vk hk (ss ++ ((gs.take i).foldl (wstep gs fs f z (most - hs.length)) []).map (subI 0))) ∧ Aside0 (hk.length < most) ∧ Aside0 (Fr b v vk w wr)) (fun x _ => gs.length - (intOf x).toNat)
    case atStart => exact ⟨0, v, hs, Nat.zero_le _, rfl, ⟨by simpa using hK'.out⟩, hl', ⟨Fr.of_on (On.refl _)⟩⟩
    case round =>
      obtain ⟨i, vk, hk, hi, rfl, hKr, hlk, hF⟩ := hrel
      have hMr := Aside0.mk (hM'.out.fr hF.out hK'.out.own hK'.out.box)
      by_cases hlt : i < gs.length
      · have hsucc := Aside0.mk (wfold_succ gs fs f z (most - hs.length) i hlt)
        have hlen := Aside0.mk (show hk.length = hs.length + ((gs.take i).foldl (wstep gs fs f z (most - hs.length)) []).length by
          have h1 := hKr.out.sep.len
          have h2 := hK'.out.sep.len
          rw [List.length_append, List.length_map] at h1
          omega)
        obtain ⟨ad, A5, c5, rfl, hx0, hx1, hx2⟩ := (h0.on hKr.out.on).at 0 (by simp)
        obtain ⟨bd, A6, c6, rfl, hy0, hy1, hy2⟩ := (h1.on hKr.out.on).at i hlt
        have hx2' := Aside0.mk (show Ints wr A5 c5 f.2 from hx2)
        have hy2' := Aside0.mk hy2
        replace hx0 : wr.cell? ad = some (.int .i64 f.1) := hx0
        replace hx1 : wr.cell? ⟨ad.block, ad.off + 1, none⟩ = some (.slice A5 f.2.length c5) := hx1
        clear hx2 hy2
        obtain ⟨g, hg⟩ : ∃ g, gs[i] = g := ⟨_, rfl⟩
        have hgm := Aside0.mk (show ∀ v ∈ g.2, v ≠ 10 from by rw [← hg]; exact hg'.out _ (List.getElem_mem hlt))
        rw [hg] at hy0 hy1 hy2' hsucc
        clear hg
        have hbx := Aside0.mk (On.alloc (On.refl wr) (.cells #[.int .i64 g.1, .slice A6 g.2.length c6] 55))
        have hcn := blk_cell (loc_new wr #[.int .i64 g.1, .slice A6 g.2.length c6] 55)
        have hfill := alloc_fill wr
        have hx0' := (hbx.out.eq _ (by rw [hx0]; rfl)).trans hx0
        have hx1' := (hbx.out.eq _ (by rw [hx1]; rfl)).trans hx1
        cases hf : fit f g z with
        | none =>
          have hf' := Aside0.mk hf
          clear hf
          go_wp2
          clear hfill
          refine Reg.region [(0,.L),(1,.L),(2,.L),(3,.L),(4,.L),(5,.N),(6,.L),(7,.L),(8,.P)] [9,10] (by kernel_rfl) (by kernel_rfl) ?_
          repeat first | refine sP ?_ | refine sS ?_ | refine sA ?_ | refine sL ?_ | refine sQ ?_ | refine sO ?_
          refine callN Try.func153 (fun w2 hS2 => ?_)
          have hB2 := Aside0.mk (hbx.out.trans hS2)
          refine (mapped_calls w2 m n A5 c5 A6 c6 f g z (hx2'.out.on hB2.out) (hy2'.out.on hB2.out) (hMr.out.on hB2.out) hR'.out hz'.out hgm.out (by have := hn'.out; omega)).mono ?_
          rintro e w3 ⟨v3, rfl, mv, rfl, hfit, hb3⟩
          rw [hf'.out]
          clear hfit
          refine ⟨_, rfl, hb3, fun a' ha => ?_⟩
          simp only [Act.put, List.setIfInBounds_toArray, List.set_cons_zero, List.set_cons_succ] at ha
          subst ha
          repeat first | refine sP ?_ | refine sS ?_ | refine sA ?_ | refine sL ?_ | refine sQ ?_ | refine sO ?_
          refine Reg.tail_ fun w4 hS4 => ?_
          have hB4 := Aside0.mk (hB2.out.trans (hb3.trans hS4))
          clear hx0 hx1 hy0 hy1 hx0' hx1' hcn
          go_wp2
          refine ⟨⟨i + 1, vk, hk, by omega, by go_num, ⟨?_⟩, hlk, ⟨hF.out.trans (Fr.of_on hB4.out)⟩⟩, by simp [intOf]; omega⟩
          rw [hsucc.out]
          rw [wstep_none (by have := hlen.out; have := hlk.out; omega) hf'.out]
          exact hKr.out.move hB4.out
        | some y =>
          have hf' := Aside0.mk hf
          clear hf
          have hst := Aside0.mk (wstep_some (tos := gs) (fs := fs) (most := most - hs.length) (out := (gs.take i).foldl (wstep gs fs f z (most - hs.length)) []) (by have := hlen.out; have := hlk.out; omega) hf'.out)
          have hbud := Aside0.mk (show most - hs.length - ((gs.take i).foldl (wstep gs fs f z (most - hs.length)) []).length = most - hk.length by have := hlen.out; omega)
          rw [hbud.out] at hst
          obtain ⟨wk, hwkk⟩ : ∃ wk, walk gs fs y (most - hk.length) = wk := ⟨_, rfl⟩
          have hwkl := Aside0.mk (show wk.length ≤ most - hk.length by rw [← hwkk]; exact hwl.out y _ (by have := hlk.out; omega))
          have hwkk' := Aside0.mk hwkk
          rw [hwkk] at hst
          clear hwkk
          by_cases hfull : hk.length + wk.length = most
          · have hfull' := Aside0.mk hfull
            clear hfull
            go_wp2
            clear hfill
            refine Reg.region [(0,.L),(1,.L),(2,.L),(3,.L),(4,.L),(5,.N),(6,.L),(7,.L),(8,.P)] [9,10] (by kernel_rfl) (by kernel_rfl) ?_
            repeat first | refine sP ?_ | refine sS ?_ | refine sA ?_ | refine sL ?_ | refine sQ ?_ | refine sO ?_
            refine callN Try.func153 (fun w2 hS2 => ?_)
            have hB2 := Aside0.mk (hbx.out.trans hS2)
            refine (mapped_calls w2 m n A5 c5 A6 c6 f g z (hx2'.out.on hB2.out) (hy2'.out.on hB2.out) (hMr.out.on hB2.out) hR'.out hz'.out hgm.out (by have := hn'.out; omega)).mono ?_
            rintro e w3 ⟨v3, rfl, mv, rfl, hfit, hb3⟩
            obtain ⟨b', rfl, hM3, hge, hRy, hly⟩ := hfit y hf'.out
            have hM3' := Aside0.mk hM3
            have hRy' := Aside0.mk hRy
            have hly' := Aside0.mk hly
            rw [hf'.out]
            clear hfit hM3 hRy hly hge
            refine ⟨_, rfl, hb3, fun a' ha => ?_⟩
            simp only [Act.put, List.setIfInBounds_toArray, List.set_cons_zero, List.set_cons_succ] at ha
            subst ha
            repeat first | refine sP ?_ | refine sS ?_ | refine sA ?_ | refine sL ?_ | refine sQ ?_ | refine sO ?_
            refine Reg.tail_ fun w4 hS4 => ?_
            have hB4 := Aside0.mk (hB2.out.trans (hb3.trans hS4))
            have hM4 := Aside0.mk (hM3'.out.on hS4)
            have hK4 := Aside0.mk (hKr.out.move hB4.out)
            clear hx0 hx1 hy0 hy1 hx0' hx1' hcn
            have hcut := hcut'.out
            have hend := Aside0.mk (wfold_stop gs fs f z (most - hs.length) (i + 1) (by rw [hsucc.out, hst.out, List.length_append]; have := hlen.out; have := hfull'.out; omega))
            go_wp2_with (go_at_call 129; refine Stop.out ?_)
            refine ⟨(ih.out A' (c0 - 1) (some bd) c1 b' (n + f.2.length) y hT.out h1 hK4.out hlk.out hM4.out hly'.out hRy'.out (by have := hn'.out; omega)).mono ?_⟩
            rintro e w5 ⟨r5, rfl, v5, h5, rfl, hK5, hF5⟩
            have hl5 := Aside0.mk (show h5.length = hk.length + wk.length by { have h1 := hK5.sep.len; have h2 := hKr.out.sep.len; rw [List.length_append, List.length_map, hwkk'.out] at h1; omega })
            rw [show decide (h5.length = most) = true from decide_eq_true (by have := hl5.out; have := hfull'.out; omega)]
            go_wp2
            go_ret
            refine ⟨_, rfl, v5, h5, congrArg Value.bool (decide_eq_true (show h5.length = most by have := hl5.out; have := hfull'.out; omega)).symm, ?_, hF.out.trans ((Fr.of_on hB4.out).trans hF5)⟩
            rw [hwk.out, hend.out, hsucc.out, hst.out, List.map_append, ← List.append_assoc, ← hwkk'.out]
            exact hK5
          · have hfull' := Aside0.mk hfull
            clear hfull
            go_wp2
            clear hfill
            refine Reg.region [(0,.L),(1,.L),(2,.L),(3,.L),(4,.L),(5,.N),(6,.L),(7,.L),(8,.P)] [9,10] (by kernel_rfl) (by kernel_rfl) ?_
            repeat first | refine sP ?_ | refine sS ?_ | refine sA ?_ | refine sL ?_ | refine sQ ?_ | refine sO ?_
            refine callN Try.func153 (fun w2 hS2 => ?_)
            have hB2 := Aside0.mk (hbx.out.trans hS2)
            refine (mapped_calls w2 m n A5 c5 A6 c6 f g z (hx2'.out.on hB2.out) (hy2'.out.on hB2.out) (hMr.out.on hB2.out) hR'.out hz'.out hgm.out (by have := hn'.out; omega)).mono ?_
            rintro e w3 ⟨v3, rfl, mv, rfl, hfit, hb3⟩
            obtain ⟨b', rfl, hM3, hge, hRy, hly⟩ := hfit y hf'.out
            have hM3' := Aside0.mk hM3
            have hRy' := Aside0.mk hRy
            have hly' := Aside0.mk hly
            rw [hf'.out]
            clear hfit hM3 hRy hly hge
            refine ⟨_, rfl, hb3, fun a' ha => ?_⟩
            simp only [Act.put, List.setIfInBounds_toArray, List.set_cons_zero, List.set_cons_succ] at ha
            subst ha
            repeat first | refine sP ?_ | refine sS ?_ | refine sA ?_ | refine sL ?_ | refine sQ ?_ | refine sO ?_
            refine Reg.tail_ fun w4 hS4 => ?_
            have hB4 := Aside0.mk (hB2.out.trans (hb3.trans hS4))
            have hM4 := Aside0.mk (hM3'.out.on hS4)
            have hK4 := Aside0.mk (hKr.out.move hB4.out)
            clear hx0 hx1 hy0 hy1 hx0' hx1' hcn
            have hcut := hcut'.out
            go_wp2_with (go_at_call 129; refine Stop.out ?_)
            refine ⟨(ih.out A' (c0 - 1) (some bd) c1 b' (n + f.2.length) y hT.out h1 hK4.out hlk.out hM4.out hly'.out hRy'.out (by have := hn'.out; omega)).mono ?_⟩
            rintro e w5 ⟨r5, rfl, v5, h5, rfl, hK5, hF5⟩
            have hl5 := Aside0.mk (show h5.length = hk.length + wk.length by { have h1 := hK5.sep.len; have h2 := hKr.out.sep.len; rw [List.length_append, List.length_map, hwkk'.out] at h1; omega })
            rw [show decide (h5.length = most) = false from decide_eq_false (by have := hl5.out; have := hfull'.out; omega)]
            go_wp2
            refine ⟨⟨i + 1, v5, h5, by omega, by go_num, ⟨?_⟩, ⟨by have := hl5.out; have := hfull'.out; have := hwkl.out; have := hlk.out; omega⟩, ⟨hF.out.trans ((Fr.of_on hB4.out).trans hF5)⟩⟩, by simp [intOf]; omega⟩
            rw [hsucc.out, hst.out, List.map_append, ← List.append_assoc, ← hwkk'.out]
            exact hK5
      · have e1 : gs.take i = gs := List.take_of_length_le (by omega)
        rw [e1] at hKr
        go_wp2
        go_ret
        refine ⟨_, rfl, vk, hk, congrArg Value.bool (decide_eq_false (show ¬ hk.length = most by have := hlk.out; omega)).symm, ?_, hF.out⟩
        rw [hwk.out]
        exact hKr.out
end Go.Proofs.Ytngjhblbpapjeaa.H
/- Walk: the program's own valid instances. No condition. -/
namespace Go.Proofs.Ytngjhblbpapjeaa.H
open Go Go.RowKit Go.Proofs.YtngjhblbpapjeaaW.PrintWords Go.Proofs.YtngjhblbpapjeaaW.PrintLast
open Go.Proofs.Ytngjhblbpapjeaa.Reg (On on_draw)
set_option maxHeartbeats 8000000
set_option maxRecDepth 100000
set_option linter.unusedVariables false
set_option linter.unusedSimpArgs false

theorem iIsValidInstance_calls (w : World) (A0 c0 A1 c1) (rs : List Rel) (fs : List Fct) (h0 : Rels w A0 c0 rs) (h1 : Fcts w A1 c1 fs) :
    Calls Try.prog 66 #[.agg #[.slice A0 rs.length c0, .slice A1 fs.length c1]] w fun e w' => e = .returned (.bool (okInst rs fs)) ∧ On w w' := by
  have hm0 := h0.max
  have hm1 := h1.max
  have hbI := Aside0.mk (On.alloc (On.refl w) (.cells #[.slice A0 rs.length c0, .slice A1 fs.length c1] 32))
  have hLI := Aside0.mk (loc1 w #[.slice A0 rs.length c0, .slice A1 fs.length c1] 32)
  cases hr : okRels rs with
  | false =>
    have hr' := Aside0.mk hr
    clear hr
    go_enter Try.func66, Try.ntmps66
    go_wp2_with (go_at_call 107; refine (iAreValidRelations_calls _ A0 c0 rs (h0.on hbI.out)).mono ?_; rintro e w3 ⟨rfl, hb3⟩; rw [hr'.out]; have hc3 := blk_cell (Loc.on hb3 hLI.out).1)
    go_ret
    exact ⟨ret_bool (by simp [okInst, hr'.out]), hbI.out.trans hb3⟩
  | true =>
    have hr' := Aside0.mk hr
    clear hr
    by_cases h30 : (fs.length : Int) ≤ 30
    · have h30b : decide ((fs.length : Int) ≤ 30) = true := decide_eq_true h30
      have h30c : decide (fs.length ≤ 30) = true := decide_eq_true (by omega)
      have h30d : decide (30 < fs.length) = false := decide_eq_false (by omega)
      have h30e : decide (30 < (fs.length : Int)) = false := decide_eq_false (by omega)
      go_enter Try.func66, Try.ntmps66
      go_wp2_with (go_at_call 107; refine (iAreValidRelations_calls _ A0 c0 rs (h0.on hbI.out)).mono ?_; rintro e w3 ⟨rfl, hb3⟩; rw [hr'.out]; have hL3 := Aside0.mk (Loc.on hb3 hLI.out); have hc3 := blk_cell hL3.out.1; have hb3' := Aside0.mk hb3; clear hb3)
      clear hc3
      go_loopw [18] (fun v wr => ∃ k : Nat, k ≤ fs.length ∧ v = .int .i64 k ∧ Hid (factsFrom rs (prevFct fs k) (fs.drop k) = factsFrom rs none fs) ∧ On w wr ∧ Loc wr [(w.heap.size, #[.slice A0 rs.length c0, .slice A1 fs.length c1], 32)]) (fun v _ => fs.length - (intOf v).toNat)
      case atStart => exact ⟨0, Nat.zero_le _, rfl, rfl, hbI.out.trans hb3'.out, hL3.out⟩
      case round =>
        obtain ⟨k, hk, rfl, hp, hB, hL⟩ := hrel
        clear hb3' hL3
        have hc0 := blk_cell hL.1
        have hL' := Aside0.mk hL
        clear hL
        by_cases hlt : k < fs.length
        · obtain ⟨ad, A3, c3, rfl, hx0, hx1, hx2'⟩ := (h1.on hB).at k hlt
          have hfill := alloc_fill wr
          have hst := Aside0.mk ((factsFrom_step rs fs k hlt).symm.trans hp.out)
          have hbx := Aside0.mk (On.alloc (On.refl wr) (.cells #[.int .i64 fs[k].1, .slice A3 fs[k].2.length c3] 55))
          have hB2 := Aside0.mk (hB.trans hbx.out)
          have hcn := blk_cell (loc_new wr #[.int .i64 fs[k].1, .slice A3 fs[k].2.length c3] 55)
          have hcm := blk_cell (Loc.on hbx.out hL'.out).1
          clear hp
          cases hok0 : okFact rs fs[k] with
          | false =>
            have hok := Aside0.mk hok0
            clear hok0
            go_wp2
            refine Reg.region [(0,.L),(1,.L),(2,.L),(3,.C),(4,.L),(5,.L),(6,.L),(7,.L),(8,.L),(9,.L),(10,.L),(11,.L),(12,.L),(13,.L),(14,.L),(15,.L),(16,.C),(17,.L),(18,.L),(19,.L)] [] (by kernel_rfl) (by kernel_rfl) ?_
            repeat first | refine sP ?_ | refine sS ?_ | refine sA ?_ | refine sL ?_ | refine sQ ?_ | refine sO ?_
            refine callC (.bool false) Try.func108 (fun w' hS => ?_) ?_
            focus exact (iIsValidFact_calls w' _ c0 rs _ c3 fs[k] (h0.on (hB2.out.trans hS)) (hx2'.on (hbx.out.trans hS))).mono fun e w'' h => ⟨by rw [h.1, hok.out], h.2⟩
            repeat first | refine sP ?_ | refine sS ?_ | refine sA ?_ | refine sL ?_ | refine sQ ?_ | refine sO ?_
            refine Reg.nil fun w2 hS => ?_
            go_wp2
            go_ret
            exact ⟨ret_bool (by have := hst.out; unfold okNext at this; rw [hok.out] at this; simp at this; simp [okInst, this]), hB2.out.trans hS⟩
          | true =>
            have hok := Aside0.mk hok0
            have hat := okFact_at hok0
            clear hok0
            have hat1 : fs[k].1.toNat < rs.length := by omega
            have hat2 : 0 ≤ fs[k].1 := hat.1
            have hat3 : fs[k].1 < rs.length := hat.2
            obtain ⟨ad0, rfl, _, _, _⟩ := (h0.on hB2.out).at fs[k].1.toNat hat1
            clear hat
            by_cases hk0 : 0 < k
            · have hk0' : decide (0 < (k : Int)) = true := decide_eq_true (by omega)
              have hki : IntKind.i64.wrap ((k : Int) - 1) = ((k - 1 : Nat) : Int) := by rw [IntWalk.i64_in _ (by omega)]; omega
              have hk1 : k - 1 < fs.length := by omega
              obtain ⟨ad', A4, c4, e', hy0, hy1, hy2⟩ := (h1.on hB2.out).at (k - 1) hk1
              obtain rfl : ad = ad' := by simpa using e'
              have hpn : prevFct fs k = some fs[k - 1] := by simp [prevFct, show ¬ k = 0 by omega, show k - 1 < fs.length by omega]
              by_cases hc : cmpF fs[k - 1] fs[k] < 0
              · have hcb : decide (0 ≤ cmpF fs[k - 1] fs[k]) = false := decide_eq_false (by omega)
                have hpv := Aside0.mk (show okPrev (prevFct fs k) fs[k] = true by rw [hpn]; exact decide_eq_true hc)
                clear hc hpn
                go_wp2
                refine Reg.region [(0,.L),(1,.L),(2,.L),(3,.C),(4,.L),(5,.L),(6,.L),(7,.L),(8,.L),(9,.L),(10,.L),(11,.L),(12,.L),(13,.L),(14,.L),(15,.L),(16,.C),(17,.L),(18,.L),(19,.L)] [] (by kernel_rfl) (by kernel_rfl) ?_
                repeat first | refine sP ?_ | refine sS ?_ | refine sA ?_ | refine sL ?_ | refine sQ ?_ | refine sO ?_
                refine callC (.bool true) Try.func108 (fun w' hS => ?_) ?_
                focus exact (iIsValidFact_calls w' _ c0 rs _ c3 fs[k] (h0.on (hB2.out.trans hS)) (hx2'.on (hbx.out.trans hS))).mono fun e w'' h => ⟨by rw [h.1, hok.out], h.2⟩
                repeat first | refine sP ?_ | refine sS ?_ | refine sA ?_ | refine sL ?_ | refine sQ ?_ | refine sO ?_
                refine callC (.int .i64 (cmpF fs[k - 1] fs[k])) Try.func109 (fun w' hS => ?_) ?_
                focus exact iCompareFacts_calls w' A4 c4 A3 c3 fs[k - 1] fs[k] (hy2.on hS) (hx2'.on (hbx.out.trans hS))
                repeat first | refine sP ?_ | refine sS ?_ | refine sA ?_ | refine sL ?_ | refine sQ ?_ | refine sO ?_
                clear hy0 hy1 hy2 hki hcb
                refine Reg.nil fun w2 hS => ?_
                clear hcn hcm hfill
                have hc5 := blk_cell (Loc.on (hbx.out.trans hS) hL'.out).1
                have hc6 := blk_cell (blk_below (loc_new wr #[.int .i64 fs[k].1, .slice A3 fs[k].2.length c3] 55) hS)
                obtain ⟨ad1, e9, _, _, hxs1⟩ := (h0.on (hB2.out.trans hS)).at fs[k].1.toNat hat1
                obtain rfl : ad0 = ad1 := by simpa using e9
                have hsr : rs[fs[k].1.toNat].2.2 = srcOf rs fs[k].1 := by simp [srcOf, hat1]
                rw [hsr] at hxs1
                clear hsr e9
                have hB3 := Aside0.mk (hB2.out.trans hS)
                have hL3 := Aside0.mk (Loc.on (hbx.out.trans hS) hL'.out)
                have hx3 := Aside0.mk (hx2'.on (hbx.out.trans hS))
                clear hS
                cases hs : srcOf rs fs[k].1 with
                | false =>
                  rw [hs] at hxs1
                  have hs' := Aside0.mk hs
                  clear hs
                  go_wp2
                  go_roundw
                  case rel => exact ⟨k + 1, by omega, by go_num, (by have := hst.out; unfold okNext at this; rw [hok.out, hpv.out, hs'.out] at this; simpa using this : _ = _), hB3.out, hL3.out⟩
                  case measure => simp [intOf]; omega
                | true =>
                  rw [hs] at hxs1
                  have hs' := Aside0.mk hs
                  clear hs
                  have hnn := Aside0.mk (nuls_ok fs[k].2)
                  by_cases hz : (nuls fs[k].2).length = 0
                  · have hzb : decide (0 < ((nuls fs[k].2).length : Int)) = false := decide_eq_false (by omega)
                    have hzc : decide (0 < (nuls fs[k].2).length) = false := decide_eq_false (by omega)
                    have hz' := Aside0.mk hz
                    clear hz
                    go_wp2_with (go_at_call 110; refine (iNullsOfFact_calls _ A3 c3 fs[k].1 fs[k].2 hx3.out (Nat.le_trans (okFact_len hok.out) (by omega))).mono ?_; rintro e w4 ⟨v4, rfl, hO4, hb4⟩; obtain ⟨A5, c5, rfl⟩ := own_slice hO4; clear hO4)
                    exact ⟨⟨k + 1, by omega, by go_num, (by have := hst.out; unfold okNext at this; rw [hok.out, hpv.out, hs'.out, hz'.out] at this; simpa using this : _ = _), hB3.out.trans hb4, Loc.on hb4 hL3.out⟩, by simp [intOf]; omega⟩
                  · have hzb : decide (0 < ((nuls fs[k].2).length : Int)) = true := decide_eq_true (by omega)
                    have hzc : decide (0 < (nuls fs[k].2).length) = true := decide_eq_true (by omega)
                    have hz' := Aside0.mk (decide_eq_false hz)
                    clear hz
                    go_wp2_with (go_at_call 110; refine (iNullsOfFact_calls _ A3 c3 fs[k].1 fs[k].2 hx3.out (Nat.le_trans (okFact_len hok.out) (by omega))).mono ?_; rintro e w4 ⟨v4, rfl, hO4, hb4⟩; obtain ⟨A5, c5, rfl⟩ := own_slice hO4; clear hO4)
                    go_ret
                    exact ⟨ret_bool (by have := hst.out; unfold okNext at this; rw [hok.out, hpv.out, hs'.out, hz'.out] at this; simp at this; simp [okInst, this]), hB3.out.trans hb4⟩
              · have hcb : decide (0 ≤ cmpF fs[k - 1] fs[k]) = true := decide_eq_true (by omega)
                have hpv := Aside0.mk (show okPrev (prevFct fs k) fs[k] = false by rw [hpn]; exact decide_eq_false hc)
                clear hc hpn
                go_wp2
                refine Reg.region [(0,.L),(1,.L),(2,.L),(3,.C),(4,.L),(5,.L),(6,.L),(7,.L),(8,.L),(9,.L),(10,.L),(11,.L),(12,.L),(13,.L),(14,.L),(15,.L),(16,.C),(17,.L),(18,.L),(19,.L)] [] (by kernel_rfl) (by kernel_rfl) ?_
                repeat first | refine sP ?_ | refine sS ?_ | refine sA ?_ | refine sL ?_ | refine sQ ?_ | refine sO ?_
                refine callC (.bool true) Try.func108 (fun w' hS => ?_) ?_
                focus exact (iIsValidFact_calls w' _ c0 rs _ c3 fs[k] (h0.on (hB2.out.trans hS)) (hx2'.on (hbx.out.trans hS))).mono fun e w'' h => ⟨by rw [h.1, hok.out], h.2⟩
                repeat first | refine sP ?_ | refine sS ?_ | refine sA ?_ | refine sL ?_ | refine sQ ?_ | refine sO ?_
                refine callC (.int .i64 (cmpF fs[k - 1] fs[k])) Try.func109 (fun w' hS => ?_) ?_
                focus exact iCompareFacts_calls w' A4 c4 A3 c3 fs[k - 1] fs[k] (hy2.on hS) (hx2'.on (hbx.out.trans hS))
                repeat first | refine sP ?_ | refine sS ?_ | refine sA ?_ | refine sL ?_ | refine sQ ?_ | refine sO ?_
                refine Reg.nil fun w2 hS => ?_
                go_wp2
                go_ret
                exact ⟨ret_bool (by have := hst.out; unfold okNext at this; rw [hok.out, hpv.out] at this; simp at this; simp [okInst, this]), hB2.out.trans hS⟩
            · have hk0' : decide (0 < (k : Int)) = false := decide_eq_false (by omega)
              have hpv := Aside0.mk (show okPrev (prevFct fs k) fs[k] = true by simp [okPrev, prevFct, show k = 0 by omega])
              go_wp2
              refine Reg.region [(0,.L),(1,.L),(2,.L),(3,.C),(4,.L),(5,.L),(6,.L),(7,.L),(8,.L),(9,.L),(10,.L),(11,.L),(12,.L),(13,.L),(14,.L),(15,.L),(16,.C),(17,.L),(18,.L),(19,.L)] [] (by kernel_rfl) (by kernel_rfl) ?_
              repeat first | refine sP ?_ | refine sS ?_ | refine sA ?_ | refine sL ?_ | refine sQ ?_ | refine sO ?_
              refine callC (.bool true) Try.func108 (fun w' hS => ?_) ?_
              focus exact (iIsValidFact_calls w' _ c0 rs _ c3 fs[k] (h0.on (hB2.out.trans hS)) (hx2'.on (hbx.out.trans hS))).mono fun e w'' h => ⟨by rw [h.1, hok.out], h.2⟩
              repeat first | refine sP ?_ | refine sS ?_ | refine sA ?_ | refine sL ?_ | refine sQ ?_ | refine sO ?_
              refine Reg.nil fun w2 hS => ?_
              clear hcn hcm hfill
              have hc5 := blk_cell (Loc.on (hbx.out.trans hS) hL'.out).1
              have hc6 := blk_cell (blk_below (loc_new wr #[.int .i64 fs[k].1, .slice A3 fs[k].2.length c3] 55) hS)
              obtain ⟨ad1, e9, _, _, hxs1⟩ := (h0.on (hB2.out.trans hS)).at fs[k].1.toNat hat1
              obtain rfl : ad0 = ad1 := by simpa using e9
              have hsr : rs[fs[k].1.toNat].2.2 = srcOf rs fs[k].1 := by simp [srcOf, hat1]
              rw [hsr] at hxs1
              clear hsr e9
              have hB3 := Aside0.mk (hB2.out.trans hS)
              have hL3 := Aside0.mk (Loc.on (hbx.out.trans hS) hL'.out)
              have hx3 := Aside0.mk (hx2'.on (hbx.out.trans hS))
              clear hS
              cases hs : srcOf rs fs[k].1 with
              | false =>
                rw [hs] at hxs1
                have hs' := Aside0.mk hs
                clear hs
                go_wp2
                go_roundw
                case rel => exact ⟨k + 1, by omega, by go_num, (by have := hst.out; unfold okNext at this; rw [hok.out, hpv.out, hs'.out] at this; simpa using this : _ = _), hB3.out, hL3.out⟩
                case measure => simp [intOf]; omega
              | true =>
                rw [hs] at hxs1
                have hs' := Aside0.mk hs
                clear hs
                have hnn := Aside0.mk (nuls_ok fs[k].2)
                by_cases hz : (nuls fs[k].2).length = 0
                · have hzb : decide (0 < ((nuls fs[k].2).length : Int)) = false := decide_eq_false (by omega)
                  have hzc : decide (0 < (nuls fs[k].2).length) = false := decide_eq_false (by omega)
                  have hz' := Aside0.mk hz
                  clear hz
                  go_wp2_with (go_at_call 110; refine (iNullsOfFact_calls _ A3 c3 fs[k].1 fs[k].2 hx3.out (Nat.le_trans (okFact_len hok.out) (by omega))).mono ?_; rintro e w4 ⟨v4, rfl, hO4, hb4⟩; obtain ⟨A5, c5, rfl⟩ := own_slice hO4; clear hO4)
                  exact ⟨⟨k + 1, by omega, by go_num, (by have := hst.out; unfold okNext at this; rw [hok.out, hpv.out, hs'.out, hz'.out] at this; simpa using this : _ = _), hB3.out.trans hb4, Loc.on hb4 hL3.out⟩, by simp [intOf]; omega⟩
                · have hzb : decide (0 < ((nuls fs[k].2).length : Int)) = true := decide_eq_true (by omega)
                  have hzc : decide (0 < (nuls fs[k].2).length) = true := decide_eq_true (by omega)
                  have hz' := Aside0.mk (decide_eq_false hz)
                  clear hz
                  go_wp2_with (go_at_call 110; refine (iNullsOfFact_calls _ A3 c3 fs[k].1 fs[k].2 hx3.out (Nat.le_trans (okFact_len hok.out) (by omega))).mono ?_; rintro e w4 ⟨v4, rfl, hO4, hb4⟩; obtain ⟨A5, c5, rfl⟩ := own_slice hO4; clear hO4)
                  go_ret
                  exact ⟨ret_bool (by have := hst.out; unfold okNext at this; rw [hok.out, hpv.out, hs'.out, hz'.out] at this; simp at this; simp [okInst, this]), hB3.out.trans hb4⟩
        · have hfl : factsFrom rs none fs = true := by rw [← hp.out, List.drop_of_length_le (by omega)]; cases prevFct fs k <;> rfl
          have hfl' := Aside0.mk hfl
          clear hp hfl
          go_wp2
          go_ret
          exact ⟨ret_bool (by simp [okInst, hfl'.out, hr'.out]; omega), hB⟩
    · have h30b : decide ((fs.length : Int) ≤ 30) = false := decide_eq_false h30
      have h30c : decide (fs.length ≤ 30) = false := decide_eq_false (by omega)
      have h30d : decide (30 < fs.length) = true := decide_eq_true (by omega)
      have h30e : decide (30 < (fs.length : Int)) = true := decide_eq_true (by omega)
      go_enter Try.func66, Try.ntmps66
      go_wp2_with (go_at_call 107; refine (iAreValidRelations_calls _ A0 c0 rs (h0.on hbI.out)).mono ?_; rintro e w3 ⟨rfl, hb3⟩; rw [hr'.out]; have hc3 := blk_cell (Loc.on hb3 hLI.out).1)
      go_ret
      exact ⟨ret_bool (by simp [okInst]; intros; omega), hbI.out.trans hb3⟩
end Go.Proofs.Ytngjhblbpapjeaa.H
/- Walks: homomorphisms told, by both sides. No condition. -/
namespace Go.Proofs.Ytngjhblbpapjeaa.H
open Go Go.RowKit Go.Proofs.YtngjhblbpapjeaaW.PrintWords Go.Proofs.YtngjhblbpapjeaaW.PrintLast
open Go.Proofs.Ytngjhblbpapjeaa.Reg (On on_draw)
set_option maxHeartbeats 4000000
set_option maxRecDepth 100000
set_option linter.unusedVariables false
set_option linter.unusedSimpArgs false

theorem equalI_calls (w : World) (A c B d) (rs qs : List Int) (h0 : Ints w A c rs) (h1 : Ints w B d qs) : Calls Try.prog 81 #[.slice A rs.length c, .slice B qs.length d] w fun e w' => e = .returned (.bool (decide (rs = qs))) ∧ On w w' := by
  have hm0 := h0.max
  have hm1 := h1.max
  by_cases hl : rs.length = qs.length
  · have hlb : ((rs.length : Int) == (qs.length : Int)) = true := by simp [hl]
    have hlc : ((rs.length : Int) != (qs.length : Int)) = false := by simp [bne, hlb]
    have hld : (rs.length == qs.length) = true := by simp [hl]
    have hl' := Aside0.mk hl
    clear hl
    go_enter Try.func81, Try.ntmps81
    go_wp2
    clear hlb hlc hld
    go_loopw [13] (fun v wr => ∃ k : Nat, k ≤ rs.length ∧ v = .int .i64 k ∧ Aside0 (rs.take k = qs.take k) ∧ On w wr) (fun v _ => rs.length - (intOf v).toNat)
    case atStart => exact ⟨0, Nat.zero_le _, rfl, ⟨rfl⟩, On.refl _⟩
    case round =>
      obtain ⟨k, hk, rfl, hp, hB⟩ := hrel
      by_cases hlt : k < rs.length
      · have hlt2 : k < qs.length := by have := hl'.out; omega
        obtain ⟨ad, rfl, hx0⟩ := (h0.on hB).at k hlt
        obtain ⟨bd, rfl, hy0⟩ := (h1.on hB).at k hlt2
        cases hq : (rs[k] == qs[k]) with
        | true =>
          have hq' := Aside0.mk (eq_of_beq hq : rs[k] = qs[k])
          have hq2 : (rs[k] != qs[k]) = false := by simp [bne, hq]
          go_wp2
          refine Reg.region [(0,.L),(1,.L),(2,.L),(3,.L),(4,.L),(5,.L),(6,.L),(7,.L),(8,.L)] [] (by kernel_rfl) (by kernel_rfl) ?_
          repeat first | refine sP ?_ | refine sS ?_ | refine sA ?_ | refine sL ?_ | refine sQ ?_ | refine sO ?_
          refine Reg.nil fun w2 hS => ?_
          clear hq hq2
          go_wp2
          exact ⟨⟨k + 1, by omega, by go_num, ⟨by rw [List.take_succ_eq_append_getElem hlt, List.take_succ_eq_append_getElem hlt2, hp.out, hq'.out]⟩, hB.trans hS⟩, by simp [intOf]; omega⟩
        | false =>
          have hq' := Aside0.mk (by simpa using hq : ¬ rs[k] = qs[k])
          have hq2 : (rs[k] != qs[k]) = true := by simp [bne, hq]
          go_wp2
          refine Reg.region [(0,.L),(1,.L),(2,.L),(3,.L),(4,.L),(5,.L),(6,.L),(7,.L),(8,.L)] [] (by kernel_rfl) (by kernel_rfl) ?_
          repeat first | refine sP ?_ | refine sS ?_ | refine sA ?_ | refine sL ?_ | refine sQ ?_ | refine sO ?_
          refine Reg.nil fun w2 hS => ?_
          clear hq hq2
          go_wp2
          go_ret
          exact ⟨ret_bool (by symm; exact decide_eq_false fun e => hq'.out (by subst e; rfl)), hB.trans hS⟩
      · have e1 : rs.take k = rs := List.take_of_length_le (by omega)
        have e2 : qs.take k = qs := List.take_of_length_le (by have := hl'.out; omega)
        rw [e1, e2] at hp
        go_wp2
        go_ret
        exact ⟨ret_bool (by symm; exact decide_eq_true hp.out), hB⟩
  · have hlb : ((rs.length : Int) == (qs.length : Int)) = false := by rw [beq_eq_false_iff_ne]; omega
    have hlc : ((rs.length : Int) != (qs.length : Int)) = true := by simp [bne, hlb]
    have hld : (rs.length == qs.length) = false := by simpa using hl
    have hl' := Aside0.mk hl
    clear hl
    go_enter Try.func81, Try.ntmps81
    go_wp2
    go_ret
    exact ⟨ret_bool (by symm; exact decide_eq_false fun e => hl'.out (congrArg _ e)), On.refl _⟩
attribute [local go_sem high] eqRel
theorem equalR_calls (w : World) (A c B d) (rs qs : List Rel) (h0 : Rels w A c rs) (h1 : Rels w B d qs) : Calls Try.prog 117 #[.slice A rs.length c, .slice B qs.length d] w fun e w' => e = .returned (.bool (decide (rs = qs))) ∧ On w w' := by
  have hm0 := h0.max
  have hm1 := h1.max
  by_cases hl : rs.length = qs.length
  · have hlb : ((rs.length : Int) == (qs.length : Int)) = true := by simp [hl]
    have hlc : ((rs.length : Int) != (qs.length : Int)) = false := by simp [bne, hlb]
    have hld : (rs.length == qs.length) = true := by simp [hl]
    have hl' := Aside0.mk hl
    clear hl
    go_enter Try.func117, Try.ntmps117
    go_wp2
    clear hlb hlc hld
    go_loopw [13] (fun v wr => ∃ k : Nat, k ≤ rs.length ∧ v = .int .i64 k ∧ Aside0 (rs.take k = qs.take k) ∧ On w wr) (fun v _ => rs.length - (intOf v).toNat)
    case atStart => exact ⟨0, Nat.zero_le _, rfl, ⟨rfl⟩, On.refl _⟩
    case round =>
      obtain ⟨k, hk, rfl, hp, hB⟩ := hrel
      by_cases hlt : k < rs.length
      · have hlt2 : k < qs.length := by have := hl'.out; omega
        obtain ⟨ad, rfl, hx0, hx1, hx2⟩ := (h0.on hB).at k hlt
        obtain ⟨bd, rfl, hy0, hy1, hy2⟩ := (h1.on hB).at k hlt2
        cases hq : sameR rs[k] qs[k] with
        | true =>
          have hq' := Aside0.mk (of_decide_eq_true hq : rs[k] = qs[k])
          go_wp2
          refine Reg.region [(0,.L),(1,.L),(2,.L),(3,.L),(4,.L),(5,.L),(6,.L),(7,.L),(8,.L)] [] (by kernel_rfl) (by kernel_rfl) ?_
          repeat first | refine sP ?_ | refine sS ?_ | refine sA ?_ | refine sL ?_ | refine sQ ?_ | refine sO ?_
          refine Reg.nil fun w2 hS => ?_
          clear hq
          go_wp2
          exact ⟨⟨k + 1, by omega, by go_num, ⟨by rw [List.take_succ_eq_append_getElem hlt, List.take_succ_eq_append_getElem hlt2, hp.out, hq'.out]⟩, hB.trans hS⟩, by simp [intOf]; omega⟩
        | false =>
          have hq' := Aside0.mk (of_decide_eq_false hq : ¬ rs[k] = qs[k])
          go_wp2
          refine Reg.region [(0,.L),(1,.L),(2,.L),(3,.L),(4,.L),(5,.L),(6,.L),(7,.L),(8,.L)] [] (by kernel_rfl) (by kernel_rfl) ?_
          repeat first | refine sP ?_ | refine sS ?_ | refine sA ?_ | refine sL ?_ | refine sQ ?_ | refine sO ?_
          refine Reg.nil fun w2 hS => ?_
          clear hq
          go_wp2
          go_ret
          exact ⟨ret_bool (by symm; exact decide_eq_false fun e => hq'.out (by subst e; rfl)), hB.trans hS⟩
      · have e1 : rs.take k = rs := List.take_of_length_le (by omega)
        have e2 : qs.take k = qs := List.take_of_length_le (by have := hl'.out; omega)
        rw [e1, e2] at hp
        go_wp2
        go_ret
        exact ⟨ret_bool (by symm; exact decide_eq_true hp.out), hB⟩
  · have hlb : ((rs.length : Int) == (qs.length : Int)) = false := by rw [beq_eq_false_iff_ne]; omega
    have hlc : ((rs.length : Int) != (qs.length : Int)) = true := by simp [bne, hlb]
    have hld : (rs.length == qs.length) = false := by simpa using hl
    have hl' := Aside0.mk hl
    clear hl
    go_enter Try.func117, Try.ntmps117
    go_wp2
    go_ret
    exact ⟨ret_bool (by symm; exact decide_eq_false fun e => hl'.out (congrArg _ e)), On.refl _⟩

theorem areComparable_calls (w : World) (A0 c0 A1 c1) (rs : List Rel) (fs : List Fct) (h0 : Rels w A0 c0 rs) (h1 : Fcts w A1 c1 fs) (A2 c2 A3 c3) (qs : List Rel) (gs : List Fct) (h2 : Rels w A2 c2 qs) (h3 : Fcts w A3 c3 gs) :
    Calls Try.prog 79 #[.agg #[.slice A0 rs.length c0, .slice A1 fs.length c1], .agg #[.slice A2 qs.length c2, .slice A3 gs.length c3]] w fun e w' => e = .returned (.bool (okInst rs fs && (okInst qs gs && decide (rs = qs)))) ∧ On w w' := by
  have hb := Aside0.mk (On.alloc (On.alloc (On.refl w) (.cells #[.slice A0 rs.length c0, .slice A1 fs.length c1] 32)) (.cells #[.slice A2 qs.length c2, .slice A3 gs.length c3] 32))
  have hL := Aside0.mk (loc2 w #[.slice A0 rs.length c0, .slice A1 fs.length c1] #[.slice A2 qs.length c2, .slice A3 gs.length c3] 32 32)
  cases ho : okInst rs fs with
  | false =>
    have ho' := Aside0.mk ho
    clear ho
    go_enter Try.func79, Try.ntmps79
    go_wp2_with (go_at_call 66; refine (iIsValidInstance_calls _ A0 c0 A1 c1 rs fs (h0.on hb.out) (h1.on hb.out)).mono ?_; rintro e w1 ⟨rfl, hb1⟩; rw [ho'.out])
    go_ret
    exact ⟨by simp, hb.out.trans hb1⟩
  | true =>
    have ho' := Aside0.mk ho
    clear ho
    cases hp : okInst qs gs with
    | false =>
      have hp' := Aside0.mk hp
      clear hp
      go_enter Try.func79, Try.ntmps79
      go_wp2_with (first
        | (go_at_call 66; refine (iIsValidInstance_calls _ A2 c2 A3 c3 qs gs (h2.on (hb.out.trans hb1)) (h3.on (hb.out.trans hb1))).mono ?_; rintro e w2 ⟨rfl, hb2⟩; rw [hp'.out])
        | (go_at_call 66; refine (iIsValidInstance_calls _ A0 c0 A1 c1 rs fs (h0.on hb.out) (h1.on hb.out)).mono ?_; rintro e w1 ⟨rfl, hb1⟩; rw [ho'.out]; have hL1 := Loc.on hb1 hL.out; have hc0 := blk_cell hL1.1; have hc1 := blk_cell hL1.2.1; clear hL1))
      go_ret
      exact ⟨by simp, hb.out.trans (hb1.trans hb2)⟩
    | true =>
      have hp' := Aside0.mk hp
      clear hp
      go_enter Try.func79, Try.ntmps79
      go_wp2_with (first
        | (go_at_call 66; refine (iIsValidInstance_calls _ A2 c2 A3 c3 qs gs (h2.on (hb.out.trans hb1)) (h3.on (hb.out.trans hb1))).mono ?_; rintro e w2 ⟨rfl, hb2⟩; rw [hp'.out]; have hL2 := Loc.on (hb1.trans hb2) hL.out; have hd0 := blk_cell hL2.1; have hd1 := blk_cell hL2.2.1; clear hL2)
        | (go_at_call 66; refine (iIsValidInstance_calls _ A0 c0 A1 c1 rs fs (h0.on hb.out) (h1.on hb.out)).mono ?_; rintro e w1 ⟨rfl, hb1⟩; rw [ho'.out]; have hL1 := Loc.on hb1 hL.out; have hc0 := blk_cell hL1.1; have hc1 := blk_cell hL1.2.1; clear hL1)
        | (go_at_call 117; refine (equalR_calls _ A0 c0 A2 c2 rs qs (h0.on (hb.out.trans (hb1.trans hb2))) (h2.on (hb.out.trans (hb1.trans hb2)))).mono ?_; rintro e w3 ⟨rfl, hb3⟩))
      go_ret
      exact ⟨by simp, hb.out.trans (hb1.trans (hb2.trans hb3))⟩
end Go.Proofs.Ytngjhblbpapjeaa.H
/- Walks: the program's FindHomomorphism, FindHomomorphisms, HasHomomorphism, AreHomEquivalent. No condition. -/
namespace Go.Proofs.Ytngjhblbpapjeaa.H
open Go Go.RowKit Go.Proofs.YtngjhblbpapjeaaW.PrintWords Go.Proofs.YtngjhblbpapjeaaW.PrintLast
open Go.Proofs.Ytngjhblbpapjeaa.Reg (On on_draw)
set_option maxHeartbeats 4000000
set_option maxRecDepth 100000
set_option linter.unusedVariables false
set_option linter.unusedSimpArgs false

/-- A map is made. -/
theorem mkMap {ops : Array Oper} {rest : List Oper} {o : Oper} {a : Act} {Q : Exit → Act → World → Prop} {W : World} (N : Tmp) {t : TypeId}
    (h : wpList Try.prog ops Q rest (a.put (some N) (.map (some W.heap.size))) (W.alloc (.map #[] 0)))
    (hop : o.op = .makeMap t none := by rfl) (hd : o.dst = some N := by rfl) (hg : o.guard = none := by rfl) : wpList Try.prog ops Q (o :: rest) a W := by
  refine Kd.event_run hg (w1 := W.alloc (.map #[] 0)) (v := .map (some W.heap.size)) ?_ ?_
  · unfold execOp
    simp only [hop, Option.map_none]
    rfl
  · rw [hd]; exact h
theorem vals_le (fs : List Fct) (h : ∀ f ∈ fs, f.2.length ≤ 3) : vals fs ≤ 3 * fs.length := by
  induction fs with
  | nil => simp [vals]
  | cons f fs ih =>
    have h1 := h f List.mem_cons_self
    have h2 := ih fun g hg => h g (List.mem_cons_of_mem _ hg)
    rw [vals_cons, List.length_cons]; omega
theorem iHoms_calls (w : World) (A0 c0 A1 c1) (rs : List Rel) (fs : List Fct) (h0 : Rels w A0 c0 rs) (h1 : Fcts w A1 c1 fs) (A2 c2 A3 c3) (qs : List Rel) (gs : List Fct) (h2 : Rels w A2 c2 qs) (h3 : Fcts w A3 c3 gs) (most : Nat) (hp : 1 ≤ most) (hq : most ≤ 1000) :
    Calls Try.prog 98 #[.agg #[.slice A0 rs.length c0, .slice A1 fs.length c1], .agg #[.slice A2 qs.length c2, .slice A3 gs.length c3], .int .i64 most] w (Got fun v w' => ∃ hs, OS w' w.heap.size v hs ∧ SepS w' w.heap.size hs (subs rs fs qs gs most) ∧ On w w') := by
  have hpq := Aside0.mk (show 1 ≤ most ∧ most ≤ 1000 from ⟨hp, hq⟩)
  clear hp hq
  have hW4 := Aside0.mk (On.alloc (On.alloc (On.alloc (On.alloc (On.refl w) (.cells #[.slice A0 rs.length c0, .slice A1 fs.length c1] 32)) (.cells #[.slice A2 qs.length c2, .slice A3 gs.length c3] 32)) (.cells #[.int .i64 most] 3)) (.cells #[] 45))
  have hb := Aside0.mk (On.alloc hW4.out (.cells #[.slice (some ⟨w.heap.size + 1 + 1 + 1, 0, none⟩) 0 0] 71))
  have hL := Aside0.mk (Loc.on (On.alloc (On.alloc (On.refl _) (.cells #[] 45)) (.cells #[.slice (some ⟨w.heap.size + 1 + 1 + 1, 0, none⟩) 0 0] 71)) (loc3 w #[.slice A0 rs.length c0, .slice A1 fs.length c1] #[.slice A2 qs.length c2, .slice A3 gs.length c3] #[.int .i64 most] 32 32 3))
  have hO := Aside0.mk (pw_own_below (lit_own' (w.heap.size + 1 + 1 + 1) (((w.alloc (.cells #[.slice A0 rs.length c0, .slice A1 fs.length c1] 32)).alloc (.cells #[.slice A2 qs.length c2, .slice A3 gs.length c3] 32)).alloc (.cells #[.int .i64 most] 3)) (by simp) #[] 45 2 0 w.heap.size (by simp; omega) (by omega) rfl) (On.alloc (On.refl _) (.cells #[.slice (some ⟨w.heap.size + 1 + 1 + 1, 0, none⟩) 0 0] 71)))
  have hB := Aside0.mk (loc_new ((((w.alloc (.cells #[.slice A0 rs.length c0, .slice A1 fs.length c1] 32)).alloc (.cells #[.slice A2 qs.length c2, .slice A3 gs.length c3] 32)).alloc (.cells #[.int .i64 most] 3)).alloc (.cells #[] 45)) #[.slice (some ⟨w.heap.size + 1 + 1 + 1, 0, none⟩) 0 0] 71)
  have hsx : ((((w.alloc (.cells #[.slice A0 rs.length c0, .slice A1 fs.length c1] 32)).alloc (.cells #[.slice A2 qs.length c2, .slice A3 gs.length c3] 32)).alloc (.cells #[.int .i64 most] 3)).alloc (.cells #[] 45)).heap.size = w.heap.size + 1 + 1 + 1 + 1 := by simp
  rw [hsx] at hB
  clear hsx
  go_enter Try.func98, Try.ntmps98
  go_wp2_with (refine gate 11 ?_)
  clear hW4
  obtain ⟨Wx, hWx⟩ : ∃ Wx, ((((w.alloc (.cells #[.slice A0 rs.length c0, .slice A1 fs.length c1] 32)).alloc (.cells #[.slice A2 qs.length c2, .slice A3 gs.length c3] 32)).alloc (.cells #[.int .i64 most] 3)).alloc (.cells #[] 45)).alloc (.cells #[.slice (some ⟨w.heap.size + 1 + 1 + 1, 0, none⟩) 0 0] 71) = Wx := ⟨_, rfl⟩
  rw [hWx] at hb hL hO hB ⊢
  clear hWx
  refine ⟨goesF 11 Try.func79 ((areComparable_calls Wx A0 c0 A1 c1 rs fs (h0.on hb.out) (h1.on hb.out) A2 c2 A3 c3 qs gs (h2.on hb.out) (h3.on hb.out)).mono ?_)⟩
  rintro e w1 ⟨rfl, hb1⟩
  refine ⟨_, rfl, ?_⟩
  have hB1 := Aside0.mk (hb.out.trans hb1)
  have hL1 := Aside0.mk (Loc.on hb1 hL.out)
  have hO1 := Aside0.mk (pw_own_below hO.out hb1)
  have hBx := Aside0.mk (blk_below hB.out hb1)
  have hd0 := blk_cell hL1.out.1
  have hd1 := blk_cell hL1.out.2.1
  have hd2 := blk_cell hL1.out.2.2.1
  have hdb := blk_cell hBx.out
  cases hc : (okInst rs fs && (okInst qs gs && decide (rs = qs))) with
  | false =>
    have hc' := Aside0.mk hc
    clear hc hb1
    go_wp2
    go_ret
    refine ⟨_, rfl, [], hO1.out, ?_, hB1.out⟩
    rw [subs_no (by rw [Bool.and_assoc]; exact hc'.out)]
    exact SepS.nil _ _
  | true =>
    have hc' := Aside0.mk hc
    have hgq := Aside0.mk (show okInst qs gs = true by simp only [Bool.and_eq_true] at hc; exact hc.2.1)
    have hfq := Aside0.mk (show okInst rs fs = true by simp only [Bool.and_eq_true] at hc; exact hc.1)
    have hK := Aside0.mk (show KS w (w1.alloc (.map #[] 0)) w.heap.size (w.heap.size + 1 + 1 + 1 + 1) (w.heap.size + 1 + 1) most (.slice (some ⟨w.heap.size + 1 + 1 + 1, 0, none⟩) 0 0) [] [] from
      KS.move ⟨hB1.out, by omega, Nat.le_refl _, by omega, hB1.out.size, hO1.out, SepS.nil _ _, hBx.out, hL1.out.2.2.1⟩ (On.alloc (On.refl _) _))
    have hM := Aside0.mk (BM.start w1)
    clear hc hb1
    go_wp2_with (refine gate 16 ?_)
    refine ⟨mkMap 16 ?_⟩
    go_wp2_with (refine gate 18 ?_)
    refine ⟨goesF 18 Try.func129 ((search_calls gs (fun g hg v hv => ?_) most hpq.out.2 fs A1 c1 A3 c3 w1.heap.size 0 none40 h1 h3 hK.out hpq.out.1 hM.out (by simp [none40]) (fun y hy => by have := List.eq_of_mem_replicate hy; omega) ?_).mono ?_)⟩
    · have h4 := okInst_mem hgq.out g hg
      simp only [okFact, Bool.and_eq_true, List.all_eq_true] at h4
      have h5 := h4.2 v hv
      simp only [okVal, decide_eq_true_eq] at h5
      omega
    · have h4 := okInst_len hfq.out
      have h5 := vals_le fs fun f hf => okFact_len (okInst_mem hfq.out f hf)
      omega
    · rintro e w3 ⟨v3, rfl, v', zs, rfl, hK3, hF3⟩
      refine ⟨_, rfl, ?_⟩
      have hd := blk_cell hK3.box
      have hK3' := Aside0.mk hK3
      clear hd0 hd1 hd2 hdb hK3
      go_wp2
      go_ret
      refine ⟨_, rfl, zs, hK3'.out.own, ?_, hK3'.out.on⟩
      rw [subs_yes (by rw [Bool.and_assoc]; exact hc'.out)]
      simpa using hK3'.out.sep
theorem iFind_calls (w : World) (A0 c0 A1 c1) (rs : List Rel) (fs : List Fct) (h0 : Rels w A0 c0 rs) (h1 : Fcts w A1 c1 fs) (A2 c2 A3 c3) (qs : List Rel) (gs : List Fct) (h2 : Rels w A2 c2 qs) (h3 : Fcts w A3 c3 gs) :
    Calls Try.prog 46 #[.agg #[.slice A0 rs.length c0, .slice A1 fs.length c1], .agg #[.slice A2 qs.length c2, .slice A3 gs.length c3]] w (Got fun v w' => ∃ a b : Sli, v = .tuple #[.agg #[slV a, slV b], .bool (hasHom rs fs qs gs)] ∧ SepS w' w.heap.size [(a, b)] [(subs rs fs qs gs 1).headD ([], [])] ∧ On w w') := by
  have hb := Aside0.mk (On.alloc (On.alloc (On.alloc (On.refl w) (.cells #[.slice A0 rs.length c0, .slice A1 fs.length c1] 32)) (.cells #[.slice A2 qs.length c2, .slice A3 gs.length c3] 32)) (.cells #[.slice none 0 0, .slice none 0 0] 45))
  have hL := Aside0.mk (loc3 w #[.slice A0 rs.length c0, .slice A1 fs.length c1] #[.slice A2 qs.length c2, .slice A3 gs.length c3] #[.slice none 0 0, .slice none 0 0] 32 32 45)
  have hsx := Aside0.mk (show (((w.alloc (.cells #[.slice A0 rs.length c0, .slice A1 fs.length c1] 32)).alloc (.cells #[.slice A2 qs.length c2, .slice A3 gs.length c3] 32)).alloc (.cells #[.slice none 0 0, .slice none 0 0] 45)).heap.size = w.heap.size + 3 by simp)
  have hsl := Aside0.mk (subs_len rs fs qs gs 1 (Nat.le_refl _))
  go_enter Try.func46, Try.ntmps46
  go_wp2_with (refine gate 9 ?_)
  obtain ⟨Wx, hWx⟩ : ∃ Wx, ((w.alloc (.cells #[.slice A0 rs.length c0, .slice A1 fs.length c1] 32)).alloc (.cells #[.slice A2 qs.length c2, .slice A3 gs.length c3] 32)).alloc (.cells #[.slice none 0 0, .slice none 0 0] 45) = Wx := ⟨_, rfl⟩
  rw [hWx] at hb hL hsx ⊢
  clear hWx
  refine ⟨goesF 9 Try.func98 ((iHoms_calls Wx A0 c0 A1 c1 rs fs (h0.on hb.out) (h1.on hb.out) A2 c2 A3 c3 qs gs (h2.on hb.out) (h3.on hb.out) 1 (Nat.le_refl _) (by omega)).mono ?_)⟩
  rintro e w1 ⟨v1, rfl, hs, hO, hS, hb1⟩
  refine ⟨_, rfl, ?_⟩
  have hk := (Loc.on hb1 hL.out).2.2.1
  have hc : ∀ i, w1.cell? ⟨w.heap.size + 1 + 1, i, none⟩ = _ := blk_cell hk
  have hf : ∀ i, w1.frozen? ⟨w.heap.size + 1 + 1, i, none⟩ = _ := blk_frozen hk
  have hk' := Aside0.mk hk
  clear hk
  have hsz := Aside0.mk (show w.heap.size + 3 ≤ w1.heap.size by have := hb1.size; rw [hsx.out] at this; exact this)
  have hlen := hS.len
  have hl1 := hsl.out
  rcases hs with _ | ⟨h, tl⟩
  · have hnil : subs rs fs qs gs 1 = [] := List.eq_nil_of_length_eq_zero hlen.symm
    have hhas := Aside0.mk (show hasHom rs fs qs gs = false by unfold hasHom; rw [← hl1.1, hnil]; rfl)
    obtain ⟨A', c', rfl⟩ := own_slice hO
    clear hlen hl1
    go_wp2
    refine bodyPost_ret (retSB rfl rfl (g := w.heap.size + 2) (blk_set (blk_set hk'.out 0 _) 1 _) rfl) rfl ?_
    refine ⟨_, rfl, (none, 0, 0), (none, 0, 0), by rw [hhas.out]; rfl, ?_, Reg.On.set (Reg.On.set (hb.out.trans hb1) (by simp; omega) _) (by simp; omega) _⟩
    rw [hnil]
    exact SepS.one (World.ownsRow_nil _ _ _ _) (World.ownsRow_nil _ _ _ _) (fun x hx => by cases hx) (fun x hx => by cases hx) (fun k hk => by cases hk)
  · obtain rfl : tl = [] := List.eq_nil_of_length_eq_zero (by have := hl1.2; simp at hlen; omega)
    obtain ⟨⟨A5, n5, c5⟩, ⟨A6, n6, c6⟩⟩ := h
    have hhas := Aside0.mk (show hasHom rs fs qs gs = true by unfold hasHom; rw [← hl1.1, ← hlen]; rfl)
    obtain ⟨s, hs⟩ : ∃ s, subs rs fs qs gs 1 = [s] := by
      match h : subs rs fs qs gs 1, hlen with
      | [s], _ => exact ⟨s, rfl⟩
    obtain ⟨A', c', e, hR⟩ := OS.slice hO
    subst e
    obtain ⟨g, rfl⟩ := own_at0 hO (by simp)
    obtain ⟨_, e0, hc0⟩ := hR.cell 0 (.slice A5 n5 c5) rfl
    obtain ⟨_, e1, hc1⟩ := hR.cell 1 (.slice A6 n6 c6) rfl
    obtain rfl := Option.some.inj e0
    obtain rfl := Option.some.inj e1
    rw [add_zero0] at hc0 hc1
    have hS' := Aside0.mk hS
    clear hlen hl1 hO hR e0 e1 hS
    go_wp2
    refine bodyPost_ret (retSB rfl rfl (g := w.heap.size + 2) (blk_set (blk_set hk'.out 0 _) 1 _) rfl) rfl ?_
    refine ⟨_, rfl, (A5, n5, c5), (A6, n6, c6), by rw [hhas.out]; rfl, ?_, Reg.On.set (Reg.On.set (hb.out.trans hb1) (by simp; omega) _) (by simp; omega) _⟩
    have h9 := hS'.out
    rw [hs] at h9 ⊢
    exact ((h9.set (by rw [hsx.out]; show w.heap.size + 1 + 1 < _; omega) _).set (by rw [hsx.out]; show w.heap.size + 1 + 1 < _; omega) _).lower (by rw [hsx.out]; omega)
theorem iHas_calls (w : World) (A0 c0 A1 c1) (rs : List Rel) (fs : List Fct) (h0 : Rels w A0 c0 rs) (h1 : Fcts w A1 c1 fs) (A2 c2 A3 c3) (qs : List Rel) (gs : List Fct) (h2 : Rels w A2 c2 qs) (h3 : Fcts w A3 c3 gs) :
    Calls Try.prog 30 #[.agg #[.slice A0 rs.length c0, .slice A1 fs.length c1], .agg #[.slice A2 qs.length c2, .slice A3 gs.length c3]] w fun e w' => e = .returned (.bool (hasHom rs fs qs gs)) ∧ On w w' := by
  have hb := Aside0.mk (On.alloc (On.alloc (On.refl w) (.cells #[.slice A0 rs.length c0, .slice A1 fs.length c1] 32)) (.cells #[.slice A2 qs.length c2, .slice A3 gs.length c3] 32))
  go_enter Try.func30, Try.ntmps30
  go_wp2_with (go_at_call 46; refine (iFind_calls _ A0 c0 A1 c1 rs fs (h0.on hb.out) (h1.on hb.out) A2 c2 A3 c3 qs gs (h2.on hb.out) (h3.on hb.out)).mono ?_; rintro e w1 ⟨v, rfl, ⟨Aa, na, ca⟩, ⟨Ab, nb, cb⟩, rfl, hS, hb1⟩; clear hS; have hfill := alloc_fill w1)
  go_ret
  exact ⟨rfl, hb.out.trans (hb1.trans (On.alloc (On.refl _) _))⟩
theorem iAre_calls (w : World) (A0 c0 A1 c1) (rs : List Rel) (fs : List Fct) (h0 : Rels w A0 c0 rs) (h1 : Fcts w A1 c1 fs) (A2 c2 A3 c3) (qs : List Rel) (gs : List Fct) (h2 : Rels w A2 c2 qs) (h3 : Fcts w A3 c3 gs) :
    Calls Try.prog 38 #[.agg #[.slice A0 rs.length c0, .slice A1 fs.length c1], .agg #[.slice A2 qs.length c2, .slice A3 gs.length c3]] w fun e w' => e = .returned (.bool (hasHom rs fs qs gs && hasHom qs gs rs fs)) ∧ On w w' := by
  have hb := Aside0.mk (On.alloc (On.alloc (On.refl w) (.cells #[.slice A0 rs.length c0, .slice A1 fs.length c1] 32)) (.cells #[.slice A2 qs.length c2, .slice A3 gs.length c3] 32))
  have hL := Aside0.mk (loc2 w #[.slice A0 rs.length c0, .slice A1 fs.length c1] #[.slice A2 qs.length c2, .slice A3 gs.length c3] 32 32)
  cases ho : hasHom rs fs qs gs with
  | false =>
    have ho' := Aside0.mk ho
    clear ho
    go_enter Try.func38, Try.ntmps38
    go_wp2_with (go_at_call 30; refine (iHas_calls _ A0 c0 A1 c1 rs fs (h0.on hb.out) (h1.on hb.out) A2 c2 A3 c3 qs gs (h2.on hb.out) (h3.on hb.out)).mono ?_; rintro e w1 ⟨rfl, hb1⟩; rw [ho'.out])
    go_ret
    exact ⟨by simp, hb.out.trans hb1⟩
  | true =>
    have ho' := Aside0.mk ho
    clear ho
    go_enter Try.func38, Try.ntmps38
    go_wp2_with (first
      | (go_at_call 30; refine (iHas_calls _ A2 c2 A3 c3 qs gs (h2.on (hb.out.trans hb1)) (h3.on (hb.out.trans hb1)) A0 c0 A1 c1 rs fs (h0.on (hb.out.trans hb1)) (h1.on (hb.out.trans hb1))).mono ?_; rintro e w2 ⟨rfl, hb2⟩)
      | (go_at_call 30; refine (iHas_calls _ A0 c0 A1 c1 rs fs (h0.on hb.out) (h1.on hb.out) A2 c2 A3 c3 qs gs (h2.on hb.out) (h3.on hb.out)).mono ?_; rintro e w1 ⟨rfl, hb1⟩; rw [ho'.out]; have hL1 := Aside0.mk (Loc.on hb1 hL.out); have hd0 := blk_cell hL1.out.1; have hd1 := blk_cell hL1.out.2.1))
    go_ret
    exact ⟨by simp, hb.out.trans (hb1.trans hb2)⟩
theorem iFindAll_calls (w : World) (A0 c0 A1 c1) (rs : List Rel) (fs : List Fct) (h0 : Rels w A0 c0 rs) (h1 : Fcts w A1 c1 fs) (A2 c2 A3 c3) (qs : List Rel) (gs : List Fct) (h2 : Rels w A2 c2 qs) (h3 : Fcts w A3 c3 gs) :
    Calls Try.prog 50 #[.agg #[.slice A0 rs.length c0, .slice A1 fs.length c1], .agg #[.slice A2 qs.length c2, .slice A3 gs.length c3]] w (Got fun v w' => ∃ hs, OS w' w.heap.size v hs ∧ SepS w' w.heap.size hs (subs rs fs qs gs 100) ∧ On w w') := by
  have hb := Aside0.mk (On.alloc (On.alloc (On.refl w) (.cells #[.slice A0 rs.length c0, .slice A1 fs.length c1] 32)) (.cells #[.slice A2 qs.length c2, .slice A3 gs.length c3] 32))
  go_enter Try.func50, Try.ntmps50
  go_wp2_with (refine gate 7 ?_)
  refine ⟨goesF 7 Try.func98 ((iHoms_calls _ A0 c0 A1 c1 rs fs (h0.on hb.out) (h1.on hb.out) A2 c2 A3 c3 qs gs (h2.on hb.out) (h3.on hb.out) 100 (by omega) (by omega)).mono ?_)⟩
  rintro e w1 ⟨v1, rfl, hs, hO, hS, hb1⟩
  refine ⟨_, rfl, ?_⟩
  have hO' := Aside0.mk hO
  have hS' := Aside0.mk hS
  clear hO hS
  go_wp2
  go_ret
  exact ⟨_, rfl, hs, own_lower hO'.out hb.out.size, hS'.out.lower hb.out.size, hb.out.trans hb1⟩
end Go.Proofs.Ytngjhblbpapjeaa.H
/- Walks: the laws' own substitutions: size, copy, comparison. No condition. -/
namespace Go.Proofs.Ytngjhblbpapjeaa.H
open Go Go.RowKit Go.Proofs.YtngjhblbpapjeaaW.PrintWords Go.Proofs.YtngjhblbpapjeaaW.PrintLast
open Go.Proofs.Ytngjhblbpapjeaa.Reg (On on_draw)
set_option maxHeartbeats 4000000
set_option maxRecDepth 100000
set_option linter.unusedVariables false
set_option linter.unusedSimpArgs false

section
variable {fn : Func} {p : Tmp} {tmps : Array Value} {w : World} {g : Nat} {t : TypeId} {cs : Array Value} {fr : Nat × Nat}
theorem retSu (h : fn.results = #[.cell p 45]) (hp : tmps.getD p undef = .pointer (some ⟨g, 0, none⟩)) (hg : w.heap[g]? = some (.cells cs t fr)) (hs : cs.size = 2) : (results fn tmps).run Try.prog w = .ok (.agg cs) w :=
  results_cell_row h tmps w g t cs fr _ hp hg Try.underlying45 rfl (by rw [hs]; kernel_rfl)
end
theorem szSubstitution_calls (w : World) (A0 c0 A1 c1) (ns vs : List Int) (n : Int) (h0 : 0 ≤ n) (h1 : n ≤ 2000000) (hr : Ints w A0 c0 ns) (hf : Ints w A1 c1 vs) : Calls Try.prog 24 #[.agg #[.slice A0 ns.length c0, .slice A1 vs.length c1], .int .i64 n] w (Sz n (ns.length + vs.length) w) := by
  have hb := Aside0.mk (On.alloc (On.refl w) (.cells #[.slice A0 ns.length c0, .slice A1 vs.length c1] 42))
  go_enter Try.func24, Try.ntmps24
  go_wp2_with (first | (go_at_call 72; refine (szIntS_calls _ A1 c1 vs q (by omega) (by have := hq.out (by omega); omega) (hf.on (hb.out.trans hb1))).mono ?_; rintro e w2 ⟨q2, rfl, hq0, hb2⟩; have hq2 := Aside0.mk hq0; clear hq0; by_cases hneg2 : q2 < 0) | (go_at_call 72; refine (szIntS_calls _ A0 c0 ns n h0 h1 (hr.on hb.out)).mono ?_; rintro e w1 ⟨q, rfl, hq0, hb1⟩; have hq := Aside0.mk hq0; clear hq0; have hc0 := blk_cell (Loc.on hb1 (loc1 w #[.slice A0 ns.length c0, .slice A1 vs.length c1] 42)).1; by_cases hneg : q < 0))
  all_goals
    go_ret
    first | exact ⟨_, rfl, fun h => by omega, (hb.out.trans hb1).trans hb2⟩ | exact ⟨_, rfl, fun h => by omega, hb.out.trans hb1⟩ | exact ⟨_, rfl, fun h => by have := hq.out (by omega); have := hq2.out (by omega); omega, (hb.out.trans hb1).trans hb2⟩
theorem toSubstitution_calls (w : World) (A0 c0 A1 c1) (ns vs : List Int) (h0 : Ints w A0 c0 ns) (h1 : Ints w A1 c1 vs) (hl0 : ns.length ≤ 2000000) (hl : vs.length ≤ 2000000) : Calls Try.prog 26 #[.agg #[.slice A0 ns.length c0, .slice A1 vs.length c1]] w (Got fun v w' => ∃ v1 v2, v = .agg #[v1, v2] ∧ OI w' w.heap.size v1 ns ∧ OI w' w.heap.size v2 vs ∧ On w w') := by
  have hb := Aside0.mk (On.alloc (On.alloc (On.alloc (On.refl w) (.cells #[.slice A0 ns.length c0, .slice A1 vs.length c1] 42)) (.cells #[.slice none 0 0, .slice none 0 0] 45)) (.cells #[.slice none 0 0, .slice none 0 0] 45))
  have hL := Aside0.mk (loc3 w #[.slice A0 ns.length c0, .slice A1 vs.length c1] #[.slice none 0 0, .slice none 0 0] #[.slice none 0 0, .slice none 0 0] 42 45 45)
  go_enter Try.func26, Try.ntmps26
  go_wp2_with (first | (go_at_call 78; have hB2 := Aside0.mk (Reg.On.set (hb.out.trans hb1) (p := ⟨w.heap.size + 1 + 1, 0, none⟩) (by simp; omega) (.slice A2 ns.length c2)); refine (toIntS_calls _ A1 c1 vs (h1.on hB2.out) hl).mono ?_; rintro e w3 ⟨v3, rfl, hO3, hb3⟩; obtain ⟨A3, c3, rfl⟩ := own_slice hO3; clear hc0 hc1 hc2 hf1 hf2; have hk1 := blk_below (blk_far hL1.out.2.1 (p := ⟨w.heap.size + 1 + 1, 0, none⟩) (by simp) (.slice A2 ns.length c2)) hb3; have hk2 : w3.heap[w.heap.size + 1 + 1]? = some (.cells #[.slice A2 ns.length c2, .slice none 0 0] 45 (0, 0)) := blk_below (blk_set hL1.out.2.2.1 0 (.slice A2 ns.length c2)) hb3; have hc1 := blk_cell hk1; have hc2 := blk_cell hk2; have hf1 := blk_frozen hk1; have hf2 := blk_frozen hk2; have hk1' := Aside0.mk hk1; clear hk1 hk2; have hO3' := Aside0.mk hO3; clear hO3; have hb3' := Aside0.mk hb3; clear hb3) | (go_at_call 78; refine (toIntS_calls _ A0 c0 ns (h0.on hb.out) hl0).mono ?_; rintro e w1 ⟨v1, rfl, hO, hb1⟩; obtain ⟨A2, c2, rfl⟩ := own_slice hO; have hL1 := Aside0.mk (Loc.on hb1 hL.out); have hc0 := blk_cell hL1.out.1; have hc1 := blk_cell hL1.out.2.1; have hc2 : ∀ i, w1.cell? ⟨w.heap.size + 1 + 1, i, none⟩ = _ := blk_cell hL1.out.2.2.1; have hf1 := blk_frozen hL1.out.2.1; have hf2 : ∀ i, w1.frozen? ⟨w.heap.size + 1 + 1, i, none⟩ = false := blk_frozen hL1.out.2.2.1; have hO' := Aside0.mk hO; clear hO))
  have hsz : (((w.alloc (.cells #[.slice A0 ns.length c0, .slice A1 vs.length c1] 42)).alloc (.cells #[.slice none 0 0, .slice none 0 0] 45)).alloc (.cells #[.slice none 0 0, .slice none 0 0] 45)).heap.size = w.heap.size + 3 := by simp
  have hO := hO'.out
  rw [hsz] at hO
  have hsz1 := hb1.size
  rw [hsz] at hsz1
  have hsz2 : (w1.setCell ⟨w.heap.size + 1 + 1, 0, none⟩ (.slice A2 ns.length c2)).heap.size = w1.heap.size := by simp [World.setCell]
  have hO4 := hO3'.out
  rw [hsz2] at hO4
  refine bodyPost_ret (retSu rfl rfl (g := w.heap.size + 1) (blk_set (blk_set (blk_far hk1'.out (p := ⟨w.heap.size + 1 + 1, 1, none⟩) (by simp) _) 0 _) 1 _) rfl) rfl ?_
  refine ⟨_, rfl, _, _, rfl, ?_, ?_, ?_⟩
  · have h5 := pw_own_below (ownsRow_setCell_below hO (a := ⟨w.heap.size + 1 + 1, 0, none⟩) (by simp) (.slice A2 ns.length c2)) hb3'.out
    exact own_lower (ownsRow_setCell_below (ownsRow_setCell_below (ownsRow_setCell_below h5 (by simp) _) (by simp) _) (by simp) _) (by omega)
  · exact own_lower (ownsRow_setCell_below (ownsRow_setCell_below (ownsRow_setCell_below hO4 (by simp; omega) _) (by simp; omega) _) (by simp; omega) _) (by omega)
  · exact Reg.On.set (Reg.On.set (Reg.On.set (hB2.out.trans hb3'.out) (by simp; omega) _) (by simp) _) (by simp) _
theorem eqSubstitution_calls (w : World) (A0 c0 A1 c1 B0 d0 B1 d1) (ns vs : List Int) (h0 : Ints w A0 c0 ns) (h1 : Ints w A1 c1 vs) (h2 : Ints w B0 d0 ns) (h3 : Ints w B1 d1 vs) : Calls Try.prog 28 #[.agg #[.slice A0 ns.length c0, .slice A1 vs.length c1], .agg #[.slice B0 ns.length d0, .slice B1 vs.length d1]] w fun e w' => e = .returned (.bool true) ∧ On w w' := by
  have hb := Aside0.mk (On.alloc (On.alloc (On.refl w) (.cells #[.slice A0 ns.length c0, .slice A1 vs.length c1] 45)) (.cells #[.slice B0 ns.length d0, .slice B1 vs.length d1] 45))
  have hL := Aside0.mk (loc2 w #[.slice A0 ns.length c0, .slice A1 vs.length c1] #[.slice B0 ns.length d0, .slice B1 vs.length d1] 45 45)
  go_enter Try.func28, Try.ntmps28
  go_wp2_with (first | (go_at_call 16; refine (eqIntS_calls _ A1 c1 B1 d1 vs (h1.on (hb.out.trans hb1)) (h3.on (hb.out.trans hb1))).mono ?_; rintro e w2 ⟨rfl, hb2⟩) | (go_at_call 16; refine (eqIntS_calls _ A0 c0 B0 d0 ns (h0.on hb.out) (h2.on hb.out)).mono ?_; rintro e w1 ⟨rfl, hb1⟩; have hL1 := Loc.on hb1 hL.out; have hc0 := blk_cell hL1.1; have hc1 := blk_cell hL1.2.1; have hL2 := Aside0.mk hL1; clear hL1))
  go_ret
  exact ⟨rfl, (hb.out.trans hb1).trans hb2⟩
/-! In values. -/
structure RSu (w : World) (v : Value) (ns vs : List Int) : Prop where mk :: (out : ∃ A c B d, v = .agg #[.slice A ns.length c, .slice B vs.length d] ∧ Ints w A c ns ∧ Ints w B d vs)
structure OSb (w : World) (lo hi : Nat) (v : Value) (ns vs : List Int) : Prop where mk :: (out : ∃ v1 v2, v = .agg #[v1, v2] ∧ OI w lo v1 ns ∧ OI w lo v2 vs ∧ InR ns ∧ InR vs ∧ (∀ b, v1.ownBlock = some b → b < hi) ∧ ∀ b, v2.ownBlock = some b → b < hi)
structure OSu (w : World) (lo : Nat) (v : Value) (ns vs : List Int) : Prop where mk :: (out : ∃ v1 v2, v = .agg #[v1, v2] ∧ OI w lo v1 ns ∧ OI w lo v2 vs ∧ InR ns ∧ InR vs)
theorem OSu.b {w : World} {lo : Nat} {v : Value} {ns vs : List Int} (h : OSu w lo v ns vs) : OSb w lo w.heap.size v ns vs := by
  obtain ⟨v1, v2, e, h0, h1, h2, h3⟩ := h.out
  exact ⟨v1, v2, e, h0, h1, h2, h3, fun b hb => own_lt h0 b hb, fun b hb => own_lt h1 b hb⟩
theorem OSb.read {w : World} {lo hi : Nat} {v : Value} {ns vs : List Int} (h : OSb w lo hi v ns vs) : RSu w v ns vs := by
  obtain ⟨v1, v2, e, h0, h1, h2, h3, _⟩ := h.out
  obtain ⟨A, c, rfl, k0⟩ := OI.rd h0 h2
  obtain ⟨B, d, rfl, k1⟩ := OI.rd h1 h3
  exact ⟨A, c, B, d, e, k0, k1⟩
theorem OSu.read {w : World} {lo : Nat} {v : Value} {ns vs : List Int} (h : OSu w lo v ns vs) : RSu w v ns vs := h.b.read
theorem OSb.on {W w : World} {lo hi : Nat} {v : Value} {ns vs : List Int} (h : OSb W lo hi v ns vs) (hb : On W w) : OSb w lo hi v ns vs := by
  obtain ⟨v1, v2, e, h0, h1, h2, h3, h4, h5⟩ := h.out
  exact ⟨v1, v2, e, pw_own_below h0 hb, pw_own_below h1 hb, h2, h3, h4, h5⟩
theorem OSb.ex {S : Nat → Prop} {W w : World} {lo hi : Nat} {v : Value} {ns vs : List Int} (h : OSb W lo hi v ns vs) (k : Ex S W w) (hS : ∀ b, lo ≤ b → b < hi → ¬ S b) : OSb w lo hi v ns vs := by
  obtain ⟨v1, v2, e, h0, h1, h2, h3, h4, h5⟩ := h.out
  exact ⟨v1, v2, e, own_ex h0 k (fun i hi h => hS i (own_base h0 i hi) (h4 i hi) h), own_ex h1 k (fun i hi h => hS i (own_base h1 i hi) (h5 i hi) h), h2, h3, h4, h5⟩
theorem RSu.on {W w : World} {v : Value} {ns vs : List Int} (h : RSu W v ns vs) (hb : On W w) : RSu w v ns vs := by
  obtain ⟨A, c, B, d, e, h0, h1⟩ := h.out
  exact ⟨A, c, B, d, e, h0.on hb, h1.on hb⟩
theorem RSu.shape {w : World} {v : Value} {ns vs : List Int} (h : RSu w v ns vs) : ∃ A n c B m d, v = .agg #[.slice A n c, .slice B m d] := by
  obtain ⟨A, c, B, d, e, _⟩ := h.out
  exact ⟨_, _, _, _, _, _, e⟩
theorem szS_calls (w : World) (v : Value) (ns vs : List Int) (n : Int) (h0 : 0 ≤ n) (h1 : n ≤ 2000000) (h : RSu w v ns vs) : Calls Try.prog 24 #[v, .int .i64 n] w (Sz n (ns.length + vs.length) w) := by
  obtain ⟨A, c, B, d, rfl, k0, k1⟩ := h.out
  exact szSubstitution_calls w A c B d ns vs n h0 h1 k0 k1
theorem toS_calls (w : World) (v : Value) (ns vs : List Int) (h : RSu w v ns vs) (hl : ns.length + vs.length ≤ 1048576) : Calls Try.prog 26 #[v] w (Got fun v w' => OSu w' w.heap.size v ns vs ∧ On w w') := by
  obtain ⟨A, c, B, d, rfl, k0, k1⟩ := h.out
  refine (toSubstitution_calls w A c B d ns vs k0 k1 (by omega) (by omega)).mono fun e w' hh => ?_
  obtain ⟨v, rfl, v1, v2, rfl, hO, hO2, hb⟩ := hh
  exact ⟨_, rfl, ⟨v1, v2, rfl, hO, hO2, k0.2.2, k1.2.2⟩, hb⟩
theorem eqS_calls (w : World) (v u : Value) (ns vs : List Int) (h : RSu w v ns vs) (k : RSu w u ns vs) : Calls Try.prog 28 #[v, u] w fun e w' => e = .returned (.bool true) ∧ On w w' := by
  obtain ⟨A, c, B, d, rfl, h0, h1⟩ := h.out
  obtain ⟨A2, c2, B2, d2, rfl, k0, k1⟩ := k.out
  exact eqSubstitution_calls w A c B d A2 c2 B2 d2 ns vs h0 h1 k0 k1
end Go.Proofs.Ytngjhblbpapjeaa.H
/- Walks: the laws' own marks on substitutions. No condition. -/
namespace Go.Proofs.Ytngjhblbpapjeaa.H
open Go Go.RowKit Go.Proofs.YtngjhblbpapjeaaW.PrintWords Go.Proofs.YtngjhblbpapjeaaW.PrintLast
open Go.Proofs.Ytngjhblbpapjeaa.Reg (On on_draw)
set_option maxHeartbeats 4000000
set_option maxRecDepth 100000
set_option linter.unusedVariables false
set_option linter.unusedSimpArgs false

def wS (ns vs : List Int) : Nat := ns.length + vs.length
/-- A substitution of one's own whose rows lie apart. -/
structure OSp (w : World) (lo : Nat) (v : Value) (ns vs : List Int) : Prop where mk :: (out : ∃ v1 v2, v = .agg #[v1, v2] ∧ OI w lo v1 ns ∧ OI w lo v2 vs ∧ InR ns ∧ InR vs ∧ Ap v1 v2)
structure OSq (w : World) (lo hi : Nat) (v : Value) (ns vs : List Int) : Prop where mk :: (out : ∃ v1 v2, v = .agg #[v1, v2] ∧ OI w lo v1 ns ∧ OI w lo v2 vs ∧ InR ns ∧ InR vs ∧ Ap v1 v2 ∧ (∀ b, v1.ownBlock = some b → b < hi) ∧ ∀ b, v2.ownBlock = some b → b < hi)
theorem OSp.of {w : World} {lo : Nat} {a b : Sli} {s : Su} (h : SepS w lo [(a, b)] [s]) : OSp w lo (.agg #[slV a, slV b]) s.1 s.2 := by
  obtain ⟨_, h1, h2⟩ := h.sep.at_ 0 _ _ rfl rfl
  obtain ⟨_, h3, h4⟩ := h.sep.at_ 1 _ _ rfl rfl
  exact ⟨_, _, rfl, h1, h3, h2, h4, fun k e1 e2 => by have := h.sep.apart 0 1 _ _ k rfl rfl e1 e2; omega⟩
theorem OSp.b {w : World} {lo : Nat} {v : Value} {ns vs : List Int} (h : OSp w lo v ns vs) : OSq w lo w.heap.size v ns vs := by
  obtain ⟨v1, v2, e, h0, h1, h2, h3, h4⟩ := h.out
  exact ⟨v1, v2, e, h0, h1, h2, h3, h4, fun b hb => own_lt h0 b hb, fun b hb => own_lt h1 b hb⟩
theorem OSp.lower {w : World} {lo lo' : Nat} {v : Value} {ns vs : List Int} (h : OSp w lo v ns vs) (hl : lo' ≤ lo) : OSp w lo' v ns vs := by
  obtain ⟨v1, v2, e, h0, h1, h2, h3, h4⟩ := h.out
  exact ⟨v1, v2, e, own_lower h0 hl, own_lower h1 hl, h2, h3, h4⟩
theorem OSq.n {w : World} {lo hi : Nat} {v : Value} {ns vs : List Int} (h : OSq w lo hi v ns vs) : OSp w lo v ns vs := by
  obtain ⟨v1, v2, e, h0, h1, h2, h3, h4, _⟩ := h.out
  exact ⟨v1, v2, e, h0, h1, h2, h3, h4⟩
theorem OSp.read {w : World} {lo : Nat} {v : Value} {ns vs : List Int} (h : OSp w lo v ns vs) : RSu w v ns vs := by
  obtain ⟨v1, v2, e, h0, h1, h2, h3, _⟩ := h.out
  obtain ⟨A, c, rfl, k0⟩ := OI.rd h0 h2
  obtain ⟨B, d, rfl, k1⟩ := OI.rd h1 h3
  exact ⟨A, c, B, d, e, k0, k1⟩
theorem OSq.read {w : World} {lo hi : Nat} {v : Value} {ns vs : List Int} (h : OSq w lo hi v ns vs) : RSu w v ns vs := h.n.read
theorem OSq.on {W w : World} {lo hi : Nat} {v : Value} {ns vs : List Int} (h : OSq W lo hi v ns vs) (hb : On W w) : OSq w lo hi v ns vs := by
  obtain ⟨v1, v2, e, h0, h1, h2, h3, h4, h5, h6⟩ := h.out
  exact ⟨v1, v2, e, pw_own_below h0 hb, pw_own_below h1 hb, h2, h3, h4, h5, h6⟩
theorem OSq.ex {S : Nat → Prop} {W w : World} {lo hi : Nat} {v : Value} {ns vs : List Int} (h : OSq W lo hi v ns vs) (k : Ex S W w) (hS : ∀ b, lo ≤ b → b < hi → ¬ S b) : OSq w lo hi v ns vs := by
  obtain ⟨v1, v2, e, h0, h1, h2, h3, h4, h5, h6⟩ := h.out
  exact ⟨v1, v2, e, own_ex h0 k (fun i hi h => hS i (own_base h0 i hi) (h5 i hi) h), own_ex h1 k (fun i hi h => hS i (own_base h1 i hi) (h6 i hi) h), h2, h3, h4, h5, h6⟩
theorem OSq.set {W : World} {lo hi g j : Nat} {v u : Value} {ns vs : List Int} (h : OSq W lo hi v ns vs) (hg : g < lo ∨ hi ≤ g) : OSq (W.setCell ⟨g, j, none⟩ u) lo hi v ns vs :=
  h.ex (Ex.set W ⟨g, j, none⟩ u) (fun b h1 h2 h3 => by have h4 : b = g := h3; omega)
theorem mkS_calls (w : World) (lo hi : Nat) (v : Value) (ns vs : List Int) (k0 : Int) (h : OSq w lo hi v ns vs) (h0 : 1 ≤ k0) (h1 : k0 + wS ns vs ≤ 10000000) : Calls Try.prog 47 #[v, .int .i64 k0] w fun e w' => e = .returned (.int .i64 (k0 + wS ns vs)) ∧ OSq w' lo hi v (markI k0 ns.length) (markI (k0 + ns.length) vs.length) ∧ Ex (fun b => lo ≤ b ∧ b < hi) w w' := by
  obtain ⟨v1, v2, rfl, hO1, hO2, hR1, hR2, hAp, hh1, hh2⟩ := h.out
  unfold wS at h1 ⊢
  obtain ⟨A1, c1, rfl⟩ := own_slice hO1
  obtain ⟨A2, c2, rfl⟩ := own_slice hO2
  have hh1' := Aside0.mk hh1
  have hh2' := Aside0.mk hh2
  have hAp' := Aside0.mk hAp
  have hO1' := Aside0.mk hO1
  have hO2' := Aside0.mk hO2
  have hb := Aside0.mk (On.alloc (On.refl w) (.cells #[.slice A1 ns.length c1, .slice A2 vs.length c2] 45))
  have hL := Aside0.mk (loc_new w #[.slice A1 ns.length c1, .slice A2 vs.length c2] 45)
  clear hh1 hh2 hAp hO1 hO2 h hR1 hR2
  go_enter Try.func47, Try.ntmps47
  go_wp2_with (refine gate 8 ?_)
  refine ⟨goesF 8 Try.func19 ((markIntS_calls _ lo _ ns k0 (pw_own_below hO1'.out hb.out) (by omega) (by omega)).mono ?_)⟩
  rintro e w1 ⟨rfl, hM1, hE1⟩
  refine ⟨_, rfl, ?_⟩
  have hk1 := Aside0.mk (blk_ex hE1 hL.out (fun e => by have := own_lt hO1'.out _ e.symm; omega))
  have hM2 := Aside0.mk (own_ex (pw_own_below hO2'.out hb.out) hE1 (fun i h1 h2 => hAp'.out i h2.symm h1))
  have hE1' := Aside0.mk hE1
  have hM1' := Aside0.mk hM1
  have hc1 := blk_cell hk1.out
  clear hM1 hE1
  go_wp2_with (refine gate 12 ?_)
  refine ⟨goesF 12 Try.func19 ((markIntS_calls _ lo _ vs (k0 + ns.length) hM2.out (by omega) (by omega)).mono ?_)⟩
  rintro e w2 ⟨rfl, hM3, hE2⟩
  refine ⟨_, rfl, ?_⟩
  have hM3' := Aside0.mk hM3
  have hE2' := Aside0.mk hE2
  clear hM3 hE2
  go_wp2
  go_ret
  refine ⟨ret_int (by omega), ⟨_, _, rfl, ?_, ?_, markI_inR _ _ (by omega) (by omega), markI_inR _ _ (by omega) (by omega), hAp'.out, hh1'.out, hh2'.out⟩, ?_⟩
  · exact own_ex hM1'.out hE2'.out (fun i h1 h2 => hAp'.out i h1 h2.symm)
  · exact hM3'.out
  · refine ((Ex.of_on (S := fun b => lo ≤ b ∧ b < hi) hb.out).trans hE1'.out (fun i _ e => ⟨own_base hO1'.out i e.symm, hh1'.out i e.symm⟩)).trans hE2'.out (fun i _ e => ⟨own_base hO2'.out i e.symm, hh2'.out i e.symm⟩)
theorem hdS_calls (w : World) (v : Value) (ns vs : List Int) (k0 : Int) (h : RSu w v (markI k0 ns.length) (markI (k0 + ns.length) vs.length)) (h0 : 1 ≤ k0) (h1 : k0 + wS ns vs ≤ 10000000) : Calls Try.prog 48 #[v, .int .i64 k0] w fun e w' => e = .returned (.int .i64 (k0 + wS ns vs)) ∧ On w w' := by
  obtain ⟨A1, c1, A2, c2, rfl, hr, hf⟩ := h.out
  unfold wS at h1 ⊢
  rw [markI_len, markI_len]
  have hb := Aside0.mk (On.alloc (On.refl w) (.cells #[.slice A1 ns.length c1, .slice A2 vs.length c2] 45))
  have hL := Aside0.mk (loc_new w #[.slice A1 ns.length c1, .slice A2 vs.length c2] 45)
  have hr' := Aside0.mk hr
  have hf' := Aside0.mk hf
  have n1 : decide (k0 + (ns.length : Int) < 0) = false := decide_eq_false (by omega)
  have n2 : decide (k0 + (ns.length : Int) + (vs.length : Int) < 0) = false := decide_eq_false (by omega)
  clear h hr hf
  go_enter Try.func48, Try.ntmps48
  go_wp2_with (refine gate 8 ?_)
  refine ⟨goesF 8 Try.func20 ((heldIntS_calls _ A1 c1 ns.length k0 (hr'.out.on hb.out) (by omega) (by omega)).mono ?_)⟩
  rintro e w1 ⟨rfl, hb1⟩
  refine ⟨_, rfl, ?_⟩
  have hc1 := blk_cell (blk_below hL.out hb1)
  go_wp2_with (refine gate 14 ?_)
  refine ⟨goesF 14 Try.func20 ((heldIntS_calls _ A2 c2 vs.length (k0 + ns.length) (hf'.out.on (hb.out.trans hb1)) (by omega) (by omega)).mono ?_)⟩
  rintro e w2 ⟨rfl, hb2⟩
  refine ⟨_, rfl, ?_⟩
  go_wp2
  go_ret
  exact ⟨ret_int (by omega), (hb.out.trans hb1).trans hb2⟩
theorem homs_len (r1 : List Rel) (f1 : List Fct) (r2 : List Rel) (f2 : List Fct) (most : Nat) : ∀ y ∈ homs r1 f1 r2 f2 most, y.length = 40 := by
  unfold homs
  split
  · exact walk_mem f2 (fun y => y.length = 40) (fun f g x y _ hx hf => (fit_len hf).trans hx) f1 none40 most (by simp [none40])
  · intro y hy; cases hy
theorem subs_wS (r1 : List Rel) (f1 : List Fct) (r2 : List Rel) (f2 : List Fct) (most : Nat) : ∀ s ∈ subs r1 f1 r2 f2 most, wS s.1 s.2 ≤ 80 := by
  intro s hs
  obtain ⟨y, hy, rfl⟩ := List.mem_map.1 hs
  have h1 := subI_len 0 y
  have h2 := homs_len _ _ _ _ _ y hy
  unfold wS; omega
def head1 (r1 : List Rel) (f1 : List Fct) (r2 : List Rel) (f2 : List Fct) : Su := (subs r1 f1 r2 f2 1).headD ([], [])
theorem head1_wS (r1 : List Rel) (f1 : List Fct) (r2 : List Rel) (f2 : List Fct) : wS (head1 r1 f1 r2 f2).1 (head1 r1 f1 r2 f2).2 ≤ 80 := by
  unfold head1
  cases h : subs r1 f1 r2 f2 1 with
  | nil => simp [wS]
  | cons s l => exact subs_wS _ _ _ _ 1 s (by rw [h]; exact List.mem_cons_self)
end Go.Proofs.Ytngjhblbpapjeaa.H
/- Walks: the laws' own rows of substitutions: comparison, marks. No condition. -/
namespace Go.Proofs.Ytngjhblbpapjeaa.H
open Go Go.RowKit Go.Proofs.YtngjhblbpapjeaaW.PrintWords Go.Proofs.YtngjhblbpapjeaaW.PrintLast
open Go.Proofs.Ytngjhblbpapjeaa.Reg (On on_draw)
set_option maxHeartbeats 4000000
set_option maxRecDepth 100000
set_option linter.unusedVariables false
set_option linter.unusedSimpArgs false

theorem two_get {α β : Type} (f g : α → β) : ∀ (l : List α) (i : Nat) (h : i < l.length), (l.flatMap fun x => [f x, g x])[2 * i]? = some (f l[i]) ∧ (l.flatMap fun x => [f x, g x])[2 * i + 1]? = some (g l[i])
  | [], i, h => by simp at h
  | x :: l, 0, h => by simp
  | x :: l, i + 1, h => by
    obtain ⟨h1, h2⟩ := two_get f g l i (by simpa using h)
    have e : (x :: l).flatMap (fun x => [f x, g x]) = f x :: g x :: l.flatMap fun x => [f x, g x] := rfl
    rw [e, show 2 * (i + 1) = 2 * i + 1 + 1 by omega, show 2 * i + 1 + 1 + 1 = (2 * i + 1) + 1 + 1 by omega]
    simp only [List.getElem?_cons_succ, List.getElem_cons_succ]
    exact ⟨h1, h2⟩
theorem two_len {α β : Type} (f g : α → β) (l : List α) : (l.flatMap fun x => [f x, g x]).length = 2 * l.length := by
  induction l with
  | nil => rfl
  | cons x l ih => rw [List.flatMap_cons, List.length_append, ih]; simp; omega
theorem flH_at {hs : List SHd} {i : Nat} (h : i < hs.length) : (flH hs)[2 * i]? = some ((0 : Int), hs[i].1) ∧ (flH hs)[2 * i + 1]? = some ((0 : Int), hs[i].2) := two_get (fun h : SHd => (((0 : Int), h.1) : Hdr)) (fun h => ((0 : Int), h.2)) hs i h
theorem flH_len (hs : List SHd) : (flH hs).length = 2 * hs.length := two_len (fun h : SHd => (((0 : Int), h.1) : Hdr)) (fun h => ((0 : Int), h.2)) hs
theorem flH_zero {hs : List SHd} {j : Nat} {a : Hdr} (h : (flH hs)[j]? = some a) : a.1 = 0 := by
  obtain ⟨x, _, hx⟩ := List.mem_flatMap.1 (List.mem_of_getElem? h)
  simp only [List.mem_cons, List.not_mem_nil, or_false] at hx
  rcases hx with rfl | rfl <;> rfl
abbrev SHd0 (hs : List SHd) (i : Nat) (h : i < hs.length) : Hdr := ((0 : Int), hs[i].1)
theorem OS.at {w : World} {lo g n c : Nat} {L : List SHd} (h : OS w lo (.slice (some ⟨g, 0, none⟩) n c) L) (i : Nat) (hi : i < L.length) : w.cell? ⟨g, i * 2, none⟩ = some (slV L[i].1) ∧ w.cell? ⟨g, i * 2 + 1, none⟩ = some (slV L[i].2) := by
  have h1 := flat_get (enc := encS) (sz := 2) (fun _ => rfl) L i 0 hi (by omega)
  have h2 := flat_get (enc := encS) (sz := 2) (fun _ => rfl) L i 1 hi (by omega)
  have hn : n = L.length := by
    rcases h.2 with ⟨e, _⟩ | ⟨g', cap, cur, e, _⟩
    · cases e
    · injection e
  subst hn
  have hb : i * 2 + 2 ≤ L.length * 2 := by omega
  exact ⟨(h.cellAt (i * 2) (by omega)).trans h1, (h.cellAt (i * 2 + 1) (by omega)).trans h2⟩
/-- Rows that a mark writes. -/
def rowsM (k : Int) : List Nat → List Fct
  | [] => []
  | m :: l => ((0 : Int), markI k m) :: rowsM (k + m) l
theorem rowsM_len (k : Int) (l : List Nat) : (rowsM k l).length = l.length := by
  induction l generalizing k with
  | nil => rfl
  | cons m l ih => simp [rowsM, ih]
theorem rowsM_get (k : Int) (l : List Nat) (j : Nat) (h : j < l.length) : (rowsM k l)[j]? = some ((0 : Int), markI (k + (l.take j).sum) l[j]) := by
  induction l generalizing k j with
  | nil => simp at h
  | cons m l ih =>
    cases j with
    | zero => simp [rowsM]
    | succ j =>
      have := ih (k + m) j (by simpa using h)
      simp only [rowsM, List.getElem?_cons_succ, List.take_succ_cons, List.sum_cons, List.getElem_cons_succ]
      rw [this]
      congr 3
      rw [Int.natCast_add]; omega
def rlen (rows : List Fct) : Nat := (rows.map fun f => f.2.length).sum
theorem sum_take_succ (l : List Nat) (j : Nat) (h : j < l.length) : (l.take (j + 1)).sum = (l.take j).sum + l[j] := by
  rw [List.take_succ_eq_append_getElem h, List.sum_append]; simp
theorem sum_take_le (l : List Nat) (j : Nat) : (l.take j).sum ≤ l.sum := by
  conv => rhs; rw [← List.take_append_drop j l, List.sum_append]
  omega
/-- A row of substitutions of one's own, the rows lying apart. -/
structure ORw (w : World) (lo : Nat) (v : Value) (rows : List Fct) : Prop where mk :: (out : ∃ hs, OS w lo v hs ∧ Sep w lo (flH hs) rows)
structure ORq (w : World) (lo hi : Nat) (v : Value) (rows : List Fct) : Prop where mk :: (out : ∃ hs, OS w lo v hs ∧ Sep w lo (flH hs) rows ∧ (∀ b, v.ownBlock = some b → b < hi) ∧ ∀ (i : Nat) (a : Hdr) (b : Nat), (flH hs)[i]? = some a → (hdV a).ownBlock = some b → b < hi)
structure RRw (w : World) (v : Value) (rows : List Fct) : Prop where mk :: (out : ∃ A c n, v = .slice A n c ∧ rows.length = 2 * n ∧ n ≤ 9223372036854775807 ∧ ∀ (i : Nat), i < n → ∀ f g : Fct, rows[2 * i]? = some f → rows[2 * i + 1]? = some g → ∃ ad A1 c1 A2 c2, A = some ad ∧ w.cell? (ad.add (i * 2)) = some (.slice A1 f.2.length c1) ∧ w.cell? ⟨(ad.add (i * 2)).block, (ad.add (i * 2)).off + 1, none⟩ = some (.slice A2 g.2.length c2) ∧ Ints w A1 c1 f.2 ∧ Ints w A2 c2 g.2)
theorem ORw.b {w : World} {lo : Nat} {v : Value} {rows : List Fct} (h : ORw w lo v rows) : ORq w lo w.heap.size v rows := by
  obtain ⟨hs, h1, h2⟩ := h.out
  exact ⟨hs, h1, h2, fun b hb => own_lt h1 b hb, fun i a b ha hb => (h2.lt ha hb).2⟩
theorem ORq.n {w : World} {lo hi : Nat} {v : Value} {rows : List Fct} (h : ORq w lo hi v rows) : ORw w lo v rows := by
  obtain ⟨hs, h1, h2, _⟩ := h.out
  exact ⟨hs, h1, h2⟩
theorem ORw.lower {w : World} {lo lo' : Nat} {v : Value} {rows : List Fct} (h : ORw w lo v rows) (hl : lo' ≤ lo) : ORw w lo' v rows := by
  obtain ⟨hs, h1, h2⟩ := h.out
  exact ⟨hs, own_lower h1 hl, h2.lower hl⟩
theorem ORq.on {W w : World} {lo hi : Nat} {v : Value} {rows : List Fct} (h : ORq W lo hi v rows) (hb : On W w) : ORq w lo hi v rows := by
  obtain ⟨hs, h1, h2, h3, h4⟩ := h.out
  exact ⟨hs, pw_own_below h1 hb, h2.on hb, h3, h4⟩
theorem ORq.ex {S : Nat → Prop} {W w : World} {lo hi : Nat} {v : Value} {rows : List Fct} (h : ORq W lo hi v rows) (k : Ex S W w) (hS : ∀ b, lo ≤ b → b < hi → ¬ S b) : ORq w lo hi v rows := by
  obtain ⟨hs, h1, h2, h3, h4⟩ := h.out
  exact ⟨hs, own_ex h1 k (fun i hi => hS i (own_base h1 i hi) (h3 i hi)), h2.ex k (fun i a b ha hb => hS b (h2.lt ha hb).1 (h4 i a b ha hb)), h3, h4⟩
theorem ORw.read {w : World} {lo : Nat} {v : Value} {rows : List Fct} (h : ORw w lo v rows) : RRw w v rows := by
  obtain ⟨hs, h1, h2⟩ := h.out
  obtain ⟨A, c, rfl, hR⟩ := OS.slice h1
  have hl := h2.len
  rw [flH_len] at hl
  refine ⟨A, c, hs.length, rfl, hl.symm, hR.max, fun i hi f g hf hg => ?_⟩
  obtain ⟨g0, rfl⟩ := own_at0 h1 (by omega)
  obtain ⟨e1, e2⟩ := flH_at hi
  obtain ⟨_, n1, i1⟩ := h2.reads.at_ _ _ _ e1 hf
  obtain ⟨_, n2, i2⟩ := h2.reads.at_ _ _ _ e2 hg
  obtain ⟨c1, c2⟩ := OS.at h1 i hi
  refine ⟨_, _, _, _, _, rfl, ?_, ?_, i1, i2⟩
  · rw [add_zero0, c1]
    show some (Value.slice _ hs[i].1.2.1 _) = _
    rw [show hs[i].1.2.1 = f.2.length from n1]
  · rw [add_zero0]
    show w.cell? ⟨g0, i * 2 + 1, none⟩ = _
    rw [c2]
    show some (Value.slice _ hs[i].2.2.1 _) = _
    rw [show hs[i].2.2.1 = g.2.length from n2]
theorem ORq.read {w : World} {lo hi : Nat} {v : Value} {rows : List Fct} (h : ORq w lo hi v rows) : RRw w v rows := h.n.read
theorem RRw.on {W w : World} {v : Value} {rows : List Fct} (h : RRw W v rows) (hb : On W w) : RRw w v rows := by
  obtain ⟨A, c, n, e, h1, h2, h3⟩ := h.out
  refine ⟨A, c, n, e, h1, h2, fun i hi f g hf hg => ?_⟩
  obtain ⟨ad, A1, c1, A2, c2, e1, k1, k2, k3, k4⟩ := h3 i hi f g hf hg
  exact ⟨ad, A1, c1, A2, c2, e1, (hb.eq _ (by rw [k1]; rfl)).trans k1, (hb.eq _ (by rw [k2]; rfl)).trans k2, k3.on hb, k4.on hb⟩
theorem RRw.shape {w : World} {v : Value} {rows : List Fct} (h : RRw w v rows) : ∃ A n c, v = .slice A n c := by
  obtain ⟨A, c, n, e, _⟩ := h.out
  exact ⟨A, n, c, e⟩
theorem eqSS_calls (w : World) (v u : Value) (rows : List Fct) (h : RRw w v rows) (k : RRw w u rows) : Calls Try.prog 51 #[v, u] w fun e w' => e = .returned (.bool true) ∧ On w w' := by
  obtain ⟨A, c, n, rfl, h1, h2, h3⟩ := h.out
  obtain ⟨B, d, m, rfl, k1, k2, k3⟩ := k.out
  obtain rfl : m = n := by omega
  have h' := Aside0.mk h
  have k' := Aside0.mk k
  have h1' := Aside0.mk h1
  clear h k h3 k3 h1 k1
  go_enter Try.func51, Try.ntmps51
  go_wp2
  go_loopw [5] (fun x wr => ∃ i : Nat, i ≤ m ∧ x = .int .i64 i ∧ Aside0 (On w wr)) (fun x _ => m - (intOf x).toNat)
  case atStart => exact ⟨0, Nat.zero_le _, rfl, ⟨On.refl _⟩⟩
  case round =>
    obtain ⟨i, hi, rfl, hB⟩ := hrel
    by_cases hlt : i < m
    · obtain ⟨A', c', n', e, q1, q2, q3⟩ := (h'.out.on hB.out).out
      injection e with e1 e2 e3
      subst e1 e2 e3
      obtain ⟨B', d', m', e, p1, p2, p3⟩ := (k'.out.on hB.out).out
      injection e with e1 e2 e3
      subst e1 e2 e3
      have hl := h1'.out
      obtain ⟨f, hf⟩ : ∃ f, rows[2 * i]? = some f := ⟨_, List.getElem?_eq_getElem (by omega)⟩
      obtain ⟨g, hg⟩ : ∃ g, rows[2 * i + 1]? = some g := ⟨_, List.getElem?_eq_getElem (by omega)⟩
      obtain ⟨ad, A1, c1, A2, c2, rfl, x1, x2, x3, x4⟩ := q3 i hlt f g hf hg
      obtain ⟨bd, B1, d1, B2, d2, rfl, y1, y2, y3, y4⟩ := p3 i hlt f g hf hg
      have x3' := Aside0.mk x3
      have x4' := Aside0.mk x4
      have y3' := Aside0.mk y3
      have y4' := Aside0.mk y4
      clear q1 q2 q3 p1 p2 p3 hf hg x3 x4 y3 y4 hl
      go_wp2
      refine Reg.region [(0,.L),(1,.L),(2,.L),(3,.L),(4,.L),(5,.L),(6,.L),(7,.L),(8,.C),(9,.L)] [] (by kernel_rfl) (by kernel_rfl) ?_
      repeat first | refine sP ?_ | refine sS ?_ | refine sA ?_ | refine sL ?_ | refine sQ ?_ | refine sO ?_
      refine callC (.bool true) Try.func28 (fun w' hS => ?_) ?_
      focus exact eqSubstitution_calls w' A1 c1 A2 c2 B1 d1 B2 d2 _ _ (x3'.out.on hS) (x4'.out.on hS) (y3'.out.on hS) (y4'.out.on hS)
      repeat first | refine sP ?_ | refine sS ?_ | refine sA ?_ | refine sL ?_ | refine sQ ?_ | refine sO ?_
      refine Reg.nil fun w2 hS => ?_
      go_wp2
      exact ⟨⟨i + 1, by omega, by go_num, ⟨hB.out.trans hS⟩⟩, by simp [intOf]; omega⟩
    · go_wp2
      go_ret
      exact ⟨rfl, hB.out⟩
theorem Sep.mark {w w2 : World} {lo : Nat} {hs : List SHd} {rows : List Fct} {j : Nat} {a : Hdr} {ys : List Int} (h : Sep w lo (flH hs) rows) (ha : (flH hs)[j]? = some a) (hE : Ex (fun b => some b = (hdV a).ownBlock) w w2) (hO : OI w2 lo (hdV a) ys) (hR : InR ys) : Sep w2 lo (flH hs) (rows.set j ((0 : Int), ys)) := by
  obtain ⟨hj, e⟩ := List.getElem?_eq_some_iff.1 ha
  have h1 := Sep.upd (w := w2) (x := 0) (ys := ys) h hj (fun k b c hk hb hc => hE.block c (h.lt hb hc).2 (fun e1 => hk (h.apart k j b a c hb ha hc e1.symm))) (by rw [e]; exact hO) hR
  have e2 : (flH hs).set j ((0 : Int), (flH hs)[j].2) = flH hs := by
    have h0 := flH_zero ha
    rw [e]
    have e3 : ((0 : Int), a.2) = (flH hs)[j] := by rw [e, ← h0]
    rw [e3, List.set_getElem_self]
  rwa [e2] at h1
theorem rows_step (k : Int) (l : List Nat) (rows : List Fct) (j : Nat) (hl : l.length = rows.length) (hj : j < l.length) : ((rowsM k l).take j ++ rows.drop j).set j ((0 : Int), markI (k + (l.take j).sum) l[j]) = (rowsM k l).take (j + 1) ++ rows.drop (j + 1) := by
  have hm := rowsM_len k l
  rw [List.drop_eq_getElem_cons (by omega), set_mid _ _ _ _ j (by rw [List.length_take]; omega)]
  have h1 := rowsM_get k l j hj
  obtain ⟨h2, h3⟩ := List.getElem?_eq_some_iff.1 h1
  rw [List.take_succ_eq_append_getElem h2, h3, List.append_assoc]
  rfl
theorem mark_one {wr : World} {lo hi : Nat} {v : Value} {hs : List SHd} {rows : List Fct} {l : List Nat} {k0 m : Int} {j : Nat} {a : Hdr} (hl : lens rows = l) (hj : j < l.length) (hO : OS wr lo v hs) (hS : Sep wr lo (flH hs) ((rowsM k0 l).take j ++ rows.drop j)) (ha : (flH hs)[j]? = some a)
    (hh : ∀ b, (hdV a).ownBlock = some b → b < hi) (hm : k0 + ((l.take j).sum : Nat) = m) (h0 : 1 ≤ k0) (h1 : k0 + (l.sum : Nat) ≤ 10000000) :
    a.2.2.1 = l[j] ∧ Calls Try.prog 19 #[hdV a, .int .i64 m] wr fun e w1 => e = .returned (.int .i64 (m + (l[j] : Nat))) ∧ OS w1 lo v hs ∧ Sep w1 lo (flH hs) ((rowsM k0 l).take (j + 1) ++ rows.drop (j + 1)) ∧ Ex (fun b => lo ≤ b ∧ b < hi) wr w1 := by
  have hll : l.length = rows.length := by rw [← hl]; simp [lens]
  have hml := rowsM_len k0 l
  have hf : ((rowsM k0 l).take j ++ rows.drop j)[j]? = some (rows[j]'(by omega)) := by
    rw [List.getElem?_append_right (by rw [List.length_take]; omega), List.length_take, List.getElem?_drop, show j + (j - min j (rowsM k0 l).length) = j by omega]
    exact List.getElem?_eq_getElem _
  have hfl : (rows[j]'(by omega)).2.length = l[j] := by subst hl; simp [lens]
  obtain ⟨_, o0, _⟩ := hS.at_ _ _ _ ha hf
  have hn : a.2.2.1 = l[j] := by
    obtain ⟨A, c, e⟩ := own_slice o0
    injection e with _ e _
    rw [e, hfl]
  have q1 := sum_take_succ l j hj
  have q2 := sum_take_le l (j + 1)
  refine ⟨hn, (markIntS_calls wr lo (hdV a) _ m o0 (by omega) (by omega)).mono fun e w1 h => ?_⟩
  obtain ⟨rfl, hM, hE⟩ := h
  refine ⟨by rw [hfl], own_ex hO hE (fun i h1 h2 => own_ne_blk o0 hO (by decide) h2.symm h1), ?_, hE.mono fun i e => ⟨own_base o0 i e.symm, hh i e.symm⟩⟩
  have h := hS.mark ha hE hM (markI_inR _ _ (by omega) (by omega))
  rw [hfl, ← hm, rows_step k0 l rows j hll hj] at h
  exact h
theorem mkSS_calls (w : World) (lo hi : Nat) (v : Value) (rows : List Fct) (k0 : Int) (h : ORq w lo hi v rows) (h0 : 1 ≤ k0) (h1 : k0 + rlen rows ≤ 10000000) : Calls Try.prog 52 #[v, .int .i64 k0] w fun e w' => e = .returned (.int .i64 (k0 + rlen rows)) ∧ ORq w' lo hi v (rowsM k0 (lens rows)) ∧ Ex (fun b => lo ≤ b ∧ b < hi) w w' := by
  obtain ⟨hs, hO, hS, hh1, hh2⟩ := h.out
  have hlen : rows.length = 2 * hs.length := by rw [← hS.len, flH_len]
  obtain ⟨l, hl⟩ : ∃ l, lens rows = l := ⟨_, rfl⟩
  have hll : l.length = rows.length := by rw [← hl]; simp [lens]
  have hrl : rlen rows = l.sum := by rw [← hl]; rfl
  rw [hrl] at h1 ⊢
  rw [hl]
  rcases hO.2 with ⟨rfl, hn⟩ | ⟨g, c, cur, rfl, hg, _⟩
  · obtain rfl : hs = [] := List.eq_nil_of_length_eq_zero hn
    obtain rfl : rows = [] := List.eq_nil_of_length_eq_zero (by simpa using hlen)
    obtain rfl : l = [] := List.eq_nil_of_length_eq_zero (by simpa using hll)
    go_enter Try.func52, Try.ntmps52
    go_wp2
    go_loop [5, 1] (fun v5 v1 => v5 = .int .i64 0 ∧ v1 = .int .i64 k0) (fun v _ => 0)
    case atStart => exact ⟨rfl, rfl⟩
    case round =>
      obtain ⟨rfl, rfl⟩ := hrel
      go_wp2
      go_ret
      exact ⟨by simp, h, Ex.refl _ _⟩
  · have hm := (own_capmax hO).2
    have hO' := Aside0.mk hO
    have hS' := Aside0.mk hS
    have hh1' := Aside0.mk hh1
    have hh2' := Aside0.mk hh2
    have hlen' := Aside0.mk (show l.length = 2 * hs.length by omega)
    have hll' := Aside0.mk hll
    have hl' := Aside0.mk hl
    have h1' := Aside0.mk h1
    clear hO hS hh1 hh2 h hl hg hlen hll hrl h1
    go_enter Try.func52, Try.ntmps52
    go_wp2
    go_loopw [5, 1] (fun v5 v1 wr => ∃ (k : Nat), k ≤ hs.length ∧ v5 = .int .i64 k ∧ v1 = .int .i64 (k0 + ((l.take (2 * k)).sum : Nat)) ∧ Aside0 (OS wr lo (.slice (some ⟨g, 0, none⟩) hs.length c) hs) ∧ Aside0 (Sep wr lo (flH hs) ((rowsM k0 l).take (2 * k) ++ rows.drop (2 * k))) ∧ Aside0 (Ex (fun b => lo ≤ b ∧ b < hi) w wr)) (fun v5 _ _ => hs.length - (intOf v5).toNat)
    case atStart => exact ⟨0, Nat.zero_le _, rfl, by simp, hO', by simpa using hS', ⟨Ex.refl _ _⟩⟩
    case round =>
      obtain ⟨k, hk, rfl, rfl, hO, hS, hE⟩ := hrel
      by_cases hlt : k < hs.length
      · have hj0 : 2 * k < l.length := by have := hlen'.out; omega
        have hj1 : 2 * k + 1 < l.length := by have := hlen'.out; omega
        obtain ⟨a0, a1⟩ := flH_at hlt
        obtain ⟨x0, x1⟩ := OS.at hO.out k hlt
        obtain ⟨⟨y, z⟩, hyz⟩ : ∃ p : SHd, hs[k] = p := ⟨_, rfl⟩
        rw [hyz] at a0 a1 x0 x1
        have hyz' := Aside0.mk hyz
        have a1' := Aside0.mk a1
        have q2 := Aside0.mk (sum_take_succ l (2 * k) hj0)
        have q3 := Aside0.mk (sum_take_succ l (2 * k + 1) hj1)
        have hj1' := Aside0.mk hj1
        obtain ⟨m, hm0⟩ : ∃ m : Int, k0 + ((l.take (2 * k)).sum : Nat) = m := ⟨_, rfl⟩
        have hc1 := (mark_one hl'.out hj0 hO.out hS.out a0 (fun b hb => hh2'.out _ _ b a0 hb) hm0 h0 h1'.out).2
        obtain ⟨p, hp⟩ : ∃ p, l[2 * k] = p := ⟨_, rfl⟩
        obtain ⟨q, hq⟩ : ∃ q, l[2 * k + 1] = q := ⟨_, rfl⟩
        rw [hp] at q2 hc1
        rw [hq] at q3
        have hm0' := Aside0.mk hm0
        have hq' := Aside0.mk hq
        have hc1' := Aside0.mk hc1
        rw [hm0]
        obtain ⟨y1, y2, y3⟩ := y
        obtain ⟨z1, z2, z3⟩ := z
        clear hm0 hp hq a0 a1 hc1 hyz
        go_wp2_with (refine gate 18 ?_)
        refine ⟨goesF 18 Try.func19 (hc1'.out.mono ?_)⟩
        rintro e w1 ⟨rfl, hO1, hS1, hE1⟩
        refine ⟨_, rfl, ?_⟩
        have hm1 : k0 + ((l.take (2 * k + 1)).sum : Nat) = m + p := by have := q2.out; have := hm0'.out; omega
        have hc2 := (mark_one hl'.out hj1'.out hO1 hS1 a1'.out (fun b hb => hh2'.out _ _ b a1'.out hb) hm1 h0 h1'.out).2
        rw [hq'.out] at hc2
        obtain ⟨x0', x1'⟩ := OS.at hO1 k hlt
        rw [hyz'.out] at x1'
        have hc2' := Aside0.mk hc2
        have hE1' := Aside0.mk hE1
        clear hm1 hc2 hO1 hS1 hE1 x0 x1 x0'
        go_wp2_with (refine gate 25 ?_)
        refine ⟨goesF 25 Try.func19 (hc2'.out.mono ?_)⟩
        rintro e w2 ⟨rfl, hO2, hS2, hE2⟩
        refine ⟨_, rfl, ?_⟩
        have hO2' := Aside0.mk hO2
        have hS2' := Aside0.mk hS2
        have hE2' := Aside0.mk hE2
        clear hO2 hS2 hE2 x1'
        go_wp2
        refine ⟨⟨k + 1, by omega, by go_num, ?_, hO2', ?_, ⟨(hE.out.trans hE1'.out (fun _ _ h => h)).trans hE2'.out (fun _ _ h => h)⟩⟩, by simp [intOf]; omega⟩
        · rw [show 2 * (k + 1) = 2 * k + 1 + 1 by omega]
          congr 1
          have := q2.out; have := q3.out; have := hm0'.out
          omega
        · rw [show 2 * (k + 1) = 2 * k + 1 + 1 by omega]
          exact hS2'
      · obtain rfl : k = hs.length := by omega
        have e1 : l.take (2 * hs.length) = l := List.take_of_length_le (by have := hlen'.out; omega)
        have e2 : (rowsM k0 l).take (2 * hs.length) ++ rows.drop (2 * hs.length) = rowsM k0 l := by
          rw [List.take_of_length_le (by rw [rowsM_len]; have := hlen'.out; omega), List.drop_of_length_le (by have := hlen'.out; have := hll'.out; omega), List.append_nil]
        rw [e2] at hS
        go_wp2
        go_ret
        exact ⟨ret_int (by rw [e1]), ⟨hs, hO.out, hS.out, hh1'.out, hh2'.out⟩, hE.out⟩
theorem hdSS_calls (w : World) (v : Value) (rows : List Fct) (k0 : Int) (h : RRw w v (rowsM k0 (lens rows))) (h0 : 1 ≤ k0) (h1 : k0 + rlen rows ≤ 10000000) : Calls Try.prog 53 #[v, .int .i64 k0] w fun e w' => e = .returned (.int .i64 (k0 + rlen rows)) ∧ On w w' := by
  obtain ⟨l, hl⟩ : ∃ l, lens rows = l := ⟨_, rfl⟩
  have hrl : rlen rows = l.sum := by rw [← hl]; rfl
  rw [hrl] at h1 ⊢
  rw [hl] at h
  clear hrl hl
  obtain ⟨A, c, n, rfl, hln, hm, _⟩ := h.out
  rw [rowsM_len] at hln
  have h' := Aside0.mk h
  have h1' := Aside0.mk h1
  have hln' := Aside0.mk hln
  clear h h1 hln
  go_enter Try.func53, Try.ntmps53
  go_wp2
  go_loopw [5, 1] (fun v5 v1 wr => ∃ (k : Nat), k ≤ n ∧ v5 = .int .i64 k ∧ v1 = .int .i64 (k0 + ((l.take (2 * k)).sum : Nat)) ∧ Aside0 (On w wr)) (fun v5 _ _ => n - (intOf v5).toNat)
  case atStart => exact ⟨0, Nat.zero_le _, rfl, by simp, ⟨On.refl _⟩⟩
  case round =>
    obtain ⟨k, hk, rfl, rfl, hB⟩ := hrel
    by_cases hlt : k < n
    · have hj0 : 2 * k < l.length := by have := hln'.out; omega
      have hj1 : 2 * k + 1 < l.length := by have := hln'.out; omega
      obtain ⟨A', c', n', e, _, _, q3⟩ := (h'.out.on hB.out).out
      injection e with e1 e2 e3
      subst e1 e2 e3
      obtain ⟨ad, A1, c1, A2, c2, rfl, x0, x1, i1, i2⟩ := q3 k hlt _ _ (rowsM_get k0 l _ hj0) (rowsM_get k0 l _ hj1)
      have q2 := Aside0.mk (sum_take_succ l (2 * k) hj0)
      have q4 := Aside0.mk (sum_take_succ l (2 * k + 1) hj1)
      have q5 := Aside0.mk (sum_take_le l (2 * k + 1 + 1))
      obtain ⟨p, hp⟩ : ∃ p, l[2 * k] = p := ⟨_, rfl⟩
      obtain ⟨q, hq⟩ : ∃ q, l[2 * k + 1] = q := ⟨_, rfl⟩
      obtain ⟨m, hm0⟩ : ∃ m : Int, k0 + ((l.take (2 * k)).sum : Nat) = m := ⟨_, rfl⟩
      have hm1 : k0 + ((l.take (2 * k + 1)).sum : Nat) = m + p := by have := q2.out; rw [hp] at this; omega
      rw [hp] at q2
      rw [hq] at q4
      simp only [hm0, hm1, hp, hq, markI_len] at x0 x1 i1 i2
      have hmb := Aside0.mk (show 1 ≤ m ∧ m + p + q ≤ 10000000 by have := q2.out; have := q4.out; have := q5.out; have := h1'.out; omega)
      have hn1 : decide (m + (p : Int) < 0) = false := decide_eq_false (by have := hmb.out; omega)
      have hn2 : decide (m + (p : Int) + (q : Int) < 0) = false := decide_eq_false (by have := hmb.out; omega)
      have i1' := Aside0.mk i1
      have i2' := Aside0.mk i2
      have hm0' := Aside0.mk hm0
      rw [hm0]
      clear hm0 hm1 hp hq hj0 hj1 q3 i1 i2 q5
      go_wp2_with (refine gate 18 ?_)
      refine ⟨goesF 18 Try.func20 ((heldIntS_calls _ A1 c1 p m i1'.out (by have := hmb.out; omega) (by have := hmb.out; omega)).mono ?_)⟩
      rintro e w1 ⟨rfl, hb1⟩
      refine ⟨_, rfl, ?_⟩
      replace x0 := (hb1.eq _ (by rw [x0]; rfl)).trans x0
      replace x1 := (hb1.eq _ (by rw [x1]; rfl)).trans x1
      go_wp2_with (refine gate 27 ?_)
      refine ⟨goesF 27 Try.func20 ((heldIntS_calls _ A2 c2 q (m + p) (i2'.out.on hb1) (by have := hmb.out; omega) (by have := hmb.out; omega)).mono ?_)⟩
      rintro e w2 ⟨rfl, hb2⟩
      refine ⟨_, rfl, ?_⟩
      go_wp2
      refine ⟨⟨k + 1, by omega, by go_num, ?_, ⟨(hB.out.trans hb1).trans hb2⟩⟩, by simp [intOf]; omega⟩
      rw [show 2 * (k + 1) = 2 * k + 1 + 1 by omega]
      congr 1
      have := q2.out; have := q4.out; have := hm0'.out
      omega
    · have e1 : l.take (2 * k) = l := List.take_of_length_le (by have := hln'.out; omega)
      go_wp2
      go_ret
      exact ⟨ret_int (by rw [e1]), hB.out⟩
theorem sFindAll_calls (w : World) (A0 c0 A1 c1) (rs : List Rel) (fs : List Fct) (h0 : Rels w A0 c0 rs) (h1 : Fcts w A1 c1 fs) (A2 c2 A3 c3) (qs : List Rel) (gs : List Fct) (h2 : Rels w A2 c2 qs) (h3 : Fcts w A3 c3 gs) :
    Calls Try.prog 49 #[.agg #[.slice A0 rs.length c0, .slice A1 fs.length c1], .agg #[.slice A2 qs.length c2, .slice A3 gs.length c3]] w (Got fun v w' => ∃ hs, OS w' w.heap.size v hs ∧ SepS w' w.heap.size hs (subs rs fs qs gs 100) ∧ On w w') := by
  have hb := Aside0.mk (On.alloc (On.alloc (On.refl w) (.cells #[.slice A0 rs.length c0, .slice A1 fs.length c1] 32)) (.cells #[.slice A2 qs.length c2, .slice A3 gs.length c3] 32))
  go_enter Try.func49, Try.ntmps49
  go_wp2_with (refine gate 7 ?_)
  refine ⟨goesF 7 Try.func97 ((l7Homs_calls _ A0 c0 A1 c1 rs fs (h0.on hb.out) (h1.on hb.out) A2 c2 A3 c3 qs gs (h2.on hb.out) (h3.on hb.out) 100 (by omega) (by omega)).mono ?_)⟩
  rintro e w1 ⟨v1, rfl, hs, hO, hS, hb1⟩
  refine ⟨_, rfl, ?_⟩
  have hO' := Aside0.mk hO
  have hS' := Aside0.mk hS
  clear hO hS
  go_wp2
  go_ret
  exact ⟨_, rfl, hs, own_lower hO'.out hb.out.size, hS'.out.lower hb.out.size, hb.out.trans hb1⟩
def allF (r1 : List Rel) (f1 : List Fct) (r2 : List Rel) (f2 : List Fct) : List Fct := flF (subs r1 f1 r2 f2 100)
theorem rlen_flF (n : Nat) : ∀ ss : List Su, (∀ s ∈ ss, wS s.1 s.2 ≤ n) → rlen (flF ss) ≤ n * ss.length
  | [], _ => by simp [rlen, flF]
  | s :: ss, h => by
    have h1 := rlen_flF n ss fun x hx => h x (List.mem_cons_of_mem _ hx)
    have h2 := h s List.mem_cons_self
    have e : rlen (flF (s :: ss)) = s.1.length + s.2.length + rlen (flF ss) := by simp [rlen, flF]; omega
    rw [e, List.length_cons, Nat.mul_add, Nat.mul_one]
    unfold wS at h2
    omega
theorem allF_len (r1 : List Rel) (f1 : List Fct) (r2 : List Rel) (f2 : List Fct) : rlen (allF r1 f1 r2 f2) ≤ 8000 := by
  have h1 := rlen_flF 80 _ (subs_wS r1 f1 r2 f2 100)
  have h2 := (subs_len r1 f1 r2 f2 100 (by omega)).2
  unfold allF
  omega
end Go.Proofs.Ytngjhblbpapjeaa.H
