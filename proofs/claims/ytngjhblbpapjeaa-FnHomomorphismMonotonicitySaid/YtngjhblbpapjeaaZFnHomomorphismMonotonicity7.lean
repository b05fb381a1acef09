/- Walks and plain laws for the law FnHomomorphismMonotonicity, part 7 of 7: the texts HM14, HM15, HS6, HM16, HD6, HQFnHomomorphismMonotonicity in one. No condition. -/
import Derived.Test.YtngjhblbpapjeaaZFnHomomorphismMonotonicity6
/- Walks: the program's search, its end: a binding told as a substitution, the visit. No condition. -/
namespace Go.Proofs.Ytngjhblbpapjeaa.H
open Go Go.RowKit Go.Proofs.YtngjhblbpapjeaaW.PrintWords Go.Proofs.YtngjhblbpapjeaaW.PrintLast
open Go.Proofs.Ytngjhblbpapjeaa.Reg (On on_draw)
set_option maxHeartbeats 4000000
set_option maxRecDepth 100000
set_option linter.unusedVariables false
set_option linter.unusedSimpArgs false

abbrev visitor (b b2 : Nat) : Value := .func (.func 130) #[] #[.pointer (some ⟨b, 0, none⟩), .pointer (some ⟨b2, 0, none⟩)]
theorem getD_inR {l : List Int} (h : InR l) (j : Nat) : -9223372036854775808 ≤ l.getD j 10 ∧ l.getD j 10 ≤ 9223372036854775807 := by
  rw [List.getD_eq_getElem?_getD]
  cases e : l[j]? with
  | none => simp
  | some x => exact h x (List.mem_of_getElem? e)
theorem take_snoc {l : List Int} {k : Nat} {x : Int} (h : l[k]? = some x) : l.take (k + 1) = l.take k ++ [x] := by
  obtain ⟨hk, e⟩ := List.getElem?_eq_some_iff.1 h
  rw [List.take_succ_eq_append_getElem hk, e]
theorem searchBase_calls {w0 w : World} {lo b b2 : Nat} {most : Int} {v : Value} {hs : List SHd} {ss : List Su} (A0 c0 A1 m1 c1) (m n : Nat) (z : List Int) (hK : KS w0 w lo b b2 most v hs ss) (hl : hs.length ≤ 1000) (hM : BM w m n z) (hz : z.length = 40) (hR : InR z) (hn : n ≤ 1000000) :
    Calls Try.prog 129 #[.slice A0 0 c0, .slice A1 m1 c1, .map (some m), visitor b b2] w (Got fun r w' => ∃ v' zs, zs.length = hs.length + 1 ∧ r = .bool ((zs.length : Int) == most) ∧ KS w0 w' lo b b2 most v' zs (ss ++ [subI 0 z]) ∧ Fr b v v' w w') := by
  obtain ⟨D, hown, hm1, hh3, hh4⟩ := hM.out
  have hK' := Aside0.mk hK
  have hM' := Aside0.mk hM
  have hh3' := Aside0.mk hh3
  have hh4' := Aside0.mk hh4
  have hR' := Aside0.mk hR
  have hz' := Aside0.mk hz
  have hown' := Aside0.mk hown
  have hsk := Aside0.mk (Nat.le_trans hown.size_le hn)
  clear hK hM hm1 hh3 hh4 hR hz hown
  go_enter Try.func129, Try.ntmps129
  go_wp2_with (refine gate 20 ?_)
  refine ⟨goesF 20 Try.func152 ((keysOf_calls w m).mono ?_)⟩
  rintro e w1 ⟨rfl, rfl⟩
  refine ⟨_, rfl, ?_⟩
  refine goesF 21 Try.func151 ((sortedKeys_calls w m n D hown'.out hsk.out).mono ?_)
  rintro e w2 ⟨vN, ssK, rfl, hperm, hO0, hB0⟩
  refine ⟨_, rfl, ?_⟩
  have hq := keys_sorted hown'.out hz'.out (fun k hk => (hh3'.out k hk).1) hh4'.out hperm
  have hlen : ssK.length = (subI 0 z).1.length := by rw [← hq, List.length_mergeSort]
  have hOI : OI w2 (w.heap.size + 1) vN (subI 0 z).1 := by
    have h := hO0
    rw [hq, hlen, World.size_alloc] at h
    show World.ownsRow _ _ _ _ _ _ _
    rw [← encs_flat]
    exact h
  obtain ⟨N, hN⟩ : ∃ N, (subI 0 z).1 = N := ⟨_, rfl⟩
  obtain ⟨V, hV⟩ : ∃ V, (subI 0 z).2 = V := ⟨_, rfl⟩
  have hlV := Aside0.mk (show N.length = V.length ∧ N.length ≤ 40 by
    have h := subI_len 0 z
    rw [hN, hV] at h
    exact ⟨h.1, by have := hz'.out; omega⟩)
  have hget := Aside0.mk (show ∀ i, i < N.length → ∃ j, j < z.length ∧ N[i]? = some ((j : Nat) : Int) ∧ z.getD j 10 ≠ 10 ∧ V[i]? = some (z.getD j 10) from fun i hi => by
    have h := subI_get z 0 i (by rw [hN]; exact hi)
    rw [hN, hV] at h
    obtain ⟨j, h1, h2, h3, h4⟩ := h
    exact ⟨j, h1, by rw [h2, Nat.zero_add], h3, h4⟩)
  have hin := Aside0.mk (show InR N ∧ InR V by
    have h := subI_inR z 0 hR'.out (by have := hz'.out; omega)
    rw [hN, hV] at h
    exact h)
  rw [hN] at hOI
  obtain ⟨An, cn, rfl, hIN⟩ := OI.rd hOI hin.out.1
  have hOI' := Aside0.mk hOI
  have hIN' := Aside0.mk hIN
  have hmN := hIN.max
  have hB2 := Aside0.mk ((On.alloc (On.refl w) (.cells #[.map (some m)] 126)).trans hB0)
  have hNV := Aside0.mk (show subI 0 z = (N, V) by rw [← hN, ← hV])
  clear hperm hO0 hB0 hq hlen hOI hIN hN hV
  have hfill := alloc_fill w2
  go_wp2
  clear hfill
  obtain ⟨q, hq⟩ : ∃ q, w2.heap.size = q := ⟨_, rfl⟩
  have hyb := Aside0.mk (show (w2.alloc (.cells #[.slice An N.length cn, .slice none 0 0] 45)).heap[q]? = some (.cells #[.slice An N.length cn, .slice none 0 0] 45 (0, 0)) from by rw [← hq]; exact loc_new w2 #[.slice An N.length cn, .slice none 0 0] 45)
  have hE0 := Aside0.mk (On.alloc (On.refl w2) (.cells #[.slice An N.length cn, .slice none 0 0] 45))
  have hsy := Aside0.mk (show (w2.alloc (.cells #[.slice An N.length cn, .slice none 0 0] 45)).heap.size = q + 1 by simp [hq])
  have hq2 := Aside0.mk hq
  obtain ⟨Wy, hWy⟩ : ∃ Wy, w2.alloc (.cells #[.slice An N.length cn, .slice none 0 0] 45) = Wy := ⟨_, rfl⟩
  rw [hWy] at hyb hE0 hsy ⊢
  try rw [hq]
  clear hWy hq
  have hcy := blk_cell hyb.out
  go_loopw [26] (fun x wr => ∃ (k : Nat) (us : List Int) (B : Option Addr) (d : Nat), k ≤ N.length ∧ x = .int .i64 k ∧ Aside0 (us = V.take k) ∧ Aside0 (OI wr (q + 1) (.slice B us.length d) us) ∧ Aside0 (q + 1 ≤ wr.heap.size) ∧ Aside0 (On w2 wr) ∧ wr.heap[q]? = some (.cells #[.slice An N.length cn, .slice B us.length d] 45 (0, 0))) (fun x _ => N.length - (intOf x).toNat)
  case atStart => exact ⟨0, [], none, 0, Nat.zero_le _, rfl, ⟨rfl⟩, ⟨World.ownsRow_nil _ _ _ _⟩, ⟨by rw [hsy.out]; exact Nat.le_refl _⟩, hE0, hyb.out⟩
  case round =>
    obtain ⟨k, us, B, d, hk, rfl, hus, hO, hsz, hB, hyr⟩ := hrel
    have hcy := blk_cell hyr
    have hy' := Aside0.mk hyr
    have hul := Aside0.mk (show us.length ≤ 40 by rw [hus.out, List.length_take]; have := hlV.out; omega)
    clear hyr
    by_cases hlt : k < N.length
    · obtain ⟨j, hj, hNj, h10, hVj⟩ := hget.out k hlt
      obtain ⟨ad, rfl, hx⟩ := (hIN'.out.on hB.out).at k hlt
      have e1 : N[k] = (j : Int) := Option.some.inj ((List.getElem?_eq_getElem hlt).symm.trans hNj)
      rw [e1] at hx
      have hj' := Aside0.mk (show j < 40 by have := hz'.out; omega)
      have h10' := Aside0.mk h10
      have hMr := Aside0.mk (hM'.out.on (hB2.out.trans hB.out))
      have hsn := Aside0.mk (take_snoc hVj)
      clear e1 hj hNj h10 hVj
      go_wp2_with (refine gate 34 ?_)
      refine ⟨bmLook 34 hMr.out j hj'.out h10'.out ?_⟩
      obtain ⟨y, hy⟩ : ∃ y, z.getD j 10 = y := ⟨_, rfl⟩
      have hyR := Aside0.mk (show -9223372036854775808 ≤ y ∧ y ≤ 9223372036854775807 by rw [← hy]; exact getD_inR hR'.out j)
      rw [hy] at hsn ⊢
      clear hy
      go_wp2_with (refine gate 36 ?_)
      obtain ⟨zs, hzs⟩ : ∃ zs, us ++ [y] = zs := ⟨_, rfl⟩
      have hzs' := Aside0.mk hzs
      have hBl := Aside0.mk (On.alloc (On.refl wr) (.cells #[.int .i64 y] 3))
      refine ⟨apI 36 hzs (OI.to (pw_own_below hO.out hBl.out)) (lit_RI hyR.out (On.refl _)) (Nat.le_trans hsz.out hBl.out.size) (by have := hul.out; omega) fun v6 w6 hO6' hg6 hat6 => ?_⟩
      have hO6 := OI.of hO6'
      obtain ⟨A6, c6, rfl⟩ := own_slice hO6
      have hgy : some q ≠ Value.ownBlock (.slice B us.length d) := fun e => by have := own_base hO.out _ e.symm; omega
      have hk6 := blk_grown hg6 (blk_below hy'.out hBl.out) hgy
      have hcy6 := blk_cell hk6
      have hf6 := blk_frozen hk6
      have hk6' := Aside0.mk hk6
      have hB6 := Aside0.mk (own_grows (hB.out.trans hBl.out) (pw_own_below hO.out hBl.out) hg6 (by rw [hq2.out]; omega))
      have hs6 := Aside0.mk (Nat.le_trans (Nat.le_trans hsz.out hBl.out.size) hg6.size)
      have hO6a := Aside0.mk hO6
      clear hk6 hgy hcy hzs hat6 hO6' hO6 hg6 hx
      go_wp2
      refine ⟨⟨k + 1, zs, A6, c6, by omega, by go_num, ⟨by rw [← hzs'.out, hus.out]; exact hsn.out.symm⟩, ⟨ownsRow_setCell_below hO6a.out (by simp) _⟩, ⟨by have := hs6.out; simp [World.setCell]; omega⟩, ⟨Reg.On.set hB6.out (by rw [hq2.out]; simp) _⟩, blk_set hk6'.out 1 _⟩, by simp [intOf]; omega⟩
    · obtain rfl : us = V := by rw [hus.out]; exact List.take_of_length_le (by have := hlV.out; omega)
      have hBr := Aside0.mk (hB2.out.trans hB.out)
      have hSep : SepS wr w.heap.size [((An, N.length, cn), (B, us.length, d))] [subI 0 z] := by
        rw [hNV.out]
        refine SepS.one (own_lower (pw_own_below hOI'.out hB.out) (by omega)) (own_lower hO.out (by have := hB2.out.size; have := hq2.out; omega)) hin.out.1 hin.out.2 fun i h1 h2 => ?_
        have h3 := own_lt hOI'.out i h1
        have h4 := own_base hO.out i h2
        have := hq2.out
        omega
      have hSep' := Aside0.mk hSep
      clear hSep
      go_wp2_with (refine gate 41 ?_)
      refine ⟨goesC 41 Try.func130 (by kernel_rfl) rfl ((visit_calls hK'.out hBr.out hSep'.out hl).mono ?_)⟩
      rintro e w9 ⟨v', zs, hzl0, rfl, hK9, hF9⟩
      have hzl := Aside0.mk hzl0
      clear hzl0
      refine ⟨_, rfl, ?_⟩
      go_wp2
      go_ret
      exact ⟨_, rfl, v', zs, hzl.out, rfl, hK9, (Fr.of_on hBr.out).trans hF9⟩
end Go.Proofs.Ytngjhblbpapjeaa.H
/- Walks: the program's search. No condition. -/
namespace Go.Proofs.Ytngjhblbpapjeaa.H
open Go Go.RowKit Go.Proofs.YtngjhblbpapjeaaW.PrintWords Go.Proofs.YtngjhblbpapjeaaW.PrintLast
open Go.Proofs.Ytngjhblbpapjeaa.Reg (On on_draw)
set_option maxHeartbeats 4000000
set_option maxRecDepth 100000
set_option pp.deepTerms true
set_option linter.unusedVariables false
set_option linter.unusedSimpArgs false

theorem Fcts.tail {w : World} {A : Option Addr} {c : Nat} {f : Fct} {fs : List Fct} (h : Fcts w A c (f :: fs)) : Fcts w (if c = 1 then A else A.map (·.add (1 * 2))) (c - 1) fs := by
  have hr := Kd.C_drop (m := 1) (c := c) h.2.1 (by simp) h.1
  refine ⟨by have := h.1; simp at this; omega, hr, fun g hg => h.2.2 g (List.mem_cons_of_mem _ hg)⟩
def vals (fs : List Fct) : Nat := (fs.map fun f => f.2.length).sum
theorem vals_cons (f : Fct) (fs : List Fct) : vals (f :: fs) = f.2.length + vals fs := by simp [vals]
theorem search_calls (gs : List Fct) (hg10 : ∀ g ∈ gs, ∀ v ∈ g.2, v ≠ 10) (most : Nat) (hq : most ≤ 1000) : ∀ (fs : List Fct) {w0 w : World} {lo b b2 : Nat} {v : Value} {hs : List SHd} {ss : List Su} (A0 c0 A1 c1) (m n : Nat) (z : List Int) (h0 : Fcts w0 A0 c0 fs) (h1 : Fcts w0 A1 c1 gs) (hK : KS w0 w lo b b2 most v hs ss) (hl : hs.length < most) (hM : BM w m n z) (hz : z.length = 40) (hR : InR z) (hn : n + vals fs < 1000000),
    Calls Try.prog 129 #[.slice A0 fs.length c0, .slice A1 gs.length c1, .map (some m), visitor b b2] w (Got fun r w' => ∃ v' zs, r = .bool (decide (zs.length = most)) ∧ KS w0 w' lo b b2 most v' zs (ss ++ (walk gs fs z (most - hs.length)).map (subI 0)) ∧ Fr b v v' w w')
  | [], w0, w, lo, b, b2, v, hs, ss, A0, c0, A1, c1, m, n, z, h0, h1, hK, hl, hM, hz, hR, hn => by
    refine (searchBase_calls A0 c0 A1 gs.length c1 m n z hK (by omega) hM hz hR (by omega)).mono fun e w' hh => ?_
    obtain ⟨v1, rfl, v', zs, hzl, rfl, hK', hF⟩ := hh
    refine ⟨_, rfl, v', zs, ?_, hK', hF⟩
    congr 1
    by_cases h : zs.length = most
    · simp [h]
    · rw [decide_eq_false h, beq_eq_false_iff_ne]; omega
  | f :: fs, w0, w, lo, b, b2, v, hs, ss, A0, c0, A1, c1, m, n, z, h0, h1, hK, hl, hM, hz, hR, hn => by
    have ih := Aside0.mk (fun {w0 w : World} {lo b b2 : Nat} {v : Value} {hs : List SHd} {ss : List Su} => search_calls gs hg10 most hq fs (w0 := w0) (w := w) (lo := lo) (b := b) (b2 := b2) (v := v) (hs := hs) (ss := ss))
    have hm0 := h0.max
    have hm1 := h1.max
    have hc0 := h0.1
    have hK' := Aside0.mk hK
    have hM' := Aside0.mk hM
    have hz' := Aside0.mk hz
    have hR' := Aside0.mk hR
    have hn' := Aside0.mk (show n + f.2.length + vals fs < 1000000 by rw [vals_cons] at hn; omega)
    have hl' := Aside0.mk hl
    have hg' := Aside0.mk hg10
    have hwk := Aside0.mk (walk_cons gs fs f z (most - hs.length))
    have hwl := Aside0.mk (fun (y : List Int) (k : Nat) (hk : 1 ≤ k) => walk_len gs fs y k hk)
    have hfl : (f :: fs).length = fs.length + 1 := rfl
    have hfb : (((fs.length : Int) + 1) == 0) = false := by rw [beq_eq_false_iff_ne]; omega
    obtain ⟨i0, hi0, _, hszF, _⟩ := info_parts infoF
    have hcut := cut_from (P := Try.prog) 30 55 .i64 Try.underlying30 hi0 2 hszF A0 (f :: fs).length c0 (1 : Int) (by omega) (by rw [hfl]; omega)
    simp only [show (1 : Int).toNat = 1 from rfl, List.length_cons, Nat.add_sub_cancel] at hcut
    have hT0 := h0.tail
    obtain ⟨A', hA'⟩ : ∃ A', (if c0 = 1 then A0 else A0.map (·.add (1 * 2))) = A' := ⟨_, rfl⟩
    rw [hA'] at hT0 hcut
    have hT := Aside0.mk hT0
    have hcut' := Aside0.mk hcut
    clear hA' hT0
    clear hK hM hz hR hn hl hg10 hcut hi0 hszF
    go_enter Try.func129, Try.ntmps129
    go_wp2
    clear hfb
    go_loopw [44] (fun x wr => ∃ (i : Nat) (vk : Value) (hk : List SHd), i ≤ gs.length ∧ x = .int .i64 i ∧ Aside0 (KS w0 wr lo b b2 most vk hk (ss ++ ((gs.take i).foldl (wstep gs fs f z (most - hs.length)) []).map (subI 0))) ∧ Aside0 (hk.length < most) ∧ Aside0 (Fr b v vk w wr)) (fun x _ => gs.length - (intOf x).toNat)
    case atStart => exact ⟨0, v, hs, Nat.zero_le _, rfl, ⟨by simpa using hK'.out⟩, hl', ⟨Fr.of_on (On.refl _)⟩⟩
    case round =>
      obtain ⟨i, vk, hk, hi, rfl, hKr, hlk, hF⟩ := hrel
      have hMr := Aside0.mk (hM'.out.fr hF.out hK'.out.own hK'.out.box)
      by_cases hlt : i < gs.length
      · have hsucc := Aside0.mk (wfold_succ gs fs f z (most - hs.length) i hlt)
        have hlen := Aside0.mk (show hk.length = hs.length + ((gs.take i).foldl (wstep gs fs f z (most - hs.length)) []).length by
          have h1 := hKr.out.sep.len
          have h2 := hK'.out.sep.len
          rw [List.length_append, List.length_map] at h1
          omega)
        obtain ⟨ad, A5, c5, rfl, hx0, hx1, hx2⟩ := (h0.on hKr.out.on).at 0 (by simp)
        obtain ⟨bd, A6, c6, rfl, hy0, hy1, hy2⟩ := (h1.on hKr.out.on).at i hlt
        have hx2' := Aside0.mk (show Ints wr A5 c5 f.2 from hx2)
        have hy2' := Aside0.mk hy2
        replace hx0 : wr.cell? ad = some (.int .i64 f.1) := hx0
        replace hx1 : wr.cell? ⟨ad.block, ad.off + 1, none⟩ = some (.slice A5 f.2.length c5) := hx1
        clear hx2 hy2
        obtain ⟨g, hg⟩ : ∃ g, gs[i] = g := ⟨_, rfl⟩
        have hgm := Aside0.mk (show ∀ v ∈ g.2, v ≠ 10 from by rw [← hg]; exact hg'.out _ (List.getElem_mem hlt))
        rw [hg] at hy0 hy1 hy2' hsucc
        clear hg
        have hbx := Aside0.mk (On.alloc (On.refl wr) (.cells #[.int .i64 g.1, .slice A6 g.2.length c6] 55))
        have hcn := blk_cell (loc_new wr #[.int .i64 g.1, .slice A6 g.2.length c6] 55)
        have hfill := alloc_fill wr
        have hx0' := (hbx.out.eq _ (by rw [hx0]; rfl)).trans hx0
        have hx1' := (hbx.out.eq _ (by rw [hx1]; rfl)).trans hx1
        cases hf : fit f g z with
        | none =>
          have hf' := Aside0.mk hf
          clear hf
          go_wp2
          clear hfill
          refine Reg.region [(0,.L),(1,.L),(2,.L),(3,.L),(4,.L),(5,.N),(6,.L),(7,.L),(8,.P)] [9,10] (by kernel_rfl) (by kernel_rfl) ?_
          repeat first | refine sP ?_ | refine sS ?_ | refine sA ?_ | refine sL ?_ | refine sQ ?_ | refine sO ?_
          refine callN Try.func153 (fun w2 hS2 => ?_)
          have hB2 := Aside0.mk (hbx.out.trans hS2)
          refine (mapped_calls w2 m n A5 c5 A6 c6 f g z (hx2'.out.on hB2.out) (hy2'.out.on hB2.out) (hMr.out.on hB2.out) hR'.out hz'.out hgm.out (by have := hn'.out; omega)).mono ?_
          rintro e w3 ⟨v3, rfl, mv, rfl, hfit, hb3⟩
          rw [hf'.out]
          clear hfit
          refine ⟨_, rfl, hb3, fun a' ha => ?_⟩
          simp only [Act.put, List.setIfInBounds_toArray, List.set_cons_zero, List.set_cons_succ] at ha
          subst ha
          repeat first | refine sP ?_ | refine sS ?_ | refine sA ?_ | refine sL ?_ | refine sQ ?_ | refine sO ?_
          refine Reg.tail_ fun w4 hS4 => ?_
          have hB4 := Aside0.mk (hB2.out.trans (hb3.trans hS4))
          clear hx0 hx1 hy0 hy1 hx0' hx1' hcn
          go_wp2
          refine ⟨⟨i + 1, vk, hk, by omega, by go_num, ⟨?_⟩, hlk, ⟨hF.out.trans (Fr.of_on hB4.out)⟩⟩, by simp [intOf]; omega⟩
          rw [hsucc.out]
          rw [wstep_none (by have := hlen.out; have := hlk.out; omega) hf'.out]
          exact hKr.out.move hB4.out
        | some y =>
          have hf' := Aside0.mk hf
          clear hf
          have hst := Aside0.mk (wstep_some (tos := gs) (fs := fs) (most := most - hs.length) (out := (gs.take i).foldl (wstep gs fs f z (most - hs.length)) []) (by have := hlen.out; have := hlk.out; omega) hf'.out)
          have hbud := Aside0.mk (show most - hs.length - ((gs.take i).foldl (wstep gs fs f z (most - hs.length)) []).length = most - hk.length by have := hlen.out; omega)
          rw [hbud.out] at hst
          obtain ⟨wk, hwkk⟩ : ∃ wk, walk gs fs y (most - hk.length) = wk := ⟨_, rfl⟩
          have hwkl := Aside0.mk (show wk.length ≤ most - hk.length by rw [← hwkk]; exact hwl.out y _ (by have := hlk.out; omega))
          have hwkk' := Aside0.mk hwkk
          rw [hwkk] at hst
          clear hwkk
          by_cases hfull : hk.length + wk.length = most
          · have hfull' := Aside0.mk hfull
            clear hfull
            go_wp2
            clear hfill
            refine Reg.region [(0,.L),(1,.L),(2,.L),(3,.L),(4,.L),(5,.N),(6,.L),(7,.L),(8,.P)] [9,10] (by kernel_rfl) (by kernel_rfl) ?_
            repeat first | refine sP ?_ | refine sS ?_ | refine sA ?_ | refine sL ?_ | refine sQ ?_ | refine sO ?_
            refine callN Try.func153 (fun w2 hS2 => ?_)
            have hB2 := Aside0.mk (hbx.out.trans hS2)
            refine (mapped_calls w2 m n A5 c5 A6 c6 f g z (hx2'.out.on hB2.out) (hy2'.out.on hB2.out) (hMr.out.on hB2.out) hR'.out hz'.out hgm.out (by have := hn'.out; omega)).mono ?_
            rintro e w3 ⟨v3, rfl, mv, rfl, hfit, hb3⟩
            obtain ⟨b', rfl, hM3, hge, hRy, hly⟩ := hfit y hf'.out
            have hM3' := Aside0.mk hM3
            have hRy' := Aside0.mk hRy
            have hly' := Aside0.mk hly
            rw [hf'.out]
            clear hfit hM3 hRy hly hge
            refine ⟨_, rfl, hb3, fun a' ha => ?_⟩
            simp only [Act.put, List.setIfInBounds_toArray, List.set_cons_zero, List.set_cons_succ] at ha
            subst ha
            repeat first | refine sP ?_ | refine sS ?_ | refine sA ?_ | refine sL ?_ | refine sQ ?_ | refine sO ?_
            refine Reg.tail_ fun w4 hS4 => ?_
            have hB4 := Aside0.mk (hB2.out.trans (hb3.trans hS4))
            have hM4 := Aside0.mk (hM3'.out.on hS4)
            have hK4 := Aside0.mk (hKr.out.move hB4.out)
            clear hx0 hx1 hy0 hy1 hx0' hx1' hcn
            have hcut := hcut'.out
            have hend := Aside0.mk (wfold_stop gs fs f z (most - hs.length) (i + 1) (by rw [hsucc.out, hst.out, List.length_append]; have := hlen.out; have := hfull'.out; omega))
            go_wp2_with (go_at_call 129; refine Stop.out ?_)
            refine ⟨(ih.out A' (c0 - 1) (some bd) c1 b' (n + f.2.length) y hT.out h1 hK4.out hlk.out hM4.out hly'.out hRy'.out (by have := hn'.out; omega)).mono ?_⟩
            rintro e w5 ⟨r5, rfl, v5, h5, rfl, hK5, hF5⟩
            have hl5 := Aside0.mk (show h5.length = hk.length + wk.length by { have h1 := hK5.sep.len; have h2 := hKr.out.sep.len; rw [List.length_append, List.length_map, hwkk'.out] at h1; omega })
            rw [show decide (h5.length = most) = true from decide_eq_true (by have := hl5.out; have := hfull'.out; omega)]
            go_wp2
            go_ret
            refine ⟨_, rfl, v5, h5, congrArg Value.bool (decide_eq_true (show h5.length = most by have := hl5.out; have := hfull'.out; omega)).symm, ?_, hF.out.trans ((Fr.of_on hB4.out).trans hF5)⟩
            rw [hwk.out, hend.out, hsucc.out, hst.out, List.map_append, ← List.append_assoc, ← hwkk'.out]
            exact hK5
          · have hfull' := Aside0.mk hfull
            clear hfull
            go_wp2
            clear hfill
            refine Reg.region [(0,.L),(1,.L),(2,.L),(3,.L),(4,.L),(5,.N),(6,.L),(7,.L),(8,.P)] [9,10] (by kernel_rfl) (by kernel_rfl) ?_
            repeat first | refine sP ?_ | refine sS ?_ | refine sA ?_ | refine sL ?_ | refine sQ ?_ | refine sO ?_
            refine callN Try.func153 (fun w2 hS2 => ?_)
            have hB2 := Aside0.mk (hbx.out.trans hS2)
            refine (mapped_calls w2 m n A5 c5 A6 c6 f g z (hx2'.out.on hB2.out) (hy2'.out.on hB2.out) (hMr.out.on hB2.out) hR'.out hz'.out hgm.out (by have := hn'.out; omega)).mono ?_
            rintro e w3 ⟨v3, rfl, mv, rfl, hfit, hb3⟩
            obtain ⟨b', rfl, hM3, hge, hRy, hly⟩ := hfit y hf'.out
            have hM3' := Aside0.mk hM3
            have hRy' := Aside0.mk hRy
            have hly' := Aside0.mk hly
            rw [hf'.out]
            clear hfit hM3 hRy hly hge
            refine ⟨_, rfl, hb3, fun a' ha => ?_⟩
            simp only [Act.put, List.setIfInBounds_toArray, List.set_cons_zero, List.set_cons_succ] at ha
            subst ha
            repeat first | refine sP ?_ | refine sS ?_ | refine sA ?_ | refine sL ?_ | refine sQ ?_ | refine sO ?_
            refine Reg.tail_ fun w4 hS4 => ?_
            have hB4 := Aside0.mk (hB2.out.trans (hb3.trans hS4))
            have hM4 := Aside0.mk (hM3'.out.on hS4)
            have hK4 := Aside0.mk (hKr.out.move hB4.out)
            clear hx0 hx1 hy0 hy1 hx0' hx1' hcn
            have hcut := hcut'.out
            go_wp2_with (go_at_call 129; refine Stop.out ?_)
            refine ⟨(ih.out A' (c0 - 1) (some bd) c1 b' (n + f.2.length) y hT.out h1 hK4.out hlk.out hM4.out hly'.out hRy'.out (by have := hn'.out; omega)).mono ?_⟩
            rintro e w5 ⟨r5, rfl, v5, h5, rfl, hK5, hF5⟩
            have hl5 := Aside0.mk (show h5.length = hk.length + wk.length by { have h1 := hK5.sep.len; have h2 := hKr.out.sep.len; rw [List.length_append, List.length_map, hwkk'.out] at h1; omega })
            rw [show decide (h5.length = most) = false from decide_eq_false (by have := hl5.out; have := hfull'.out; omega)]
            go_wp2
            refine ⟨⟨i + 1, v5, h5, by omega, by go_num, ⟨?_⟩, ⟨by have := hl5.out; have := hfull'.out; have := hwkl.out; have := hlk.out; omega⟩, ⟨hF.out.trans ((Fr.of_on hB4.out).trans hF5)⟩⟩, by simp [intOf]; omega⟩
            rw [hsucc.out, hst.out, List.map_append, ← List.append_assoc, ← hwkk'.out]
            exact hK5
      · have e1 : gs.take i = gs := List.take_of_length_le (by omega)
        rw [e1] at hKr
        go_wp2
        go_ret
        refine ⟨_, rfl, vk, hk, congrArg Value.bool (decide_eq_false (show ¬ hk.length = most by have := hlk.out; omega)).symm, ?_, hF.out⟩
        rw [hwk.out]
        exact hKr.out
end Go.Proofs.Ytngjhblbpapjeaa.H
/- Walks: homomorphisms told, by both sides. No condition. -/
namespace Go.Proofs.Ytngjhblbpapjeaa.H
open Go Go.RowKit Go.Proofs.YtngjhblbpapjeaaW.PrintWords Go.Proofs.YtngjhblbpapjeaaW.PrintLast
open Go.Proofs.Ytngjhblbpapjeaa.Reg (On on_draw)
set_option maxHeartbeats 4000000
set_option maxRecDepth 100000
set_option linter.unusedVariables false
set_option linter.unusedSimpArgs false

attribute [local go_sem high] eqRel
theorem equalR_calls (w : World) (A c B d) (rs qs : List Rel) (h0 : Rels w A c rs) (h1 : Rels w B d qs) : Calls Try.prog 117 #[.slice A rs.length c, .slice B qs.length d] w fun e w' => e = .returned (.bool (decide (rs = qs))) ∧ On w w' := by
  have hm0 := h0.max
  have hm1 := h1.max
  by_cases hl : rs.length = qs.length
  · have hlb : ((rs.length : Int) == (qs.length : Int)) = true := by simp [hl]
    have hlc : ((rs.length : Int) != (qs.length : Int)) = false := by simp [bne, hlb]
    have hld : (rs.length == qs.length) = true := by simp [hl]
    have hl' := Aside0.mk hl
    clear hl
    go_enter Try.func117, Try.ntmps117
    go_wp2
    clear hlb hlc hld
    go_loopw [13] (fun v wr => ∃ k : Nat, k ≤ rs.length ∧ v = .int .i64 k ∧ Aside0 (rs.take k = qs.take k) ∧ On w wr) (fun v _ => rs.length - (intOf v).toNat)
    case atStart => exact ⟨0, Nat.zero_le _, rfl, ⟨rfl⟩, On.refl _⟩
    case round =>
      obtain ⟨k, hk, rfl, hp, hB⟩ := hrel
      by_cases hlt : k < rs.length
      · have hlt2 : k < qs.length := by have := hl'.out; omega
        obtain ⟨ad, rfl, hx0, hx1, hx2⟩ := (h0.on hB).at k hlt
        obtain ⟨bd, rfl, hy0, hy1, hy2⟩ := (h1.on hB).at k hlt2
        cases hq : sameR rs[k] qs[k] with
        | true =>
          have hq' := Aside0.mk (of_decide_eq_true hq : rs[k] = qs[k])
          go_wp2
          refine Reg.region [(0,.L),(1,.L),(2,.L),(3,.L),(4,.L),(5,.L),(6,.L),(7,.L),(8,.L)] [] (by kernel_rfl) (by kernel_rfl) ?_
          repeat first | refine sP ?_ | refine sS ?_ | refine sA ?_ | refine sL ?_ | refine sQ ?_ | refine sO ?_
          refine Reg.nil fun w2 hS => ?_
          clear hq
          go_wp2
          exact ⟨⟨k + 1, by omega, by go_num, ⟨by rw [List.take_succ_eq_append_getElem hlt, List.take_succ_eq_append_getElem hlt2, hp.out, hq'.out]⟩, hB.trans hS⟩, by simp [intOf]; omega⟩
        | false =>
          have hq' := Aside0.mk (of_decide_eq_false hq : ¬ rs[k] = qs[k])
          go_wp2
          refine Reg.region [(0,.L),(1,.L),(2,.L),(3,.L),(4,.L),(5,.L),(6,.L),(7,.L),(8,.L)] [] (by kernel_rfl) (by kernel_rfl) ?_
          repeat first | refine sP ?_ | refine sS ?_ | refine sA ?_ | refine sL ?_ | refine sQ ?_ | refine sO ?_
          refine Reg.nil fun w2 hS => ?_
          clear hq
          go_wp2
          go_ret
          exact ⟨ret_bool (by symm; exact decide_eq_false fun e => hq'.out (by subst e; rfl)), hB.trans hS⟩
      · have e1 : rs.take k = rs := List.take_of_length_le (by omega)
        have e2 : qs.take k = qs := List.take_of_length_le (by have := hl'.out; omega)
        rw [e1, e2] at hp
        go_wp2
        go_ret
        exact ⟨ret_bool (by symm; exact decide_eq_true hp.out), hB⟩
  · have hlb : ((rs.length : Int) == (qs.length : Int)) = false := by rw [beq_eq_false_iff_ne]; omega
    have hlc : ((rs.length : Int) != (qs.length : Int)) = true := by simp [bne, hlb]
    have hld : (rs.length == qs.length) = false := by simpa using hl
    have hl' := Aside0.mk hl
    clear hl
    go_enter Try.func117, Try.ntmps117
    go_wp2
    go_ret
    exact ⟨ret_bool (by symm; exact decide_eq_false fun e => hl'.out (congrArg _ e)), On.refl _⟩

theorem areComparable_calls (w : World) (A0 c0 A1 c1) (rs : List Rel) (fs : List Fct) (h0 : Rels w A0 c0 rs) (h1 : Fcts w A1 c1 fs) (A2 c2 A3 c3) (qs : List Rel) (gs : List Fct) (h2 : Rels w A2 c2 qs) (h3 : Fcts w A3 c3 gs) :
    Calls Try.prog 79 #[.agg #[.slice A0 rs.length c0, .slice A1 fs.length c1], .agg #[.slice A2 qs.length c2, .slice A3 gs.length c3]] w fun e w' => e = .returned (.bool (okInst rs fs && (okInst qs gs && decide (rs = qs)))) ∧ On w w' := by
  have hb := Aside0.mk (On.alloc (On.alloc (On.refl w) (.cells #[.slice A0 rs.length c0, .slice A1 fs.length c1] 32)) (.cells #[.slice A2 qs.length c2, .slice A3 gs.length c3] 32))
  have hL := Aside0.mk (loc2 w #[.slice A0 rs.length c0, .slice A1 fs.length c1] #[.slice A2 qs.length c2, .slice A3 gs.length c3] 32 32)
  cases ho : okInst rs fs with
  | false =>
    have ho' := Aside0.mk ho
    clear ho
    go_enter Try.func79, Try.ntmps79
    go_wp2_with (go_at_call 66; refine (iIsValidInstance_calls _ A0 c0 A1 c1 rs fs (h0.on hb.out) (h1.on hb.out)).mono ?_; rintro e w1 ⟨rfl, hb1⟩; rw [ho'.out])
    go_ret
    exact ⟨by simp, hb.out.trans hb1⟩
  | true =>
    have ho' := Aside0.mk ho
    clear ho
    cases hp : okInst qs gs with
    | false =>
      have hp' := Aside0.mk hp
      clear hp
      go_enter Try.func79, Try.ntmps79
      go_wp2_with (first
        | (go_at_call 66; refine (iIsValidInstance_calls _ A2 c2 A3 c3 qs gs (h2.on (hb.out.trans hb1)) (h3.on (hb.out.trans hb1))).mono ?_; rintro e w2 ⟨rfl, hb2⟩; rw [hp'.out])
        | (go_at_call 66; refine (iIsValidInstance_calls _ A0 c0 A1 c1 rs fs (h0.on hb.out) (h1.on hb.out)).mono ?_; rintro e w1 ⟨rfl, hb1⟩; rw [ho'.out]; have hL1 := Loc.on hb1 hL.out; have hc0 := blk_cell hL1.1; have hc1 := blk_cell hL1.2.1; clear hL1))
      go_ret
      exact ⟨by simp, hb.out.trans (hb1.trans hb2)⟩
    | true =>
      have hp' := Aside0.mk hp
      clear hp
      go_enter Try.func79, Try.ntmps79
      go_wp2_with (first
        | (go_at_call 66; refine (iIsValidInstance_calls _ A2 c2 A3 c3 qs gs (h2.on (hb.out.trans hb1)) (h3.on (hb.out.trans hb1))).mono ?_; rintro e w2 ⟨rfl, hb2⟩; rw [hp'.out]; have hL2 := Loc.on (hb1.trans hb2) hL.out; have hd0 := blk_cell hL2.1; have hd1 := blk_cell hL2.2.1; clear hL2)
        | (go_at_call 66; refine (iIsValidInstance_calls _ A0 c0 A1 c1 rs fs (h0.on hb.out) (h1.on hb.out)).mono ?_; rintro e w1 ⟨rfl, hb1⟩; rw [ho'.out]; have hL1 := Loc.on hb1 hL.out; have hc0 := blk_cell hL1.1; have hc1 := blk_cell hL1.2.1; clear hL1)
        | (go_at_call 117; refine (equalR_calls _ A0 c0 A2 c2 rs qs (h0.on (hb.out.trans (hb1.trans hb2))) (h2.on (hb.out.trans (hb1.trans hb2)))).mono ?_; rintro e w3 ⟨rfl, hb3⟩))
      go_ret
      exact ⟨by simp, hb.out.trans (hb1.trans (hb2.trans hb3))⟩
end Go.Proofs.Ytngjhblbpapjeaa.H
/- Walks: the program's FindHomomorphism, FindHomomorphisms, HasHomomorphism, AreHomEquivalent. No condition. -/
namespace Go.Proofs.Ytngjhblbpapjeaa.H
open Go Go.RowKit Go.Proofs.YtngjhblbpapjeaaW.PrintWords Go.Proofs.YtngjhblbpapjeaaW.PrintLast
open Go.Proofs.Ytngjhblbpapjeaa.Reg (On on_draw)
set_option maxHeartbeats 4000000
set_option maxRecDepth 100000
set_option linter.unusedVariables false
set_option linter.unusedSimpArgs false

/-- A map is made. -/
theorem mkMap {ops : Array Oper} {rest : List Oper} {o : Oper} {a : Act} {Q : Exit → Act → World → Prop} {W : World} (N : Tmp) {t : TypeId}
    (h : wpList Try.prog ops Q rest (a.put (some N) (.map (some W.heap.size))) (W.alloc (.map #[] 0)))
    (hop : o.op = .makeMap t none := by rfl) (hd : o.dst = some N := by rfl) (hg : o.guard = none := by rfl) : wpList Try.prog ops Q (o :: rest) a W := by
  refine Kd.event_run hg (w1 := W.alloc (.map #[] 0)) (v := .map (some W.heap.size)) ?_ ?_
  · unfold execOp
    simp only [hop, Option.map_none]
    rfl
  · rw [hd]; exact h
theorem vals_le (fs : List Fct) (h : ∀ f ∈ fs, f.2.length ≤ 3) : vals fs ≤ 3 * fs.length := by
  induction fs with
  | nil => simp [vals]
  | cons f fs ih =>
    have h1 := h f List.mem_cons_self
    have h2 := ih fun g hg => h g (List.mem_cons_of_mem _ hg)
    rw [vals_cons, List.length_cons]; omega
theorem iHoms_calls (w : World) (A0 c0 A1 c1) (rs : List Rel) (fs : List Fct) (h0 : Rels w A0 c0 rs) (h1 : Fcts w A1 c1 fs) (A2 c2 A3 c3) (qs : List Rel) (gs : List Fct) (h2 : Rels w A2 c2 qs) (h3 : Fcts w A3 c3 gs) (most : Nat) (hp : 1 ≤ most) (hq : most ≤ 1000) :
    Calls Try.prog 98 #[.agg #[.slice A0 rs.length c0, .slice A1 fs.length c1], .agg #[.slice A2 qs.length c2, .slice A3 gs.length c3], .int .i64 most] w (Got fun v w' => ∃ hs, OS w' w.heap.size v hs ∧ SepS w' w.heap.size hs (subs rs fs qs gs most) ∧ On w w') := by
  have hpq := Aside0.mk (show 1 ≤ most ∧ most ≤ 1000 from ⟨hp, hq⟩)
  clear hp hq
  have hW4 := Aside0.mk (On.alloc (On.alloc (On.alloc (On.alloc (On.refl w) (.cells #[.slice A0 rs.length c0, .slice A1 fs.length c1] 32)) (.cells #[.slice A2 qs.length c2, .slice A3 gs.length c3] 32)) (.cells #[.int .i64 most] 3)) (.cells #[] 45))
  have hb := Aside0.mk (On.alloc hW4.out (.cells #[.slice (some ⟨w.heap.size + 1 + 1 + 1, 0, none⟩) 0 0] 71))
  have hL := Aside0.mk (Loc.on (On.alloc (On.alloc (On.refl _) (.cells #[] 45)) (.cells #[.slice (some ⟨w.heap.size + 1 + 1 + 1, 0, none⟩) 0 0] 71)) (loc3 w #[.slice A0 rs.length c0, .slice A1 fs.length c1] #[.slice A2 qs.length c2, .slice A3 gs.length c3] #[.int .i64 most] 32 32 3))
  have hO := Aside0.mk (pw_own_below (lit_own' (w.heap.size + 1 + 1 + 1) (((w.alloc (.cells #[.slice A0 rs.length c0, .slice A1 fs.length c1] 32)).alloc (.cells #[.slice A2 qs.length c2, .slice A3 gs.length c3] 32)).alloc (.cells #[.int .i64 most] 3)) (by simp) #[] 45 2 0 w.heap.size (by simp; omega) (by omega) rfl) (On.alloc (On.refl _) (.cells #[.slice (some ⟨w.heap.size + 1 + 1 + 1, 0, none⟩) 0 0] 71)))
  have hB := Aside0.mk (loc_new ((((w.alloc (.cells #[.slice A0 rs.length c0, .slice A1 fs.length c1] 32)).alloc (.cells #[.slice A2 qs.length c2, .slice A3 gs.length c3] 32)).alloc (.cells #[.int .i64 most] 3)).alloc (.cells #[] 45)) #[.slice (some ⟨w.heap.size + 1 + 1 + 1, 0, none⟩) 0 0] 71)
  have hsx : ((((w.alloc (.cells #[.slice A0 rs.length c0, .slice A1 fs.length c1] 32)).alloc (.cells #[.slice A2 qs.length c2, .slice A3 gs.length c3] 32)).alloc (.cells #[.int .i64 most] 3)).alloc (.cells #[] 45)).heap.size = w.heap.size + 1 + 1 + 1 + 1 := by simp
  rw [hsx] at hB
  clear hsx
  go_enter Try.func98, Try.ntmps98
  go_wp2_with (refine gate 11 ?_)
  clear hW4
  obtain ⟨Wx, hWx⟩ : ∃ Wx, ((((w.alloc (.cells #[.slice A0 rs.length c0, .slice A1 fs.length c1] 32)).alloc (.cells #[.slice A2 qs.length c2, .slice A3 gs.length c3] 32)).alloc (.cells #[.int .i64 most] 3)).alloc (.cells #[] 45)).alloc (.cells #[.slice (some ⟨w.heap.size + 1 + 1 + 1, 0, none⟩) 0 0] 71) = Wx := ⟨_, rfl⟩
  rw [hWx] at hb hL hO hB ⊢
  clear hWx
  refine ⟨goesF 11 Try.func79 ((areComparable_calls Wx A0 c0 A1 c1 rs fs (h0.on hb.out) (h1.on hb.out) A2 c2 A3 c3 qs gs (h2.on hb.out) (h3.on hb.out)).mono ?_)⟩
  rintro e w1 ⟨rfl, hb1⟩
  refine ⟨_, rfl, ?_⟩
  have hB1 := Aside0.mk (hb.out.trans hb1)
  have hL1 := Aside0.mk (Loc.on hb1 hL.out)
  have hO1 := Aside0.mk (pw_own_below hO.out hb1)
  have hBx := Aside0.mk (blk_below hB.out hb1)
  have hd0 := blk_cell hL1.out.1
  have hd1 := blk_cell hL1.out.2.1
  have hd2 := blk_cell hL1.out.2.2.1
  have hdb := blk_cell hBx.out
  cases hc : (okInst rs fs && (okInst qs gs && decide (rs = qs))) with
  | false =>
    have hc' := Aside0.mk hc
    clear hc hb1
    go_wp2
    go_ret
    refine ⟨_, rfl, [], hO1.out, ?_, hB1.out⟩
    rw [subs_no (by rw [Bool.and_assoc]; exact hc'.out)]
    exact SepS.nil _ _
  | true =>
    have hc' := Aside0.mk hc
    have hgq := Aside0.mk (show okInst qs gs = true by simp only [Bool.and_eq_true] at hc; exact hc.2.1)
    have hfq := Aside0.mk (show okInst rs fs = true by simp only [Bool.and_eq_true] at hc; exact hc.1)
    have hK := Aside0.mk (show KS w (w1.alloc (.map #[] 0)) w.heap.size (w.heap.size + 1 + 1 + 1 + 1) (w.heap.size + 1 + 1) most (.slice (some ⟨w.heap.size + 1 + 1 + 1, 0, none⟩) 0 0) [] [] from
      KS.move ⟨hB1.out, by omega, Nat.le_refl _, by omega, hB1.out.size, hO1.out, SepS.nil _ _, hBx.out, hL1.out.2.2.1⟩ (On.alloc (On.refl _) _))
    have hM := Aside0.mk (BM.start w1)
    clear hc hb1
    go_wp2_with (refine gate 16 ?_)
    refine ⟨mkMap 16 ?_⟩
    go_wp2_with (refine gate 18 ?_)
    refine ⟨goesF 18 Try.func129 ((search_calls gs (fun g hg v hv => ?_) most hpq.out.2 fs A1 c1 A3 c3 w1.heap.size 0 none40 h1 h3 hK.out hpq.out.1 hM.out (by simp [none40]) (fun y hy => by have := List.eq_of_mem_replicate hy; omega) ?_).mono ?_)⟩
    · have h4 := okInst_mem hgq.out g hg
      simp only [okFact, Bool.and_eq_true, List.all_eq_true] at h4
      have h5 := h4.2 v hv
      simp only [okVal, decide_eq_true_eq] at h5
      omega
    · have h4 := okInst_len hfq.out
      have h5 := vals_le fs fun f hf => okFact_len (okInst_mem hfq.out f hf)
      omega
    · rintro e w3 ⟨v3, rfl, v', zs, rfl, hK3, hF3⟩
      refine ⟨_, rfl, ?_⟩
      have hd := blk_cell hK3.box
      have hK3' := Aside0.mk hK3
      clear hd0 hd1 hd2 hdb hK3
      go_wp2
      go_ret
      refine ⟨_, rfl, zs, hK3'.out.own, ?_, hK3'.out.on⟩
      rw [subs_yes (by rw [Bool.and_assoc]; exact hc'.out)]
      simpa using hK3'.out.sep
theorem iFind_calls (w : World) (A0 c0 A1 c1) (rs : List Rel) (fs : List Fct) (h0 : Rels w A0 c0 rs) (h1 : Fcts w A1 c1 fs) (A2 c2 A3 c3) (qs : List Rel) (gs : List Fct) (h2 : Rels w A2 c2 qs) (h3 : Fcts w A3 c3 gs) :
    Calls Try.prog 46 #[.agg #[.slice A0 rs.length c0, .slice A1 fs.length c1], .agg #[.slice A2 qs.length c2, .slice A3 gs.length c3]] w (Got fun v w' => ∃ a b : Sli, v = .tuple #[.agg #[slV a, slV b], .bool (hasHom rs fs qs gs)] ∧ SepS w' w.heap.size [(a, b)] [(subs rs fs qs gs 1).headD ([], [])] ∧ On w w') := by
  have hb := Aside0.mk (On.alloc (On.alloc (On.alloc (On.refl w) (.cells #[.slice A0 rs.length c0, .slice A1 fs.length c1] 32)) (.cells #[.slice A2 qs.length c2, .slice A3 gs.length c3] 32)) (.cells #[.slice none 0 0, .slice none 0 0] 45))
  have hL := Aside0.mk (loc3 w #[.slice A0 rs.length c0, .slice A1 fs.length c1] #[.slice A2 qs.length c2, .slice A3 gs.length c3] #[.slice none 0 0, .slice none 0 0] 32 32 45)
  have hsx := Aside0.mk (show (((w.alloc (.cells #[.slice A0 rs.length c0, .slice A1 fs.length c1] 32)).alloc (.cells #[.slice A2 qs.length c2, .slice A3 gs.length c3] 32)).alloc (.cells #[.slice none 0 0, .slice none 0 0] 45)).heap.size = w.heap.size + 3 by simp)
  have hsl := Aside0.mk (subs_len rs fs qs gs 1 (Nat.le_refl _))
  go_enter Try.func46, Try.ntmps46
  go_wp2_with (refine gate 9 ?_)
  obtain ⟨Wx, hWx⟩ : ∃ Wx, ((w.alloc (.cells #[.slice A0 rs.length c0, .slice A1 fs.length c1] 32)).alloc (.cells #[.slice A2 qs.length c2, .slice A3 gs.length c3] 32)).alloc (.cells #[.slice none 0 0, .slice none 0 0] 45) = Wx := ⟨_, rfl⟩
  rw [hWx] at hb hL hsx ⊢
  clear hWx
  refine ⟨goesF 9 Try.func98 ((iHoms_calls Wx A0 c0 A1 c1 rs fs (h0.on hb.out) (h1.on hb.out) A2 c2 A3 c3 qs gs (h2.on hb.out) (h3.on hb.out) 1 (Nat.le_refl _) (by omega)).mono ?_)⟩
  rintro e w1 ⟨v1, rfl, hs, hO, hS, hb1⟩
  refine ⟨_, rfl, ?_⟩
  have hk := (Loc.on hb1 hL.out).2.2.1
  have hc : ∀ i, w1.cell? ⟨w.heap.size + 1 + 1, i, none⟩ = _ := blk_cell hk
  have hf : ∀ i, w1.frozen? ⟨w.heap.size + 1 + 1, i, none⟩ = _ := blk_frozen hk
  have hk' := Aside0.mk hk
  clear hk
  have hsz := Aside0.mk (show w.heap.size + 3 ≤ w1.heap.size by have := hb1.size; rw [hsx.out] at this; exact this)
  have hlen := hS.len
  have hl1 := hsl.out
  rcases hs with _ | ⟨h, tl⟩
  · have hnil : subs rs fs qs gs 1 = [] := List.eq_nil_of_length_eq_zero hlen.symm
    have hhas := Aside0.mk (show hasHom rs fs qs gs = false by unfold hasHom; rw [← hl1.1, hnil]; rfl)
    obtain ⟨A', c', rfl⟩ := own_slice hO
    clear hlen hl1
    go_wp2
    refine bodyPost_ret (retSB rfl rfl (g := w.heap.size + 2) (blk_set (blk_set hk'.out 0 _) 1 _) rfl) rfl ?_
    refine ⟨_, rfl, (none, 0, 0), (none, 0, 0), by rw [hhas.out]; rfl, ?_, Reg.On.set (Reg.On.set (hb.out.trans hb1) (by simp; omega) _) (by simp; omega) _⟩
    rw [hnil]
    exact SepS.one (World.ownsRow_nil _ _ _ _) (World.ownsRow_nil _ _ _ _) (fun x hx => by cases hx) (fun x hx => by cases hx) (fun k hk => by cases hk)
  · obtain rfl : tl = [] := List.eq_nil_of_length_eq_zero (by have := hl1.2; simp at hlen; omega)
    obtain ⟨⟨A5, n5, c5⟩, ⟨A6, n6, c6⟩⟩ := h
    have hhas := Aside0.mk (show hasHom rs fs qs gs = true by unfold hasHom; rw [← hl1.1, ← hlen]; rfl)
    obtain ⟨s, hs⟩ : ∃ s, subs rs fs qs gs 1 = [s] := by
      match h : subs rs fs qs gs 1, hlen with
      | [s], _ => exact ⟨s, rfl⟩
    obtain ⟨A', c', e, hR⟩ := OS.slice hO
    subst e
    obtain ⟨g, rfl⟩ := own_at0 hO (by simp)
    obtain ⟨_, e0, hc0⟩ := hR.cell 0 (.slice A5 n5 c5) rfl
    obtain ⟨_, e1, hc1⟩ := hR.cell 1 (.slice A6 n6 c6) rfl
    obtain rfl := Option.some.inj e0
    obtain rfl := Option.some.inj e1
    rw [add_zero0] at hc0 hc1
    have hS' := Aside0.mk hS
    clear hlen hl1 hO hR e0 e1 hS
    go_wp2
    refine bodyPost_ret (retSB rfl rfl (g := w.heap.size + 2) (blk_set (blk_set hk'.out 0 _) 1 _) rfl) rfl ?_
    refine ⟨_, rfl, (A5, n5, c5), (A6, n6, c6), by rw [hhas.out]; rfl, ?_, Reg.On.set (Reg.On.set (hb.out.trans hb1) (by simp; omega) _) (by simp; omega) _⟩
    have h9 := hS'.out
    rw [hs] at h9 ⊢
    exact ((h9.set (by rw [hsx.out]; show w.heap.size + 1 + 1 < _; omega) _).set (by rw [hsx.out]; show w.heap.size + 1 + 1 < _; omega) _).lower (by rw [hsx.out]; omega)
theorem iHas_calls (w : World) (A0 c0 A1 c1) (rs : List Rel) (fs : List Fct) (h0 : Rels w A0 c0 rs) (h1 : Fcts w A1 c1 fs) (A2 c2 A3 c3) (qs : List Rel) (gs : List Fct) (h2 : Rels w A2 c2 qs) (h3 : Fcts w A3 c3 gs) :
    Calls Try.prog 30 #[.agg #[.slice A0 rs.length c0, .slice A1 fs.length c1], .agg #[.slice A2 qs.length c2, .slice A3 gs.length c3]] w fun e w' => e = .returned (.bool (hasHom rs fs qs gs)) ∧ On w w' := by
  have hb := Aside0.mk (On.alloc (On.alloc (On.refl w) (.cells #[.slice A0 rs.length c0, .slice A1 fs.length c1] 32)) (.cells #[.slice A2 qs.length c2, .slice A3 gs.length c3] 32))
  go_enter Try.func30, Try.ntmps30
  go_wp2_with (go_at_call 46; refine (iFind_calls _ A0 c0 A1 c1 rs fs (h0.on hb.out) (h1.on hb.out) A2 c2 A3 c3 qs gs (h2.on hb.out) (h3.on hb.out)).mono ?_; rintro e w1 ⟨v, rfl, ⟨Aa, na, ca⟩, ⟨Ab, nb, cb⟩, rfl, hS, hb1⟩; clear hS; have hfill := alloc_fill w1)
  go_ret
  exact ⟨rfl, hb.out.trans (hb1.trans (On.alloc (On.refl _) _))⟩
end Go.Proofs.Ytngjhblbpapjeaa.H
/- Plain: when a homomorphism exists. No condition. -/
namespace Go.Proofs.Ytngjhblbpapjeaa.H
open Go Go.RowKit
set_option linter.unusedVariables false
set_option linter.unusedSimpArgs false

def valB (y : List Int) (v : Int) : Int := if isNul v then y.getD (nulNum v).toNat 10 else v
def imgB (y : List Int) (f : Fct) : Fct := (f.1, f.2.map (valB y))
/-- y tells all that x tells. -/
def ExtB (x y : List Int) : Prop := ∀ k : Nat, x.getD k 10 ≠ 10 → y.getD k 10 = x.getD k 10
theorem ExtB.refl (x : List Int) : ExtB x x := fun _ _ => rfl
theorem ExtB.trans {x y z : List Int} (h1 : ExtB x y) (h2 : ExtB y z) : ExtB x z := fun k hk => by
  have e := h1 k hk
  rw [h2 k (by rw [e]; exact hk), e]
theorem nul_lt (v : Int) : (nulNum v).toNat < 40 := by have := nulNum_bd v; omega
theorem getD_set (x : List Int) (i : Nat) (w : Int) (k : Nat) (hi : i < x.length) : (x.set i w).getD k 10 = if k = i then w else x.getD k 10 := by
  rw [List.getD_eq_getElem?_getD, List.getD_eq_getElem?_getD, List.getElem?_set]
  by_cases c : i = k
  · subst c; simp [hi]
  · rw [if_neg c, if_neg (fun e => c e.symm)]
theorem nxt_comp {x s : List Int} (v : Int) (h : ExtB x s) (hl : x.length = 40) : ∃ y, nxt x v (valB s v) = some y ∧ ExtB y s ∧ y.length = 40 := by
  have hk := nul_lt v
  unfold nxt valB
  by_cases c : isNul v = true
  · rw [if_pos c, if_pos c, if_neg (fun ⟨h1, h2⟩ => h2 (h _ h1).symm)]
    refine ⟨_, rfl, fun k hk' => ?_, by rw [List.length_set]; exact hl⟩
    rw [getD_set _ _ _ _ (by omega)] at hk' ⊢
    by_cases e : k = (nulNum v).toNat
    · rw [if_pos e, e]
    · rw [if_neg e] at hk' ⊢; exact h k hk'
  · rw [if_neg c, if_neg c, if_neg (by simp)]
    exact ⟨_, rfl, h, hl⟩
theorem fitFrom_comp {s : List Int} : ∀ (fv x : List Int), ExtB x s → x.length = 40 → ∃ y, fitFrom fv (fv.map (valB s)) x = some y ∧ ExtB y s ∧ y.length = 40
  | [], x, h, hl => ⟨x, rfl, h, hl⟩
  | v :: fv, x, h, hl => by
    obtain ⟨z, hz, h1, h2⟩ := nxt_comp v h hl
    obtain ⟨y, hy, h3, h4⟩ := fitFrom_comp fv z h1 h2
    exact ⟨y, by show (nxt x v (valB s v)).bind _ = _; rw [hz]; exact hy, h3, h4⟩
theorem fit_comp {s : List Int} (f : Fct) {x : List Int} (h : ExtB x s) (hl : x.length = 40) : ∃ y, fit f (imgB s f) x = some y ∧ ExtB y s ∧ y.length = 40 := by
  unfold fit
  rw [if_neg (by simp [imgB])]
  exact fitFrom_comp f.2 x h hl
theorem wstep_le (tos fs : List Fct) (f : Fct) (x : List Int) (most : Nat) (out : List (List Int)) (g : Fct) : out.length ≤ (wstep tos fs f x most out g).length := by
  unfold wstep
  split
  · split
    · rw [List.length_append]; omega
    · exact Nat.le_refl _
  · exact Nat.le_refl _
theorem walk_comp {tos : List Fct} {s : List Int} : ∀ (fs : List Fct) (x : List Int) (most : Nat), 1 ≤ most → (∀ f ∈ fs, imgB s f ∈ tos) → ExtB x s → x.length = 40 → 0 < (walk tos fs x most).length
  | [], _, _, _, _, _, _ => by simp [walk]
  | f :: fs, x, most, hm, hf, h, hl => by
    rw [walk_cons]
    have key : ∀ (l : List Fct) (out : List (List Int)), (0 < out.length ∨ imgB s f ∈ l) → 0 < (l.foldl (wstep tos fs f x most) out).length := by
      intro l
      induction l with
      | nil => intro out h; exact h.elim id (fun h => by cases h)
      | cons g l ih =>
        intro out ho
        rw [List.foldl_cons]
        refine ih _ ?_
        have hle := wstep_le tos fs f x most out g
        rcases ho with ho | ho
        · exact .inl (by omega)
        · rcases List.mem_cons.1 ho with rfl | ho
          · refine .inl ?_
            unfold wstep
            split
            · obtain ⟨y, hy, h1, h2⟩ := fit_comp f h hl
              rw [hy]
              have := walk_comp fs y (most - out.length) (by omega) (fun f hf' => hf f (List.mem_cons_of_mem _ hf')) h1 h2
              simp only [List.length_append]; omega
            · omega
          · exact .inr ho
    exact key tos [] (.inr (hf f List.mem_cons_self))
theorem valB_ext {y z : List Int} {v : Int} (h : ExtB y z) (hv : valB y v ≠ 10) : valB z v = valB y v := by
  unfold valB at *
  by_cases c : isNul v = true
  · rw [if_pos c] at hv ⊢; rw [if_pos c]; exact h _ hv
  · rw [if_neg c, if_neg c]
/-- What a step of the search tells: y goes on from x; new cells hold good values and belong to nulls of vs. -/
structure Snd (vs x y : List Int) : Prop where
  ext : ExtB x y
  len : y.length = 40
  new : ∀ k : Nat, y.getD k 10 ≠ 10 → x.getD k 10 ≠ 10 ∨ (okVal (y.getD k 10) = true ∧ ∃ v ∈ vs, isNul v = true ∧ (nulNum v).toNat = k)
theorem Snd.trans {vs us x y z : List Int} (h1 : Snd vs x y) (h2 : Snd us y z) : Snd (vs ++ us) x z :=
  ⟨h1.ext.trans h2.ext, h2.len, fun k hk => by
    rcases h2.new k hk with h | ⟨ho, v, hv, h⟩
    · have e := h2.ext k h
      rcases h1.new k h with h | ⟨ho, v, hv, h⟩
      · exact .inl h
      · exact .inr ⟨by rw [e]; exact ho, v, List.mem_append_left _ hv, h⟩
    · exact .inr ⟨ho, v, List.mem_append_right _ hv, h⟩⟩
theorem ok_ne {w : Int} (h : okVal w = true) : w ≠ 10 := by simp only [okVal, decide_eq_true_eq] at h; omega
theorem nxt_snd {x y : List Int} {v w : Int} (h : nxt x v w = some y) (hw : okVal w = true) (hl : x.length = 40) : Snd [v] x y ∧ valB y v = w := by
  have hk := nul_lt v
  have hne := ok_ne hw
  unfold nxt at h
  unfold valB
  by_cases c : isNul v = true
  · rw [if_pos c] at h ⊢
    split at h
    · cases h
    · rename_i hc
      injection h with h
      subst h
      have hcur : x.getD (nulNum v).toNat 10 ≠ 10 → w = x.getD (nulNum v).toNat 10 := fun h1 => Decidable.byContradiction fun h2 => hc ⟨h1, fun e => h2 e.symm⟩
      refine ⟨⟨fun k hk' => ?_, by rw [List.length_set]; exact hl, fun k hk' => ?_⟩, by rw [getD_set _ _ _ _ (by omega), if_pos rfl]⟩
      · rw [getD_set _ _ _ _ (by omega)]
        by_cases e : k = (nulNum v).toNat
        · rw [if_pos e]; subst e; exact hcur hk'
        · rw [if_neg e]
      · rw [getD_set _ _ _ _ (by omega)] at hk' ⊢
        by_cases e : k = (nulNum v).toNat
        · rw [if_pos e] at hk' ⊢
          exact .inr ⟨hw, v, List.mem_singleton.2 rfl, c, e.symm⟩
        · rw [if_neg e] at hk' ⊢; exact .inl hk'
  · rw [if_neg c] at h ⊢
    split at h
    · cases h
    · rename_i hc
      injection h with h
      subst h
      exact ⟨⟨ExtB.refl _, hl, fun k hk => .inl hk⟩, Decidable.byContradiction fun e => hc e⟩
theorem fitFrom_snd : ∀ (fv gv x y : List Int), fv.length = gv.length → (∀ w ∈ gv, okVal w = true) → x.length = 40 → fitFrom fv gv x = some y → Snd fv x y ∧ fv.map (valB y) = gv
  | [], [], x, y, _, _, hl, h => by unfold fitFrom at h; injection h with h; subst h; exact ⟨⟨ExtB.refl _, hl, fun k hk => .inl hk⟩, rfl⟩
  | [], _ :: _, _, _, hn, _, _, _ => by simp at hn
  | _ :: _, [], _, _, hn, _, _, _ => by simp at hn
  | v :: fv, w :: gv, x, y, hn, hg, hl, h => by
    have hh : (nxt x v w).bind (fun y => fitFrom fv gv y) = some y := h
    cases hz : nxt x v w with
    | none => rw [hz] at hh; cases hh
    | some z =>
      rw [hz] at hh
      obtain ⟨s1, e1⟩ := nxt_snd hz (hg w List.mem_cons_self) hl
      obtain ⟨s2, e2⟩ := fitFrom_snd fv gv z y (by simpa using hn) (fun w hw => hg w (List.mem_cons_of_mem _ hw)) s1.len hh
      refine ⟨by simpa using s1.trans s2, ?_⟩
      rw [List.map_cons, e2, valB_ext s2.ext (by rw [e1]; exact ok_ne (hg w List.mem_cons_self)), e1]
theorem fit_snd {f g : Fct} {x y : List Int} (h : fit f g x = some y) (hg : ∀ w ∈ g.2, okVal w = true) (hl : x.length = 40) : Snd f.2 x y ∧ imgB y f = g := by
  unfold fit at h
  split at h
  · cases h
  · rename_i hc
    have h1 : f.1 = g.1 := Decidable.byContradiction fun c => hc (.inl c)
    have h2 : f.2.length = g.2.length := Decidable.byContradiction fun c => hc (.inr c)
    obtain ⟨s, e⟩ := fitFrom_snd f.2 g.2 x y h2 hg hl h
    exact ⟨s, by unfold imgB; rw [h1, e]⟩
theorem imgB_ext {y z : List Int} {f : Fct} (h : ExtB y z) (hv : ∀ w ∈ (imgB y f).2, w ≠ 10) : imgB z f = imgB y f := by
  unfold imgB at *
  congr 1
  refine List.map_congr_left fun v hm => valB_ext h (hv _ (List.mem_map.2 ⟨v, hm, rfl⟩))
abbrev vsAll (fs : List Fct) : List Int := fs.flatMap fun f => f.2
theorem walk_snd {tos : List Fct} (hT : ∀ g ∈ tos, ∀ w ∈ g.2, okVal w = true) : ∀ (fs : List Fct) (x : List Int) (most : Nat), x.length = 40 → ∀ y ∈ walk tos fs x most, Snd (vsAll fs) x y ∧ ∀ f ∈ fs, imgB y f ∈ tos
  | [], x, _, hl, y, hy => by rw [walk] at hy; rw [List.mem_singleton.1 hy]; exact ⟨⟨ExtB.refl _, hl, fun k hk => .inl hk⟩, fun f hf => by cases hf⟩
  | f :: fs, x, most, hl, y, hy => by
    rw [walk_cons] at hy
    have key : ∀ (l : List Fct) (out : List (List Int)), (∀ g ∈ l, g ∈ tos) → (∀ y ∈ out, Snd (vsAll (f :: fs)) x y ∧ ∀ g ∈ f :: fs, imgB y g ∈ tos) → ∀ y ∈ l.foldl (wstep tos fs f x most) out, Snd (vsAll (f :: fs)) x y ∧ ∀ g ∈ f :: fs, imgB y g ∈ tos := by
      intro l
      induction l with
      | nil => intro out _ h; exact h
      | cons g l ih =>
        intro out hl' ho
        rw [List.foldl_cons]
        refine ih _ (fun z hz => hl' z (List.mem_cons_of_mem _ hz)) ?_
        unfold wstep
        split
        · split
          · rename_i z hz
            intro y hy
            rcases List.mem_append.1 hy with hy | hy
            · exact ho y hy
            · have hgt := hl' g List.mem_cons_self
              obtain ⟨s1, e1⟩ := fit_snd hz (hT g hgt) hl
              obtain ⟨s2, e2⟩ := walk_snd hT fs z _ s1.len y hy
              refine ⟨by simpa [vsAll] using s1.trans s2, fun k hk => ?_⟩
              rcases List.mem_cons.1 hk with rfl | hk
              · rw [imgB_ext s2.ext (by rw [e1]; exact fun w hw => ok_ne (hT g hgt w hw)), e1]; exact hgt
              · exact e2 k hk
          · exact ho
        · exact ho
    exact key tos [] (fun g hg => hg) (by simp) y hy
theorem none40_ext (s : List Int) : ExtB none40 s := fun k hk => by
  unfold none40 at hk
  rw [List.getD_eq_getElem?_getD, List.getElem?_replicate] at hk
  split at hk <;> simp at hk
theorem okInst_vals {rs : List Rel} {fs : List Fct} (h : okInst rs fs = true) : ∀ g ∈ fs, ∀ w ∈ g.2, okVal w = true := fun g hg => by
  have : okFact rs g = true := by
    have h0 : factsFrom rs none fs = true := by simp only [okInst, Bool.and_eq_true] at h; exact h.1
    clear h
    revert h0
    generalize (none : Option Fct) = p
    induction fs generalizing p with
    | nil => cases hg
    | cons a l ih =>
      intro h0
      simp only [factsFrom, okNext, Bool.and_eq_true] at h0
      rcases List.mem_cons.1 hg with rfl | hg
      · exact h0.1.1.1
      · exact ih hg _ h0.2
  simp only [okFact, Bool.and_eq_true, List.all_eq_true] at this
  exact this.2
theorem hasHom_iff (r1 : List Rel) (f1 : List Fct) (r2 : List Rel) (f2 : List Fct) : hasHom r1 f1 r2 f2 = true ↔ okInst r1 f1 = true ∧ okInst r2 f2 = true ∧ r1 = r2 ∧ ∃ s : List Int, ∀ f ∈ f1, imgB s f ∈ f2 := by
  unfold hasHom homs
  constructor
  · intro h
    have h := of_decide_eq_true h
    by_cases c : (okInst r1 f1 && okInst r2 f2 && decide (r1 = r2)) = true
    · rw [if_pos c] at h
      simp only [Bool.and_eq_true, decide_eq_true_eq] at c
      obtain ⟨y, hy⟩ := List.exists_mem_of_length_pos (Nat.pos_of_ne_zero h)
      exact ⟨c.1.1, c.1.2, c.2, y, (walk_snd (okInst_vals c.1.2) f1 none40 1 (by simp [none40]) y hy).2⟩
    · rw [if_neg c] at h; simp at h
  · rintro ⟨h1, h2, h3, s, hs⟩
    rw [if_pos (by rw [h1, h2, decide_eq_true h3]; rfl)]
    exact decide_eq_true (by have := walk_comp f1 none40 1 (Nat.le_refl _) hs (none40_ext s) (by simp [none40]); omega)
theorem hasHom_mono {r1 : List Rel} {f1 : List Fct} {r2 : List Rel} {f2 f3 : List Fct} (h : hasHom r1 f1 r2 f2 = true) (h3 : okInst r2 f3 = true) (hs : ∀ f ∈ f2, f ∈ f3) : hasHom r1 f1 r2 f3 = true := by
  obtain ⟨a, b, c, s, d⟩ := (hasHom_iff _ _ _ _).1 h
  exact (hasHom_iff _ _ _ _).2 ⟨a, h3, c, s, fun f hf => hs _ (d f hf)⟩
def id40 : List Int := (List.range 40).map fun k : Nat => -1 - (k : Int)
theorem valB_id (v : Int) : valB id40 v = v := by
  unfold valB
  by_cases c : isNul v = true
  · rw [if_pos c]
    have hk := nul_lt v
    unfold id40
    rw [List.getD_eq_getElem?_getD, List.getElem?_map, List.getElem?_range hk]
    have c' := c
    simp only [isNul, decide_eq_true_eq] at c'
    have : nulNum v = -1 - v := by unfold nulNum; rw [if_pos c]
    simp only [Option.map_some, Option.getD_some]
    omega
  · rw [if_neg c]
theorem imgB_id (f : Fct) : imgB id40 f = f := by
  unfold imgB
  rw [show f.2.map (valB id40) = f.2.map id from List.map_congr_left fun v _ => valB_id v, List.map_id]
theorem hasHom_sub {r : List Rel} {f1 f2 : List Fct} (h1 : okInst r f1 = true) (h2 : okInst r f2 = true) (hs : ∀ f ∈ f1, f ∈ f2) : hasHom r f1 r f2 = true :=
  (hasHom_iff _ _ _ _).2 ⟨h1, h2, rfl, id40, fun f hf => by rw [imgB_id]; exact hs f hf⟩
end Go.Proofs.Ytngjhblbpapjeaa.H
/- Walk: the law FnHomomorphismMonotonicity. No condition. -/
namespace Go.Proofs.Ytngjhblbpapjeaa.H
open Go Go.RowKit Go.Proofs.YtngjhblbpapjeaaW.PrintWords Go.Proofs.YtngjhblbpapjeaaW.PrintLast
open Go.Proofs.Ytngjhblbpapjeaa.Reg (On on_draw)
set_option maxHeartbeats 8000000
set_option maxRecDepth 100000
set_option linter.unusedVariables false
set_option linter.unusedSimpArgs false

theorem hhV (w : World) (v u : Value) (rs : List Rel) (fs : List Fct) (qs : List Rel) (gs : List Fct) (h : RIn w v rs fs) (k : RIn w u qs gs) : Calls Try.prog 30 #[v, u] w fun e w' => e = .returned (.bool (hasHom rs fs qs gs)) ∧ On w w' := by
  obtain ⟨A0, c0, A1, c1, rfl, h0, h1⟩ := h.out
  obtain ⟨A2, c2, A3, c3, rfl, h2, h3⟩ := k.out
  exact iHas_calls w A0 c0 A1 c1 rs fs h0 h1 A2 c2 A3 c3 qs gs h2 h3
theorem sokV (w : World) (v : Value) (rs : List Rel) (fs : List Fct) (h : RIn w v rs fs) : Calls Try.prog 41 #[v] w fun e w' => e = .returned (.bool (okInst rs fs)) ∧ On w w' := by
  obtain ⟨A0, c0, A1, c1, rfl, h0, h1⟩ := h.out
  exact IsValidInstance_calls w A0 c0 A1 c1 rs fs h0 h1
theorem hasHom_bad {r1 : List Rel} {f1 : List Fct} {r2 : List Rel} {f2 : List Fct} (h : okInst r1 f1 = false ∨ okInst r2 f2 = false) : hasHom r1 f1 r2 f2 = false := by
  cases hh : hasHom r1 f1 r2 f2 with
  | false => rfl
  | true =>
    obtain ⟨a, b, _⟩ := (hasHom_iff _ _ _ _).1 hh
    rcases h with h | h
    · rw [a] at h; cases h
    · rw [b] at h; cases h
theorem IW.ofS {g lo lo' : Nat} {w : World} {A B : Option Addr} {n c m d : Nat} {rs : List Rel} {fs : List Fct} (h : OIn w lo' (.agg #[.slice A n c, .slice B m d]) rs fs) (hl : lo ≤ lo') (hg : w.heap.size ≤ g ∨ g < lo') : ∃ hs, IW g lo w (.slice A n c) (.slice B m d) rs hs fs := by
  obtain ⟨vr, vf, hs, e, hY⟩ := IW.of h hl hg
  injection e with e
  have e' := congrArg Array.toList e
  simp only [List.cons.injEq, and_true] at e'
  obtain ⟨rfl, rfl⟩ := e'
  exact ⟨hs, hY⟩
theorem sDelO (w : World) (v u : Value) (rs : List Rel) (fs : List Fct) (g : Fct) (h : RIn w v rs fs) (k : RFa w u g) (hz : Sm rs fs) : Calls Try.prog 32 #[v, u] w (Got fun x w' => ∃ v1, x = .tuple #[v1, .bool (okInst rs fs && hasF fs g)] ∧ OIn w' w.heap.size v1 rs (delI rs fs g) ∧ On w w') := by
  obtain ⟨A0, c0, A1, c1, rfl, h0, h1⟩ := h.out
  obtain ⟨A2, c2, rfl, h2⟩ := k.out
  exact sDeleteFact_calls w A0 c0 A1 c1 rs fs h0 h1 A2 c2 g h2 (by have := hz.r; omega) (by have := hz.f; omega) (fun f hf => by have := hz.m f hf; omega)
theorem delI_sub (rs : List Rel) (fs : List Fct) (g : Fct) : ∀ f ∈ delI rs fs g, f ∈ fs := fun f hf => by
  unfold delI at hf
  split at hf
  · exact (List.mem_filter.1 hf).1
  · exact hf
theorem okInst_delI {rs : List Rel} {fs : List Fct} (g : Fct) (h : okInst rs fs = true) : okInst rs (delI rs fs g) = true := by
  unfold delI
  split
  · exact okInst_del g h
  · exact h
/-- What the region that deletes a fact comes to. -/
structure MDel (w9 : World) (g3 : Nat) (A0 : Option Addr) (n0 c0 : Nat) (A1 : Option Addr) (n1 c1 : Nat) (A : Option Addr) (nx c : Nat) (rs : List Rel) (fs : List Fct) (a a' : Act) (w' : World) : Prop where mk :: (out : ∃ (v62 v66 v67 v68 : Value) (D0 : Option Addr) (i0 j0 : Nat) (D1 : Option Addr) (i1 j1 : Nat) (vb : Value) (g : Nat) (f : Fct),
  a' = (Act.put (Act.put (Act.put (Act.put (Act.put (Act.put (Act.put (Act.put (Act.put (Act.put (Act.put (Act.put (Act.put (Act.put (Act.put (Act.put (Act.put a (some 58) (.agg #[.slice A0 n0 c0, .slice A1 n1 c1])) (some 59) (.pointer (some ⟨g3, 1, none⟩))) (some 60) (.slice A1 n1 c1)) (some 61) (.slice A nx c)) (some 62) v62) (some 63) (.pointer (some ⟨g3, 1, none⟩))) (some 64) (.slice A1 n1 c1)) (some 65) (.int .i64 n1)) (some 66) v66) (some 67) v67) (some 68) v68) (some 69) (.tuple #[.agg #[.slice D0 i0 j0, .slice D1 i1 j1], vb])) (some 57) (.tuple #[.agg #[.slice D0 i0 j0, .slice D1 i1 j1], vb])) (some 70) (.agg #[.slice D0 i0 j0, .slice D1 i1 j1])) (some 71) vb) (some 9) (.pointer (some ⟨g, 0, none⟩))) (some 10) vb) ∧ w9.heap.size ≤ g ∧ w'.heap[g]? = some (.cells #[.slice D0 i0 j0, .slice D1 i1 j1] 32 (0, 0)) ∧ RIn w' (.agg #[.slice D0 i0 j0, .slice D1 i1 j1]) rs (delI rs fs f) ∧ On w9 w')
theorem FnHomomorphismMonotonicity_calls (w : World) (A c) (xs : List Int) (hc : xs.length ≤ c) (hK : kBytes.C w A xs.length xs) (hg : ∀ x ∈ xs, 0 ≤ x ∧ x ≤ 255) : Calls Try.prog 9 #[.slice A xs.length c] w fun e w' => e = .returned (.bool true) ∧ On w w' := by
  have hK' := Aside0.mk hK
  have hc' := Aside0.mk hc
  have hg' := Aside0.mk hg
  clear hK hc hg
  by_cases hbig : 1048576 < (xs.length : Int)
  · have hbb := Aside0.mk (decide_eq_true hbig)
    clear hbig
    go_enter Try.func9, Try.ntmps9
    go_wp2_with (go_at_call 39; refine (big_calls w A xs.length c).mono ?_; rintro e w1 ⟨rfl, hb1⟩; rw [hbb.out])
    go_ret
    exact ⟨rfl, hb1⟩
  · have hbb := Aside0.mk (decide_eq_false hbig)
    clear hbig
    go_enter Try.func9, Try.ntmps9
    go_wp2_with (first | (go_at_call 39; refine (big_calls w A xs.length c).mono ?_; rintro e w1 ⟨rfl, hb1⟩; rw [hbb.out]) | (go_at_call 40; refine Stop.out ?_))
    refine ⟨(DrawHasHomomorphism_calls _ A c xs hc'.out (Kd.C_below hK'.out hb1)).mono ?_⟩
    rintro e w2 ⟨v, rfl, v1, v2, rs, fs, qs, gs, rfl, hR, hF, hl0, hl1, hl2, hl3, hl4, hl5, hb2⟩
    have hRa := Aside0.mk hR.read
    have hRb := Aside0.mk hF.read
    obtain ⟨A0, n0, c0, A1, n1, c1, rfl⟩ := hRa.out.shape
    obtain ⟨rfl, rfl, -, -⟩ := hRa.out.parts
    obtain ⟨B0, m0, d0, B1, m1, d1, rfl⟩ := hRb.out.shape
    have hSa := Aside0.mk (show Sm rs fs from ⟨hl0, by omega, hl2⟩)
    have hSb := Aside0.mk (show Sm qs gs from ⟨hl3, by omega, hl5⟩)
    have hgl := Aside0.mk hl4
    have hfl := Aside0.mk hl1
    have hW2 := Aside0.mk (hb1.trans hb2)
    clear hR hF hl0 hl1 hl2 hl3 hl4 hl5 hb1 hb2
    have hL := Aside0.mk (loc2 w2 #[.slice none 0 0, .slice none 0 0] #[.slice none 0 0, .slice none 0 0] 32 32)
    have hd0 := blk_cell hL.out.1
    have hd1 := blk_cell hL.out.2.1
    have hf0 := blk_frozen hL.out.1
    have hf1 := blk_frozen hL.out.2.1
    go_wp2_with (go_at_call 41; refine Stop.out ?_)
    obtain ⟨W3, hW3⟩ : ∃ W3, (w2.alloc (.cells #[.slice A0 rs.length c0, .slice A1 fs.length c1] 32 (0, 0))).alloc (.cells #[.slice B0 m0 d0, .slice B1 m1 d1] 32 (0, 0)) = W3 := ⟨_, rfl⟩
    have hS3 := Aside0.mk (show On w2 W3 from hW3 ▸ On.alloc (On.alloc (On.refl _) _) _)
    have hL3 := Aside0.mk (show Loc W3 [(w2.heap.size, #[.slice A0 rs.length c0, .slice A1 fs.length c1], 32), (w2.heap.size + 1, #[.slice B0 m0 d0, .slice B1 m1 d1], 32)] from hW3 ▸ loc2 w2 _ _ _ _)
    rw [hW3]
    clear hW3 hL hd0 hd1 hf0 hf1
    obtain ⟨g3, hg3⟩ : ∃ g3, w2.heap.size = g3 := ⟨_, rfl⟩
    rw [hg3] at hL3 ⊢
    clear hg3
    have hRx := Aside0.mk (hRa.out.on hS3.out)
    have hRy := Aside0.mk (hRb.out.on hS3.out)
    have hW := Aside0.mk (hW2.out.trans hS3.out)
    clear hS3 hW2 hRa hRb
    refine ⟨(sokV W3 _ rs fs hRx.out).mono ?_⟩
    rintro e w4 ⟨rfl, hb4⟩
    have hT := Aside0.mk hb4
    clear hb4
    cases ho : okInst rs fs with
    | false =>
      have hno := Aside0.mk (hasHom_bad (r2 := qs) (f2 := gs) (.inl ho))
      clear ho
      have q0 := blk_cell (Loc.on hT.out hL3.out).1
      have q1 := blk_cell (Loc.on hT.out hL3.out).2.1
      go_wp2_with (go_at_call 30; refine Stop.out ?_)
      refine ⟨(hhV _ _ _ rs fs qs gs (hRx.out.on hT.out) (hRy.out.on hT.out)).mono ?_⟩
      rintro e wz ⟨rfl, hbz⟩
      rw [hno.out]
      go_wp2
      go_ret
      exact ⟨rfl, (hW.out.trans hT.out).trans hbz⟩
    | true =>
      have ho1 := Aside0.mk ho
      clear ho
      have q1 := blk_cell (Loc.on hT.out hL3.out).2.1
      go_wp2_with (go_at_call 41; refine Stop.out ?_)
      clear q1
      refine ⟨(sokV w4 _ qs gs (hRy.out.on hT.out)).mono ?_⟩
      rintro e w5 ⟨rfl, hb5⟩
      replace hT := Aside0.mk (hT.out.trans hb5)
      clear hb5
      cases ho : okInst qs gs with
      | false =>
        have hno := Aside0.mk (hasHom_bad (r1 := rs) (f1 := fs) (.inr ho))
        clear ho
        have q0 := blk_cell (Loc.on hT.out hL3.out).1
        have q1 := blk_cell (Loc.on hT.out hL3.out).2.1
        go_wp2_with (go_at_call 30; refine Stop.out ?_)
        refine ⟨(hhV _ _ _ rs fs qs gs (hRx.out.on hT.out) (hRy.out.on hT.out)).mono ?_⟩
        rintro e wz ⟨rfl, hbz⟩
        rw [hno.out]
        go_wp2
        go_ret
        exact ⟨rfl, (hW.out.trans hT.out).trans hbz⟩
      | true =>
        have ho2 := Aside0.mk ho
        clear ho
        go_wp2_with (go_at_call 42; refine Stop.out ?_)
        refine ⟨(DrawInsertFact_calls w5 A c xs hc'.out (Kd.C_below hK'.out (hW.out.trans hT.out))).mono ?_⟩
        rintro e w6 ⟨v, rfl, v5, v6, ps, hs, f, rfl, hR6, hF6, -, -, -, hf3, hb6⟩
        have hR6' := Aside0.mk hR6.read
        have hFa := Aside0.mk (hF6 _ (Ex.refl _ _))
        obtain ⟨C0, k0, e0, C1, k1, e1, rfl⟩ := hR6'.out.shape
        obtain ⟨r2, A2, n2, c2, rfl⟩ := hFa.out.shape
        have hf3' := Aside0.mk hf3
        have hT6 := Aside0.mk (hT.out.trans hb6)
        clear hR6 hF6 hf3 hb6 hR6'
        have hL := Aside0.mk (loc2 w6 #[.slice none 0 0, .slice none 0 0] #[.int .i64 0, .slice none 0 0] 32 55)
        have hd0 := blk_cell hL.out.1
        have hd1 := blk_cell hL.out.2.1
        have hf0 := blk_frozen hL.out.1
        have hf1 := blk_frozen hL.out.2.1
        have q1 := blk_cell (blk_below (Loc.on hT6.out hL3.out).2.1 (On.alloc (On.alloc (On.refl w6) (.cells #[.slice C0 k0 e0, .slice C1 k1 e1] 32 (0, 0))) (.cells #[.int .i64 r2, .slice A2 n2 c2] 55 (0, 0))))
        go_wp2_with (go_at_call 43; refine Stop.out ?_)
        refine ⟨?_⟩
        clear q1
        obtain ⟨W7, hW7⟩ : ∃ W7, (w6.alloc (.cells #[.slice C0 k0 e0, .slice C1 k1 e1] 32 (0, 0))).alloc (.cells #[.int .i64 r2, .slice A2 n2 c2] 55 (0, 0)) = W7 := ⟨_, rfl⟩
        have hS7 := Aside0.mk (show On w6 W7 from hW7 ▸ On.alloc (On.alloc (On.refl _) _) _)
        rw [hW7]
        clear hW7 hL hd0 hd1 hf0 hf1
        obtain ⟨g7, hg7⟩ : ∃ g7, w6.heap.size = g7 := ⟨_, rfl⟩
        try rw [hg7]
        clear hg7
        have hT7 := Aside0.mk (hT6.out.trans hS7.out)
        refine (sInsV W7 _ _ qs gs f (hRy.out.on hT7.out) (hFa.out.on hS7.out) ⟨hSb.out.r, hSb.out.f, hSb.out.m⟩ hf3'.out).mono ?_
        rintro e w8 ⟨v, rfl, v9, rfl, hR8, hb8⟩
        obtain ⟨D0, i0, j0, D1, i1, j1, rfl⟩ := hR8.shape
        have hB8 := Aside0.mk (hb8.trans (On.alloc (On.refl w8) (.cells #[.slice D0 i0 j0, .slice D1 i1 j1] 32 (0, 0))))
        have hl8 := Aside0.mk (loc_new w8 #[.slice D0 i0 j0, .slice D1 i1 j1] 32)
        have hRc := Aside0.mk (hR8.on (On.alloc (On.refl w8) (.cells #[.slice D0 i0 j0, .slice D1 i1 j1] 32 (0, 0))))
        have hfill := alloc_fill w8
        clear hb8 hR8
        obtain ⟨b, hb⟩ : ∃ b, insB qs gs f = b := ⟨_, rfl⟩
        have hbI := Aside0.mk hb
        rw [hb]
        clear hb
        have hT8 := Aside0.mk (hT7.out.trans hB8.out)
        have q0 := blk_cell (Loc.on hT8.out hL3.out).1
        have q1 := blk_cell (Loc.on hT8.out hL3.out).2.1
        have hxa := Aside0.mk (hRx.out.on hT8.out)
        have hxb := Aside0.mk (hRy.out.on hT8.out)
        cases b with
        | false =>
          by_cases hz : (fs.length : Int) = 0
          · have hz1 : ((fs.length : Int) == 0) = true := beq_iff_eq.mpr hz
            have hz2 : (fs.length == 0) = true := beq_iff_eq.mpr (by omega)
            go_wp2
            go_ret
            exact ⟨rfl, hW.out.trans hT8.out⟩
          · have hz1 : ((fs.length : Int) == 0) = false := beq_eq_false_iff_ne.mpr hz
            have hz2 : (fs.length == 0) = false := beq_eq_false_iff_ne.mpr (by omega)
            have hz0 := Aside0.mk (show 0 < fs.length by omega)
            go_wp2
            clear hz hz1 hz2 hfill q0 q1
            obtain ⟨w9, hw9⟩ : ∃ w9, w8.alloc (.cells #[.slice D0 i0 j0, .slice D1 i1 j1] 32 (0, 0)) = w9 := ⟨_, rfl⟩
            rw [hw9] at hT8 hxa hxb ⊢
            clear hw9
            as_aux_lemma =>
              have hbox := Aside0.mk (Loc.on hT8.out hL3.out).1
              have hd0 := blk_cell hbox.out 0
              have hd1 := blk_cell hbox.out 1
              obtain ⟨-, -, hRl, hFl⟩ := hxa.out.parts
              obtain ⟨ad, _, _, hA1, -, -, -⟩ := hFl.at 0 hz0.out
              subst hA1
              have hFl' := Aside0.mk hFl
              clear hRl hFl
              refine Reg.regionM (.s 0 .L (.s 1 .L (.s 2 .L (.s 3 .L (.s 5 .L (.s 6 .L (.s 7 .L (.two 4 15 (.s 8 .L (.s 9 .L (.s 10 .L (.two 11 15 (.leaf [(12,.L),(13,.L),(14,.P),(15,.N)]) (.leaf [(11,.N),(12,.L),(13,.L),(14,.P)]))))) (.leaf [(4,.N),(8,.L),(9,.L),(10,.L),(11,.N),(12,.L),(13,.L),(14,.P)]))))))))) [16,17] (fun a a' w' => MDel w9 g3 A0 rs.length c0 (some ad) fs.length c1 A xs.length c rs fs a a' w') (by kernel_rfl) (by kernel_rfl) ?_ ?_
              · have hQ_w9 := Aside0.mk (On.refl w9)
                repeat refine tL ?_
                clear hd0 hd1
                refine tTwo ?_ ?_
                · skip
                  intro u1 hS
                  have hQ_u1 := Aside0.mk (hQ_w9.out.trans hS)
                  refine goesF 62 Try.func44 ((at_calls _ A c xs (Kd.C_below hK'.out ((hW.out.trans hT8.out).trans hQ_u1.out)) hg'.out).mono ?_)
                  rintro e u2 ⟨v, rfl, x, rfl, hx0, hx1, hb1⟩
                  obtain ⟨y, rfl⟩ := Int.eq_ofNat_of_zero_le hx0
                  refine ⟨_, rfl, hS.trans hb1, ?_⟩
                  simp only [Act.put, List.setIfInBounds_toArray, List.set_cons_zero, List.set_cons_succ]
                  have hQ_u2 := Aside0.mk (hQ_u1.out.trans hb1)
                  clear hS hb1 hx0 hx1
                  obtain ⟨k, hk⟩ : ∃ k, y % fs.length = k := ⟨_, rfl⟩
                  have hkl : k < fs.length := by rw [← hk]; exact Nat.mod_lt _ hz0.out
                  have hm1 : Int.tmod (y : Int) (fs.length : Int) = (k : Int) := by rw [← hk]; rfl
                  have hm2 : (y : Int) % (fs.length : Int) = (k : Int) := by rw [← hk]; rfl
                  have hkw := Aside0.mk hk
                  clear hk
                  have hwk : IntKind.i64.wrap (k : Int) = (k : Int) := IntWalk.i64_in _ (by have := hfl.out; omega)
                  have hwk2 : wrap64 (k : Int) = (k : Int) := IntWalk.wrap64_in _ (by have := hfl.out; omega)
                  have hne : ((fs.length : Int) == 0) = false := beq_eq_false_iff_ne.mpr (by have := hz0.out; omega)
                  have hne2 : ((fs.length : Int) = 0) = False := eq_false (by have := hz0.out; omega)
                  have hne4 : (fs = []) = False := eq_false (fun e => by have := hz0.out; rw [e] at this; simp at this)
                  have hne3 : ((fs.length : Int) != 0) = true := bne_iff_ne.mpr (by have := hz0.out; omega)
                  have hc1 := blk_cell (blk_below hbox.out hQ_u2.out) 1
                  obtain ⟨ad', A3, c3, hA1, x0, x1, x2⟩ := (hFl'.out.on hQ_u2.out).at k hkl
                  obtain rfl : ad = ad' := Option.some.inj hA1
                  obtain ⟨f, hfe⟩ : ∃ f, fs[k] = f := ⟨_, rfl⟩
                  rw [hfe] at x0 x1 x2
                  clear hfe
                  have x2' := Aside0.mk x2
                  clear x2 hA1
                  refine tL ?_
                  refine tL ?_
                  refine tL ?_
                  clear hc1 x0 x1 hm1 hm2 hwk hwk2 hne hne2 hne3 hne4 hkl
                  refine tTwo ?_ ?_
                  · skip
                    intro u3 hS
                    have hQ_u3 := Aside0.mk (hQ_u2.out.trans hS)
                    have hFk : RFa u3 (.agg #[.int .i64 f.1, .slice A3 f.2.length c3]) f := ⟨A3, c3, rfl, x2'.out.on (hS)⟩
                    refine goesF 69 Try.func32 ((sDelO _ _ _ rs fs f (hxa.out.on hQ_u3.out) hFk hSa.out).mono ?_)
                    rintro e u4 ⟨v, rfl, v1, rfl, hO, hb1⟩
                    obtain ⟨D0, i0, j0, D1, i1, j1, rfl⟩ := hO.read.shape
                    refine ⟨_, rfl, hS.trans hb1, ?_⟩
                    simp only [Act.put, List.setIfInBounds_toArray, List.set_cons_zero, List.set_cons_succ]
                    have hQ_u4 := Aside0.mk (hQ_u3.out.trans hb1)
                    clear hFk
                    have hlo_ := Aside0.mk hQ_u3.out.size
                    have hD_u4 := Aside0.mk hO
                    clear hO hS hb1
                    refine Reg.tLeaf ?_
                    repeat first | refine sP ?_ | refine sS ?_ | refine sA ?_ | refine sL ?_ | refine sQ ?_ | refine sO ?_
                    refine stepM (fun u5 hS => ?_)
                    have hQ_u5 := Aside0.mk (hQ_u4.out.trans hS)
                    have hD_u5 := Aside0.mk (hD_u4.out.on hS)
                    go_wp2
                    refine ⟨hS.trans (On.alloc (On.refl _) _), ?_⟩
                    have hg8 := Aside0.mk (show w9.heap.size ≤ u5.heap.size from hQ_u5.out.size)
                    obtain ⟨hs, hY⟩ := IW.ofS (g := u5.heap.size) (lo := w9.heap.size) hD_u5.out hlo_.out (.inl (Nat.le_refl _))
                    have hY0 := Aside0.mk hY
                    clear hY
                    obtain ⟨u6, hu6⟩ : ∃ u, u5.alloc (.cells #[.slice none 0 0, .slice none 0 0] 32 (0, 0)) = u := ⟨_, rfl⟩
                    have hSa8 := Aside0.mk (show On u5 u6 from hu6 ▸ On.alloc (On.refl _) _)
                    have kZ_u6 := Aside0.mk (show u6.heap[u5.heap.size]? = some (.cells #[.slice none 0 0, .slice none 0 0] 32 (0, 0)) from hu6 ▸ loc_new _ _ _)
                    rw [hu6]
                    clear hu6
                    have hQ_u6 := Aside0.mk (hQ_u5.out.trans hSa8.out)
                    have hY_u6 := Aside0.mk (hY0.out.on hSa8.out)
                    obtain ⟨g8, hg8e⟩ : ∃ g8, u5.heap.size = g8 := ⟨_, rfl⟩
                    rw [hg8e] at kZ_u6 hg8 hY_u6 ⊢
                    clear hg8e
                    clear hS
                    refine Reg.tail_ fun u7 hS => ?_
                    have hQ_u7 := Aside0.mk (hQ_u6.out.trans hS)
                    have kZ_u7 := Aside0.mk (blk_below kZ_u6.out hS)
                    have hY_u7 := Aside0.mk (hY_u6.out.on hS)
                    have cZ := blk_cell kZ_u7.out
                    have fZ := blk_frozen kZ_u7.out
                    clear hS
                    go_wp2
                    have EX := (Ex.set u7 ⟨g8, 0, none⟩ (.slice D0 i0 j0)).trans (Ex.set _ ⟨g8, 1, none⟩ (.slice D1 i1 j1)) (fun _ _ h => h)
                    have hg8' := hg8.out
                    refine ⟨⟨.int .i64 (y : Int), .int .i64 (k : Int), .pointer (some (ad.add (k * 2))), .agg #[.int .i64 f.1, .slice A3 f.2.length c3], D0, i0, j0, D1, i1, j1, .bool (okInst rs fs && hasF fs f), g8, f, ?_, hg8', blk_set (blk_set kZ_u7.out 0 _) 1 _, (((hY_u7.out.ex EX fun b hb => .inr hb).rs (S := fun _ => False) fun b hb => hb.elim)).read, Ex.on hQ_u7.out EX (fun i e => by have e' : i = g8 := e; omega)⟩⟩
                    try simp only [Act.put, List.setIfInBounds_toArray, List.set_cons_zero, List.set_cons_succ]
                    try simp
                    try rfl
                  · skip
                    intro u8 hS
                    have hQ_u8 := Aside0.mk (hQ_u2.out.trans hS)
                    go_wp2
                    refine ⟨hS.trans (On.alloc (On.refl _) _), ?_⟩
                    have hg8 := Aside0.mk (show w9.heap.size ≤ u8.heap.size from hQ_u8.out.size)
                    obtain ⟨u9, hu9⟩ : ∃ u, u8.alloc (.cells #[.slice none 0 0, .slice none 0 0] 32 (0, 0)) = u := ⟨_, rfl⟩
                    have hSa8 := Aside0.mk (show On u8 u9 from hu9 ▸ On.alloc (On.refl _) _)
                    have kZ_u9 := Aside0.mk (show u9.heap[u8.heap.size]? = some (.cells #[.slice none 0 0, .slice none 0 0] 32 (0, 0)) from hu9 ▸ loc_new _ _ _)
                    rw [hu9]
                    clear hu9
                    have hQ_u9 := Aside0.mk (hQ_u8.out.trans hSa8.out)
                    obtain ⟨g8, hg8e⟩ : ∃ g8, u8.heap.size = g8 := ⟨_, rfl⟩
                    rw [hg8e] at kZ_u9 hg8 ⊢
                    clear hg8e
                    have hSk := Aside0.mk hS
                    clear hS
                    refine Reg.tLeaf ?_
                    refine stepM (fun u10 hS => ?_)
                    have hQ_u10 := Aside0.mk (hQ_u9.out.trans hS)
                    have kZ_u10 := Aside0.mk (blk_below kZ_u9.out hS)
                    have hFk : RFa u10 (.agg #[.int .i64 f.1, .slice A3 f.2.length c3]) f := ⟨A3, c3, rfl, x2'.out.on (((hSk.out).trans hSa8.out).trans hS)⟩
                    refine goesF 69 Try.func32 ((sDelO _ _ _ rs fs f (hxa.out.on hQ_u10.out) hFk hSa.out).mono ?_)
                    rintro e u11 ⟨v, rfl, v1, rfl, hO, hb1⟩
                    obtain ⟨D0, i0, j0, D1, i1, j1, rfl⟩ := hO.read.shape
                    refine ⟨_, rfl, hS.trans hb1, ?_⟩
                    simp only [Act.put, List.setIfInBounds_toArray, List.set_cons_zero, List.set_cons_succ]
                    have hQ_u11 := Aside0.mk (hQ_u10.out.trans hb1)
                    clear hFk
                    have kZ_u11 := Aside0.mk (blk_below kZ_u10.out hb1)
                    obtain ⟨hs, hY⟩ := IW.ofS (g := g8) (lo := w9.heap.size) hO hQ_u10.out.size (.inr (blk_lt kZ_u10.out))
                    have hY_u11 := Aside0.mk hY
                    clear hY
                    clear hO hS hb1
                    repeat first | refine sP ?_ | refine sS ?_ | refine sA ?_ | refine sL ?_ | refine sQ ?_ | refine sO ?_
                    refine Reg.tail_ fun u12 hS => ?_
                    have hQ_u12 := Aside0.mk (hQ_u11.out.trans hS)
                    have kZ_u12 := Aside0.mk (blk_below kZ_u11.out hS)
                    have hY_u12 := Aside0.mk (hY_u11.out.on hS)
                    have cZ := blk_cell kZ_u12.out
                    have fZ := blk_frozen kZ_u12.out
                    clear hS
                    go_wp2
                    have EX := (Ex.set u12 ⟨g8, 0, none⟩ (.slice D0 i0 j0)).trans (Ex.set _ ⟨g8, 1, none⟩ (.slice D1 i1 j1)) (fun _ _ h => h)
                    have hg8' := hg8.out
                    refine ⟨⟨.int .i64 (y : Int), .int .i64 (k : Int), .pointer (some (ad.add (k * 2))), .agg #[.int .i64 f.1, .slice A3 f.2.length c3], D0, i0, j0, D1, i1, j1, .bool (okInst rs fs && hasF fs f), g8, f, ?_, hg8', blk_set (blk_set kZ_u12.out 0 _) 1 _, (((hY_u12.out.ex EX fun b hb => .inr hb).rs (S := fun _ => False) fun b hb => hb.elim)).read, Ex.on hQ_u12.out EX (fun i e => by have e' : i = g8 := e; omega)⟩⟩
                    try simp only [Act.put, List.setIfInBounds_toArray, List.set_cons_zero, List.set_cons_succ]
                    try simp
                    try rfl
                · skip
                  intro u13 hS
                  have hQ_u13 := Aside0.mk (hQ_w9.out.trans hS)
                  go_wp2
                  refine ⟨hS.trans (On.alloc (On.refl _) _), ?_⟩
                  have hg8 := Aside0.mk (show w9.heap.size ≤ u13.heap.size from hQ_u13.out.size)
                  obtain ⟨u14, hu14⟩ : ∃ u, u13.alloc (.cells #[.slice none 0 0, .slice none 0 0] 32 (0, 0)) = u := ⟨_, rfl⟩
                  have hSa8 := Aside0.mk (show On u13 u14 from hu14 ▸ On.alloc (On.refl _) _)
                  have kZ_u14 := Aside0.mk (show u14.heap[u13.heap.size]? = some (.cells #[.slice none 0 0, .slice none 0 0] 32 (0, 0)) from hu14 ▸ loc_new _ _ _)
                  rw [hu14]
                  clear hu14
                  have hQ_u14 := Aside0.mk (hQ_u13.out.trans hSa8.out)
                  obtain ⟨g8, hg8e⟩ : ∃ g8, u13.heap.size = g8 := ⟨_, rfl⟩
                  rw [hg8e] at kZ_u14 hg8 ⊢
                  clear hg8e
                  clear hS
                  refine Reg.tLeaf ?_
                  refine stepM (fun u15 hS => ?_)
                  have hQ_u15 := Aside0.mk (hQ_u14.out.trans hS)
                  have kZ_u15 := Aside0.mk (blk_below kZ_u14.out hS)
                  refine goesF 62 Try.func44 ((at_calls _ A c xs (Kd.C_below hK'.out ((hW.out.trans hT8.out).trans hQ_u15.out)) hg'.out).mono ?_)
                  rintro e u16 ⟨v, rfl, x, rfl, hx0, hx1, hb1⟩
                  obtain ⟨y, rfl⟩ := Int.eq_ofNat_of_zero_le hx0
                  refine ⟨_, rfl, hS.trans hb1, ?_⟩
                  simp only [Act.put, List.setIfInBounds_toArray, List.set_cons_zero, List.set_cons_succ]
                  have hQ_u16 := Aside0.mk (hQ_u15.out.trans hb1)
                  have kZ_u16 := Aside0.mk (blk_below kZ_u15.out hb1)
                  clear hS hb1 hx0 hx1
                  obtain ⟨k, hk⟩ : ∃ k, y % fs.length = k := ⟨_, rfl⟩
                  have hkl : k < fs.length := by rw [← hk]; exact Nat.mod_lt _ hz0.out
                  have hm1 : Int.tmod (y : Int) (fs.length : Int) = (k : Int) := by rw [← hk]; rfl
                  have hm2 : (y : Int) % (fs.length : Int) = (k : Int) := by rw [← hk]; rfl
                  have hkw := Aside0.mk hk
                  clear hk
                  have hwk : IntKind.i64.wrap (k : Int) = (k : Int) := IntWalk.i64_in _ (by have := hfl.out; omega)
                  have hwk2 : wrap64 (k : Int) = (k : Int) := IntWalk.wrap64_in _ (by have := hfl.out; omega)
                  have hne : ((fs.length : Int) == 0) = false := beq_eq_false_iff_ne.mpr (by have := hz0.out; omega)
                  have hne2 : ((fs.length : Int) = 0) = False := eq_false (by have := hz0.out; omega)
                  have hne4 : (fs = []) = False := eq_false (fun e => by have := hz0.out; rw [e] at this; simp at this)
                  have hne3 : ((fs.length : Int) != 0) = true := bne_iff_ne.mpr (by have := hz0.out; omega)
                  have hc1 := blk_cell (blk_below hbox.out hQ_u16.out) 1
                  obtain ⟨ad', A3, c3, hA1, x0, x1, x2⟩ := (hFl'.out.on hQ_u16.out).at k hkl
                  obtain rfl : ad = ad' := Option.some.inj hA1
                  obtain ⟨f, hfe⟩ : ∃ f, fs[k] = f := ⟨_, rfl⟩
                  rw [hfe] at x0 x1 x2
                  clear hfe
                  have x2' := Aside0.mk x2
                  clear x2 hA1
                  repeat first | refine sP ?_ | refine sS ?_ | refine sA ?_ | refine sL ?_ | refine sQ ?_ | refine sO ?_
                  clear hc1 x0 x1 hm1 hm2 hwk hwk2 hne hne2 hne3 hne4 hkl
                  refine stepM (fun u17 hS => ?_)
                  have hQ_u17 := Aside0.mk (hQ_u16.out.trans hS)
                  have kZ_u17 := Aside0.mk (blk_below kZ_u16.out hS)
                  have hFk : RFa u17 (.agg #[.int .i64 f.1, .slice A3 f.2.length c3]) f := ⟨A3, c3, rfl, x2'.out.on (hS)⟩
                  refine goesF 69 Try.func32 ((sDelO _ _ _ rs fs f (hxa.out.on hQ_u17.out) hFk hSa.out).mono ?_)
                  rintro e u18 ⟨v, rfl, v1, rfl, hO, hb1⟩
                  obtain ⟨D0, i0, j0, D1, i1, j1, rfl⟩ := hO.read.shape
                  refine ⟨_, rfl, hS.trans hb1, ?_⟩
                  simp only [Act.put, List.setIfInBounds_toArray, List.set_cons_zero, List.set_cons_succ]
                  have hQ_u18 := Aside0.mk (hQ_u17.out.trans hb1)
                  clear hFk
                  have kZ_u18 := Aside0.mk (blk_below kZ_u17.out hb1)
                  obtain ⟨hs, hY⟩ := IW.ofS (g := g8) (lo := w9.heap.size) hO hQ_u17.out.size (.inr (blk_lt kZ_u17.out))
                  have hY_u18 := Aside0.mk hY
                  clear hY
                  clear hO hS hb1
                  repeat first | refine sP ?_ | refine sS ?_ | refine sA ?_ | refine sL ?_ | refine sQ ?_ | refine sO ?_
                  refine Reg.tail_ fun u19 hS => ?_
                  have hQ_u19 := Aside0.mk (hQ_u18.out.trans hS)
                  have kZ_u19 := Aside0.mk (blk_below kZ_u18.out hS)
                  have hY_u19 := Aside0.mk (hY_u18.out.on hS)
                  have cZ := blk_cell kZ_u19.out
                  have fZ := blk_frozen kZ_u19.out
                  clear hS
                  go_wp2
                  have EX := (Ex.set u19 ⟨g8, 0, none⟩ (.slice D0 i0 j0)).trans (Ex.set _ ⟨g8, 1, none⟩ (.slice D1 i1 j1)) (fun _ _ h => h)
                  have hg8' := hg8.out
                  refine ⟨⟨.int .i64 (y : Int), .int .i64 (k : Int), .pointer (some (ad.add (k * 2))), .agg #[.int .i64 f.1, .slice A3 f.2.length c3], D0, i0, j0, D1, i1, j1, .bool (okInst rs fs && hasF fs f), g8, f, ?_, hg8', blk_set (blk_set kZ_u19.out 0 _) 1 _, (((hY_u19.out.ex EX fun b hb => .inr hb).rs (S := fun _ => False) fun b hb => hb.elim)).read, Ex.on hQ_u19.out EX (fun i e => by have e' : i = g8 := e; omega)⟩⟩
                  try simp only [Act.put, List.setIfInBounds_toArray, List.set_cons_zero, List.set_cons_succ]
                  try simp
                  try rfl
              rintro a' w12 ⟨v62, v66, v67, v68, D0', i0', j0', D1', i1', j1', vb, g8, f', rfl, hg8, hB8, hRd, hQ12⟩
              simp only [Act.put, List.setIfInBounds_toArray, List.set_cons_zero, List.set_cons_succ]
              have hT12 := Aside0.mk (hT8.out.trans hQ12)
              have hRd' := Aside0.mk hRd
              have hB8' := Aside0.mk hB8
              have hx12 := Aside0.mk (hxa.out.on hQ12)
              have hsub := Aside0.mk (hasHom_sub (okInst_delI f' ho1.out) ho1.out (delI_sub rs fs f'))
              have hself := Aside0.mk (hasHom_sub ho1.out ho1.out (fun f hf => hf))
              clear hg8 hB8 hRd hQ12
              have q0 := blk_cell hB8'.out
              have q1 := blk_cell (Loc.on hT12.out hL3.out).1
              go_wp2_with (go_at_call 30; refine Stop.out ?_)
              refine ⟨(hhV _ _ _ rs (delI rs fs f') rs fs hRd'.out hx12.out).mono ?_⟩
              rintro e w13 ⟨rfl, hb13⟩
              rw [hsub.out]
              have hT13 := Aside0.mk (hT12.out.trans hb13)
              have hx13 := Aside0.mk (hx12.out.on hb13)
              clear hb13 q0 q1
              have q1 := blk_cell (Loc.on hT13.out hL3.out).1
              go_wp2_with (go_at_call 30; refine Stop.out ?_)
              refine ⟨(hhV _ _ _ rs fs rs fs hx13.out hx13.out).mono ?_⟩
              rintro e w14 ⟨rfl, hb14⟩
              rw [hself.out]
              go_wp2
              go_ret
              exact ⟨rfl, (hW.out.trans hT13.out).trans hb14⟩
        | true =>
          have hy := ins_yes hbI.out
          have hRp0 := hRc.out
          rw [hy.1] at hRp0
          have hRp := Aside0.mk hRp0
          clear hRp0
          have hok3 := Aside0.mk hy.2.2.2.1
          clear hy
          go_wp2_with (go_at_call 30; refine Stop.out ?_)
          refine ⟨?_⟩
          clear hfill q0 q1
          obtain ⟨w9, hw9⟩ : ∃ w9, w8.alloc (.cells #[.slice D0 i0 j0, .slice D1 i1 j1] 32 (0, 0)) = w9 := ⟨_, rfl⟩
          rw [hw9] at hT8 hxa hxb hRp hl8 ⊢
          clear hw9
          obtain ⟨g9, hg9⟩ : ∃ g9, w8.heap.size = g9 := ⟨_, rfl⟩
          rw [hg9] at hl8 ⊢
          clear hg9
          refine (hhV _ _ _ rs fs qs gs hxa.out hxb.out).mono ?_
          rintro e w10 ⟨rfl, hb10⟩
          have hb10' := Aside0.mk hb10
          replace hT8 := Aside0.mk (hT8.out.trans hb10)
          replace hxa := Aside0.mk (hxa.out.on hb10)
          replace hxb := Aside0.mk (hxb.out.on hb10)
          clear hb10
          cases hh : hasHom rs fs qs gs with
          | false =>
            clear hh
            have q0 := blk_cell (Loc.on hT8.out hL3.out).1
            have q1 := blk_cell (Loc.on hT8.out hL3.out).2.1
            by_cases hz : (fs.length : Int) = 0
            · have hz1 : ((fs.length : Int) == 0) = true := beq_iff_eq.mpr hz
              have hz2 : (fs.length == 0) = true := beq_iff_eq.mpr (by omega)
              go_wp2
              go_ret
              exact ⟨rfl, hW.out.trans hT8.out⟩
            · have hz1 : ((fs.length : Int) == 0) = false := beq_eq_false_iff_ne.mpr hz
              have hz2 : (fs.length == 0) = false := beq_eq_false_iff_ne.mpr (by omega)
              have hz0 := Aside0.mk (show 0 < fs.length by omega)
              go_wp2
              clear hz hz1 hz2 q0 q1
              obtain ⟨w9, hw9⟩ : ∃ w9, w10 = w9 := ⟨_, rfl⟩
              rw [hw9] at hT8 hxa ⊢
              clear hw9
              as_aux_lemma =>
                have hbox := Aside0.mk (Loc.on hT8.out hL3.out).1
                have hd0 := blk_cell hbox.out 0
                have hd1 := blk_cell hbox.out 1
                obtain ⟨-, -, hRl, hFl⟩ := hxa.out.parts
                obtain ⟨ad, _, _, hA1, -, -, -⟩ := hFl.at 0 hz0.out
                subst hA1
                have hFl' := Aside0.mk hFl
                clear hRl hFl
                refine Reg.regionM (.s 0 .L (.s 1 .L (.s 2 .L (.s 3 .L (.s 5 .L (.s 6 .L (.s 7 .L (.two 4 15 (.s 8 .L (.s 9 .L (.s 10 .L (.two 11 15 (.leaf [(12,.L),(13,.L),(14,.P),(15,.N)]) (.leaf [(11,.N),(12,.L),(13,.L),(14,.P)]))))) (.leaf [(4,.N),(8,.L),(9,.L),(10,.L),(11,.N),(12,.L),(13,.L),(14,.P)]))))))))) [16,17] (fun a a' w' => MDel w9 g3 A0 rs.length c0 (some ad) fs.length c1 A xs.length c rs fs a a' w') (by kernel_rfl) (by kernel_rfl) ?_ ?_
                · have hQ_w9 := Aside0.mk (On.refl w9)
                  repeat refine tL ?_
                  clear hd0 hd1
                  refine tTwo ?_ ?_
                  · skip
                    intro u1 hS
                    have hQ_u1 := Aside0.mk (hQ_w9.out.trans hS)
                    refine goesF 62 Try.func44 ((at_calls _ A c xs (Kd.C_below hK'.out ((hW.out.trans hT8.out).trans hQ_u1.out)) hg'.out).mono ?_)
                    rintro e u2 ⟨v, rfl, x, rfl, hx0, hx1, hb1⟩
                    obtain ⟨y, rfl⟩ := Int.eq_ofNat_of_zero_le hx0
                    refine ⟨_, rfl, hS.trans hb1, ?_⟩
                    simp only [Act.put, List.setIfInBounds_toArray, List.set_cons_zero, List.set_cons_succ]
                    have hQ_u2 := Aside0.mk (hQ_u1.out.trans hb1)
                    clear hS hb1 hx0 hx1
                    obtain ⟨k, hk⟩ : ∃ k, y % fs.length = k := ⟨_, rfl⟩
                    have hkl : k < fs.length := by rw [← hk]; exact Nat.mod_lt _ hz0.out
                    have hm1 : Int.tmod (y : Int) (fs.length : Int) = (k : Int) := by rw [← hk]; rfl
                    have hm2 : (y : Int) % (fs.length : Int) = (k : Int) := by rw [← hk]; rfl
                    have hkw := Aside0.mk hk
                    clear hk
                    have hwk : IntKind.i64.wrap (k : Int) = (k : Int) := IntWalk.i64_in _ (by have := hfl.out; omega)
                    have hwk2 : wrap64 (k : Int) = (k : Int) := IntWalk.wrap64_in _ (by have := hfl.out; omega)
                    have hne : ((fs.length : Int) == 0) = false := beq_eq_false_iff_ne.mpr (by have := hz0.out; omega)
                    have hne2 : ((fs.length : Int) = 0) = False := eq_false (by have := hz0.out; omega)
                    have hne4 : (fs = []) = False := eq_false (fun e => by have := hz0.out; rw [e] at this; simp at this)
                    have hne3 : ((fs.length : Int) != 0) = true := bne_iff_ne.mpr (by have := hz0.out; omega)
                    have hc1 := blk_cell (blk_below hbox.out hQ_u2.out) 1
                    obtain ⟨ad', A3, c3, hA1, x0, x1, x2⟩ := (hFl'.out.on hQ_u2.out).at k hkl
                    obtain rfl : ad = ad' := Option.some.inj hA1
                    obtain ⟨f, hfe⟩ : ∃ f, fs[k] = f := ⟨_, rfl⟩
                    rw [hfe] at x0 x1 x2
                    clear hfe
                    have x2' := Aside0.mk x2
                    clear x2 hA1
                    refine tL ?_
                    refine tL ?_
                    refine tL ?_
                    clear hc1 x0 x1 hm1 hm2 hwk hwk2 hne hne2 hne3 hne4 hkl
                    refine tTwo ?_ ?_
                    · skip
                      intro u3 hS
                      have hQ_u3 := Aside0.mk (hQ_u2.out.trans hS)
                      have hFk : RFa u3 (.agg #[.int .i64 f.1, .slice A3 f.2.length c3]) f := ⟨A3, c3, rfl, x2'.out.on (hS)⟩
                      refine goesF 69 Try.func32 ((sDelO _ _ _ rs fs f (hxa.out.on hQ_u3.out) hFk hSa.out).mono ?_)
                      rintro e u4 ⟨v, rfl, v1, rfl, hO, hb1⟩
                      obtain ⟨D0, i0, j0, D1, i1, j1, rfl⟩ := hO.read.shape
                      refine ⟨_, rfl, hS.trans hb1, ?_⟩
                      simp only [Act.put, List.setIfInBounds_toArray, List.set_cons_zero, List.set_cons_succ]
                      have hQ_u4 := Aside0.mk (hQ_u3.out.trans hb1)
                      clear hFk
                      have hlo_ := Aside0.mk hQ_u3.out.size
                      have hD_u4 := Aside0.mk hO
                      clear hO hS hb1
                      refine Reg.tLeaf ?_
                      repeat first | refine sP ?_ | refine sS ?_ | refine sA ?_ | refine sL ?_ | refine sQ ?_ | refine sO ?_
                      refine stepM (fun u5 hS => ?_)
                      have hQ_u5 := Aside0.mk (hQ_u4.out.trans hS)
                      have hD_u5 := Aside0.mk (hD_u4.out.on hS)
                      go_wp2
                      refine ⟨hS.trans (On.alloc (On.refl _) _), ?_⟩
                      have hg8 := Aside0.mk (show w9.heap.size ≤ u5.heap.size from hQ_u5.out.size)
                      obtain ⟨hs, hY⟩ := IW.ofS (g := u5.heap.size) (lo := w9.heap.size) hD_u5.out hlo_.out (.inl (Nat.le_refl _))
                      have hY0 := Aside0.mk hY
                      clear hY
                      obtain ⟨u6, hu6⟩ : ∃ u, u5.alloc (.cells #[.slice none 0 0, .slice none 0 0] 32 (0, 0)) = u := ⟨_, rfl⟩
                      have hSa8 := Aside0.mk (show On u5 u6 from hu6 ▸ On.alloc (On.refl _) _)
                      have kZ_u6 := Aside0.mk (show u6.heap[u5.heap.size]? = some (.cells #[.slice none 0 0, .slice none 0 0] 32 (0, 0)) from hu6 ▸ loc_new _ _ _)
                      rw [hu6]
                      clear hu6
                      have hQ_u6 := Aside0.mk (hQ_u5.out.trans hSa8.out)
                      have hY_u6 := Aside0.mk (hY0.out.on hSa8.out)
                      obtain ⟨g8, hg8e⟩ : ∃ g8, u5.heap.size = g8 := ⟨_, rfl⟩
                      rw [hg8e] at kZ_u6 hg8 hY_u6 ⊢
                      clear hg8e
                      clear hS
                      refine Reg.tail_ fun u7 hS => ?_
                      have hQ_u7 := Aside0.mk (hQ_u6.out.trans hS)
                      have kZ_u7 := Aside0.mk (blk_below kZ_u6.out hS)
                      have hY_u7 := Aside0.mk (hY_u6.out.on hS)
                      have cZ := blk_cell kZ_u7.out
                      have fZ := blk_frozen kZ_u7.out
                      clear hS
                      go_wp2
                      have EX := (Ex.set u7 ⟨g8, 0, none⟩ (.slice D0 i0 j0)).trans (Ex.set _ ⟨g8, 1, none⟩ (.slice D1 i1 j1)) (fun _ _ h => h)
                      have hg8' := hg8.out
                      refine ⟨⟨.int .i64 (y : Int), .int .i64 (k : Int), .pointer (some (ad.add (k * 2))), .agg #[.int .i64 f.1, .slice A3 f.2.length c3], D0, i0, j0, D1, i1, j1, .bool (okInst rs fs && hasF fs f), g8, f, ?_, hg8', blk_set (blk_set kZ_u7.out 0 _) 1 _, (((hY_u7.out.ex EX fun b hb => .inr hb).rs (S := fun _ => False) fun b hb => hb.elim)).read, Ex.on hQ_u7.out EX (fun i e => by have e' : i = g8 := e; omega)⟩⟩
                      try simp only [Act.put, List.setIfInBounds_toArray, List.set_cons_zero, List.set_cons_succ]
                      try simp
                      try rfl
                    · skip
                      intro u8 hS
                      have hQ_u8 := Aside0.mk (hQ_u2.out.trans hS)
                      go_wp2
                      refine ⟨hS.trans (On.alloc (On.refl _) _), ?_⟩
                      have hg8 := Aside0.mk (show w9.heap.size ≤ u8.heap.size from hQ_u8.out.size)
                      obtain ⟨u9, hu9⟩ : ∃ u, u8.alloc (.cells #[.slice none 0 0, .slice none 0 0] 32 (0, 0)) = u := ⟨_, rfl⟩
                      have hSa8 := Aside0.mk (show On u8 u9 from hu9 ▸ On.alloc (On.refl _) _)
                      have kZ_u9 := Aside0.mk (show u9.heap[u8.heap.size]? = some (.cells #[.slice none 0 0, .slice none 0 0] 32 (0, 0)) from hu9 ▸ loc_new _ _ _)
                      rw [hu9]
                      clear hu9
                      have hQ_u9 := Aside0.mk (hQ_u8.out.trans hSa8.out)
                      obtain ⟨g8, hg8e⟩ : ∃ g8, u8.heap.size = g8 := ⟨_, rfl⟩
                      rw [hg8e] at kZ_u9 hg8 ⊢
                      clear hg8e
                      have hSk := Aside0.mk hS
                      clear hS
                      refine Reg.tLeaf ?_
                      refine stepM (fun u10 hS => ?_)
                      have hQ_u10 := Aside0.mk (hQ_u9.out.trans hS)
                      have kZ_u10 := Aside0.mk (blk_below kZ_u9.out hS)
                      have hFk : RFa u10 (.agg #[.int .i64 f.1, .slice A3 f.2.length c3]) f := ⟨A3, c3, rfl, x2'.out.on (((hSk.out).trans hSa8.out).trans hS)⟩
                      refine goesF 69 Try.func32 ((sDelO _ _ _ rs fs f (hxa.out.on hQ_u10.out) hFk hSa.out).mono ?_)
                      rintro e u11 ⟨v, rfl, v1, rfl, hO, hb1⟩
                      obtain ⟨D0, i0, j0, D1, i1, j1, rfl⟩ := hO.read.shape
                      refine ⟨_, rfl, hS.trans hb1, ?_⟩
                      simp only [Act.put, List.setIfInBounds_toArray, List.set_cons_zero, List.set_cons_succ]
                      have hQ_u11 := Aside0.mk (hQ_u10.out.trans hb1)
                      clear hFk
                      have kZ_u11 := Aside0.mk (blk_below kZ_u10.out hb1)
                      obtain ⟨hs, hY⟩ := IW.ofS (g := g8) (lo := w9.heap.size) hO hQ_u10.out.size (.inr (blk_lt kZ_u10.out))
                      have hY_u11 := Aside0.mk hY
                      clear hY
                      clear hO hS hb1
                      repeat first | refine sP ?_ | refine sS ?_ | refine sA ?_ | refine sL ?_ | refine sQ ?_ | refine sO ?_
                      refine Reg.tail_ fun u12 hS => ?_
                      have hQ_u12 := Aside0.mk (hQ_u11.out.trans hS)
                      have kZ_u12 := Aside0.mk (blk_below kZ_u11.out hS)
                      have hY_u12 := Aside0.mk (hY_u11.out.on hS)
                      have cZ := blk_cell kZ_u12.out
                      have fZ := blk_frozen kZ_u12.out
                      clear hS
                      go_wp2
                      have EX := (Ex.set u12 ⟨g8, 0, none⟩ (.slice D0 i0 j0)).trans (Ex.set _ ⟨g8, 1, none⟩ (.slice D1 i1 j1)) (fun _ _ h => h)
                      have hg8' := hg8.out
                      refine ⟨⟨.int .i64 (y : Int), .int .i64 (k : Int), .pointer (some (ad.add (k * 2))), .agg #[.int .i64 f.1, .slice A3 f.2.length c3], D0, i0, j0, D1, i1, j1, .bool (okInst rs fs && hasF fs f), g8, f, ?_, hg8', blk_set (blk_set kZ_u12.out 0 _) 1 _, (((hY_u12.out.ex EX fun b hb => .inr hb).rs (S := fun _ => False) fun b hb => hb.elim)).read, Ex.on hQ_u12.out EX (fun i e => by have e' : i = g8 := e; omega)⟩⟩
                      try simp only [Act.put, List.setIfInBounds_toArray, List.set_cons_zero, List.set_cons_succ]
                      try simp
                      try rfl
                  · skip
                    intro u13 hS
                    have hQ_u13 := Aside0.mk (hQ_w9.out.trans hS)
                    go_wp2
                    refine ⟨hS.trans (On.alloc (On.refl _) _), ?_⟩
                    have hg8 := Aside0.mk (show w9.heap.size ≤ u13.heap.size from hQ_u13.out.size)
                    obtain ⟨u14, hu14⟩ : ∃ u, u13.alloc (.cells #[.slice none 0 0, .slice none 0 0] 32 (0, 0)) = u := ⟨_, rfl⟩
                    have hSa8 := Aside0.mk (show On u13 u14 from hu14 ▸ On.alloc (On.refl _) _)
                    have kZ_u14 := Aside0.mk (show u14.heap[u13.heap.size]? = some (.cells #[.slice none 0 0, .slice none 0 0] 32 (0, 0)) from hu14 ▸ loc_new _ _ _)
                    rw [hu14]
                    clear hu14
                    have hQ_u14 := Aside0.mk (hQ_u13.out.trans hSa8.out)
                    obtain ⟨g8, hg8e⟩ : ∃ g8, u13.heap.size = g8 := ⟨_, rfl⟩
                    rw [hg8e] at kZ_u14 hg8 ⊢
                    clear hg8e
                    clear hS
                    refine Reg.tLeaf ?_
                    refine stepM (fun u15 hS => ?_)
                    have hQ_u15 := Aside0.mk (hQ_u14.out.trans hS)
                    have kZ_u15 := Aside0.mk (blk_below kZ_u14.out hS)
                    refine goesF 62 Try.func44 ((at_calls _ A c xs (Kd.C_below hK'.out ((hW.out.trans hT8.out).trans hQ_u15.out)) hg'.out).mono ?_)
                    rintro e u16 ⟨v, rfl, x, rfl, hx0, hx1, hb1⟩
                    obtain ⟨y, rfl⟩ := Int.eq_ofNat_of_zero_le hx0
                    refine ⟨_, rfl, hS.trans hb1, ?_⟩
                    simp only [Act.put, List.setIfInBounds_toArray, List.set_cons_zero, List.set_cons_succ]
                    have hQ_u16 := Aside0.mk (hQ_u15.out.trans hb1)
                    have kZ_u16 := Aside0.mk (blk_below kZ_u15.out hb1)
                    clear hS hb1 hx0 hx1
                    obtain ⟨k, hk⟩ : ∃ k, y % fs.length = k := ⟨_, rfl⟩
                    have hkl : k < fs.length := by rw [← hk]; exact Nat.mod_lt _ hz0.out
                    have hm1 : Int.tmod (y : Int) (fs.length : Int) = (k : Int) := by rw [← hk]; rfl
                    have hm2 : (y : Int) % (fs.length : Int) = (k : Int) := by rw [← hk]; rfl
                    have hkw := Aside0.mk hk
                    clear hk
                    have hwk : IntKind.i64.wrap (k : Int) = (k : Int) := IntWalk.i64_in _ (by have := hfl.out; omega)
                    have hwk2 : wrap64 (k : Int) = (k : Int) := IntWalk.wrap64_in _ (by have := hfl.out; omega)
                    have hne : ((fs.length : Int) == 0) = false := beq_eq_false_iff_ne.mpr (by have := hz0.out; omega)
                    have hne2 : ((fs.length : Int) = 0) = False := eq_false (by have := hz0.out; omega)
                    have hne4 : (fs = []) = False := eq_false (fun e => by have := hz0.out; rw [e] at this; simp at this)
                    have hne3 : ((fs.length : Int) != 0) = true := bne_iff_ne.mpr (by have := hz0.out; omega)
                    have hc1 := blk_cell (blk_below hbox.out hQ_u16.out) 1
                    obtain ⟨ad', A3, c3, hA1, x0, x1, x2⟩ := (hFl'.out.on hQ_u16.out).at k hkl
                    obtain rfl : ad = ad' := Option.some.inj hA1
                    obtain ⟨f, hfe⟩ : ∃ f, fs[k] = f := ⟨_, rfl⟩
                    rw [hfe] at x0 x1 x2
                    clear hfe
                    have x2' := Aside0.mk x2
                    clear x2 hA1
                    repeat first | refine sP ?_ | refine sS ?_ | refine sA ?_ | refine sL ?_ | refine sQ ?_ | refine sO ?_
                    clear hc1 x0 x1 hm1 hm2 hwk hwk2 hne hne2 hne3 hne4 hkl
                    refine stepM (fun u17 hS => ?_)
                    have hQ_u17 := Aside0.mk (hQ_u16.out.trans hS)
                    have kZ_u17 := Aside0.mk (blk_below kZ_u16.out hS)
                    have hFk : RFa u17 (.agg #[.int .i64 f.1, .slice A3 f.2.length c3]) f := ⟨A3, c3, rfl, x2'.out.on (hS)⟩
                    refine goesF 69 Try.func32 ((sDelO _ _ _ rs fs f (hxa.out.on hQ_u17.out) hFk hSa.out).mono ?_)
                    rintro e u18 ⟨v, rfl, v1, rfl, hO, hb1⟩
                    obtain ⟨D0, i0, j0, D1, i1, j1, rfl⟩ := hO.read.shape
                    refine ⟨_, rfl, hS.trans hb1, ?_⟩
                    simp only [Act.put, List.setIfInBounds_toArray, List.set_cons_zero, List.set_cons_succ]
                    have hQ_u18 := Aside0.mk (hQ_u17.out.trans hb1)
                    clear hFk
                    have kZ_u18 := Aside0.mk (blk_below kZ_u17.out hb1)
                    obtain ⟨hs, hY⟩ := IW.ofS (g := g8) (lo := w9.heap.size) hO hQ_u17.out.size (.inr (blk_lt kZ_u17.out))
                    have hY_u18 := Aside0.mk hY
                    clear hY
                    clear hO hS hb1
                    repeat first | refine sP ?_ | refine sS ?_ | refine sA ?_ | refine sL ?_ | refine sQ ?_ | refine sO ?_
                    refine Reg.tail_ fun u19 hS => ?_
                    have hQ_u19 := Aside0.mk (hQ_u18.out.trans hS)
                    have kZ_u19 := Aside0.mk (blk_below kZ_u18.out hS)
                    have hY_u19 := Aside0.mk (hY_u18.out.on hS)
                    have cZ := blk_cell kZ_u19.out
                    have fZ := blk_frozen kZ_u19.out
                    clear hS
                    go_wp2
                    have EX := (Ex.set u19 ⟨g8, 0, none⟩ (.slice D0 i0 j0)).trans (Ex.set _ ⟨g8, 1, none⟩ (.slice D1 i1 j1)) (fun _ _ h => h)
                    have hg8' := hg8.out
                    refine ⟨⟨.int .i64 (y : Int), .int .i64 (k : Int), .pointer (some (ad.add (k * 2))), .agg #[.int .i64 f.1, .slice A3 f.2.length c3], D0, i0, j0, D1, i1, j1, .bool (okInst rs fs && hasF fs f), g8, f, ?_, hg8', blk_set (blk_set kZ_u19.out 0 _) 1 _, (((hY_u19.out.ex EX fun b hb => .inr hb).rs (S := fun _ => False) fun b hb => hb.elim)).read, Ex.on hQ_u19.out EX (fun i e => by have e' : i = g8 := e; omega)⟩⟩
                    try simp only [Act.put, List.setIfInBounds_toArray, List.set_cons_zero, List.set_cons_succ]
                    try simp
                    try rfl
                rintro a' w12 ⟨v62, v66, v67, v68, D0', i0', j0', D1', i1', j1', vb, g8, f', rfl, hg8, hB8, hRd, hQ12⟩
                simp only [Act.put, List.setIfInBounds_toArray, List.set_cons_zero, List.set_cons_succ]
                have hT12 := Aside0.mk (hT8.out.trans hQ12)
                have hRd' := Aside0.mk hRd
                have hB8' := Aside0.mk hB8
                have hx12 := Aside0.mk (hxa.out.on hQ12)
                have hsub := Aside0.mk (hasHom_sub (okInst_delI f' ho1.out) ho1.out (delI_sub rs fs f'))
                have hself := Aside0.mk (hasHom_sub ho1.out ho1.out (fun f hf => hf))
                clear hg8 hB8 hRd hQ12
                have q0 := blk_cell hB8'.out
                have q1 := blk_cell (Loc.on hT12.out hL3.out).1
                go_wp2_with (go_at_call 30; refine Stop.out ?_)
                refine ⟨(hhV _ _ _ rs (delI rs fs f') rs fs hRd'.out hx12.out).mono ?_⟩
                rintro e w13 ⟨rfl, hb13⟩
                rw [hsub.out]
                have hT13 := Aside0.mk (hT12.out.trans hb13)
                have hx13 := Aside0.mk (hx12.out.on hb13)
                clear hb13 q0 q1
                have q1 := blk_cell (Loc.on hT13.out hL3.out).1
                go_wp2_with (go_at_call 30; refine Stop.out ?_)
                refine ⟨(hhV _ _ _ rs fs rs fs hx13.out hx13.out).mono ?_⟩
                rintro e w14 ⟨rfl, hb14⟩
                rw [hself.out]
                go_wp2
                go_ret
                exact ⟨rfl, (hW.out.trans hT13.out).trans hb14⟩
          | true =>
            have hm := Aside0.mk (hasHom_mono hh hok3.out (fun g hg => (mem_putF f g gs).2 (.inr hg)))
            clear hh
            have q0 := blk_cell (Loc.on hT8.out hL3.out).1
            have q2 := blk_cell (blk_below hl8.out hb10'.out)
            go_wp2_with (go_at_call 30; refine Stop.out ?_)
            refine ⟨(hhV _ _ _ rs fs qs (putF gs f) hxa.out (hRp.out.on hb10'.out)).mono ?_⟩
            rintro e w11 ⟨rfl, hb11⟩
            rw [hm.out]
            replace hT8 := Aside0.mk (hT8.out.trans hb11)
            replace hxa := Aside0.mk (hxa.out.on hb11)
            clear hb11 q0 q2
            have q0 := blk_cell (Loc.on hT8.out hL3.out).1
            have q1 := blk_cell (Loc.on hT8.out hL3.out).2.1
            by_cases hz : (fs.length : Int) = 0
            · have hz1 : ((fs.length : Int) == 0) = true := beq_iff_eq.mpr hz
              have hz2 : (fs.length == 0) = true := beq_iff_eq.mpr (by omega)
              go_wp2
              go_ret
              exact ⟨rfl, hW.out.trans hT8.out⟩
            · have hz1 : ((fs.length : Int) == 0) = false := beq_eq_false_iff_ne.mpr hz
              have hz2 : (fs.length == 0) = false := beq_eq_false_iff_ne.mpr (by omega)
              have hz0 := Aside0.mk (show 0 < fs.length by omega)
              go_wp2
              clear hz hz1 hz2 q0 q1
              obtain ⟨w9, hw9⟩ : ∃ w9, w11 = w9 := ⟨_, rfl⟩
              rw [hw9] at hT8 hxa ⊢
              clear hw9
              as_aux_lemma =>
                have hbox := Aside0.mk (Loc.on hT8.out hL3.out).1
                have hd0 := blk_cell hbox.out 0
                have hd1 := blk_cell hbox.out 1
                obtain ⟨-, -, hRl, hFl⟩ := hxa.out.parts
                obtain ⟨ad, _, _, hA1, -, -, -⟩ := hFl.at 0 hz0.out
                subst hA1
                have hFl' := Aside0.mk hFl
                clear hRl hFl
                refine Reg.regionM (.s 0 .L (.s 1 .L (.s 2 .L (.s 3 .L (.s 5 .L (.s 6 .L (.s 7 .L (.two 4 15 (.s 8 .L (.s 9 .L (.s 10 .L (.two 11 15 (.leaf [(12,.L),(13,.L),(14,.P),(15,.N)]) (.leaf [(11,.N),(12,.L),(13,.L),(14,.P)]))))) (.leaf [(4,.N),(8,.L),(9,.L),(10,.L),(11,.N),(12,.L),(13,.L),(14,.P)]))))))))) [16,17] (fun a a' w' => MDel w9 g3 A0 rs.length c0 (some ad) fs.length c1 A xs.length c rs fs a a' w') (by kernel_rfl) (by kernel_rfl) ?_ ?_
                · have hQ_w9 := Aside0.mk (On.refl w9)
                  repeat refine tL ?_
                  clear hd0 hd1
                  refine tTwo ?_ ?_
                  · skip
                    intro u1 hS
                    have hQ_u1 := Aside0.mk (hQ_w9.out.trans hS)
                    refine goesF 62 Try.func44 ((at_calls _ A c xs (Kd.C_below hK'.out ((hW.out.trans hT8.out).trans hQ_u1.out)) hg'.out).mono ?_)
                    rintro e u2 ⟨v, rfl, x, rfl, hx0, hx1, hb1⟩
                    obtain ⟨y, rfl⟩ := Int.eq_ofNat_of_zero_le hx0
                    refine ⟨_, rfl, hS.trans hb1, ?_⟩
                    simp only [Act.put, List.setIfInBounds_toArray, List.set_cons_zero, List.set_cons_succ]
                    have hQ_u2 := Aside0.mk (hQ_u1.out.trans hb1)
                    clear hS hb1 hx0 hx1
                    obtain ⟨k, hk⟩ : ∃ k, y % fs.length = k := ⟨_, rfl⟩
                    have hkl : k < fs.length := by rw [← hk]; exact Nat.mod_lt _ hz0.out
                    have hm1 : Int.tmod (y : Int) (fs.length : Int) = (k : Int) := by rw [← hk]; rfl
                    have hm2 : (y : Int) % (fs.length : Int) = (k : Int) := by rw [← hk]; rfl
                    have hkw := Aside0.mk hk
                    clear hk
                    have hwk : IntKind.i64.wrap (k : Int) = (k : Int) := IntWalk.i64_in _ (by have := hfl.out; omega)
                    have hwk2 : wrap64 (k : Int) = (k : Int) := IntWalk.wrap64_in _ (by have := hfl.out; omega)
                    have hne : ((fs.length : Int) == 0) = false := beq_eq_false_iff_ne.mpr (by have := hz0.out; omega)
                    have hne2 : ((fs.length : Int) = 0) = False := eq_false (by have := hz0.out; omega)
                    have hne4 : (fs = []) = False := eq_false (fun e => by have := hz0.out; rw [e] at this; simp at this)
                    have hne3 : ((fs.length : Int) != 0) = true := bne_iff_ne.mpr (by have := hz0.out; omega)
                    have hc1 := blk_cell (blk_below hbox.out hQ_u2.out) 1
                    obtain ⟨ad', A3, c3, hA1, x0, x1, x2⟩ := (hFl'.out.on hQ_u2.out).at k hkl
                    obtain rfl : ad = ad' := Option.some.inj hA1
                    obtain ⟨f, hfe⟩ : ∃ f, fs[k] = f := ⟨_, rfl⟩
                    rw [hfe] at x0 x1 x2
                    clear hfe
                    have x2' := Aside0.mk x2
                    clear x2 hA1
                    refine tL ?_
                    refine tL ?_
                    refine tL ?_
                    clear hc1 x0 x1 hm1 hm2 hwk hwk2 hne hne2 hne3 hne4 hkl
                    refine tTwo ?_ ?_
                    · skip
                      intro u3 hS
                      have hQ_u3 := Aside0.mk (hQ_u2.out.trans hS)
                      have hFk : RFa u3 (.agg #[.int .i64 f.1, .slice A3 f.2.length c3]) f := ⟨A3, c3, rfl, x2'.out.on (hS)⟩
                      refine goesF 69 Try.func32 ((sDelO _ _ _ rs fs f (hxa.out.on hQ_u3.out) hFk hSa.out).mono ?_)
                      rintro e u4 ⟨v, rfl, v1, rfl, hO, hb1⟩
                      obtain ⟨D0, i0, j0, D1, i1, j1, rfl⟩ := hO.read.shape
                      refine ⟨_, rfl, hS.trans hb1, ?_⟩
                      simp only [Act.put, List.setIfInBounds_toArray, List.set_cons_zero, List.set_cons_succ]
                      have hQ_u4 := Aside0.mk (hQ_u3.out.trans hb1)
                      clear hFk
                      have hlo_ := Aside0.mk hQ_u3.out.size
                      have hD_u4 := Aside0.mk hO
                      clear hO hS hb1
                      refine Reg.tLeaf ?_
                      repeat first | refine sP ?_ | refine sS ?_ | refine sA ?_ | refine sL ?_ | refine sQ ?_ | refine sO ?_
                      refine stepM (fun u5 hS => ?_)
                      have hQ_u5 := Aside0.mk (hQ_u4.out.trans hS)
                      have hD_u5 := Aside0.mk (hD_u4.out.on hS)
                      go_wp2
                      refine ⟨hS.trans (On.alloc (On.refl _) _), ?_⟩
                      have hg8 := Aside0.mk (show w9.heap.size ≤ u5.heap.size from hQ_u5.out.size)
                      obtain ⟨hs, hY⟩ := IW.ofS (g := u5.heap.size) (lo := w9.heap.size) hD_u5.out hlo_.out (.inl (Nat.le_refl _))
                      have hY0 := Aside0.mk hY
                      clear hY
                      obtain ⟨u6, hu6⟩ : ∃ u, u5.alloc (.cells #[.slice none 0 0, .slice none 0 0] 32 (0, 0)) = u := ⟨_, rfl⟩
                      have hSa8 := Aside0.mk (show On u5 u6 from hu6 ▸ On.alloc (On.refl _) _)
                      have kZ_u6 := Aside0.mk (show u6.heap[u5.heap.size]? = some (.cells #[.slice none 0 0, .slice none 0 0] 32 (0, 0)) from hu6 ▸ loc_new _ _ _)
                      rw [hu6]
                      clear hu6
                      have hQ_u6 := Aside0.mk (hQ_u5.out.trans hSa8.out)
                      have hY_u6 := Aside0.mk (hY0.out.on hSa8.out)
                      obtain ⟨g8, hg8e⟩ : ∃ g8, u5.heap.size = g8 := ⟨_, rfl⟩
                      rw [hg8e] at kZ_u6 hg8 hY_u6 ⊢
                      clear hg8e
                      clear hS
                      refine Reg.tail_ fun u7 hS => ?_
                      have hQ_u7 := Aside0.mk (hQ_u6.out.trans hS)
                      have kZ_u7 := Aside0.mk (blk_below kZ_u6.out hS)
                      have hY_u7 := Aside0.mk (hY_u6.out.on hS)
                      have cZ := blk_cell kZ_u7.out
                      have fZ := blk_frozen kZ_u7.out
                      clear hS
                      go_wp2
                      have EX := (Ex.set u7 ⟨g8, 0, none⟩ (.slice D0 i0 j0)).trans (Ex.set _ ⟨g8, 1, none⟩ (.slice D1 i1 j1)) (fun _ _ h => h)
                      have hg8' := hg8.out
                      refine ⟨⟨.int .i64 (y : Int), .int .i64 (k : Int), .pointer (some (ad.add (k * 2))), .agg #[.int .i64 f.1, .slice A3 f.2.length c3], D0, i0, j0, D1, i1, j1, .bool (okInst rs fs && hasF fs f), g8, f, ?_, hg8', blk_set (blk_set kZ_u7.out 0 _) 1 _, (((hY_u7.out.ex EX fun b hb => .inr hb).rs (S := fun _ => False) fun b hb => hb.elim)).read, Ex.on hQ_u7.out EX (fun i e => by have e' : i = g8 := e; omega)⟩⟩
                      try simp only [Act.put, List.setIfInBounds_toArray, List.set_cons_zero, List.set_cons_succ]
                      try simp
                      try rfl
                    · skip
                      intro u8 hS
                      have hQ_u8 := Aside0.mk (hQ_u2.out.trans hS)
                      go_wp2
                      refine ⟨hS.trans (On.alloc (On.refl _) _), ?_⟩
                      have hg8 := Aside0.mk (show w9.heap.size ≤ u8.heap.size from hQ_u8.out.size)
                      obtain ⟨u9, hu9⟩ : ∃ u, u8.alloc (.cells #[.slice none 0 0, .slice none 0 0] 32 (0, 0)) = u := ⟨_, rfl⟩
                      have hSa8 := Aside0.mk (show On u8 u9 from hu9 ▸ On.alloc (On.refl _) _)
                      have kZ_u9 := Aside0.mk (show u9.heap[u8.heap.size]? = some (.cells #[.slice none 0 0, .slice none 0 0] 32 (0, 0)) from hu9 ▸ loc_new _ _ _)
                      rw [hu9]
                      clear hu9
                      have hQ_u9 := Aside0.mk (hQ_u8.out.trans hSa8.out)
                      obtain ⟨g8, hg8e⟩ : ∃ g8, u8.heap.size = g8 := ⟨_, rfl⟩
                      rw [hg8e] at kZ_u9 hg8 ⊢
                      clear hg8e
                      have hSk := Aside0.mk hS
                      clear hS
                      refine Reg.tLeaf ?_
                      refine stepM (fun u10 hS => ?_)
                      have hQ_u10 := Aside0.mk (hQ_u9.out.trans hS)
                      have kZ_u10 := Aside0.mk (blk_below kZ_u9.out hS)
                      have hFk : RFa u10 (.agg #[.int .i64 f.1, .slice A3 f.2.length c3]) f := ⟨A3, c3, rfl, x2'.out.on (((hSk.out).trans hSa8.out).trans hS)⟩
                      refine goesF 69 Try.func32 ((sDelO _ _ _ rs fs f (hxa.out.on hQ_u10.out) hFk hSa.out).mono ?_)
                      rintro e u11 ⟨v, rfl, v1, rfl, hO, hb1⟩
                      obtain ⟨D0, i0, j0, D1, i1, j1, rfl⟩ := hO.read.shape
                      refine ⟨_, rfl, hS.trans hb1, ?_⟩
                      simp only [Act.put, List.setIfInBounds_toArray, List.set_cons_zero, List.set_cons_succ]
                      have hQ_u11 := Aside0.mk (hQ_u10.out.trans hb1)
                      clear hFk
                      have kZ_u11 := Aside0.mk (blk_below kZ_u10.out hb1)
                      obtain ⟨hs, hY⟩ := IW.ofS (g := g8) (lo := w9.heap.size) hO hQ_u10.out.size (.inr (blk_lt kZ_u10.out))
                      have hY_u11 := Aside0.mk hY
                      clear hY
                      clear hO hS hb1
                      repeat first | refine sP ?_ | refine sS ?_ | refine sA ?_ | refine sL ?_ | refine sQ ?_ | refine sO ?_
                      refine Reg.tail_ fun u12 hS => ?_
                      have hQ_u12 := Aside0.mk (hQ_u11.out.trans hS)
                      have kZ_u12 := Aside0.mk (blk_below kZ_u11.out hS)
                      have hY_u12 := Aside0.mk (hY_u11.out.on hS)
                      have cZ := blk_cell kZ_u12.out
                      have fZ := blk_frozen kZ_u12.out
                      clear hS
                      go_wp2
                      have EX := (Ex.set u12 ⟨g8, 0, none⟩ (.slice D0 i0 j0)).trans (Ex.set _ ⟨g8, 1, none⟩ (.slice D1 i1 j1)) (fun _ _ h => h)
                      have hg8' := hg8.out
                      refine ⟨⟨.int .i64 (y : Int), .int .i64 (k : Int), .pointer (some (ad.add (k * 2))), .agg #[.int .i64 f.1, .slice A3 f.2.length c3], D0, i0, j0, D1, i1, j1, .bool (okInst rs fs && hasF fs f), g8, f, ?_, hg8', blk_set (blk_set kZ_u12.out 0 _) 1 _, (((hY_u12.out.ex EX fun b hb => .inr hb).rs (S := fun _ => False) fun b hb => hb.elim)).read, Ex.on hQ_u12.out EX (fun i e => by have e' : i = g8 := e; omega)⟩⟩
                      try simp only [Act.put, List.setIfInBounds_toArray, List.set_cons_zero, List.set_cons_succ]
                      try simp
                      try rfl
                  · skip
                    intro u13 hS
                    have hQ_u13 := Aside0.mk (hQ_w9.out.trans hS)
                    go_wp2
                    refine ⟨hS.trans (On.alloc (On.refl _) _), ?_⟩
                    have hg8 := Aside0.mk (show w9.heap.size ≤ u13.heap.size from hQ_u13.out.size)
                    obtain ⟨u14, hu14⟩ : ∃ u, u13.alloc (.cells #[.slice none 0 0, .slice none 0 0] 32 (0, 0)) = u := ⟨_, rfl⟩
                    have hSa8 := Aside0.mk (show On u13 u14 from hu14 ▸ On.alloc (On.refl _) _)
                    have kZ_u14 := Aside0.mk (show u14.heap[u13.heap.size]? = some (.cells #[.slice none 0 0, .slice none 0 0] 32 (0, 0)) from hu14 ▸ loc_new _ _ _)
                    rw [hu14]
                    clear hu14
                    have hQ_u14 := Aside0.mk (hQ_u13.out.trans hSa8.out)
                    obtain ⟨g8, hg8e⟩ : ∃ g8, u13.heap.size = g8 := ⟨_, rfl⟩
                    rw [hg8e] at kZ_u14 hg8 ⊢
                    clear hg8e
                    clear hS
                    refine Reg.tLeaf ?_
                    refine stepM (fun u15 hS => ?_)
                    have hQ_u15 := Aside0.mk (hQ_u14.out.trans hS)
                    have kZ_u15 := Aside0.mk (blk_below kZ_u14.out hS)
                    refine goesF 62 Try.func44 ((at_calls _ A c xs (Kd.C_below hK'.out ((hW.out.trans hT8.out).trans hQ_u15.out)) hg'.out).mono ?_)
                    rintro e u16 ⟨v, rfl, x, rfl, hx0, hx1, hb1⟩
                    obtain ⟨y, rfl⟩ := Int.eq_ofNat_of_zero_le hx0
                    refine ⟨_, rfl, hS.trans hb1, ?_⟩
                    simp only [Act.put, List.setIfInBounds_toArray, List.set_cons_zero, List.set_cons_succ]
                    have hQ_u16 := Aside0.mk (hQ_u15.out.trans hb1)
                    have kZ_u16 := Aside0.mk (blk_below kZ_u15.out hb1)
                    clear hS hb1 hx0 hx1
                    obtain ⟨k, hk⟩ : ∃ k, y % fs.length = k := ⟨_, rfl⟩
                    have hkl : k < fs.length := by rw [← hk]; exact Nat.mod_lt _ hz0.out
                    have hm1 : Int.tmod (y : Int) (fs.length : Int) = (k : Int) := by rw [← hk]; rfl
                    have hm2 : (y : Int) % (fs.length : Int) = (k : Int) := by rw [← hk]; rfl
                    have hkw := Aside0.mk hk
                    clear hk
                    have hwk : IntKind.i64.wrap (k : Int) = (k : Int) := IntWalk.i64_in _ (by have := hfl.out; omega)
                    have hwk2 : wrap64 (k : Int) = (k : Int) := IntWalk.wrap64_in _ (by have := hfl.out; omega)
                    have hne : ((fs.length : Int) == 0) = false := beq_eq_false_iff_ne.mpr (by have := hz0.out; omega)
                    have hne2 : ((fs.length : Int) = 0) = False := eq_false (by have := hz0.out; omega)
                    have hne4 : (fs = []) = False := eq_false (fun e => by have := hz0.out; rw [e] at this; simp at this)
                    have hne3 : ((fs.length : Int) != 0) = true := bne_iff_ne.mpr (by have := hz0.out; omega)
                    have hc1 := blk_cell (blk_below hbox.out hQ_u16.out) 1
                    obtain ⟨ad', A3, c3, hA1, x0, x1, x2⟩ := (hFl'.out.on hQ_u16.out).at k hkl
                    obtain rfl : ad = ad' := Option.some.inj hA1
                    obtain ⟨f, hfe⟩ : ∃ f, fs[k] = f := ⟨_, rfl⟩
                    rw [hfe] at x0 x1 x2
                    clear hfe
                    have x2' := Aside0.mk x2
                    clear x2 hA1
                    repeat first | refine sP ?_ | refine sS ?_ | refine sA ?_ | refine sL ?_ | refine sQ ?_ | refine sO ?_
                    clear hc1 x0 x1 hm1 hm2 hwk hwk2 hne hne2 hne3 hne4 hkl
                    refine stepM (fun u17 hS => ?_)
                    have hQ_u17 := Aside0.mk (hQ_u16.out.trans hS)
                    have kZ_u17 := Aside0.mk (blk_below kZ_u16.out hS)
                    have hFk : RFa u17 (.agg #[.int .i64 f.1, .slice A3 f.2.length c3]) f := ⟨A3, c3, rfl, x2'.out.on (hS)⟩
                    refine goesF 69 Try.func32 ((sDelO _ _ _ rs fs f (hxa.out.on hQ_u17.out) hFk hSa.out).mono ?_)
                    rintro e u18 ⟨v, rfl, v1, rfl, hO, hb1⟩
                    obtain ⟨D0, i0, j0, D1, i1, j1, rfl⟩ := hO.read.shape
                    refine ⟨_, rfl, hS.trans hb1, ?_⟩
                    simp only [Act.put, List.setIfInBounds_toArray, List.set_cons_zero, List.set_cons_succ]
                    have hQ_u18 := Aside0.mk (hQ_u17.out.trans hb1)
                    clear hFk
                    have kZ_u18 := Aside0.mk (blk_below kZ_u17.out hb1)
                    obtain ⟨hs, hY⟩ := IW.ofS (g := g8) (lo := w9.heap.size) hO hQ_u17.out.size (.inr (blk_lt kZ_u17.out))
                    have hY_u18 := Aside0.mk hY
                    clear hY
                    clear hO hS hb1
                    repeat first | refine sP ?_ | refine sS ?_ | refine sA ?_ | refine sL ?_ | refine sQ ?_ | refine sO ?_
                    refine Reg.tail_ fun u19 hS => ?_
                    have hQ_u19 := Aside0.mk (hQ_u18.out.trans hS)
                    have kZ_u19 := Aside0.mk (blk_below kZ_u18.out hS)
                    have hY_u19 := Aside0.mk (hY_u18.out.on hS)
                    have cZ := blk_cell kZ_u19.out
                    have fZ := blk_frozen kZ_u19.out
                    clear hS
                    go_wp2
                    have EX := (Ex.set u19 ⟨g8, 0, none⟩ (.slice D0 i0 j0)).trans (Ex.set _ ⟨g8, 1, none⟩ (.slice D1 i1 j1)) (fun _ _ h => h)
                    have hg8' := hg8.out
                    refine ⟨⟨.int .i64 (y : Int), .int .i64 (k : Int), .pointer (some (ad.add (k * 2))), .agg #[.int .i64 f.1, .slice A3 f.2.length c3], D0, i0, j0, D1, i1, j1, .bool (okInst rs fs && hasF fs f), g8, f, ?_, hg8', blk_set (blk_set kZ_u19.out 0 _) 1 _, (((hY_u19.out.ex EX fun b hb => .inr hb).rs (S := fun _ => False) fun b hb => hb.elim)).read, Ex.on hQ_u19.out EX (fun i e => by have e' : i = g8 := e; omega)⟩⟩
                    try simp only [Act.put, List.setIfInBounds_toArray, List.set_cons_zero, List.set_cons_succ]
                    try simp
                    try rfl
                rintro a' w12 ⟨v62, v66, v67, v68, D0', i0', j0', D1', i1', j1', vb, g8, f', rfl, hg8, hB8, hRd, hQ12⟩
                simp only [Act.put, List.setIfInBounds_toArray, List.set_cons_zero, List.set_cons_succ]
                have hT12 := Aside0.mk (hT8.out.trans hQ12)
                have hRd' := Aside0.mk hRd
                have hB8' := Aside0.mk hB8
                have hx12 := Aside0.mk (hxa.out.on hQ12)
                have hsub := Aside0.mk (hasHom_sub (okInst_delI f' ho1.out) ho1.out (delI_sub rs fs f'))
                have hself := Aside0.mk (hasHom_sub ho1.out ho1.out (fun f hf => hf))
                clear hg8 hB8 hRd hQ12
                have q0 := blk_cell hB8'.out
                have q1 := blk_cell (Loc.on hT12.out hL3.out).1
                go_wp2_with (go_at_call 30; refine Stop.out ?_)
                refine ⟨(hhV _ _ _ rs (delI rs fs f') rs fs hRd'.out hx12.out).mono ?_⟩
                rintro e w13 ⟨rfl, hb13⟩
                rw [hsub.out]
                have hT13 := Aside0.mk (hT12.out.trans hb13)
                have hx13 := Aside0.mk (hx12.out.on hb13)
                clear hb13 q0 q1
                have q1 := blk_cell (Loc.on hT13.out hL3.out).1
                go_wp2_with (go_at_call 30; refine Stop.out ?_)
                refine ⟨(hhV _ _ _ rs fs rs fs hx13.out hx13.out).mono ?_⟩
                rintro e w14 ⟨rfl, hb14⟩
                rw [hself.out]
                go_wp2
                go_ret
                exact ⟨rfl, (hW.out.trans hT13.out).trans hb14⟩
end Go.Proofs.Ytngjhblbpapjeaa.H
