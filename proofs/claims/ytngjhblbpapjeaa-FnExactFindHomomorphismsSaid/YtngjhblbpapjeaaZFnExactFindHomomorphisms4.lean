/- Walks and plain laws for the law FnExactFindHomomorphisms, part 4 of 6: the texts HM5, HM6, HM7, HM8, HC1, HM9, HM10, HE, HK1, HM11, HM12, HM13, HC2, HC3, HM14, HO3 in one. No condition. -/
import Derived.Maps.OwnSet
import Derived.Maps.Views
import Derived.Shelf.SlMaps.Clone
import Derived.Shelf.SlIterI.Nil
import Derived.Shelf.SlIterI.Sorted
import Derived.Test.YtngjhblbpapjeaaShelf
import Derived.Maps.Ext
import Derived.Lib.SlKeysI
import Derived.Maps.OwnOps
import Derived.Test.YtngjhblbpapjeaaZFnExactFindHomomorphisms3
/- Walks: the reference's homomorphisms. No condition. -/
namespace Go.Proofs.Ytngjhblbpapjeaa.H
open Go Go.RowKit Go.Proofs.YtngjhblbpapjeaaW.PrintWords Go.Proofs.YtngjhblbpapjeaaW.PrintLast
open Go.Proofs.Ytngjhblbpapjeaa.Reg (On on_draw)
set_option maxHeartbeats 4000000
set_option maxRecDepth 100000
set_option linter.unusedVariables false
set_option linter.unusedSimpArgs false

def slLen : Value → Nat | .slice _ n _ => n | _ => 0
theorem subs_no {r1 r2 : List Rel} {f1 f2 : List Fct} {most : Nat} (h : (okInst r1 f1 && okInst r2 f2 && decide (r1 = r2)) = false) : subs r1 f1 r2 f2 most = [] := by
  unfold subs homs; rw [h]; rfl
theorem subs_yes {r1 r2 : List Rel} {f1 f2 : List Fct} {most : Nat} (h : (okInst r1 f1 && okInst r2 f2 && decide (r1 = r2)) = true) : subs r1 f1 r2 f2 most = (walk f2 f1 none40 most).map (subI 0) := by
  unfold subs homs; rw [h]; rfl
theorem l7Homs_calls (w : World) (A0 c0 A1 c1) (rs : List Rel) (fs : List Fct) (h0 : Rels w A0 c0 rs) (h1 : Fcts w A1 c1 fs) (A2 c2 A3 c3) (qs : List Rel) (gs : List Fct) (h2 : Rels w A2 c2 qs) (h3 : Fcts w A3 c3 gs) (most : Nat) (hp : 1 ≤ most) (hq : most ≤ 1000) :
    Calls Try.prog 97 #[.agg #[.slice A0 rs.length c0, .slice A1 fs.length c1], .agg #[.slice A2 qs.length c2, .slice A3 gs.length c3], .int .i64 most] w (Got fun v w' => ∃ hs, OS w' w.heap.size v hs ∧ SepS w' w.heap.size hs (subs rs fs qs gs most) ∧ On w w') := by
  have hb := Aside0.mk (On.alloc (On.alloc (On.refl w) (.cells #[.slice A0 rs.length c0, .slice A1 fs.length c1] 32)) (.cells #[.slice A2 qs.length c2, .slice A3 gs.length c3] 32))
  have hL := Aside0.mk (loc2 w #[.slice A0 rs.length c0, .slice A1 fs.length c1] #[.slice A2 qs.length c2, .slice A3 gs.length c3] 32 32)
  have hpq := Aside0.mk (show 1 ≤ most ∧ most ≤ 1000 from ⟨hp, hq⟩)
  clear hp hq
  cases ho : okInst rs fs with
  | false =>
    have hno := Aside0.mk (subs_no (most := most) (show (okInst rs fs && okInst qs gs && decide (rs = qs)) = false by rw [ho]; rfl))
    have ho' := Aside0.mk ho
    clear ho
    go_enter Try.func97, Try.ntmps97
    go_wp2_with (
      (go_at_call 41; refine (IsValidInstance_calls _ A0 c0 A1 c1 rs fs (h0.on hb.out) (h1.on hb.out)).mono ?_; rintro e w1 ⟨rfl, hb1⟩; rw [ho'.out]; have hL1 := Aside0.mk (Loc.on hb1 hL.out); have hd0 := blk_cell hL1.out.1; have hd1 := blk_cell hL1.out.2.1)
      )
    have hWe := hb.out.trans hb1
    go_ret
    refine ⟨_, rfl, [], lit_own _ #[] 45 2 0 w.heap.size hWe.size (by omega) rfl, ?_, hWe.trans (On.alloc (On.refl _) _)⟩
    rw [hno.out]
    exact SepS.nil _ _
  | true =>
    have ho' := Aside0.mk ho
    clear ho
    cases hp : okInst qs gs with
    | false =>
      have hno := Aside0.mk (subs_no (most := most) (show (okInst rs fs && okInst qs gs && decide (rs = qs)) = false by rw [ho'.out, hp]; rfl))
      have hp' := Aside0.mk hp
      clear hp
      go_enter Try.func97, Try.ntmps97
      go_wp2_with (first
        |
        (go_at_call 41; refine (IsValidInstance_calls _ A2 c2 A3 c3 qs gs (h2.on (hb.out.trans hb1)) (h3.on (hb.out.trans hb1))).mono ?_; rintro e w2 ⟨rfl, hb2⟩; rw [hp'.out]; have hL2 := Aside0.mk (Loc.on (hb1.trans hb2) hL.out); have hd2 := blk_cell hL2.out.1; have hd3 := blk_cell hL2.out.2.1)
        |
        (go_at_call 41; refine (IsValidInstance_calls _ A0 c0 A1 c1 rs fs (h0.on hb.out) (h1.on hb.out)).mono ?_; rintro e w1 ⟨rfl, hb1⟩; rw [ho'.out]; have hL1 := Aside0.mk (Loc.on hb1 hL.out); have hd0 := blk_cell hL1.out.1; have hd1 := blk_cell hL1.out.2.1)
        )
      have hWe := hb.out.trans (hb1.trans hb2)
      go_ret
      refine ⟨_, rfl, [], lit_own _ #[] 45 2 0 w.heap.size hWe.size (by omega) rfl, ?_, hWe.trans (On.alloc (On.refl _) _)⟩
      rw [hno.out]
      exact SepS.nil _ _
    | true =>
      have hp' := Aside0.mk hp
      clear hp
      cases hr : decide (rs = qs) with
      | false =>
        have hno := Aside0.mk (subs_no (most := most) (show (okInst rs fs && okInst qs gs && decide (rs = qs)) = false by rw [ho'.out, hp'.out, hr]; rfl))
        have hr' := Aside0.mk hr
        clear hr
        go_enter Try.func97, Try.ntmps97
        go_wp2_with (first
          |
          (go_at_call 41; refine (IsValidInstance_calls _ A2 c2 A3 c3 qs gs (h2.on (hb.out.trans hb1)) (h3.on (hb.out.trans hb1))).mono ?_; rintro e w2 ⟨rfl, hb2⟩; rw [hp'.out]; have hL2 := Aside0.mk (Loc.on (hb1.trans hb2) hL.out); have hd2 := blk_cell hL2.out.1; have hd3 := blk_cell hL2.out.2.1)
          |
          (go_at_call 41; refine (IsValidInstance_calls _ A0 c0 A1 c1 rs fs (h0.on hb.out) (h1.on hb.out)).mono ?_; rintro e w1 ⟨rfl, hb1⟩; rw [ho'.out]; have hL1 := Aside0.mk (Loc.on hb1 hL.out); have hd0 := blk_cell hL1.out.1; have hd1 := blk_cell hL1.out.2.1)
          |
          (go_at_call 74; refine (l5Sigs_calls _ A0 c0 A2 c2 rs qs (h0.on (hb.out.trans (hb1.trans hb2))) (h2.on (hb.out.trans (hb1.trans hb2)))).mono ?_; rintro e w3 ⟨rfl, hb3⟩; rw [hr'.out])
          )
        have hWe := hb.out.trans (hb1.trans (hb2.trans hb3))
        go_ret
        refine ⟨_, rfl, [], lit_own _ #[] 45 2 0 w.heap.size hWe.size (by omega) rfl, ?_, hWe.trans (On.alloc (On.refl _) _)⟩
        rw [hno.out]
        exact SepS.nil _ _
      | true =>
        have hyes := Aside0.mk (subs_yes (most := most) (show (okInst rs fs && okInst qs gs && decide (rs = qs)) = true by rw [ho'.out, hp'.out, hr]; rfl))
        have hr' := Aside0.mk hr
        clear hr
        go_enter Try.func97, Try.ntmps97
        go_wp2_with (first
          |
          (go_at_call 41; refine (IsValidInstance_calls _ A2 c2 A3 c3 qs gs (h2.on (hb.out.trans hb1)) (h3.on (hb.out.trans hb1))).mono ?_; rintro e w2 ⟨rfl, hb2⟩; rw [hp'.out]; have hL2 := Aside0.mk (Loc.on (hb1.trans hb2) hL.out); have hd2 := blk_cell hL2.out.1; have hd3 := blk_cell hL2.out.2.1)
          |
          (go_at_call 41; refine (IsValidInstance_calls _ A0 c0 A1 c1 rs fs (h0.on hb.out) (h1.on hb.out)).mono ?_; rintro e w1 ⟨rfl, hb1⟩; rw [ho'.out]; have hL1 := Aside0.mk (Loc.on hb1 hL.out); have hd0 := blk_cell hL1.out.1; have hd1 := blk_cell hL1.out.2.1)
          |
          (go_at_call 74; refine (l5Sigs_calls _ A0 c0 A2 c2 rs qs (h0.on (hb.out.trans (hb1.trans hb2))) (h2.on (hb.out.trans (hb1.trans hb2)))).mono ?_; rintro e w3 ⟨rfl, hb3⟩; rw [hr'.out])
          )
        have hBc := Aside0.mk (hb1.trans (hb2.trans hb3))
        have hWc := Aside0.mk (hb.out.trans hBc.out)
        have hlit := Aside0.mk (lit_own w3 #[] 3 1 0 w3.heap.size (Nat.le_refl _) (by omega) rfl)
        clear hd0 hd1 hd2 hd3
        go_loopw [7] (fun v wr => ∃ (xs : List Int) (A : Option Addr) (c : Nat), xs.length ≤ 40 ∧ v = .slice A xs.length c ∧ Aside0 (xs = List.replicate xs.length 10) ∧ Aside0 (OI wr w3.heap.size (.slice A xs.length c) xs) ∧ Aside0 (On w3 wr)) (fun v _ => 40 - slLen v)
        case atStart => exact ⟨[], some ⟨w3.heap.size, 0, none⟩, 0, by simp, rfl, ⟨rfl⟩, hlit, ⟨On.alloc (On.refl _) _⟩⟩
        case round =>
          obtain ⟨xs, A, c, hx40, rfl, hrep, hO, hB⟩ := hrel
          have hBw := Aside0.mk (hWc.out.trans hB.out)
          by_cases hlt : xs.length < 40
          · obtain ⟨zs, hz⟩ : ∃ zs, xs ++ [10] = zs := ⟨_, rfl⟩
            have hz' := Aside0.mk hz
            have hBl := Aside0.mk (On.alloc (On.refl wr) (.cells #[.int .i64 10] 3))
            go_wp2_with (refine gate 31 ?_)
            refine ⟨apI 31 hz (OI.to (pw_own_below hO.out hBl.out)) (lit_RI (by omega) (On.refl _)) (Nat.le_trans hB.out.size hBl.out.size) (by omega) fun v6 w6 hO6' hg6 hat6 => ?_⟩
            have hO6 := Aside0.mk (OI.of hO6')
            obtain ⟨A6, c6, rfl⟩ := own_slice hO6.out
            have hB6 := Aside0.mk (own_grows (hB.out.trans hBl.out) (pw_own_below hO.out hBl.out) hg6 (Nat.le_refl _))
            have hzl := Aside0.mk (show zs.length = xs.length + 1 by rw [← hz, List.length_append]; rfl)
            clear hO6' hg6 hat6 hz
            go_wp2
            refine ⟨⟨zs, A6, c6, by have := hzl.out; omega, rfl, ⟨?_⟩, hO6, hB6⟩, by have := hzl.out; simp only [slLen]; omega⟩
            rw [hzl.out, List.replicate_succ', ← hrep.out]
            exact hz'.out.symm
          · have hx := Aside0.mk (show xs = none40 by have h := hrep.out; rw [show xs.length = 40 by omega] at h; exact h)
            have hl40 := Aside0.mk (show xs.length = 40 by omega)
            have hR : InR xs := fun y hy => by
              rw [hx.out] at hy
              have := List.eq_of_mem_replicate hy
              omega
            obtain ⟨A', c', e, hI⟩ := OI.rd hO.out hR
            injection e with e1 e2 e3
            subst e1 e3
            have hI' := Aside0.mk hI
            clear hI e2 hR
            have hLr := Aside0.mk (Loc.on (hBc.out.trans hB.out) hL.out)
            have hd0 := blk_cell hLr.out.1
            have hd1 := blk_cell hLr.out.2.1
            go_wp2_with (refine gate 36 ?_)
            refine ⟨goesF 36 Try.func128 ((l7Walk_calls fs gs fs.length 0 (Nat.zero_add _) wr A0 rs.length c0 A1 c1 A2 qs.length c2 A3 c3 A c xs most (h1.on hBw.out) (h3.on hBw.out) hI'.out hl40.out hpq.out.1 hpq.out.2).mono ?_)⟩
            rintro e w5 ⟨v5, rfl, hs5, hO5, hS5, hb5⟩
            refine ⟨_, rfl, ?_⟩
            go_wp2
            go_ret
            refine ⟨_, rfl, hs5, own_lower hO5 hBw.out.size, ?_, hBw.out.trans hb5⟩
            rw [hyes.out, ← hx.out]
            exact hS5.lower hBw.out.size
end Go.Proofs.Ytngjhblbpapjeaa.H
/- Walks: the reference's FindHomomorphism, HasHomomorphism, AreHomEquivalent. No condition. -/
namespace Go.Proofs.Ytngjhblbpapjeaa.H
open Go Go.RowKit Go.Proofs.YtngjhblbpapjeaaW.PrintWords Go.Proofs.YtngjhblbpapjeaaW.PrintLast
open Go.Proofs.Ytngjhblbpapjeaa.Reg (On on_draw)
set_option maxHeartbeats 4000000
set_option maxRecDepth 100000
set_option linter.unusedVariables false
set_option linter.unusedSimpArgs false

section
variable {fn : Func} {p u : Tmp} {tmps : Array Value} {w : World} {g : Nat} {t : TypeId} {cs : Array Value} {fr : Nat × Nat}
theorem retSB (h : fn.results = #[.cell p 45, .tmp u]) (hp : tmps.getD p undef = .pointer (some ⟨g, 0, none⟩)) (hg : w.heap[g]? = some (.cells cs t fr)) (hs : cs.size = 2) : (results fn tmps).run Try.prog w = .ok (.tuple #[.agg cs, tmps.getD u undef]) w :=
  results_ct h tmps w g t cs fr _ hp hg Try.underlying45 rfl (by rw [hs]; kernel_rfl)
end
theorem subs_len (r1 : List Rel) (f1 : List Fct) (r2 : List Rel) (f2 : List Fct) (most : Nat) (h : 1 ≤ most) : (subs r1 f1 r2 f2 most).length = (homs r1 f1 r2 f2 most).length ∧ (subs r1 f1 r2 f2 most).length ≤ most := by
  have e : (subs r1 f1 r2 f2 most).length = (homs r1 f1 r2 f2 most).length := by unfold subs; rw [List.length_map]
  refine ⟨e, ?_⟩
  rw [e]
  unfold homs
  split
  · exact walk_len _ _ _ _ h
  · simp
theorem sFind_calls (w : World) (A0 c0 A1 c1) (rs : List Rel) (fs : List Fct) (h0 : Rels w A0 c0 rs) (h1 : Fcts w A1 c1 fs) (A2 c2 A3 c3) (qs : List Rel) (gs : List Fct) (h2 : Rels w A2 c2 qs) (h3 : Fcts w A3 c3 gs) :
    Calls Try.prog 45 #[.agg #[.slice A0 rs.length c0, .slice A1 fs.length c1], .agg #[.slice A2 qs.length c2, .slice A3 gs.length c3]] w (Got fun v w' => ∃ a b : Sli, v = .tuple #[.agg #[slV a, slV b], .bool (hasHom rs fs qs gs)] ∧ SepS w' w.heap.size [(a, b)] [(subs rs fs qs gs 1).headD ([], [])] ∧ On w w') := by
  have hb := Aside0.mk (On.alloc (On.alloc (On.alloc (On.refl w) (.cells #[.slice A0 rs.length c0, .slice A1 fs.length c1] 32)) (.cells #[.slice A2 qs.length c2, .slice A3 gs.length c3] 32)) (.cells #[.slice none 0 0, .slice none 0 0] 45))
  have hL := Aside0.mk (loc3 w #[.slice A0 rs.length c0, .slice A1 fs.length c1] #[.slice A2 qs.length c2, .slice A3 gs.length c3] #[.slice none 0 0, .slice none 0 0] 32 32 45)
  have hsx := Aside0.mk (show (((w.alloc (.cells #[.slice A0 rs.length c0, .slice A1 fs.length c1] 32)).alloc (.cells #[.slice A2 qs.length c2, .slice A3 gs.length c3] 32)).alloc (.cells #[.slice none 0 0, .slice none 0 0] 45)).heap.size = w.heap.size + 3 by simp)
  have hsl := Aside0.mk (subs_len rs fs qs gs 1 (Nat.le_refl _))
  go_enter Try.func45, Try.ntmps45
  go_wp2_with (refine gate 9 ?_)
  obtain ⟨Wx, hWx⟩ : ∃ Wx, ((w.alloc (.cells #[.slice A0 rs.length c0, .slice A1 fs.length c1] 32)).alloc (.cells #[.slice A2 qs.length c2, .slice A3 gs.length c3] 32)).alloc (.cells #[.slice none 0 0, .slice none 0 0] 45) = Wx := ⟨_, rfl⟩
  rw [hWx] at hb hL hsx ⊢
  clear hWx
  refine ⟨goesF 9 Try.func97 ((l7Homs_calls Wx A0 c0 A1 c1 rs fs (h0.on hb.out) (h1.on hb.out) A2 c2 A3 c3 qs gs (h2.on hb.out) (h3.on hb.out) 1 (Nat.le_refl _) (by omega)).mono ?_)⟩
  rintro e w1 ⟨v1, rfl, hs, hO, hS, hb1⟩
  refine ⟨_, rfl, ?_⟩
  have hk := (Loc.on hb1 hL.out).2.2.1
  have hc : ∀ i, w1.cell? ⟨w.heap.size + 1 + 1, i, none⟩ = _ := blk_cell hk
  have hf : ∀ i, w1.frozen? ⟨w.heap.size + 1 + 1, i, none⟩ = _ := blk_frozen hk
  have hk' := Aside0.mk hk
  clear hk
  have hsz := Aside0.mk (show w.heap.size + 3 ≤ w1.heap.size by have := hb1.size; rw [hsx.out] at this; exact this)
  have hlen := hS.len
  have hl1 := hsl.out
  rcases hs with _ | ⟨h, tl⟩
  · have hnil : subs rs fs qs gs 1 = [] := List.eq_nil_of_length_eq_zero hlen.symm
    have hhas := Aside0.mk (show hasHom rs fs qs gs = false by unfold hasHom; rw [← hl1.1, hnil]; rfl)
    obtain ⟨A', c', rfl⟩ := own_slice hO
    clear hlen hl1
    go_wp2
    refine bodyPost_ret (retSB rfl rfl (g := w.heap.size + 2) (blk_set (blk_set hk'.out 0 _) 1 _) rfl) rfl ?_
    refine ⟨_, rfl, (none, 0, 0), (none, 0, 0), by rw [hhas.out]; rfl, ?_, Reg.On.set (Reg.On.set (hb.out.trans hb1) (by simp; omega) _) (by simp; omega) _⟩
    rw [hnil]
    exact SepS.one (World.ownsRow_nil _ _ _ _) (World.ownsRow_nil _ _ _ _) (fun x hx => by cases hx) (fun x hx => by cases hx) (fun k hk => by cases hk)
  · obtain rfl : tl = [] := List.eq_nil_of_length_eq_zero (by have := hl1.2; simp at hlen; omega)
    obtain ⟨⟨A5, n5, c5⟩, ⟨A6, n6, c6⟩⟩ := h
    have hhas := Aside0.mk (show hasHom rs fs qs gs = true by unfold hasHom; rw [← hl1.1, ← hlen]; rfl)
    obtain ⟨s, hs⟩ : ∃ s, subs rs fs qs gs 1 = [s] := by
      match h : subs rs fs qs gs 1, hlen with
      | [s], _ => exact ⟨s, rfl⟩
    obtain ⟨A', c', e, hR⟩ := OS.slice hO
    subst e
    obtain ⟨g, rfl⟩ := own_at0 hO (by simp)
    obtain ⟨_, e0, hc0⟩ := hR.cell 0 (.slice A5 n5 c5) rfl
    obtain ⟨_, e1, hc1⟩ := hR.cell 1 (.slice A6 n6 c6) rfl
    obtain rfl := Option.some.inj e0
    obtain rfl := Option.some.inj e1
    rw [add_zero0] at hc0 hc1
    have hS' := Aside0.mk hS
    clear hlen hl1 hO hR e0 e1 hS
    go_wp2
    refine bodyPost_ret (retSB rfl rfl (g := w.heap.size + 2) (blk_set (blk_set hk'.out 0 _) 1 _) rfl) rfl ?_
    refine ⟨_, rfl, (A5, n5, c5), (A6, n6, c6), by rw [hhas.out]; rfl, ?_, Reg.On.set (Reg.On.set (hb.out.trans hb1) (by simp; omega) _) (by simp; omega) _⟩
    have h9 := hS'.out
    rw [hs] at h9 ⊢
    exact ((h9.set (by rw [hsx.out]; show w.heap.size + 1 + 1 < _; omega) _).set (by rw [hsx.out]; show w.heap.size + 1 + 1 < _; omega) _).lower (by rw [hsx.out]; omega)
theorem sHas_calls (w : World) (A0 c0 A1 c1) (rs : List Rel) (fs : List Fct) (h0 : Rels w A0 c0 rs) (h1 : Fcts w A1 c1 fs) (A2 c2 A3 c3) (qs : List Rel) (gs : List Fct) (h2 : Rels w A2 c2 qs) (h3 : Fcts w A3 c3 gs) :
    Calls Try.prog 29 #[.agg #[.slice A0 rs.length c0, .slice A1 fs.length c1], .agg #[.slice A2 qs.length c2, .slice A3 gs.length c3]] w fun e w' => e = .returned (.bool (hasHom rs fs qs gs)) ∧ On w w' := by
  have hb := Aside0.mk (On.alloc (On.alloc (On.refl w) (.cells #[.slice A0 rs.length c0, .slice A1 fs.length c1] 32)) (.cells #[.slice A2 qs.length c2, .slice A3 gs.length c3] 32))
  go_enter Try.func29, Try.ntmps29
  go_wp2_with (go_at_call 45; refine (sFind_calls _ A0 c0 A1 c1 rs fs (h0.on hb.out) (h1.on hb.out) A2 c2 A3 c3 qs gs (h2.on hb.out) (h3.on hb.out)).mono ?_; rintro e w1 ⟨v, rfl, ⟨Aa, na, ca⟩, ⟨Ab, nb, cb⟩, rfl, hS, hb1⟩; clear hS; have hfill := alloc_fill w1)
  go_ret
  exact ⟨rfl, hb.out.trans (hb1.trans (On.alloc (On.refl _) _))⟩
theorem sAre_calls (w : World) (A0 c0 A1 c1) (rs : List Rel) (fs : List Fct) (h0 : Rels w A0 c0 rs) (h1 : Fcts w A1 c1 fs) (A2 c2 A3 c3) (qs : List Rel) (gs : List Fct) (h2 : Rels w A2 c2 qs) (h3 : Fcts w A3 c3 gs) :
    Calls Try.prog 37 #[.agg #[.slice A0 rs.length c0, .slice A1 fs.length c1], .agg #[.slice A2 qs.length c2, .slice A3 gs.length c3]] w fun e w' => e = .returned (.bool (hasHom rs fs qs gs && hasHom qs gs rs fs)) ∧ On w w' := by
  have hb := Aside0.mk (On.alloc (On.alloc (On.refl w) (.cells #[.slice A0 rs.length c0, .slice A1 fs.length c1] 32)) (.cells #[.slice A2 qs.length c2, .slice A3 gs.length c3] 32))
  have hL := Aside0.mk (loc2 w #[.slice A0 rs.length c0, .slice A1 fs.length c1] #[.slice A2 qs.length c2, .slice A3 gs.length c3] 32 32)
  cases ho : hasHom rs fs qs gs with
  | false =>
    have ho' := Aside0.mk ho
    clear ho
    go_enter Try.func37, Try.ntmps37
    go_wp2_with (go_at_call 29; refine (sHas_calls _ A0 c0 A1 c1 rs fs (h0.on hb.out) (h1.on hb.out) A2 c2 A3 c3 qs gs (h2.on hb.out) (h3.on hb.out)).mono ?_; rintro e w1 ⟨rfl, hb1⟩; rw [ho'.out])
    go_ret
    exact ⟨by simp, hb.out.trans hb1⟩
  | true =>
    have ho' := Aside0.mk ho
    clear ho
    go_enter Try.func37, Try.ntmps37
    go_wp2_with (first
      | (go_at_call 29; refine (sHas_calls _ A2 c2 A3 c3 qs gs (h2.on (hb.out.trans hb1)) (h3.on (hb.out.trans hb1)) A0 c0 A1 c1 rs fs (h0.on (hb.out.trans hb1)) (h1.on (hb.out.trans hb1))).mono ?_; rintro e w2 ⟨rfl, hb2⟩)
      | (go_at_call 29; refine (sHas_calls _ A0 c0 A1 c1 rs fs (h0.on hb.out) (h1.on hb.out) A2 c2 A3 c3 qs gs (h2.on hb.out) (h3.on hb.out)).mono ?_; rintro e w1 ⟨rfl, hb1⟩; rw [ho'.out]; have hL1 := Aside0.mk (Loc.on hb1 hL.out); have hd0 := blk_cell hL1.out.1; have hd1 := blk_cell hL1.out.2.1))
    go_ret
    exact ⟨by simp, hb.out.trans (hb1.trans hb2)⟩
end Go.Proofs.Ytngjhblbpapjeaa.H
/- Walks: the program's own search: the visit that keeps. No condition. -/
namespace Go.Proofs.Ytngjhblbpapjeaa.H
open Go Go.RowKit Go.Proofs.YtngjhblbpapjeaaW.PrintWords Go.Proofs.YtngjhblbpapjeaaW.PrintLast
open Go.Proofs.Ytngjhblbpapjeaa.Reg (On on_draw)
set_option maxHeartbeats 4000000
set_option maxRecDepth 100000
set_option linter.unusedVariables false
set_option linter.unusedSimpArgs false

theorem blk_not_own {w : World} {lo e sz n b : Nat} {v : Value} {xs : List Value} {cs : Array Value} {t : TypeId} (h : w.ownsRow lo e sz v n xs) (hb : w.heap[b]? = some (.cells cs t (0, 0))) (hne : t ≠ e) : some b ≠ v.ownBlock := fun e1 => by
  obtain ⟨c, hc⟩ := own_typed h b e1.symm
  rw [hb] at hc
  injection hc with hc
  injection hc with _ h3
  exact hne h3
theorem own_set_other {w : World} {lo e sz n b : Nat} {v : Value} {xs : List Value} {cs : Array Value} {t : TypeId} (h : w.ownsRow lo e sz v n xs) (hb : w.heap[b]? = some (.cells cs t (0, 0))) (hne : t ≠ e) (u : Value) : (w.setCell ⟨b, 0, none⟩ u).ownsRow lo e sz v n xs :=
  own_ex h (Ex.set w ⟨b, 0, none⟩ u) fun i hi e1 => blk_not_own h hb hne (by rw [hi, show i = b from e1])
theorem lit_RS {W w : World} {a b : Sli} (hb : On (W.alloc (.cells #[slV a, slV b] 45 (0, 0))) w) : RS w (some ⟨W.heap.size, 0, none⟩) 1 [(a, b)] := by
  obtain ⟨A, c, e, h⟩ := OS.slice (pw_own_below (lit_S W a b) hb)
  injection e with e1 e2 e3
  subst e1 e3
  exact h
section
variable {ops : Array Oper} {rest : List Oper} {o : Oper} {a : Act} {Q : Exit → Act → World → Prop} {W : World}
theorem apSx (N : Tmp) {s x : Operand} {v : Value} {A : Option Addr} {c base : Nat} {xs ys zs : List SHd} (hz : xs ++ ys = zs)
    (HO : OS W base v xs) (HR : RS W A c ys) (hbase : base ≤ W.heap.size) (hl : xs.length + ys.length ≤ 1000000000)
    (h : ∀ v1 w1, OS w1 base v1 zs → W.grownBy w1 v.ownBlock → (v1.ownBlock = v.ownBlock ∨ ∃ b, v1.ownBlock = some b ∧ W.heap.size ≤ b) → wpList Try.prog ops Q rest (a.put (some N) v1) w1)
    (hop : o.op = .call { callee := .builtin .append, args := #[s, x], argTypes := #[71, 71] } := by rfl)
    (hd : o.dst = some N := by rfl) (hg : o.guard = none := by rfl) (hs : a.eval s = v := by rfl) (hx : a.eval x = .slice A ys.length c := by rfl) : wpList Try.prog ops Q (o :: rest) a W := by
  subst hz
  obtain ⟨i0, hi, hzz⟩ := Option.map_eq_some_iff.1 infoSu
  simp only [Prod.mk.injEq] at hzz
  obtain ⟨hz0, hz1, hz2⟩ := hzz
  have hnil : ys = [] → wpList Try.prog ops Q (o :: rest) a W := by
    rintro rfl
    rw [List.append_nil] at h
    cases A with
    | none => exact ap_none N Try.underlying71 infoSu HO (h v W HO (World.grownBy.refl W _) (.inl rfl)) hop hd hg hs hx
    | some ad =>
      refine wpList_append_own_at W hg s x 71 hop base 45 i0 _ 2 48 Try.underlying71 hi hz0 hz1 hz2 rfl (by omega) v xs.length _ hs HO ad 0 c [] hx rfl (by simp) (by simp) (by simp at hl; simp [maxLen]; omega) (by simp at hl; omega) hbase fun v1 w1 h1 h2 _ h4 => ?_
      rw [hd]
      exact h v1 w1 (by simpa using h1) h2 (h4.imp id fun e => ⟨_, e, Nat.le_refl _⟩)
  cases A with
  | none =>
    refine hnil ?_
    cases ys with
    | nil => rfl
    | cons y ys => obtain ⟨_, e, _⟩ := HR.cell 0 _ rfl; cases e
  | some ad =>
    refine wpList_append_own_at W hg s x 71 hop base 45 i0 _ 2 48 Try.underlying71 hi hz0 hz1 hz2 rfl (by omega) v xs.length _ hs HO ad ys.length c (ys.flatMap encS) hx (flat_len (enc := encS) (sz := 2) (fun _ => rfl) ys) (fun j u hu => ?_) (fun u hu => ?_) (by simp [maxLen]; omega) (by omega) hbase fun v1 w1 h1 h2 _ h4 => ?_
    · obtain ⟨ad', e, hc⟩ := HR.cell j u hu
      injection e with e; subst e; exact hc
    · obtain ⟨y, _, hy⟩ := List.mem_flatMap.1 hu
      simp only [List.mem_cons, List.not_mem_nil, or_false] at hy
      rcases hy with rfl | rfl <;> rfl
    · rw [hd]
      refine h v1 w1 ?_ h2 (h4.imp id fun e => ⟨_, e, Nat.le_refl _⟩)
      have e : (xs ++ ys).flatMap encS = xs.flatMap encS ++ ys.flatMap encS := List.flatMap_append
      show World.ownsRow _ _ _ _ _ (xs ++ ys).length _
      rw [e, List.length_append]
      exact h1
end
theorem keep_calls (w : World) (lo b b2 : Nat) (A : Option Addr) (c : Nat) (hs : List SHd) (x y : Sli) (most : Int) (hO : OS w lo (.slice A hs.length c) hs) (hlo : lo ≤ w.heap.size) (hl : hs.length ≤ 1000)
    (hb0 : w.heap[b]? = some (.cells #[.slice A hs.length c] 71 (0, 0))) (hb2 : w.heap[b2]? = some (.cells #[.int .i64 most] 3 (0, 0))) (hne : b2 ≠ b) :
    Calls Try.prog 130 #[.agg #[slV x, slV y], .pointer (some ⟨b, 0, none⟩), .pointer (some ⟨b2, 0, none⟩)] w fun e w' => ∃ A' c' zs, zs = hs ++ [(x, y)] ∧ e = .returned (.bool ((zs.length : Int) == most)) ∧ OS w' lo (.slice A' zs.length c') zs ∧ w'.heap[b]? = some (.cells #[.slice A' zs.length c'] 71 (0, 0)) ∧ Ex (fun k => k = b ∨ some k = Value.ownBlock (.slice A hs.length c)) w w' ∧ (Value.ownBlock (.slice A' zs.length c') = Value.ownBlock (.slice A hs.length c) ∨ ∃ k, Value.ownBlock (.slice A' zs.length c') = some k ∧ w.heap.size ≤ k) := by
  obtain ⟨x1, x2, x3⟩ := x
  obtain ⟨y1, y2, y3⟩ := y
  have hb := Aside0.mk (On.alloc (On.refl w) (.cells #[.slice x1 x2 x3, .slice y1 y2 y3] 45))
  have hcn := blk_cell (loc_new w #[.slice x1 x2 x3, .slice y1 y2 y3] 45)
  have hc := blk_cell (blk_below hb0 hb.out)
  have hbb := Aside0.mk (show b ≠ w.heap.size ∧ b2 ≠ w.heap.size from ⟨by have := blk_lt hb0; omega, by have := blk_lt hb2; omega⟩)
  obtain ⟨zs, hz⟩ : ∃ zs, hs ++ [(((x1, x2, x3), (y1, y2, y3)) : SHd)] = zs := ⟨_, rfl⟩
  have hb0' := Aside0.mk hb0
  have hb2' := Aside0.mk hb2
  have hO' := Aside0.mk hO
  have hz' := Aside0.mk hz
  clear hb0 hb2 hO hz
  go_enter Try.func130, Try.ntmps130
  go_wp2_with (refine gate 8 ?_)
  have hsz : (w.alloc (.cells #[slV (x1, x2, x3), slV (y1, y2, y3)] 45)).heap.size = w.heap.size + 1 := by simp
  have hR := lit_RS (On.refl ((w.alloc (.cells #[slV (x1, x2, x3), slV (y1, y2, y3)] 45)).alloc (.cells #[slV (x1, x2, x3), slV (y1, y2, y3)] 45 (0, 0))))
  rw [hsz] at hR
  have hB2 := Aside0.mk (hb.out.trans (On.alloc (On.refl _) (.cells #[.slice x1 x2 x3, .slice y1 y2 y3] 45)))
  refine ⟨apSx 8 hz'.out (pw_own_below hO'.out hB2.out) hR (Nat.le_trans hlo hB2.out.size) (by simp; omega) fun v6 w6 hO6 hg6 hat6 => ?_⟩
  obtain ⟨A6, c6, rfl⟩ := own_slice hO6
  have hat := Aside0.mk (hat6.imp id fun ⟨k, e, h⟩ => (⟨k, e, Nat.le_trans hB2.out.size h⟩ : ∃ k, Value.ownBlock (.slice A6 zs.length c6) = some k ∧ w.heap.size ≤ k))
  clear hat6
  have hk0 := blk_grown hg6 (blk_below hb0'.out hB2.out) (blk_not_own hO'.out hb0'.out (by decide))
  have hk2 := blk_grown hg6 (blk_below hb2'.out hB2.out) (blk_not_own hO'.out hb2'.out (by decide))
  have hc0 := blk_cell hk0
  have hf0 := blk_frozen hk0
  have hc2 := blk_cell hk2
  have hk0' := Aside0.mk hk0
  have hE6 := Aside0.mk ((Ex.of_on (S := fun k => k = b ∨ some k = Value.ownBlock (.slice A hs.length c)) hB2.out).trans (Ex.of_grown hg6) (fun i _ e => .inr e))
  have hO6' := Aside0.mk hO6
  clear hR hsz hcn hc hk0 hk2 hg6 hO6
  go_wp2
  go_ret
  exact ⟨A6, c6, zs, hz'.out.symm, rfl, own_set_other hO6'.out hk0'.out (by decide) _, blk_set hk0'.out 0 _, hE6.out.trans (Ex.set _ _ _) (fun i _ e => .inl e), hat.out⟩
end Go.Proofs.Ytngjhblbpapjeaa.H
/- Bindings kept in a map: what a block of the kind map[int]int tells of forty cells. No condition. -/
namespace Go.Proofs.Ytngjhblbpapjeaa.H
open Go Go.RowKit Go.Proofs.YtngjhblbpapjeaaW.PrintWords Go.Proofs.YtngjhblbpapjeaaW.PrintLast
open Go.Proofs.Ytngjhblbpapjeaa.Reg (On on_draw)
set_option maxHeartbeats 4000000
set_option maxRecDepth 100000
set_option linter.unusedVariables false
set_option linter.unusedSimpArgs false

theorem mapClone_calls (w : World) (b : Nat) (es : Array MapEntry) (clock : Nat) (hb : w.heap[b]? = some (.map es clock)) :
    Calls Try.prog 175 #[.map (some b)] w fun e w' => e = .returned (.map (some w.heap.size)) ∧ w' = w.alloc (.map es clock) := by
  have hq := fun w => run_eql_map_nil_sl (P := Try.prog) w 126 _ _ (some b) Try.underlying126
  go_enter Try.func175, Try.ntmps175
  go_wp2
  rw [run_callFunc_extern Try.func182 (by kernel_rfl) (by kernel_rfl) (by kernel_rfl) (e := Extern.MapsClone.clone) (by kernel_rfl), run_maps_clone_sl w 126 hb]
  simp only [Result.andThen]
  rw [Oper.upon_value]
  go_wp2
  rw [run_typeAssert_map_sl _ 126 _ _ _ _ Try.underlying126]
  simp only [Result.andThen]
  rw [Oper.upon_value]
  go_wp2
  go_ret
  exact ⟨rfl, rfl⟩
abbrev kl (k : Int) : Lit := .int .i64 k
noncomputable abbrev plE (v : Value) : Option (DataW Unit × List MemPlace) := plainElem Try.prog 3 v
/-- The block b is a map of at most n entries that tells the binding z. -/
structure BM (w : World) (b n : Nat) (z : List Int) : Prop where
  mk :: (out : ∃ D : DataW Unit, w.ownsMap Try.prog 3 plE b n D ∧ Maps.IsMap D ∧ (∀ k : Nat, k < 40 → Maps.has D (kl k) = decide (z.getD k 10 ≠ 10) ∧ (z.getD k 10 ≠ 10 → ∀ zd, D.atKey (kl k) zd = .lit (.int .i64 (z.getD k 10)))) ∧ ∀ k : Int, Maps.has D (kl k) = true → 0 ≤ k ∧ k < 40)
theorem none40_get (k : Nat) : none40.getD k 10 = 10 := by
  unfold none40
  rw [List.getD_eq_getElem?_getD, List.getElem?_replicate]
  split <;> rfl
theorem BM.start (w : World) : BM (w.alloc (.map #[] 0)) w.heap.size 0 none40 := by
  refine ⟨.map [], World.ownsMap_made w _ _ _, ⟨_, rfl⟩, fun k hk => ⟨?_, fun h => absurd (none40_get k) h⟩, fun k h => ?_⟩
  · rw [none40_get]; rfl
  · cases h
theorem BM.on {W w : World} {b n : Nat} {z : List Int} (h : BM W b n z) (hb : On W w) : BM w b n z := by
  obtain ⟨D, h1, h2⟩ := h.out
  exact ⟨D, h1.kept (grown_of_below hb none) (by simp), h2⟩
theorem wf_i64 {a : Int} (h : -9223372036854775808 ≤ a ∧ a ≤ 9223372036854775807) : (Lit.int .i64 a).wf = true := by
  show (decide (IntKind.i64.min ≤ a) && decide (a ≤ IntKind.i64.max)) = true
  rw [show IntKind.i64.min = -9223372036854775808 from rfl, show IntKind.i64.max = 9223372036854775807 from rfl]
  simp [h.1, h.2]
theorem key_lit {k : Int} (h : 0 ≤ k ∧ k < 40) : keyOf Try.prog 3 (.int .i64 k) = some (kl k) := Maps.keyOf_int_mk Try.underlying3 (wf_i64 (by omega))
theorem keyed : Maps.Keyed Try.prog 3 := Maps.int_keyed Try.underlying3
section
variable {ops : Array Oper} {rest : List Oper} {o : Oper} {a : Act} {Q : Exit → Act → World → Prop} {W : World} {b n : Nat} {z : List Int}
theorem bmLookOk (N : Tmp) {m x : Operand} (h : BM W b n z) (k : Nat) (hk : k < 40) (K : wpList Try.prog ops Q rest (a.put (some N) (.tuple #[.int .i64 (if z.getD k 10 = 10 then 0 else z.getD k 10), .bool (decide (z.getD k 10 ≠ 10))])) W)
    (hop : o.op = Op.lookup 126 m x true := by rfl) (hd : o.dst = some N := by rfl) (hg : o.guard = none := by rfl) (hm : a.eval m = .map (some b) := by rfl) (hx : a.eval x = .int .i64 (k : Int) := by rfl) : wpList Try.prog ops Q (o :: rest) a W := by
  obtain ⟨D, h1, h2, h3, h4⟩ := h.out
  refine wpList_lookup_own_ok_int W hg m x 126 hop 3 3 .i64 keyed Try.underlying126 Try.underlying3 (Try.zeroValue3 W) b n D hm h1 _ (kl k) hx (key_lit (by omega)) fun c hc hw => ?_
  rw [hd, (h3 k hk).1]
  by_cases h10 : z.getD k 10 = 10
  · have e := Maps.atKey_of_not_has (by rw [(h3 k hk).1, h10]; rfl : Maps.has D (kl k) = false) (DataW.lit (.int .i64 0))
    rw [hc] at e
    injection e with e
    injection e with _ e
    subst e
    rw [if_pos h10] at K
    exact K
  · have e := (h3 k hk).2 h10 (.lit (.int .i64 0))
    rw [hc] at e
    injection e with e
    injection e with _ e
    subst e
    rw [if_neg h10] at K
    exact K
theorem set_get (z : List Int) (k : Nat) (hk : k < z.length) (u : Int) (j : Nat) : (z.set k u).getD j 10 = if j = k then u else z.getD j 10 := by
  rw [List.getD_eq_getElem?_getD, List.getD_eq_getElem?_getD, List.getElem?_set]
  by_cases h : k = j
  · subst h; simp [hk]
  · rw [if_neg h, if_neg (fun e => h e.symm)]
theorem bmSet {m x v : Operand} (h : BM W b n z) (hn : n < 1000000) (k : Nat) (hk : k < 40) (hz : z.length = 40) (u : Int) (hu : u ≠ 10) (hr : -9223372036854775808 ≤ u ∧ u ≤ 9223372036854775807)
    (K : ∀ w', BM w' b (n + 1) (z.set k u) → W.grownBy w' (some b) → wpList Try.prog ops Q rest (a.put o.dst undef) w')
    (hop : o.op = Op.mapUpdate 126 m x v := by rfl) (hg : o.guard = none := by rfl) (hm : a.eval m = .map (some b) := by rfl) (hx : a.eval x = .int .i64 (k : Int) := by rfl) (hv : a.eval v = .int .i64 u := by rfl) : wpList Try.prog ops Q (o :: rest) a W := by
  obtain ⟨D, h1, h2, h3, h4⟩ := h.out
  have hkey := key_lit (k := (k : Int)) (by omega)
  refine wpList_mapUpdate_own W hg m x v 126 hop 3 3 keyed Try.underlying126 plE b n D hm h1 (by simp [maxLen]; omega) _ _ (kl k) hx hv hkey (.lit (.int .i64 u)) [] (plainElem_int Try.underlying3 (wf_i64 hr)) fun w' h5 h6 => K w' ⟨_, h5, h2.put _ _, fun j hj => ?_, fun j hj => ?_⟩ h6
  · rw [set_get z k (by omega) u j]
    by_cases e : j = k
    · subst e
      rw [if_pos rfl]
      exact ⟨by rw [Maps.has_put_same h2 (keyed.key hkey)]; simp [hu], fun _ zd => Maps.atKey_put_same h2 (keyed.key hkey) _ zd⟩
    · have hne : kl j ≠ kl k := fun c => by injection c with _ c; omega
      rw [if_neg e]
      exact ⟨by rw [Maps.has_put_other hne]; exact (h3 j hj).1, fun h10 zd => by rw [Maps.atKey_put_other hne]; exact (h3 j hj).2 h10 zd⟩
  · by_cases e : j = k
    · omega
    · have hne : kl j ≠ kl k := fun c => by injection c with _ c; exact e c
      rw [Maps.has_put_other hne] at hj
      exact h4 j hj
end
end Go.Proofs.Ytngjhblbpapjeaa.H
/- Walks: the program's own small functions on values and relations. No condition. -/
namespace Go.Proofs.Ytngjhblbpapjeaa.H
open Go Go.RowKit Go.Proofs.YtngjhblbpapjeaaW.PrintWords Go.Proofs.YtngjhblbpapjeaaW.PrintLast
open Go.Proofs.Ytngjhblbpapjeaa.Reg (On on_draw)
set_option maxHeartbeats 1000000
set_option maxRecDepth 100000
set_option linter.unusedVariables false
set_option linter.unusedSimpArgs false

theorem within_calls (w : World) (x a b : Int) : Calls Try.prog 118 #[.int .i64 x, .int .i64 a, .int .i64 b] w fun e w' => e = .returned (.bool (within x a b)) ∧ On w w' := by
  by_cases h1 : a ≤ x
  · have h1' : decide (a ≤ x) = true := by simpa using h1
    go_enter Try.func118, Try.ntmps118
    go_wp2
    go_ret
    exact ⟨by simp [within, h1], On.refl _⟩
  · have h1' : decide (a ≤ x) = false := by simpa using h1
    go_enter Try.func118, Try.ntmps118
    go_wp2
    go_ret
    exact ⟨by simp [within]; omega, On.refl _⟩
theorem iIsValidValue_calls (w : World) (v : Int) : Calls Try.prog 119 #[.int .i64 v] w fun e w' => e = .returned (.bool (okVal v)) ∧ On w w' := by
  go_enter Try.func119, Try.ntmps119
  go_wp2_with (go_at_call 118; refine (within_calls _ _ _ _).mono ?_; rintro e w1 ⟨rfl, hb1⟩)
  go_ret
  exact ⟨ret_bool (by simp only [okVal, within]), hb1⟩
theorem iNullNumber_calls (w : World) (v : Int) (hv : -9223372036854775808 ≤ v ∧ v ≤ 9223372036854775807) : Calls Try.prog 102 #[.int .i64 v] w fun e w' => e = .returned (.tuple #[.int .i64 (nulNum v), .bool (isNul v)]) ∧ On w w' := by
  have hwr : IntKind.i64.wrap (-1 - v) = -1 - v := IntWalk.i64_in _ (by omega)
  by_cases h : -40 ≤ v ∧ v ≤ -1
  · have hw : within (-1 - v) 0 39 = true := by simp only [within, decide_eq_true_eq]; omega
    have hi := Aside0.mk (show isNul v = true by simp [isNul, h])
    go_enter Try.func102, Try.ntmps102
    go_wp2_with (go_at_call 118; refine (within_calls _ _ _ _).mono ?_; rintro e w1 ⟨rfl, hb1⟩)
    go_ret2
    exact ⟨by rw [hi.out, show nulNum v = -1 - v by simp [nulNum, hi.out]]; rfl, hb1⟩
  · have hw : within (-1 - v) 0 39 = false := by simp only [within, decide_eq_false_iff_not]; omega
    have hi := Aside0.mk (show isNul v = false by simp [isNul]; omega)
    go_enter Try.func102, Try.ntmps102
    go_wp2_with (go_at_call 118; refine (within_calls _ _ _ _).mono ?_; rintro e w1 ⟨rfl, hb1⟩)
    go_ret2
    exact ⟨by rw [hi.out, show nulNum v = 0 by simp [nulNum, hi.out]]; rfl, hb1⟩
theorem str1_lt (s : ByteArray) (h : s.size = 1) (c : UInt8) : Op.bytesLess s.toList [c] = decide (bt s 0 < c.toNat) ∧ Op.bytesLess [c] s.toList = decide ((c.toNat : Int) < bt s 0) ∧ (s.toList == [c]) = decide (bt s 0 = c.toNat) := by
  have hl : s.data.toList.length = 1 := by simpa using h
  obtain ⟨x, hx⟩ := List.length_eq_one_iff.1 hl
  have e1 : s.toList = [x] := by rw [ByteArray.toList_eq]; exact hx
  have e2 : bt s 0 = x.toNat := by
    have h0 : (0 : Int).toNat < s.size := by simp [h]
    unfold bt
    rw [dif_pos h0]
    have : s[(0 : Int).toNat] = x := by
      show s.data[(0:Int).toNat] = x
      have h1 : 0 < s.data.size := by have : s.data.size = 1 := h; omega
      have := Array.getElem_toList (xs := s.data) (i := 0) h1
      simp only [Int.toNat_zero]
      rw [← this]
      simp [hx]
    rw [this]
  rw [e1, e2]
  refine ⟨?_, ?_, ?_⟩
  · simp [Op.bytesLess, UInt8.lt_iff_toNat_lt]
  · simp [Op.bytesLess, UInt8.lt_iff_toNat_lt]
  · rw [Bool.eq_iff_iff]; simp [← UInt8.toNat_inj]; omega
theorem iIsValidRelation_calls (w : World) (r : Rel) : Calls Try.prog 133 #[.agg #[.string r.1, .int .i64 r.2.1, .bool r.2.2]] w fun e w' => e = .returned (.bool (okRel r)) ∧ On w w' := by
  by_cases h1 : (r.1.size : Int) = 1
  · have h1b : ((r.1.size : Int) == 1) = true := beq_iff_eq.mpr h1
    have e1 : Op.bytesLess r.1.toList [97] = decide (bt r.1 0 < 97) := (str1_lt r.1 (by omega) 97).1
    have e2 : Op.bytesLess r.1.toList [122] = decide (bt r.1 0 < 122) := (str1_lt r.1 (by omega) 122).1
    have e3 : (r.1.toList == [122]) = decide (bt r.1 0 = 122) := (str1_lt r.1 (by omega) 122).2.2
    have e4 : (r.1.toList = [122]) = (bt r.1 0 = 122) := by
      apply propext; have := Bool.eq_iff_iff.1 e3; simpa using this
    go_enter Try.func133, Try.ntmps133
    go_wp2_with (go_at_call 118; refine (within_calls _ _ _ _).mono ?_; rintro e w2 ⟨rfl, hb2⟩)
    all_goals
      go_ret
      first | exact ⟨ret_bool (by rw [Bool.eq_iff_iff]; simp [okRel, within]; omega), (On.alloc (On.refl _) _).trans hb2⟩ | exact ⟨ret_bool (by simp [okRel]; omega), On.alloc (On.refl _) _⟩
  · have h1b : ((r.1.size : Int) == 1) = false := beq_eq_false_iff_ne.mpr h1
    go_enter Try.func133, Try.ntmps133
    go_wp2
    go_ret
    exact ⟨ret_bool (by simp [okRel]; omega), On.alloc (On.refl _) _⟩
theorem iAreValidRelations_calls (w : World) (A : Option Addr) (c : Nat) (l : List Rel) (h : Rels w A c l) : Calls Try.prog 107 #[.slice A l.length c] w fun e w' => e = .returned (.bool (okRels l)) ∧ On w w' := by
  have hmax := h.max
  go_enter Try.func107, Try.ntmps107
  go_wp2
  go_loopw [7] (fun v wr => ∃ k : Nat, k ≤ l.length ∧ v = .int .i64 k ∧ Hid (relsFrom (prevName l k) (l.drop k) = relsFrom none l) ∧ On w wr) (fun v _ => l.length - (intOf v).toNat)
  case atStart => exact ⟨0, Nat.zero_le _, rfl, rfl, On.refl _⟩
  case round =>
    obtain ⟨k, hk, rfl, hp, hB⟩ := hrel
    by_cases hlt : k < l.length
    · obtain ⟨ad, rfl, hx0, hx1, hx2⟩ := (h.on hB).at k hlt
      have hp' := Aside0.mk ((relsFrom_step l k hlt).symm.trans hp.out)
      have hfill := alloc_fill3 wr
      have hbx := Aside0.mk (On.alloc (On.refl wr) (.cells #[.string l[k].1, .int .i64 l[k].2.1, .bool l[k].2.2] 87))
      have hB2 := Aside0.mk (hB.trans hbx.out)
      have hcn := blk_cell (loc_new wr #[.string l[k].1, .int .i64 l[k].2.1, .bool l[k].2.2] 87)
      clear hp
      cases hok : okRel l[k] with
      | false =>
        have hok' := Aside0.mk hok
        clear hok
        go_wp2
        refine Reg.region [(0,.L),(1,.C),(2,.L),(3,.L),(4,.L),(5,.L),(6,.L),(7,.L),(8,.L),(9,.L),(10,.L),(11,.L),(12,.L),(13,.L),(14,.L),(15,.L),(16,.L),(17,.L)] [] (by kernel_rfl) (by kernel_rfl) ?_
        repeat first | refine sP ?_ | refine sS ?_ | refine sA ?_ | refine sL ?_ | refine sQ ?_ | refine sO ?_
        refine callC (.bool false) Try.func133 (fun w' hS => ?_) ?_
        focus exact (iIsValidRelation_calls w' l[k]).mono fun e w'' h => ⟨by rw [h.1, hok'.out], h.2⟩
        repeat first | refine sP ?_ | refine sS ?_ | refine sA ?_ | refine sL ?_ | refine sQ ?_ | refine sO ?_
        refine Reg.nil fun w2 hS => ?_
        go_wp2
        go_ret
        exact ⟨ret_bool (by have := hp'.out; rw [hok'.out] at this; simp at this; simp [okRels, this]), hB2.out.trans hS⟩
      | true =>
        have hok' := Aside0.mk hok
        clear hok
        by_cases hk0 : 0 < k
        · have hk0' : decide (0 < (k : Int)) = true := decide_eq_true (by omega)
          have hki : IntKind.i64.wrap ((k : Int) - 1) = ((k - 1 : Nat) : Int) := by rw [IntWalk.i64_in _ (by omega)]; omega
          have hk1 : k - 1 < l.length := by omega
          obtain ⟨ad', e', hy0, _, _⟩ := (h.on hB2.out).at (k - 1) hk1
          obtain rfl : ad = ad' := by simpa using e'
          have hpn : prevName l k = some l[k - 1].1 := by simp [prevName, show ¬ k = 0 by omega, show k - 1 < l.length by omega]
          rw [hpn] at hp'
          replace hp' : Aside0 ((okRel l[k] && strLt l[k - 1].1 l[k].1 && relsFrom (prevName l (k + 1)) (l.drop (k + 1))) = relsFrom none l) := hp'
          cases hs : strLt l[k - 1].1 l[k].1 with
          | true =>
            have hs1 : Op.bytesLess l[k - 1].1.toList l[k].1.toList = true := hs
            have hs2 := bl_asymm _ _ hs1
            have hs3 := bl_ne hs1
            have hs4 := bl_ne' hs1
            have hs' := Aside0.mk hs
            clear hs
            go_wp2
            refine Reg.region [(0,.L),(1,.C),(2,.L),(3,.L),(4,.L),(5,.L),(6,.L),(7,.L),(8,.L),(9,.L),(10,.L),(11,.L),(12,.L),(13,.L),(14,.L),(15,.L),(16,.L),(17,.L)] [] (by kernel_rfl) (by kernel_rfl) ?_
            repeat first | refine sP ?_ | refine sS ?_ | refine sA ?_ | refine sL ?_ | refine sQ ?_ | refine sO ?_
            refine callC (.bool true) Try.func133 (fun w' hS => ?_) ?_
            focus exact (iIsValidRelation_calls w' l[k]).mono fun e w'' h => ⟨by rw [h.1, hok'.out], h.2⟩
            repeat first | refine sP ?_ | refine sS ?_ | refine sA ?_ | refine sL ?_ | refine sQ ?_ | refine sO ?_
            refine Reg.nil fun w2 hS => ?_
            go_wp2
            go_roundw
            case rel => exact ⟨k + 1, by omega, by go_num, (by have := hp'.out; rw [hok'.out, hs'.out] at this; simpa using this : _ = _), hB2.out.trans hS⟩
            case measure => simp [intOf]; omega
          | false =>
            have hs1 : Op.bytesLess l[k - 1].1.toList l[k].1.toList = false := hs
            have hs2 := bl_total _ _ hs1
            have hs' := Aside0.mk hs
            clear hs
            go_wp2
            refine Reg.region [(0,.L),(1,.C),(2,.L),(3,.L),(4,.L),(5,.L),(6,.L),(7,.L),(8,.L),(9,.L),(10,.L),(11,.L),(12,.L),(13,.L),(14,.L),(15,.L),(16,.L),(17,.L)] [] (by kernel_rfl) (by kernel_rfl) ?_
            repeat first | refine sP ?_ | refine sS ?_ | refine sA ?_ | refine sL ?_ | refine sQ ?_ | refine sO ?_
            refine callC (.bool true) Try.func133 (fun w' hS => ?_) ?_
            focus exact (iIsValidRelation_calls w' l[k]).mono fun e w'' h => ⟨by rw [h.1, hok'.out], h.2⟩
            repeat first | refine sP ?_ | refine sS ?_ | refine sA ?_ | refine sL ?_ | refine sQ ?_ | refine sO ?_
            refine Reg.nil fun w2 hS => ?_
            go_wp2
            go_ret
            exact ⟨ret_bool (by have := hp'.out; rw [hok'.out, hs'.out] at this; simp at this; simp [okRels, this]), hB2.out.trans hS⟩
        · have hk0' : decide (0 < (k : Int)) = false := decide_eq_false (by omega)
          have hpn : prevName l k = none := by simp [prevName, show k = 0 by omega]
          rw [hpn] at hp'
          replace hp' : Aside0 ((okRel l[k] && true && relsFrom (prevName l (k + 1)) (l.drop (k + 1))) = relsFrom none l) := hp'
          go_wp2
          refine Reg.region [(0,.L),(1,.C),(2,.L),(3,.L),(4,.L),(5,.L),(6,.L),(7,.L),(8,.L),(9,.L),(10,.L),(11,.L),(12,.L),(13,.L),(14,.L),(15,.L),(16,.L),(17,.L)] [] (by kernel_rfl) (by kernel_rfl) ?_
          repeat first | refine sP ?_ | refine sS ?_ | refine sA ?_ | refine sL ?_ | refine sQ ?_ | refine sO ?_
          refine callC (.bool true) Try.func133 (fun w' hS => ?_) ?_
          focus exact (iIsValidRelation_calls w' l[k]).mono fun e w'' h => ⟨by rw [h.1, hok'.out], h.2⟩
          repeat first | refine sP ?_ | refine sS ?_ | refine sA ?_ | refine sL ?_ | refine sQ ?_ | refine sO ?_
          refine Reg.nil fun w2 hS => ?_
          go_wp2
          go_roundw
          case rel => exact ⟨k + 1, by omega, by go_num, (by have := hp'.out; rw [hok'.out] at this; simpa using this : _ = _), hB2.out.trans hS⟩
          case measure => simp [intOf]; omega
    · go_wp2
      go_ret
      have e1 : relsFrom none l = true := by rw [← hp.out, List.drop_of_length_le (by omega)]; cases prevName l k <;> rfl
      exact ⟨ret_bool (by simp [okRels, e1]; omega), hB⟩
end Go.Proofs.Ytngjhblbpapjeaa.H
/- Walks: the program's own search: one fact mapped. No condition. -/
namespace Go.Proofs.Ytngjhblbpapjeaa.H
open Go Go.RowKit Go.Proofs.YtngjhblbpapjeaaW.PrintWords Go.Proofs.YtngjhblbpapjeaaW.PrintLast
open Go.Proofs.Ytngjhblbpapjeaa.Reg (On on_draw)
set_option maxHeartbeats 4000000
set_option maxRecDepth 100000
set_option linter.unusedVariables false
set_option linter.unusedSimpArgs false

theorem BM.mono {w : World} {b n n' : Nat} {z : List Int} (h : BM w b n z) (hn : n ≤ n') : BM w b n' z := by
  obtain ⟨D, h1, h2⟩ := h.out
  exact ⟨D, h1.mono hn, h2⟩
theorem bmClone_calls (w : World) (b n : Nat) (z : List Int) (h : BM w b n z) : Calls Try.prog 175 #[.map (some b)] w fun e w' => e = .returned (.map (some w.heap.size)) ∧ BM w' w.heap.size n z ∧ On w w' := by
  obtain ⟨D, ⟨es, clock, hb, F, hs, hD⟩, h2⟩ := h.out
  refine (mapClone_calls w b es clock hb).mono fun e w' hh => ?_
  obtain ⟨rfl, rfl⟩ := hh
  exact ⟨rfl, ⟨D, ⟨es, clock, (MapKept.heap_alloc w _).1, F, hs, hD⟩, h2⟩, On.alloc (On.refl w) _⟩
theorem mapped_calls (w : World) (b n : Nat) (A0 c0 A1 c1) (f g : Fct) (x : List Int) (h0 : Ints w A0 c0 f.2) (h1 : Ints w A1 c1 g.2) (h2 : BM w b n x) (hR : InR x) (hx : x.length = 40) (hg10 : ∀ v ∈ g.2, v ≠ 10) (hn : n + f.2.length < 1000000) :
    Calls Try.prog 153 #[.map (some b), .agg #[.int .i64 f.1, .slice A0 f.2.length c0], .agg #[.int .i64 g.1, .slice A1 g.2.length c1]] w (Got fun v w' => ∃ mv, v = .tuple #[mv, .bool (fit f g x).isSome] ∧ (∀ y, fit f g x = some y → ∃ b', mv = .map (some b') ∧ BM w' b' (n + f.2.length) y ∧ w.heap.size ≤ b' ∧ InR y ∧ y.length = 40) ∧ On w w') := by
  have hm0 := h0.max
  have hm1 := h1.max
  have hx' := Aside0.mk hx
  clear hx
  have hb := Aside0.mk (On.alloc (On.alloc (On.refl w) (.cells #[.int .i64 f.1, .slice A0 f.2.length c0] 55)) (.cells #[.int .i64 g.1, .slice A1 g.2.length c1] 55))
  have hL := Aside0.mk (loc2 w #[.int .i64 f.1, .slice A0 f.2.length c0] #[.int .i64 g.1, .slice A1 g.2.length c1] 55 55)
  have hsx := Aside0.mk (show ((w.alloc (.cells #[.int .i64 f.1, .slice A0 f.2.length c0] 55)).alloc (.cells #[.int .i64 g.1, .slice A1 g.2.length c1] 55)).heap.size = w.heap.size + 1 + 1 by simp)
  by_cases hr : f.1 = g.1
  · have hrb : (f.1 == g.1) = true := by simp [hr]
    have hrc : (f.1 != g.1) = false := by simp [bne, hrb]
    have hr' := Aside0.mk hr
    clear hr
    by_cases hl : f.2.length = g.2.length
    · have hlb : ((f.2.length : Int) == (g.2.length : Int)) = true := by simp [hl]
      have hlc : ((f.2.length : Int) != (g.2.length : Int)) = false := by simp [bne, hlb]
      have hld : (f.2.length == g.2.length) = true := by simp [hl]
      have hl' := Aside0.mk hl
      clear hl
      have hfit := Aside0.mk (show fit f g x = fitFrom f.2 g.2 x by unfold fit; rw [if_neg (by simp [hr'.out, hl'.out])])
      go_enter Try.func153, Try.ntmps153
      go_wp2_with (refine gate 31 ?_)
      clear hlb hlc hld hrb hrc
      obtain ⟨Wx, hWx⟩ : ∃ Wx, (w.alloc (.cells #[.int .i64 f.1, .slice A0 f.2.length c0] 55)).alloc (.cells #[.int .i64 g.1, .slice A1 g.2.length c1] 55) = Wx := ⟨_, rfl⟩
      rw [hWx] at hb hL hsx ⊢
      clear hWx
      refine ⟨goesF 31 Try.func175 ((bmClone_calls Wx b n x (h2.on hb.out)).mono ?_)⟩
      rintro e w3 ⟨rfl, hM3, hb3⟩
      refine ⟨_, rfl, ?_⟩
      have hBs := Aside0.mk hb3
      have hM3' := Aside0.mk hM3
      have hbz := Aside0.mk (show w.heap.size + 1 + 1 = Wx.heap.size from hsx.out.symm)
      obtain ⟨q, hq0⟩ : ∃ q, Wx.heap.size = q := ⟨_, rfl⟩
      have hq'0 := Aside0.mk hq0
      rw [hq0] at hM3' ⊢
      have hL3 := Aside0.mk (Loc.on hb3 hL.out)
      have hd0 := blk_cell hL3.out.1
      clear hb3 hM3 hq0
      go_wp2
      clear hd0
      go_loopw [35] (fun v wr => ∃ (k : Nat) (z : List Int), k ≤ f.2.length ∧ v = .int .i64 k ∧ Aside0 (fitFrom (f.2.drop k) (g.2.drop k) z = fitFrom f.2 g.2 x) ∧ Aside0 (z.length = x.length ∧ InR z) ∧ Aside0 (BM wr q (n + k) z) ∧ Aside0 (On Wx wr)) (fun v _ => f.2.length - (intOf v).toNat)
      case atStart => exact ⟨0, x, Nat.zero_le _, rfl, ⟨rfl⟩, ⟨rfl, hR⟩, hM3', hBs⟩
      case round =>
        obtain ⟨k, z, hk, rfl, hp, hz, hM, hB⟩ := hrel
        have hBr := Aside0.mk (hb.out.trans hB.out)
        have hLr := Aside0.mk (Loc.on hB.out hL.out)
        have hd0 := blk_cell hLr.out.1
        have hd1 := blk_cell hLr.out.2.1
        by_cases hlt : k < f.2.length
        · have hlt2 : k < g.2.length := by have := hl'.out; omega
          obtain ⟨ad, rfl, hx1⟩ := (h0.on hBr.out).at k hlt
          obtain ⟨bd, rfl, hy1⟩ := (h1.on hBr.out).at k hlt2
          have hbd := h0.bd k hlt
          have hgd := Aside0.mk (h1.bd k hlt2)
          have hst := Aside0.mk ((fitFrom_step f.2 g.2 z k hlt hlt2).symm.trans hp.out)
          clear hp
          have hu10 := Aside0.mk (show g.2[k] ≠ 10 from hg10 _ (List.getElem_mem hlt2))
          cases hv : isNul f.2[k] with
          | false =>
            have hv' := Aside0.mk hv
            have hm := Aside0.mk (show nulNum f.2[k] = (nulNum f.2[k]) from rfl)
            clear hv
            by_cases hq : f.2[k] = g.2[k]
            · have hq2 : (f.2[k] != g.2[k]) = false := by simp [bne, hq]
              have hq3 : (f.2[k] == g.2[k]) = true := by simp [hq]
              have hq' := Aside0.mk hq
              clear hq
              go_wp2_with (
                (go_at_call 102; refine (iNullNumber_calls _ _ hbd).mono ?_; rintro e w2 ⟨rfl, hb2⟩; rw [hv'.out, hm.out]; have hL2 := Aside0.mk (Loc.on hb2 hLr.out); have hd0 := blk_cell hL2.out.1; have hd1 := blk_cell hL2.out.2.1; replace hx1 := (hb2.eq _ (by rw [hx1]; rfl)).trans hx1; replace hy1 := (hb2.eq _ (by rw [hy1]; rfl)).trans hy1)
                )
              have hn : nxt z f.2[k] g.2[k] = some z := by unfold nxt; rw [hv'.out]; simp [hq'.out]
              exact ⟨⟨k + 1, z, by omega, by go_num, ⟨by rw [← hst.out, hn]; rfl⟩, hz, ⟨(hM.out.on hb2).mono (by omega)⟩, ⟨hB.out.trans hb2⟩⟩, by simp [intOf]; omega⟩
            · have hq2 : (f.2[k] != g.2[k]) = true := by simp [bne]; exact hq
              have hq3 : (f.2[k] == g.2[k]) = false := by simpa using hq
              have hq' := Aside0.mk hq
              clear hq
              go_wp2_with (
                (go_at_call 102; refine (iNullNumber_calls _ _ hbd).mono ?_; rintro e w2 ⟨rfl, hb2⟩; rw [hv'.out, hm.out]; have hL2 := Aside0.mk (Loc.on hb2 hLr.out); have hd0 := blk_cell hL2.out.1; have hd1 := blk_cell hL2.out.2.1; replace hx1 := (hb2.eq _ (by rw [hx1]; rfl)).trans hx1; replace hy1 := (hb2.eq _ (by rw [hy1]; rfl)).trans hy1)
                )
              go_ret2
              have hn : nxt z f.2[k] g.2[k] = none := by unfold nxt; rw [hv'.out]; simp [hq'.out]
              have hno : fit f g x = none := by rw [hfit.out, ← hst.out, hn]; rfl
              exact ⟨_, rfl, (.map none), by rw [hno]; rfl, fun y hy => (by rw [hno] at hy; cases hy), hBr.out.trans hb2⟩
          | true =>
            obtain ⟨m, hm0, hm40⟩ : ∃ m : Nat, nulNum f.2[k] = (m : Int) ∧ m < 40 := by
              refine ⟨(nulNum f.2[k]).toNat, ?_, ?_⟩ <;> (unfold nulNum; rw [hv]; simp only [isNul, decide_eq_true_eq] at hv; simp only [if_true]; omega)
            have hm := Aside0.mk hm0
            have hv' := Aside0.mk hv
            have hzl := Aside0.mk (hz.out.1.trans hx'.out)
            have hm4 := Aside0.mk hm40
            have hget := Aside0.mk (show (nulNum f.2[k]).toNat = m by rw [hm0]; rfl)
            clear hv hm0 hm40
            by_cases h10 : z.getD m 10 = 10
            · have h10' := Aside0.mk h10
              clear h10
              go_wp2_with (first
                |
                (go_at_call 102; refine (iNullNumber_calls _ _ hbd).mono ?_; rintro e w2 ⟨rfl, hb2⟩; rw [hv'.out, hm.out]; have hL2 := Aside0.mk (Loc.on hb2 hLr.out); have hd0 := blk_cell hL2.out.1; have hd1 := blk_cell hL2.out.2.1; replace hx1 := (hb2.eq _ (by rw [hx1]; rfl)).trans hx1; replace hy1 := (hb2.eq _ (by rw [hy1]; rfl)).trans hy1)
                | (refine gate 58 ?_))
              refine ⟨bmLookOk 58 (hM.out.on hb2) m hm4.out ?_⟩
              rw [if_pos h10'.out, show decide (z.getD m 10 ≠ 10) = false from decide_eq_false (fun h => h h10'.out)]
              go_wp2_with (at_mapUpdate; refine bmSet (hM.out.on hb2) (by omega) m hm4.out hzl.out g.2[k] hu10.out hgd.out (fun w6 h6 hg6 => ?_))
              have hn : nxt z f.2[k] g.2[k] = some (z.set m g.2[k]) := by unfold nxt; rw [hv'.out, if_pos rfl, hget.out, if_neg (fun h => by first | exact h.1 h10'.out | exact h.2 hq'.out)]
              exact ⟨⟨k + 1, z.set m g.2[k], by omega, by go_num, ⟨by rw [← hst.out, hn]; rfl⟩, ⟨by rw [List.length_set]; exact hz.out.1, inR_set hz.out.2 hgd.out⟩, ⟨h6⟩, ⟨on_grown (hB.out.trans hb2) hg6 (fun j hj => by injection hj with hj; have := hq'0.out; omega)⟩⟩, by simp [intOf]; omega⟩
            · by_cases hq : z.getD m 10 = g.2[k]
              · have h10' := Aside0.mk h10
                have hq' := Aside0.mk hq
                have hq2 : (g.2[k] != g.2[k]) = false := by simp
                clear h10 hq
                go_wp2_with (first
                  |
                  (go_at_call 102; refine (iNullNumber_calls _ _ hbd).mono ?_; rintro e w2 ⟨rfl, hb2⟩; rw [hv'.out, hm.out]; have hL2 := Aside0.mk (Loc.on hb2 hLr.out); have hd0 := blk_cell hL2.out.1; have hd1 := blk_cell hL2.out.2.1; replace hx1 := (hb2.eq _ (by rw [hx1]; rfl)).trans hx1; replace hy1 := (hb2.eq _ (by rw [hy1]; rfl)).trans hy1)
                  | (refine gate 58 ?_))
                refine ⟨bmLookOk 58 (hM.out.on hb2) m hm4.out ?_⟩
                rw [if_neg h10'.out, show decide (z.getD m 10 ≠ 10) = true from decide_eq_true h10'.out, hq'.out]
                go_wp2_with (at_mapUpdate; refine bmSet (hM.out.on hb2) (by omega) m hm4.out hzl.out g.2[k] hu10.out hgd.out (fun w6 h6 hg6 => ?_))
                have hn : nxt z f.2[k] g.2[k] = some (z.set m g.2[k]) := by unfold nxt; rw [hv'.out, if_pos rfl, hget.out, if_neg (fun h => by first | exact h.1 h10'.out | exact h.2 hq'.out)]
                exact ⟨⟨k + 1, z.set m g.2[k], by omega, by go_num, ⟨by rw [← hst.out, hn]; rfl⟩, ⟨by rw [List.length_set]; exact hz.out.1, inR_set hz.out.2 hgd.out⟩, ⟨h6⟩, ⟨on_grown (hB.out.trans hb2) hg6 (fun j hj => by injection hj with hj; have := hq'0.out; omega)⟩⟩, by simp [intOf]; omega⟩
              · have h10' := Aside0.mk h10
                have hq' := Aside0.mk hq
                obtain ⟨c, hc⟩ : ∃ c, z.getD m 10 = c := ⟨_, rfl⟩
                rw [hc] at hq
                have hc' := Aside0.mk hc
                have hq2 : (c != g.2[k]) = true := by simp [bne]; exact hq
                have hq3 : (c == g.2[k]) = false := by simpa using hq
                clear h10 hq hc
                go_wp2_with (first
                  |
                  (go_at_call 102; refine (iNullNumber_calls _ _ hbd).mono ?_; rintro e w2 ⟨rfl, hb2⟩; rw [hv'.out, hm.out]; have hL2 := Aside0.mk (Loc.on hb2 hLr.out); have hd0 := blk_cell hL2.out.1; have hd1 := blk_cell hL2.out.2.1; replace hx1 := (hb2.eq _ (by rw [hx1]; rfl)).trans hx1; replace hy1 := (hb2.eq _ (by rw [hy1]; rfl)).trans hy1)
                  | (refine gate 58 ?_))
                refine ⟨bmLookOk 58 (hM.out.on hb2) m hm4.out ?_⟩
                rw [if_neg h10'.out, show decide (z.getD m 10 ≠ 10) = true from decide_eq_true h10'.out, hc'.out]
                go_wp2
                go_ret2
                have hn : nxt z f.2[k] g.2[k] = none := by unfold nxt; rw [hv'.out, if_pos rfl, hget.out, if_pos ⟨h10'.out, hq'.out⟩]
                have hno : fit f g x = none := by rw [hfit.out, ← hst.out, hn]; rfl
                exact ⟨_, rfl, (.map none), by rw [hno]; rfl, fun y hy => (by rw [hno] at hy; cases hy), hBr.out.trans hb2⟩
        · have hfin := Aside0.mk (show fit f g x = some z by rw [hfit.out, ← hp.out, List.drop_of_length_le (by omega)]; rfl)
          go_wp2
          go_ret2
          refine ⟨_, rfl, .map (some q), by rw [hfin.out]; rfl, fun y hy => ?_, hBr.out⟩
          rw [hfin.out] at hy
          obtain rfl : z = y := Option.some.inj hy
          exact ⟨q, rfl, hM.out.mono (by omega), by have h1 := hq'0.out; have h2 := hsx.out; omega, hz.out.2, hz.out.1.trans hx'.out⟩
    · have hlb : ((f.2.length : Int) == (g.2.length : Int)) = false := by rw [beq_eq_false_iff_ne]; omega
      have hlc : ((f.2.length : Int) != (g.2.length : Int)) = true := by simp [bne, hlb]
      have hld : (f.2.length == g.2.length) = false := by simpa using hl
      have hno := Aside0.mk (show fit f g x = none by unfold fit; rw [if_pos (.inr hl)])
      clear hl
      go_enter Try.func153, Try.ntmps153
      go_wp2
      go_ret2
      exact ⟨_, rfl, (.map none), by rw [hno.out]; rfl, fun y hy => (by rw [hno.out] at hy; cases hy), hb.out⟩
  · have hrb : (f.1 == g.1) = false := by simpa using hr
    have hrc : (f.1 != g.1) = true := by simp [bne, hrb]
    have hno := Aside0.mk (show fit f g x = none by unfold fit; rw [if_pos (.inl hr)])
    clear hr
    go_enter Try.func153, Try.ntmps153
    go_wp2
    go_ret2
    exact ⟨_, rfl, (.map none), by rw [hno.out]; rfl, fun y hy => (by rw [hno.out] at hy; cases hy), hb.out⟩
end Go.Proofs.Ytngjhblbpapjeaa.H
/- The shelf's maps.Keys and slices.Sorted at this program: the facts they ask. Printed by a program of this session. No condition. -/
namespace Go.Proofs.Ytngjhblbpapjeaa.H
open Go Go.RowKit Go.Shelf Go.Proofs.YtngjhblbpapjeaaW.PrintWords
set_option maxRecDepth 100000
def keysRen : Go.Shelf.Ren := ⟨fun | 6 => 151 | 7 => 152 | 8 => 173 | 9 => 103 | 10 => 174 | 11 => 181 | n => n, fun | 0 => 0 | 3 => 3 | 4 => 4 | 23 => 126 | 24 => 27 | 26 => 3 | 27 => 147 | 28 => 148 | 33 => 116 | n => n, fun | n => n⟩
theorem laysKeys : Go.Proofs.SlLaysZI.n7 Try.prog keysRen := {
  mixed := by kernel_rfl
  f7 := ⟨Try.f152.name, by decide, Try.func152.trans (congrArg some (by kernel_rfl))⟩
  f10 := ⟨Try.f174.name, by decide, Try.func174.trans (congrArg some (by kernel_rfl))⟩
  t0 := Try.underlying0
  a0 := Try.isAgg0
  z0 := Try.sizeOf0
  v0 := Try.zeroValue0
  t4 := Try.underlying4
  a4 := Try.isAgg4
  z4 := Try.sizeOf4
  v4 := Try.zeroValue4
  t23 := Try.underlying126
  a23 := Try.isAgg126
  z23 := Try.sizeOf126
  v23 := Try.zeroValue126
  t26 := Try.underlying3
  a26 := Try.isAgg3
  z26 := Try.sizeOf3
  v26 := Try.zeroValue3
  t27 := Try.underlying147
  a27 := Try.isAgg147
  z27 := Try.sizeOf147
  v27 := Try.zeroValue147
  t28 := Try.underlying148
  a28 := Try.isAgg148
  z28 := Try.sizeOf148
  v28 := Try.zeroValue148
  t33 := Try.underlying116
  a33 := Try.isAgg116
  z33 := Try.sizeOf116
  v33 := Try.zeroValue116 }
theorem laysSorted : Go.Proofs.SlLaysZI.n6 Try.prog keysRen := {
  mixed := by kernel_rfl
  f6 := ⟨Try.f151.name, by decide, Try.func151.trans (congrArg some (by kernel_rfl))⟩
  f8 := ⟨Try.f173.name, by decide, Try.func173.trans (congrArg some (by kernel_rfl))⟩
  f11 := ⟨Try.f181.name, by decide, Try.func181.trans (congrArg some (by kernel_rfl))⟩
  t0 := Try.underlying0
  a0 := Try.isAgg0
  z0 := Try.sizeOf0
  v0 := Try.zeroValue0
  t24 := Try.underlying27
  a24 := Try.isAgg27
  z24 := Try.sizeOf27
  v24 := Try.zeroValue27
  t26 := Try.underlying3
  a26 := Try.isAgg3
  z26 := Try.sizeOf3
  v26 := Try.zeroValue3
  t28 := Try.underlying148
  a28 := Try.isAgg148
  z28 := Try.sizeOf148
  v28 := Try.zeroValue148
  i26 := by kernel_rfl }
end Go.Proofs.Ytngjhblbpapjeaa.H
/- Sorted, each once: plain. No condition. -/
namespace Go.Proofs.Ytngjhblbpapjeaa.H
open Go Go.RowKit Go.Proofs.YtngjhblbpapjeaaW.PrintWords Go.Proofs.YtngjhblbpapjeaaW.PrintLast
open Go.Proofs.Ytngjhblbpapjeaa.Reg (On on_draw)
set_option maxHeartbeats 1000000
set_option linter.unusedVariables false
set_option linter.unusedSimpArgs false

theorem mem_put (x z : Int) : ∀ l : List Int, z ∈ put l x ↔ z = x ∨ z ∈ l
  | [] => by simp [put]
  | y :: l => by
    unfold put
    by_cases c : y < x
    · rw [if_pos c, List.mem_cons, List.mem_cons, mem_put x z l]
      constructor <;> rintro (h | h | h) <;> simp [h]
    · rw [if_neg c]
      by_cases c2 : y = x
      · rw [if_pos c2]; subst c2; simp
      · rw [if_neg c2]; simp
theorem put_up (x : Int) : ∀ l : List Int, l.Pairwise (· < ·) → (put l x).Pairwise (· < ·)
  | [], _ => by simp [put]
  | y :: l, h => by
    rw [List.pairwise_cons] at h
    unfold put
    by_cases c : y < x
    · rw [if_pos c, List.pairwise_cons]
      refine ⟨fun z hz => ?_, put_up x l h.2⟩
      rcases (mem_put x z l).1 hz with rfl | hz
      · exact c
      · exact h.1 z hz
    · rw [if_neg c]
      by_cases c2 : y = x
      · rw [if_pos c2, List.pairwise_cons]; exact h
      · rw [if_neg c2, List.pairwise_cons, List.pairwise_cons]
        refine ⟨fun z hz => ?_, h⟩
        rcases List.mem_cons.1 hz with rfl | hz
        · omega
        · have := h.1 z hz; omega
/-- Two ascending lists with the same elements are one. -/
theorem up_ext : ∀ a b : List Int, a.Pairwise (· < ·) → b.Pairwise (· < ·) → (∀ x, x ∈ a ↔ x ∈ b) → a = b
  | [], [], _, _, _ => rfl
  | [], y :: b, _, _, h => absurd ((h y).2 (by simp)) (by simp)
  | x :: a, [], _, _, h => absurd ((h x).1 (by simp)) (by simp)
  | x :: a, y :: b, ha, hb, h => by
    rw [List.pairwise_cons] at ha hb
    have e : x = y := by
      rcases List.mem_cons.1 ((h x).1 (by simp)) with e | hx
      · exact e
      · rcases List.mem_cons.1 ((h y).2 (by simp)) with e | hy
        · exact e.symm
        · have h1 := hb.1 x hx
          have h2 := ha.1 y hy
          omega
    subst e
    rw [up_ext a b ha.2 hb.2 (fun z => ?_)]
    constructor
    · intro hz
      rcases List.mem_cons.1 ((h z).1 (List.mem_cons_of_mem _ hz)) with e | hz'
      · have := ha.1 z hz; omega
      · exact hz'
    · intro hz
      rcases List.mem_cons.1 ((h z).2 (List.mem_cons_of_mem _ hz)) with e | hz'
      · have := hb.1 z hz; omega
      · exact hz'
/-- An array in order, of which neighbours that are equal go: ascending, each once. -/
theorem compactUpTo_up (d : Array Int) (hs : ∀ i j, i < j → j < d.size → d[i]! ≤ d[j]!) : ∀ m, m ≤ d.size → (Go.Lib.compactUpTo d m).Pairwise (· < ·) ∧ (∀ x, x ∈ Go.Lib.compactUpTo d m ↔ ∃ j, j < m ∧ d[j]! = x) := by
  intro m
  induction m with
  | zero => intro _; simp [Go.Lib.compactUpTo]
  | succ m ih =>
    intro hm
    obtain ⟨h1, h2⟩ := ih (by omega)
    rw [Go.Lib.compactUpTo_succ]
    by_cases c : Go.Lib.keeps d m = true
    · rw [if_pos c]
      have hk : m = 0 ∨ d[m]! ≠ d[m - 1]! := by simpa [Go.Lib.keeps] using c
      refine ⟨?_, fun x => ?_⟩
      · rw [List.pairwise_append]
        refine ⟨h1, by simp, fun x hx y hy => ?_⟩
        obtain rfl : y = d[m]! := by simpa using hy
        obtain ⟨j, hj, rfl⟩ := (h2 x).1 hx
        rcases hk with hk | hk
        · omega
        · have a1 : d[m - 1]! ≤ d[m]! := hs (m - 1) m (by omega) (by omega)
          have a2 : d[j]! ≤ d[m - 1]! := by
            by_cases e : j = m - 1
            · rw [e]; exact Int.le_refl _
            · exact hs j (m - 1) (by omega) (by omega)
          omega
      · rw [List.mem_append, h2]
        constructor
        · rintro (⟨j, hj, e⟩ | h)
          · exact ⟨j, by omega, e⟩
          · exact ⟨m, by omega, (List.mem_singleton.1 h).symm⟩
        · rintro ⟨j, hj, e⟩
          by_cases c2 : j = m
          · subst c2; exact .inr (by simp [e])
          · exact .inl ⟨j, by omega, e⟩
    · rw [if_neg c, List.append_nil]
      refine ⟨h1, fun x => ?_⟩
      have hk : ¬ (m = 0 ∨ d[m]! ≠ d[m - 1]!) := by simpa [Go.Lib.keeps] using c
      have hm0 : m ≠ 0 := fun e => hk (.inl e)
      have he : d[m]! = d[m - 1]! := by
        by_cases e : d[m]! = d[m - 1]!
        · exact e
        · exact absurd (.inr e) hk
      rw [h2]
      constructor
      · rintro ⟨j, hj, e⟩; exact ⟨j, by omega, e⟩
      · rintro ⟨j, hj, e⟩
        by_cases c2 : j = m
        · subst c2; exact ⟨j - 1, by omega, by rw [← he]; exact e⟩
        · exact ⟨j, by omega, e⟩
/-- Sorted, then made sparse: what the two library calls come to. -/
def sortU (l : List Int) : List Int := Go.Lib.compact (l.mergeSort fun x y => decide (x ≤ y))
theorem sortU_up (l : List Int) : (sortU l).Pairwise (· < ·) ∧ ∀ x, x ∈ sortU l ↔ x ∈ l := by
  have hp := List.mergeSort_perm l (fun x y : Int => decide (x ≤ y))
  have ho : (l.mergeSort fun x y : Int => decide (x ≤ y)).Pairwise (fun x y => decide (x ≤ y) = true) := List.pairwise_mergeSort (fun a b c h1 h2 => by simp at *; omega) (fun a b => by simp; omega) l
  unfold sortU
  generalize hs : (l.mergeSort fun x y : Int => decide (x ≤ y)) = s at hp ho
  have hg : ∀ j, (h : j < s.length) → (s.toArray)[j]! = s[j] := fun j h => by simp [h]
  have h := compactUpTo_up s.toArray (fun i j hij hj => by
    have hj' : j < s.length := by simpa using hj
    rw [hg i (by omega), hg j hj']
    have := (List.pairwise_iff_getElem.1 ho) i j (by omega) hj' hij
    simpa using this) s.length (by simp)
  refine ⟨h.1, fun x => ?_⟩
  unfold Go.Lib.compact
  rw [h.2]
  rw [← hp.mem_iff]
  constructor
  · rintro ⟨j, hj, e⟩
    rw [hg j hj] at e
    exact e ▸ List.getElem_mem hj
  · intro hx
    obtain ⟨j, hj, e⟩ := List.mem_iff_getElem.1 hx
    exact ⟨j, hj, by rw [hg j hj]; exact e⟩
theorem up_len : ∀ (l : List Int) (a : Int) (b : Nat), l.Pairwise (· < ·) → (∀ x ∈ l, a ≤ x ∧ x < a + b) → l.length ≤ b
  | [], _, _, _, _ => Nat.zero_le _
  | x :: l, a, b, h, hb => by
    rw [List.pairwise_cons] at h
    have hx := hb x (by simp)
    have := up_len l (x + 1) ((a + b - (x + 1)).toNat) h.2 (fun y hy => by
      have h1 := h.1 y hy
      have h2 := hb y (List.mem_cons_of_mem _ hy)
      omega)
    simp only [List.length_cons]
    omega
/-- The numbers of the nulls, as they come. -/
def nulSeq (vs : List Int) : List Int := (vs.filter isNul).map nulNum
theorem nulSeq_cons (v : Int) (vs : List Int) : nulSeq (v :: vs) = (if isNul v then nulNum v :: nulSeq vs else nulSeq vs) := by
  unfold nulSeq; rw [List.filter_cons]; split <;> simp
theorem nulsFrom_up (vs out : List Int) (h : out.Pairwise (· < ·)) : (nulsFrom out vs).Pairwise (· < ·) ∧ ∀ x, x ∈ nulsFrom out vs ↔ x ∈ out ∨ x ∈ nulSeq vs := by
  induction vs generalizing out with
  | nil => exact ⟨h, fun x => by simp [nulsFrom, nulSeq]⟩
  | cons v vs ih =>
    rw [nulSeq_cons]
    unfold nulsFrom
    by_cases c : isNul v = true
    · rw [if_pos c, if_pos c]
      obtain ⟨h1, h2⟩ := ih _ (put_up (nulNum v) out h)
      refine ⟨h1, fun x => ?_⟩
      rw [h2, mem_put, List.mem_cons]
      constructor
      · rintro ((h | h) | h)
        · exact .inr (.inl h)
        · exact .inl h
        · exact .inr (.inr h)
      · rintro (h | h | h)
        · exact .inl (.inr h)
        · exact .inl (.inl h)
        · exact .inr h
    · rw [if_neg c, if_neg c]
      exact ih out h
theorem nuls_sort (vs : List Int) : sortU (nulSeq vs) = nuls vs := by
  obtain ⟨h1, h2⟩ := nulsFrom_up vs [] (by simp)
  obtain ⟨h3, h4⟩ := sortU_up (nulSeq vs)
  exact up_ext _ _ h3 h1 fun x => by rw [h4]; unfold nuls; rw [h2]; simp
theorem putAll_up (l out : List Int) (h : out.Pairwise (· < ·)) : (putAll out l).Pairwise (· < ·) ∧ ∀ x, x ∈ putAll out l ↔ x ∈ out ∨ x ∈ l := by
  induction l generalizing out with
  | nil => exact ⟨h, fun x => by simp [putAll]⟩
  | cons y l ih =>
    unfold putAll
    obtain ⟨h1, h2⟩ := ih _ (put_up y out h)
    refine ⟨h1, fun x => ?_⟩
    rw [h2, mem_put, List.mem_cons]
    constructor
    · rintro ((h | h) | h)
      · exact .inr (.inl h)
      · exact .inl h
      · exact .inr (.inr h)
    · rintro (h | h | h)
      · exact .inl (.inr h)
      · exact .inl (.inl h)
      · exact .inr h
/-- All values of some facts. -/
def valsOf (fs : List Fct) : List Int := fs.flatMap fun f => f.2
theorem nulSeq_append (a b : List Int) : nulSeq (a ++ b) = nulSeq a ++ nulSeq b := by simp [nulSeq]
theorem nulsIFrom_up (fs : List Fct) (out : List Int) (h : out.Pairwise (· < ·)) : (nulsIFrom out fs).Pairwise (· < ·) ∧ ∀ x, x ∈ nulsIFrom out fs ↔ x ∈ out ∨ x ∈ nulSeq (valsOf fs) := by
  induction fs generalizing out with
  | nil => exact ⟨h, fun x => by simp [nulsIFrom, valsOf, nulSeq]⟩
  | cons f fs ih =>
    unfold nulsIFrom
    obtain ⟨p1, p2⟩ := putAll_up (nuls f.2) out h
    obtain ⟨h1, h2⟩ := ih _ p1
    obtain ⟨_, q2⟩ := nulsFrom_up f.2 [] (by simp)
    refine ⟨h1, fun x => ?_⟩
    have e : valsOf (f :: fs) = f.2 ++ valsOf fs := rfl
    rw [h2, p2, e, nulSeq_append, List.mem_append]
    have q3 := q2 x
    simp only [List.not_mem_nil, false_or] at q3
    unfold nuls
    rw [q3]
    exact or_assoc
theorem nulsI_sort (fs : List Fct) : sortU (nulSeq (valsOf fs)) = nulsI fs := by
  obtain ⟨h1, h2⟩ := nulsIFrom_up fs [] (by simp)
  obtain ⟨h3, h4⟩ := sortU_up (nulSeq (valsOf fs))
  exact up_ext _ _ h3 h1 fun x => by rw [h4]; unfold nulsI; rw [h2]; simp
theorem nulSeq_ok (vs : List Int) : (∀ x ∈ nulSeq vs, 0 ≤ x ∧ x ≤ 39) ∧ (nulSeq vs).length ≤ vs.length := by
  refine ⟨fun x hx => ?_, ?_⟩
  · obtain ⟨v, _, rfl⟩ := List.mem_map.1 hx
    exact nulNum_bd v
  · unfold nulSeq; rw [List.length_map]; exact List.length_filter_le _ _
end Go.Proofs.Ytngjhblbpapjeaa.H
/- Walks: the program's own nulls; the library's sorting over its shelf. No condition. -/
namespace Go.Proofs.Ytngjhblbpapjeaa.H
open Go Go.RowKit Go.Proofs.YtngjhblbpapjeaaW.PrintWords Go.Proofs.YtngjhblbpapjeaaW.PrintLast
open Go.Proofs.Ytngjhblbpapjeaa.Reg (On on_draw)
set_option maxHeartbeats 1000000
set_option maxRecDepth 100000
set_option linter.unusedVariables false
set_option linter.unusedSimpArgs false

theorem own_setCells {base g n cap : Nat} {e : TypeId} : ∀ (ys : List Value) (i : Nat) (xs : List Value) (W : World), W.ownsRow base e 1 (.slice (some ⟨g, 0, none⟩) n cap) n xs → i + ys.length ≤ n →
    (W.setCells g i ys).ownsRow base e 1 (.slice (some ⟨g, 0, none⟩) n cap) n (xs.take i ++ ys ++ xs.drop (i + ys.length)) ∧ W.grownBy (W.setCells g i ys) (some g)
  | [], i, xs, W, h, _ => ⟨by simpa [World.setCells] using h, World.grownBy.refl W _⟩
  | y :: ys, i, xs, W, h, hl => by
    have hx : xs.length = n := by have := h.1; omega
    simp only [List.length_cons] at hl
    obtain ⟨h1, g1⟩ := h.stored i y
    obtain ⟨h2, g2⟩ := own_setCells ys (i + 1) _ _ h1 (by omega)
    refine ⟨?_, World.grownBy.trans g1 g2⟩
    have e : (xs.set i y).take (i + 1) ++ ys ++ (xs.set i y).drop (i + 1 + ys.length) = xs.take i ++ (y :: ys) ++ xs.drop (i + (y :: ys).length) := by
      rw [List.take_succ_eq_append_getElem (by simp; omega), List.take_set_of_le (Nat.le_refl _), List.getElem_set_self, List.drop_set_of_lt (by omega)]
      rw [show i + 1 + ys.length = i + (y :: ys).length by simp; omega]
      simp
    rw [e] at h2
    exact h2
theorem own_holds {base g cap : Nat} {e : TypeId} {w : World} {zs : List Int} (h : w.ownsRow base e 1 (.slice (some ⟨g, 0, none⟩) zs.length cap) zs.length (encs (Value.int .i64) zs)) : Go.Sort.Holds (Value.int .i64) w g 0 zs.toArray := by
  intro j hj
  have hj' : j < zs.length := by simpa using hj
  constructor
  · have hc := h.cells (g := g) rfl j (.int .i64 zs[j]) (by simp [encs, List.getElem?_eq_getElem hj'])
    rw [add_plain] at hc
    rw [Nat.zero_add, hc]
    simp [hj']
  · rcases h.2 with ⟨h', _⟩ | ⟨g', cap', cur, h', _, hh, _⟩
    · cases h'
    · have : g = g' := by injection h' with h'; injection h' with h'; injection h' with h'
      subst this
      simp [World.frozen?, hh]
theorem own_row {base g cap : Nat} {e : TypeId} {w : World} {zs ys : List Int} (q : Nat) (h : w.ownsRow base e 1 (.slice (some ⟨g, 0, none⟩) zs.length cap) zs.length (encs (Value.int .i64) zs)) (hl : ys.length = zs.length) :
    (Go.Sort.putRow (Value.int .i64) (Go.Sort.ahead w q) g 0 ys.toArray).ownsRow base e 1 (.slice (some ⟨g, 0, none⟩) zs.length cap) zs.length (encs (Value.int .i64) ys) ∧ w.grownBy (Go.Sort.putRow (Value.int .i64) (Go.Sort.ahead w q) g 0 ys.toArray) (some g) := by
  rw [Go.Lib.putRow_eq_setCells _ w g 0 zs.toArray ys q (own_holds h) (by simpa using hl)]
  have h1 : (w.drewN q).ownsRow base e 1 (.slice (some ⟨g, 0, none⟩) zs.length cap) zs.length (encs (Value.int .i64) zs) := own_move h (fun _ _ => rfl)
  obtain ⟨h2, g2⟩ := own_setCells (ys.map (Value.int .i64)) 0 _ _ h1 (by simp; omega)
  have e : (encs (Value.int .i64) zs).take 0 ++ ys.map (Value.int .i64) ++ (encs (Value.int .i64) zs).drop (0 + (ys.map (Value.int .i64)).length) = encs (Value.int .i64) ys := by
    rw [List.drop_of_length_le (by simp [encs]; omega)]
    simp [encs]
  rw [e] at h2
  exact ⟨h2, ⟨g2.os, g2.tape, g2.output, g2.size, g2.block⟩⟩
theorem grownBy_grow {w w1 : World} {row : Option Nat} (h : w.grownBy w1 row) (os : Array Obj) : w.grownBy (Go.Sort.grow w1 os) row := by
  refine ⟨h.os, h.tape, h.output, by have := h.size; simp [Go.Sort.grow]; omega, fun k hk hr => ?_⟩
  have hs := h.size
  show (w1.heap ++ os)[k]? = _
  rw [Array.getElem?_append_left (by omega)]
  exact h.block k hk hr
theorem own_grow {w : World} {base : Nat} {e : TypeId} {size n : Nat} {v : Value} {xs : List Value} (h : w.ownsRow base e size v n xs) (os : Array Obj) : (Go.Sort.grow w os).ownsRow base e size v n xs := by
  refine own_move h fun k hk => ?_
  have := own_lt h k hk
  show (w.heap ++ os)[k]? = _
  rw [Array.getElem?_append_left (by omega)]
theorem own_cut1 {base g cap n : Nat} {e : TypeId} {w : World} {xs : List Value} (h : w.ownsRow base e 1 (.slice (some ⟨g, 0, none⟩) n cap) n xs) (m : Nat) (hm : m ≤ n) : w.ownsRow base e 1 (.slice (some ⟨g, 0, none⟩) m cap) m (xs.take m) := by
  have hx : xs.length = n := by have := h.1; omega
  rcases h.2 with ⟨h', _⟩ | ⟨g', cap', cur, h', hg, hh, hnc, hcm, hcs, htk⟩
  · cases h'
  · injection h' with h1 h2 h3
    injection h1 with h1
    injection h1 with h1
    subst h1 h3
    refine ⟨by rw [List.length_take]; omega, .inr ⟨g, cap, cur, rfl, hg, hh, by omega, hcm, hcs, ?_⟩⟩
    rw [← htk, List.take_take]
    congr 1
    omega
theorem Ex.trans' {S : Nat → Prop} {a b c : World} (h : Ex S a b) (k : Ex S b c) : Ex S a c := h.trans k fun _ _ h => h
theorem sortI_calls (w : World) (lo : Nat) (v : Value) (xs : List Int) (h : OI w lo v xs) (hl : xs.length < 1099511627776) : Calls Try.prog 103 #[v] w fun e w' => e = .returned (.tuple #[]) ∧ OI w' lo v (xs.mergeSort fun x y => decide (x ≤ y)) ∧ Ex (fun b => some b = v.ownBlock) w w' := by
  have hown : w.ownsRow lo 3 1 v xs.length (encs (Value.int .i64) xs) := by rw [encs_flat]; exact h
  rcases hown.2 with ⟨rfl, hn⟩ | ⟨g, cap, cur, rfl, hg, hh, hr⟩
  · obtain rfl : xs = [] := List.eq_nil_of_length_eq_zero hn
    refine (Try.slices_Sort_int_none none 0 w).mono fun e w' ⟨he, hw⟩ => ?_
    subst hw
    exact ⟨he, by simpa using h, Ex.refl _ _⟩
  · have hlt : g < w.heap.size := own_lt hown g rfl
    refine (Try.slices_Sort_int g 0 cap xs w (own_holds hown) hlt (by omega)).mono fun e w' ⟨he, n, os, hw⟩ => ?_
    obtain ⟨h1, g1⟩ := own_row (ys := xs.mergeSort fun x y => decide (x ≤ y)) n hown (by simp)
    have h2 := own_grow h1 os
    have g2 := grownBy_grow g1 os
    rw [← hw] at h2 g2
    refine ⟨he, ?_, Ex.of_grown g2⟩
    show World.ownsRow _ _ _ _ _ (xs.mergeSort fun x y => decide (x ≤ y)).length _
    rw [← encs_flat, List.length_mergeSort]
    exact h2
theorem compactI_calls (w : World) (lo : Nat) (v : Value) (xs : List Int) (h : OI w lo v xs) (hl : xs.length < 1099511627776) : Calls Try.prog 104 #[v] w (Got fun v1 w' => OI w' lo v1 (Go.Lib.compact xs) ∧ Ex (fun b => some b = v.ownBlock) w w') := by
  have hown : w.ownsRow lo 3 1 v xs.length (encs (Value.int .i64) xs) := by rw [encs_flat]; exact h
  rcases hown.2 with ⟨rfl, hn⟩ | ⟨g, cap, cur, rfl, hg, hh, hnc, hr⟩
  · obtain rfl : xs = [] := List.eq_nil_of_length_eq_zero hn
    refine (Try.slices_Compact_int_empty none 0 w).mono fun e w' ⟨he, hw⟩ => ?_
    subst hw
    exact ⟨_, he, by simpa [Go.Lib.compact, Go.Lib.compactUpTo] using h, Ex.refl _ _⟩
  · have hle := Go.Lib.compact_length_le xs
    refine (Try.slices_Compact_int g 0 cap xs w (own_holds hown) (by omega) hnc).mono fun e w' ⟨he, n, hw⟩ => ?_
    obtain ⟨h1, g1⟩ := own_row (ys := Go.Lib.compact xs ++ List.replicate (xs.length - (Go.Lib.compact xs).length) 0) n hown (by simp; omega)
    have h2 := own_cut1 h1 (Go.Lib.compact xs).length hle
    have e2 : (encs (Value.int .i64) (Go.Lib.compact xs ++ List.replicate (xs.length - (Go.Lib.compact xs).length) 0)).take (Go.Lib.compact xs).length = encs (Value.int .i64) (Go.Lib.compact xs) := by
      simp [encs]
    rw [e2] at h2
    rw [← hw] at h2 g1
    rw [encs_flat] at h2
    exact ⟨_, he, h2, Ex.of_grown g1⟩
theorem nullsOf_calls (w : World) (A c) (vs : List Int) (h : Ints w A c vs) (hl : vs.length ≤ 1000000000) : Calls Try.prog 60 #[.slice A vs.length c] w (Got fun v' w' => OI w' w.heap.size v' (sortU (nulSeq vs)) ∧ On w w') := by
  go_enter Try.func60, Try.ntmps60
  go_wp2
  go_loopw [3, 11] (fun v3 v11 wr => ∃ k : Nat, k ≤ vs.length ∧ v11 = .int .i64 k ∧ Aside0 (OInts wr w.heap.size v3 (nulSeq (vs.take k))) ∧ On w wr) (fun _ v11 _ => vs.length - (intOf v11).toNat)
  case atStart => exact ⟨0, Nat.zero_le _, rfl, ⟨own0' (by simp) (by simp)⟩, On.alloc (On.refl _) _⟩
  case round =>
    obtain ⟨k, hk, rfl, hO, hB⟩ := hrel
    by_cases hlt : k < vs.length
    · obtain ⟨ad, rfl, hx⟩ := (h.on hB).at k hlt
      have hbd := h.bd k hlt
      have hseq := Aside0.mk (show nulSeq (vs.take (k + 1)) = nulSeq (vs.take k) ++ (if isNul vs[k] then [nulNum vs[k]] else []) by rw [List.take_succ_eq_append_getElem hlt, nulSeq_append, nulSeq_cons]; split <;> rfl)
      have hlq := Aside0.mk (show (nulSeq (vs.take k)).length ≤ k by have := (nulSeq_ok (vs.take k)).2; rw [List.length_take] at this; omega)
      cases hn : isNul vs[k] with
      | false =>
        have hn' := Aside0.mk hn
        clear hn
        go_wp2_with (go_at_call 102; refine (iNullNumber_calls _ _ hbd).mono ?_; rintro e w2 ⟨rfl, hb2⟩; rw [hn'.out])
        exact ⟨⟨k + 1, by omega, by go_num, ⟨by rw [hseq.out, hn'.out]; simpa using OInts.on hO.out hb2⟩, hB.trans hb2⟩, by simp [intOf]; omega⟩
      | true =>
        have hn' := Aside0.mk hn
        clear hn
        go_wp2_with (first | (go_at_call 102; refine (iNullNumber_calls _ _ hbd).mono ?_; rintro e w2 ⟨rfl, hb2⟩; rw [hn'.out]) | (refine gate 24 ?_))
        have hBA := (hB.trans hb2).trans (On.alloc (On.refl w2) (.cells #[.int .i64 (nulNum vs[k])] 3))
        have hOA := OInts.on hO.out (hb2.trans (On.alloc (On.refl w2) (.cells #[.int .i64 (nulNum vs[k])] 3)))
        obtain ⟨ys, hys⟩ : ∃ ys, nulSeq (vs.take k) ++ [nulNum vs[k]] = ys := ⟨_, rfl⟩
        have hys' := Aside0.mk hys
        have hl2 : (nulSeq (vs.take k)).length + 1 ≤ 10000000000 := by have := hlq.out; omega
        refine ⟨apI 24 hys hOA (Kd.R_reads' (own1 w2 (nulNum vs[k]))).2.2 hBA.size hl2 fun v3 w3 hO3 hg3 hat3 => ?_⟩
        clear hys
        have hB3 := grown_own hBA hOA hg3 (Nat.le_refl _)
        clear hl2 hat3
        go_wp2
        exact ⟨⟨k + 1, by omega, by go_num, ⟨by rw [hseq.out, hn'.out, if_pos rfl, hys'.out]; exact hO3⟩, hB3⟩, by simp [intOf]; omega⟩
    · have e1 : vs.take k = vs := List.take_of_length_le (by omega)
      rw [e1] at hO
      have hlq := (nulSeq_ok vs).2
      go_wp2_with (first | (go_at_call 103; refine (sortI_calls wr w.heap.size _ (nulSeq vs) (OI.of hO.out) (by omega)).mono ?_; rintro e w2 ⟨rfl, hO2, hE2⟩; have hO3 := Aside0.mk hO2; clear hO2) | (go_at_call 104; refine (compactI_calls w2 w.heap.size _ _ hO3.out (by rw [List.length_mergeSort]; omega)).mono ?_; rintro e w3 ⟨v3, rfl, hO4, hE4⟩))
      go_ret
      exact ⟨_, rfl, hO4, Ex.on (Ex.on hB hE2 (fun i e => own_base (OI.of hO.out) i e.symm)) hE4 (fun i e => own_base (OI.of hO.out) i e.symm)⟩
theorem iNullsOfFact_calls (w : World) (A c) (r : Int) (vs : List Int) (h : Ints w A c vs) (hl : vs.length ≤ 1000000000) : Calls Try.prog 110 #[.agg #[.int .i64 r, .slice A vs.length c]] w (Got fun v' w' => OI w' w.heap.size v' (nuls vs) ∧ On w w') := by
  have hb := Aside0.mk (On.alloc (On.refl w) (.cells #[.int .i64 r, .slice A vs.length c] 55))
  go_enter Try.func110, Try.ntmps110
  go_wp2_with (go_at_call 60; refine (nullsOf_calls _ A c vs (h.on hb.out) hl).mono ?_; rintro e w2 ⟨v, rfl, hO, hb2⟩; have hO' := Aside0.mk hO; clear hO)
  go_ret
  exact ⟨_, rfl, by rw [← nuls_sort]; exact own_lower hO'.out hb.out.size, hb.out.trans hb2⟩
theorem valsOf_take (fs : List Fct) (k : Nat) (h : k < fs.length) : valsOf (fs.take (k + 1)) = valsOf (fs.take k) ++ fs[k].2 := by
  unfold valsOf; rw [List.take_succ_eq_append_getElem h, List.flatMap_append]; simp
theorem valsOf_inR {fs : List Fct} (h : InF fs) : InR (valsOf fs) := fun x hx => by
  obtain ⟨f, hf, hx⟩ := List.mem_flatMap.1 hx
  exact h f hf x hx
theorem valsOf_len (fs : List Fct) : (valsOf fs).length ≤ wF fs := by
  unfold valsOf wF
  induction fs with
  | nil => simp
  | cons f fs ih => simp at ih ⊢; omega
theorem iNullsOfInstance_calls (w : World) (A0 n0 c0 A1 c1) (fs : List Fct) (h1 : Fcts w A1 c1 fs) (hl : wF fs ≤ 10000000) : Calls Try.prog 15 #[.agg #[.slice A0 n0 c0, .slice A1 fs.length c1]] w (Got fun v' w' => OI w' w.heap.size v' (nulsI fs) ∧ On w w') := by
  have hmax : fs.length ≤ 10000000 := by have := wF_len fs; omega
  go_enter Try.func15, Try.ntmps15
  go_wp2
  go_loopw [3, 10] (fun v3 v10 wr => ∃ k : Nat, k ≤ fs.length ∧ v10 = .int .i64 k ∧ Aside0 (OInts wr w.heap.size v3 (valsOf (fs.take k))) ∧ On w wr) (fun _ v10 _ => fs.length - (intOf v10).toNat)
  case atStart => exact ⟨0, Nat.zero_le _, rfl, ⟨own0' (by simp) (by simp)⟩, On.alloc (On.alloc (On.refl _) _) _⟩
  case round =>
    obtain ⟨k, hk, rfl, hO, hB⟩ := hrel
    by_cases hlt : k < fs.length
    · obtain ⟨ad, A3, c3, rfl, hx0, hx1, hx2'⟩ := (h1.on hB).at k hlt
      have hvt := Aside0.mk (valsOf_take fs k hlt)
      have hlv := Aside0.mk (show (valsOf (fs.take k)).length + fs[k].2.length ≤ 10000000000 by
        have h3 := valsOf_len (fs.take (k + 1)); rw [hvt.out, List.length_append] at h3
        have h4 := cF_take_le (lens fs) (k + 1); rw [cF_lens, ← List.map_take] at h4
        have h5 := cF_lens (fs.take (k + 1)); simp only [lens] at h5; omega)
      have hfill := alloc_fill wr
      have hcn := blk_cell (loc_new wr #[.int .i64 fs[k].1, .slice A3 fs[k].2.length c3] 55)
      have hbx := Aside0.mk (On.alloc (On.refl wr) (.cells #[.int .i64 fs[k].1, .slice A3 fs[k].2.length c3] 55))
      go_wp2_with (refine gate 17 ?_)
      obtain ⟨ys, hys⟩ : ∃ ys, valsOf (fs.take k) ++ fs[k].2 = ys := ⟨_, rfl⟩
      have hys' := Aside0.mk hys
      have hOA := OInts.on hO.out hbx.out
      have hBA := hB.trans hbx.out
      refine ⟨apI 17 hys hOA (hx2'.on hbx.out).2.1 hBA.size hlv.out fun v3 w3 hO3 hg3 hat3 => ?_⟩
      clear hys
      have hB3 := grown_own hBA hOA hg3 (Nat.le_refl _)
      clear hat3 hfill hcn
      go_wp2
      exact ⟨⟨k + 1, by omega, by go_num, ⟨by rw [hvt.out, hys'.out]; exact hO3⟩, hB3⟩, by simp [intOf]; omega⟩
    · have e1 : fs.take k = fs := List.take_of_length_le (by omega)
      rw [e1] at hO
      have hvl := valsOf_len fs
      have hOI := Aside0.mk (OI.of hO.out)
      obtain ⟨A5, c5, rfl, hI5⟩ := OInts.slice hO.out (valsOf_inR h1.2.2)
      go_wp2_with (go_at_call 60; refine (nullsOf_calls wr A5 c5 (valsOf fs) hI5 (by omega)).mono ?_; rintro e w2 ⟨v, rfl, hO2, hb2⟩)
      go_ret
      exact ⟨_, rfl, by rw [← nulsI_sort]; exact own_lower hO2 hB.size, hB.trans hb2⟩
end Go.Proofs.Ytngjhblbpapjeaa.H
/- Walks: a map's keys, sorted. No condition. -/
namespace Go.Proofs.Ytngjhblbpapjeaa.H
open Go Go.RowKit Go.Shelf Go.Maps Go.Sort Go.Proofs.YtngjhblbpapjeaaW.PrintWords
open Go.Proofs.Ytngjhblbpapjeaa.Reg (On on_draw)
set_option maxHeartbeats 1000000
set_option maxRecDepth 100000

theorem keysOf_calls (w : World) (b : Nat) : Calls Try.prog 152 #[.map (some b)] w fun e w' => e = .returned (.func (.func 174) #[] #[.pointer (some ⟨w.heap.size, 0, none⟩)]) ∧ w' = w.alloc (.cells #[.map (some b)] 126) :=
  (callsIn_wide (n := 5)).1 (AnyZI.keys_in laysKeys Fence.wide 5 trivial rfl (some b) w)
theorem sortsK (m : Nat) : AnyZI.SortsIn Try.prog keysRen Fence.wide m :=
  ⟨fun blk off cap ss W hH hblk hsz => callsIn_wide.2 (Try.slices_Sort_int blk off cap ss W hH hblk hsz),
   fun p cap W => callsIn_wide.2 (Try.slices_Sort_int_none p cap W)⟩
theorem sortedKeys_calls (w : World) (b n : Nat) (D : DataW Unit) (hown : w.ownsMap Try.prog 3 plE b n D) (hmax : Maps.size D ≤ 1000000) :
    Calls Try.prog 151 #[.func (.func 174) #[] #[.pointer (some ⟨w.heap.size, 0, none⟩)]] (w.alloc (.cells #[.map (some b)] 126)) fun e w' => ∃ (v : Value) (ss : List Int), e = .returned v ∧ ss.Perm (intKeys D) ∧
      w'.ownsRow (w.alloc (.cells #[.map (some b)] 126)).heap.size 3 1 v ss.length ((ss.mergeSort (fun x y => decide (x ≤ y))).map encZ) ∧ On (w.alloc (.cells #[.map (some b)] 126)) w' := by
  have hbl := hown.lt
  have hseq : SeqGives Fence.wide 2 Try.prog 174 #[.pointer (some ⟨w.heap.size, 0, none⟩)] encZ (fun ss => ss.Perm (intKeys D)) (Maps.size D) (w.alloc (.cells #[.map (some b)] 126)) :=
    AnyZI.keys_gives (ρ := keysRen) { laysKeys with } Fence.wide _ trivial rfl (by omega) w.heap.size b n D _ (by simp) (by simp) (by
      obtain ⟨es, clock, hb, Ft, hs, hD⟩ := hown
      exact ⟨es, clock, (Below.heap_alloc _ _ b hbl).trans hb, Ft, hs, hD⟩)
  have cS := AnyZI.sorted_in laysSorted Fence.wide 5 trivial trivial trivial trivial rfl (by omega) (sortsK _) (enters_of Try.func103 (by kernel_rfl) rfl) 174 #[.pointer (some ⟨w.heap.size, 0, none⟩)] trivial (enters_of Try.func174 (by kernel_rfl) rfl) _ _ (by simp [maxLen]; omega) (by omega) _ hseq
  exact ((callsIn_wide (n := 5)).1 cS).mono fun e w' ⟨v, ss, h1, h2, h3, _, h5⟩ => ⟨v, ss, h1, h2, h3, h5⟩
end Go.Proofs.Ytngjhblbpapjeaa.H
/- The keys of a binding, sorted: the nulls that the substitution names. Plain. No condition. -/
namespace Go.Proofs.Ytngjhblbpapjeaa.H
open Go Go.RowKit Go.Shelf Go.Maps Go.Sort Go.Proofs.YtngjhblbpapjeaaW.PrintWords
set_option maxHeartbeats 1000000

theorem subI_mem : ∀ (l : List Int) (k : Nat) (x : Int), x ∈ (subI k l).1 ↔ ∃ j : Nat, j < l.length ∧ l.getD j 10 ≠ 10 ∧ x = ((k + j : Nat) : Int)
  | [], k, x => by simp [subI]
  | v :: l, k, x => by
    have ih := subI_mem l (k + 1) x
    rw [subI_cons]
    constructor
    · intro h
      split at h
      · obtain ⟨j, h1, h2, h3⟩ := ih.1 h
        exact ⟨j + 1, by simp; omega, by simpa using h2, by rw [h3]; omega⟩
      · rename_i hv
        rcases List.mem_cons.1 h with rfl | h
        · exact ⟨0, by simp, by simpa using hv, by simp⟩
        · obtain ⟨j, h1, h2, h3⟩ := ih.1 h
          exact ⟨j + 1, by simp; omega, by simpa using h2, by rw [h3]; omega⟩
    · rintro ⟨j, h1, h2, h3⟩
      cases j with
      | zero =>
        have hv : v ≠ 10 := by simpa using h2
        rw [if_neg hv]
        exact List.mem_cons.2 (.inl (by rw [h3]; rfl))
      | succ j =>
        have h4 := ih.2 ⟨j, by simp at h1; omega, by simpa using h2, by rw [h3]; omega⟩
        split
        · exact h4
        · exact List.mem_cons_of_mem _ h4
theorem subI_up : ∀ (l : List Int) (k : Nat), (subI k l).1.Pairwise (· < ·)
  | [], k => by simp [subI]
  | v :: l, k => by
    rw [subI_cons]
    split
    · exact subI_up l (k + 1)
    · refine List.pairwise_cons.2 ⟨fun x hx => ?_, subI_up l (k + 1)⟩
      obtain ⟨j, _, _, e⟩ := (subI_mem l (k + 1) x).1 hx
      omega
theorem keys_sorted {w : World} {b n : Nat} {z : List Int} {D : DataW Unit} {ss : List Int} (hown : w.ownsMap Try.prog 3 plE b n D) (hz : z.length = 40)
    (h3 : ∀ k : Nat, k < 40 → Maps.has D (kl k) = decide (z.getD k 10 ≠ 10)) (h4 : ∀ k : Int, Maps.has D (kl k) = true → 0 ≤ k ∧ k < 40) (hp : ss.Perm (intKeys D)) :
    ss.mergeSort (fun x y => decide (x ≤ y)) = (subI 0 z).1 := by
  have hu := subI_up z 0
  have hc : CollectedI D (fun _ => false) (subI 0 z).1 := by
    refine ⟨hu.imp (fun {a b} h e => by omega), fun x => ?_⟩
    rw [subI_mem]
    constructor
    · rintro ⟨j, h1, h2, rfl⟩
      refine ⟨?_, rfl⟩
      have := h3 j (by omega)
      rw [Nat.zero_add]
      exact this.trans (decide_eq_true h2)
    · rintro ⟨h, _⟩
      obtain ⟨e1, e2⟩ := h4 x h
      refine ⟨x.toNat, by omega, ?_, by omega⟩
      have h5 := h3 x.toNat (by omega)
      rw [show ((x.toNat : Nat) : Int) = x by omega] at h5
      rw [show Maps.has D (kl x) = true from h] at h5
      exact of_decide_eq_true h5.symm
  have hq : (ss.mergeSort (fun x y => decide (x ≤ y))).Perm (subI 0 z).1 := (List.mergeSort_perm _ _).trans (hp.trans (hc.perm hown keyed Try.underlying3 (fun _ => rfl)).symm)
  have hs : (ss.mergeSort fun x y : Int => decide (x ≤ y)).Pairwise (fun x y => decide (x ≤ y) = true) := List.pairwise_mergeSort (fun a b c h1 h2 => by simp at *; omega) (fun a b => by simp; omega) ss
  have hs2 : (subI 0 z).1.Pairwise (fun x y => decide (x ≤ y) = true) := hu.imp (fun {a b} h => by simp; omega)
  exact hq.eq_of_pairwise (fun a b _ _ h1 h2 => by simp at h1 h2; omega) hs hs2
section
variable {ops : Array Oper} {rest : List Oper} {o : Oper} {a : Act} {Q : Exit → Act → World → Prop} {W : World} {b n : Nat} {z : List Int}
/-- A look-up of what is there. -/
theorem bmLook (N : Tmp) {m x : Operand} (h : BM W b n z) (k : Nat) (hk : k < 40) (h10 : z.getD k 10 ≠ 10) (K : wpList Try.prog ops Q rest (a.put (some N) (.int .i64 (z.getD k 10))) W)
    (hop : o.op = Op.lookup 126 m x false := by rfl) (hd : o.dst = some N := by rfl) (hg : o.guard = none := by rfl) (hm : a.eval m = .map (some b) := by rfl) (hx : a.eval x = .int .i64 (k : Int) := by rfl) : wpList Try.prog ops Q (o :: rest) a W := by
  obtain ⟨D, h1, h2, h3, h4⟩ := h.out
  refine wpList_lookup_own_int W hg m x 126 hop 3 3 .i64 keyed Try.underlying126 Try.underlying3 (Try.zeroValue3 W) b n D hm h1 _ (kl k) hx (key_lit (by omega)) fun c hc hw => ?_
  rw [hd]
  have e := (h3 k hk).2 h10 (.lit (.int .i64 0))
  rw [hc] at e
  injection e with e
  injection e with _ e
  subst e
  exact K
end
end Go.Proofs.Ytngjhblbpapjeaa.H
/- What the program's search keeps between its visits. No condition. -/
namespace Go.Proofs.Ytngjhblbpapjeaa.H
open Go Go.RowKit Go.Proofs.YtngjhblbpapjeaaW.PrintWords Go.Proofs.YtngjhblbpapjeaaW.PrintLast
open Go.Proofs.Ytngjhblbpapjeaa.Reg (On on_draw)
set_option maxHeartbeats 4000000
set_option maxRecDepth 100000
set_option linter.unusedVariables false
set_option linter.unusedSimpArgs false

theorem subI_get : ∀ (l : List Int) (k i : Nat), i < (subI k l).1.length → ∃ j, j < l.length ∧ (subI k l).1[i]? = some ((k + j : Nat) : Int) ∧ l.getD j 10 ≠ 10 ∧ (subI k l).2[i]? = some (l.getD j 10)
  | [], k, i, h => by simp [subI] at h
  | v :: l, k, i, h => by
    rw [subI_cons] at h ⊢
    by_cases hv : v = 10
    · rw [if_pos hv] at h ⊢
      obtain ⟨j, h1, h2, h3, h4⟩ := subI_get l (k + 1) i h
      exact ⟨j + 1, by simp; omega, by rw [h2, show k + 1 + j = k + (j + 1) by omega], by simpa using h3, by simpa using h4⟩
    · rw [if_neg hv] at h ⊢
      cases i with
      | zero => exact ⟨0, by simp, by simp, by simpa using hv, by simp⟩
      | succ i =>
        obtain ⟨j, h1, h2, h3, h4⟩ := subI_get l (k + 1) i (by simpa using h)
        exact ⟨j + 1, by simp; omega, by simp only [List.getElem?_cons_succ]; rw [h2, show k + 1 + j = k + (j + 1) by omega], by simpa using h3, by simpa using h4⟩
/-- Worlds that differ in the box b and in the block of the row v alone; the row is v' now. -/
structure Fr (b : Nat) (v v' : Value) (w w' : World) : Prop where
  ex : Ex (fun k => k = b ∨ some k = v.ownBlock) w w'
  hat : v'.ownBlock = v.ownBlock ∨ ∃ k, v'.ownBlock = some k ∧ w.heap.size ≤ k
theorem Fr.of_on {b : Nat} {v : Value} {w w' : World} (h : On w w') : Fr b v v w w' := ⟨Ex.of_on h, .inl rfl⟩
theorem Fr.trans {b : Nat} {v v1 v2 : Value} {w w1 w2 : World} (h : Fr b v v1 w w1) (k : Fr b v1 v2 w1 w2) : Fr b v v2 w w2 := by
  refine ⟨h.ex.trans k.ex fun i hi hS => ?_, ?_⟩
  · rcases hS with hS | hS
    · exact .inl hS
    · rcases h.hat with e | ⟨j, e, hj⟩
      · exact .inr (hS.trans e)
      · rw [e] at hS
        injection hS with hS
        omega
  · rcases k.hat with e | ⟨j, e, hj⟩
    · rw [e]; exact h.hat
    · exact .inr ⟨j, e, Nat.le_trans h.ex.size hj⟩
theorem BM.ex {S : Nat → Prop} {w w' : World} {m n : Nat} {z : List Int} (h : BM w m n z) (k : Ex S w w') (hS : ¬ S m) : BM w' m n z := by
  obtain ⟨D, ⟨es, clock, hb, F, hs, hD⟩, h2⟩ := h.out
  exact ⟨D, ⟨es, clock, blk_ex k hb hS, F, hs, hD⟩, h2⟩
theorem BM.fr {w w' : World} {m n b lo : Nat} {z : List Int} {v v' : Value} {hs : List SHd} {cs : Array Value} {t : TypeId} (h : BM w m n z) (k : Fr b v v' w w') (hO : OS w lo v hs) (hb : w.heap[b]? = some (.cells cs t (0, 0))) : BM w' m n z := by
  refine h.ex k.ex fun hS => ?_
  obtain ⟨D, ⟨es, clock, hm, _⟩, _⟩ := h.out
  rcases hS with rfl | hS
  · rw [hm] at hb; cases hb
  · obtain ⟨c, hc⟩ := own_typed hO m hS.symm
    rw [hm] at hc; cases hc
theorem SepS.fr {w w' : World} {lo b : Nat} {hs zs : List SHd} {ss : List Su} {v v' : Value} {cs : Array Value} (h : SepS w lo zs ss) (hO : OS w lo v hs) (hb : w.heap[b]? = some (.cells cs 71 (0, 0))) (hg : Fr b v v' w w') : SepS w' lo zs ss := by
  refine ⟨h.len, Sep.ex h.sep hg.ex (fun i a k ha hbk e => ?_)⟩
  have hi : i < (flF ss).length := by rw [← h.sep.len]; exact (List.getElem?_eq_some_iff.1 ha).1
  have hab := (h.sep.at_ i a _ ha (List.getElem?_eq_getElem hi)).2.1
  rcases e with rfl | e
  · exact blk_not_own hab hb (by decide) hbk.symm
  · exact own_ne_blk hab hO (by decide) hbk e.symm
/-- The row of what is kept, its box, the box of the bound. -/
structure KS (w0 w : World) (lo b b2 : Nat) (most : Int) (v : Value) (hs : List SHd) (ss : List Su) : Prop where
  on : On w0 w
  b0 : w0.heap.size ≤ b
  l0 : w0.heap.size ≤ lo
  ne : b2 ≠ b
  lw : lo ≤ w.heap.size
  own : OS w lo v hs
  sep : SepS w lo hs ss
  box : w.heap[b]? = some (.cells #[v] 71 (0, 0))
  box2 : w.heap[b2]? = some (.cells #[.int .i64 most] 3 (0, 0))
theorem KS.move {w0 w w' : World} {lo b b2 : Nat} {most : Int} {v : Value} {hs : List SHd} {ss : List Su} (h : KS w0 w lo b b2 most v hs ss) (k : On w w') : KS w0 w' lo b b2 most v hs ss :=
  ⟨h.on.trans k, h.b0, h.l0, h.ne, Nat.le_trans h.lw k.size, pw_own_below h.own k, h.sep.on k, blk_below h.box k, blk_below h.box2 k⟩
theorem visit_calls {w0 wB w : World} {lo b b2 : Nat} {most : Int} {v : Value} {hs : List SHd} {ss : List Su} {x y : Sli} {s : Su} (hK : KS w0 wB lo b b2 most v hs ss) (hb : On wB w) (hS : SepS w wB.heap.size [(x, y)] [s]) (hl : hs.length ≤ 1000) :
    Calls Try.prog 130 #[.agg #[slV x, slV y], .pointer (some ⟨b, 0, none⟩), .pointer (some ⟨b2, 0, none⟩)] w fun e w' => ∃ v' zs, zs.length = hs.length + 1 ∧ e = .returned (.bool ((zs.length : Int) == most)) ∧ KS w0 w' lo b b2 most v' zs (ss ++ [s]) ∧ Fr b v v' w w' := by
  have h := hK.move hb
  obtain ⟨A, c, rfl⟩ := own_slice hK.own
  refine (keep_calls w lo b b2 A c hs x y most h.own h.lw hl h.box h.box2 h.ne).mono fun e w' hh => ?_
  obtain ⟨A', c', zs, rfl, rfl, hO, hx, hE, hat⟩ := hh
  have hF : Fr b (.slice A hs.length c) (.slice A' (hs ++ [(x, y)]).length c') w w' := ⟨hE, hat⟩
  refine ⟨_, _, by simp, rfl, ⟨Ex.on h.on hE fun i hi => ?_, h.b0, h.l0, h.ne, Nat.le_trans h.lw hE.size, hO, ?_, hx, blk_ex hE h.box2 fun hi => ?_⟩, hF⟩
  · rcases hi with rfl | hi
    · exact h.b0
    · have := own_base h.own i hi.symm; have := h.l0; omega
  · exact (hK.sep.append hS hb hK.lw (Nat.le_refl _)).fr h.own h.box hF
  · rcases hi with e | e
    · exact h.ne e
    · exact blk_not_own h.own h.box2 (by decide) e
end Go.Proofs.Ytngjhblbpapjeaa.H
/- Walks: the program's own valid facts and their order. No condition. -/
namespace Go.Proofs.Ytngjhblbpapjeaa.H
open Go Go.RowKit Go.Proofs.YtngjhblbpapjeaaW.PrintWords Go.Proofs.YtngjhblbpapjeaaW.PrintLast
open Go.Proofs.Ytngjhblbpapjeaa.Reg (On on_draw)
set_option maxHeartbeats 1000000
set_option maxRecDepth 100000
set_option linter.unusedVariables false
set_option linter.unusedSimpArgs false

theorem badValue_calls (w : World) (v : Int) : Calls Try.prog 135 #[.int .i64 v] w fun e w' => e = .returned (.bool (!okVal v)) ∧ On w w' := by
  go_enter Try.func135, Try.ntmps135
  go_wp2_with (go_at_call 119; refine (iIsValidValue_calls _ _).mono ?_; rintro e w1 ⟨rfl, hb1⟩)
  go_ret
  exact ⟨rfl, hb1⟩
theorem IndexFuncV_calls (w : World) (A c) (vs : List Int) (h : Ints w A c vs) : Calls Try.prog 165 #[.slice A vs.length c, .func (.func 135) #[] #[]] w fun e w' => e = .returned (.int .i64 (idxFrom (fun v => !okVal v) vs 0)) ∧ On w w' := by
  have hmax := h.max
  go_enter Try.func165, Try.ntmps165
  go_wp2
  go_loopw [8] (fun v wr => ∃ k : Nat, k ≤ vs.length ∧ v = .int .i64 k ∧ Hid (idxFrom (fun v => !okVal v) (vs.drop k) k = idxFrom (fun v => !okVal v) vs 0) ∧ On w wr) (fun v _ => vs.length - (intOf v).toNat)
  case atStart => exact ⟨0, Nat.zero_le _, rfl, rfl, On.refl _⟩
  case round =>
    obtain ⟨k, hk, rfl, hp, hB⟩ := hrel
    by_cases hlt : k < vs.length
    · obtain ⟨ad, rfl, hx⟩ := (h.on hB).at k hlt
      have hst := Aside0.mk ((idxFrom_step (fun v => !okVal v) vs k hlt).symm.trans hp.out)
      clear hp
      cases hv : okVal vs[k] with
      | false =>
        have hv' := Aside0.mk hv
        clear hv
        go_wp2_with (go_at_call 135; refine (badValue_calls _ _).mono ?_; rintro e w3 ⟨rfl, hb3⟩; rw [hv'.out])
        go_ret
        exact ⟨ret_int (by have := hst.out; rw [hv'.out, if_pos (by rfl)] at this; exact this), hB.trans hb3⟩
      | true =>
        have hv' := Aside0.mk hv
        clear hv
        go_wp2_with (go_at_call 135; refine (badValue_calls _ _).mono ?_; rintro e w3 ⟨rfl, hb3⟩; rw [hv'.out])
        go_roundw
        case rel => exact ⟨k + 1, by omega, by go_num, (by have := hst.out; rwa [hv'.out, if_neg (by simp)] at this : _ = _), hB.trans hb3⟩
        case measure => simp [intOf]; omega
    · go_wp2
      go_ret
      exact ⟨ret_int (by rw [← hp.out, List.drop_of_length_le (by omega)]; rfl), hB⟩
theorem ContainsFuncV_calls (w : World) (A c) (vs : List Int) (h : Ints w A c vs) : Calls Try.prog 134 #[.slice A vs.length c, .func (.func 135) #[] #[]] w fun e w' => e = .returned (.bool (vs.any fun v => !okVal v)) ∧ On w w' := by
  go_enter Try.func134, Try.ntmps134
  go_wp2_with (go_at_call 165; refine (IndexFuncV_calls w A c vs h).mono ?_; rintro e w3 ⟨rfl, hb3⟩)
  go_ret
  exact ⟨ret_bool (idxFrom_any _ vs 0), hb3⟩
theorem iIsValidFact_calls (w : World) (A c) (rs : List Rel) (B d) (f : Fct) (h0 : Rels w A c rs) (h1 : Ints w B d f.2) : Calls Try.prog 108 #[.slice A rs.length c, .agg #[.int .i64 f.1, .slice B f.2.length d]] w fun e w' => e = .returned (.bool (okFact rs f)) ∧ On w w' := by
  have hm0 := h0.max
  have hm1 := h1.max
  have hw1 : IntKind.i64.wrap ((rs.length : Int) - 1) = (rs.length : Int) - 1 := IntWalk.i64_in _ (by omega)
  cases hr : okRels rs with
  | false =>
    have hr' := Aside0.mk hr
    clear hr
    go_enter Try.func108, Try.ntmps108
    go_wp2
    refine Reg.region [(0,.L),(1,.C),(2,.L),(3,.L),(4,.L),(5,.L),(6,.L),(7,.L),(8,.L),(9,.C),(10,.L),(11,.L),(12,.L),(13,.L),(14,.L),(15,.L),(16,.L),(17,.L),(18,.L),(19,.L),(20,.L),(21,.L),(22,.L),(23,.L)] [] (by kernel_rfl) (by kernel_rfl) ?_
    repeat first | refine sP ?_ | refine sS ?_ | refine sA ?_ | refine sL ?_ | refine sQ ?_ | refine sO ?_
    refine callC (.bool false) Try.func107 (fun w' hS => ?_) ?_
    focus exact (iAreValidRelations_calls w' A c rs (h0.on ((On.alloc (On.refl _) _).trans hS))).mono fun e w'' h => ⟨by rw [h.1, hr'.out], h.2⟩
    repeat first | refine sP ?_ | refine sS ?_ | refine sA ?_ | refine sL ?_ | refine sQ ?_ | refine sO ?_
    refine Reg.nil fun w2 hS => ?_
    go_wp2
    go_ret
    exact ⟨ret_bool (by simp [okFact, hr'.out]), (On.alloc (On.refl _) _).trans hS⟩
  | true =>
    have hr' := Aside0.mk hr
    clear hr
    cases hi : within f.1 0 ((rs.length : Int) - 1) with
    | false =>
      have hi' := Aside0.mk hi
      clear hi
      go_enter Try.func108, Try.ntmps108
      go_wp2
      refine Reg.region [(0,.L),(1,.C),(2,.L),(3,.L),(4,.L),(5,.L),(6,.L),(7,.L),(8,.L),(9,.C),(10,.L),(11,.L),(12,.L),(13,.L),(14,.L),(15,.L),(16,.L),(17,.L),(18,.L),(19,.L),(20,.L),(21,.L),(22,.L),(23,.L)] [] (by kernel_rfl) (by kernel_rfl) ?_
      repeat first | refine sP ?_ | refine sS ?_ | refine sA ?_ | refine sL ?_ | refine sQ ?_ | refine sO ?_
      refine callC (.bool true) Try.func107 (fun w' hS => ?_) ?_
      focus exact (iAreValidRelations_calls w' A c rs (h0.on ((On.alloc (On.refl _) _).trans hS))).mono fun e w'' h => ⟨by rw [h.1, hr'.out], h.2⟩
      repeat first | refine sP ?_ | refine sS ?_ | refine sA ?_ | refine sL ?_ | refine sQ ?_ | refine sO ?_
      refine callC (.bool false) Try.func118 (fun w' hS => ?_) ?_
      focus exact (within_calls w' _ _ _).mono fun e w'' h => ⟨by rw [h.1, hi'.out], h.2⟩
      repeat first | refine sP ?_ | refine sS ?_ | refine sA ?_ | refine sL ?_ | refine sQ ?_ | refine sO ?_
      refine Reg.nil fun w2 hS => ?_
      go_wp2
      go_ret
      exact ⟨ret_bool (by have := hi'.out; simp [within] at this; simp [okFact]; intros; omega), (On.alloc (On.refl _) _).trans hS⟩
    | true =>
      have hi' := Aside0.mk hi
      have hi2 : 0 ≤ f.1 ∧ f.1 ≤ (rs.length : Int) - 1 := by simpa [within] using hi
      clear hi
      rcases f with ⟨r, vs⟩
      obtain ⟨m, rfl⟩ : ∃ m : Nat, r = m := ⟨r.toNat, by omega⟩
      have hm : m < rs.length := by omega
      have har : arity rs (m : Int) = rs[m].2.1 := by simp [arity, hm]
      clear hi2
      dsimp only at *
      obtain ⟨ad, rfl, hx0, hx1, hx2⟩ := h0.at m hm
      have hbx := Aside0.mk (On.alloc (On.refl w) (.cells #[.int .i64 m, .slice B vs.length d] 55))
      have hx1' := (hbx.out.eq _ (by rw [hx1]; rfl)).trans hx1
      clear hx0 hx1 hx2
      cases hl : decide ((vs.length : Int) = rs[m].2.1) with
      | false =>
        have hl1 : ((vs.length : Int) == rs[m].2.1) = false := hl
        have hl2 : ((vs.length : Int) != rs[m].2.1) = true := by simp [bne, hl1]
        have hl' := Aside0.mk hl
        clear hl
        go_enter Try.func108, Try.ntmps108
        go_wp2
        refine Reg.region [(0,.L),(1,.C),(2,.L),(3,.L),(4,.L),(5,.L),(6,.L),(7,.L),(8,.L),(9,.C),(10,.L),(11,.L),(12,.L),(13,.L),(14,.L),(15,.L),(16,.L),(17,.L),(18,.L),(19,.L),(20,.L),(21,.L),(22,.L),(23,.L)] [] (by kernel_rfl) (by kernel_rfl) ?_
        repeat first | refine sP ?_ | refine sS ?_ | refine sA ?_ | refine sL ?_ | refine sQ ?_ | refine sO ?_
        refine callC (.bool true) Try.func107 (fun w' hS => ?_) ?_
        focus exact (iAreValidRelations_calls w' (some ad) c rs (h0.on (hbx.out.trans hS))).mono fun e w'' h => ⟨by rw [h.1, hr'.out], h.2⟩
        repeat first | refine sP ?_ | refine sS ?_ | refine sA ?_ | refine sL ?_ | refine sQ ?_ | refine sO ?_
        refine callC (.bool true) Try.func118 (fun w' hS => ?_) ?_
        focus exact (within_calls w' _ _ _).mono fun e w'' h => ⟨by rw [h.1, hi'.out], h.2⟩
        repeat first | refine sP ?_ | refine sS ?_ | refine sA ?_ | refine sL ?_ | refine sQ ?_ | refine sO ?_
        refine Reg.nil fun w2 hS => ?_
        go_wp2
        go_ret
        have e1 : decide ((vs.length : Int) = arity rs (m : Int)) = false := by rw [har]; exact hl'.out
        exact ⟨ret_bool (by symm; unfold okFact; dsimp only; rw [e1, Bool.and_false, Bool.false_and]), hbx.out.trans hS⟩
      | true =>
        have hl0 : (vs.length : Int) = rs[m].2.1 := of_decide_eq_true hl
        have hl1 : ((vs.length : Int) == rs[m].2.1) = true := by simpa using hl0
        have hl2 : ((vs.length : Int) != rs[m].2.1) = false := by simp [bne, hl1]
        have hl' := Aside0.mk hl
        clear hl hl0
        go_enter Try.func108, Try.ntmps108
        go_wp2
        refine Reg.region [(0,.L),(1,.C),(2,.L),(3,.L),(4,.L),(5,.L),(6,.L),(7,.L),(8,.L),(9,.C),(10,.L),(11,.L),(12,.L),(13,.L),(14,.L),(15,.L),(16,.L),(17,.L),(18,.L),(19,.L),(20,.L),(21,.L),(22,.L),(23,.L)] [] (by kernel_rfl) (by kernel_rfl) ?_
        repeat first | refine sP ?_ | refine sS ?_ | refine sA ?_ | refine sL ?_ | refine sQ ?_ | refine sO ?_
        refine callC (.bool true) Try.func107 (fun w' hS => ?_) ?_
        focus exact (iAreValidRelations_calls w' (some ad) c rs (h0.on (hbx.out.trans hS))).mono fun e w'' h => ⟨by rw [h.1, hr'.out], h.2⟩
        repeat first | refine sP ?_ | refine sS ?_ | refine sA ?_ | refine sL ?_ | refine sQ ?_ | refine sO ?_
        refine callC (.bool true) Try.func118 (fun w' hS => ?_) ?_
        focus exact (within_calls w' _ _ _).mono fun e w'' h => ⟨by rw [h.1, hi'.out], h.2⟩
        repeat first | refine sP ?_ | refine sS ?_ | refine sA ?_ | refine sL ?_ | refine sQ ?_ | refine sO ?_
        refine Reg.nil fun w2 hS => ?_
        clear hx1'
        have hL2 := Loc.on hS (loc1 w #[.int .i64 m, .slice B vs.length d] 55)
        have hc0 := blk_cell hL2.1
        have hB2 := Aside0.mk (hbx.out.trans hS)
        cases hv : vs.any (fun v => !okVal v) with
        | true =>
          have hv' := Aside0.mk hv
          clear hv
          go_wp2_with (go_at_call 134; refine (ContainsFuncV_calls w2 B d vs (h1.on hB2.out)).mono ?_; rintro e w3 ⟨rfl, hb3⟩; rw [hv'.out])
          go_ret
          exact ⟨ret_bool (by have : vs.all okVal = false := by have := hv'.out; rw [List.any_eq_not_all_not] at this; simpa using this
                              simp only [okFact, this, Bool.and_false]), hB2.out.trans hb3⟩
        | false =>
          have hv' := Aside0.mk hv
          clear hv
          go_wp2_with (go_at_call 134; refine (ContainsFuncV_calls w2 B d vs (h1.on hB2.out)).mono ?_; rintro e w3 ⟨rfl, hb3⟩; rw [hv'.out])
          go_ret
          exact ⟨ret_bool (by have : vs.all okVal = true := by have := hv'.out; rw [List.any_eq_not_all_not] at this; simpa using this
                              have hl3 := beq_iff_eq.1 hl1; simp [okFact, this, hr'.out, har, hm, hl3]), hB2.out.trans hb3⟩
theorem isNaN_calls (w : World) (v : Int) : Calls Try.prog 166 #[.int .i64 v] w fun e w' => e = .returned (.bool false) ∧ On w w' := by
  go_enter Try.func166, Try.ntmps166
  go_wp2
  go_ret
  exact ⟨by simp, On.refl _⟩
theorem cmpCompare_calls (w : World) (a b : Int) : Calls Try.prog 137 #[.int .i64 a, .int .i64 b] w fun e w' => e = .returned (.int .i64 (cmpI a b)) ∧ On w w' := by
  by_cases h1 : a < b
  · have h1b : decide (a < b) = true := decide_eq_true h1
    go_enter Try.func137, Try.ntmps137
    go_wp2_with (first | (go_at_call 166; refine (isNaN_calls w _).mono ?_; rintro e w1 ⟨rfl, hb1⟩) | (go_at_call 166; refine (isNaN_calls w1 _).mono ?_; rintro e w2 ⟨rfl, hb2⟩))
    go_ret
    exact ⟨ret_int (by unfold cmpI; rw [if_pos (of_decide_eq_true h1b)]), hb1.trans hb2⟩
  · have h1b : decide (a < b) = false := decide_eq_false h1
    by_cases h2 : b < a
    · have h2b : decide (b < a) = true := decide_eq_true h2
      go_enter Try.func137, Try.ntmps137
      go_wp2_with (first | (go_at_call 166; refine (isNaN_calls w _).mono ?_; rintro e w1 ⟨rfl, hb1⟩) | (go_at_call 166; refine (isNaN_calls w1 _).mono ?_; rintro e w2 ⟨rfl, hb2⟩))
      go_ret
      exact ⟨ret_int (by unfold cmpI; rw [if_neg (of_decide_eq_false h1b), if_pos (of_decide_eq_true h2b)]), hb1.trans hb2⟩
    · have h2b : decide (b < a) = false := decide_eq_false h2
      go_enter Try.func137, Try.ntmps137
      go_wp2_with (first | (go_at_call 166; refine (isNaN_calls w _).mono ?_; rintro e w1 ⟨rfl, hb1⟩) | (go_at_call 166; refine (isNaN_calls w1 _).mono ?_; rintro e w2 ⟨rfl, hb2⟩))
      go_ret
      exact ⟨ret_int (by unfold cmpI; rw [if_neg (of_decide_eq_false h1b), if_neg (of_decide_eq_false h2b)]), hb1.trans hb2⟩
theorem cmpI_bd (a b : Int) : -1 ≤ cmpI a b ∧ cmpI a b ≤ 1 := by unfold cmpI; split <;> (try split) <;> omega
theorem ints_nil (a : List Int) : ints a [] = if a = [] then 0 else 1 := by cases a <;> rfl
theorem ints_stepI (a b : List Int) (k : Nat) (h1 : k < a.length) (h2 : k < b.length) : ints (a.drop k) (b.drop k) = if cmpI a[k] b[k] = 0 then ints (a.drop (k + 1)) (b.drop (k + 1)) else cmpI a[k] b[k] := by
  rw [ints_step a b k h1 h2]; unfold cmpI; split
  · simp
  · split <;> simp
theorem slicesCompare_calls (w : World) (A B : Option Addr) (c d : Nat) (a b : List Int) (ha : Ints w A c a) (hb : Ints w B d b) : Calls Try.prog 138 #[.slice A a.length c, .slice B b.length d] w fun e w' => e = .returned (.int .i64 (ints a b)) ∧ On w w' := by
  have hma := ha.max
  have hmb := hb.max
  go_enter Try.func138, Try.ntmps138
  go_wp2
  go_loopw [11] (fun v wr => ∃ k : Nat, k ≤ a.length ∧ k ≤ b.length ∧ v = .int .i64 k ∧ Hid (ints (a.drop k) (b.drop k) = ints a b) ∧ On w wr) (fun v _ => a.length - (intOf v).toNat)
  case atStart => exact ⟨0, Nat.zero_le _, Nat.zero_le _, rfl, rfl, On.refl _⟩
  case round =>
    obtain ⟨k, hk1, hk2, rfl, hp, hB⟩ := hrel
    by_cases h1 : k < a.length
    · obtain ⟨ad, rfl, hx⟩ := (ha.on hB).at k h1
      by_cases h2 : k < b.length
      · obtain ⟨bd, rfl, hy⟩ := (hb.on hB).at k h2
        have h2n : decide (b.length ≤ k) = false := decide_eq_false (by omega)
        have hst := Aside0.mk ((ints_stepI a b k h1 h2).symm.trans hp.out)
        clear hp
        by_cases h3 : cmpI a[k] b[k] = 0
        · have h3' := Aside0.mk h3
          have h3b : (cmpI a[k] b[k] != 0) = false := by simp [h3]
          clear h3
          go_wp2_with (go_at_call 137; refine (cmpCompare_calls _ _ _).mono ?_; rintro e w3 ⟨rfl, hb3⟩)
          go_roundw
          case rel => exact ⟨k + 1, by omega, by omega, by go_num, (by have := hst.out; rwa [if_pos h3'.out] at this : _ = _), hB.trans hb3⟩
          case measure => simp [intOf]; omega
        · have h3' := Aside0.mk h3
          have h3b : (cmpI a[k] b[k] != 0) = true := by simp [h3]
          clear h3
          go_wp2_with (go_at_call 137; refine (cmpCompare_calls _ _ _).mono ?_; rintro e w3 ⟨rfl, hb3⟩)
          go_ret
          exact ⟨ret_int (by have := hst.out; rwa [if_neg h3'.out] at this), hB.trans hb3⟩
      · have hb0 : b.drop k = [] := List.drop_of_length_le (by omega)
        have h2n : decide (b.length ≤ k) = true := decide_eq_true (by omega)
        have hp' := Aside0.mk hp.out
        clear hp
        go_wp2
        go_ret
        exact ⟨ret_int (by rw [← hp'.out, hb0, List.drop_eq_getElem_cons h1]; rfl), hB⟩
    · have ha0 : a.drop k = [] := List.drop_of_length_le (by omega)
      have hp' := Aside0.mk hp.out
      clear hp
      by_cases h2 : k < b.length
      · have h4 : a.length < b.length := by omega
        go_wp2
        go_ret
        exact ⟨ret_int (by rw [← hp'.out, ha0, List.drop_eq_getElem_cons h2]; rfl), hB⟩
      · have hb0 : b.drop k = [] := List.drop_of_length_le (by omega)
        have h4 : ¬ a.length < b.length := by omega
        go_wp2
        go_ret
        exact ⟨ret_int (by rw [← hp'.out, ha0, hb0]; rfl), hB⟩
/-- The first that is not 0. -/
def orFrom : List Int → Int
  | [] => 0
  | x :: l => if x = 0 then orFrom l else x
theorem orFrom_step (l : List Int) (k : Nat) (h : k < l.length) : orFrom (l.drop k) = if l[k] = 0 then orFrom (l.drop (k + 1)) else l[k] := by
  rw [List.drop_eq_getElem_cons h]; rfl
theorem cmpOr_calls (w : World) (A c) (l : List Int) (h : Ints w A c l) : Calls Try.prog 136 #[.slice A l.length c] w fun e w' => e = .returned (.int .i64 (orFrom l)) ∧ On w w' := by
  have hmax := h.max
  go_enter Try.func136, Try.ntmps136
  go_wp2
  go_loop [8] (fun v => ∃ k : Nat, k ≤ l.length ∧ v = .int .i64 k ∧ Hid (orFrom (l.drop k) = orFrom l)) (fun v => l.length - (intOf v).toNat)
  case atStart => exact ⟨0, Nat.zero_le _, rfl, rfl⟩
  case round =>
    obtain ⟨k, hk, rfl, hp⟩ := hrel
    by_cases hlt : k < l.length
    · obtain ⟨ad, rfl, hx⟩ := h.at k hlt
      have hst := Aside0.mk ((orFrom_step l k hlt).symm.trans hp.out)
      clear hp
      by_cases h3 : l[k] = 0
      · have h3' := Aside0.mk h3
        have h3b : (l[k] != 0) = false := by simp [h3]
        clear h3
        go_wp2
        go_round
        case rel => exact ⟨k + 1, by omega, by go_num, (by have := hst.out; rwa [if_pos h3'.out] at this : _ = _)⟩
        case measure => simp [intOf]; omega
      · have h3' := Aside0.mk h3
        have h3b : (l[k] != 0) = true := by simp [h3]
        clear h3
        go_wp2
        go_ret
        exact ⟨ret_int (by have := hst.out; rwa [if_neg h3'.out] at this), On.refl _⟩
    · go_wp2
      go_ret
      exact ⟨ret_int (by rw [← hp.out, List.drop_of_length_le (by omega)]; rfl), On.refl _⟩
theorem ints2 (w : World) (a b : Int) : Ints (w.alloc (.cells #[.int .i64 a, .int .i64 b] 3)) (some ⟨w.heap.size, 0, none⟩) 2 [a, b] ↔ InR [a, b] := by
  refine ⟨fun h => h.2.2, fun h => ⟨Nat.le_refl _, ⟨rfl, by simp, fun _ => ⟨_, rfl, fun j p hj => ?_⟩⟩, h⟩⟩
  refine ⟨[.int .i64 p], rfl, rfl, fun i u hu => ?_⟩
  have hc := blk_cell (loc_new w #[.int .i64 a, .int .i64 b] 3)
  obtain ⟨rfl, rfl⟩ : i = 0 ∧ u = .int .i64 p := by
    cases i with
    | zero => simp at hu; exact ⟨rfl, hu.symm⟩
    | succ i => simp at hu
  rw [add_plain, show j * kInts.sz + 0 = j from by show j * 1 + 0 = j; omega, hc]
  match j, hj with
  | 0, hj => simp at hj; subst hj; rfl
  | 1, hj => simp at hj; subst hj; rfl
  | j + 2, hj => simp at hj
theorem ints_bd (a b : List Int) : -1 ≤ ints a b ∧ ints a b ≤ 1 := by
  induction a generalizing b with
  | nil => cases b <;> simp [ints]
  | cons x a ih =>
    cases b with
    | nil => simp [ints]
    | cons y b =>
      unfold ints
      split
      · omega
      · split
        · omega
        · exact ih b
theorem iCompareFacts_calls (w : World) (A0 c0 A1 c1) (f g : Fct) (h0 : Ints w A0 c0 f.2) (h1 : Ints w A1 c1 g.2) : Calls Try.prog 109 #[.agg #[.int .i64 f.1, .slice A0 f.2.length c0], .agg #[.int .i64 g.1, .slice A1 g.2.length c1]] w fun e w' => e = .returned (.int .i64 (cmpF f g)) ∧ On w w' := by
  have hb0 := Aside0.mk (On.alloc (On.alloc (On.refl w) (.cells #[.int .i64 f.1, .slice A0 f.2.length c0] 55)) (.cells #[.int .i64 g.1, .slice A1 g.2.length c1] 55))
  go_enter Try.func109, Try.ntmps109
  go_wp2
  refine Reg.region [(0,.L),(1,.L),(2,.L),(3,.L),(4,.C),(5,.L),(6,.L),(7,.L),(8,.L),(9,.C)] [10,11,12] (by kernel_rfl) (by kernel_rfl) ?_
  repeat first | refine sP ?_ | refine sS ?_ | refine sA ?_ | refine sL ?_ | refine sQ ?_ | refine sO ?_
  refine callC (.int .i64 (cmpI f.1 g.1)) Try.func137 (fun w' hS => ?_) ?_
  focus exact cmpCompare_calls w' _ _
  repeat first | refine sP ?_ | refine sS ?_ | refine sA ?_ | refine sL ?_ | refine sQ ?_ | refine sO ?_
  refine callC (.int .i64 (ints f.2 g.2)) Try.func138 (fun w' hS => ?_) ?_
  focus exact slicesCompare_calls w' _ _ _ _ f.2 g.2 (h0.on (hb0.out.trans hS)) (h1.on (hb0.out.trans hS))
  repeat first | refine sP ?_ | refine sS ?_ | refine sA ?_ | refine sL ?_ | refine sQ ?_ | refine sO ?_
  refine Reg.tail_ fun w2 hS => ?_
  have hc := cmpI_bd f.1 g.1
  have hi := ints_bd f.2 g.2
  have hr := Aside0.mk ((ints2 w2 (cmpI f.1 g.1) (ints f.2 g.2)).2 (fun x hx => by simp at hx; rcases hx with rfl | rfl <;> omega))
  clear hc hi
  go_wp2_with (go_at_call 136; refine (cmpOr_calls _ _ _ _ hr.out).mono ?_; rintro e w3 ⟨rfl, hb3⟩)
  go_ret
  refine ⟨ret_int ?_, (hb0.out.trans hS).trans ((On.alloc (On.refl _) _).trans hb3)⟩
  rw [cmpF_or]
  simp only [orFrom]
  by_cases h3 : cmpI f.1 g.1 = 0
  · simp only [h3, if_pos, ne_eq, not_true, if_false]
    by_cases h4 : ints f.2 g.2 = 0
    · rw [if_pos h4, h4]
    · rw [if_neg h4]
  · simp [h3]
end Go.Proofs.Ytngjhblbpapjeaa.H
/- Walks: the program's own search for facts. No condition. -/
namespace Go.Proofs.Ytngjhblbpapjeaa.H
open Go Go.RowKit Go.Proofs.YtngjhblbpapjeaaW.PrintWords Go.Proofs.YtngjhblbpapjeaaW.PrintLast
open Go.Proofs.Ytngjhblbpapjeaa.Reg (On on_draw)
set_option maxHeartbeats 1000000
set_option maxRecDepth 100000
set_option linter.unusedVariables false
set_option linter.unusedSimpArgs false

theorem sameFact_calls (w : World) (A0 c0 A1 c1) (f g : Fct) (h0 : Ints w A0 c0 f.2) (h1 : Ints w A1 c1 g.2) : Calls Try.prog 90 #[.agg #[.int .i64 f.1, .slice A0 f.2.length c0], .agg #[.int .i64 g.1, .slice A1 g.2.length c1]] w fun e w' => e = .returned (.bool (cmpF f g == 0)) ∧ On w w' := by
  have hb := Aside0.mk (On.alloc (On.alloc (On.refl w) (.cells #[.int .i64 f.1, .slice A0 f.2.length c0] 55)) (.cells #[.int .i64 g.1, .slice A1 g.2.length c1] 55))
  go_enter Try.func90, Try.ntmps90
  go_wp2_with (go_at_call 109; refine (iCompareFacts_calls _ A0 c0 A1 c1 f g (h0.on hb.out) (h1.on hb.out)).mono ?_; rintro e w1 ⟨rfl, hb1⟩)
  go_ret
  exact ⟨rfl, hb.out.trans hb1⟩
theorem hasFact1_calls (w : World) (A0 c0 A1 c1) (f g : Fct) (b : Nat) (h0 : Ints w A0 c0 f.2) (h1 : Ints w A1 c1 g.2) (hb0 : w.heap[b]? = some (.cells #[.int .i64 g.1, .slice A1 g.2.length c1] 55 (0, 0))) : Calls Try.prog 120 #[.agg #[.int .i64 f.1, .slice A0 f.2.length c0], .pointer (some ⟨b, 0, none⟩)] w fun e w' => e = .returned (.bool (cmpF f g == 0)) ∧ On w w' := by
  have hb := Aside0.mk (On.alloc (On.refl w) (.cells #[.int .i64 f.1, .slice A0 f.2.length c0] 55))
  have hc := blk_cell (blk_below hb0 hb.out)
  have hlt := Aside0.mk (blk_lt hb0)
  clear hb0
  go_enter Try.func120, Try.ntmps120
  go_wp2_with (go_at_call 90; refine (sameFact_calls _ A0 c0 A1 c1 f g (h0.on hb.out) (h1.on hb.out)).mono ?_; rintro e w1 ⟨rfl, hb1⟩)
  go_ret
  exact ⟨rfl, hb.out.trans hb1⟩
/-- A call of a closure. -/
theorem goesC {ops : Array Oper} {rest : List Oper} {o : Oper} {a : Act} {Q : Exit → Act → World → Prop} {w : World} (N : Tmp) {x : Operand} {f : FuncId} {fn : Func} {xs : Array Operand} {ts : Array TypeId} {caps args : Array Value} (hf : Try.prog.funcs[f]? = some fn) (hname : (fn.name == "runtime.NumGoroutine") = false) (hb : fn.body.isSome = true)
    (h : Calls Try.prog f args w fun e w' => ∃ v, e = .returned v ∧ wpList Try.prog ops Q rest (a.put (some N) v) w')
    (hop : o.op = .call { callee := .value x, args := xs, argTypes := ts } := by rfl) (hx : a.eval x = .func (.func f) #[] caps := by rfl) (hargs : xs.map a.eval ++ caps = args := by (try simp only [List.map_toArray, List.map_cons, List.map_nil]); rfl)
    (hd : o.dst = some N := by rfl) (hg : o.guard = none := by rfl) : wpList Try.prog ops Q (o :: rest) a w := by
  refine wpList_plain hg fun K hK => ?_
  have he := enters_ hf hname hb args w
  have hrun : (execOp a.eval o).run Try.prog w = .ok (.enter f args) w := by
    unfold execOp
    simp [hop, resolve, Deferred.ofValue, invoke, hx, hargs, he]
  unfold Oper.wp
  rw [hrun, Oper.upon_enter]
  refine h.mono fun e w'' hh => ?_
  obtain ⟨v, rfl, hk⟩ := hh
  rw [← hd] at hk
  exact hK _ _ hk
theorem IndexFuncF_calls (w : World) (A c) (fs : List Fct) (h : Fcts w A c fs) {fn : FuncId} {F : Func} (caps : Array Value) (p : Fct → Bool) (hf : Try.prog.funcs[fn]? = some F) (hname : (F.name == "runtime.NumGoroutine") = false) (hbd : F.body.isSome = true)
    (hcl : ∀ (w' : World), On w w' → ∀ (f : Fct), f ∈ fs → ∀ (A1 : Option Addr) (c1 : Nat), Ints w' A1 c1 f.2 → Calls Try.prog fn (#[.agg #[.int .i64 f.1, .slice A1 f.2.length c1]] ++ caps) w' fun e w'' => e = .returned (.bool (p f)) ∧ On w' w'') :
    Calls Try.prog 113 #[.slice A fs.length c, .func (.func fn) #[] caps] w fun e w' => e = .returned (.int .i64 (idxFrom p fs 0)) ∧ On w w' := by
  have hmax := h.max
  go_enter Try.func113, Try.ntmps113
  go_wp2
  go_loopw [8] (fun v wr => ∃ k : Nat, k ≤ fs.length ∧ v = .int .i64 k ∧ Hid (idxFrom p (fs.drop k) k = idxFrom p fs 0) ∧ On w wr) (fun v _ => fs.length - (intOf v).toNat)
  case atStart => exact ⟨0, Nat.zero_le _, rfl, rfl, On.refl _⟩
  case round =>
    obtain ⟨k, hk, rfl, hp, hB⟩ := hrel
    by_cases hlt : k < fs.length
    · obtain ⟨ad, A1, c1, rfl, hx0, hx1, hx2⟩ := (h.on hB).at k hlt
      have hst := Aside0.mk ((idxFrom_step p fs k hlt).symm.trans hp.out)
      clear hp
      have hc2 := Aside0.mk (hcl wr hB fs[k] (List.getElem_mem hlt) A1 c1 hx2)
      cases hv : p fs[k] with
      | true =>
        rw [hv] at hc2
        have hv' := Aside0.mk hv
        clear hv
        go_wp2_with (refine gate 16 ?_)
        refine ⟨goesC 16 hf hname hbd (hc2.out.mono fun e w2 h2 => ⟨_, h2.1, ?_⟩)⟩
        have hb2 := Aside0.mk h2.2
        clear h2
        go_wp2
        go_ret
        exact ⟨ret_int (by have := hst.out; rw [hv'.out, if_pos rfl] at this; exact this), hB.trans hb2.out⟩
      | false =>
        rw [hv] at hc2
        have hv' := Aside0.mk hv
        clear hv
        go_wp2_with (refine gate 16 ?_)
        refine ⟨goesC 16 hf hname hbd (hc2.out.mono fun e w2 h2 => ⟨_, h2.1, ?_⟩)⟩
        have hb2 := Aside0.mk h2.2
        clear h2
        go_wp2
        exact ⟨⟨k + 1, by omega, by go_num, (by have := hst.out; rwa [hv'.out, if_neg (by simp)] at this : _ = _), hB.trans hb2.out⟩, by simp [intOf]; omega⟩
    · go_wp2
      go_ret
      exact ⟨ret_int (by rw [← hp.out, List.drop_of_length_le (by omega)]; rfl), hB⟩
theorem ContainsFuncF_calls (w : World) (A c) (fs : List Fct) (h : Fcts w A c fs) {fn : FuncId} {F : Func} (caps : Array Value) (p : Fct → Bool) (hf : Try.prog.funcs[fn]? = some F) (hname : (F.name == "runtime.NumGoroutine") = false) (hbd : F.body.isSome = true)
    (hcl : ∀ (w' : World), On w w' → ∀ (f : Fct), f ∈ fs → ∀ (A1 : Option Addr) (c1 : Nat), Ints w' A1 c1 f.2 → Calls Try.prog fn (#[.agg #[.int .i64 f.1, .slice A1 f.2.length c1]] ++ caps) w' fun e w'' => e = .returned (.bool (p f)) ∧ On w' w'') :
    Calls Try.prog 82 #[.slice A fs.length c, .func (.func fn) #[] caps] w fun e w' => e = .returned (.bool (fs.any p)) ∧ On w w' := by
  go_enter Try.func82, Try.ntmps82
  go_wp2_with (go_at_call 113; refine (IndexFuncF_calls w A c fs h caps p hf hname hbd hcl).mono ?_; rintro e w3 ⟨rfl, hb3⟩)
  go_ret
  exact ⟨ret_bool (idxFrom_any _ fs 0), hb3⟩
theorem hasFact_calls (w : World) (A c) (fs : List Fct) (h : Fcts w A c fs) (A1 c1) (g : Fct) (hg : Ints w A1 c1 g.2) : Calls Try.prog 84 #[.slice A fs.length c, .agg #[.int .i64 g.1, .slice A1 g.2.length c1]] w fun e w' => e = .returned (.bool (fs.any fun f => cmpF f g == 0)) ∧ On w w' := by
  have hb := Aside0.mk (On.alloc (On.refl w) (.cells #[.int .i64 g.1, .slice A1 g.2.length c1] 55))
  have hL := Aside0.mk (loc_new w #[.int .i64 g.1, .slice A1 g.2.length c1] 55)
  go_enter Try.func84, Try.ntmps84
  go_wp2_with (go_at_call 82; refine (ContainsFuncF_calls _ A c fs (h.on hb.out) (fn := 120) #[.pointer (some ⟨w.heap.size, 0, none⟩)] (fun f => cmpF f g == 0) Try.func120 (by kernel_rfl) rfl (fun w' hw f hf B d hB => hasFact1_calls w' B d A1 c1 f g w.heap.size hB (hg.on (hb.out.trans hw)) (blk_below hL.out hw))).mono ?_; rintro e w3 ⟨rfl, hb3⟩)
  go_ret
  exact ⟨rfl, hb.out.trans hb3⟩
end Go.Proofs.Ytngjhblbpapjeaa.H
/- Walks: the program's search, its end: a binding told as a substitution, the visit. No condition. -/
namespace Go.Proofs.Ytngjhblbpapjeaa.H
open Go Go.RowKit Go.Proofs.YtngjhblbpapjeaaW.PrintWords Go.Proofs.YtngjhblbpapjeaaW.PrintLast
open Go.Proofs.Ytngjhblbpapjeaa.Reg (On on_draw)
set_option maxHeartbeats 4000000
set_option maxRecDepth 100000
set_option linter.unusedVariables false
set_option linter.unusedSimpArgs false

abbrev visitor (b b2 : Nat) : Value := .func (.func 130) #[] #[.pointer (some ⟨b, 0, none⟩), .pointer (some ⟨b2, 0, none⟩)]
theorem getD_inR {l : List Int} (h : InR l) (j : Nat) : -9223372036854775808 ≤ l.getD j 10 ∧ l.getD j 10 ≤ 9223372036854775807 := by
  rw [List.getD_eq_getElem?_getD]
  cases e : l[j]? with
  | none => simp
  | some x => exact h x (List.mem_of_getElem? e)
theorem take_snoc {l : List Int} {k : Nat} {x : Int} (h : l[k]? = some x) : l.take (k + 1) = l.take k ++ [x] := by
  obtain ⟨hk, e⟩ := List.getElem?_eq_some_iff.1 h
  rw [List.take_succ_eq_append_getElem hk, e]
theorem searchBase_calls {w0 w : World} {lo b b2 : Nat} {most : Int} {v : Value} {hs : List SHd} {ss : List Su} (A0 c0 A1 m1 c1) (m n : Nat) (z : List Int) (hK : KS w0 w lo b b2 most v hs ss) (hl : hs.length ≤ 1000) (hM : BM w m n z) (hz : z.length = 40) (hR : InR z) (hn : n ≤ 1000000) :
    Calls Try.prog 129 #[.slice A0 0 c0, .slice A1 m1 c1, .map (some m), visitor b b2] w (Got fun r w' => ∃ v' zs, zs.length = hs.length + 1 ∧ r = .bool ((zs.length : Int) == most) ∧ KS w0 w' lo b b2 most v' zs (ss ++ [subI 0 z]) ∧ Fr b v v' w w') := by
  obtain ⟨D, hown, hm1, hh3, hh4⟩ := hM.out
  have hK' := Aside0.mk hK
  have hM' := Aside0.mk hM
  have hh3' := Aside0.mk hh3
  have hh4' := Aside0.mk hh4
  have hR' := Aside0.mk hR
  have hz' := Aside0.mk hz
  have hown' := Aside0.mk hown
  have hsk := Aside0.mk (Nat.le_trans hown.size_le hn)
  clear hK hM hm1 hh3 hh4 hR hz hown
  go_enter Try.func129, Try.ntmps129
  go_wp2_with (refine gate 20 ?_)
  refine ⟨goesF 20 Try.func152 ((keysOf_calls w m).mono ?_)⟩
  rintro e w1 ⟨rfl, rfl⟩
  refine ⟨_, rfl, ?_⟩
  refine goesF 21 Try.func151 ((sortedKeys_calls w m n D hown'.out hsk.out).mono ?_)
  rintro e w2 ⟨vN, ssK, rfl, hperm, hO0, hB0⟩
  refine ⟨_, rfl, ?_⟩
  have hq := keys_sorted hown'.out hz'.out (fun k hk => (hh3'.out k hk).1) hh4'.out hperm
  have hlen : ssK.length = (subI 0 z).1.length := by rw [← hq, List.length_mergeSort]
  have hOI : OI w2 (w.heap.size + 1) vN (subI 0 z).1 := by
    have h := hO0
    rw [hq, hlen, World.size_alloc] at h
    show World.ownsRow _ _ _ _ _ _ _
    rw [← encs_flat]
    exact h
  obtain ⟨N, hN⟩ : ∃ N, (subI 0 z).1 = N := ⟨_, rfl⟩
  obtain ⟨V, hV⟩ : ∃ V, (subI 0 z).2 = V := ⟨_, rfl⟩
  have hlV := Aside0.mk (show N.length = V.length ∧ N.length ≤ 40 by
    have h := subI_len 0 z
    rw [hN, hV] at h
    exact ⟨h.1, by have := hz'.out; omega⟩)
  have hget := Aside0.mk (show ∀ i, i < N.length → ∃ j, j < z.length ∧ N[i]? = some ((j : Nat) : Int) ∧ z.getD j 10 ≠ 10 ∧ V[i]? = some (z.getD j 10) from fun i hi => by
    have h := subI_get z 0 i (by rw [hN]; exact hi)
    rw [hN, hV] at h
    obtain ⟨j, h1, h2, h3, h4⟩ := h
    exact ⟨j, h1, by rw [h2, Nat.zero_add], h3, h4⟩)
  have hin := Aside0.mk (show InR N ∧ InR V by
    have h := subI_inR z 0 hR'.out (by have := hz'.out; omega)
    rw [hN, hV] at h
    exact h)
  rw [hN] at hOI
  obtain ⟨An, cn, rfl, hIN⟩ := OI.rd hOI hin.out.1
  have hOI' := Aside0.mk hOI
  have hIN' := Aside0.mk hIN
  have hmN := hIN.max
  have hB2 := Aside0.mk ((On.alloc (On.refl w) (.cells #[.map (some m)] 126)).trans hB0)
  have hNV := Aside0.mk (show subI 0 z = (N, V) by rw [← hN, ← hV])
  clear hperm hO0 hB0 hq hlen hOI hIN hN hV
  have hfill := alloc_fill w2
  go_wp2
  clear hfill
  obtain ⟨q, hq⟩ : ∃ q, w2.heap.size = q := ⟨_, rfl⟩
  have hyb := Aside0.mk (show (w2.alloc (.cells #[.slice An N.length cn, .slice none 0 0] 45)).heap[q]? = some (.cells #[.slice An N.length cn, .slice none 0 0] 45 (0, 0)) from by rw [← hq]; exact loc_new w2 #[.slice An N.length cn, .slice none 0 0] 45)
  have hE0 := Aside0.mk (On.alloc (On.refl w2) (.cells #[.slice An N.length cn, .slice none 0 0] 45))
  have hsy := Aside0.mk (show (w2.alloc (.cells #[.slice An N.length cn, .slice none 0 0] 45)).heap.size = q + 1 by simp [hq])
  have hq2 := Aside0.mk hq
  obtain ⟨Wy, hWy⟩ : ∃ Wy, w2.alloc (.cells #[.slice An N.length cn, .slice none 0 0] 45) = Wy := ⟨_, rfl⟩
  rw [hWy] at hyb hE0 hsy ⊢
  try rw [hq]
  clear hWy hq
  have hcy := blk_cell hyb.out
  go_loopw [26] (fun x wr => ∃ (k : Nat) (us : List Int) (B : Option Addr) (d : Nat), k ≤ N.length ∧ x = .int .i64 k ∧ Aside0 (us = V.take k) ∧ Aside0 (OI wr (q + 1) (.slice B us.length d) us) ∧ Aside0 (q + 1 ≤ wr.heap.size) ∧ Aside0 (On w2 wr) ∧ wr.heap[q]? = some (.cells #[.slice An N.length cn, .slice B us.length d] 45 (0, 0))) (fun x _ => N.length - (intOf x).toNat)
  case atStart => exact ⟨0, [], none, 0, Nat.zero_le _, rfl, ⟨rfl⟩, ⟨World.ownsRow_nil _ _ _ _⟩, ⟨by rw [hsy.out]; exact Nat.le_refl _⟩, hE0, hyb.out⟩
  case round =>
    obtain ⟨k, us, B, d, hk, rfl, hus, hO, hsz, hB, hyr⟩ := hrel
    have hcy := blk_cell hyr
    have hy' := Aside0.mk hyr
    have hul := Aside0.mk (show us.length ≤ 40 by rw [hus.out, List.length_take]; have := hlV.out; omega)
    clear hyr
    by_cases hlt : k < N.length
    · obtain ⟨j, hj, hNj, h10, hVj⟩ := hget.out k hlt
      obtain ⟨ad, rfl, hx⟩ := (hIN'.out.on hB.out).at k hlt
      have e1 : N[k] = (j : Int) := Option.some.inj ((List.getElem?_eq_getElem hlt).symm.trans hNj)
      rw [e1] at hx
      have hj' := Aside0.mk (show j < 40 by have := hz'.out; omega)
      have h10' := Aside0.mk h10
      have hMr := Aside0.mk (hM'.out.on (hB2.out.trans hB.out))
      have hsn := Aside0.mk (take_snoc hVj)
      clear e1 hj hNj h10 hVj
      go_wp2_with (refine gate 34 ?_)
      refine ⟨bmLook 34 hMr.out j hj'.out h10'.out ?_⟩
      obtain ⟨y, hy⟩ : ∃ y, z.getD j 10 = y := ⟨_, rfl⟩
      have hyR := Aside0.mk (show -9223372036854775808 ≤ y ∧ y ≤ 9223372036854775807 by rw [← hy]; exact getD_inR hR'.out j)
      rw [hy] at hsn ⊢
      clear hy
      go_wp2_with (refine gate 36 ?_)
      obtain ⟨zs, hzs⟩ : ∃ zs, us ++ [y] = zs := ⟨_, rfl⟩
      have hzs' := Aside0.mk hzs
      have hBl := Aside0.mk (On.alloc (On.refl wr) (.cells #[.int .i64 y] 3))
      refine ⟨apI 36 hzs (OI.to (pw_own_below hO.out hBl.out)) (lit_RI hyR.out (On.refl _)) (Nat.le_trans hsz.out hBl.out.size) (by have := hul.out; omega) fun v6 w6 hO6' hg6 hat6 => ?_⟩
      have hO6 := OI.of hO6'
      obtain ⟨A6, c6, rfl⟩ := own_slice hO6
      have hgy : some q ≠ Value.ownBlock (.slice B us.length d) := fun e => by have := own_base hO.out _ e.symm; omega
      have hk6 := blk_grown hg6 (blk_below hy'.out hBl.out) hgy
      have hcy6 := blk_cell hk6
      have hf6 := blk_frozen hk6
      have hk6' := Aside0.mk hk6
      have hB6 := Aside0.mk (own_grows (hB.out.trans hBl.out) (pw_own_below hO.out hBl.out) hg6 (by rw [hq2.out]; omega))
      have hs6 := Aside0.mk (Nat.le_trans (Nat.le_trans hsz.out hBl.out.size) hg6.size)
      have hO6a := Aside0.mk hO6
      clear hk6 hgy hcy hzs hat6 hO6' hO6 hg6 hx
      go_wp2
      refine ⟨⟨k + 1, zs, A6, c6, by omega, by go_num, ⟨by rw [← hzs'.out, hus.out]; exact hsn.out.symm⟩, ⟨ownsRow_setCell_below hO6a.out (by simp) _⟩, ⟨by have := hs6.out; simp [World.setCell]; omega⟩, ⟨Reg.On.set hB6.out (by rw [hq2.out]; simp) _⟩, blk_set hk6'.out 1 _⟩, by simp [intOf]; omega⟩
    · obtain rfl : us = V := by rw [hus.out]; exact List.take_of_length_le (by have := hlV.out; omega)
      have hBr := Aside0.mk (hB2.out.trans hB.out)
      have hSep : SepS wr w.heap.size [((An, N.length, cn), (B, us.length, d))] [subI 0 z] := by
        rw [hNV.out]
        refine SepS.one (own_lower (pw_own_below hOI'.out hB.out) (by omega)) (own_lower hO.out (by have := hB2.out.size; have := hq2.out; omega)) hin.out.1 hin.out.2 fun i h1 h2 => ?_
        have h3 := own_lt hOI'.out i h1
        have h4 := own_base hO.out i h2
        have := hq2.out
        omega
      have hSep' := Aside0.mk hSep
      clear hSep
      go_wp2_with (refine gate 41 ?_)
      refine ⟨goesC 41 Try.func130 (by kernel_rfl) rfl ((visit_calls hK'.out hBr.out hSep'.out hl).mono ?_)⟩
      rintro e w9 ⟨v', zs, hzl0, rfl, hK9, hF9⟩
      have hzl := Aside0.mk hzl0
      clear hzl0
      refine ⟨_, rfl, ?_⟩
      go_wp2
      go_ret
      exact ⟨_, rfl, v', zs, hzl.out, rfl, hK9, (Fr.of_on hBr.out).trans hF9⟩
end Go.Proofs.Ytngjhblbpapjeaa.H
/- Headers stored, cut, cleared. No condition. -/
namespace Go.Proofs.Ytngjhblbpapjeaa.H
open Go Go.RowKit Go.Proofs.YtngjhblbpapjeaaW.PrintWords Go.Proofs.YtngjhblbpapjeaaW.PrintLast
open Go.Proofs.Ytngjhblbpapjeaa.Reg (On on_draw)
set_option maxHeartbeats 1000000
set_option maxRecDepth 100000
set_option linter.unusedVariables false
set_option linter.unusedSimpArgs false

theorem own_sets {base g n cap sz : Nat} {e : TypeId} : ∀ (ys : List Value) (i : Nat) (xs : List Value) (W : World), W.ownsRow base e sz (.slice (some ⟨g, 0, none⟩) n cap) n xs → i + ys.length ≤ n * sz →
    (W.setCells g i ys).ownsRow base e sz (.slice (some ⟨g, 0, none⟩) n cap) n (xs.take i ++ ys ++ xs.drop (i + ys.length)) ∧ W.grownBy (W.setCells g i ys) (some g)
  | [], i, xs, W, h, _ => ⟨by simpa [World.setCells] using h, World.grownBy.refl W _⟩
  | y :: ys, i, xs, W, h, hl => by
    have hx : xs.length = n * sz := h.1
    simp only [List.length_cons] at hl
    obtain ⟨h1, g1⟩ := h.stored i y
    obtain ⟨h2, g2⟩ := own_sets ys (i + 1) _ _ h1 (by omega)
    refine ⟨?_, World.grownBy.trans g1 g2⟩
    have e : (xs.set i y).take (i + 1) ++ ys ++ (xs.set i y).drop (i + 1 + ys.length) = xs.take i ++ (y :: ys) ++ xs.drop (i + (y :: ys).length) := by
      rw [List.take_succ_eq_append_getElem (by simp; omega), List.take_set_of_le (Nat.le_refl _), List.getElem_set_self, List.drop_set_of_lt (by omega)]
      rw [show i + 1 + ys.length = i + (y :: ys).length by simp; omega]
      simp
    rw [e] at h2
    exact h2
theorem own_cut {base g cap n sz : Nat} {e : TypeId} {w : World} {xs : List Value} (h : w.ownsRow base e sz (.slice (some ⟨g, 0, none⟩) n cap) n xs) (m : Nat) (hm : m ≤ n) : w.ownsRow base e sz (.slice (some ⟨g, 0, none⟩) m cap) m (xs.take (m * sz)) := by
  have hx : xs.length = n * sz := h.1
  have hms : m * sz ≤ n * sz := Nat.mul_le_mul_right _ hm
  rcases h.2 with ⟨h', _⟩ | ⟨g', cap', cur, h', hg, hh, hnc, hcm, hcs, htk⟩
  · cases h'
  · injection h' with h1 h2 h3
    injection h1 with h1
    injection h1 with h1
    subst h1 h3
    refine ⟨by rw [List.length_take]; omega, .inr ⟨g, cap, cur, rfl, hg, hh, by omega, hcm, hcs, ?_⟩⟩
    rw [← htk, List.take_take]
    congr 1
    omega
theorem OH.store {w : World} {lo g n c : Nat} {L : List Hdr} (h : OH w lo (.slice (some ⟨g, 0, none⟩) n c) L) (i : Nat) (hi : i < L.length) (a : Hdr) : OH ((w.setCell ⟨g, i * 2, none⟩ (.int .i64 a.1)).setCell ⟨g, i * 2 + 1, none⟩ (hdV a)) lo (.slice (some ⟨g, 0, none⟩) n c) (L.set i a) := by
  have hn := (OH.rh h).1
  subst hn
  have h2 := ((h.stored (i * 2) (.int .i64 a.1)).1.stored (i * 2 + 1) (hdV a)).1
  have e : L = L.take i ++ L[i] :: L.drop (i + 1) := by rw [← List.drop_eq_getElem_cons hi, List.take_append_drop]
  have hl : (L.take i).length = i := by rw [List.length_take]; omega
  have e2 : L.flatMap encH = (L.take i).flatMap encH ++ .int .i64 L[i].1 :: hdV L[i] :: (L.drop (i + 1)).flatMap encH := by
    conv => lhs; rw [e]
    rw [List.flatMap_append, List.flatMap_cons]; rfl
  have e3 : L.set i a = L.take i ++ a :: L.drop (i + 1) := by
    conv => lhs; rw [e]
    exact set_mid _ _ _ _ _ hl
  rw [e2, set2 (i * 2) (by rw [flat_len (enc := encH) (sz := 2) (fun _ => rfl), hl])] at h2
  show World.ownsRow _ _ _ _ _ (L.set i a).length _
  rw [List.length_set, e3, List.flatMap_append, List.flatMap_cons]
  exact h2
theorem OH.at {w : World} {lo g n c : Nat} {L : List Hdr} (h : OH w lo (.slice (some ⟨g, 0, none⟩) n c) L) (i : Nat) (hi : i < L.length) : w.cell? ⟨g, i * 2, none⟩ = some (.int .i64 L[i].1) ∧ w.cell? ⟨g, i * 2 + 1, none⟩ = some (hdV L[i]) := by
  have hn := (OH.rh h).1
  subst hn
  have h0 := h.cellAt (i * 2) (by omega)
  have h1 := h.cellAt (i * 2 + 1) (by omega)
  have e0 := flat_get (enc := encH) (sz := 2) (fun _ => rfl) L i 0 hi (by omega)
  have e1 := flat_get (enc := encH) (sz := 2) (fun _ => rfl) L i 1 hi (by omega)
  rw [Nat.add_zero] at e0
  rw [e0] at h0
  rw [e1] at h1
  exact ⟨h0, h1⟩
/-- clear of what is left of a row of facts. -/
theorem run_clearF {w : World} {lo g n c : Nat} {L : List Hdr} (h : OH w lo (.slice (some ⟨g, 0, none⟩) n c) L) (i : Nat) (hi : i < n) (cc : Nat) (ty : TypeId) :
    (Builtin.clear_ #[30] ty #[.slice (some ⟨g, i * 2, none⟩) (n - i) cc]).run Try.prog w = .ok (.tuple #[]) (w.setCells g (i * 2) (Builtin.zeroCells #[.int .i64 0, .slice none 0 0] (n - i)).toList) := by
  have hn := (OH.rh h).1
  subst hn
  obtain ⟨i0, hi0, hz0, _, _⟩ := info_parts infoF
  have hv : (zeroValue 55).run Try.prog w = .ok (.agg #[.int .i64 0, .slice none 0 0]) w := by
    unfold zeroValue typeInfo
    simp [hi0, hz0]
  have hlen : (Builtin.zeroCells #[.int .i64 0, .slice none 0 0] (L.length - i)).toList.length = (L.length - i) * 2 := by
    rw [Array.length_toList, size_zeroCells]; rfl
  have hst := run_storeCells_cells (P := Try.prog) g (i * 2) (Builtin.zeroCells #[.int .i64 0, .slice none 0 0] (L.length - i)).toList 0 w
    (fun j hj => by
      have := own_some h (i * 2 + 0 + j) (by omega)
      obtain ⟨z, hz⟩ := this
      rw [hz]; rfl)
    (fun j hj => own_frozen h _)
    (fun v hv => by
      simp only [Builtin.zeroCells, Array.toList_map, List.mem_map] at hv
      obtain ⟨k, _, rfl⟩ := hv
      have : k % 2 = 0 ∨ k % 2 = 1 := by omega
      rcases this with e | e <;> simp [e] <;> rfl)
  simp only [Nat.add_zero] at hst
  obtain ⟨m, hm⟩ : ∃ m, L.length - i = m + 1 := ⟨L.length - i - 1, by omega⟩
  rw [hm] at hst ⊢
  simp [Builtin.clear_, run_underlying Try.underlying30, hv, Value.cells, hst]
section
variable {ops : Array Oper} {rest : List Oper} {o : Oper} {a : Act} {Q : Exit → Act → World → Prop} {W : World}
theorem slFF (N : Tmp) {x y : Operand} {A A' : Option Addr} {n c k m c' : Nat} (hA : (if c = k then A else A.map (·.add (k * 2))) = A') (hm : n - k = m) (hc' : c - k = c') (hk : k ≤ n) (hc : n ≤ c)
    (h : wpList Try.prog ops Q rest (a.put (some N) (.slice A' m c')) W)
    (hop : o.op = .slice 30 x (some y) none none := by rfl) (hd : o.dst = some N := by rfl) (hg : o.guard = none := by rfl) (hx : a.eval x = .slice A n c := by rfl) (hy : a.eval y = .int .i64 (k : Int) := by rfl) : wpList Try.prog ops Q (o :: rest) a W := by
  subst hA hm hc'
  obtain ⟨i0, hi0, _, hsz, _⟩ := info_parts infoF
  have hcut := cut_from (P := Try.prog) 30 55 .i64 Try.underlying30 hi0 2 hsz A n c (k : Int) (by omega) (by omega)
  refine wpList_plain hg fun K hK => ?_
  have hrun : (execOp a.eval o).run Try.prog W = .ok (.value (.slice (if c = k then A else A.map (·.add (k * 2))) (n - k) (c - k))) W := by
    unfold execOp
    simp only [hop, hx, hy, Option.map_some, Option.map_none]
    have := hcut W
    simp only [Int.toNat_natCast] at this
    go_simp
  unfold Oper.wp
  rw [hrun]
  refine hK _ _ ?_
  rw [hd]
  exact h
theorem slTF (N : Tmp) {x y : Operand} {A : Option Addr} {n c k : Nat} (hk : k ≤ n) (hc : n ≤ c)
    (h : wpList Try.prog ops Q rest (a.put (some N) (.slice A k c)) W)
    (hop : o.op = .slice 30 x none (some y) none := by rfl) (hd : o.dst = some N := by rfl) (hg : o.guard = none := by rfl) (hx : a.eval x = .slice A n c := by rfl) (hy : a.eval y = .int .i64 (k : Int) := by rfl) : wpList Try.prog ops Q (o :: rest) a W := by
  obtain ⟨i0, hi0, _, hsz, _⟩ := info_parts infoF
  have hcut := cut_to (P := Try.prog) 30 55 .i64 Try.underlying30 hi0 A n c (k : Int) (by omega) (by omega) hc
  refine wpList_plain hg fun K hK => ?_
  have hrun : (execOp a.eval o).run Try.prog W = .ok (.value (.slice A k c)) W := by
    unfold execOp
    simp only [hop, hx, hy, Option.map_some, Option.map_none]
    have := hcut W
    simp only [Int.toNat_natCast] at this
    go_simp
  unfold Oper.wp
  rw [hrun]
  refine hK _ _ ?_
  rw [hd]
  exact h
end
end Go.Proofs.Ytngjhblbpapjeaa.H
