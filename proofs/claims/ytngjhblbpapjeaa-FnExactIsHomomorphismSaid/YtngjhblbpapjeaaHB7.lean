/- Walks: the reference's place of a fact, copies. No condition. -/
import Derived.Test.YtngjhblbpapjeaaHB5
import Derived.Test.YtngjhblbpapjeaaHB6
import Derived.Test.YtngjhblbpapjeaaHO2
import Derived.Test.YtngjhblbpapjeaaHD2
namespace Go.Proofs.Ytngjhblbpapjeaa.H
open Go Go.RowKit Go.Proofs.YtngjhblbpapjeaaW.PrintWords Go.Proofs.YtngjhblbpapjeaaW.PrintLast
open Go.Proofs.Ytngjhblbpapjeaa.Reg (On on_draw)
set_option maxHeartbeats 1000000
set_option maxRecDepth 100000
set_option linter.unusedVariables false
set_option linter.unusedSimpArgs false

section
variable {fn : Func} {p u : Tmp} {tmps : Array Value} {w : World} {g : Nat} {t : TypeId} {cs : Array Value} {fr : Nat × Nat}
theorem retIB (h : fn.results = #[.cell p 32, .tmp u]) (hp : tmps.getD p undef = .pointer (some ⟨g, 0, none⟩)) (hg : w.heap[g]? = some (.cells cs t fr)) (hs : cs.size = 2) : (results fn tmps).run Try.prog w = .ok (.tuple #[.agg cs, tmps.getD u undef]) w :=
  results_ct h tmps w g t cs fr _ hp hg Try.underlying32 rfl (by rw [hs]; kernel_rfl)
end
/-- A step that makes memory at most and hands back one value, nothing else coming up. -/
theorem stepM {P : Program} {ops : Array Oper} {Q : Exit → Act → World → Prop} {i : Nat} {tail : List Nat} {l : List (Nat × Reg.K)} {a : Act} {W : World} {o : Oper}
    (h : ∀ w, On W w → wpList P ops (Exit.then (fun a' w' => On W w' ∧ Reg.Ord P ops Q tail l a' w') Q) [o] a w) (hi : ops[i]? = some o := by rfl)
    (hw : Region.wanted o (yielded ops a.tmps) = true := by rfl) : Reg.Ord P ops Q tail ((i, .N) :: l) a W := Reg.stepN h hi hw
theorem l5Place_calls (w : World) (A0 n0 c0 A1 c1 A2 c2) (fs : List Fct) (f : Fct) (h1 : Fcts w A1 c1 fs) (h2 : Ints w A2 c2 f.2) :
    Calls Try.prog 76 #[.agg #[.slice A0 n0 c0, .slice A1 fs.length c1], .agg #[.int .i64 f.1, .slice A2 f.2.length c2]] w fun e w' => e = .returned (.int .i64 (place fs f)) ∧ On w w' := by
  have hmax := h1.max
  go_enter Try.func76, Try.ntmps76
  go_wp2
  go_loopw [5] (fun v5 wr => ∃ k : Nat, k ≤ fs.length ∧ v5 = .int .i64 k ∧ Hid (placeFrom f (fs.drop k) k = place fs f) ∧ On w wr ∧ Loc wr [(w.heap.size, #[.slice A0 n0 c0, .slice A1 fs.length c1], 32), (w.heap.size + 1, #[.int .i64 f.1, .slice A2 f.2.length c2], 55)]) (fun v5 _ => fs.length - (intOf v5).toNat)
  case atStart => exact ⟨0, Nat.zero_le _, rfl, rfl, On.alloc (On.alloc (On.refl _) _) _, loc2 _ _ _ _ _⟩
  case round =>
    obtain ⟨k, hk, rfl, hp, hB, hL⟩ := hrel
    have hc0 := blk_cell hL.1
    have hc1 := blk_cell hL.2.1
    have hl := Aside0.mk hL
    clear hL
    by_cases hlt : k < fs.length
    · obtain ⟨ad, A3, c3, rfl, hx0, hx1, hx2⟩ := (h1.on hB).at k hlt
      have hp' : Hid ((if cmpF fs[k] f = 0 then (k : Int) else placeFrom f (fs.drop (k + 1)) (k + 1)) = place fs f) := by have := hp.out; rwa [List.drop_eq_getElem_cons hlt] at this
      clear hp
      go_wp2
      refine Reg.region [(0,.L),(1,.L),(2,.L),(3,.L),(4,.L),(5,.L),(6,.C),(7,.L)] [] (by kernel_rfl) (by kernel_rfl) ?_
      repeat first | refine sP ?_ | refine sS ?_ | refine sA ?_ | refine sL ?_ | refine sQ ?_ | refine sO ?_
      refine callC (.int .i64 (cmpF fs[k] f)) Try.func93 (fun w' hS => ?_) ?_
      focus exact (CompareFacts_calls w' _ _ _ _ fs[k] f (hx2.on hS) ((h2.on hB).on hS))
      repeat first | refine sP ?_ | refine sS ?_ | refine sA ?_ | refine sL ?_ | refine sQ ?_ | refine sO ?_
      refine Reg.nil fun w2 hS => ?_
      by_cases h0 : cmpF fs[k] f = 0
      · have h0' : (cmpF fs[k] f == 0) = true := by simpa using h0
        go_wp2
        go_ret
        exact ⟨by rw [← hp'.out, if_pos h0]; rfl, hB.trans hS⟩
      · have h0' : (cmpF fs[k] f == 0) = false := by simpa using h0
        go_wp2
        go_roundw
        case rel => exact ⟨k + 1, by omega, by go_num, (by rw [← hp'.out, if_neg h0] : _ = _), hB.trans hS, Loc.on hS hl.out⟩
        case measure => simp [intOf]; omega
    · go_wp2
      go_ret
      exact ⟨by rw [← hp.out, List.drop_of_length_le (by omega)]; rfl, hB⟩
theorem sContainsFact_calls (w : World) (A0 c0 A1 c1) (rs : List Rel) (fs : List Fct) (h0 : Rels w A0 c0 rs) (h1 : Fcts w A1 c1 fs) (A2 c2) (g : Fct) (h2 : Ints w A2 c2 g.2) :
    Calls Try.prog 87 #[.agg #[.slice A0 rs.length c0, .slice A1 fs.length c1], .agg #[.int .i64 g.1, .slice A2 g.2.length c2]] w fun e w' => e = .returned (.bool (okInst rs fs && hasF fs g)) ∧ On w w' := by
  have hb := Aside0.mk (On.alloc (On.alloc (On.refl w) (.cells #[.slice A0 rs.length c0, .slice A1 fs.length c1] 32)) (.cells #[.int .i64 g.1, .slice A2 g.2.length c2] 55))
  have hL := Aside0.mk (loc2 w #[.slice A0 rs.length c0, .slice A1 fs.length c1] #[.int .i64 g.1, .slice A2 g.2.length c2] 32 55)
  cases ho : okInst rs fs with
  | false =>
    have ho' := Aside0.mk ho
    clear ho
    go_enter Try.func87, Try.ntmps87
    go_wp2_with (go_at_call 41; refine (IsValidInstance_calls _ A0 c0 A1 c1 rs fs (h0.on hb.out) (h1.on hb.out)).mono ?_; rintro e w1 ⟨rfl, hb1⟩; rw [ho'.out])
    go_ret
    exact ⟨by simp, hb.out.trans hb1⟩
  | true =>
    have ho' := Aside0.mk ho
    clear ho
    go_enter Try.func87, Try.ntmps87
    go_wp2_with (first | (go_at_call 41; refine (IsValidInstance_calls _ A0 c0 A1 c1 rs fs (h0.on hb.out) (h1.on hb.out)).mono ?_; rintro e w1 ⟨rfl, hb1⟩; rw [ho'.out]; have hL1 := Loc.on hb1 hL.out; have hc0 := blk_cell hL1.1; have hc1 := blk_cell hL1.2.1; clear hL1) | (go_at_call 76; refine (l5Place_calls w1 A0 rs.length c0 A1 c1 A2 c2 fs g (h1.on (hb.out.trans hb1)) (h2.on (hb.out.trans hb1))).mono ?_; rintro e w2 ⟨rfl, hb2⟩))
    go_ret
    exact ⟨ret_bool (by rw [hasF_place]; simp), (hb.out.trans hb1).trans hb2⟩
theorem l5Fact_calls (w : World) (A c) (f : Fct) (h : Ints w A c f.2) (hl : f.2.length ≤ 2000000) : Calls Try.prog 65 #[.agg #[.int .i64 f.1, .slice A f.2.length c]] w (Got fun v w' => ∃ v1, v = .agg #[.int .i64 f.1, v1] ∧ OI w' w.heap.size v1 f.2 ∧ On w w') := by
  have hb := Aside0.mk (On.alloc (On.alloc (On.refl w) (.cells #[.int .i64 f.1, .slice A f.2.length c] 55)) (.cells #[.int .i64 0, .slice none 0 0] 55))
  have hL := Aside0.mk (loc2 w #[.int .i64 f.1, .slice A f.2.length c] #[.int .i64 0, .slice none 0 0] 55 55)
  go_enter Try.func65, Try.ntmps65
  go_wp2
  refine Reg.region [(0,.L),(1,.L),(3,.L),(4,.L),(2,.N),(5,.N),(6,.L)] [7] (by kernel_rfl) (by kernel_rfl) ?_
  repeat first | refine sP ?_ | refine sS ?_ | refine sA ?_ | refine sL ?_ | refine sQ ?_ | refine sO ?_
  refine stepM (fun w1 hS => ?_)
  go_wp2
  refine ⟨hS.trans (On.alloc (On.refl _) _), ?_⟩
  repeat first | refine sP ?_ | refine sS ?_ | refine sA ?_ | refine sL ?_ | refine sQ ?_ | refine sO ?_
  refine stepM (fun w2 hS2 => ?_)
  refine apIf 8 (List.nil_append _) (pw_own_below (lit_own w1 #[] 3 1 0 w1.heap.size (Nat.le_refl _) (by omega) rfl) hS2) rfl (h.on ((hb.out.trans hS).trans ((On.alloc (On.refl _) _).trans hS2))) (by have := hS2.size; simp at this; omega) (by omega) fun v3 w3 hO3 hb3 => ?_
  refine ⟨hS2.trans hb3, ?_⟩
  obtain ⟨A3, c3, rfl⟩ := own_slice hO3
  simp only [Act.put, List.setIfInBounds_toArray, List.set_cons_zero, List.set_cons_succ]
  repeat first | refine sP ?_ | refine sS ?_ | refine sA ?_ | refine sL ?_ | refine sQ ?_ | refine sO ?_
  refine Reg.tail_ fun w4 hS4 => ?_
  have hk := (Loc.on ((hS.trans (On.alloc (On.refl _) _)).trans (hS2.trans (hb3.trans hS4))) hL.out).2.1
  have hc := blk_cell hk
  have hf := blk_frozen hk
  have hk' := Aside0.mk hk
  clear hk
  go_wp2
  have hsz := hS.size
  simp only [World.size_alloc] at hsz
  refine bodyPost_ret (retF rfl rfl (g := w.heap.size + 1) (blk_set (blk_set hk'.out 0 _) 1 _) rfl) rfl ?_
  exact ⟨_, rfl, _, rfl, own_lower (ownsRow_setCell_below (ownsRow_setCell_below (pw_own_below hO3 hS4) (by simp; omega) _) (by simp; omega) _) (by omega), Reg.On.set (Reg.On.set (((hb.out.trans hS).trans (On.alloc (On.refl _) _)).trans (hS2.trans (hb3.trans hS4))) (by simp) _) (by simp) _⟩
theorem blk_ex {S : Nat → Prop} {W w : World} {g : Nat} {o : Obj} (h : Ex S W w) (hg : W.heap[g]? = some o) (hn : ¬ S g) : w.heap[g]? = some o := (h.block g (blk_lt hg) hn).trans hg
theorem Fcts.ex {S : Nat → Prop} {w0 W w : World} {A : Option Addr} {c : Nat} {fs : List Fct} (h : Fcts w0 A c fs) (hb : On w0 W) (hE : Ex S W w) (hS : ∀ i, S i → w0.heap.size ≤ i) : Fcts w A c fs := h.on (Ex.on hb hE hS)
/-- The row of copies, one more. -/
theorem copy_more {lo : Nat} {hs : List Hdr} {fs : List Fct} {A' A2 : Option Addr} {c' c2 : Nat} {r : Int} {vs : List Int} {wr w2 w5 w6 : World} (hS : Sep wr lo hs fs) (hlo : lo ≤ wr.heap.size) (hO : OH wr lo (.slice A' hs.length c') hs) (h2 : OI w2 wr.heap.size (.slice A2 vs.length c2) vs) (hR : InR vs) (hb : On wr w2) (hb5 : On w2 w5)
    (hg : w5.grownBy w6 (Value.ownBlock (.slice A' hs.length c'))) : Sep w6 lo (hs ++ [(r, A2, vs.length, c2)]) (fs ++ [(r, vs)]) := by
  have h5 := Sep.snoc (a := (r, A2, vs.length, c2)) (f := (r, vs)) hS (hb.trans hb5) hlo rfl (pw_own_below h2 hb5) hR
  refine Sep.ex h5 (Ex.of_grown hg) (fun i a b ha hbk e => ?_)
  have hlt := own_lt hO b e.symm
  have hab := (h5.at_ i a _ ha (List.getElem?_eq_getElem (by rw [← h5.len]; exact (List.getElem?_eq_some_iff.1 ha).1))).2.1
  have := own_ne_blk hab (pw_own_below hO (hb.trans hb5)) (by decide) hbk
  exact this e.symm
theorem l5Copy_calls (w : World) (A0 c0 A1 c1) (rs : List Rel) (fs : List Fct) (h0 : Rels w A0 c0 rs) (h1 : Fcts w A1 c1 fs) (hl0 : rs.length ≤ 2000000) (hl : fs.length ≤ 2000000) (hl2 : ∀ f ∈ fs, f.2.length ≤ 2000000) : Calls Try.prog 86 #[.agg #[.slice A0 rs.length c0, .slice A1 fs.length c1]] w (Got fun v w' => OIn w' w.heap.size v rs fs ∧ On w w') := by
  have hb := Aside0.mk (On.alloc (On.alloc (On.refl w) (.cells #[.slice A0 rs.length c0, .slice A1 fs.length c1] 32)) (.cells #[.slice none 0 0, .slice none 0 0] 32))
  have hL := Aside0.mk (loc2 w #[.slice A0 rs.length c0, .slice A1 fs.length c1] #[.slice none 0 0, .slice none 0 0] 32 32)
  go_enter Try.func86, Try.ntmps86
  go_wp2_with (refine gate 8 ?_)
  refine ⟨apRf 8 (List.nil_append _) (lit_own' (w.heap.size + 1 + 1) _ (by simp) #[] 87 3 0 (w.heap.size + 2) (by simp) (by omega) rfl) rfl (h0.on (hb.out.trans (On.alloc (On.refl _) _))) (by simp) (by omega) fun v1 w1 hO1 hb1 => ?_⟩
  obtain ⟨Ar, cr, rfl⟩ := own_slice hO1
  have hfill := alloc_fill w1
  go_wp2
  clear hfill
  have hbL := Aside0.mk (Loc.on ((On.alloc (On.refl _) _).trans hb1) hL.out)
  have hB1 := Aside0.mk (hb.out.trans ((On.alloc (On.refl _) _).trans hb1))
  have hOR := Aside0.mk hO1
  clear hb1 hO1
  have hyb := Aside0.mk (loc_new w1 #[.slice Ar rs.length cr, .slice none 0 0] 32)
  have hBy := Aside0.mk (On.alloc (On.refl w1) (.cells #[.slice Ar rs.length cr, .slice none 0 0] 32))
  have hsy := Aside0.mk (show (w1.alloc (.cells #[.slice Ar rs.length cr, .slice none 0 0] 32)).heap.size = w1.heap.size + 1 by simp)
  obtain ⟨Wy, hWy⟩ : ∃ Wy, w1.alloc (.cells #[.slice Ar rs.length cr, .slice none 0 0] 32) = Wy := ⟨_, rfl⟩
  rw [hWy] at hyb hBy hsy ⊢
  clear hWy
  go_loopw [4] (fun v wr => ∃ (k : Nat) (hs : List Hdr) (A' : Option Addr) (c' : Nat), k ≤ fs.length ∧ v = .int .i64 k ∧ Aside0 (OH wr (w1.heap.size + 1) (.slice A' hs.length c') hs) ∧ Aside0 (Sep wr (w1.heap.size + 1) hs (fs.take k)) ∧ Aside0 (w1.heap.size + 1 ≤ wr.heap.size) ∧ Aside0 (Ex (fun b => w1.heap.size ≤ b) w1 wr) ∧ wr.heap[w1.heap.size]? = some (.cells #[.slice Ar rs.length cr, .slice A' hs.length c'] 32 (0, 0))) (fun v _ => fs.length - (intOf v).toNat)
  case atStart => exact ⟨0, [], none, 0, Nat.zero_le _, rfl, ⟨World.ownsRow_nil _ _ _ _⟩, ⟨Sep.nil _ _⟩, ⟨by rw [hsy.out]; exact Nat.le_refl _⟩, ⟨Ex.of_on hBy.out⟩, hyb.out⟩
  case round =>
    obtain ⟨k, hs, A', c', hk, rfl, hO, hS, hsz, hE, hy⟩ := hrel
    have hlen := Aside0.mk (show hs.length = k by have := hS.out.len; rw [List.length_take] at this; omega)
    have hB := Aside0.mk (Ex.on hB1.out hE.out (fun i hi => by have := hB1.out.size; omega))
    have hLr := Aside0.mk (show Loc wr _ from Loc.on (Ex.to_on hE.out (fun i hi => hi)) hbL.out)
    have hc0 := blk_cell hLr.out.1
    have hcy := blk_cell hy
    have hy' := Aside0.mk hy
    clear hy
    by_cases hlt : k < fs.length
    · obtain ⟨ad, A3, c3, rfl, hx0, hx1, hx2⟩ := (h1.on hB.out).at k hlt
      go_wp2
      refine Reg.region [(0,.L),(1,.L),(2,.L),(3,.L),(4,.L),(5,.L),(6,.L),(7,.N),(8,.N)] [9,10,11] (by kernel_rfl) (by kernel_rfl) ?_
      repeat first | refine sP ?_ | refine sS ?_ | refine sA ?_ | refine sL ?_ | refine sQ ?_ | refine sO ?_
      refine callN Try.func65 (fun w2 hS2 => ?_)
      focus
        refine (l5Fact_calls w2 A3 c3 fs[k] (hx2.on hS2) (hl2 _ (List.getElem_mem hlt))).mono ?_
        rintro e w3 ⟨v3, rfl, v4, rfl, hO4, hb3⟩
        obtain ⟨A4, c4, rfl⟩ := own_slice hO4
        refine ⟨_, rfl, hb3, fun a' ha => ?_⟩
        simp only [Act.put, List.setIfInBounds_toArray, List.set_cons_zero, List.set_cons_succ] at ha
        subst ha
        repeat first | refine sP ?_ | refine sS ?_ | refine sA ?_ | refine sL ?_ | refine sQ ?_ | refine sO ?_
        refine stepM (fun w4 hS4 => ?_)
        go_wp2
        refine ⟨hS4.trans (On.alloc (On.refl _) _), ?_⟩
        refine Reg.tail_ fun w5 hS5 => ?_
        have hB5 := Aside0.mk ((hS2.trans (hb3.trans (hS4.trans (On.alloc (On.refl _) _)))).trans hS5)
        have hlit := Aside0.mk (lit_RH hS5)
        have hO5 := Aside0.mk (pw_own_below hO.out hB5.out)
        obtain ⟨zs, hz⟩ : ∃ zs, hs ++ [(fs[k].1, A4, fs[k].2.length, c4)] = zs := ⟨_, rfl⟩
        have hz' := Aside0.mk hz
        refine apH 26 hz hO5.out hlit.out (Nat.le_trans hsz.out hB5.out.size) (by have := hlen.out; simp; omega) fun v6 w6 hO6 hg6 => ?_
        obtain ⟨A6, c6, rfl⟩ := own_slice hO6
        have hgy : some w1.heap.size ≠ Value.ownBlock (.slice A' hs.length c') := fun e => by have := own_base hO.out _ e.symm; omega
        have hk6 := blk_grown hg6 (blk_below hy'.out hB5.out) hgy
        have hcy6 := blk_cell hk6
        have hf6 := blk_frozen hk6
        have hk6' := Aside0.mk hk6
        have hS6 := Aside0.mk (copy_more (r := fs[k].1) (vs := fs[k].2) hS.out hsz.out hO.out (own_lower hO4 hS2.size) (hx2.2.2) (hS2.trans hb3) (hS4.trans ((On.alloc (On.refl _) _).trans hS5)) hg6)
        have hS6 := Aside0.mk (hz ▸ hS6.out)
        clear hk6 hgy hcy hz
        go_wp2
        refine ⟨⟨k + 1, zs, A6, c6, by omega, by go_num, ⟨ownsRow_setCell_below hO6 (Nat.lt_succ_self _) _⟩, ⟨?_⟩, ⟨?_⟩, ⟨?_⟩, blk_set hk6'.out 1 _⟩, by simp [intOf]; omega⟩
        · rw [List.take_succ_eq_append_getElem hlt]
          exact Sep.set hS6.out (Nat.lt_succ_self _) _
        · have h3 := hg6.size; have h4 := hB5.out.size; have := hsz.out; simp [World.setCell]; omega
        · exact ((hE.out.then_on hB5.out).trans (Ex.of_grown hg6) (fun i _ e => by have := own_base hO5.out i e.symm; omega)).trans (Ex.set _ _ _) (fun i _ e => by subst e; exact Nat.le_refl _)
    · have e1 : fs.take k = fs := List.take_of_length_le (by omega)
      rw [e1] at hS
      have hcr := blk_cell hLr.out.2.1
      have hfr := blk_frozen hLr.out.2.1
      go_wp2
      have hs1 := hBy.out.size
      have hs2 := hLr.out.2.1
      refine bodyPost_ret (retI rfl rfl (g := w.heap.size + 1) (blk_set (blk_set hLr.out.2.1 0 _) 1 _) rfl) rfl ?_
      have hw1 := blk_lt hbL.out.2.1
      refine ⟨_, rfl, ⟨_, _, hs, rfl, ?_, ?_, ?_⟩, ?_⟩
      · have h5 := own_ex hOR.out hE.out (fun i hi h => by have := own_lt hOR.out i hi; omega)
        exact own_lower (ownsRow_setCell_below (ownsRow_setCell_below h5 (by simp) _) (by simp) _) (by omega)
      · exact own_lower (ownsRow_setCell_below (ownsRow_setCell_below hO.out (by simp; omega) _) (by simp; omega) _) (by omega)
      · exact Sep.lower (Sep.set (Sep.set hS.out (by simp; omega) _) (by simp; omega) _) (by omega)
      · exact Reg.On.set (Reg.On.set hB.out (by simp) _) (by simp) _
end Go.Proofs.Ytngjhblbpapjeaa.H
