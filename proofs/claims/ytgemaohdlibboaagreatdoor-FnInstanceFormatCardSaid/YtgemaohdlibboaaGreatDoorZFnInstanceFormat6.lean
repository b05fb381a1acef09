/- Walks and plain laws for the law FnInstanceFormat, part 6 of 7: the texts HF11, HF10, HF16, HF13, HF17, HG9, HG10, HG11, HC5, HG13, HO3, HC6, HD5, HJ3, HJ0, HJ1, HJ2, HJ5, HJ6, HJ7, HG14, HG15 in one. No condition. -/
import Derived.Lib.QuietBelow
import Derived.Sort.Grow
import Derived.Shelf.SlSortCmp.WholeK
import Derived.Lib.RowBridge
import Derived.Shelf.SlSortCmp.NoneTotal
import Derived.Test.YtgemaohdlibboaaGreatDoorZFnInstanceFormat5
/- Walks: the program reads a fact. No condition. -/
namespace Go.Proofs.YtgemaohdlibboaaGreatDoor.H
open Go Go.RowKit Go.Proofs.YtgemaohdlibboaaGreatDoorW.PrintWords Go.Proofs.YtgemaohdlibboaaGreatDoorW.PrintLast
open Go.Proofs.YtgemaohdlibboaaGreatDoor.Reg (On on_draw)
set_option maxHeartbeats 4000000
set_option maxRecDepth 100000
set_option linter.unusedVariables false
set_option linter.unusedSimpArgs false

section
variable {fn : Func} {p u : Tmp} {tmps : Array Value} {w : World} {g : Nat} {t : TypeId} {cs : Array Value} {fr : Nat × Nat}
theorem retFB (h : fn.results = #[.cell p 60, .tmp u]) (hp : tmps.getD p undef = .pointer (some ⟨g, 0, none⟩)) (hg : w.heap[g]? = some (.cells cs t fr)) (hs : cs.size = 2) : (results fn tmps).run Tryz.prog w = .ok (.tuple #[.agg cs, tmps.getD u undef]) w :=
  results_ct h tmps w g t cs fr _ hp hg Tryz.underlying60 rfl (by rw [hs]; kernel_rfl)
end
theorem iParseFact_calls (w : World) (A : Option Addr) (c : Nat) (rs : List Rel) (h : Rels w A c rs) (s : List UInt8) (hl : s.length ≤ 1048576) : Calls Tryz.prog 43 #[.slice A rs.length c, .string (strB s)] w (Got fun v w' => ∃ v1, v = .tuple #[.agg #[.int .i64 (parF rs s).1.1, v1], .bool (parF rs s).2] ∧ OI w' w.heap.size v1 (parF rs s).1.2 ∧ On w w') := by
  have hl' := Aside0.mk hl
  have h' := Aside0.mk h
  clear hl h
  have hb0 := Aside0.mk (On.alloc (On.refl w) (.cells #[.int .i64 0, .slice none 0 0] 60 (0, 0)))
  have hL0 := Aside0.mk (loc_new w #[.int .i64 0, .slice none 0 0] 60)
  have hc2l := Aside0.mk (cut_rest_len s 40)
  have hpf := Aside0.mk (show parF rs s = if (Lib.cut s [40]).2.2 = true ∧ fmtF rs (idxFrom (nmP (Lib.cut s [40]).1) rs 0, vsW (cutS 44 (Lib.trimSuffix (Lib.cut s [40]).2.1 [41]))) = s then ((idxFrom (nmP (Lib.cut s [40]).1) rs 0, vsW (cutS 44 (Lib.trimSuffix (Lib.cut s [40]).2.1 [41]))), true) else ((0, []), false) from rfl)
  have hct' := Aside0.mk (Cut_calls (w.alloc (.cells #[.int .i64 0, .slice none 0 0] 60 (0, 0))) s 40 (by have := hl'.out; omega))
  obtain ⟨ct, hct⟩ : ∃ ct, Lib.cut s [40] = ct := ⟨_, rfl⟩
  rw [hct] at hpf hc2l hct'
  clear hct
  obtain ⟨s1, s2, s3⟩ := ct
  simp only at hpf hc2l hct'
  go_enter Tryz.func43, Tryz.ntmps43
  go_wp2_with (go_at_call 55; refine Stop.out ?_)
  refine ⟨(hct'.out).mono ?_⟩
  rintro e w1 ⟨rfl, hb1⟩
  replace hL0 := Aside0.mk (blk_below hL0.out hb1)
  replace hb0 := Aside0.mk (hb0.out.trans hb1)
  clear hb1
  go_wp2_with (go_at_call 111; refine Stop.out ?_)
  refine ⟨(iRelationIndex_calls _ A c rs (h'.out.on hb0.out) s1).mono ?_⟩
  rintro e w2 ⟨rfl, hb1⟩
  replace hL0 := Aside0.mk (blk_below hL0.out hb1)
  replace hb0 := Aside0.mk (hb0.out.trans hb1)
  clear hb1
  obtain ⟨ix, hix⟩ : ∃ ix, idxFrom (nmP s1) rs 0 = ix := ⟨_, rfl⟩
  rw [hix] at hpf ⊢
  clear hix
  have hfill := alloc_fill w2
  go_wp2_with (go_at_call 112; refine Stop.out ?_)
  clear hfill
  have hyb := Aside0.mk (loc_new w2 #[.int .i64 ix, .slice none 0 0] 60)
  have hBy := Aside0.mk (On.alloc (On.refl w2) (.cells #[.int .i64 ix, .slice none 0 0] 60))
  have hsy := Aside0.mk (show (w2.alloc (.cells #[.int .i64 ix, .slice none 0 0] 60 (0, 0))).heap.size = w2.heap.size + 1 by simp only [World.size_alloc])
  obtain ⟨Wy, hWy⟩ : ∃ Wy, w2.alloc (.cells #[.int .i64 ix, .slice none 0 0] 60 (0, 0)) = Wy := ⟨_, rfl⟩
  rw [hWy] at hyb hBy hsy ⊢
  clear hWy
  refine ⟨(TrimSuffix_calls Wy s2 (by have := hc2l.out; have := hl'.out; omega)).mono ?_⟩
  rintro e w3 ⟨rfl, hb3⟩
  have hB3 := Aside0.mk (hBy.out.trans hb3)
  have hy3 := Aside0.mk (blk_below hyb.out hb3)
  have hs3 := Aside0.mk (show w2.heap.size + 1 ≤ w3.heap.size by have := hsy.out; have := hb3.size; omega)
  have htl := Aside0.mk (trim_len s2 [41])
  obtain ⟨tx, htx⟩ : ∃ tx, Lib.trimSuffix s2 [41] = tx := ⟨_, rfl⟩
  rw [htx] at hpf htl ⊢
  clear htx hb3 hyb hBy hsy
  go_wp2_with (go_at_call 56; refine Stop.out ?_)
  refine ⟨(Split_calls _ tx 44 (by have := htl.out; have := hc2l.out; have := hl'.out; omega)).mono ?_⟩
  rintro e w4 ⟨v, rfl, hO, hb4⟩
  have hwl := Aside0.mk (cutS_len 44 tx)
  obtain ⟨ws, hws⟩ : ∃ ws, cutS 44 tx = ws := ⟨_, rfl⟩
  rw [hws] at hO hpf hwl
  clear hws
  obtain ⟨A2, n2, rfl, hSt⟩ := OSt.slice hO
  have hmx : ws.length ≤ 9223372036854775807 := hSt.max
  have hO4 := Aside0.mk (own_lower hO hs3.out)
  have hB4 := Aside0.mk (hB3.out.trans hb4)
  have hy4 := Aside0.mk (blk_below hy3.out hb4)
  have hs4 := Aside0.mk (show w2.heap.size + 1 ≤ w4.heap.size by have := hs3.out; have := hb4.size; omega)
  have hwl' := Aside0.mk (show ws.length ≤ 1048577 by have := hwl.out; have := htl.out; have := hc2l.out; have := hl'.out; omega)
  clear hO hSt hb4 hB3 hy3 hs3 htl hwl
  go_wp2
  go_loopw [28] (fun v wr => ∃ (k : Nat) (xs : List Int) (A' : Option Addr) (c' : Nat), k ≤ ws.length ∧ v = .int .i64 k ∧ Aside0 (xs = vsW (ws.take k)) ∧ Aside0 (OI wr (w2.heap.size + 1) (.slice A' xs.length c') xs) ∧ Aside0 (OSt wr (w2.heap.size + 1) (.slice A2 ws.length n2) ws) ∧ Aside0 (w2.heap.size + 1 ≤ wr.heap.size) ∧ Aside0 (Ex (fun b => w2.heap.size ≤ b) w2 wr) ∧ wr.heap[w2.heap.size]? = some (.cells #[.int .i64 ix, .slice A' xs.length c'] 60 (0, 0))) (fun v _ => ws.length - (intOf v).toNat)
  case atStart => exact ⟨0, [], none, 0, Nat.zero_le _, rfl, ⟨rfl⟩, ⟨World.ownsRow_nil _ _ _ _⟩, hO4, hs4, ⟨Ex.of_on hB4.out⟩, hy4.out⟩
  case round =>
    obtain ⟨k, xs, A', c', hk, rfl, hxs, hO, hOs, hsz, hE, hy⟩ := hrel
    have hlen := Aside0.mk (show xs.length = k by rw [hxs.out, vsW, List.length_map, List.length_take]; omega)
    have hB := Aside0.mk (Ex.to_on hE.out fun i hi => hi)
    have hLr := Aside0.mk (blk_below hL0.out hB.out)
    have hBw := Aside0.mk (hb0.out.trans hB.out)
    have hcy := blk_cell hy
    have hy' := Aside0.mk hy
    clear hy
    by_cases hlt : k < ws.length
    · obtain ⟨ad, rfl, hx⟩ := (OSt.same hOs.out).2.cell k hlt
      obtain ⟨vv, hvv⟩ : ∃ vv, (parV ws[k]).1 = vv := ⟨_, rfl⟩
      have hvb := Aside0.mk (show -9223372036854775808 ≤ vv ∧ vv ≤ 9223372036854775807 by rw [← hvv]; exact parV_wide _)
      have hsuc := Aside0.mk (vsW_succ ws k hlt)
      have hpc := Aside0.mk (fun W => iParseValue_calls W ws[k])
      obtain ⟨wd, hwd⟩ : ∃ wd, ws[k] = wd := ⟨_, rfl⟩
      rw [hwd] at hx hvv hpc
      rw [hwd, hvv] at hsuc
      rw [hvv] at hpc
      clear hwd hvv
      go_wp2_with (go_at_call 113; refine Stop.out ?_)
      refine ⟨(hpc.out _).mono ?_⟩
      rintro e w5 ⟨rfl, hb5⟩
      have hE5 := Aside0.mk (hE.out.then_on hb5)
      have hO5 := Aside0.mk (pw_own_below hO.out hb5)
      have hOs5 := Aside0.mk (pw_own_below hOs.out hb5)
      have hsz5 := Aside0.mk (Nat.le_trans hsz.out hb5.size)
      have hy5 := Aside0.mk (blk_below hy'.out hb5)
      have hcy5 := blk_cell hy5.out
      clear hb5 hx hcy
      go_wp2_with (refine gate 41 ?_)
      have hB7 := Aside0.mk (On.alloc (On.refl w5) (.cells #[.int .i64 vv] 3 (0, 0)))
      have hR7 := Aside0.mk (lit_RI2 hvb.out (On.refl (w5.alloc (.cells #[.int .i64 vv] 3 (0, 0)))))
      generalize w5.alloc (.cells #[.int .i64 vv] 3 (0, 0)) = w7 at hB7 hR7 ⊢
      have hO7 := Aside0.mk (pw_own_below hO5.out hB7.out)
      have hOs7 := Aside0.mk (pw_own_below hOs5.out hB7.out)
      obtain ⟨zs, hz⟩ : ∃ zs, xs ++ [vv] = zs := ⟨_, rfl⟩
      have hz' := Aside0.mk hz
      refine ⟨apI 41 hz (OI.to hO7.out) hR7.out (Nat.le_trans hsz5.out hB7.out.size) (by have := hlen.out; have := hwl'.out; omega) fun v8 w8 hO8' hg8 hat8 => ?_⟩
      have hO8 := OI.of hO8'
      obtain ⟨A8, c8, rfl⟩ := own_slice hO8
      have hgy : some w2.heap.size ≠ Value.ownBlock (.slice A' xs.length c') := fun e => by have := own_base hO.out _ e.symm; omega
      have hk8 := blk_grown hg8 (blk_below hy5.out hB7.out) hgy
      have hcy8 := blk_cell hk8
      have hf8 := blk_frozen hk8
      have hk8' := Aside0.mk hk8
      have hOs8 := Aside0.mk (own_ex hOs7.out (Ex.of_grown hg8) (fun i hi e => own_ne_blk hOs7.out hO7.out (by decide) hi e.symm))
      have hO8' := Aside0.mk hO8
      have hg8' := Aside0.mk hg8
      clear hk8 hgy hcy5 hz hat8 hO8 hg8
      go_wp2
      refine ⟨⟨k + 1, zs, A8, c8, by omega, by go_num, ⟨?_⟩, ⟨ownsRow_setCell_below hO8'.out (by simp) _⟩, ⟨ownsRow_setCell_below hOs8.out (by simp) _⟩, ⟨?_⟩, ⟨?_⟩, blk_set hk8'.out 1 _⟩, by simp [intOf]; omega⟩
      · rw [← hz'.out, hsuc.out, hxs.out]
      · have h3 := hg8'.out.size; have h4 := hB7.out.size; have := hsz5.out; simp [World.setCell]; omega
      · exact ((hE5.out.then_on hB7.out).trans (Ex.of_grown hg8'.out) (fun i _ e => by have := own_base hO7.out i e.symm; omega)).trans (Ex.set _ _ _) (fun i _ e => by have h : i = w2.heap.size := e; omega)
    · have e1 : ws.take k = ws := List.take_of_length_le (by omega)
      rw [e1] at hxs
      have hI := Aside0.mk (ints_of hO.out (by rw [hxs.out]; exact vsW_inR ws))
      have hpx := Aside0.mk (show parF rs s = if s3 = true ∧ fmtF rs (ix, xs) = s then ((ix, xs), true) else ((0, []), false) by rw [hxs.out]; exact hpf.out)
      have hgl := Aside0.mk (blk_lt hL0.out)
      clear e1
      cases s3 with
      | false =>
        have hq := Aside0.mk (show parF rs s = ((0, []), false) by rw [hpx.out, if_neg (by simp)])
        have hcr : ∀ i, wr.cell? ⟨w.heap.size, i, none⟩ = _ := blk_cell hLr.out
        have hfr : ∀ i, wr.frozen? ⟨w.heap.size, i, none⟩ = _ := blk_frozen hLr.out
        go_wp2
        refine bodyPost_ret (retFB rfl rfl (g := w.heap.size) (blk_set (blk_set hLr.out 0 _) 1 _) rfl) rfl ?_
        exact ⟨_, rfl, .slice none 0 0, by rw [hq.out]; rfl, by rw [hq.out]; exact World.ownsRow_nil _ _ _ _, Reg.On.set (Reg.On.set hBw.out (by simp) _) (by simp) _⟩
      | true =>
        by_cases e : fmtF rs (ix, xs) = s
        · have hq := Aside0.mk (show parF rs s = ((ix, xs), true) by rw [hpx.out, if_pos ⟨rfl, e⟩])
          have hbn : ((strB (fmtF rs (ix, xs))).toList != (strB s).toList) = false := by rw [str_bne]; simp [e]
          have hbm : ((strB (fmtF rs (ix, xs))).toList == (strB s).toList) = true := by rw [str_beq]; simp [e]
          have hbo : ((strB (fmtF rs (ix, xs))).toList = (strB s).toList) = True := eq_true (beq_iff_eq.1 hbm)
          have he := Aside0.mk e
          clear e
          go_wp2_with (go_at_call 44; refine Stop.out ?_)
          refine ⟨(iFormatFact_calls _ A c rs (h'.out.on hBw.out) A' c' (ix, xs) hI.out).mono ?_⟩
          rintro e w6 ⟨rfl, hb6⟩
          have hy6 := Aside0.mk (blk_below hy'.out hb6)
          have hL6 := Aside0.mk (blk_below hLr.out hb6)
          have hcy6 := blk_cell hy6.out
          have hcr : ∀ i, w6.cell? ⟨w.heap.size, i, none⟩ = _ := blk_cell hL6.out
          have hfr : ∀ i, w6.frozen? ⟨w.heap.size, i, none⟩ = _ := blk_frozen hL6.out
          have hb6' := Aside0.mk hb6
          clear hb6 hcy
          go_wp2
          refine bodyPost_ret (retFB rfl rfl (g := w.heap.size) (blk_set (blk_set hL6.out 0 _) 1 _) rfl) rfl ?_
          exact ⟨_, rfl, .slice A' xs.length c', by rw [hq.out]; rfl, by rw [hq.out]; exact own_lower (ownsRow_setCell_below (ownsRow_setCell_below (pw_own_below hO.out hb6'.out) (by have := hgl.out; simp; omega) _) (by have := hgl.out; simp; omega) _) (by have := hgl.out; omega), Reg.On.set (Reg.On.set (hBw.out.trans hb6'.out) (by simp) _) (by simp) _⟩
        · have hq := Aside0.mk (show parF rs s = ((0, []), false) by rw [hpx.out, if_neg (fun h => e h.2)])
          have hbn : ((strB (fmtF rs (ix, xs))).toList != (strB s).toList) = true := by rw [str_bne]; simp [e]
          have hbm : ((strB (fmtF rs (ix, xs))).toList == (strB s).toList) = false := by rw [str_beq]; simp [e]
          have hbo : ((strB (fmtF rs (ix, xs))).toList = (strB s).toList) = False := eq_false (fun h => by rw [h] at hbm; simp at hbm)
          have he := Aside0.mk e
          clear e
          go_wp2_with (go_at_call 44; refine Stop.out ?_)
          refine ⟨(iFormatFact_calls _ A c rs (h'.out.on hBw.out) A' c' (ix, xs) hI.out).mono ?_⟩
          rintro e w6 ⟨rfl, hb6⟩
          have hL6 := Aside0.mk (blk_below hLr.out hb6)
          have hcr : ∀ i, w6.cell? ⟨w.heap.size, i, none⟩ = _ := blk_cell hL6.out
          have hfr : ∀ i, w6.frozen? ⟨w.heap.size, i, none⟩ = _ := blk_frozen hL6.out
          have hb6' := Aside0.mk hb6
          clear hb6 hcy
          go_wp2
          refine bodyPost_ret (retFB rfl rfl (g := w.heap.size) (blk_set (blk_set hL6.out 0 _) 1 _) rfl) rfl ?_
          exact ⟨_, rfl, .slice none 0 0, by rw [hq.out]; rfl, by rw [hq.out]; exact World.ownsRow_nil _ _ _ _, Reg.On.set (Reg.On.set (hBw.out.trans hb6'.out) (by simp) _) (by simp) _⟩
end Go.Proofs.YtgemaohdlibboaaGreatDoor.H
/- Walks: the reference reads relations. No condition. -/
namespace Go.Proofs.YtgemaohdlibboaaGreatDoor.H
open Go Go.RowKit Go.Proofs.YtgemaohdlibboaaGreatDoorW.PrintWords Go.Proofs.YtgemaohdlibboaaGreatDoorW.PrintLast
open Go.Proofs.YtgemaohdlibboaaGreatDoor.Reg (On on_draw)
set_option maxHeartbeats 4000000
set_option maxRecDepth 100000
set_option linter.unusedVariables false
set_option linter.unusedSimpArgs false

theorem str_nnil (a : List UInt8) : ((strB a).toList != ([] : List UInt8)) = decide (a ≠ []) := by
  rw [bne, str_nil]; by_cases h : a = [] <;> simp [h]
theorem alloc_set' (w : World) (cs : Array Value) (t : TypeId) (j : Nat) (v : Value) : (w.alloc (.cells cs t (0, 0))).setCell ⟨w.heap.size, j, none⟩ v = w.alloc (.cells (cs.setIfInBounds j v) t (0, 0)) := alloc_set w cs t j v
theorem sParseRelations_calls (w : World) (s : List UInt8) (hl : s.length ≤ 2000000) : Calls Tryz.prog 40 #[.string (strB s)] w (Got fun v w' => ∃ v1, v = .tuple #[v1, .bool (parR s).2] ∧ OR w' w.heap.size v1 (parR s).1 ∧ On w w') := by
  have hl' := Aside0.mk hl
  clear hl
  have hp := Aside0.mk (show parR s = if s = [] then ([], true) else parL s (cutS 32 s) [] by unfold parR; rfl)
  have hwl := Aside0.mk (cutS_len 32 s)
  go_enter Tryz.func40, Tryz.ntmps40
  go_wp2_with (go_at_call 54; refine Stop.out ?_)
  refine ⟨(l3Cut_calls _ s 32 hl'.out).mono ?_⟩
  rintro e w1 ⟨v, rfl, hO, hb⟩
  obtain ⟨ws, hws⟩ : ∃ ws, cutS 32 s = ws := ⟨_, rfl⟩
  have hws0 := Aside0.mk (show s = [] → ws = [[]] from fun h => by rw [← hws, h]; rfl)
  rw [hws] at hO hp hwl
  obtain ⟨A, n, rfl, hSt⟩ := OSt.slice hO
  have hOw := Aside0.mk (own_lower hO (On.alloc (On.refl w) (.cells #[] 95 (0, 0))).size)
  have hb' := Aside0.mk hb
  have hmx : ws.length ≤ 9223372036854775807 := hSt.max
  clear hO hSt hb hws
  go_wp2
  go_loopw [4, 6] (fun v4 v6 wr => ∃ (k : Nat) (out : List Rel), k ≤ ws.length ∧ v6 = .int .i64 k ∧ OR wr w.heap.size v4 out ∧ out.length ≤ k ∧ Aside0 (parL s (ws.drop k) out = parL s ws []) ∧ Aside0 (s = [] → out = []) ∧ On w wr ∧ OSt wr w.heap.size (.slice A ws.length n) ws) (fun _ v6 _ => ws.length - (intOf v6).toNat)
  case atStart => exact ⟨0, [], Nat.zero_le _, rfl, pw_own_below (ownR0 rfl (Nat.le_refl _)) hb'.out, Nat.le_refl _, ⟨rfl⟩, ⟨fun _ => rfl⟩, (On.alloc (On.refl _) _).trans hb'.out, hOw.out⟩
  case round =>
    obtain ⟨k, out, hk, rfl, hO, hol, hq, hsn, hB, hOs⟩ := hrel
    have hO' := Aside0.mk hO
    have hol' := Aside0.mk hol
    have hWW := Aside0.mk hB
    have hOs' := Aside0.mk hOs
    clear hB hO hol hOs
    by_cases hlt : k < ws.length
    · by_cases hs0 : s = []
      · have hsb := Aside0.mk (show ((strB s).toList != ([] : List UInt8)) = false by rw [str_nnil]; simp [hs0])
        have hsb1 := hsb.out
        have hsb2 : ((strB s).toList == ([] : List UInt8)) = true := by rw [str_nil]; simp [hs0]
        have hsb3 : ((strB s).toList = ([] : List UInt8)) = True := eq_true (beq_iff_eq.1 hsb2)
        have hend := Aside0.mk (show (if fmtR out = s then (out, true) else ([], false)) = parR s by rw [hp.out, if_pos hs0, hsn.out hs0, hs0, fmtR_nil, if_pos rfl])
        clear hs0 hq hsn
        obtain ⟨Ao, co, hvo, hRo⟩ := OR.rd hO'.out
        subst hvo
        have hRo' := Aside0.mk hRo
        clear hRo
        by_cases e : fmtR out = s
        · have hbn : ((strB (fmtR out)).toList != (strB s).toList) = false := by rw [str_bne]; simp [e]
          have hbm : ((strB (fmtR out)).toList == (strB s).toList) = true := by rw [str_beq]; simp [e]
          have hbo : ((strB (fmtR out)).toList = (strB s).toList) = True := eq_true (beq_iff_eq.1 hbm)
          have he := Aside0.mk e
          clear e
          go_wp2_with (go_at_call 108; refine (sFormatRelations_calls _ Ao co out hRo'.out).mono ?_; rintro e w2 ⟨rfl, hb2⟩; have hb2' := Aside0.mk hb2; clear hb2)
          go_ret2
          have h1 := hend.out
          rw [if_pos he.out] at h1
          exact ⟨_, rfl, _, by rw [← h1]; rfl, by rw [← h1]; exact pw_own_below hO'.out hb2'.out, hWW.out.trans hb2'.out⟩
        · have hbn : ((strB (fmtR out)).toList != (strB s).toList) = true := by rw [str_bne]; simp [e]
          have hbm : ((strB (fmtR out)).toList == (strB s).toList) = false := by rw [str_beq]; simp [e]
          have hbo : ((strB (fmtR out)).toList = (strB s).toList) = False := eq_false (fun h => by rw [h] at hbm; simp at hbm)
          have he := Aside0.mk e
          clear e
          go_wp2_with (go_at_call 108; refine (sFormatRelations_calls _ Ao co out hRo'.out).mono ?_; rintro e w2 ⟨rfl, hb2⟩; have hb2' := Aside0.mk hb2; clear hb2)
          go_ret2
          have h1 := hend.out
          rw [if_neg he.out] at h1
          exact ⟨_, rfl, _, by rw [← h1]; rfl, by rw [← h1]; exact ownR0 rfl (hWW.out.trans hb2'.out).size, (hWW.out.trans hb2'.out).trans (On.alloc (On.refl _) _)⟩
      · have hsb := Aside0.mk (show ((strB s).toList != ([] : List UInt8)) = true by rw [str_nnil]; simp [hs0])
        have hsb1 := hsb.out
        have hsb2 : ((strB s).toList == ([] : List UInt8)) = false := by rw [str_nil]; simp [hs0]
        have hsb3 : ((strB s).toList = ([] : List UInt8)) = False := eq_false (fun h => by rw [h] at hsb2; simp at hsb2)
        obtain ⟨ad, rfl, hx⟩ := (OSt.same hOs'.out).2.cell k hlt
        have hk' := Aside0.mk hlt
        have hst := Aside0.mk ((parL_drop s ws k hlt out).symm.trans hq.out)
        obtain ⟨wd, hwd⟩ : ∃ wd, ws[k] = wd := ⟨_, rfl⟩
        rw [hwd] at hx hst
        replace hp := Aside0.mk (show parR s = parL s ws [] by rw [hp.out, if_neg hs0])
        have hs0' := Aside0.mk hs0
        clear hwd hq hs0 hsn
        have hx2 : (wr.alloc (.cells #[.string ⟨#[]⟩, .int .i64 0, .bool false] 95 (0, 0))).cell? (ad.add k) = some (.string (strB wd)) := ((On.alloc (On.refl wr) (.cells #[.string ⟨#[]⟩, .int .i64 0, .bool false] 95 (0, 0))).eq _ (by rw [hx]; rfl)).trans hx
        clear hx
        cases wd with
        | nil =>
          have hpw := Aside0.mk (parW_none (w := []) (by simp [cutP]))
          have t1 : ((strB []).toList != ([] : List UInt8)) = false := by rw [str_nnil]; simp
          have t2 : ((strB []).toList == ([] : List UInt8)) = true := by rw [str_nil]; simp
          have t3 : ((strB []).toList = ([] : List UInt8)) = True := eq_true (beq_iff_eq.1 t2)
          have hz : (strB []).size = 0 := rfl
          have hfill := alloc_set' wr
          go_wp2
          go_ret2
          have h0 := hst.out
          rw [hpw.out] at h0
          exact ⟨_, rfl, _, by rw [hp.out, ← h0]; rfl, by rw [hp.out, ← h0]; exact ownR0 (by simp only [World.size_alloc]) (by have := hWW.out.size; simp only [World.size_alloc]; omega), hWW.out.trans ((On.alloc (On.refl _) _).trans (On.alloc (On.refl _) _))⟩
        | cons b0 r =>
          have t1 : ((strB (b0 :: r)).toList != ([] : List UInt8)) = true := by rw [str_nnil]; simp
          have t2 : ((strB (b0 :: r)).toList == ([] : List UInt8)) = false := by rw [str_nil]; simp
          have t3 : ((strB (b0 :: r)).toList = ([] : List UInt8)) = False := eq_false (fun h => by rw [h] at t2; simp at t2)
          have hzs : (strB (b0 :: r)).size = r.length + 1 := by rw [strB_size]; rfl
          have hat0 := strB_at (b0 :: r) 0 (by simp) b0 rfl
          have hpos : 0 < (strB (b0 :: r)).size := by omega
          by_cases h43 : b0 = 43
          · subst h43
            have hat0 : ∀ k : 0 < (strB (43 :: r)).size, (((strB (43 :: r))[0]'k).toNat : Int) = 43 := hat0
            have he : (strB (43 :: r)).extract 1 (strB (43 :: r)).size = strB r := by rw [strB_rest]; rfl
            have he2 : (strB (43 :: r)).extract 1 (r.length + 1) = strB r := by rw [← hzs]; exact he
            by_cases h2 : r.length = 2
            · obtain ⟨a, b, rfl⟩ : ∃ a b, r = [a, b] := by
                match r, h2 with
                | [a, b], _ => exact ⟨a, b, rfl⟩
              have hpw := Aside0.mk (parW_some (w := [43, a, b]) (a := a) (b := b) (s := true) (by simp [cutP]))
              clear h2
              have hz : (strB [a, b]).size = 2 := by rw [strB_size]; rfl
              have e1 : (strB [a, b]).extract 0 1 = strB [a] := by rw [strB_extract]; rfl
              have hat := strB_at [a, b] 1 (by simp) b rfl
              have hsub : wrap64 ((b.toNat : Int) - 48) = (b.toNat : Int) - 48 := IntWalk.wrap64_in _ (by have := b.toNat_lt; omega)
              have hwb : wrap64 (b.toNat : Int) = (b.toNat : Int) := IntWalk.wrap64_in _ (by have := b.toNat_lt; omega)
              have he3 : (strB [43, a, b]).extract 1 3 = strB [a, b] := by rw [strB_extract]; rfl
              have hfill := alloc_set' wr
              go_wp2_with (refine gate 51 ?_)
              have hS' := Aside0.mk (On.alloc (On.refl wr) (.cells #[.string (strB [a]), .int .i64 ((b.toNat : Int) - 48), .bool true] 95 (0, 0)))
              clear hfill
              generalize wr.alloc (.cells #[.string (strB [a]), .int .i64 ((b.toNat : Int) - 48), .bool true] 95 (0, 0)) = w3 at hS' ⊢
              clear e1 hat hsub hwb hz
              refine ⟨litN1 51 #[.string (strB [a]), .int .i64 ((b.toNat : Int) - 48), .bool true] 95 ?_⟩
              have hOA := Aside0.mk (own_ex hO'.out (Ex.of_on (S := fun _ => False) (hS'.out.trans (On.alloc (On.refl w3) (.cells #[.string (strB [a]), .int .i64 ((b.toNat : Int) - 48), .bool true] 95 (0, 0))))) (fun _ _ h => h))
              have hBA := Aside0.mk (hWW.out.trans (hS'.out.trans (On.alloc (On.refl w3) (.cells #[.string (strB [a]), .int .i64 ((b.toNat : Int) - 48), .bool true] 95 (0, 0)))))
              obtain ⟨ys, hys⟩ : ∃ ys, out ++ [((strB [a], (b.toNat : Int) - 48, true) : Rel)] = ys := ⟨_, rfl⟩
              have hys' := Aside0.mk hys
              refine apR 52 hys hOA.out (litR1 w3 (strB [a], (b.toNat : Int) - 48, true)) hBA.out.size (by have := hol'.out; have := hk'.out; have := hwl.out; have := hl'.out; simp; omega) fun v3 w4 hO3 hg3 => ?_
              have hO3' := Aside0.mk hO3
              have hB3 := Aside0.mk (Ex.on hBA.out (Ex.of_grown hg3) (fun i e => own_base hO'.out i e.symm))
              have hOs3 := Aside0.mk (own_ex (pw_own_below hOs'.out (hS'.out.trans (On.alloc (On.refl w3) (.cells #[.string (strB [a]), .int .i64 ((b.toNat : Int) - 48), .bool true] 95 (0, 0))))) (Ex.of_grown hg3) (fun i hi e => own_ne_blk (pw_own_below hOs'.out (hS'.out.trans (On.alloc (On.refl w3) (.cells #[.string (strB [a]), .int .i64 ((b.toNat : Int) - 48), .bool true] 95 (0, 0))))) hOA.out (by decide) hi e.symm))
              clear hys hO3 hg3
              go_wp2
              have h0 := hst.out
              rw [hpw.out] at h0
              exact ⟨⟨k + 1, ys, by have := hk'.out; omega, by go_num, hO3'.out, by rw [← hys'.out]; have := hol'.out; simp; omega, ⟨by rw [← hys'.out]; exact h0⟩, ⟨fun e => absurd e hs0'.out⟩, hB3.out, hOs3.out⟩, by simp [intOf]; have := hk'.out; omega⟩
            · have hpw := Aside0.mk (parW_none (w := 43 :: r) (by simpa [cutP] using h2))
              have hz1 : ((strB r).size : Int) ≠ 2 := by rw [strB_size]; omega
              have hz2 : (((strB r).size : Int) != 2) = true := bne_iff_ne.mpr hz1
              have hz3 : (((strB r).size : Int) == 2) = false := beq_eq_false_iff_ne.mpr hz1
              clear h2
              have hfill := alloc_set' wr
              go_wp2
              go_ret2
              have h0 := hst.out
              rw [hpw.out] at h0
              exact ⟨_, rfl, _, by rw [hp.out, ← h0]; rfl, by rw [hp.out, ← h0]; exact ownR0 (by simp only [World.size_alloc]) (by have := hWW.out.size; simp only [World.size_alloc]; omega), hWW.out.trans ((On.alloc (On.refl _) _).trans (On.alloc (On.refl _) _))⟩
          · have c1 : ((b0.toNat : Int) == 43) = false := by simp; exact fun e => h43 (UInt8.toNat_inj.1 (by show b0.toNat = 43; omega))
            have c2 : ((b0.toNat : Int) = 43) = False := eq_false (fun e => h43 (UInt8.toNat_inj.1 (by show b0.toNat = 43; omega)))
            by_cases h2 : r.length = 1
            · obtain ⟨b, rfl⟩ : ∃ b, r = [b] := by
                match r, h2 with
                | [b], _ => exact ⟨b, rfl⟩
              have hpw := Aside0.mk (parW_some (w := [b0, b]) (a := b0) (b := b) (s := false) (by simp [cutP, h43]))
              clear h2 hzs
              have hz : (strB [b0, b]).size = 2 := by rw [strB_size]; rfl
              have e1 : (strB [b0, b]).extract 0 1 = strB [b0] := by rw [strB_extract]; rfl
              have hat := strB_at [b0, b] 1 (by simp) b rfl
              have hsub : wrap64 ((b.toNat : Int) - 48) = (b.toNat : Int) - 48 := IntWalk.wrap64_in _ (by have := b.toNat_lt; omega)
              have hwb : wrap64 (b.toNat : Int) = (b.toNat : Int) := IntWalk.wrap64_in _ (by have := b.toNat_lt; omega)
              have hfill := alloc_set' wr
              go_wp2_with (refine gate 51 ?_)
              have hS' := Aside0.mk (On.alloc (On.refl wr) (.cells #[.string (strB [b0]), .int .i64 ((b.toNat : Int) - 48), .bool false] 95 (0, 0)))
              clear hfill
              generalize wr.alloc (.cells #[.string (strB [b0]), .int .i64 ((b.toNat : Int) - 48), .bool false] 95 (0, 0)) = w3 at hS' ⊢
              clear e1 hat hsub hwb hz
              refine ⟨litN1 51 #[.string (strB [b0]), .int .i64 ((b.toNat : Int) - 48), .bool false] 95 ?_⟩
              have hOA := Aside0.mk (own_ex hO'.out (Ex.of_on (S := fun _ => False) (hS'.out.trans (On.alloc (On.refl w3) (.cells #[.string (strB [b0]), .int .i64 ((b.toNat : Int) - 48), .bool false] 95 (0, 0))))) (fun _ _ h => h))
              have hBA := Aside0.mk (hWW.out.trans (hS'.out.trans (On.alloc (On.refl w3) (.cells #[.string (strB [b0]), .int .i64 ((b.toNat : Int) - 48), .bool false] 95 (0, 0)))))
              obtain ⟨ys, hys⟩ : ∃ ys, out ++ [((strB [b0], (b.toNat : Int) - 48, false) : Rel)] = ys := ⟨_, rfl⟩
              have hys' := Aside0.mk hys
              refine apR 52 hys hOA.out (litR1 w3 (strB [b0], (b.toNat : Int) - 48, false)) hBA.out.size (by have := hol'.out; have := hk'.out; have := hwl.out; have := hl'.out; simp; omega) fun v3 w4 hO3 hg3 => ?_
              have hO3' := Aside0.mk hO3
              have hB3 := Aside0.mk (Ex.on hBA.out (Ex.of_grown hg3) (fun i e => own_base hO'.out i e.symm))
              have hOs3 := Aside0.mk (own_ex (pw_own_below hOs'.out (hS'.out.trans (On.alloc (On.refl w3) (.cells #[.string (strB [b0]), .int .i64 ((b.toNat : Int) - 48), .bool false] 95 (0, 0))))) (Ex.of_grown hg3) (fun i hi e => own_ne_blk (pw_own_below hOs'.out (hS'.out.trans (On.alloc (On.refl w3) (.cells #[.string (strB [b0]), .int .i64 ((b.toNat : Int) - 48), .bool false] 95 (0, 0))))) hOA.out (by decide) hi e.symm))
              clear hys hO3 hg3
              go_wp2
              have h0 := hst.out
              rw [hpw.out] at h0
              exact ⟨⟨k + 1, ys, by have := hk'.out; omega, by go_num, hO3'.out, by rw [← hys'.out]; have := hol'.out; simp; omega, ⟨by rw [← hys'.out]; exact h0⟩, ⟨fun e => absurd e hs0'.out⟩, hB3.out, hOs3.out⟩, by simp [intOf]; have := hk'.out; omega⟩
            · have hpw := Aside0.mk (parW_none (w := b0 :: r) (by simp [cutP, h43]; omega))
              have hz1 : ((strB (b0 :: r)).size : Int) ≠ 2 := by rw [hzs]; omega
              have hz2 : (((strB (b0 :: r)).size : Int) != 2) = true := bne_iff_ne.mpr hz1
              have hz3 : (((strB (b0 :: r)).size : Int) == 2) = false := beq_eq_false_iff_ne.mpr hz1
              clear h2
              have hfill := alloc_set' wr
              go_wp2
              go_ret2
              have h0 := hst.out
              rw [hpw.out] at h0
              exact ⟨_, rfl, _, by rw [hp.out, ← h0]; rfl, by rw [hp.out, ← h0]; exact ownR0 (by simp only [World.size_alloc]) (by have := hWW.out.size; simp only [World.size_alloc]; omega), hWW.out.trans ((On.alloc (On.refl _) _).trans (On.alloc (On.refl _) _))⟩
    · have hend := Aside0.mk (show (if fmtR out = s then (out, true) else ([], false)) = parR s by
        have h0 := hq.out
        rw [List.drop_of_length_le (by omega), parL] at h0
        rw [hp.out]
        by_cases hs0 : s = []
        · rw [if_pos hs0, hsn.out hs0, hs0, fmtR_nil, if_pos rfl]
        · rw [if_neg hs0]; exact h0)
      clear hq hsn
      obtain ⟨Ao, co, hvo, hRo⟩ := OR.rd hO'.out
      subst hvo
      have hRo' := Aside0.mk hRo
      clear hRo
      by_cases e : fmtR out = s
      · have hbn : ((strB (fmtR out)).toList != (strB s).toList) = false := by rw [str_bne]; simp [e]
        have hbm : ((strB (fmtR out)).toList == (strB s).toList) = true := by rw [str_beq]; simp [e]
        have hbo : ((strB (fmtR out)).toList = (strB s).toList) = True := eq_true (beq_iff_eq.1 hbm)
        have he := Aside0.mk e
        clear e
        go_wp2_with (go_at_call 108; refine (sFormatRelations_calls _ Ao co out hRo'.out).mono ?_; rintro e w2 ⟨rfl, hb2⟩; have hb2' := Aside0.mk hb2; clear hb2)
        go_ret2
        have h1 := hend.out
        rw [if_pos he.out] at h1
        exact ⟨_, rfl, _, by rw [← h1]; rfl, by rw [← h1]; exact pw_own_below hO'.out hb2'.out, hWW.out.trans hb2'.out⟩
      · have hbn : ((strB (fmtR out)).toList != (strB s).toList) = true := by rw [str_bne]; simp [e]
        have hbm : ((strB (fmtR out)).toList == (strB s).toList) = false := by rw [str_beq]; simp [e]
        have hbo : ((strB (fmtR out)).toList = (strB s).toList) = False := eq_false (fun h => by rw [h] at hbm; simp at hbm)
        have he := Aside0.mk e
        clear e
        go_wp2_with (go_at_call 108; refine (sFormatRelations_calls _ Ao co out hRo'.out).mono ?_; rintro e w2 ⟨rfl, hb2⟩; have hb2' := Aside0.mk hb2; clear hb2)
        go_ret2
        have h1 := hend.out
        rw [if_neg he.out] at h1
        exact ⟨_, rfl, _, by rw [← h1]; rfl, by rw [← h1]; exact ownR0 rfl (hWW.out.trans hb2'.out).size, (hWW.out.trans hb2'.out).trans (On.alloc (On.refl _) _)⟩
end Go.Proofs.YtgemaohdlibboaaGreatDoor.H
/- Walks: the program reads an instance. No condition. -/
namespace Go.Proofs.YtgemaohdlibboaaGreatDoor.H
open Go Go.RowKit Go.Proofs.YtgemaohdlibboaaGreatDoorW.PrintWords Go.Proofs.YtgemaohdlibboaaGreatDoorW.PrintLast
open Go.Proofs.YtgemaohdlibboaaGreatDoor.Reg (On on_draw)
set_option maxHeartbeats 4000000
set_option maxRecDepth 100000
set_option linter.unusedVariables false
set_option linter.unusedSimpArgs false

/-- The facts of the first k words. -/
def fcW (rs : List Rel) (ws : List (List UInt8)) : List Fct := ws.map fun w => (parF rs w).1
def okW (rs : List Rel) (ws : List (List UInt8)) : Bool := ws.all fun w => (parF rs w).2
theorem fcW_succ (rs : List Rel) (ws : List (List UInt8)) (k : Nat) (h : k < ws.length) : fcW rs (ws.take (k + 1)) = fcW rs (ws.take k) ++ [(parF rs ws[k]).1] := by
  unfold fcW; rw [List.take_succ_eq_append_getElem h, List.map_append]; rfl
theorem okW_succ (rs : List Rel) (ws : List (List UInt8)) (k : Nat) (h : k < ws.length) : okW rs (ws.take (k + 1)) = (okW rs (ws.take k) && (parF rs ws[k]).2) := by
  unfold okW; rw [List.take_succ_eq_append_getElem h, List.all_append]; simp
theorem parF_vin (rs : List Rel) (s : List UInt8) : InR (parF rs s).1.2 := by
  cases h : (parF rs s).2 with
  | false => rw [(parF_true.2 h).1]; intro x hx; cases hx
  | true => rw [(pf_B h).2.2.1]; exact vsW_inR _
theorem or_rels {w : World} {lo n c : Nat} {A : Option Addr} {rs : List Rel} (h : OR w lo (.slice A n c) rs) : Rels w A c rs := (OR.same2 h).2
theorem oh_fcts {w : World} {lo n c : Nat} {A : Option Addr} {hs : List Hdr} {fs : List Fct} (h : OH w lo (.slice A n c) hs) (hr : Reads w hs fs) : Fcts w A c fs := by
  obtain ⟨A1, c1, e, h1⟩ := h.rd hr
  injection e with e1 e2 e3
  subst e1; subst e3
  exact h1
theorem rep_none (w : World) (lo : Nat) : OIn w lo (.agg #[.slice none 0 0, .slice none 0 0]) [] [] := ⟨_, _, [], rfl, World.ownsRow_nil _ _ _ _, World.ownsRow_nil _ _ _ _, Sep.nil _ _⟩
theorem iParseInstance_calls (w : World) (s : List UInt8) (hl : s.length ≤ 1048576) : Calls Tryz.prog 9 #[.string (strB s)] w (Got fun v w' => ∃ v1, v = .tuple #[v1, .bool (parI s).2] ∧ OIn w' w.heap.size v1 (parI s).1.1 (parI s).1.2 ∧ On w w') := by
  have hl' := Aside0.mk hl
  have hb0 := Aside0.mk (On.alloc (On.refl w) (.cells #[.slice none 0 0, .slice none 0 0] 25 (0, 0)))
  have hL0 := Aside0.mk (loc_new w #[.slice none 0 0, .slice none 0 0] 25)
  have hc2l := Aside0.mk (cut_rest_len s 59)
  have hc1l := Aside0.mk (show (Lib.cut s [59]).1.length ≤ s.length by unfold Lib.cut; split <;> simp; omega)
  have hct' := Aside0.mk (Cut_calls (w.alloc (.cells #[.slice none 0 0, .slice none 0 0] 25 (0, 0))) s 59 (by omega))
  have hcan := Aside0.mk (show canI s = ((parR (Lib.cut s [59]).1).1, if (Lib.cut s [59]).2.1 = [] then [] else fcW (parR (Lib.cut s [59]).1).1 (cutS 32 (Lib.cut s [59]).2.1)) from rfl)
  have hokP := Aside0.mk (show okP s = ((parR (Lib.cut s [59]).1).2 && (if (Lib.cut s [59]).2.1 = [] then true else okW (parR (Lib.cut s [59]).1).1 (cutS 32 (Lib.cut s [59]).2.1))) from rfl)
  clear hl
  obtain ⟨ct, hct⟩ : ∃ ct, Lib.cut s [59] = ct := ⟨_, rfl⟩
  rw [hct] at hc2l hc1l hct' hcan hokP
  clear hct
  obtain ⟨s1, s2, s3⟩ := ct
  simp only at hc2l hc1l hct' hcan hokP
  go_enter Tryz.func9, Tryz.ntmps9
  go_wp2_with (go_at_call 55; refine Stop.out ?_)
  refine ⟨(hct'.out).mono ?_⟩
  rintro e w1 ⟨rfl, hb1⟩
  replace hL0 := Aside0.mk (blk_below hL0.out hb1)
  replace hb0 := Aside0.mk (hb0.out.trans hb1)
  clear hb1
  go_wp2_with (go_at_call 37; refine Stop.out ?_)
  have hpr := iParseRelations_calls w1 s1 (by have := hc1l.out; have := hl'.out; omega)
  obtain ⟨rs, hrs⟩ : ∃ rs, (parR s1).1 = rs := ⟨_, rfl⟩
  obtain ⟨ok0, hok0⟩ : ∃ b, (parR s1).2 = b := ⟨_, rfl⟩
  rw [hrs] at hcan hokP
  rw [hok0] at hokP
  rw [hrs, hok0] at hpr
  refine ⟨hpr.mono ?_⟩
  clear hpr hrs hok0
  rintro e w2 ⟨_, rfl, vR, rfl, hO, hb1⟩
  obtain ⟨AR, cR, rfl, -⟩ := OR.rd hO
  obtain ⟨nr, hnr⟩ : ∃ nr, rs.length = nr := ⟨_, rfl⟩
  rw [hnr] at hO ⊢
  have hOR := Aside0.mk hO
  have hRlo := Aside0.mk (show w.heap.size + 1 ≤ w1.heap.size from blk_lt hL0.out)
  have hnr' := Aside0.mk hnr
  replace hL0 := Aside0.mk (blk_below hL0.out hb1)
  replace hb0 := Aside0.mk (hb0.out.trans hb1)
  clear hb1 hO hnr
  have hyb := Aside0.mk (loc_new w2 #[.slice AR nr cR, .slice none 0 0] 25)
  have hBy := Aside0.mk (On.alloc (On.refl w2) (.cells #[.slice AR nr cR, .slice none 0 0] 25 (0, 0)))
  have hsy := Aside0.mk (show (w2.alloc (.cells #[.slice AR nr cR, .slice none 0 0] 25 (0, 0))).heap.size = w2.heap.size + 1 by simp only [World.size_alloc])
  have hfill := alloc_fill w2
  by_cases h2 : s2 = []
  · have t1 : ((strB s2).toList != ([] : List UInt8)) = false := by rw [str_nnil]; simp [h2]
    have t2 : ((strB s2).toList == ([] : List UInt8)) = true := by rw [str_nil]; simp [h2]
    have t3 : ((strB s2).toList = ([] : List UInt8)) = True := eq_true (beq_iff_eq.1 t2)
    rw [if_pos h2] at hcan hokP
    obtain ⟨fs, hfs⟩ : ∃ fs : List Fct, [] = fs := ⟨_, rfl⟩
    rw [hfs] at hcan
    have hok : Aside0 _ := hokP
    replace hok := Aside0.mk (show okP s = ok0 by rw [hokP.out]; simp)
    have hbad := Aside0.mk (show ok0 = false ∨ fmtI rs fs ≠ s → parI s = (([], []), false) from fun h => pi_F (h.elim (fun h => .inl (by rw [hok.out, h])) fun h => .inr (.inl (by rw [hcan.out]; exact h))))
    have hgood := Aside0.mk (show fmtI rs fs = s → parI s = ((rs, fs), true) from fun h => by rw [pi_T (by rw [hcan.out]; exact h), hcan.out])
    clear hok h2 hokP
    obtain ⟨okk, hokk⟩ : ∃ b, ok0 = b := ⟨_, rfl⟩
    rw [hokk] at hbad ⊢
    clear hokk
    have hB := hBy
    have hLr := Aside0.mk (blk_below hL0.out hB.out)
    have hBw := Aside0.mk (hb0.out.trans hB.out)
    have hy' := hyb
    have hO := Aside0.mk (show OH (w2.alloc (.cells #[.slice AR nr cR, .slice none 0 0] 25 (0, 0))) (w2.heap.size + 1) (.slice none 0 0) [] from World.ownsRow_nil _ _ _ _)
    have hS := Aside0.mk (show Sep (w2.alloc (.cells #[.slice AR nr cR, .slice none 0 0] 25 (0, 0))) (w2.heap.size + 1) [] fs by rw [← hfs]; exact Sep.nil _ _)
    have hcy := blk_cell hy'.out
    clear hfs hsy hyb hBy
    have hI := Aside0.mk (show OH (w2.alloc (.cells #[.slice AR nr cR, .slice none 0 0] 25 (0, 0))) (w2.heap.size + 1) (.slice none 0 0) ([] : List Hdr) ∧ Sep (w2.alloc (.cells #[.slice AR nr cR, .slice none 0 0] 25 (0, 0))) (w2.heap.size + 1) ([] : List Hdr) fs from ⟨hO.out, hS.out⟩)
    have hn := Aside0.mk (show 0 = fs.length from hS.out.len)
    have hRr := Aside0.mk (or_rels (pw_own_below hOR.out hB.out))
    have hFr := Aside0.mk (oh_fcts hO.out hS.out.reads)
    have hRl := Aside0.mk (show nr = rs.length from (OR.same2 hOR.out).1)
    have hgl := Aside0.mk (blk_lt hL0.out)
    cases okk with
    | false =>
      have hq := Aside0.mk (hbad.out (.inl rfl))
      have hcr : ∀ i, (w2.alloc (.cells #[.slice AR nr cR, .slice none 0 0] 25 (0, 0))).cell? ⟨w.heap.size, i, none⟩ = _ := blk_cell hLr.out
      have hfr : ∀ i, (w2.alloc (.cells #[.slice AR nr cR, .slice none 0 0] 25 (0, 0))).frozen? ⟨w.heap.size, i, none⟩ = _ := blk_frozen hLr.out
      go_wp2
      refine bodyPost_ret (retIB rfl rfl (g := w.heap.size) (blk_set (blk_set hLr.out 0 _) 1 _) rfl) rfl ?_
      exact ⟨_, rfl, .agg #[.slice none 0 0, .slice none 0 0], by rw [hq.out]; rfl, by rw [hq.out]; exact rep_none _ _, Reg.On.set (Reg.On.set hBw.out (by simp) _) (by simp) _⟩
    | true =>
      by_cases e : fmtI rs fs = s
      · have hq := Aside0.mk (hgood.out e)
        have hbn : ((strB (fmtI rs fs)).toList != (strB s).toList) = false := by rw [str_bne]; simp [e]
        have hbm : ((strB (fmtI rs fs)).toList == (strB s).toList) = true := by rw [str_beq]; simp [e]
        have hbo : ((strB (fmtI rs fs)).toList = (strB s).toList) = True := eq_true (beq_iff_eq.1 hbm)
        have he := Aside0.mk e
        clear e
        go_wp2_with (go_at_call 15; refine Stop.out ?_)
        have hcall := iFormatInstance_calls (w2.alloc (.cells #[.slice AR nr cR, .slice none 0 0] 25 (0, 0))) AR cR none 0 rs fs hRr.out hFr.out
        rw [← hRl.out, ← hn.out] at hcall
        refine ⟨hcall.mono ?_⟩
        clear hcall
        rintro e w6 ⟨rfl, hb6⟩
        have hy6 := Aside0.mk (blk_below hy'.out hb6)
        have hL6 := Aside0.mk (blk_below hLr.out hb6)
        have hcy6 := blk_cell hy6.out
        have hcr : ∀ i, w6.cell? ⟨w.heap.size, i, none⟩ = _ := blk_cell hL6.out
        have hfr : ∀ i, w6.frozen? ⟨w.heap.size, i, none⟩ = _ := blk_frozen hL6.out
        have hb6' := Aside0.mk hb6
        clear hb6 hcy
        go_wp2
        refine bodyPost_ret (retIB rfl rfl (g := w.heap.size) (blk_set (blk_set hL6.out 0 _) 1 _) rfl) rfl ?_
        have hOI : OIn w6 (w.heap.size + 1) (.agg #[.slice AR nr cR, .slice none 0 0]) rs fs := ⟨_, _, ([] : List Hdr), rfl, own_lower (pw_own_below hOR.out (hB.out.trans hb6'.out)) hRlo.out, own_lower (pw_own_below hO.out hb6'.out) (by have := hgl.out; omega), (hS.out.on hb6'.out).lower (by have := hgl.out; omega)⟩
        exact ⟨_, rfl, .agg #[.slice AR nr cR, .slice none 0 0], by rw [hq.out]; rfl, by rw [hq.out]; exact ((hOI.set (by simp) _).set (by simp) _).lower (by omega), Reg.On.set (Reg.On.set (hBw.out.trans hb6'.out) (by simp) _) (by simp) _⟩
      · have hq := Aside0.mk (hbad.out (.inr e))
        have hbn : ((strB (fmtI rs fs)).toList != (strB s).toList) = true := by rw [str_bne]; simp [e]
        have hbm : ((strB (fmtI rs fs)).toList == (strB s).toList) = false := by rw [str_beq]; simp [e]
        have hbo : ((strB (fmtI rs fs)).toList = (strB s).toList) = False := eq_false (fun h => by rw [h] at hbm; simp at hbm)
        have he := Aside0.mk e
        clear e
        go_wp2_with (go_at_call 15; refine Stop.out ?_)
        have hcall := iFormatInstance_calls (w2.alloc (.cells #[.slice AR nr cR, .slice none 0 0] 25 (0, 0))) AR cR none 0 rs fs hRr.out hFr.out
        rw [← hRl.out, ← hn.out] at hcall
        refine ⟨hcall.mono ?_⟩
        clear hcall
        rintro e w6 ⟨rfl, hb6⟩
        have hL6 := Aside0.mk (blk_below hLr.out hb6)
        have hcr : ∀ i, w6.cell? ⟨w.heap.size, i, none⟩ = _ := blk_cell hL6.out
        have hfr : ∀ i, w6.frozen? ⟨w.heap.size, i, none⟩ = _ := blk_frozen hL6.out
        have hb6' := Aside0.mk hb6
        clear hb6 hcy
        go_wp2
        refine bodyPost_ret (retIB rfl rfl (g := w.heap.size) (blk_set (blk_set hL6.out 0 _) 1 _) rfl) rfl ?_
        exact ⟨_, rfl, .agg #[.slice none 0 0, .slice none 0 0], by rw [hq.out]; rfl, by rw [hq.out]; exact rep_none _ _, Reg.On.set (Reg.On.set (hBw.out.trans hb6'.out) (by simp) _) (by simp) _⟩
  · have t1 : ((strB s2).toList != ([] : List UInt8)) = true := by rw [str_nnil]; simp [h2]
    have t2 : ((strB s2).toList == ([] : List UInt8)) = false := by rw [str_nil]; simp [h2]
    have t3 : ((strB s2).toList = ([] : List UInt8)) = False := eq_false (fun h => by rw [h] at t2; simp at t2)
    rw [if_neg h2] at hcan hokP
    clear h2
    go_wp2_with (go_at_call 56; refine Stop.out ?_)
    clear hfill t1 t2 t3
    obtain ⟨Wy, hWy⟩ : ∃ Wy, w2.alloc (.cells #[.slice AR nr cR, .slice none 0 0] 25 (0, 0)) = Wy := ⟨_, rfl⟩
    rw [hWy] at hyb hBy hsy ⊢
    clear hWy
    refine ⟨(Split_calls Wy s2 32 (by have := hc2l.out; have := hl'.out; omega)).mono ?_⟩
    rintro e w4 ⟨v, rfl, hO, hb4⟩
    have hwl := Aside0.mk (cutS_len 32 s2)
    have hwp := Aside0.mk (cutS_piece 32 s2)
    obtain ⟨ws, hws⟩ : ∃ ws, cutS 32 s2 = ws := ⟨_, rfl⟩
    rw [hws] at hO hcan hokP hwl hwp
    clear hws
    obtain ⟨A2, n2, rfl, hSt⟩ := OSt.slice hO
    have hmx : ws.length ≤ 9223372036854775807 := hSt.max
    have hO4 := Aside0.mk (own_lower hO (Nat.le_of_eq hsy.out.symm))
    have hB4 := Aside0.mk (hBy.out.trans hb4)
    have hy4 := Aside0.mk (blk_below hyb.out hb4)
    have hs4 := Aside0.mk (show w2.heap.size + 1 ≤ w4.heap.size by have := hsy.out; have := hb4.size; omega)
    have hwl' := Aside0.mk (show ws.length ≤ 1048577 by have := hwl.out; have := hc2l.out; have := hl'.out; omega)
    clear hO hSt hb4 hBy hyb hsy hwl
    go_wp2
    go_loopw [8, 32] (fun v8 v wr => ∃ (k : Nat) (okk : Bool) (hs : List Hdr) (A' : Option Addr) (c' : Nat), k ≤ ws.length ∧ v8 = .bool okk ∧ v = .int .i64 k ∧ Aside0 (okk = (ok0 && okW rs (ws.take k))) ∧ Aside0 (OH wr (w2.heap.size + 1) (.slice A' hs.length c') hs) ∧ Aside0 (Sep wr (w2.heap.size + 1) hs (fcW rs (ws.take k))) ∧ Aside0 (OSt wr (w2.heap.size + 1) (.slice A2 ws.length n2) ws) ∧ Aside0 (w2.heap.size + 1 ≤ wr.heap.size) ∧ Aside0 (Ex (fun b => w2.heap.size ≤ b) w2 wr) ∧ Aside0 (wr.heap[w2.heap.size]? = some (.cells #[.slice AR nr cR, .slice A' hs.length c'] 25 (0, 0)))) (fun _ v _ => ws.length - (intOf v).toNat)
    case atStart => exact ⟨0, ok0, [], none, 0, Nat.zero_le _, rfl, rfl, ⟨by simp [okW]⟩, ⟨World.ownsRow_nil _ _ _ _⟩, ⟨Sep.nil _ _⟩, hO4, hs4, ⟨Ex.of_on hB4.out⟩, hy4⟩
    case round =>
      obtain ⟨k, okk, hs, A', c', hk, rfl, rfl, hok0, hO, hS, hOs, hsz, hE, hy'⟩ := hrel
      have hlen := Aside0.mk (show hs.length = k by have := hS.out.len; rw [fcW, List.length_map, List.length_take] at this; omega)
      have hB := Aside0.mk (Ex.to_on hE.out fun i hi => hi)
      have hLr := Aside0.mk (blk_below hL0.out hB.out)
      have hBw := Aside0.mk (hb0.out.trans hB.out)
      by_cases hlt : k < ws.length
      · obtain ⟨ad, rfl, hx⟩ := (OSt.same hOs.out).2.cell k hlt
        have hsuc := Aside0.mk (fcW_succ rs ws k hlt)
        have hsok := Aside0.mk (okW_succ rs ws k hlt)
        have hpl := Aside0.mk (show ws[k].length ≤ 1048576 by have := hwp.out _ (List.getElem_mem hlt); have := hc2l.out; have := hl'.out; omega)
        have hpc := Aside0.mk (iParseFact_calls wr AR cR rs (or_rels (pw_own_below hOR.out hB.out)) ws[k] hpl.out)
        have hpi := Aside0.mk (parF_vin rs ws[k])
        obtain ⟨f, hf⟩ : ∃ f, (parF rs ws[k]).1 = f := ⟨_, rfl⟩
        obtain ⟨fb, hfb⟩ : ∃ fb, (parF rs ws[k]).2 = fb := ⟨_, rfl⟩
        obtain ⟨wd, hwd⟩ : ∃ wd, ws[k] = wd := ⟨_, rfl⟩
        rw [hnr'.out] at hpc
        rw [hf] at hsuc hpc hpi
        rw [hfb] at hsok hpc
        rw [hwd] at hx hpc
        clear hwd hf hfb hpl
        go_wp2_with (go_at_call 43; refine Stop.out ?_)
        clear hx
        refine ⟨(hpc.out).mono ?_⟩
        clear hpc
        rintro e w5 ⟨_, rfl, v1, rfl, hO5, hb5⟩
        obtain ⟨A5, c5, rfl⟩ := own_slice hO5
        have hfill := alloc_fill w5
        have hOv := Aside0.mk hO5
        have hb5' := Aside0.mk hb5
        have hBx := Aside0.mk (On.alloc (On.refl w5) (.cells #[.int .i64 f.1, .slice A5 f.2.length c5] 60 (0, 0)))
        have hcf := blk_cell (loc_new w5 #[.int .i64 f.1, .slice A5 f.2.length c5] 60)
        have hcy := blk_cell (blk_below hy'.out (hb5.trans hBx.out))
        clear hO5 hb5
        cases okk with
        | false =>
          go_wp2_with (refine gate 50 ?_)
          clear hfill hcf hcy
          obtain ⟨w6, hw6⟩ : ∃ w6, w5.alloc (.cells #[.int .i64 f.1, .slice A5 f.2.length c5] 60 (0, 0)) = w6 := ⟨_, rfl⟩
          have hz6 : (w5.alloc (.cells #[.int .i64 f.1, .slice A5 f.2.length c5] 60 (0, 0))).heap.size = w5.heap.size + 1 := by simp only [World.size_alloc]
          rw [hw6] at hBx hz6 ⊢
          clear hw6
          have hB7 := Aside0.mk (On.alloc (On.refl w6) (.cells #[.int .i64 f.1, .slice A5 f.2.length c5] 60 (0, 0)))
          have hR7 := Aside0.mk (lit_RH (On.refl (w6.alloc (.cells #[.int .i64 f.1, .slice A5 f.2.length c5] 60 (0, 0)))))
          obtain ⟨w7, hw7⟩ : ∃ w7, w6.alloc (.cells #[.int .i64 f.1, .slice A5 f.2.length c5] 60 (0, 0)) = w7 := ⟨_, rfl⟩
          rw [hw7] at hB7 hR7 ⊢
          rw [hz6] at hR7
          clear hw7 hz6
          have hB67 := Aside0.mk (hBx.out.trans hB7.out)
          have hBa := Aside0.mk (hb5'.out.trans hB67.out)
          have hO7 := Aside0.mk (pw_own_below hO.out hBa.out)
          have hOs7 := Aside0.mk (pw_own_below hOs.out hBa.out)
          obtain ⟨zs, hz⟩ : ∃ zs, hs ++ [(f.1, A5, f.2.length, c5)] = zs := ⟨_, rfl⟩
          refine ⟨apH 50 hz hO7.out hR7.out (Nat.le_trans hsz.out hBa.out.size) (by have := hlen.out; have := hwl'.out; simp; omega) fun v8 w8 hO8 hg8 => ?_⟩
          obtain ⟨A8, c8, rfl⟩ := own_slice hO8
          have hS8 := Aside0.mk (copy_more (r := f.1) (vs := f.2) hS.out hsz.out hO.out hOv.out hpi.out hb5'.out hB67.out hg8)
          replace hS8 := Aside0.mk (hz ▸ hS8.out)
          have hgy : some w2.heap.size ≠ Value.ownBlock (.slice A' hs.length c') := fun e => by have := own_base hO.out _ e.symm; omega
          have hk8 := blk_grown hg8 (blk_below hy'.out hBa.out) hgy
          have hcy8 := blk_cell hk8
          have hf8 := blk_frozen hk8
          have hk8' := Aside0.mk hk8
          have hOs8 := Aside0.mk (own_ex hOs7.out (Ex.of_grown hg8) (fun i hi e => own_ne_blk hOs7.out hO7.out (by decide) hi e.symm))
          have hO8' := Aside0.mk hO8
          have hg8' := Aside0.mk hg8
          clear hk8 hgy hz hO8 hg8
          go_wp2
          refine ⟨⟨k + 1, _, zs, A8, c8, by omega, rfl, by go_num, ⟨?_⟩, ⟨ownsRow_setCell_below hO8'.out (by simp) _⟩, ⟨?_⟩, ⟨ownsRow_setCell_below hOs8.out (by simp) _⟩, ⟨?_⟩, ⟨?_⟩, ⟨blk_set hk8'.out 1 _⟩⟩, by simp [intOf]; omega⟩
          · (have h1 := hsok.out; have h2 := hok0.out; rw [h1, ← Bool.and_assoc, ← h2]; first | done | rfl)
          · rw [hsuc.out]; exact (hS8.out.set (by simp) _)
          · have h3 := hg8'.out.size; have h4 := hBa.out.size; have := hsz.out; simp [World.setCell]; omega
          · exact ((hE.out.then_on hBa.out).trans (Ex.of_grown hg8'.out) (fun i _ e => by have := own_base hO7.out i e.symm; omega)).trans (Ex.set _ _ _) (fun i _ e => by have h : i = w2.heap.size := e; omega)
        | true =>
          go_wp2_with (refine gate 50 ?_)
          clear hfill hcf hcy
          obtain ⟨w6, hw6⟩ : ∃ w6, w5.alloc (.cells #[.int .i64 f.1, .slice A5 f.2.length c5] 60 (0, 0)) = w6 := ⟨_, rfl⟩
          have hz6 : (w5.alloc (.cells #[.int .i64 f.1, .slice A5 f.2.length c5] 60 (0, 0))).heap.size = w5.heap.size + 1 := by simp only [World.size_alloc]
          rw [hw6] at hBx hz6 ⊢
          clear hw6
          have hB7 := Aside0.mk (On.alloc (On.refl w6) (.cells #[.int .i64 f.1, .slice A5 f.2.length c5] 60 (0, 0)))
          have hR7 := Aside0.mk (lit_RH (On.refl (w6.alloc (.cells #[.int .i64 f.1, .slice A5 f.2.length c5] 60 (0, 0)))))
          obtain ⟨w7, hw7⟩ : ∃ w7, w6.alloc (.cells #[.int .i64 f.1, .slice A5 f.2.length c5] 60 (0, 0)) = w7 := ⟨_, rfl⟩
          rw [hw7] at hB7 hR7 ⊢
          rw [hz6] at hR7
          clear hw7 hz6
          have hB67 := Aside0.mk (hBx.out.trans hB7.out)
          have hBa := Aside0.mk (hb5'.out.trans hB67.out)
          have hO7 := Aside0.mk (pw_own_below hO.out hBa.out)
          have hOs7 := Aside0.mk (pw_own_below hOs.out hBa.out)
          obtain ⟨zs, hz⟩ : ∃ zs, hs ++ [(f.1, A5, f.2.length, c5)] = zs := ⟨_, rfl⟩
          refine ⟨apH 50 hz hO7.out hR7.out (Nat.le_trans hsz.out hBa.out.size) (by have := hlen.out; have := hwl'.out; simp; omega) fun v8 w8 hO8 hg8 => ?_⟩
          obtain ⟨A8, c8, rfl⟩ := own_slice hO8
          have hS8 := Aside0.mk (copy_more (r := f.1) (vs := f.2) hS.out hsz.out hO.out hOv.out hpi.out hb5'.out hB67.out hg8)
          replace hS8 := Aside0.mk (hz ▸ hS8.out)
          have hgy : some w2.heap.size ≠ Value.ownBlock (.slice A' hs.length c') := fun e => by have := own_base hO.out _ e.symm; omega
          have hk8 := blk_grown hg8 (blk_below hy'.out hBa.out) hgy
          have hcy8 := blk_cell hk8
          have hf8 := blk_frozen hk8
          have hk8' := Aside0.mk hk8
          have hOs8 := Aside0.mk (own_ex hOs7.out (Ex.of_grown hg8) (fun i hi e => own_ne_blk hOs7.out hO7.out (by decide) hi e.symm))
          have hO8' := Aside0.mk hO8
          have hg8' := Aside0.mk hg8
          clear hk8 hgy hz hO8 hg8
          go_wp2
          refine ⟨⟨k + 1, _, zs, A8, c8, by omega, rfl, by go_num, ⟨?_⟩, ⟨ownsRow_setCell_below hO8'.out (by simp) _⟩, ⟨?_⟩, ⟨ownsRow_setCell_below hOs8.out (by simp) _⟩, ⟨?_⟩, ⟨?_⟩, ⟨blk_set hk8'.out 1 _⟩⟩, by simp [intOf]; omega⟩
          · (have h1 := hsok.out; have h2 := hok0.out; rw [h1, ← Bool.and_assoc, ← h2]; first | done | rfl)
          · rw [hsuc.out]; exact (hS8.out.set (by simp) _)
          · have h3 := hg8'.out.size; have h4 := hBa.out.size; have := hsz.out; simp [World.setCell]; omega
          · exact ((hE.out.then_on hBa.out).trans (Ex.of_grown hg8'.out) (fun i _ e => by have := own_base hO7.out i e.symm; omega)).trans (Ex.set _ _ _) (fun i _ e => by have h : i = w2.heap.size := e; omega)
      · have e1 : ws.take k = ws := List.take_of_length_le (by omega)
        rw [e1] at hok0 hS
        have hok := Aside0.mk (show okP s = okk by rw [hokP.out, hok0.out])
        obtain ⟨fs, hfs⟩ : ∃ fs, fcW rs ws = fs := ⟨_, rfl⟩
        rw [hfs] at hS hcan
        have hbad := Aside0.mk (show okP s = false ∨ fmtI rs fs ≠ s → parI s = (([], []), false) from fun h => pi_F (h.elim (fun h => .inl h) fun h => .inr (.inl (by rw [hcan.out]; exact h))))
        have hgood := Aside0.mk (show fmtI rs fs = s → parI s = ((rs, fs), true) from fun h => by rw [pi_T (by rw [hcan.out]; exact h), hcan.out])
        replace hbad := Aside0.mk (show okk = false ∨ fmtI rs fs ≠ s → parI s = (([], []), false) from by rw [← hok.out]; exact hbad.out)
        clear e1 hfs hok0 hok
        have hcy := blk_cell hy'.out
        have hI := Aside0.mk (show OH wr (w2.heap.size + 1) (.slice A' hs.length c') hs ∧ Sep wr (w2.heap.size + 1) hs fs from ⟨hO.out, hS.out⟩)
        have hn := Aside0.mk (show hs.length = fs.length from hS.out.len)
        have hRr := Aside0.mk (or_rels (pw_own_below hOR.out hB.out))
        have hFr := Aside0.mk (oh_fcts hO.out hS.out.reads)
        have hRl := Aside0.mk (show nr = rs.length from (OR.same2 hOR.out).1)
        have hgl := Aside0.mk (blk_lt hL0.out)
        cases okk with
        | false =>
          have hq := Aside0.mk (hbad.out (.inl rfl))
          have hcr : ∀ i, wr.cell? ⟨w.heap.size, i, none⟩ = _ := blk_cell hLr.out
          have hfr : ∀ i, wr.frozen? ⟨w.heap.size, i, none⟩ = _ := blk_frozen hLr.out
          go_wp2
          refine bodyPost_ret (retIB rfl rfl (g := w.heap.size) (blk_set (blk_set hLr.out 0 _) 1 _) rfl) rfl ?_
          exact ⟨_, rfl, .agg #[.slice none 0 0, .slice none 0 0], by rw [hq.out]; rfl, by rw [hq.out]; exact rep_none _ _, Reg.On.set (Reg.On.set hBw.out (by simp) _) (by simp) _⟩
        | true =>
          by_cases e : fmtI rs fs = s
          · have hq := Aside0.mk (hgood.out e)
            have hbn : ((strB (fmtI rs fs)).toList != (strB s).toList) = false := by rw [str_bne]; simp [e]
            have hbm : ((strB (fmtI rs fs)).toList == (strB s).toList) = true := by rw [str_beq]; simp [e]
            have hbo : ((strB (fmtI rs fs)).toList = (strB s).toList) = True := eq_true (beq_iff_eq.1 hbm)
            have he := Aside0.mk e
            clear e
            go_wp2_with (go_at_call 15; refine Stop.out ?_)
            have hcall := iFormatInstance_calls wr AR cR A' c' rs fs hRr.out hFr.out
            rw [← hRl.out, ← hn.out] at hcall
            refine ⟨hcall.mono ?_⟩
            clear hcall
            rintro e w6 ⟨rfl, hb6⟩
            have hy6 := Aside0.mk (blk_below hy'.out hb6)
            have hL6 := Aside0.mk (blk_below hLr.out hb6)
            have hcy6 := blk_cell hy6.out
            have hcr : ∀ i, w6.cell? ⟨w.heap.size, i, none⟩ = _ := blk_cell hL6.out
            have hfr : ∀ i, w6.frozen? ⟨w.heap.size, i, none⟩ = _ := blk_frozen hL6.out
            have hb6' := Aside0.mk hb6
            clear hb6 hcy
            go_wp2
            refine bodyPost_ret (retIB rfl rfl (g := w.heap.size) (blk_set (blk_set hL6.out 0 _) 1 _) rfl) rfl ?_
            have hOI : OIn w6 (w.heap.size + 1) (.agg #[.slice AR nr cR, .slice A' hs.length c']) rs fs := ⟨_, _, hs, rfl, own_lower (pw_own_below hOR.out (hB.out.trans hb6'.out)) hRlo.out, own_lower (pw_own_below hO.out hb6'.out) (by have := hgl.out; omega), (hS.out.on hb6'.out).lower (by have := hgl.out; omega)⟩
            exact ⟨_, rfl, .agg #[.slice AR nr cR, .slice A' hs.length c'], by rw [hq.out]; rfl, by rw [hq.out]; exact ((hOI.set (by simp) _).set (by simp) _).lower (by omega), Reg.On.set (Reg.On.set (hBw.out.trans hb6'.out) (by simp) _) (by simp) _⟩
          · have hq := Aside0.mk (hbad.out (.inr e))
            have hbn : ((strB (fmtI rs fs)).toList != (strB s).toList) = true := by rw [str_bne]; simp [e]
            have hbm : ((strB (fmtI rs fs)).toList == (strB s).toList) = false := by rw [str_beq]; simp [e]
            have hbo : ((strB (fmtI rs fs)).toList = (strB s).toList) = False := eq_false (fun h => by rw [h] at hbm; simp at hbm)
            have he := Aside0.mk e
            clear e
            go_wp2_with (go_at_call 15; refine Stop.out ?_)
            have hcall := iFormatInstance_calls wr AR cR A' c' rs fs hRr.out hFr.out
            rw [← hRl.out, ← hn.out] at hcall
            refine ⟨hcall.mono ?_⟩
            clear hcall
            rintro e w6 ⟨rfl, hb6⟩
            have hL6 := Aside0.mk (blk_below hLr.out hb6)
            have hcr : ∀ i, w6.cell? ⟨w.heap.size, i, none⟩ = _ := blk_cell hL6.out
            have hfr : ∀ i, w6.frozen? ⟨w.heap.size, i, none⟩ = _ := blk_frozen hL6.out
            have hb6' := Aside0.mk hb6
            clear hb6 hcy
            go_wp2
            refine bodyPost_ret (retIB rfl rfl (g := w.heap.size) (blk_set (blk_set hL6.out 0 _) 1 _) rfl) rfl ?_
            exact ⟨_, rfl, .agg #[.slice none 0 0, .slice none 0 0], by rw [hq.out]; rfl, by rw [hq.out]; exact rep_none _ _, Reg.On.set (Reg.On.set (hBw.out.trans hb6'.out) (by simp) _) (by simp) _⟩
end Go.Proofs.YtgemaohdlibboaaGreatDoor.H
/- Walks: the reference reads a fact. No condition. -/
namespace Go.Proofs.YtgemaohdlibboaaGreatDoor.H
open Go Go.RowKit Go.Proofs.YtgemaohdlibboaaGreatDoorW.PrintWords Go.Proofs.YtgemaohdlibboaaGreatDoorW.PrintLast
open Go.Proofs.YtgemaohdlibboaaGreatDoor.Reg (On on_draw)
set_option maxHeartbeats 4000000
set_option maxRecDepth 100000
set_option linter.unusedVariables false
set_option linter.unusedSimpArgs false

theorem sParseFact_calls (w : World) (A : Option Addr) (c : Nat) (rs : List Rel) (h : Rels w A c rs) (s : List UInt8) (hl : s.length ≤ 1048576) : Calls Tryz.prog 46 #[.slice A rs.length c, .string (strB s)] w (Got fun v w' => ∃ v1, v = .tuple #[.agg #[.int .i64 (parF rs s).1.1, v1], .bool (parF rs s).2] ∧ OI w' w.heap.size v1 (parF rs s).1.2 ∧ On w w') := by
  have hl' := Aside0.mk hl
  have h' := Aside0.mk h
  clear hl h
  have hb0 := Aside0.mk (On.alloc (On.refl w) (.cells #[.int .i64 0, .slice none 0 0] 60 (0, 0)))
  have hL0 := Aside0.mk (loc_new w #[.int .i64 0, .slice none 0 0] 60)
  by_cases h3 : s.length < 3
  · have hq := Aside0.mk (pf_len (rs := rs) h3)
    have c1 : ((strB s).size < 3) = True := eq_true (by rw [strB_size]; omega)
    have c2 : (((strB s).size : Int) < 3) = True := eq_true (by rw [strB_size]; omega)
    clear h3
    go_enter Tryz.func46, Tryz.ntmps46
    have hcr := blk_cell hL0.out
    have hfr := blk_frozen hL0.out
    go_wp2
    refine bodyPost_ret (retFB rfl rfl (g := w.heap.size) hL0.out rfl) rfl ?_
    exact ⟨_, rfl, .slice none 0 0, by rw [hq.out]; rfl, by rw [hq.out]; exact World.ownsRow_nil _ _ _ _, hb0.out⟩
  · have c1 : ((strB s).size < 3) = False := eq_false (by rw [strB_size]; omega)
    have c2 : (((strB s).size : Int) < 3) = False := eq_false (by rw [strB_size]; omega)
    have hnn := Aside0.mk (show s ≠ [] from fun e => h3 (by rw [e]; simp))
    have e1 : (strB s).extract 0 1 = strB (s.take 1) := by rw [strB_extract]; rfl
    have e2 : (strB s).extract 2 ((strB s).size - 1) = strB ((s.drop 2).take (s.length - 3)) := by rw [strB_extract, strB_size]; rfl
    have hz1 : (1 ≤ (strB s).size) = True := eq_true (by rw [strB_size]; omega)
    have hz2 : 2 ≤ (strB s).size - 1 := by rw [strB_size]; omega
    have hwr : wrap64 (((strB s).size : Int) - 1) = (((strB s).size - 1 : Nat) : Int) := by rw [strB_size, IntWalk.wrap64_in _ (by have := hl'.out; omega)]; omega
    have hwl := Aside0.mk (cutS_len 44 ((s.drop 2).take (s.length - 3)))
    have htl := Aside0.mk (show ((s.drop 2).take (s.length - 3)).length ≤ 1048576 by have := hl'.out; simp; omega)
    have hne := Aside0.mk (fun (e : fmtF rs (idxFrom (nmP (s.take 1)) rs 0, vsW (wsF s)) ≠ s) => pf_ne (rs := rs) e)
    have hye := Aside0.mk (fun (e : fmtF rs (idxFrom (nmP (s.take 1)) rs 0, vsW (wsF s)) = s) => pf_A (rs := rs) e hnn.out)
    have hwd := Aside0.mk (fun (x : List UInt8) (hm : x ∈ wsF s) (e : (parV x).2 = false) => pf_word (rs := rs) hm e)
    obtain ⟨t1, ht1⟩ : ∃ t1, s.take 1 = t1 := ⟨_, rfl⟩
    obtain ⟨tx, htx⟩ : ∃ tx, (s.drop 2).take (s.length - 3) = tx := ⟨_, rfl⟩
    have hwf : wsF s = cutS 44 tx := by unfold wsF; rw [htx]
    rw [ht1] at e1 hne hye
    rw [htx] at e2 hwl htl
    rw [hwf] at hne hye hwd
    have hsl : ∀ wx, (Instr.slice 9 (.string (strB s)) (some (.int .i64 2)) (some (.int .i64 (((strB s).size - 1 : Nat) : Int))) none).run Tryz.prog wx = .ok (.string (strB tx)) wx := fun wx => by
      have h := run_slice_string (P := Tryz.prog) wx 9 (strB s) .i64 .i64 2 (((strB s).size - 1 : Nat) : Int) Tryz.underlying9 (by omega) (by omega) (by omega)
      rw [h, ← e2]; rfl
    clear h3 ht1 htx hwf
    go_enter Tryz.func46, Tryz.ntmps46
    go_wp2_with (go_at_call 117; refine Stop.out ?_)
    refine ⟨(sRelationIndex_calls _ A c rs (h'.out.on hb0.out) t1).mono ?_⟩
    rintro e w2 ⟨rfl, hb1⟩
    replace hL0 := Aside0.mk (blk_below hL0.out hb1)
    replace hb0 := Aside0.mk (hb0.out.trans hb1)
    clear hb1
    obtain ⟨ix, hix⟩ : ∃ ix, idxFrom (nmP t1) rs 0 = ix := ⟨_, rfl⟩
    rw [hix] at hne hye ⊢
    clear hix
    have hfill := alloc_fill w2
    go_wp2_with (go_at_call 54; refine Stop.out ?_)
    clear hfill
    have hyb := Aside0.mk (loc_new w2 #[.int .i64 ix, .slice none 0 0] 60)
    have hBy := Aside0.mk (On.alloc (On.refl w2) (.cells #[.int .i64 ix, .slice none 0 0] 60))
    have hsy := Aside0.mk (show (w2.alloc (.cells #[.int .i64 ix, .slice none 0 0] 60 (0, 0))).heap.size = w2.heap.size + 1 by simp only [World.size_alloc])
    obtain ⟨Wy, hWy⟩ : ∃ Wy, w2.alloc (.cells #[.int .i64 ix, .slice none 0 0] 60 (0, 0)) = Wy := ⟨_, rfl⟩
    rw [hWy] at hyb hBy hsy ⊢
    clear hWy
    refine ⟨(l3Cut_calls Wy tx 44 (by have := htl.out; omega)).mono ?_⟩
    rintro e w4 ⟨v, rfl, hO, hb4⟩
    obtain ⟨ws, hws⟩ : ∃ ws, cutS 44 tx = ws := ⟨_, rfl⟩
    rw [hws] at hO hne hye hwd hwl
    clear hws
    obtain ⟨A2, n2, rfl, hSt⟩ := OSt.slice hO
    have hmx : ws.length ≤ 9223372036854775807 := hSt.max
    have hO4 := Aside0.mk (own_lower hO (Nat.le_of_eq hsy.out.symm))
    have hB4 := Aside0.mk (hBy.out.trans hb4)
    have hy4 := Aside0.mk (blk_below hyb.out hb4)
    have hs4 := Aside0.mk (show w2.heap.size + 1 ≤ w4.heap.size by have := hsy.out; have := hb4.size; omega)
    have hwl' := Aside0.mk (show ws.length ≤ 1048577 by have := hwl.out; have := htl.out; omega)
    clear hO hSt hb4 hBy hyb hsy htl hwl
    clear c1 c2 e1 e2 hz1 hz2 hwr hsl
    go_wp2
    go_loopw [8] (fun v wr => ∃ (k : Nat) (xs : List Int) (A' : Option Addr) (c' : Nat), k ≤ ws.length ∧ v = .int .i64 k ∧ Aside0 (xs = vsW (ws.take k)) ∧ Aside0 (OI wr (w2.heap.size + 1) (.slice A' xs.length c') xs) ∧ Aside0 (OSt wr (w2.heap.size + 1) (.slice A2 ws.length n2) ws) ∧ Aside0 (w2.heap.size + 1 ≤ wr.heap.size) ∧ Aside0 (Ex (fun b => w2.heap.size ≤ b) w2 wr) ∧ wr.heap[w2.heap.size]? = some (.cells #[.int .i64 ix, .slice A' xs.length c'] 60 (0, 0))) (fun v _ => ws.length - (intOf v).toNat)
    case atStart => exact ⟨0, [], none, 0, Nat.zero_le _, rfl, ⟨rfl⟩, ⟨World.ownsRow_nil _ _ _ _⟩, hO4, hs4, ⟨Ex.of_on hB4.out⟩, hy4.out⟩
    case round =>
      obtain ⟨k, xs, A', c', hk, rfl, hxs, hO, hOs, hsz, hE, hy⟩ := hrel
      have hlen := Aside0.mk (show xs.length = k by rw [hxs.out, vsW, List.length_map, List.length_take]; omega)
      have hB := Aside0.mk (Ex.to_on hE.out fun i hi => hi)
      have hLr := Aside0.mk (blk_below hL0.out hB.out)
      have hBw := Aside0.mk (hb0.out.trans hB.out)
      have hy' := Aside0.mk hy
      clear hy
      by_cases hlt : k < ws.length
      · obtain ⟨ad, rfl, hx⟩ := (OSt.same hOs.out).2.cell k hlt
        have hmem := Aside0.mk (hwd.out _ (List.getElem_mem hlt))
        obtain ⟨vv, hvv⟩ : ∃ vv, (parV ws[k]).1 = vv := ⟨_, rfl⟩
        obtain ⟨vb, hvb0⟩ : ∃ vb, (parV ws[k]).2 = vb := ⟨_, rfl⟩
        have hvb := Aside0.mk (show -9223372036854775808 ≤ vv ∧ vv ≤ 9223372036854775807 by rw [← hvv]; exact parV_wide _)
        have hsuc := Aside0.mk (vsW_succ ws k hlt)
        have hpc := Aside0.mk (fun W => sParseValue_calls W ws[k])
        obtain ⟨wd, hwd'⟩ : ∃ wd, ws[k] = wd := ⟨_, rfl⟩
        rw [hwd'] at hx hvv hpc hvb0 hmem
        rw [hwd', hvv] at hsuc
        rw [hvv, hvb0] at hpc
        rw [hvb0] at hmem
        clear hwd' hvv hvb0
        go_wp2_with (go_at_call 118; refine Stop.out ?_)
        refine ⟨(hpc.out _).mono ?_⟩
        rintro e w5 ⟨rfl, hb5⟩
        have hE5 := Aside0.mk (hE.out.then_on hb5)
        have hO5 := Aside0.mk (pw_own_below hO.out hb5)
        have hOs5 := Aside0.mk (pw_own_below hOs.out hb5)
        have hsz5 := Aside0.mk (Nat.le_trans hsz.out hb5.size)
        have hy5 := Aside0.mk (blk_below hy'.out hb5)
        have hL6 := Aside0.mk (blk_below hLr.out hb5)
        have hb6' := Aside0.mk hb5
        clear hb5 hx
        cases vb with
        | false =>
          have hq := Aside0.mk (hmem.out rfl)
          have hcr : ∀ i, w5.cell? ⟨w.heap.size, i, none⟩ = _ := blk_cell hL6.out
          have hfr : ∀ i, w5.frozen? ⟨w.heap.size, i, none⟩ = _ := blk_frozen hL6.out
          go_wp2
          refine bodyPost_ret (retFB rfl rfl (g := w.heap.size) (blk_set (blk_set hL6.out 0 _) 1 _) rfl) rfl ?_
          exact ⟨_, rfl, .slice none 0 0, by rw [hq.out]; rfl, by rw [hq.out]; exact World.ownsRow_nil _ _ _ _, Reg.On.set (Reg.On.set (hBw.out.trans hb6'.out) (by simp) _) (by simp) _⟩
        | true =>
          have hcy5 := blk_cell hy5.out
          go_wp2_with (refine gate 47 ?_)
          have hB7 := Aside0.mk (On.alloc (On.refl w5) (.cells #[.int .i64 vv] 3 (0, 0)))
          have hR7 := Aside0.mk (lit_RI2 hvb.out (On.refl (w5.alloc (.cells #[.int .i64 vv] 3 (0, 0)))))
          generalize w5.alloc (.cells #[.int .i64 vv] 3 (0, 0)) = w7 at hB7 hR7 ⊢
          have hO7 := Aside0.mk (pw_own_below hO5.out hB7.out)
          have hOs7 := Aside0.mk (pw_own_below hOs5.out hB7.out)
          obtain ⟨zs, hz⟩ : ∃ zs, xs ++ [vv] = zs := ⟨_, rfl⟩
          have hz' := Aside0.mk hz
          refine ⟨apI 47 hz (OI.to hO7.out) hR7.out (Nat.le_trans hsz5.out hB7.out.size) (by have := hlen.out; have := hwl'.out; omega) fun v8 w8 hO8' hg8 hat8 => ?_⟩
          have hO8 := OI.of hO8'
          obtain ⟨A8, c8, rfl⟩ := own_slice hO8
          have hgy : some w2.heap.size ≠ Value.ownBlock (.slice A' xs.length c') := fun e => by have := own_base hO.out _ e.symm; omega
          have hk8 := blk_grown hg8 (blk_below hy5.out hB7.out) hgy
          have hcy8 := blk_cell hk8
          have hf8 := blk_frozen hk8
          have hk8' := Aside0.mk hk8
          have hOs8 := Aside0.mk (own_ex hOs7.out (Ex.of_grown hg8) (fun i hi e => own_ne_blk hOs7.out hO7.out (by decide) hi e.symm))
          have hO8' := Aside0.mk hO8
          have hg8' := Aside0.mk hg8
          clear hk8 hgy hcy5 hz hat8 hO8 hg8
          go_wp2
          refine ⟨⟨k + 1, zs, A8, c8, by omega, by go_num, ⟨?_⟩, ⟨ownsRow_setCell_below hO8'.out (by simp) _⟩, ⟨ownsRow_setCell_below hOs8.out (by simp) _⟩, ⟨?_⟩, ⟨?_⟩, blk_set hk8'.out 1 _⟩, by simp [intOf]; omega⟩
          · rw [← hz'.out, hsuc.out, hxs.out]
          · have h3 := hg8'.out.size; have h4 := hB7.out.size; have := hsz5.out; simp [World.setCell]; omega
          · exact ((hE5.out.then_on hB7.out).trans (Ex.of_grown hg8'.out) (fun i _ e => by have := own_base hO7.out i e.symm; omega)).trans (Ex.set _ _ _) (fun i _ e => by have h : i = w2.heap.size := e; omega)
      · have e1 : ws.take k = ws := List.take_of_length_le (by omega)
        rw [e1] at hxs
        have hI := Aside0.mk (ints_of hO.out (by rw [hxs.out]; exact vsW_inR ws))
        rw [← hxs.out] at hne hye
        have hgl := Aside0.mk (blk_lt hL0.out)
        have hcy := blk_cell hy'.out
        clear e1
        by_cases e : fmtF rs (ix, xs) = s
        · have hq := Aside0.mk (hye.out e)
          have hbn : ((strB (fmtF rs (ix, xs))).toList != (strB s).toList) = false := by rw [str_bne]; simp [e]
          have hbm : ((strB (fmtF rs (ix, xs))).toList == (strB s).toList) = true := by rw [str_beq]; simp [e]
          have hbo : ((strB (fmtF rs (ix, xs))).toList = (strB s).toList) = True := eq_true (beq_iff_eq.1 hbm)
          have he := Aside0.mk e
          clear e
          go_wp2_with (go_at_call 114; refine Stop.out ?_)
          refine ⟨(sFormatFact_calls _ A c rs (h'.out.on hBw.out) A' c' (ix, xs) hI.out).mono ?_⟩
          rintro e w6 ⟨rfl, hb6⟩
          have hy6 := Aside0.mk (blk_below hy'.out hb6)
          have hL6 := Aside0.mk (blk_below hLr.out hb6)
          have hcy6 := blk_cell hy6.out
          have hcr : ∀ i, w6.cell? ⟨w.heap.size, i, none⟩ = _ := blk_cell hL6.out
          have hfr : ∀ i, w6.frozen? ⟨w.heap.size, i, none⟩ = _ := blk_frozen hL6.out
          have hb6' := Aside0.mk hb6
          clear hb6 hcy
          go_wp2
          refine bodyPost_ret (retFB rfl rfl (g := w.heap.size) (blk_set (blk_set hL6.out 0 _) 1 _) rfl) rfl ?_
          exact ⟨_, rfl, .slice A' xs.length c', by rw [hq.out]; rfl, by rw [hq.out]; exact own_lower (ownsRow_setCell_below (ownsRow_setCell_below (pw_own_below hO.out hb6'.out) (by have := hgl.out; simp; omega) _) (by have := hgl.out; simp; omega) _) (by have := hgl.out; omega), Reg.On.set (Reg.On.set (hBw.out.trans hb6'.out) (by simp) _) (by simp) _⟩
        · have hq := Aside0.mk (hne.out e)
          have hbn : ((strB (fmtF rs (ix, xs))).toList != (strB s).toList) = true := by rw [str_bne]; simp [e]
          have hbm : ((strB (fmtF rs (ix, xs))).toList == (strB s).toList) = false := by rw [str_beq]; simp [e]
          have hbo : ((strB (fmtF rs (ix, xs))).toList = (strB s).toList) = False := eq_false (fun h => by rw [h] at hbm; simp at hbm)
          have he := Aside0.mk e
          clear e
          go_wp2_with (go_at_call 114; refine Stop.out ?_)
          refine ⟨(sFormatFact_calls _ A c rs (h'.out.on hBw.out) A' c' (ix, xs) hI.out).mono ?_⟩
          rintro e w6 ⟨rfl, hb6⟩
          have hL6 := Aside0.mk (blk_below hLr.out hb6)
          have hcr : ∀ i, w6.cell? ⟨w.heap.size, i, none⟩ = _ := blk_cell hL6.out
          have hfr : ∀ i, w6.frozen? ⟨w.heap.size, i, none⟩ = _ := blk_frozen hL6.out
          have hb6' := Aside0.mk hb6
          clear hb6 hcy
          go_wp2
          refine bodyPost_ret (retFB rfl rfl (g := w.heap.size) (blk_set (blk_set hL6.out 0 _) 1 _) rfl) rfl ?_
          exact ⟨_, rfl, .slice none 0 0, by rw [hq.out]; rfl, by rw [hq.out]; exact World.ownsRow_nil _ _ _ _, Reg.On.set (Reg.On.set (hBw.out.trans hb6'.out) (by simp) _) (by simp) _⟩
end Go.Proofs.YtgemaohdlibboaaGreatDoor.H
/- Walks: the reference reads an instance. No condition. -/
namespace Go.Proofs.YtgemaohdlibboaaGreatDoor.H
open Go Go.RowKit Go.Proofs.YtgemaohdlibboaaGreatDoorW.PrintWords Go.Proofs.YtgemaohdlibboaaGreatDoorW.PrintLast
open Go.Proofs.YtgemaohdlibboaaGreatDoor.Reg (On on_draw)
set_option maxHeartbeats 4000000
set_option maxRecDepth 100000
set_option linter.unusedVariables false
set_option linter.unusedSimpArgs false

theorem sParseInstance_calls (w : World) (s : List UInt8) (hl : s.length ≤ 1048576) : Calls Tryz.prog 8 #[.string (strB s)] w (Got fun v w' => ∃ v1, v = .tuple #[v1, .bool (parI s).2] ∧ OIn w' w.heap.size v1 (parI s).1.1 (parI s).1.2 ∧ On w w') := by
  have hl' := Aside0.mk hl
  have hb0 := Aside0.mk (On.alloc (On.refl w) (.cells #[.slice none 0 0, .slice none 0 0] 25 (0, 0)))
  have hL0 := Aside0.mk (loc_new w #[.slice none 0 0, .slice none 0 0] 25)
  have hcut := Aside0.mk (l3Cut_calls (w.alloc (.cells #[.slice none 0 0, .slice none 0 0] 25 (0, 0))) s 59 (by omega))
  have hpc0 := Aside0.mk (cutS_piece 59 s)
  have hbad := Aside0.mk (fun (h : (cutS 59 s).length ≠ 2) => pi_F (s := s) (.inr (.inr h)))
  have htwo := Aside0.mk (fun (a b : List UInt8) (h : cutS 59 s = [a, b]) => show canI s = ((parR a).1, if b = [] then [] else fcW (parR a).1 (cutS 32 b)) by unfold canI; rw [cut_of_two h]; rfl)
  clear hl
  obtain ⟨w0s, hw0s⟩ : ∃ x, cutS 59 s = x := ⟨_, rfl⟩
  rw [hw0s] at hcut hpc0 hbad htwo
  clear hw0s
  go_enter Tryz.func8, Tryz.ntmps8
  go_wp2_with (go_at_call 54; refine Stop.out ?_)
  refine ⟨(hcut.out).mono ?_⟩
  rintro e w1 ⟨v, rfl, hO, hb1⟩
  obtain ⟨A0, n0, rfl, hSt⟩ := OSt.slice hO
  have hmx0 : w0s.length ≤ 9223372036854775807 := hSt.max
  replace hL0 := Aside0.mk (blk_below hL0.out hb1)
  replace hb0 := Aside0.mk (hb0.out.trans hb1)
  clear hb1
  by_cases h2 : w0s.length = 2
  · obtain ⟨a, b, rfl⟩ : ∃ a b, w0s = [a, b] := by
      match w0s, h2 with
      | [a, b], _ => exact ⟨a, b, rfl⟩
    have hcan0 := Aside0.mk (htwo.out a b rfl)
    have hal := Aside0.mk (show a.length ≤ 1048576 by have := hpc0.out a (by simp); have := hl'.out; omega)
    have hbl := Aside0.mk (show b.length ≤ 1048576 by have := hpc0.out b (by simp); have := hl'.out; omega)
    obtain ⟨ad, rfl, hx0⟩ := hSt.cell 0 (by simp)
    obtain ⟨ad', e', hx1⟩ := hSt.cell 1 (by simp)
    obtain rfl : ad = ad' := by simpa using e'
    have hX0 := Aside0.mk (show w1.cell? ad = some (.string (strB a)) from hx0)
    have hX1 := Aside0.mk (show w1.cell? (ad.add 1) = some (.string (strB b)) from hx1)
    have hyb := Aside0.mk (loc_new w1 #[.slice none 0 0, .slice none 0 0] 25)
    have hBy := Aside0.mk (On.alloc (On.refl w1) (.cells #[.slice none 0 0, .slice none 0 0] 25 (0, 0)))
    have hsy := Aside0.mk (show (w1.alloc (.cells #[.slice none 0 0, .slice none 0 0] 25 (0, 0))).heap.size = w1.heap.size + 1 by simp only [World.size_alloc])
    have hx0' := (hBy.out.eq _ (by rw [hX0.out]; rfl)).trans hX0.out
    clear hcut hpc0 hbad htwo h2 hO hSt hx0 hx1 e'
    go_wp2_with (go_at_call 40; refine Stop.out ?_)
    have hpr := sParseRelations_calls (w1.alloc (.cells #[.slice none 0 0, .slice none 0 0] 25 (0, 0))) a (by have := hal.out; omega)
    obtain ⟨rs, hrs⟩ : ∃ rs, (parR a).1 = rs := ⟨_, rfl⟩
    rw [hrs] at hcan0 hpr
    refine ⟨hpr.mono ?_⟩
    clear hpr hrs
    rintro e w2 ⟨_, rfl, vR, rfl, hO, hb2⟩
    obtain ⟨AR, cR, rfl, -⟩ := OR.rd hO
    obtain ⟨nr, hnr⟩ : ∃ nr, rs.length = nr := ⟨_, rfl⟩
    rw [hnr] at hO ⊢
    rw [hsy.out] at hO
    have hnr' := Aside0.mk hnr
    have hy2 := Aside0.mk (blk_below hyb.out hb2)
    have hB3 := Aside0.mk (Reg.On.set (hBy.out.trans hb2) (Nat.le_refl w1.heap.size) (p := ⟨w1.heap.size, 0, none⟩) (.slice AR nr cR))
    have hx1' := (hB3.out.eq _ (by rw [hX1.out]; rfl)).trans hX1.out
    have hx1a := ((hBy.out.trans hb2).eq _ (by rw [hX1.out]; rfl)).trans hX1.out
    have hx1b := hx1a
    have hx1c := hx1'
    simp only [Addr.add, Nat.one_ne_zero, if_false] at hx1b hx1c
    have hcy2 := blk_cell hy2.out
    have hfy2 := blk_frozen hy2.out
    have hy3 := Aside0.mk (show (w2.setCell ⟨w1.heap.size, 0, none⟩ (.slice AR nr cR)).heap[w1.heap.size]? = some (.cells #[.slice AR nr cR, .slice none 0 0] 25 (0, 0)) from blk_set hy2.out 0 _)
    have hO3 := Aside0.mk (ownsRow_setCell_below hO (show (⟨w1.heap.size, 0, none⟩ : Addr).block < w1.heap.size + 1 by simp) (.slice AR nr cR))
    have hs3 := Aside0.mk (show w1.heap.size + 1 ≤ (w2.setCell ⟨w1.heap.size, 0, none⟩ (.slice AR nr cR)).heap.size by have := hsy.out; have := hb2.size; simp [World.setCell]; omega)
    clear hx0' hO hnr hb2 hyb hBy hsy hX0
    go_wp2_with (go_at_call 54; refine Stop.out ?_)
    clear hcy2 hfy2 hx1' hy2 hx1a hx1b hx1c
    obtain ⟨W3, hW3⟩ : ∃ W3, w2.setCell ⟨w1.heap.size, 0, none⟩ (.slice AR nr cR) = W3 := ⟨_, rfl⟩
    rw [hW3] at hB3 hy3 hO3 hs3 ⊢
    clear hW3
    refine ⟨(l3Cut_calls W3 b 32 (by have := hbl.out; omega)).mono ?_⟩
    rintro e w4 ⟨v, rfl, hO, hb4⟩
    have hwl := Aside0.mk (cutS_len 32 b)
    have hwp := Aside0.mk (cutS_piece 32 b)
    have hwne := Aside0.mk (show 0 < (cutS 32 b).length by obtain ⟨p, r, e⟩ := cutS_ne 32 b; rw [e]; simp)
    obtain ⟨ws, hws⟩ : ∃ ws, cutS 32 b = ws := ⟨_, rfl⟩
    rw [hws] at hO hcan0 hwl hwp hwne
    clear hws
    obtain ⟨A2, n2, rfl, hSt⟩ := OSt.slice hO
    have hmx : ws.length ≤ 9223372036854775807 := hSt.max
    have hO4 := Aside0.mk (own_lower hO hs3.out)
    have hR4 := Aside0.mk (pw_own_below hO3.out hb4)
    have hB4 := Aside0.mk (hB3.out.trans hb4)
    have hy4 := Aside0.mk (blk_below hy3.out hb4)
    have hs4 := Aside0.mk (show w1.heap.size + 1 ≤ w4.heap.size by have := hs3.out; have := hb4.size; omega)
    have hwl' := Aside0.mk (show ws.length ≤ 1048577 by have := hwl.out; have := hbl.out; omega)
    clear hO hSt hb4 hB3 hy3 hO3 hs3 hwl
    go_wp2
    go_loopw [7] (fun v wr => ∃ (k : Nat) (hs : List Hdr) (A' : Option Addr) (c' : Nat), k ≤ ws.length ∧ v = .int .i64 k ∧ Aside0 (OH wr (w1.heap.size + 1) (.slice A' hs.length c') hs) ∧ Aside0 (Sep wr (w1.heap.size + 1) hs (fcW rs (ws.take k))) ∧ Aside0 (b = [] → k = 0) ∧ Aside0 (OSt wr (w1.heap.size + 1) (.slice A2 ws.length n2) ws) ∧ Aside0 (OR wr (w1.heap.size + 1) (.slice AR nr cR) rs) ∧ Aside0 (w1.heap.size + 1 ≤ wr.heap.size) ∧ Aside0 (On w1 wr) ∧ Aside0 (wr.heap[w1.heap.size]? = some (.cells #[.slice AR nr cR, .slice A' hs.length c'] 25 (0, 0)))) (fun v _ => ws.length - (intOf v).toNat)
    case atStart => exact ⟨0, [], none, 0, Nat.zero_le _, rfl, ⟨World.ownsRow_nil _ _ _ _⟩, ⟨Sep.nil _ _⟩, ⟨fun _ => rfl⟩, hO4, hR4, hs4, hB4, hy4⟩
    case round =>
      obtain ⟨k, hs, A', c', hk, rfl, hO, hS, hbk, hOs, hOR, hsz, hB, hy'⟩ := hrel
      have hlen := Aside0.mk (show hs.length = k by have := hS.out.len; rw [fcW, List.length_map, List.length_take] at this; omega)
      have hx1 := (hB.out.eq _ (by rw [hX1.out]; rfl)).trans hX1.out
      have hx1b := hx1
      simp only [Addr.add, Nat.one_ne_zero, if_false] at hx1b
      by_cases hlt : k < ws.length
      · by_cases hb : b = []
        · have t1 : ((strB b).toList != ([] : List UInt8)) = false := by rw [str_nnil]; simp [hb]
          have t2 : ((strB b).toList == ([] : List UInt8)) = true := by rw [str_nil]; simp [hb]
          have t3 : ((strB b).toList = ([] : List UInt8)) = True := eq_true (beq_iff_eq.1 t2)
          have hk0 : k = 0 := hbk.out hb
          obtain ⟨fs, hfs⟩ : ∃ fs : List Fct, fcW rs (ws.take k) = fs := ⟨_, rfl⟩
          have hcan := Aside0.mk (show canI s = (rs, fs) by rw [hcan0.out, if_pos hb, ← hfs, hk0]; rfl)
          rw [hfs] at hS
          have hk0' := Aside0.mk hk0
          clear hfs hb hk0
          have hn := Aside0.mk (show hs.length = fs.length from hS.out.len)
          have hRr := Aside0.mk (or_rels hOR.out)
          have hFr := Aside0.mk (oh_fcts hO.out hS.out.reads)
          have hRl := Aside0.mk (show nr = rs.length from (OR.same2 hOR.out).1)
          have hgl := Aside0.mk (blk_lt hL0.out)
          have hLr := Aside0.mk (blk_below hL0.out hB.out)
          have hBw := Aside0.mk (hb0.out.trans hB.out)
          have hcy := blk_cell hy'.out
          by_cases e : fmtI rs fs = s
          · have hq := Aside0.mk (show parI s = ((rs, fs), true) by rw [pi_T (by rw [hcan.out]; exact e), hcan.out])
            have hbn : ((strB (fmtI rs fs)).toList != (strB s).toList) = false := by rw [str_bne]; simp [e]
            have hbm : ((strB (fmtI rs fs)).toList == (strB s).toList) = true := by rw [str_beq]; simp [e]
            have hbo : ((strB (fmtI rs fs)).toList = (strB s).toList) = True := eq_true (beq_iff_eq.1 hbm)
            have he := Aside0.mk e
            clear e
            go_wp2_with (go_at_call 52; refine Stop.out ?_)
            have hcall := sFormatInstance_calls wr AR cR A' c' rs fs hRr.out hFr.out
            rw [← hRl.out, ← hn.out] at hcall
            refine ⟨hcall.mono ?_⟩
            clear hcall
            rintro e w6 ⟨rfl, hb6⟩
            have hy6 := Aside0.mk (blk_below hy'.out hb6)
            have hL6 := Aside0.mk (blk_below hLr.out hb6)
            have hcy6 := blk_cell hy6.out
            have hcr : ∀ i, w6.cell? ⟨w.heap.size, i, none⟩ = _ := blk_cell hL6.out
            have hfr : ∀ i, w6.frozen? ⟨w.heap.size, i, none⟩ = _ := blk_frozen hL6.out
            have hb6' := Aside0.mk hb6
            clear hb6 hcy
            go_wp2
            refine bodyPost_ret (retIB rfl rfl (g := w.heap.size) (blk_set (blk_set hL6.out 0 _) 1 _) rfl) rfl ?_
            have hOI : OIn w6 (w.heap.size + 1) (.agg #[.slice AR nr cR, .slice A' hs.length c']) rs fs := ⟨_, _, hs, rfl, own_lower (pw_own_below hOR.out hb6'.out) (by have := hgl.out; omega), own_lower (pw_own_below hO.out hb6'.out) (by have := hgl.out; omega), (hS.out.on hb6'.out).lower (by have := hgl.out; omega)⟩
            exact ⟨_, rfl, .agg #[.slice AR nr cR, .slice A' hs.length c'], by rw [hq.out]; rfl, by rw [hq.out]; exact ((hOI.set (by simp) _).set (by simp) _).lower (by omega), Reg.On.set (Reg.On.set (hBw.out.trans hb6'.out) (by simp) _) (by simp) _⟩
          · have hq := Aside0.mk (show parI s = (([], []), false) from pi_F (.inr (.inl (by rw [hcan.out]; exact e))))
            have hbn : ((strB (fmtI rs fs)).toList != (strB s).toList) = true := by rw [str_bne]; simp [e]
            have hbm : ((strB (fmtI rs fs)).toList == (strB s).toList) = false := by rw [str_beq]; simp [e]
            have hbo : ((strB (fmtI rs fs)).toList = (strB s).toList) = False := eq_false (fun h => by rw [h] at hbm; simp at hbm)
            have he := Aside0.mk e
            clear e
            go_wp2_with (go_at_call 52; refine Stop.out ?_)
            have hcall := sFormatInstance_calls wr AR cR A' c' rs fs hRr.out hFr.out
            rw [← hRl.out, ← hn.out] at hcall
            refine ⟨hcall.mono ?_⟩
            clear hcall
            rintro e w6 ⟨rfl, hb6⟩
            have hL6 := Aside0.mk (blk_below hLr.out hb6)
            have hcr : ∀ i, w6.cell? ⟨w.heap.size, i, none⟩ = _ := blk_cell hL6.out
            have hfr : ∀ i, w6.frozen? ⟨w.heap.size, i, none⟩ = _ := blk_frozen hL6.out
            have hb6' := Aside0.mk hb6
            clear hb6 hcy
            go_wp2
            refine bodyPost_ret (retIB rfl rfl (g := w.heap.size) (blk_set (blk_set hL6.out 0 _) 1 _) rfl) rfl ?_
            exact ⟨_, rfl, .agg #[.slice none 0 0, .slice none 0 0], by rw [hq.out]; rfl, by rw [hq.out]; exact rep_none _ _, Reg.On.set (Reg.On.set (hBw.out.trans hb6'.out) (by simp) _) (by simp) _⟩
        · have t1 : ((strB b).toList != ([] : List UInt8)) = true := by rw [str_nnil]; simp [hb]
          have t2 : ((strB b).toList == ([] : List UInt8)) = false := by rw [str_nil]; simp [hb]
          have t3 : ((strB b).toList = ([] : List UInt8)) = False := eq_false (fun h => by rw [h] at t2; simp at t2)
          have hb' := Aside0.mk hb
          clear hb
          obtain ⟨ad2, rfl, hx⟩ := (OSt.same hOs.out).2.cell k hlt
          have hsuc := Aside0.mk (fcW_succ rs ws k hlt)
          have hpl := Aside0.mk (show ws[k].length ≤ 1048576 by have := hwp.out _ (List.getElem_mem hlt); have := hbl.out; omega)
          have hpc := Aside0.mk (fun W (hS : On wr W) => sParseFact_calls W AR cR rs (or_rels (pw_own_below hOR.out hS)) ws[k] hpl.out)
          have hpi := Aside0.mk (parF_vin rs ws[k])
          obtain ⟨f, hf⟩ : ∃ f, (parF rs ws[k]).1 = f := ⟨_, rfl⟩
          obtain ⟨fb, hfb⟩ : ∃ fb, (parF rs ws[k]).2 = fb := ⟨_, rfl⟩
          obtain ⟨wd, hwd⟩ : ∃ wd, ws[k] = wd := ⟨_, rfl⟩
          rw [hnr'.out] at hpc
          rw [hf] at hsuc hpc hpi
          rw [hfb] at hpc
          rw [hwd] at hx hpc
          clear hwd hf hfb hpl
          have hcy := blk_cell hy'.out
          go_wp2
          refine Reg.regionM (.s 0 .L (.s 1 .L (.s 2 .L (.s 3 .L (.s 4 .L (.s 5 .L (.two 6 10 (.leaf [(7,.L),(8,.L),(9,.P),(10,.N)]) (.leaf [(6,.N),(7,.L),(8,.L),(9,.P)])))))))) [11,12] (fun a a' w' => ∃ (A5 : Option Addr) (c5 g : Nat), a' = (Act.put (Act.put (Act.put (Act.put (Act.put (Act.put (Act.put (Act.put (Act.put (Act.put (Act.put (Act.put a (some 42) (.pointer (some ⟨w1.heap.size, 0, none⟩))) (some 43) (.slice AR nr cR)) (some 44) (.slice (some ad2) ws.length n2)) (some 45) (.int .i64 k)) (some 46) (.pointer (some (ad2.add k)))) (some 47) (.string (strB wd))) (some 48) (.tuple #[.agg #[.int .i64 f.1, .slice A5 f.2.length c5], .bool fb])) (some 41) (.tuple #[.agg #[.int .i64 f.1, .slice A5 f.2.length c5], .bool fb])) (some 49) (.agg #[.int .i64 f.1, .slice A5 f.2.length c5])) (some 50) (.bool fb)) (some 8) (.pointer (some ⟨g, 0, none⟩))) (some 9) (.bool fb)) ∧ On wr w' ∧ w'.heap[g]? = some (.cells #[.int .i64 f.1, .slice A5 f.2.length c5] 60 (0, 0)) ∧ OI w' wr.heap.size (.slice A5 f.2.length c5) f.2) (by kernel_rfl) (by kernel_rfl) ?_ ?_
          · refine tL ?_
            refine tL ?_
            refine tL ?_
            refine tL ?_
            refine tL ?_
            refine tL ?_
            refine tTwo ?_ ?_
            · intro u1 hS1
              refine goesF 48 Tryz.func46 ((hpc.out u1 hS1).mono ?_)
              rintro e u2 ⟨_, rfl, v1, rfl, hO5, hb5⟩
              obtain ⟨A5, c5, rfl⟩ := own_slice hO5
              have hO5' := Aside0.mk hO5
              have hQ := Aside0.mk (hS1.trans hb5)
              have h1u := Aside0.mk hS1.size
              refine ⟨_, rfl, hS1.trans hb5, ?_⟩
              simp only [Act.put, List.setIfInBounds_toArray, List.set_cons_zero, List.set_cons_succ]
              clear hO5 hb5 hS1
              refine Reg.tLeaf ?_
              repeat first | refine sP ?_ | refine sS ?_ | refine sA ?_ | refine sL ?_ | refine sQ ?_ | refine sO ?_
              refine stepM (fun u3 hS3 => ?_)
              go_wp2
              refine ⟨hS3.trans (On.alloc (On.refl _) _), ?_⟩
              have hlt2 := Aside0.mk (own_lt hO5'.out)
              have h3u := Aside0.mk hS3.size
              have kZ := Aside0.mk (loc_new u3 #[.int .i64 0, .slice none 0 0] 60)
              have hQ3 := Aside0.mk (hS3.trans (On.alloc (On.refl _) (.cells #[.int .i64 0, .slice none 0 0] 60)))
              clear hS3
              refine Reg.tail_ fun u4 hS4 => ?_
              have kZ4 := Aside0.mk (blk_below kZ.out hS4)
              have hQ4 := Aside0.mk (hQ3.out.trans hS4)
              have cZ := blk_cell kZ4.out
              have fZ := blk_frozen kZ4.out
              clear hS4
              go_wp2
              have hgs : wr.heap.size ≤ u3.heap.size := Nat.le_trans hQ.out.size h3u.out
              refine ⟨A5, c5, u3.heap.size, ?_, Reg.On.set (Reg.On.set (hQ.out.trans hQ4.out) hgs _) hgs _, blk_set (blk_set kZ4.out 0 _) 1 _, ?_⟩
              · try simp only [Act.put, List.setIfInBounds_toArray, List.set_cons_zero, List.set_cons_succ]
                try simp
              · exact own_lower (own_ex (own_ex (pw_own_below hO5'.out hQ4.out) (Ex.set _ _ _) (fun i hi e => by have h1 := hlt2.out i hi; have h2 : i = u3.heap.size := e; have h3 := h3u.out; omega)) (Ex.set _ _ _) (fun i hi e => by have h1 := hlt2.out i hi; have h2 : i = u3.heap.size := e; have h3 := h3u.out; omega)) h1u.out
            · intro u5 hS5
              go_wp2
              refine ⟨hS5.trans (On.alloc (On.refl _) _), ?_⟩
              have kZ := Aside0.mk (loc_new u5 #[.int .i64 0, .slice none 0 0] 60)
              have hQ := Aside0.mk (hS5.trans (On.alloc (On.refl _) (.cells #[.int .i64 0, .slice none 0 0] 60)))
              have h5u := Aside0.mk hS5.size
              clear hS5
              refine Reg.tLeaf ?_
              refine stepM (fun u6 hS6 => ?_)
              refine goesF 48 Tryz.func46 ((hpc.out u6 (hQ.out.trans hS6)).mono ?_)
              rintro e u7 ⟨_, rfl, v1, rfl, hO5, hb5⟩
              obtain ⟨A5, c5, rfl⟩ := own_slice hO5
              have hO5' := Aside0.mk hO5
              have hgl := Aside0.mk (blk_lt (blk_below kZ.out hS6))
              have kZ7 := Aside0.mk (blk_below kZ.out (hS6.trans hb5))
              have hQ7 := Aside0.mk (hQ.out.trans (hS6.trans hb5))
              have h6u := Aside0.mk (Nat.le_trans hQ.out.size hS6.size)
              refine ⟨_, rfl, hS6.trans hb5, ?_⟩
              simp only [Act.put, List.setIfInBounds_toArray, List.set_cons_zero, List.set_cons_succ]
              clear hO5 hb5 hS6
              repeat first | refine sP ?_ | refine sS ?_ | refine sA ?_ | refine sL ?_ | refine sQ ?_ | refine sO ?_
              refine Reg.tail_ fun u8 hS8 => ?_
              have kZ8 := Aside0.mk (blk_below kZ7.out hS8)
              have hQ8 := Aside0.mk (hQ7.out.trans hS8)
              have hO8 := Aside0.mk (pw_own_below hO5'.out hS8)
              have cZ := blk_cell kZ8.out
              have fZ := blk_frozen kZ8.out
              clear hS8
              go_wp2
              refine ⟨A5, c5, u5.heap.size, ?_, Reg.On.set (Reg.On.set hQ8.out h5u.out _) h5u.out _, blk_set (blk_set kZ8.out 0 _) 1 _, ?_⟩
              · try simp only [Act.put, List.setIfInBounds_toArray, List.set_cons_zero, List.set_cons_succ]
                try simp
              · exact own_lower (ownsRow_setCell_below (ownsRow_setCell_below hO8.out hgl.out _) hgl.out _) h6u.out
          rintro a' w5 ⟨A5, c5, g, rfl, hb5, hk5, hO5⟩
          simp only [Act.put, List.setIfInBounds_toArray, List.set_cons_zero, List.set_cons_succ]
          have hOv := Aside0.mk hO5
          have hb5' := Aside0.mk hb5
          have hk5' := Aside0.mk hk5
          have hcf := blk_cell hk5
          have hcy5 := blk_cell (blk_below hy'.out hb5)
          clear hO5 hb5 hk5 hcy hx
          go_wp2_with (refine gate 55 ?_)
          clear hcf hcy5
          have hB7 := Aside0.mk (On.alloc (On.refl w5) (.cells #[.int .i64 f.1, .slice A5 f.2.length c5] 60 (0, 0)))
          have hR7 := Aside0.mk (lit_RH (On.refl (w5.alloc (.cells #[.int .i64 f.1, .slice A5 f.2.length c5] 60 (0, 0)))))
          obtain ⟨w7, hw7⟩ : ∃ w7, w5.alloc (.cells #[.int .i64 f.1, .slice A5 f.2.length c5] 60 (0, 0)) = w7 := ⟨_, rfl⟩
          rw [hw7] at hB7 hR7 ⊢
          clear hw7
          have hBa := Aside0.mk (hb5'.out.trans hB7.out)
          have hO7 := Aside0.mk (pw_own_below hO.out hBa.out)
          have hOs7 := Aside0.mk (pw_own_below hOs.out hBa.out)
          have hOR7 := Aside0.mk (pw_own_below hOR.out hBa.out)
          obtain ⟨zs, hz⟩ : ∃ zs, hs ++ [(f.1, A5, f.2.length, c5)] = zs := ⟨_, rfl⟩
          refine ⟨apH 55 hz hO7.out hR7.out (Nat.le_trans hsz.out hBa.out.size) (by have := hlen.out; have := hwl'.out; simp; omega) fun v8 w8 hO8 hg8 => ?_⟩
          obtain ⟨A8, c8, rfl⟩ := own_slice hO8
          have hS8 := Aside0.mk (copy_more (r := f.1) (vs := f.2) hS.out hsz.out hO.out hOv.out hpi.out hb5'.out hB7.out hg8)
          replace hS8 := Aside0.mk (hz ▸ hS8.out)
          have hgy : some w1.heap.size ≠ Value.ownBlock (.slice A' hs.length c') := fun e => by have := own_base hO.out _ e.symm; omega
          have hk8 := blk_grown hg8 (blk_below hy'.out hBa.out) hgy
          have hcy8 := blk_cell hk8
          have hf8 := blk_frozen hk8
          have hk8' := Aside0.mk hk8
          have hOs8 := Aside0.mk (own_ex hOs7.out (Ex.of_grown hg8) (fun i hi e => own_ne_blk hOs7.out hO7.out (by decide) hi e.symm))
          have hOR8 := Aside0.mk (own_ex hOR7.out (Ex.of_grown hg8) (fun i hi e => own_ne_blk hOR7.out hO7.out (by decide) hi e.symm))
          have hB8 := Aside0.mk (Ex.on (hB.out.trans hBa.out) (Ex.of_grown hg8) (fun i e => by have := own_base hO7.out i e.symm; omega))
          have hO8' := Aside0.mk hO8
          have hg8' := Aside0.mk hg8
          clear hk8 hgy hz hO8 hg8
          go_wp2
          refine ⟨⟨k + 1, zs, A8, c8, by omega, by go_num, ⟨ownsRow_setCell_below hO8'.out (by simp) _⟩, ⟨?_⟩, ⟨fun e => absurd e hb'.out⟩, ⟨ownsRow_setCell_below hOs8.out (by simp) _⟩, ⟨ownsRow_setCell_below hOR8.out (by simp) _⟩, ⟨?_⟩, ⟨Reg.On.set hB8.out (Nat.le_refl _) _⟩, ⟨blk_set hk8'.out 1 _⟩⟩, by simp [intOf]; omega⟩
          · rw [hsuc.out]; exact (hS8.out.set (by simp) _)
          · have h3 := hg8'.out.size; have h4 := hBa.out.size; have := hsz.out; simp [World.setCell]; omega
      · have e1 : ws.take k = ws := List.take_of_length_le (by omega)
        rw [e1] at hS
        have hbne : b ≠ [] := fun e => by have h1 := hbk.out e; have h2 := hwne.out; omega
        obtain ⟨fs, hfs⟩ : ∃ fs, fcW rs ws = fs := ⟨_, rfl⟩
        rw [hfs] at hS
        have hcan := Aside0.mk (show canI s = (rs, fs) by rw [hcan0.out, if_neg hbne, hfs])
        have hkl := Aside0.mk hlt
        clear e1 hfs hbne
        have hn := Aside0.mk (show hs.length = fs.length from hS.out.len)
        have hRr := Aside0.mk (or_rels hOR.out)
        have hFr := Aside0.mk (oh_fcts hO.out hS.out.reads)
        have hRl := Aside0.mk (show nr = rs.length from (OR.same2 hOR.out).1)
        have hgl := Aside0.mk (blk_lt hL0.out)
        have hLr := Aside0.mk (blk_below hL0.out hB.out)
        have hBw := Aside0.mk (hb0.out.trans hB.out)
        have hcy := blk_cell hy'.out
        by_cases e : fmtI rs fs = s
        · have hq := Aside0.mk (show parI s = ((rs, fs), true) by rw [pi_T (by rw [hcan.out]; exact e), hcan.out])
          have hbn : ((strB (fmtI rs fs)).toList != (strB s).toList) = false := by rw [str_bne]; simp [e]
          have hbm : ((strB (fmtI rs fs)).toList == (strB s).toList) = true := by rw [str_beq]; simp [e]
          have hbo : ((strB (fmtI rs fs)).toList = (strB s).toList) = True := eq_true (beq_iff_eq.1 hbm)
          have he := Aside0.mk e
          clear e
          go_wp2_with (go_at_call 52; refine Stop.out ?_)
          have hcall := sFormatInstance_calls wr AR cR A' c' rs fs hRr.out hFr.out
          rw [← hRl.out, ← hn.out] at hcall
          refine ⟨hcall.mono ?_⟩
          clear hcall
          rintro e w6 ⟨rfl, hb6⟩
          have hy6 := Aside0.mk (blk_below hy'.out hb6)
          have hL6 := Aside0.mk (blk_below hLr.out hb6)
          have hcy6 := blk_cell hy6.out
          have hcr : ∀ i, w6.cell? ⟨w.heap.size, i, none⟩ = _ := blk_cell hL6.out
          have hfr : ∀ i, w6.frozen? ⟨w.heap.size, i, none⟩ = _ := blk_frozen hL6.out
          have hb6' := Aside0.mk hb6
          clear hb6 hcy
          go_wp2
          refine bodyPost_ret (retIB rfl rfl (g := w.heap.size) (blk_set (blk_set hL6.out 0 _) 1 _) rfl) rfl ?_
          have hOI : OIn w6 (w.heap.size + 1) (.agg #[.slice AR nr cR, .slice A' hs.length c']) rs fs := ⟨_, _, hs, rfl, own_lower (pw_own_below hOR.out hb6'.out) (by have := hgl.out; omega), own_lower (pw_own_below hO.out hb6'.out) (by have := hgl.out; omega), (hS.out.on hb6'.out).lower (by have := hgl.out; omega)⟩
          exact ⟨_, rfl, .agg #[.slice AR nr cR, .slice A' hs.length c'], by rw [hq.out]; rfl, by rw [hq.out]; exact ((hOI.set (by simp) _).set (by simp) _).lower (by omega), Reg.On.set (Reg.On.set (hBw.out.trans hb6'.out) (by simp) _) (by simp) _⟩
        · have hq := Aside0.mk (show parI s = (([], []), false) from pi_F (.inr (.inl (by rw [hcan.out]; exact e))))
          have hbn : ((strB (fmtI rs fs)).toList != (strB s).toList) = true := by rw [str_bne]; simp [e]
          have hbm : ((strB (fmtI rs fs)).toList == (strB s).toList) = false := by rw [str_beq]; simp [e]
          have hbo : ((strB (fmtI rs fs)).toList = (strB s).toList) = False := eq_false (fun h => by rw [h] at hbm; simp at hbm)
          have he := Aside0.mk e
          clear e
          go_wp2_with (go_at_call 52; refine Stop.out ?_)
          have hcall := sFormatInstance_calls wr AR cR A' c' rs fs hRr.out hFr.out
          rw [← hRl.out, ← hn.out] at hcall
          refine ⟨hcall.mono ?_⟩
          clear hcall
          rintro e w6 ⟨rfl, hb6⟩
          have hL6 := Aside0.mk (blk_below hLr.out hb6)
          have hcr : ∀ i, w6.cell? ⟨w.heap.size, i, none⟩ = _ := blk_cell hL6.out
          have hfr : ∀ i, w6.frozen? ⟨w.heap.size, i, none⟩ = _ := blk_frozen hL6.out
          have hb6' := Aside0.mk hb6
          clear hb6 hcy
          go_wp2
          refine bodyPost_ret (retIB rfl rfl (g := w.heap.size) (blk_set (blk_set hL6.out 0 _) 1 _) rfl) rfl ?_
          exact ⟨_, rfl, .agg #[.slice none 0 0, .slice none 0 0], by rw [hq.out]; rfl, by rw [hq.out]; exact rep_none _ _, Reg.On.set (Reg.On.set (hBw.out.trans hb6'.out) (by simp) _) (by simp) _⟩
  · have hq := Aside0.mk (hbad.out h2)
    have hm1 : ((w0s.length : Int) == 2) = false := by rw [beq_eq_false_iff_ne]; omega
    have hm2 : ((w0s.length : Int) != 2) = true := by simp [bne, hm1]
    have hm3 : (w0s.length == 2) = false := by simpa using h2
    have hL6 := hL0
    have hcr : ∀ i, w1.cell? ⟨w.heap.size, i, none⟩ = _ := blk_cell hL6.out
    have hfr : ∀ i, w1.frozen? ⟨w.heap.size, i, none⟩ = _ := blk_frozen hL6.out
    clear hcut hpc0 hbad htwo h2 hO hSt
    go_wp2
    refine bodyPost_ret (retIB rfl rfl (g := w.heap.size) (blk_set (blk_set hL6.out 0 _) 1 _) rfl) rfl ?_
    exact ⟨_, rfl, .agg #[.slice none 0 0, .slice none 0 0], by rw [hq.out]; rfl, by rw [hq.out]; exact rep_none _ _, Reg.On.set (Reg.On.set hb0.out (by simp) _) (by simp) _⟩
end Go.Proofs.YtgemaohdlibboaaGreatDoor.H
/- Walks: the draws of one fact of an instance, of an instance with a fact. What is told: sizes and ranges. No condition. -/
namespace Go.Proofs.YtgemaohdlibboaaGreatDoor.H
open Go Go.RowKit Go.Proofs.YtgemaohdlibboaaGreatDoorW.PrintWords Go.Proofs.YtgemaohdlibboaaGreatDoorW.PrintLast
open Go.Proofs.YtgemaohdlibboaaGreatDoor.Reg (On on_draw)
set_option maxHeartbeats 4000000
set_option maxRecDepth 100000
set_option linter.unusedVariables false
set_option linter.unusedSimpArgs false

/-- A fact read whatever happens to blocks S. -/
def RSa (S : Nat → Prop) (w : World) (v : Value) (f : Fct) : Prop := ∀ w', Ex S w w' → RFa w' v f
theorem RSa.ex {S : Nat → Prop} {W w : World} {v : Value} {f : Fct} (h : RSa S W v f) (k : Ex S W w) : RSa S w v f := fun w' h' => h w' (k.trans h' fun _ _ h => h)
theorem OFa.rs {S : Nat → Prop} {w : World} {lo : Nat} {v : Value} {f : Fct} (h : OFa w lo v f) (hS : ∀ b, S b → b < lo) : RSa S w v f := fun w' k => (h.ex k hS).read
theorem RH.at {w : World} {A : Option Addr} {c : Nat} {hs : List Hdr} (h : RH w A c hs) (k : Nat) (hk : k < hs.length) : ∃ ad, A = some ad ∧ w.cell? (ad.add (k * 2)) = some (.int .i64 hs[k].1) ∧ w.cell? ⟨(ad.add (k * 2)).block, (ad.add (k * 2)).off + 1, none⟩ = some (hdV hs[k]) := by
  obtain ⟨ad, e, h0⟩ := h.cell (k * 2 + 0) _ ((flat_get (enc := encH) (sz := 2) (fun _ => rfl) hs k 0 hk (by omega)).trans rfl)
  obtain ⟨ad', e', h1⟩ := h.cell (k * 2 + 1) _ ((flat_get (enc := encH) (sz := 2) (fun _ => rfl) hs k 1 hk (by omega)).trans rfl)
  obtain rfl : ad = ad' := Option.some.inj (e.symm.trans e')
  exact ⟨ad, e, h0, by rw [← add_field _ _ 1 (by omega)]; exact h1⟩
section
variable {fn : Func} {p u : Tmp} {tmps : Array Value} {w : World} {g g' : Nat} {t t' : TypeId} {cs cs' : Array Value} {fr fr' : Nat × Nat}
end
end Go.Proofs.YtgemaohdlibboaaGreatDoor.H
/- Walks: the reference's draws of an instance with a fact and of two facts. What is told: sizes and ranges. No condition. -/
namespace Go.Proofs.YtgemaohdlibboaaGreatDoor.H
open Go Go.RowKit Go.Proofs.YtgemaohdlibboaaGreatDoorW.PrintWords Go.Proofs.YtgemaohdlibboaaGreatDoorW.PrintLast
open Go.Proofs.YtgemaohdlibboaaGreatDoor.Reg (On on_draw)
set_option maxHeartbeats 4000000
set_option maxRecDepth 100000
set_option linter.unusedVariables false
set_option linter.unusedSimpArgs false

end Go.Proofs.YtgemaohdlibboaaGreatDoor.H
/- Walks: the reference's draw of two facts. What is told: sizes and ranges. No condition. -/
namespace Go.Proofs.YtgemaohdlibboaaGreatDoor.H
open Go Go.RowKit Go.Proofs.YtgemaohdlibboaaGreatDoorW.PrintWords Go.Proofs.YtgemaohdlibboaaGreatDoorW.PrintLast
open Go.Proofs.YtgemaohdlibboaaGreatDoor.Reg (On on_draw)
set_option maxHeartbeats 4000000
set_option maxRecDepth 100000
set_option linter.unusedVariables false
set_option linter.unusedSimpArgs false

section
variable {fn : Func} {p u : Tmp} {tmps : Array Value} {w : World} {g g' : Nat} {t t' : TypeId} {cs cs' : Array Value} {fr fr' : Nat × Nat}
end
end Go.Proofs.YtgemaohdlibboaaGreatDoor.H
/- Walks: copies, and what the program holds to be in an instance. No condition. -/
namespace Go.Proofs.YtgemaohdlibboaaGreatDoor.H
open Go Go.RowKit Go.Proofs.YtgemaohdlibboaaGreatDoorW.PrintWords Go.Proofs.YtgemaohdlibboaaGreatDoorW.PrintLast
open Go.Proofs.YtgemaohdlibboaaGreatDoor.Reg (On on_draw)
set_option maxHeartbeats 1000000
set_option maxRecDepth 100000
set_option linter.unusedVariables false
set_option linter.unusedSimpArgs false

end Go.Proofs.YtgemaohdlibboaaGreatDoor.H
/- Walk: impl.IsSubset. No condition. -/
namespace Go.Proofs.YtgemaohdlibboaaGreatDoor.H
open Go Go.RowKit Go.Proofs.YtgemaohdlibboaaGreatDoorW.PrintWords Go.Proofs.YtgemaohdlibboaaGreatDoorW.PrintLast
open Go.Proofs.YtgemaohdlibboaaGreatDoor.Reg (On on_draw)
set_option maxHeartbeats 4000000
set_option maxRecDepth 100000
set_option linter.unusedVariables false
set_option linter.unusedSimpArgs false

end Go.Proofs.YtgemaohdlibboaaGreatDoor.H
/- Headers stored, cut, cleared. No condition. -/
namespace Go.Proofs.YtgemaohdlibboaaGreatDoor.H
open Go Go.RowKit Go.Proofs.YtgemaohdlibboaaGreatDoorW.PrintWords Go.Proofs.YtgemaohdlibboaaGreatDoorW.PrintLast
open Go.Proofs.YtgemaohdlibboaaGreatDoor.Reg (On on_draw)
set_option maxHeartbeats 1000000
set_option maxRecDepth 100000
set_option linter.unusedVariables false
set_option linter.unusedSimpArgs false

theorem OH.at {w : World} {lo g n c : Nat} {L : List Hdr} (h : OH w lo (.slice (some ⟨g, 0, none⟩) n c) L) (i : Nat) (hi : i < L.length) : w.cell? ⟨g, i * 2, none⟩ = some (.int .i64 L[i].1) ∧ w.cell? ⟨g, i * 2 + 1, none⟩ = some (hdV L[i]) := by
  have hn := (OH.rh h).1
  subst hn
  have h0 := h.cellAt (i * 2) (by omega)
  have h1 := h.cellAt (i * 2 + 1) (by omega)
  have e0 := flat_get (enc := encH) (sz := 2) (fun _ => rfl) L i 0 hi (by omega)
  have e1 := flat_get (enc := encH) (sz := 2) (fun _ => rfl) L i 1 hi (by omega)
  rw [Nat.add_zero] at e0
  rw [e0] at h0
  rw [e1] at h1
  exact ⟨h0, h1⟩
section
variable {ops : Array Oper} {rest : List Oper} {o : Oper} {a : Act} {Q : Exit → Act → World → Prop} {W : World}
end
end Go.Proofs.YtgemaohdlibboaaGreatDoor.H
/- Walks: the program takes facts out of an instance. No condition. -/
namespace Go.Proofs.YtgemaohdlibboaaGreatDoor.H
open Go Go.RowKit Go.Proofs.YtgemaohdlibboaaGreatDoorW.PrintWords Go.Proofs.YtgemaohdlibboaaGreatDoorW.PrintLast
open Go.Proofs.YtgemaohdlibboaaGreatDoor.Reg (On on_draw)
set_option maxHeartbeats 4000000
set_option maxRecDepth 100000
set_option linter.unusedVariables false
set_option linter.unusedSimpArgs false

/-- The headers that are kept of the first j. -/
def kept (p : Fct → Bool) (hs : List Hdr) (fs : List Fct) (j : Nat) : List Hdr := (((hs.zip fs).take j).filter fun q => !p q.2).map Prod.fst
theorem kept_succ (p : Fct → Bool) (hs : List Hdr) (fs : List Fct) (j : Nat) (hl : hs.length = fs.length) (h : j < fs.length) : kept p hs fs (j + 1) = kept p hs fs j ++ (if p fs[j] then [] else [hs[j]'(by omega)]) := by
  unfold kept
  rw [List.take_succ_eq_append_getElem (by rw [List.length_zip]; omega), List.filter_append, List.map_append, List.getElem_zip, List.filter_cons]
  cases p fs[j] <;> simp
theorem kept_front (p : Fct → Bool) (hs : List Hdr) (fs : List Fct) (hl : hs.length = fs.length) : ∀ j, j ≤ fs.length → (∀ i, (h : i < j) → (hi : i < fs.length) → p fs[i] = false) → kept p hs fs j = hs.take j
  | 0, _, _ => by simp [kept]
  | j + 1, hj, h => by
    rw [kept_succ p hs fs j hl (by omega), kept_front p hs fs hl j (by omega) (fun i hi hf => h i (by omega) hf), h j (by omega) (by omega), List.take_succ_eq_append_getElem (by omega)]
    rfl
/-- How the row stands when j facts are looked at, of which i are kept. -/
structure KI (p : Fct → Bool) (hs : List Hdr) (fs : List Fct) (j i : Nat) (L : List Hdr) : Prop where
  len : L.length = fs.length
  lt : i < j
  is : i = (kept p hs fs j).length
  row : ∃ M, L = kept p hs fs j ++ M ++ hs.drop j
theorem KI.start (p : Fct → Bool) (hs : List Hdr) (fs : List Fct) (hl : hs.length = fs.length) (k : Nat) (hk : k < fs.length) (ht : p fs[k] = true) (hall : ∀ j, (hj : j < k) → p (fs[j]'(by omega)) = false) : KI p hs fs (k + 1) k hs := by
  have e : kept p hs fs (k + 1) = hs.take k := by
    rw [kept_succ p hs fs k hl hk, ht, if_pos rfl, List.append_nil, kept_front p hs fs hl k (by omega) (fun i hi _ => hall i hi)]
  refine ⟨hl, Nat.lt_succ_self _, by rw [e, List.length_take]; omega, ⟨[hs[k]], ?_⟩⟩
  rw [e, ← List.take_succ_eq_append_getElem (by omega), List.take_append_drop]
theorem KI.mid {p : Fct → Bool} {hs : List Hdr} {fs : List Fct} {j i : Nat} {L : List Hdr} (h : KI p hs fs j i L) (hl : hs.length = fs.length) (hj : j < fs.length) : ∃ m M, L = kept p hs fs j ++ (m :: M) ++ hs.drop j ∧ i + (M.length + 1) = j := by
  obtain ⟨M, e⟩ := h.row
  have h1 := congrArg List.length e
  rw [h.len, List.length_append, List.length_append, List.length_drop, ← h.is] at h1
  cases M with
  | nil => have := h.lt; simp at h1; omega
  | cons m M => exact ⟨m, M, e, by simp at h1; omega⟩
theorem KI.skip {p : Fct → Bool} {hs : List Hdr} {fs : List Fct} {j i : Nat} {L : List Hdr} (h : KI p hs fs j i L) (hl : hs.length = fs.length) (hj : j < fs.length) (hp : p fs[j] = true) : KI p hs fs (j + 1) i L := by
  obtain ⟨M, e⟩ := h.row
  have ek : kept p hs fs (j + 1) = kept p hs fs j := by rw [kept_succ p hs fs j hl hj, hp, if_pos rfl, List.append_nil]
  refine ⟨h.len, Nat.lt_succ_of_lt h.lt, by rw [ek]; exact h.is, ⟨M ++ [hs[j]'(by omega)], ?_⟩⟩
  rw [ek, e, List.drop_eq_getElem_cons (by omega : j < hs.length)]
  simp
theorem KI.keep {p : Fct → Bool} {hs : List Hdr} {fs : List Fct} {j i : Nat} {L : List Hdr} (h : KI p hs fs j i L) (hl : hs.length = fs.length) (hj : j < fs.length) (hp : p fs[j] = false) : KI p hs fs (j + 1) (i + 1) (L.set i (hs[j]'(by omega))) := by
  obtain ⟨m, M, e, hM⟩ := h.mid hl hj
  have ek : kept p hs fs (j + 1) = kept p hs fs j ++ [hs[j]'(by omega)] := by rw [kept_succ p hs fs j hl hj, hp, if_neg (by simp)]
  refine ⟨by rw [List.length_set]; exact h.len, Nat.succ_lt_succ h.lt, by rw [ek, List.length_append, ← h.is]; rfl, ⟨M ++ [hs[j]'(by omega)], ?_⟩⟩
  rw [ek, e, List.append_assoc, List.cons_append, set_mid _ _ _ _ _ h.is.symm, List.drop_eq_getElem_cons (by omega : j < hs.length)]
  simp
theorem KI.done {p : Fct → Bool} {hs : List Hdr} {fs : List Fct} {i : Nat} {L : List Hdr} (h : KI p hs fs fs.length i L) : L.take i = kept p hs fs fs.length := by
  obtain ⟨M, e⟩ := h.row
  rw [e, List.append_assoc, h.is, List.take_left]
end Go.Proofs.YtgemaohdlibboaaGreatDoor.H
/- Facts sorted, then the repeated ones taken out: the facts in order, each once. Plain. No condition. -/
namespace Go.Proofs.YtgemaohdlibboaaGreatDoor.H
open Go Go.RowKit Go.Proofs.YtgemaohdlibboaaGreatDoorW.PrintWords Go.Proofs.YtgemaohdlibboaaGreatDoorW.PrintLast
set_option linter.unusedVariables false
set_option linter.unusedSimpArgs false

instance : DecidableEq Fct := inferInstance
end Go.Proofs.YtgemaohdlibboaaGreatDoor.H
/- Walks: the library's CompactFunc at facts. No condition. -/
namespace Go.Proofs.YtgemaohdlibboaaGreatDoor.H
open Go Go.RowKit Go.Proofs.YtgemaohdlibboaaGreatDoorW.PrintWords Go.Proofs.YtgemaohdlibboaaGreatDoorW.PrintLast
open Go.Proofs.YtgemaohdlibboaaGreatDoor.Reg (On on_draw)
set_option maxHeartbeats 4000000
set_option maxRecDepth 100000
set_option linter.unusedVariables false
set_option linter.unusedSimpArgs false

section
variable {P : Program} {ops : Array Oper} {Q : Exit → Act → World → Prop} {i : Nat} {tail : List Nat} {l : List (Nat × Reg.K)} {a a' : Act} {W : World} {o : Oper} {N : Tmp}
end
/-- The headers that are keptB of the first j. -/
def keptB (p : Bool → Bool) (hs : List Hdr) (fs : List Bool) (j : Nat) : List Hdr := (((hs.zip fs).take j).filter fun q => !p q.2).map Prod.fst
theorem keptB_succ (p : Bool → Bool) (hs : List Hdr) (fs : List Bool) (j : Nat) (hl : hs.length = fs.length) (h : j < fs.length) : keptB p hs fs (j + 1) = keptB p hs fs j ++ (if p fs[j] then [] else [hs[j]'(by omega)]) := by
  unfold keptB
  rw [List.take_succ_eq_append_getElem (by rw [List.length_zip]; omega), List.filter_append, List.map_append, List.getElem_zip, List.filter_cons]
  cases p fs[j] <;> simp
theorem keptB_front (p : Bool → Bool) (hs : List Hdr) (fs : List Bool) (hl : hs.length = fs.length) : ∀ j, j ≤ fs.length → (∀ i, (h : i < j) → (hi : i < fs.length) → p fs[i] = false) → keptB p hs fs j = hs.take j
  | 0, _, _ => by simp [keptB]
  | j + 1, hj, h => by
    rw [keptB_succ p hs fs j hl (by omega), keptB_front p hs fs hl j (by omega) (fun i hi hf => h i (by omega) hf), h j (by omega) (by omega), List.take_succ_eq_append_getElem (by omega)]
    rfl
/-- How the row stands when j facts are looked at, of which i are keptB. -/
structure KB (p : Bool → Bool) (hs : List Hdr) (fs : List Bool) (j i : Nat) (L : List Hdr) : Prop where
  len : L.length = fs.length
  lt : i < j
  is : i = (keptB p hs fs j).length
  row : ∃ M, L = keptB p hs fs j ++ M ++ hs.drop j
theorem KB.start (p : Bool → Bool) (hs : List Hdr) (fs : List Bool) (hl : hs.length = fs.length) (k : Nat) (hk : k < fs.length) (ht : p fs[k] = true) (hall : ∀ j, (hj : j < k) → p (fs[j]'(by omega)) = false) : KB p hs fs (k + 1) k hs := by
  have e : keptB p hs fs (k + 1) = hs.take k := by
    rw [keptB_succ p hs fs k hl hk, ht, if_pos rfl, List.append_nil, keptB_front p hs fs hl k (by omega) (fun i hi _ => hall i hi)]
  refine ⟨hl, Nat.lt_succ_self _, by rw [e, List.length_take]; omega, ⟨[hs[k]], ?_⟩⟩
  rw [e, ← List.take_succ_eq_append_getElem (by omega), List.take_append_drop]
theorem KB.mid {p : Bool → Bool} {hs : List Hdr} {fs : List Bool} {j i : Nat} {L : List Hdr} (h : KB p hs fs j i L) (hl : hs.length = fs.length) (hj : j < fs.length) : ∃ m M, L = keptB p hs fs j ++ (m :: M) ++ hs.drop j ∧ i + (M.length + 1) = j := by
  obtain ⟨M, e⟩ := h.row
  have h1 := congrArg List.length e
  rw [h.len, List.length_append, List.length_append, List.length_drop, ← h.is] at h1
  cases M with
  | nil => have := h.lt; simp at h1; omega
  | cons m M => exact ⟨m, M, e, by simp at h1; omega⟩
theorem KB.skip {p : Bool → Bool} {hs : List Hdr} {fs : List Bool} {j i : Nat} {L : List Hdr} (h : KB p hs fs j i L) (hl : hs.length = fs.length) (hj : j < fs.length) (hp : p fs[j] = true) : KB p hs fs (j + 1) i L := by
  obtain ⟨M, e⟩ := h.row
  have ek : keptB p hs fs (j + 1) = keptB p hs fs j := by rw [keptB_succ p hs fs j hl hj, hp, if_pos rfl, List.append_nil]
  refine ⟨h.len, Nat.lt_succ_of_lt h.lt, by rw [ek]; exact h.is, ⟨M ++ [hs[j]'(by omega)], ?_⟩⟩
  rw [ek, e, List.drop_eq_getElem_cons (by omega : j < hs.length)]
  simp
theorem KB.keep {p : Bool → Bool} {hs : List Hdr} {fs : List Bool} {j i : Nat} {L : List Hdr} (h : KB p hs fs j i L) (hl : hs.length = fs.length) (hj : j < fs.length) (hp : p fs[j] = false) : KB p hs fs (j + 1) (i + 1) (L.set i (hs[j]'(by omega))) := by
  obtain ⟨m, M, e, hM⟩ := h.mid hl hj
  have ek : keptB p hs fs (j + 1) = keptB p hs fs j ++ [hs[j]'(by omega)] := by rw [keptB_succ p hs fs j hl hj, hp, if_neg (by simp)]
  refine ⟨by rw [List.length_set]; exact h.len, Nat.succ_lt_succ h.lt, by rw [ek, List.length_append, ← h.is]; rfl, ⟨M ++ [hs[j]'(by omega)], ?_⟩⟩
  rw [ek, e, List.append_assoc, List.cons_append, set_mid _ _ _ _ _ h.is.symm, List.drop_eq_getElem_cons (by omega : j < hs.length)]
  simp
theorem KB.done {p : Bool → Bool} {hs : List Hdr} {fs : List Bool} {i : Nat} {L : List Hdr} (h : KB p hs fs fs.length i L) : L.take i = keptB p hs fs fs.length := by
  obtain ⟨M, e⟩ := h.row
  rw [e, List.append_assoc, h.is, List.take_left]
end Go.Proofs.YtgemaohdlibboaaGreatDoor.H
/- The rule for regions that draw once more, over worlds of which it is also told that the count of draws grows. No condition. -/
namespace Go.Proofs.YtgemaohdlibboaaGreatDoor.RegD
open Go Go.RowKit Go.Proofs.YtgemaohdlibboaaGreatDoor.Reg
variable {P : Program} {ops : Array Oper} {Q : Exit → Act → World → Prop} {md : Region.Mode}
/-- The worlds that go on from W, their count of draws too. -/
structure On (W w : World) : Prop where
  low : Below W.heap.size W w
  drawn : W.drawn ≤ w.drawn
theorem On.refl (W : World) : On W W := ⟨Below.refl _ _, Nat.le_refl _⟩
theorem On.trans {a b c : World} (h : On a b) (k : On b c) : On a c := ⟨Reg.On.trans h.low k.low, Nat.le_trans h.drawn k.drawn⟩
theorem On.eq {W w : World} (h : On W w) : ∀ p, (W.cell? p).isSome = true → w.cell? p = W.cell? p := Reg.On.eq h.low
theorem On.alloc {W w : World} (h : On W w) (o : Obj) : On W (w.alloc o) := ⟨Reg.On.alloc h.low o, h.drawn⟩
theorem on_draw (W : World) : On W { W with drawn := W.drawn + 1 } := ⟨Reg.on_draw W, Nat.le_succ _⟩
def wpOrd (P : Program) (ops : Array Oper) (Q : Exit → Act → World → Prop) (tail : List Nat) : List (Nat × K) → Act → World → Prop
  | [], a, W => ∀ w, On W w → wpList P ops Q (tail.filterMap fun i => ops[i]?) a w
  | (i, k) :: l, a, W =>
    match ops[i]? with
    | none => False
    | some o =>
      if Region.wanted o (yielded ops a.tmps) then
        (match k with
          | .L => ∃ v, (∀ w, On W w → (execOp a.eval o).run P w = .ok (.value v) w) ∧ wpOrd P ops Q tail l (a.put o.dst v) W
          | .C => ∃ v, (∀ w, On W w → nAt P o a w fun u w' => u = v ∧ On W w') ∧ wpOrd P ops Q tail l (a.put o.dst v) W
          | .N => ∀ w, On W w → wpList P ops (Exit.then (fun a' w' => On W w' ∧ wpOrd P ops Q tail l a' w') Q) [o] a w
          | .P => ∃ v, (∀ w, (execOp a.eval o).run P w = .ok (.value v) w) ∧ wpOrd P ops Q tail l (a.put o.dst v) W)
      else wpOrd P ops Q tail l (a.put o.dst undef) W
theorem wpOp_of_one {i : Nat} {o : Oper} {T : Act → World → Prop} {a : Act} {w : World} (hi : ops[i]? = some o) (h : wpList P ops (Exit.then T Q) [o] a w) (hl : LetsOut (Exit.then T Q) → LetsOut Q := by exact id) : wpOp P ops Q i T a w := by
  simp only [wpList] at h
  unfold wpOp
  simp only [hi]
  split
  · rename_i hw
    rw [if_pos hw] at h
    rcases h with h | ⟨h1, h2⟩
    · refine .inl ?_
      unfold Oper.wp at *
      generalize (execOp a.eval o).run P w = r at *
      cases r with
      | ok n w' =>
        cases n <;> simp only [Oper.upon] at h ⊢ <;>
          first
            | exact h
            | exact h.mono (fun e w'' he => by cases e <;> first | exact he | exact hl he)
      | halt x w' => cases x <;> simp only [Oper.upon] at h ⊢ <;> exact h
    · exact .inr ⟨h1, hl h2⟩
  · rename_i hw
    rw [if_neg hw] at h
    exact h
theorem wpT_of_tail {cl : Nat → Bool} : ∀ (l : List Nat) (listed : Array Bool) (a : Act) (S : World → Prop), (∀ i ∈ l, cl i = true) → chkTail md ops l listed = true → (∀ w, S w → wpList P ops Q (l.filterMap fun i => ops[i]?) a w) → wpT P md ops Q cl l.length listed a S
  | [], listed, a, S, _, hc, h => ⟨by simpa [chkTail] using hc, h⟩
  | i :: l, listed, a, S, hcl, hc, h => by
    simp only [chkTail, Bool.and_eq_true, beq_iff_eq] at hc
    obtain ⟨⟨hr, hbusy⟩, hl⟩ := hc
    cases hi : ops[i]? with
    | none => simp [hi] at hbusy
    | some o =>
      rw [List.length_cons]
      refine ⟨fun h0 => (by rw [hr] at h0; cases h0), fun j hj => ?_⟩
      rw [hr] at hj
      obtain rfl := List.mem_singleton.1 hj
      have ih := fun a S h => wpT_of_tail l (listed.setIfInBounds j true) a S (fun k hk => hcl k (List.mem_cons_of_mem _ hk)) hl h
      have hlist : ∀ w, S w → wpOp P ops Q j (wpList P ops Q (l.filterMap fun i => ops[i]?)) a w := fun w hS => by
        have h1 := h w hS
        simp only [List.filterMap_cons, hi] at h1
        unfold wpOp
        simp only [hi]
        unfold wpList at h1
        exact h1
      unfold Reg.stepT
      simp only [hi]
      split
      · exact .inr (.inr ⟨.inr (hcl j List.mem_cons_self), fun w hS => wpOp_mono (fun a' w' hh => ⟨fun w => w = w', rfl, fun h0 => (by rw [hcl j List.mem_cons_self] at h0; cases h0), ih a' _ (fun w e => by subst e; exact hh)⟩) (hlist w hS)⟩)
      · rename_i hw
        refine ih _ _ fun w hS => ?_
        have h1 := hlist w hS
        unfold wpOp at h1
        simp only [hi] at h1
        rw [if_neg hw] at h1
        exact h1
theorem wpT_of_ord (hs : Region.noSelect ops = true) (hQ : Plain Q) (tail : List Nat) : ∀ (l : List (Nat × K)) (listed : Array Bool) (a : Act) (W : World), closed md ops listed → chk md ops tail l listed = true → wpOrd P ops Q tail l a W → wpT P md ops Q (fun j => tail.contains j) (l.length + tail.length) listed a (On W)
  | [], listed, a, W, _, hc, h => by
    rw [List.length_nil, Nat.zero_add]
    exact wpT_of_tail tail listed a _ (fun i hi => by simpa using hi) hc h
  | (i, k) :: l, listed, a, W, hclosed, hc, h => by
    simp only [chk, Bool.and_eq_true] at hc
    obtain ⟨hk, hl⟩ := hc
    simp only [wpOrd] at h
    cases hi : ops[i]? with
    | none => simp only [hi] at h
    | some o =>
      simp only [hi] at h
      have hri : i ∈ Region.ready md ops listed := by
        cases k <;> simp only [Bool.and_eq_true, beq_iff_eq] at hk
        · simpa using hk.1.1
        · simpa using hk.1.1
        · rw [hk.1.1]; exact List.mem_singleton.2 rfl
        · simpa using hk.1
      have ih := fun a W h => wpT_of_ord hs hQ tail l (listed.setIfInBounds i true) a W (hclosed.set hri) hl h
      have sel := Region.noSelect_spec hs
      have hlen : (((i, k) :: l).length + tail.length) = (l.length + tail.length) + 1 := by rw [List.length_cons]; omega
      rw [hlen]
      have hreach : k ≠ .N → k ≠ .P → ∀ j, (tail.contains j) = true → reach md ops j i = true := by
        intro hkn hkp j hj
        have hj' : j ∈ tail := by simpa using hj
        cases k <;> simp only [Bool.and_eq_true, List.all_eq_true] at hk
        · exact hk.2 j hj'
        · exact hk.2 j hj'
        · exact absurd rfl hkn
        · exact absurd rfl hkp
      by_cases hw : Region.wanted o (yielded ops a.tmps) = true
      · rw [if_pos hw] at h
        cases k with
        | L =>
          simp only [Bool.and_eq_true] at hk
          obtain ⟨v, h1, h2⟩ := h
          exact wpT_first (c := false) hQ hi sel (hreach (by simp) (by simp)) _ listed a _ hclosed (fun j oj hj hne hun hno => freeC_spec hi hk.1.2 j oj hj hne hun hno) hri (.inl ⟨hw, fun w hS => by simpa using h1 w hS⟩) (ih _ _ h2)
        | C =>
          simp only [Bool.and_eq_true] at hk
          obtain ⟨v, h1, h2⟩ := h
          exact wpT_first (c := true) hQ hi sel (hreach (by simp) (by simp)) _ listed a _ hclosed (fun j oj hj hne hun hno => freeC_spec hi hk.1.2 j oj hj hne hun hno) hri (.inl ⟨hw, fun w hS => by simpa using h1 w hS⟩) (ih _ _ h2)
        | N =>
          simp only [Bool.and_eq_true, beq_iff_eq, busy, hi, Bool.not_eq_true'] at hk
          refine ⟨fun h0 => (by rw [hk.1.1] at h0; cases h0), fun j hj => ?_⟩
          rw [hk.1.1] at hj
          obtain rfl := List.mem_singleton.1 hj
          unfold Reg.stepT
          simp only [hi]
          rw [if_pos hw]
          exact .inr (.inr ⟨.inl hk.1.2, fun w hS => wpOp_mono (fun a' w' ⟨hon, hh⟩ => ⟨On w', On.refl _, fun _ w'' hw'' => hon.trans hw'', ih _ _ hh⟩) (wpOp_of_one hi (h w hS))⟩)
        | P =>
          simp only [Bool.and_eq_true] at hk
          obtain ⟨v, h1, h2⟩ := h
          exact wpT_firstP hQ hi sel _ listed a _ hclosed (fun j oj hj hne hun hno => (freeC_spec hi hk.2 j oj hj hne hun hno).1) hri (.inl ⟨hw, fun w _ => by simpa using h1 w⟩) (ih _ _ h2)
      · rw [if_neg hw] at h
        have hw' : Region.wanted o (yielded ops a.tmps) = false := by simpa using hw
        cases k with
        | P =>
          simp only [Bool.and_eq_true] at hk
          exact wpT_firstP hQ hi sel _ listed a _ hclosed (fun j oj hj hne hun hno => (freeC_spec hi hk.2 j oj hj hne hun hno).1) hri (.inr ⟨hw', rfl⟩) (ih _ _ h)
        | L =>
          simp only [Bool.and_eq_true] at hk
          exact wpT_first (c := false) hQ hi sel (hreach (by simp) (by simp)) _ listed a _ hclosed (fun j oj hj hne hun hno => ⟨(freeC_spec hi hk.1.2 j oj hj hne hun hno).1, fun h => by cases h⟩) hri (.inr ⟨hw', rfl⟩) (ih _ _ h)
        | C =>
          simp only [Bool.and_eq_true] at hk
          exact wpT_first (c := false) hQ hi sel (hreach (by simp) (by simp)) _ listed a _ hclosed (fun j oj hj hne hun hno => ⟨(freeC_spec hi hk.1.2 j oj hj hne hun hno).1, fun h => by cases h⟩) hri (.inr ⟨hw', rfl⟩) (ih _ _ h)
        | N =>
          simp only [Bool.and_eq_true, beq_iff_eq, busy, hi, Bool.not_eq_true'] at hk
          refine ⟨fun h0 => (by rw [hk.1.1] at h0; cases h0), fun j hj => ?_⟩
          rw [hk.1.1] at hj
          obtain rfl := List.mem_singleton.1 hj
          unfold Reg.stepT
          simp only [hi]
          rw [if_neg hw]
          exact ih _ _ h
/-- The same, shut (so that nobody lays it open unasked). -/
structure Ord (P : Program) (ops : Array Oper) (Q : Exit → Act → World → Prop) (tail : List Nat) (l : List (Nat × K)) (a : Act) (W : World) : Prop where mk :: (out : wpOrd P ops Q tail l a W)
/-- The rule: a region that draws its order, its operations taken in the order l, then the tail. -/
theorem region {id : Nat} {a : Act} {w : World} (l : List (Nat × K)) (tail : List Nat) (hm : P.follows .mixedOrders = true) (hc : (Region.noSelect ops && (l.length + tail.length == ops.size) && chk .any ops tail l (Array.replicate ops.size false)) = true)
    (h : Ord P ops Q tail l a w) (hQ : Plain Q := by exact fun c a d v w h => by cases d <;> exact h) : (Code.region id ops true).wp P Q a w := by
  simp only [Bool.and_eq_true, beq_iff_eq] at hc
  refine wp_region_any hm (wpAny_of_wpT (cl := fun j => tail.contains j) _ _ _ (On w) _ (below_drew' w) ?_)
  rw [← hc.1.2]
  exact wpT_of_ord hc.1.1 hQ tail l _ a w (closed.start _) (by rw [hc.1.2]; exact hc.2) h.out
where
  below_drew' (w : World) : On w { w with drawn := w.drawn + 1 } := on_draw w
/-! The moves. -/
section
variable {i : Nat} {tail : List Nat} {l : List (Nat × K)} {a : Act} {W : World} {o : Oper} {N : Tmp}
theorem nil (h : ∀ w, On W w → Q .normal a w) : Ord P ops Q [] [] a W := ⟨h⟩
theorem stepL {v : Value} (hy : ∀ w, On W w → (execOp a.eval o).run P w = .ok (.value v) w) (h : Ord P ops Q tail l (a.put (some N) v) W) (hi : ops[i]? = some o) (hN : o.dst = some N)
    (hw : Region.wanted o (yielded ops a.tmps) = true) : Ord P ops Q tail ((i, .L) :: l) a W := by
  refine ⟨?_⟩
  simp only [wpOrd, hi]
  rw [if_pos hw]
  exact ⟨v, hy, hN ▸ h.out⟩
theorem stepP {v : Value} (hy : ∀ w, (execOp a.eval o).run P w = .ok (.value v) w) (h : Ord P ops Q tail l (a.put (some N) v) W) (hi : ops[i]? = some o) (hN : o.dst = some N)
    (hw : Region.wanted o (yielded ops a.tmps) = true) : Ord P ops Q tail ((i, .P) :: l) a W := by
  refine ⟨?_⟩
  simp only [wpOrd, hi]
  rw [if_pos hw]
  exact ⟨v, hy, hN ▸ h.out⟩
theorem stepC {v : Value} (hy : ∀ w, On W w → nAt P o a w fun u w' => u = v ∧ On W w') (h : Ord P ops Q tail l (a.put (some N) v) W) (hi : ops[i]? = some o) (hN : o.dst = some N)
    (hw : Region.wanted o (yielded ops a.tmps) = true) : Ord P ops Q tail ((i, .C) :: l) a W := by
  refine ⟨?_⟩
  simp only [wpOrd, hi]
  rw [if_pos hw]
  exact ⟨v, hy, hN ▸ h.out⟩
theorem wpList_mono_normal {os : List Oper} {T T' : Act → World → Prop} (hT : ∀ a w, T a w → T' a w) : ∀ {a : Act} {w : World}, wpList P ops (Exit.then T Q) os a w → wpList P ops (Exit.then T' Q) os a w := by
  induction os with
  | nil => intro a w h; exact hT _ _ h
  | cons o os ih =>
    intro a w h
    unfold wpList at h ⊢
    split
    · rename_i hw
      rw [if_pos hw] at h
      rcases h with h | ⟨h1, h2⟩
      · refine .inl ?_
        unfold Oper.wp at *
        generalize (execOp a.eval o).run P w = r at *
        cases r with
        | ok n w' =>
          cases n <;> simp only [Oper.upon] at h ⊢ <;>
            first
              | exact ih h
              | exact h.mono (fun e w'' he => by cases e <;> first | exact ih he | exact he)
              | exact Rows.mono h (fun _ _ he => ih he)
        | halt x w' => cases x <;> simp only [Oper.upon] at h ⊢ <;> exact h
      · exact .inr ⟨h1, h2⟩
    · rename_i hw
      rw [if_neg hw] at h
      exact ih h
theorem stepN (h : ∀ w, On W w → wpList P ops (Exit.then (fun a' w' => On W w' ∧ Ord P ops Q tail l a' w') Q) [o] a w) (hi : ops[i]? = some o)
    (hw : Region.wanted o (yielded ops a.tmps) = true) : Ord P ops Q tail ((i, .N) :: l) a W := by
  refine ⟨?_⟩
  simp only [wpOrd, hi]
  rw [if_pos hw]
  exact fun w hS => wpList_mono_normal (fun a w ⟨h1, h2⟩ => ⟨h1, h2.out⟩) (h w hS)
theorem skip {k : K} (h : Ord P ops Q tail l (a.put (some N) undef) W) (hi : ops[i]? = some o) (hN : o.dst = some N) (hw : Region.wanted o (yielded ops a.tmps) = false) : Ord P ops Q tail ((i, k) :: l) a W := by
  refine ⟨?_⟩
  simp only [wpOrd, hi]
  rw [if_neg (by simp [hw]), hN]
  exact h.out
theorem tail_ {os : List Oper} (h : ∀ w, On W w → wpList P ops Q os a w) (hos : (tail.filterMap fun i => ops[i]?) = os := by simp only [List.filterMap_cons, List.filterMap_nil, List.getElem?_toArray, List.getElem?_cons_zero, List.getElem?_cons_succ]; rfl) : Ord P ops Q tail [] a W := by
  subst hos
  exact ⟨h⟩
end
end Go.Proofs.YtgemaohdlibboaaGreatDoor.RegD
namespace Go.Proofs.YtgemaohdlibboaaGreatDoor.HD
open Go Go.RowKit Go.Proofs.YtgemaohdlibboaaGreatDoorW.PrintWords Go.Proofs.YtgemaohdlibboaaGreatDoorW.PrintLast Go.Proofs.YtgemaohdlibboaaGreatDoor.H
open Go.Proofs.YtgemaohdlibboaaGreatDoor.RegD (On on_draw)
set_option linter.unusedVariables false
/-! Steps inside a region that draws. -/
section
variable {P : Program} {ops : Array Oper} {Q : Exit → Act → World → Prop} {i : Nat} {tail : List Nat} {l : List (Nat × Reg.K)} {a a' : Act} {W : World} {o : Oper} {N : Tmp}
theorem nAt_call {f : FuncId} {fn : Func} {xs : Array Operand} {ts : Array TypeId} {args : Array Value} {w : World} {R : Value → World → Prop} (hf : P.funcs[f]? = some fn) (hname : (fn.name == "runtime.NumGoroutine") = false) (hb : fn.body.isSome = true)
    (hop : o.op = .call { callee := .value (.func f), args := xs, argTypes := ts }) (hargs : xs.map a.eval = args) (h : Calls P f args w fun e w' => ∃ u, e = .returned u ∧ R u w') : Reg.nAt P o a w R := by
  have he := enters_ hf hname hb args w
  have hrun : (execOp a.eval o).run P w = .ok (.enter f args) w := by
    unfold execOp
    simp [hop, resolve, Deferred.ofValue, invoke, Act.eval, hargs, he]
  unfold Reg.nAt
  rw [hrun]
  exact h
/-- A call that hands back one value. -/
theorem callC {f : FuncId} {fn : Func} {xs : Array Operand} {ts : Array TypeId} {args : Array Value} (v : Value) (hf : P.funcs[f]? = some fn)
    (h : ∀ w, On W w → Calls P f args w fun e w' => e = .returned v ∧ On w w') (rest : RegD.Ord P ops Q tail l a' W) (hi : ops[i]? = some o := by rfl) (hN : o.dst = some N := by rfl)
    (hop : o.op = .call { callee := .value (.func f), args := xs, argTypes := ts } := by rfl) (hargs : xs.map a.eval = args := by (try simp only [List.map_toArray, List.map_cons, List.map_nil]); rfl)
    (hname : (fn.name == "runtime.NumGoroutine") = false := by kernel_rfl) (hb : fn.body.isSome = true := by rfl)
    (hw : Region.wanted o (yielded ops a.tmps) = true := by with_unfolding_all rfl) (ha : a.put (some N) v = a' := by simp only [Act.put, List.setIfInBounds_toArray, List.set_cons_zero, List.set_cons_succ]; rfl) : RegD.Ord P ops Q tail ((i, .C) :: l) a W :=
  RegD.stepC (v := v) (fun w hS => nAt_call hf hname hb hop hargs ((h w hS).mono fun e w' ⟨he, hS'⟩ => ⟨v, he, rfl, hS.trans hS'⟩)) (ha ▸ rest) hi hN hw
/-- A call of which more is told: what follows stands behind it. -/
theorem callN {f : FuncId} {fn : Func} {xs : Array Operand} {ts : Array TypeId} {args : Array Value} (hf : P.funcs[f]? = some fn)
    (h : ∀ w, On W w → Calls P f args w fun e w' => ∃ v, e = .returned v ∧ On w w' ∧ ∀ a', a' = a.put (some N) v → RegD.Ord P ops Q tail l a' w') (hi : ops[i]? = some o := by rfl) (hN : o.dst = some N := by rfl)
    (hop : o.op = .call { callee := .value (.func f), args := xs, argTypes := ts } := by rfl) (hargs : xs.map a.eval = args := by (try simp only [List.map_toArray, List.map_cons, List.map_nil]); rfl)
    (hname : (fn.name == "runtime.NumGoroutine") = false := by kernel_rfl) (hb : fn.body.isSome = true := by rfl)
    (hw : Region.wanted o (yielded ops a.tmps) = true := by rfl) : RegD.Ord P ops Q tail ((i, .N) :: l) a W := by
  refine RegD.stepN (fun w hS => ?_) hi hw
  unfold wpList
  rw [if_pos hw]
  refine .inl (Reg.wp_of_nAt (nAt_call hf hname hb hop hargs ((h w hS).mono fun e w' ⟨v, he, hon, hk⟩ => ⟨v, he, ?_⟩)))
  rw [hN]
  exact ⟨hS.trans hon, hk _ rfl⟩
/-- A read, a sum, an address. -/
theorem sL {v : Value} (h : RegD.Ord P ops Q tail l a' W) (hi : ops[i]? = some o := by rfl) (hN : o.dst = some N := by rfl) (hw : Region.wanted o (yielded ops a.tmps) = true := by rfl)
    (hy : ∀ w, On W w → (execOp a.eval o).run P w = .ok (.value v) w := by intro w' hS; have hA := RegD.On.eq hS; clear hS; (go_simp; first | done | rfl))
    (ha : a.put (some N) v = a' := by simp only [Act.put, List.setIfInBounds_toArray, List.set_cons_zero, List.set_cons_succ]; rfl) : RegD.Ord P ops Q tail ((i, .L) :: l) a W := RegD.stepL hy (ha ▸ h) hi hN hw
/-- What asks the world nothing. -/
theorem sQ {v : Value} (h : RegD.Ord P ops Q tail l a' W) (hi : ops[i]? = some o := by rfl) (hN : o.dst = some N := by rfl) (hw : Region.wanted o (yielded ops a.tmps) = true := by rfl)
    (hy : ∀ w, (execOp a.eval o).run P w = .ok (.value v) w := by intro w'; (go_simp; first | done | rfl))
    (ha : a.put (some N) v = a' := by simp only [Act.put, List.setIfInBounds_toArray, List.set_cons_zero, List.set_cons_succ]; rfl) : RegD.Ord P ops Q tail ((i, .P) :: l) a W := RegD.stepP hy (ha ▸ h) hi hN hw
/-- Sums and differences whose bounds are known. -/
theorem sS {x y : Operand} {m n : Int} {t t2 : TypeId} (h : RegD.Ord P ops Q tail l a' W) (hi : ops[i]? = some o := by rfl) (hN : o.dst = some N := by rfl) (hop : o.op = .binOp .sub t x y t2 := by rfl) (hw : Region.wanted o (yielded ops a.tmps) = true := by rfl)
    (hx : a.eval x = .int .i64 m := by rfl) (hy : a.eval y = .int .i64 n := by rfl) {r : Int} (hb : IntKind.i64.wrap (m - n) = r := by first | (with_reducible assumption) | exact IntWalk.i64_in _ (by omega))
    (ha : a.put (some N) (.int .i64 r) = a' := by simp only [Act.put, List.setIfInBounds_toArray, List.set_cons_zero, List.set_cons_succ]; rfl) : RegD.Ord P ops Q tail ((i, .L) :: l) a W :=
  RegD.stepL (fun w _ => by
    subst hb
    unfold execOp
    simp only [hop, hx, hy]
    rfl) (ha ▸ h) hi hN hw
theorem sA {x y : Operand} {m n : Int} {t t2 : TypeId} (h : RegD.Ord P ops Q tail l a' W) (hi : ops[i]? = some o := by rfl) (hN : o.dst = some N := by rfl) (hop : o.op = .binOp .add t x y t2 := by rfl) (hw : Region.wanted o (yielded ops a.tmps) = true := by rfl)
    (hx : a.eval x = .int .i64 m := by rfl) (hy : a.eval y = .int .i64 n := by rfl) {r : Int} (hb : IntKind.i64.wrap (m + n) = r := by first | (with_reducible assumption) | exact IntWalk.i64_in _ (by omega))
    (ha : a.put (some N) (.int .i64 r) = a' := by simp only [Act.put, List.setIfInBounds_toArray, List.set_cons_zero, List.set_cons_succ]; rfl) : RegD.Ord P ops Q tail ((i, .L) :: l) a W :=
  RegD.stepL (fun w _ => by
    subst hb
    unfold execOp
    simp only [hop, hx, hy]
    rfl) (ha ▸ h) hi hN hw
/-- A choice, decided. -/
theorem sP {v : Value} {c x y : Operand} {b : Bool} (h : RegD.Ord P ops Q tail l a' W) (hi : ops[i]? = some o := by rfl) (hN : o.dst = some N := by rfl) (hop : o.op = .pick c x y := by rfl) (hw : Region.wanted o (yielded ops a.tmps) = true := by rfl)
    (hc : a.eval c = .bool b := by rfl) (hv : (if b then a.eval x else a.eval y) = v := by (go_simp; first | done | rfl))
    (ha : a.put (some N) v = a' := by simp only [Act.put, List.setIfInBounds_toArray, List.set_cons_zero, List.set_cons_succ]; rfl) : RegD.Ord P ops Q tail ((i, .L) :: l) a W :=
  RegD.stepL (fun w _ => by unfold execOp; simp only [hop, hc]; subst hv; cases b <;> rfl) (ha ▸ h) hi hN hw
/-- An operation whose guard is off. -/
theorem sO {k : Reg.K} (h : RegD.Ord P ops Q tail l a' W) (hi : ops[i]? = some o := by rfl) (hN : o.dst = some N := by rfl) (hw : Region.wanted o (yielded ops a.tmps) = false := by with_unfolding_all rfl)
    (ha : a.put (some N) undef = a' := by simp only [Act.put, List.setIfInBounds_toArray, List.set_cons_zero, List.set_cons_succ]; rfl) : RegD.Ord P ops Q tail ((i, k) :: l) a W := RegD.skip (ha ▸ h) hi hN hw
end
end Go.Proofs.YtgemaohdlibboaaGreatDoor.HD
/- Walks: the program's order of facts, in the form that SortFunc asks for. No condition. -/
namespace Go.Proofs.YtgemaohdlibboaaGreatDoor.HD
open Go Go.RowKit Go.Proofs.YtgemaohdlibboaaGreatDoorW.PrintWords Go.Proofs.YtgemaohdlibboaaGreatDoorW.PrintLast Go.Proofs.YtgemaohdlibboaaGreatDoor.H
open Go.Proofs.YtgemaohdlibboaaGreatDoor.RegD (On on_draw)
set_option maxHeartbeats 1000000
set_option maxRecDepth 100000
set_option linter.unusedVariables false
set_option linter.unusedSimpArgs false

theorem isNaN_calls (w : World) (v : Int) : Calls Tryz.prog 171 #[.int .i64 v] w fun e w' => e = .returned (.bool false) ∧ On w w' := by
  go_enter Tryz.func171, Tryz.ntmps171
  go_wp2
  go_ret
  exact ⟨by simp, On.refl _⟩
theorem cmpCompare_calls (w : World) (a b : Int) : Calls Tryz.prog 120 #[.int .i64 a, .int .i64 b] w fun e w' => e = .returned (.int .i64 (cmpI a b)) ∧ On w w' := by
  by_cases h1 : a < b
  · have h1b : decide (a < b) = true := decide_eq_true h1
    go_enter Tryz.func120, Tryz.ntmps120
    go_wp2_with (first | (go_at_call 171; refine (isNaN_calls w _).mono ?_; rintro e w1 ⟨rfl, hb1⟩) | (go_at_call 171; refine (isNaN_calls w1 _).mono ?_; rintro e w2 ⟨rfl, hb2⟩))
    go_ret
    exact ⟨ret_int (by unfold cmpI; rw [if_pos (of_decide_eq_true h1b)]), hb1.trans hb2⟩
  · have h1b : decide (a < b) = false := decide_eq_false h1
    by_cases h2 : b < a
    · have h2b : decide (b < a) = true := decide_eq_true h2
      go_enter Tryz.func120, Tryz.ntmps120
      go_wp2_with (first | (go_at_call 171; refine (isNaN_calls w _).mono ?_; rintro e w1 ⟨rfl, hb1⟩) | (go_at_call 171; refine (isNaN_calls w1 _).mono ?_; rintro e w2 ⟨rfl, hb2⟩))
      go_ret
      exact ⟨ret_int (by unfold cmpI; rw [if_neg (of_decide_eq_false h1b), if_pos (of_decide_eq_true h2b)]), hb1.trans hb2⟩
    · have h2b : decide (b < a) = false := decide_eq_false h2
      go_enter Tryz.func120, Tryz.ntmps120
      go_wp2_with (first | (go_at_call 171; refine (isNaN_calls w _).mono ?_; rintro e w1 ⟨rfl, hb1⟩) | (go_at_call 171; refine (isNaN_calls w1 _).mono ?_; rintro e w2 ⟨rfl, hb2⟩))
      go_ret
      exact ⟨ret_int (by unfold cmpI; rw [if_neg (of_decide_eq_false h1b), if_neg (of_decide_eq_false h2b)]), hb1.trans hb2⟩
theorem slicesCompare_calls (w : World) (A B : Option Addr) (c d : Nat) (a b : List Int) (ha : Ints w A c a) (hb : Ints w B d b) : Calls Tryz.prog 121 #[.slice A a.length c, .slice B b.length d] w fun e w' => e = .returned (.int .i64 (ints a b)) ∧ On w w' := by
  have hma := ha.max
  have hmb := hb.max
  go_enter Tryz.func121, Tryz.ntmps121
  go_wp2
  go_loopw [11] (fun v wr => ∃ k : Nat, k ≤ a.length ∧ k ≤ b.length ∧ v = .int .i64 k ∧ Hid (ints (a.drop k) (b.drop k) = ints a b) ∧ On w wr) (fun v _ => a.length - (intOf v).toNat)
  case atStart => exact ⟨0, Nat.zero_le _, Nat.zero_le _, rfl, rfl, On.refl _⟩
  case round =>
    obtain ⟨k, hk1, hk2, rfl, hp, hB⟩ := hrel
    by_cases h1 : k < a.length
    · obtain ⟨ad, rfl, hx⟩ := (ha.on hB.low).at k h1
      by_cases h2 : k < b.length
      · obtain ⟨bd, rfl, hy⟩ := (hb.on hB.low).at k h2
        have h2n : decide (b.length ≤ k) = false := decide_eq_false (by omega)
        have hst := Aside0.mk ((ints_stepI a b k h1 h2).symm.trans hp.out)
        clear hp
        by_cases h3 : cmpI a[k] b[k] = 0
        · have h3' := Aside0.mk h3
          have h3b : (cmpI a[k] b[k] != 0) = false := by simp [h3]
          clear h3
          go_wp2_with (go_at_call 120; refine (cmpCompare_calls _ _ _).mono ?_; rintro e w3 ⟨rfl, hb3⟩)
          go_roundw
          case rel => exact ⟨k + 1, by omega, by omega, by go_num, (by have := hst.out; rwa [if_pos h3'.out] at this : _ = _), hB.trans hb3⟩
          case measure => simp [intOf]; omega
        · have h3' := Aside0.mk h3
          have h3b : (cmpI a[k] b[k] != 0) = true := by simp [h3]
          clear h3
          go_wp2_with (go_at_call 120; refine (cmpCompare_calls _ _ _).mono ?_; rintro e w3 ⟨rfl, hb3⟩)
          go_ret
          exact ⟨ret_int (by have := hst.out; rwa [if_neg h3'.out] at this), hB.trans hb3⟩
      · have hb0 : b.drop k = [] := List.drop_of_length_le (by omega)
        have h2n : decide (b.length ≤ k) = true := decide_eq_true (by omega)
        have hp' := Aside0.mk hp.out
        clear hp
        go_wp2
        go_ret
        exact ⟨ret_int (by rw [← hp'.out, hb0, List.drop_eq_getElem_cons h1]; rfl), hB⟩
    · have ha0 : a.drop k = [] := List.drop_of_length_le (by omega)
      have hp' := Aside0.mk hp.out
      clear hp
      by_cases h2 : k < b.length
      · have h4 : a.length < b.length := by omega
        go_wp2
        go_ret
        exact ⟨ret_int (by rw [← hp'.out, ha0, List.drop_eq_getElem_cons h2]; rfl), hB⟩
      · have hb0 : b.drop k = [] := List.drop_of_length_le (by omega)
        have h4 : ¬ a.length < b.length := by omega
        go_wp2
        go_ret
        exact ⟨ret_int (by rw [← hp'.out, ha0, hb0]; rfl), hB⟩
theorem cmpOr_calls (w : World) (A c) (l : List Int) (h : Ints w A c l) : Calls Tryz.prog 119 #[.slice A l.length c] w fun e w' => e = .returned (.int .i64 (orFrom l)) ∧ On w w' := by
  have hmax := h.max
  go_enter Tryz.func119, Tryz.ntmps119
  go_wp2
  go_loop [8] (fun v => ∃ k : Nat, k ≤ l.length ∧ v = .int .i64 k ∧ Hid (orFrom (l.drop k) = orFrom l)) (fun v => l.length - (intOf v).toNat)
  case atStart => exact ⟨0, Nat.zero_le _, rfl, rfl⟩
  case round =>
    obtain ⟨k, hk, rfl, hp⟩ := hrel
    by_cases hlt : k < l.length
    · obtain ⟨ad, rfl, hx⟩ := h.at k hlt
      have hst := Aside0.mk ((orFrom_step l k hlt).symm.trans hp.out)
      clear hp
      by_cases h3 : l[k] = 0
      · have h3' := Aside0.mk h3
        have h3b : (l[k] != 0) = false := by simp [h3]
        clear h3
        go_wp2
        go_round
        case rel => exact ⟨k + 1, by omega, by go_num, (by have := hst.out; rwa [if_pos h3'.out] at this : _ = _)⟩
        case measure => simp [intOf]; omega
      · have h3' := Aside0.mk h3
        have h3b : (l[k] != 0) = true := by simp [h3]
        clear h3
        go_wp2
        go_ret
        exact ⟨ret_int (by have := hst.out; rwa [if_neg h3'.out] at this), On.refl _⟩
    · go_wp2
      go_ret
      exact ⟨ret_int (by rw [← hp.out, List.drop_of_length_le (by omega)]; rfl), On.refl _⟩
theorem iCompareFacts_calls (w : World) (A0 c0 A1 c1) (f g : Fct) (h0 : Ints w A0 c0 f.2) (h1 : Ints w A1 c1 g.2) : Calls Tryz.prog 48 #[.agg #[.int .i64 f.1, .slice A0 f.2.length c0], .agg #[.int .i64 g.1, .slice A1 g.2.length c1]] w fun e w' => e = .returned (.int .i64 (cmpF f g)) ∧ On w w' := by
  have hb0 := Aside0.mk (On.alloc (On.alloc (On.refl w) (.cells #[.int .i64 f.1, .slice A0 f.2.length c0] 60)) (.cells #[.int .i64 g.1, .slice A1 g.2.length c1] 60))
  go_enter Tryz.func48, Tryz.ntmps48
  go_wp2
  refine RegD.region [(0,.L),(1,.L),(2,.L),(3,.L),(4,.C),(5,.L),(6,.L),(7,.L),(8,.L),(9,.C)] [10,11,12] (by kernel_rfl) (by kernel_rfl) ?_
  repeat first | refine sP ?_ | refine sS ?_ | refine sA ?_ | refine sL ?_ | refine sQ ?_ | refine sO ?_
  refine callC (.int .i64 (cmpI f.1 g.1)) Tryz.func120 (fun w' hS => ?_) ?_
  focus exact cmpCompare_calls w' _ _
  repeat first | refine sP ?_ | refine sS ?_ | refine sA ?_ | refine sL ?_ | refine sQ ?_ | refine sO ?_
  refine callC (.int .i64 (ints f.2 g.2)) Tryz.func121 (fun w' hS => ?_) ?_
  focus exact slicesCompare_calls w' _ _ _ _ f.2 g.2 (h0.on (hb0.out.trans hS).low) (h1.on (hb0.out.trans hS).low)
  repeat first | refine sP ?_ | refine sS ?_ | refine sA ?_ | refine sL ?_ | refine sQ ?_ | refine sO ?_
  refine RegD.tail_ fun w2 hS => ?_
  have hc := cmpI_bd f.1 g.1
  have hi := ints_bd f.2 g.2
  have hr := Aside0.mk ((ints2 w2 (cmpI f.1 g.1) (ints f.2 g.2)).2 (fun x hx => by simp at hx; rcases hx with rfl | rfl <;> omega))
  clear hc hi
  go_wp2_with (go_at_call 119; refine (cmpOr_calls _ _ _ _ hr.out).mono ?_; rintro e w3 ⟨rfl, hb3⟩)
  go_ret
  refine ⟨ret_int ?_, (hb0.out.trans hS).trans ((On.alloc (On.refl _) _).trans hb3)⟩
  rw [cmpF_or]
  simp only [orFrom]
  by_cases h3 : cmpI f.1 g.1 = 0
  · simp only [h3, if_pos, ne_eq, not_true, if_false]
    by_cases h4 : ints f.2 g.2 = 0
    · rw [if_pos h4, h4]
    · rw [if_neg h4]
  · simp [h3]
end Go.Proofs.YtgemaohdlibboaaGreatDoor.HD
/- Facts that are read, with their headers: what SortFunc's contract takes and gives. No condition. -/
namespace Go.Proofs.YtgemaohdlibboaaGreatDoor.H
open Go Go.RowKit Go.Proofs.YtgemaohdlibboaaGreatDoorW.PrintWords Go.Proofs.YtgemaohdlibboaaGreatDoorW.PrintLast
open Go.Proofs.YtgemaohdlibboaaGreatDoor.Reg (On on_draw)
set_option maxHeartbeats 4000000
set_option maxRecDepth 100000
set_option linter.unusedVariables false
set_option linter.unusedSimpArgs false

/-- A fact of the call's own: its header, what it reads as. -/
structure Fa (w : World) (lo : Nat) where
  h : Hdr
  f : Fct
  n : h.1 = f.1
  o : OI w lo (hdV h) f.2
  r : InR f.2
instance (w : World) (lo : Nat) : Inhabited (Fa w lo) := ⟨⟨((0 : Int), none, 0, 0), ((0 : Int), []), rfl, World.ownsRow_nil _ _ _ _, fun x hx => by cases hx⟩⟩
/-- Rows that own no block in common. -/
def Off (a b : Hdr) : Prop := ∀ k, (hdV a).ownBlock = some k → (hdV b).ownBlock = some k → False
theorem Sep.pair {w : World} {lo : Nat} {hs : List Hdr} {fs : List Fct} (h : Sep w lo hs fs) : hs.Pairwise Off := by
  rw [List.pairwise_iff_getElem]
  intro i j hi hj hij k h1 h2
  have := h.apart i j _ _ k (List.getElem?_eq_getElem hi) (List.getElem?_eq_getElem hj) h1 h2
  omega
end Go.Proofs.YtgemaohdlibboaaGreatDoor.H
/- The library's SortFunc at facts: the shelf's contract laid for this program. Printed by a program of this session. No condition. -/
namespace Go.Proofs.YtgemaohdlibboaaGreatDoor.H
open Go Go.RowKit Go.Shelf Go.Proofs.YtgemaohdlibboaaGreatDoorW.PrintWords Go.Proofs.YtgemaohdlibboaaGreatDoorW.PrintLast
open Go.Proofs.YtgemaohdlibboaaGreatDoor.Reg (On on_draw)
set_option maxHeartbeats 4000000
set_option maxRecDepth 100000
set_option linter.unusedVariables false
end Go.Proofs.YtgemaohdlibboaaGreatDoor.H
/- Walks: the program puts a fact into an instance: facts sorted, each once. No condition. -/
namespace Go.Proofs.YtgemaohdlibboaaGreatDoor.H
open Go Go.RowKit Go.Proofs.YtgemaohdlibboaaGreatDoorW.PrintWords Go.Proofs.YtgemaohdlibboaaGreatDoorW.PrintLast
open Go.Proofs.YtgemaohdlibboaaGreatDoor.Reg (On on_draw)
set_option maxHeartbeats 4000000
set_option maxRecDepth 100000
set_option linter.unusedVariables false
set_option linter.unusedSimpArgs false

end Go.Proofs.YtgemaohdlibboaaGreatDoor.H
/- Walks: the reference puts a fact into an instance, if that is valid. No condition. -/
namespace Go.Proofs.YtgemaohdlibboaaGreatDoor.H
open Go Go.RowKit Go.Proofs.YtgemaohdlibboaaGreatDoorW.PrintWords Go.Proofs.YtgemaohdlibboaaGreatDoorW.PrintLast
open Go.Proofs.YtgemaohdlibboaaGreatDoor.Reg (On on_draw)
set_option maxHeartbeats 4000000
set_option maxRecDepth 100000
set_option linter.unusedVariables false
set_option linter.unusedSimpArgs false

end Go.Proofs.YtgemaohdlibboaaGreatDoor.H
/- Plain: what the law FnInsertDelete asks of insertion and deletion. No condition. -/
namespace Go.Proofs.YtgemaohdlibboaaGreatDoor.H
open Go
set_option maxHeartbeats 1000000
set_option linter.unusedVariables false
set_option linter.unusedSimpArgs false

end Go.Proofs.YtgemaohdlibboaaGreatDoor.H
/- Walks: what the law FnInsertDelete calls, in terms of values; its size test. No condition. -/
namespace Go.Proofs.YtgemaohdlibboaaGreatDoor.H
open Go Go.RowKit Go.Proofs.YtgemaohdlibboaaGreatDoorW.PrintWords Go.Proofs.YtgemaohdlibboaaGreatDoorW.PrintLast
open Go.Proofs.YtgemaohdlibboaaGreatDoor.Reg (On on_draw)
set_option maxHeartbeats 4000000
set_option maxRecDepth 100000
set_option linter.unusedVariables false
set_option linter.unusedSimpArgs false

theorem big_calls (w : World) (A n c) : Calls Tryz.prog 13 #[.slice A n c] w fun e w' => e = .returned (.bool (decide (1048576 < (n : Int)))) ∧ On w w' := by
  go_enter Tryz.func13, Tryz.ntmps13
  go_wp2
  go_ret
  exact ⟨rfl, On.refl _⟩
end Go.Proofs.YtgemaohdlibboaaGreatDoor.H
