/- Walks and plain laws for the law FnExactInsertFact, part 5 of 5: the texts HJ6, HJ7, HQFnExactInsertFact in one. No condition. -/
import Derived.Test.YtngjhblbpapjeaaGreatZFnExactInsertFact4
/- Walks: the program puts a fact into an instance: facts sorted, each once. No condition. -/
namespace Go.Proofs.YtngjhblbpapjeaaGreat.H
open Go Go.RowKit Go.Proofs.YtngjhblbpapjeaaGreatW.PrintWords Go.Proofs.YtngjhblbpapjeaaGreatW.PrintLast
open Go.Proofs.YtngjhblbpapjeaaGreat.Reg (On on_draw)
set_option maxHeartbeats 4000000
set_option maxRecDepth 100000
set_option linter.unusedVariables false
set_option linter.unusedSimpArgs false

theorem row_ne_box {w : World} {lo e sz n b : Nat} {v : Value} {xs : List Value} {cs : Array Value} {t : TypeId} (h : w.ownsRow lo e sz v n xs) (hb : w.heap[b]? = some (.cells cs t (0, 0))) (hne : t ≠ e) : some b ≠ v.ownBlock := fun e1 => by
  obtain ⟨c, hc⟩ := own_typed h b e1.symm
  rw [hb] at hc
  injection hc with hc
  injection hc with _ h3
  exact hne h3
theorem factsSet_calls (w : World) (A n c) (fs : List Fct) (h : Fcts w A c fs) (hn : n = fs.length) (hl : fs.length ≤ 1000000) (hl2 : ∀ f ∈ fs, f.2.length ≤ 2000000) : Calls Tryz.prog 37 #[.slice A n c] w (Got fun v w' => ∃ hs, OH w' w.heap.size v hs ∧ Sep w' w.heap.size hs (setF fs) ∧ On w w') := by
  subst hn
  go_enter Tryz.func37, Tryz.ntmps37
  go_wp2_with (refine gate 5 ?_)
  refine ⟨goesF 5 Tryz.func81 ((factsCopy_calls w A c fs h (by omega) hl2).mono ?_)⟩
  rintro e w1 ⟨v1, rfl, hs, hO, hS, hb1⟩
  refine ⟨_, rfl, ?_⟩
  have hlen := hS.len
  go_wp2_with (refine gate 7 ?_)
  refine ⟨goesF 7 Tryz.func82 ((SortF_calls w1 w.heap.size v1 hs fs hO hS (by omega)).mono ?_)⟩
  rintro e w2 ⟨u2, rfl, rfl, hs2, fs2, hO2, hS2, hp2, hq2, hE2, hF2⟩
  refine ⟨_, rfl, ?_⟩
  go_wp2_with (refine gate 9 ?_)
  refine ⟨goesF 9 Tryz.func83 ((CompactF_calls w2 w.heap.size v1 hs2 fs2 hO2 hS2).mono ?_)⟩
  rintro e w3 ⟨v3, rfl, hs3, hO3, hS3, hE3, hF3⟩
  refine ⟨_, rfl, ?_⟩
  go_wp2
  go_ret
  have hB : On w w3 := Ex.on (Ex.on hb1 hE2 (fun i e => own_base hO i e.symm)) hE3 (fun i e => own_base hO i e.symm)
  refine ⟨_, rfl, hs3, hO3, ?_, hB⟩
  rw [← runs_setF hp2 (hq2.imp fun {a b} h => by omega)]
  exact hS3
/-- An instance with one fact more, if that is valid. -/
def insB (rs : List Rel) (fs : List Fct) (g : Fct) : Bool := okInst rs fs && (!hasF fs g && okInst rs (putF fs g))
def insI (rs : List Rel) (fs : List Fct) (g : Fct) : List Fct := if insB rs fs g then putF fs g else fs
theorem iInsertFact_calls (w : World) (A0 c0 A1 c1) (rs : List Rel) (fs : List Fct) (h0 : Rels w A0 c0 rs) (h1 : Fcts w A1 c1 fs) (A2 c2) (g : Fct) (h2 : Ints w A2 c2 g.2) (hl0 : rs.length ≤ 2000000) (hl : fs.length ≤ 2000000) (hl2 : ∀ f ∈ fs, f.2.length ≤ 2000000) (hg2 : g.2.length ≤ 2000000) :
    Calls Tryz.prog 8 #[.agg #[.slice A0 rs.length c0, .slice A1 fs.length c1], .agg #[.int .i64 g.1, .slice A2 g.2.length c2]] w (Got fun v w' => ∃ v1, v = .tuple #[v1, .bool (insB rs fs g)] ∧ OIn w' w.heap.size v1 rs (insI rs fs g) ∧ On w w') := by
  have hb := Aside0.mk (On.alloc (On.alloc (On.alloc (On.refl w) (.cells #[.slice A0 rs.length c0, .slice A1 fs.length c1] 27)) (.cells #[.int .i64 g.1, .slice A2 g.2.length c2] 30)) (.cells #[.slice none 0 0, .slice none 0 0] 27))
  have hL := Aside0.mk (loc3 w #[.slice A0 rs.length c0, .slice A1 fs.length c1] #[.int .i64 g.1, .slice A2 g.2.length c2] #[.slice none 0 0, .slice none 0 0] 27 30 27)
  have hsz3 := Aside0.mk (show (((w.alloc (.cells #[.slice A0 rs.length c0, .slice A1 fs.length c1] 27)).alloc (.cells #[.int .i64 g.1, .slice A2 g.2.length c2] 30)).alloc (.cells #[.slice none 0 0, .slice none 0 0] 27)).heap.size = w.heap.size + 3 by simp)
  cases ho : okInst rs fs with
  | false =>
    have hno := Aside0.mk (show insB rs fs g = false by unfold insB; rw [ho]; rfl)
    have ho' := Aside0.mk ho
    clear ho
    go_enter Tryz.func8, Tryz.ntmps8
    go_wp2_with (first
      | (go_at_call 17; refine (iIsValidInstance_calls _ A0 c0 A1 c1 rs fs (h0.on hb.out) (h1.on hb.out)).mono ?_; rintro e w1 ⟨rfl, hb1⟩; rw [ho'.out]; have hBx := Aside0.mk (hb.out.trans hb1); have hRx := Aside0.mk (Loc.on hb1 hL.out).2.2.1; have hd0 := blk_cell (Loc.on hb1 hL.out).1)
      | (refine gate 17 ?_))
    refine ⟨goesF 17 Tryz.func36 ((instanceCopy_calls _ A0 c0 A1 c1 rs fs (h0.on hBx.out) (h1.on hBx.out) hl0 hl hl2).mono ?_)⟩
    rintro e w5 ⟨v5, rfl, hI5, hb5⟩
    refine ⟨_, rfl, ?_⟩
    obtain ⟨a1, a2, a3, a4, a5, a6, rfl⟩ := hI5.read.shape
    have hI5' := Aside0.mk hI5
    have hR5 := Aside0.mk (blk_below hRx.out hb5)
    have hcr : ∀ i, w5.cell? ⟨w.heap.size + 1 + 1, i, none⟩ = _ := blk_cell hR5.out
    have hfr : ∀ i, w5.frozen? ⟨w.heap.size + 1 + 1, i, none⟩ = _ := blk_frozen hR5.out
    clear hI5
    go_wp2
    refine bodyPost_ret (retIB rfl rfl (g := w.heap.size + 2) (blk_set (blk_set hR5.out 0 _) 1 _) rfl) rfl ?_
    have hlt := blk_lt hRx.out
    refine ⟨_, rfl, _, by rw [hno.out]; rfl, ?_, Reg.On.set (Reg.On.set (hBx.out.trans hb5) (by simp; omega) _) (by simp; omega) _⟩
    have e6 : insI rs fs g = fs := by unfold insI; rw [hno.out]; rfl
    rw [e6]
    exact OIn.lower (OIn.set (OIn.set hI5'.out (by simp; omega) _) (by simp; omega) _) hBx.out.size
  | true =>
    have ho' := Aside0.mk ho
    cases hh : hasF fs g with
    | true =>
      have hno := Aside0.mk (show insB rs fs g = false by unfold insB; rw [ho, hh]; rfl)
      have hh' := Aside0.mk (show (fs.any fun f => cmpF f g == 0) = true from hh)
      clear ho hh
      go_enter Tryz.func8, Tryz.ntmps8
      go_wp2_with (first
        | (go_at_call 35; refine (hasFact_calls _ A1 c1 fs (h1.on (hb.out.trans hb1)) A2 c2 g (h2.on (hb.out.trans hb1))).mono ?_; rintro e w2 ⟨rfl, hb2⟩; rw [hh'.out]; have hBx := Aside0.mk ((hb.out.trans hb1).trans hb2); have hRx := Aside0.mk (Loc.on (hb1.trans hb2) hL.out).2.2.1; have hd0 := blk_cell (Loc.on (hb1.trans hb2) hL.out).1)
        | (go_at_call 17; refine (iIsValidInstance_calls _ A0 c0 A1 c1 rs fs (h0.on hb.out) (h1.on hb.out)).mono ?_; rintro e w1 ⟨rfl, hb1⟩; rw [ho'.out]; have hdd0 := blk_cell (Loc.on hb1 hL.out).1; have hdd1 := blk_cell (Loc.on hb1 hL.out).2.1)
        | (refine gate 17 ?_))
      refine ⟨goesF 17 Tryz.func36 ((instanceCopy_calls _ A0 c0 A1 c1 rs fs (h0.on hBx.out) (h1.on hBx.out) hl0 hl hl2).mono ?_)⟩
      rintro e w5 ⟨v5, rfl, hI5, hb5⟩
      refine ⟨_, rfl, ?_⟩
      obtain ⟨a1, a2, a3, a4, a5, a6, rfl⟩ := hI5.read.shape
      have hI5' := Aside0.mk hI5
      have hR5 := Aside0.mk (blk_below hRx.out hb5)
      have hcr : ∀ i, w5.cell? ⟨w.heap.size + 1 + 1, i, none⟩ = _ := blk_cell hR5.out
      have hfr : ∀ i, w5.frozen? ⟨w.heap.size + 1 + 1, i, none⟩ = _ := blk_frozen hR5.out
      clear hI5
      go_wp2
      refine bodyPost_ret (retIB rfl rfl (g := w.heap.size + 2) (blk_set (blk_set hR5.out 0 _) 1 _) rfl) rfl ?_
      have hlt := blk_lt hRx.out
      refine ⟨_, rfl, _, by rw [hno.out]; rfl, ?_, Reg.On.set (Reg.On.set (hBx.out.trans hb5) (by simp; omega) _) (by simp; omega) _⟩
      have e6 : insI rs fs g = fs := by unfold insI; rw [hno.out]; rfl
      rw [e6]
      exact OIn.lower (OIn.set (OIn.set hI5'.out (by simp; omega) _) (by simp; omega) _) hBx.out.size
    | false =>
      have hh' := Aside0.mk (show (fs.any fun f => cmpF f g == 0) = false from hh)
      have hasc := Aside0.mk (okInst_asc ho)
      have hle := Aside0.mk (okInst_len ho)
      have hle3 := Aside0.mk (fun f hf => okFact_len (okInst_mem ho f hf))
      have hhh := Aside0.mk hh
      have hoo := Aside0.mk ho
      clear ho hh
      go_enter Tryz.func8, Tryz.ntmps8
      go_wp2_with (first
        | (go_at_call 35; refine (hasFact_calls _ A1 c1 fs (h1.on (hb.out.trans hb1)) A2 c2 g (h2.on (hb.out.trans hb1))).mono ?_; rintro e w2 ⟨rfl, hb2⟩; rw [hh'.out]; have hB2 := Aside0.mk ((hb.out.trans hb1).trans hb2); have hL2 := Aside0.mk (Loc.on (hb1.trans hb2) hL.out); have hd0 := blk_cell hL2.out.1)
        | (go_at_call 17; refine (iIsValidInstance_calls _ A0 c0 A1 c1 rs fs (h0.on hb.out) (h1.on hb.out)).mono ?_; rintro e w1 ⟨rfl, hb1⟩; rw [ho'.out]; have hdd0 := blk_cell (Loc.on hb1 hL.out).1; have hdd1 := blk_cell (Loc.on hb1 hL.out).2.1)
        | (refine gate 19 ?_))
      clear hdd0 hdd1 hb1 hb2
      refine ⟨goesF 19 Tryz.func36 ((instanceCopy_calls w2 A0 c0 A1 c1 rs fs (h0.on hB2.out) (h1.on hB2.out) hl0 hl hl2).mono ?_)⟩
      rintro e w3 ⟨v3, rfl, ⟨vr, vf, hs, rfl, hR, hH, hS⟩, hb3⟩
      refine ⟨_, rfl, ?_⟩
      obtain ⟨Ar, cr, rfl⟩ := own_slice hR
      obtain ⟨Af, cf, rfl⟩ := own_slice hH
      have hlen := Aside0.mk hS.len
      have hR1 := Aside0.mk hR
      have hH1 := Aside0.mk hH
      have hS1 := Aside0.mk hS
      have hw2 := Aside0.mk (show w.heap.size + 3 ≤ w2.heap.size from blk_lt hL2.out.2.2.1)
      have hB3 := Aside0.mk (hb3.trans (On.alloc (On.refl w3) (.cells #[.slice Ar rs.length cr, .slice Af hs.length cf] 27)))
      have hL3 := Aside0.mk (Loc.on hB3.out hL2.out)
      have hY3 := Aside0.mk (loc_new w3 #[.slice Ar rs.length cr, .slice Af hs.length cf] 27)
      have hd1 := blk_cell hL3.out.2.1
      have hy := blk_cell hY3.out
      have hfill := alloc_fill w3
      have hb3' := Aside0.mk hb3
      clear hR hH hS hd0 hb3
      go_wp2_with (refine gate 24 ?_)
      clear hfill
      obtain ⟨w4, hw4⟩ : ∃ w4, w3.alloc (.cells #[.slice Ar rs.length cr, .slice Af hs.length cf] 27) = w4 := ⟨_, rfl⟩
      have hS34 : On w3 w4 := by rw [← hw4]; exact On.alloc (On.refl _) _
      have hsz4 : w4.heap.size = w3.heap.size + 1 := by rw [← hw4]; simp
      rw [hw4] at hB3 hL3 hY3 hd1 hy ⊢
      clear hw4 hd1 hy
      obtain ⟨zs, hzs⟩ : ∃ zs, hs ++ [((g.1, A2, g.2.length, c2) : Hdr)] = zs := ⟨_, rfl⟩
      have hBl := Aside0.mk (On.alloc (On.refl w4) (.cells #[.int .i64 g.1, .slice A2 g.2.length c2] 30))
      have hH4 := Aside0.mk (pw_own_below hH1.out (hS34.trans hBl.out))
      have hRH4 := lit_RH (On.refl (w4.alloc (.cells #[.int .i64 g.1, .slice A2 g.2.length c2] 30 (0, 0))))
      rw [hsz4] at hRH4
      refine ⟨apH 24 hzs hH4.out hRH4 (hB3.out.trans hBl.out).size (by have := hle.out; have := hlen.out; simp; omega) fun v6 w6 hO6 hg6 => ?_⟩
      obtain ⟨A6, c6, rfl⟩ := own_slice hO6
      have hB6 := Aside0.mk (own_grows (hB3.out.trans hBl.out) hH4.out hg6 (Nat.le_refl _))
      have hS6 : Sep w6 w2.heap.size hs fs := Sep.ex (hS1.out.on (hS34.trans hBl.out)) (Ex.of_grown hg6) (fun i a b ha hbk e => (hS1.out.ne_row hH1.out ha hbk) e.symm)
      have hRd := hS6.reads.snoc (a := (g.1, A2, g.2.length, c2)) (f := g) rfl rfl (h2.on (hB2.out.trans hB6.out))
      rw [hzs] at hRd
      have hF6 := (OH.rh hO6).2.fcts hRd
      have hR6 := Aside0.mk (own_ex (pw_own_below hR1.out (hS34.trans hBl.out)) (Ex.of_grown hg6) (fun i hi e => own_ne_blk hR1.out hH1.out (by decide) hi e.symm))
      have hY6 := Aside0.mk (blk_grown hg6 (blk_below hY3.out hBl.out) (row_ne_box hH4.out (blk_below hY3.out hBl.out) (by decide)))
      refine goesF 25 Tryz.func37 ((factsSet_calls w6 A6 zs.length c6 (fs ++ [g]) hF6 hRd.len (by have := hle.out; simp; omega) (fun f hf => ?_)).mono ?_)
      · rcases List.mem_append.1 hf with hf | hf
        · have := hle3.out f hf; omega
        · rw [List.mem_singleton.1 hf]; exact hg2
      rintro e w7 ⟨v7, rfl, hs7, hO7, hS7, hb7⟩
      rw [setF_put fs g hasc.out] at hS7
      obtain ⟨A7, c7, rfl⟩ := own_slice hO7
      refine ⟨_, rfl, ?_⟩
      have hl7 := hS7.len
      have hO7' := Aside0.mk hO7
      have hS7' := Aside0.mk hS7
      have hl7' := Aside0.mk hl7
      rw [hl7]
      have hY7 := Aside0.mk (blk_below hY6.out hb7)
      have hR7 := Aside0.mk (pw_own_below hR6.out hb7)
      have hB7 := Aside0.mk (hB6.out.trans hb7)
      have hL7 := Aside0.mk (Loc.on hB7.out hL2.out)
      have hw36 := Aside0.mk (show w3.heap.size < w6.heap.size from blk_lt hY6.out)
      have hcy := blk_cell hY7.out
      have hfy := blk_frozen hY7.out
      clear hO6 hg6 hS6 hRd hF6 hO7 hS7 hl7 hb7 hzs
      go_wp2_with (refine gate 28 ?_)
      clear hcy hfy
      have hE8 := Aside0.mk (Ex.set w7 ⟨w3.heap.size, 1, none⟩ (.slice A7 (putF fs g).length c7))
      have hY8 := Aside0.mk (blk_set hY7.out 1 (.slice A7 (putF fs g).length c7))
      have hw23 := Aside0.mk (show w2.heap.size ≤ w3.heap.size from hb3'.out.size)
      have hB8 := Aside0.mk (show On w2 (w7.setCell ⟨w3.heap.size, 1, none⟩ (.slice A7 (putF fs g).length c7)) from Reg.On.set hB7.out hw23.out _)
      obtain ⟨w8, hw8⟩ : ∃ w8, w7.setCell ⟨w3.heap.size, 1, none⟩ (.slice A7 (putF fs g).length c7) = w8 := ⟨_, rfl⟩
      rw [hw8] at hE8 hY8 hB8 ⊢
      clear hw8
      have hO8 := own_ex hO7'.out hE8.out (fun i hi e => by have := own_base hO7'.out i hi; have := hw36.out; have h5 : i = w3.heap.size := e; omega)
      have hS8 := hS7'.out.ex hE8.out (fun i a b ha hbk e => by have := (hS7'.out.lt ha hbk).1; have := hw36.out; have h5 : b = w3.heap.size := e; omega)
      have hR8 := own_ex hR7.out hE8.out (fun i hi e => by have := own_lt hR1.out i hi; have h5 : i = w3.heap.size := e; omega)
      have hF8 := (OH.rh hO8).2.fcts hS8.reads
      obtain ⟨Ar', cr', er, hRl8⟩ := OR.rd hR8
      injection er with er1 er2 er3
      subst er1 er3
      have hw26 : w2.heap.size ≤ w6.heap.size := hB6.out.size
      have hI8 := Aside0.mk (show OIn w8 w2.heap.size (.agg #[.slice Ar rs.length cr, .slice A7 (putF fs g).length c7]) rs (putF fs g) from ⟨_, _, hs7, rfl, hR8, hl7'.out ▸ own_lower hO8 hw26, hS8.lower hw26⟩)
      refine ⟨goesF 28 Tryz.func17 ((iIsValidInstance_calls w8 Ar cr A7 c7 rs (putF fs g) hRl8 hF8).mono ?_)⟩
      rintro e w9 ⟨rfl, hb9⟩
      refine ⟨_, rfl, ?_⟩
      have hI9 := Aside0.mk (hI8.out.on hb9)
      have hY9 := Aside0.mk (blk_below hY8.out hb9)
      have hB9 := Aside0.mk (hB8.out.trans hb9)
      have hL9 := Aside0.mk (Loc.on hB9.out hL2.out)
      have hBx := Aside0.mk (hB2.out.trans hB9.out)
      have hRx := Aside0.mk hL9.out.2.2.1
      have hd0 := blk_cell hL9.out.1
      have hy9 := blk_cell hY9.out
      clear hO8 hS8 hR8 hF8 hRl8 hb9 er2
      cases hv : okInst rs (putF fs g) with
      | false =>
        have hno := Aside0.mk (show insB rs fs g = false by unfold insB; rw [hoo.out, hhh.out, hv]; rfl)
        clear hv
        go_wp2_with (refine gate 31 ?_)
        clear hy9
        refine ⟨goesF 31 Tryz.func36 ((instanceCopy_calls _ A0 c0 A1 c1 rs fs (h0.on hBx.out) (h1.on hBx.out) hl0 hl hl2).mono ?_)⟩
        rintro e w5 ⟨v5, rfl, hI5, hb5⟩
        refine ⟨_, rfl, ?_⟩
        obtain ⟨a1, a2, a3, a4, a5, a6, rfl⟩ := hI5.read.shape
        have hI5' := Aside0.mk hI5
        have hR5 := Aside0.mk (blk_below hRx.out hb5)
        have hcr : ∀ i, w5.cell? ⟨w.heap.size + 1 + 1, i, none⟩ = _ := blk_cell hR5.out
        have hfr : ∀ i, w5.frozen? ⟨w.heap.size + 1 + 1, i, none⟩ = _ := blk_frozen hR5.out
        clear hI5
        go_wp2
        refine bodyPost_ret (retIB rfl rfl (g := w.heap.size + 2) (blk_set (blk_set hR5.out 0 _) 1 _) rfl) rfl ?_
        have hlt := blk_lt hRx.out
        refine ⟨_, rfl, _, by rw [hno.out]; rfl, ?_, Reg.On.set (Reg.On.set (hBx.out.trans hb5) (by simp; omega) _) (by simp; omega) _⟩
        have e6 : insI rs fs g = fs := by unfold insI; rw [hno.out]; rfl
        rw [e6]
        exact OIn.lower (OIn.set (OIn.set hI5'.out (by simp; omega) _) (by simp; omega) _) hBx.out.size
      | true =>
        have hyes := Aside0.mk (show insB rs fs g = true by unfold insB; rw [hoo.out, hhh.out, hv]; rfl)
        have hcr : ∀ i, w9.cell? ⟨w.heap.size + 1 + 1, i, none⟩ = _ := blk_cell hRx.out
        have hfr : ∀ i, w9.frozen? ⟨w.heap.size + 1 + 1, i, none⟩ = _ := blk_frozen hRx.out
        clear hv hd0
        go_wp2
        refine bodyPost_ret (retIB rfl rfl (g := w.heap.size + 2) (blk_set (blk_set hRx.out 0 _) 1 _) rfl) rfl ?_
        refine ⟨_, rfl, _, by rw [hyes.out]; rfl, ?_, Reg.On.set (Reg.On.set hBx.out (by simp; omega) _) (by simp; omega) _⟩
        have e6 : insI rs fs g = putF fs g := by unfold insI; rw [hyes.out]; rfl
        rw [e6]
        have hw2' := hw2.out
        exact OIn.lower (OIn.set (OIn.set hI9.out (by simp; omega) _) (by simp; omega) _) hB2.out.size
end Go.Proofs.YtngjhblbpapjeaaGreat.H
/- Walks: the reference puts a fact into an instance, if that is valid. No condition. -/
namespace Go.Proofs.YtngjhblbpapjeaaGreat.H
open Go Go.RowKit Go.Proofs.YtngjhblbpapjeaaGreatW.PrintWords Go.Proofs.YtngjhblbpapjeaaGreatW.PrintLast
open Go.Proofs.YtngjhblbpapjeaaGreat.Reg (On on_draw)
set_option maxHeartbeats 4000000
set_option maxRecDepth 100000
set_option linter.unusedVariables false
set_option linter.unusedSimpArgs false

theorem putF_len (l : List Fct) (x : Fct) : (putF l x).length ≤ l.length + 1 := by
  induction l with
  | nil => simp [putF]
  | cons y r ih => unfold putF; split <;> (try split) <;> simp <;> omega
theorem sInsertFact_calls (w : World) (A0 c0 A1 c1) (rs : List Rel) (fs : List Fct) (h0 : Rels w A0 c0 rs) (h1 : Fcts w A1 c1 fs) (A2 c2) (g : Fct) (h2 : Ints w A2 c2 g.2) (hl0 : rs.length ≤ 2000000) (hl : fs.length ≤ 2000000) (hl2 : ∀ f ∈ fs, f.2.length ≤ 2000000) (hg2 : g.2.length ≤ 2000000) :
    Calls Tryz.prog 9 #[.agg #[.slice A0 rs.length c0, .slice A1 fs.length c1], .agg #[.int .i64 g.1, .slice A2 g.2.length c2]] w (Got fun v w' => ∃ v1, v = .tuple #[v1, .bool (insB rs fs g)] ∧ OIn w' w.heap.size v1 rs (insI rs fs g) ∧ On w w') := by
  have hb := Aside0.mk (On.alloc (On.alloc (On.alloc (On.refl w) (.cells #[.slice A0 rs.length c0, .slice A1 fs.length c1] 27)) (.cells #[.int .i64 g.1, .slice A2 g.2.length c2] 30)) (.cells #[.slice none 0 0, .slice none 0 0] 27))
  have hL := Aside0.mk (loc3 w #[.slice A0 rs.length c0, .slice A1 fs.length c1] #[.int .i64 g.1, .slice A2 g.2.length c2] #[.slice none 0 0, .slice none 0 0] 27 30 27)
  have hsz3 := Aside0.mk (show (((w.alloc (.cells #[.slice A0 rs.length c0, .slice A1 fs.length c1] 27)).alloc (.cells #[.int .i64 g.1, .slice A2 g.2.length c2] 30)).alloc (.cells #[.slice none 0 0, .slice none 0 0] 27)).heap.size = w.heap.size + 3 by simp)
  cases ho : okInst rs fs with
  | false =>
    have hno := Aside0.mk (show insB rs fs g = false by unfold insB; rw [ho]; rfl)
    have ho' := Aside0.mk ho
    clear ho
    go_enter Tryz.func9, Tryz.ntmps9
    go_wp2_with (first
      |
      (go_at_call 38; refine (l5Copy_calls _ A0 c0 A1 c1 rs fs (h0.on hb.out) (h1.on hb.out) hl0 hl hl2).mono ?_; rintro e w1 ⟨v1, rfl, hI0, hb1⟩; obtain ⟨a1, a2, a3, a4, a5, a6, rfl⟩ := hI0.read.shape; have hfill := alloc_fill w1; have hI := Aside0.mk hI0; clear hI0; have hB1 := Aside0.mk (hb1.trans (On.alloc (On.refl _) (.cells #[.slice a1 a2 a3, .slice a4 a5 a6] 27))); have hL1 := Aside0.mk (Loc.on hB1.out hL.out); have hc0 := blk_cell hL1.out.1; have hc1 := blk_cell hL1.out.2.1; have hY1 := Aside0.mk (loc_new w1 #[.slice a1 a2 a3, .slice a4 a5 a6] 27))
      | (go_at_call 39; refine (IsValidInstance_calls _ A0 c0 A1 c1 rs fs (h0.on (hb.out.trans hB1.out)) (h1.on (hb.out.trans hB1.out))).mono ?_; rintro e wx ⟨rfl, hb2⟩; rw [ho'.out]; refine Stop.out ?_))
    clear hc0 hc1 hfill
    refine ⟨?_⟩
    have hRx := Aside0.mk (Loc.on hb2 hL1.out).2.2.1
    have hYx := Aside0.mk (blk_below hY1.out hb2)
    have hIx := Aside0.mk (hI.out.on ((On.alloc (On.refl _) _).trans hb2))
    have hBx := Aside0.mk (hb.out.trans (hB1.out.trans hb2))
    have hcr : ∀ i, wx.cell? ⟨w.heap.size + 1 + 1, i, none⟩ = _ := blk_cell hRx.out
    have hfr : ∀ i, wx.frozen? ⟨w.heap.size + 1 + 1, i, none⟩ = _ := blk_frozen hRx.out
    have hyx := blk_cell hYx.out
    go_wp2
    refine bodyPost_ret (retIB rfl rfl (g := w.heap.size + 2) (blk_set (blk_set hRx.out 0 _) 1 _) rfl) rfl ?_
    have hlt := blk_lt hRx.out
    have e6 : insI rs fs g = fs := by unfold insI; rw [hno.out]; rfl
    have hI3 := hIx.out
    rw [hsz3.out] at hI3
    refine ⟨_, rfl, _, by rw [hno.out]; rfl, ?_, Reg.On.set (Reg.On.set hBx.out (by simp; omega) _) (by simp; omega) _⟩
    rw [e6]
    exact OIn.lower (OIn.set (OIn.set hI3 (by simp) _) (by simp) _) (by omega)
  | true =>
    have ho' := Aside0.mk ho
    cases hh : hasF fs g with
    | true =>
      have hno := Aside0.mk (show insB rs fs g = false by unfold insB; rw [ho, hh]; rfl)
      have hh' := Aside0.mk (show (okInst rs fs && hasF fs g) = true by rw [ho, hh]; rfl)
      clear ho hh
      go_enter Tryz.func9, Tryz.ntmps9
      go_wp2_with (first
        |
        (go_at_call 38; refine (l5Copy_calls _ A0 c0 A1 c1 rs fs (h0.on hb.out) (h1.on hb.out) hl0 hl hl2).mono ?_; rintro e w1 ⟨v1, rfl, hI0, hb1⟩; obtain ⟨a1, a2, a3, a4, a5, a6, rfl⟩ := hI0.read.shape; have hfill := alloc_fill w1; have hI := Aside0.mk hI0; clear hI0; have hB1 := Aside0.mk (hb1.trans (On.alloc (On.refl _) (.cells #[.slice a1 a2 a3, .slice a4 a5 a6] 27))); have hL1 := Aside0.mk (Loc.on hB1.out hL.out); have hc0 := blk_cell hL1.out.1; have hc1 := blk_cell hL1.out.2.1; have hY1 := Aside0.mk (loc_new w1 #[.slice a1 a2 a3, .slice a4 a5 a6] 27))
        | (go_at_call 40; refine (sContainsFact_calls _ A0 c0 A1 c1 rs fs (h0.on ((hb.out.trans hB1.out).trans hb2)) (h1.on ((hb.out.trans hB1.out).trans hb2)) A2 c2 g (h2.on ((hb.out.trans hB1.out).trans hb2))).mono ?_; rintro e wx ⟨rfl, hb3⟩; rw [hh'.out]; refine Stop.out ?_)
        | (go_at_call 39; refine (IsValidInstance_calls _ A0 c0 A1 c1 rs fs (h0.on (hb.out.trans hB1.out)) (h1.on (hb.out.trans hB1.out))).mono ?_; rintro e w2 ⟨rfl, hb2⟩; rw [ho'.out]; have hL2 := Aside0.mk (Loc.on hb2 hL1.out); have hd0 := blk_cell hL2.out.1; have hd1 := blk_cell hL2.out.2.1; clear hc0 hc1 hfill))
      clear hd0 hd1
      refine ⟨?_⟩
      have hRx := Aside0.mk (Loc.on hb3 hL2.out).2.2.1
      have hYx := Aside0.mk (blk_below hY1.out (hb2.trans hb3))
      have hIx := Aside0.mk (hI.out.on ((On.alloc (On.refl _) _).trans (hb2.trans hb3)))
      have hBx := Aside0.mk (hb.out.trans (hB1.out.trans (hb2.trans hb3)))
      have hcr : ∀ i, wx.cell? ⟨w.heap.size + 1 + 1, i, none⟩ = _ := blk_cell hRx.out
      have hfr : ∀ i, wx.frozen? ⟨w.heap.size + 1 + 1, i, none⟩ = _ := blk_frozen hRx.out
      have hyx := blk_cell hYx.out
      go_wp2
      refine bodyPost_ret (retIB rfl rfl (g := w.heap.size + 2) (blk_set (blk_set hRx.out 0 _) 1 _) rfl) rfl ?_
      have hlt := blk_lt hRx.out
      have e6 : insI rs fs g = fs := by unfold insI; rw [hno.out]; rfl
      have hI3 := hIx.out
      rw [hsz3.out] at hI3
      refine ⟨_, rfl, _, by rw [hno.out]; rfl, ?_, Reg.On.set (Reg.On.set hBx.out (by simp; omega) _) (by simp; omega) _⟩
      rw [e6]
      exact OIn.lower (OIn.set (OIn.set hI3 (by simp) _) (by simp) _) (by omega)
    | false =>
      have hh' := Aside0.mk (show (okInst rs fs && hasF fs g) = false by rw [ho, hh]; rfl)
      have hasc := Aside0.mk (okInst_asc ho)
      have hle := Aside0.mk (okInst_len ho)
      have hle3 := Aside0.mk (fun f hf => okFact_len (okInst_mem ho f hf))
      have hhh := Aside0.mk hh
      have hoo := Aside0.mk ho
      clear ho hh
      go_enter Tryz.func9, Tryz.ntmps9
      go_wp2_with (first
        |
        (go_at_call 38; refine (l5Copy_calls _ A0 c0 A1 c1 rs fs (h0.on hb.out) (h1.on hb.out) hl0 hl hl2).mono ?_; rintro e w1 ⟨v1, rfl, hI0, hb1⟩; obtain ⟨a1, a2, a3, a4, a5, a6, rfl⟩ := hI0.read.shape; have hfill := alloc_fill w1; have hI := Aside0.mk hI0; clear hI0; have hB1 := Aside0.mk (hb1.trans (On.alloc (On.refl _) (.cells #[.slice a1 a2 a3, .slice a4 a5 a6] 27))); have hL1 := Aside0.mk (Loc.on hB1.out hL.out); have hc0 := blk_cell hL1.out.1; have hc1 := blk_cell hL1.out.2.1; have hY1 := Aside0.mk (loc_new w1 #[.slice a1 a2 a3, .slice a4 a5 a6] 27))
        | (go_at_call 40; refine (sContainsFact_calls _ A0 c0 A1 c1 rs fs (h0.on ((hb.out.trans hB1.out).trans hb2)) (h1.on ((hb.out.trans hB1.out).trans hb2)) A2 c2 g (h2.on ((hb.out.trans hB1.out).trans hb2))).mono ?_; rintro e w3 ⟨rfl, hb3⟩; rw [hh'.out]; have hL3 := Aside0.mk (Loc.on hb3 hL2.out); have hY3 := Aside0.mk (blk_below hY1.out (hb2.trans hb3)); have hI3 := Aside0.mk (hI.out.on ((On.alloc (On.refl _) (.cells #[.slice a1 a2 a3, .slice a4 a5 a6] 27)).trans (hb2.trans hb3))); have hB3 := Aside0.mk (hB1.out.trans (hb2.trans hb3)); have hd2 := blk_cell hL3.out.2.1; have hd3 := blk_cell hY3.out; clear hd0 hd1)
        | (go_at_call 39; refine (IsValidInstance_calls _ A0 c0 A1 c1 rs fs (h0.on (hb.out.trans hB1.out)) (h1.on (hb.out.trans hB1.out))).mono ?_; rintro e w2 ⟨rfl, hb2⟩; rw [ho'.out]; have hL2 := Aside0.mk (Loc.on hb2 hL1.out); have hd0 := blk_cell hL2.out.1; have hd1 := blk_cell hL2.out.2.1; clear hc0 hc1 hfill)
        | (refine gate 21 ?_))
      clear hd2 hd3
      obtain ⟨A3, c3, A4, c4, e3, hr3, hf3⟩ := hI3.out.read.out
      injection e3 with e3
      have e31 := congrArg (fun x => x.toList) e3
      simp only [List.cons.injEq, Value.slice.injEq] at e31
      obtain ⟨⟨q1, q2, q3⟩, ⟨q4, q5, q6⟩, _⟩ := e31
      subst q1 q2 q3 q4 q5 q6
      clear e3
      refine ⟨goesF 21 Tryz.func41 ((l5Put_calls w3 a1 a3 a4 a6 rs fs hr3 hf3 A2 c2 g (h2.on (hb.out.trans hB3.out)) hl hg2 hasc.out).mono ?_)⟩
      rintro e w4 ⟨v4, rfl, hP4, hb4⟩
      refine ⟨_, rfl, ?_⟩
      obtain ⟨A5, c5, A6, c6, rfl, hr5, hf5⟩ := hP4.out
      have hpl : (putF fs g).length ≤ fs.length + 1 := putF_len fs g
      refine goesF 22 Tryz.func38 ((l5Copy_calls w4 A5 c5 A6 c6 rs (putF fs g) hr5 hf5 hl0 (by have := hle.out; omega) (fun f hf => ?_)).mono ?_)
      · rcases (mem_putF g f fs).1 hf with e | hf
        · rw [e]; exact hg2
        · have := hle3.out f hf; omega
      rintro e w5 ⟨v5, rfl, hI5, hb5⟩
      refine ⟨_, rfl, ?_⟩
      obtain ⟨b1, b2, b3, b4, b5, b6, rfl⟩ := hI5.read.shape
      have hI5' := Aside0.mk hI5
      have hfill := alloc_fill w5
      have hB5 := Aside0.mk ((hb4.trans hb5).trans (On.alloc (On.refl w5) (.cells #[.slice b1 b2 b3, .slice b4 b5 b6] 27)))
      have hZ5 := Aside0.mk (loc_new w5 #[.slice b1 b2 b3, .slice b4 b5 b6] 27)
      have hI6 := Aside0.mk (hI5.on (On.alloc (On.refl w5) (.cells #[.slice b1 b2 b3, .slice b4 b5 b6] 27)))
      have hw34 := Aside0.mk hb4.size
      clear hI5 hP4 hr5 hf5
      go_wp2_with (refine gate 24 ?_)
      clear hfill
      obtain ⟨A7, c7, A8, c8, e7, hr7, hf7⟩ := hI6.out.read.out
      injection e7 with e7
      have e71 := congrArg (fun x => x.toList) e7
      simp only [List.cons.injEq, Value.slice.injEq] at e71
      obtain ⟨⟨q1, q2, q3⟩, ⟨q4, q5, q6⟩, _⟩ := e71
      subst q1 q2 q3 q4 q5 q6
      clear e7
      refine ⟨goesF 24 Tryz.func39 ((IsValidInstance_calls _ b1 b3 b4 b6 rs (putF fs g) hr7 hf7).mono ?_)⟩
      rintro e wx ⟨rfl, hb6⟩
      refine ⟨_, rfl, ?_⟩
      have hB6 := Aside0.mk (hB5.out.trans hb6)
      have hRx := Aside0.mk (Loc.on hB6.out hL3.out).2.2.1
      have hBx := Aside0.mk (hb.out.trans (hB3.out.trans hB6.out))
      cases hv : okInst rs (putF fs g) with
      | false =>
        have hno := Aside0.mk (show insB rs fs g = false by unfold insB; rw [hoo.out, hhh.out, hv]; rfl)
        have hYx := Aside0.mk (blk_below hY3.out hB6.out)
        have hIx := Aside0.mk (hI3.out.on hB6.out)
        clear hv
        have hcr : ∀ i, wx.cell? ⟨w.heap.size + 1 + 1, i, none⟩ = _ := blk_cell hRx.out
        have hfr : ∀ i, wx.frozen? ⟨w.heap.size + 1 + 1, i, none⟩ = _ := blk_frozen hRx.out
        have hyx := blk_cell hYx.out
        go_wp2
        refine bodyPost_ret (retIB rfl rfl (g := w.heap.size + 2) (blk_set (blk_set hRx.out 0 _) 1 _) rfl) rfl ?_
        have hlt := blk_lt hRx.out
        have e6 : insI rs fs g = fs := by unfold insI; rw [hno.out]; rfl
        have hI3 := hIx.out
        rw [hsz3.out] at hI3
        refine ⟨_, rfl, _, by rw [hno.out]; rfl, ?_, Reg.On.set (Reg.On.set hBx.out (by simp; omega) _) (by simp; omega) _⟩
        rw [e6]
        exact OIn.lower (OIn.set (OIn.set hI3 (by simp) _) (by simp) _) (by omega)
      | true =>
        have hyes := Aside0.mk (show insB rs fs g = true by unfold insB; rw [hoo.out, hhh.out, hv]; rfl)
        have hYx := Aside0.mk (blk_below hZ5.out hb6)
        have hIx := Aside0.mk (hI6.out.on hb6)
        clear hv
        have hcr : ∀ i, wx.cell? ⟨w.heap.size + 1 + 1, i, none⟩ = _ := blk_cell hRx.out
        have hfr : ∀ i, wx.frozen? ⟨w.heap.size + 1 + 1, i, none⟩ = _ := blk_frozen hRx.out
        have hyx := blk_cell hYx.out
        go_wp2
        refine bodyPost_ret (retIB rfl rfl (g := w.heap.size + 2) (blk_set (blk_set hRx.out 0 _) 1 _) rfl) rfl ?_
        have e6 : insI rs fs g = putF fs g := by unfold insI; rw [hyes.out]; rfl
        have hlt := blk_lt hL3.out.2.2.1
        have hlt2 := hw34.out
        refine ⟨_, rfl, _, by rw [hyes.out]; rfl, ?_, Reg.On.set (Reg.On.set hBx.out (by simp; omega) _) (by simp; omega) _⟩
        rw [e6]
        exact OIn.lower (OIn.set (OIn.set hIx.out (by simp; omega) _) (by simp; omega) _) (by omega)
end Go.Proofs.YtngjhblbpapjeaaGreat.H
/- Walk: the law FnExactInsertFact. No condition. -/
namespace Go.Proofs.YtngjhblbpapjeaaGreat.H
open Go Go.RowKit Go.Proofs.YtngjhblbpapjeaaGreatW.PrintWords Go.Proofs.YtngjhblbpapjeaaGreatW.PrintLast
open Go.Proofs.YtngjhblbpapjeaaGreat.Reg (On on_draw)
set_option maxHeartbeats 8000000
set_option maxRecDepth 100000
set_option linter.unusedVariables false
set_option linter.unusedSimpArgs false

theorem sizes_of {rs : List Rel} {fs : List Fct} (h : wR rs + wF fs ≤ 1048576) : rs.length ≤ 2000000 ∧ fs.length ≤ 2000000 ∧ ∀ f ∈ fs, f.2.length ≤ 2000000 := by
  have h1 := mkI_le rs fs
  have h2 := wF_len fs
  unfold mkI at h1
  refine ⟨by omega, by omega, fun f hf => ?_⟩
  have h3 : f.2.length ≤ wF fs := by
    clear h h1 h2
    unfold wF
    induction fs with
    | nil => cases hf
    | cons g fs ih =>
      rcases List.mem_cons.1 hf with rfl | hf
      · simp; omega
      · have := ih hf; simp at this ⊢; omega
  omega
theorem sInsertV (w : World) (v u : Value) (rs : List Rel) (fs : List Fct) (g : Fct) (h : RIn w v rs fs) (k : RFa w u g) (hz : wR rs + wF fs ≤ 1048576) (hg : g.2.length ≤ 1048576) : Calls Tryz.prog 9 #[v, u] w (Got fun v w' => ∃ v1, v = .tuple #[v1, .bool (insB rs fs g)] ∧ OIn w' w.heap.size v1 rs (insI rs fs g) ∧ On w w') := by
  obtain ⟨A0, c0, A1, c1, rfl, h0, h1⟩ := h.out
  obtain ⟨A2, c2, rfl, h2⟩ := k.out
  obtain ⟨a, b, c⟩ := sizes_of hz
  exact sInsertFact_calls w A0 c0 A1 c1 rs fs h0 h1 A2 c2 g h2 a b c (by omega)
theorem iInsertV (w : World) (v u : Value) (rs : List Rel) (fs : List Fct) (g : Fct) (h : RIn w v rs fs) (k : RFa w u g) (hz : wR rs + wF fs ≤ 1048576) (hg : g.2.length ≤ 1048576) : Calls Tryz.prog 8 #[v, u] w (Got fun v w' => ∃ v1, v = .tuple #[v1, .bool (insB rs fs g)] ∧ OIn w' w.heap.size v1 rs (insI rs fs g) ∧ On w w') := by
  obtain ⟨A0, c0, A1, c1, rfl, h0, h1⟩ := h.out
  obtain ⟨A2, c2, rfl, h2⟩ := k.out
  obtain ⟨a, b, c⟩ := sizes_of hz
  exact iInsertFact_calls w A0 c0 A1 c1 rs fs h0 h1 A2 c2 g h2 a b c (by omega)
theorem insI_mk (rs : List Rel) (fs : List Fct) (g : Fct) : mkI rs (insI rs fs g) ≤ mkI rs fs + 1000 := by
  unfold insI
  split
  · rename_i h
    simp only [insB, Bool.and_eq_true] at h
    have ho := h.2.2
    have h1 := okInst_len ho
    have h2 := wF_small (putF fs g) (fun f hf => okFact_len (okInst_mem ho f hf))
    unfold mkI; omega
  · omega
theorem FnExactInsertFact_calls (w : World) (V0 : Value) (rs0 : List Rel) (fs0 : List Fct) (hA0 : RIn w V0 rs0 fs0) (hZ0 : ∀ r ∈ rs0, r.1.size ≤ 9223372036854775807) (V1 : Value) (f1 : Fct) (hA1 : RFa w V1 f1) : Calls Tryz.prog 4 #[V0, V1] w fun e w' => e = .returned (.bool true) ∧ On w w' := by
  have hW := Aside0.mk (On.refl w)
  obtain ⟨ua0, la0, xa0, ub0, lb0, xb0, rfl⟩ := hA0.shape
  have oA0 := Aside0.mk (On.refl w)
  obtain ⟨ra1, ub1, lb1, xb1, rfl⟩ := hA1.shape
  have oA1 := Aside0.mk (On.refl w)
  replace hW := Aside0.mk (hW.out.trans (On.alloc (On.refl w) (.cells #[.slice ua0 la0 xa0, .slice ub0 lb0 xb0] 44)))
  replace oA0 := Aside0.mk (oA0.out.trans (On.alloc (On.refl w) (.cells #[.slice ua0 la0 xa0, .slice ub0 lb0 xb0] 44)))
  replace oA1 := Aside0.mk (oA1.out.trans (On.alloc (On.refl w) (.cells #[.slice ua0 la0 xa0, .slice ub0 lb0 xb0] 44)))
  have n2 := Aside0.mk (show (w.alloc (.cells #[.slice ua0 la0 xa0, .slice ub0 lb0 xb0] 44)).heap.size = w.heap.size + 1 from by simp)
  have kp0 := Aside0.mk (loc_new w #[.slice ua0 la0 xa0, .slice ub0 lb0 xb0] 44)
  have cp0 := blk_cell kp0.out
  replace hW := Aside0.mk (hW.out.trans (On.alloc (On.refl (w.alloc (.cells #[.slice ua0 la0 xa0, .slice ub0 lb0 xb0] 44))) (.cells #[.int .i64 ra1, .slice ub1 lb1 xb1] 45)))
  replace kp0 := Aside0.mk (blk_below kp0.out (On.alloc (On.refl (w.alloc (.cells #[.slice ua0 la0 xa0, .slice ub0 lb0 xb0] 44))) (.cells #[.int .i64 ra1, .slice ub1 lb1 xb1] 45)))
  replace cp0 := blk_cell kp0.out
  replace oA0 := Aside0.mk (oA0.out.trans (On.alloc (On.refl (w.alloc (.cells #[.slice ua0 la0 xa0, .slice ub0 lb0 xb0] 44))) (.cells #[.int .i64 ra1, .slice ub1 lb1 xb1] 45)))
  replace oA1 := Aside0.mk (oA1.out.trans (On.alloc (On.refl (w.alloc (.cells #[.slice ua0 la0 xa0, .slice ub0 lb0 xb0] 44))) (.cells #[.int .i64 ra1, .slice ub1 lb1 xb1] 45)))
  have n4 := Aside0.mk (show ((w.alloc (.cells #[.slice ua0 la0 xa0, .slice ub0 lb0 xb0] 44)).alloc (.cells #[.int .i64 ra1, .slice ub1 lb1 xb1] 45)).heap.size = (w.alloc (.cells #[.slice ua0 la0 xa0, .slice ub0 lb0 xb0] 44)).heap.size + 1 from by simp)
  have kp1 := Aside0.mk (show ((w.alloc (.cells #[.slice ua0 la0 xa0, .slice ub0 lb0 xb0] 44)).alloc (.cells #[.int .i64 ra1, .slice ub1 lb1 xb1] 45)).heap[w.heap.size + 1]? = some (.cells #[.int .i64 ra1, .slice ub1 lb1 xb1] 45 (0, 0)) from by have h := loc_new (w.alloc (.cells #[.slice ua0 la0 xa0, .slice ub0 lb0 xb0] 44)) #[.int .i64 ra1, .slice ub1 lb1 xb1] 45; rwa [show (w.alloc (.cells #[.slice ua0 la0 xa0, .slice ub0 lb0 xb0] 44)).heap.size = w.heap.size + 1 by simp] at h)
  have cp1 := blk_cell kp1.out
  have hmk0 := Aside0.mk (mkI_le rs0 fs0)
  have hmk1 := Aside0.mk True.intro
  have hmkG := Aside0.mk (insI_mk rs0 fs0 f1)
  have hmkG' := hmk0
  go_enter Tryz.func4, Tryz.ntmps4
  go_wp2_with (refine gate 19 ?_)
  refine ⟨goesF 19 Tryz.func19 ((szI_calls _ _ rs0 fs0 1048576 (by omega) (by omega) (hA0.on oA0.out) hZ0).mono ?_)⟩
  rintro e w1 ⟨q1, rfl, hq0, hb1⟩
  refine ⟨_, rfl, ?_⟩
  have hq1 := Aside0.mk hq0
  clear hq0
  replace hW := Aside0.mk (hW.out.trans hb1)
  replace kp0 := Aside0.mk (blk_below kp0.out hb1)
  replace kp1 := Aside0.mk (blk_below kp1.out hb1)
  replace cp0 := blk_cell kp0.out
  replace cp1 := blk_cell kp1.out
  replace oA0 := Aside0.mk (oA0.out.trans hb1)
  replace oA1 := Aside0.mk (oA1.out.trans hb1)
  have n5 := Aside0.mk (show ((w.alloc (.cells #[.slice ua0 la0 xa0, .slice ub0 lb0 xb0] 44)).alloc (.cells #[.int .i64 ra1, .slice ub1 lb1 xb1] 45)).heap.size ≤ w1.heap.size from hb1.size)
  clear hb1
  by_cases hneg1 : q1 < 0
  · go_wp2
    go_ret
    exact ⟨rfl, hW.out⟩
  have hz0 := Aside0.mk (show wR rs0 + wF fs0 ≤ 1048576 by have := hq1.out (by omega); omega)
  go_wp2_with (refine gate 24 ?_)
  refine ⟨goesF 24 Tryz.func20 ((szF_calls _ _ f1 q1 (by omega) (by have := hq1.out (by omega); omega) (hA1.on oA1.out)).mono ?_)⟩
  rintro e w2 ⟨q2, rfl, hq0, hb1⟩
  refine ⟨_, rfl, ?_⟩
  have hq2 := Aside0.mk hq0
  clear hq0
  replace hW := Aside0.mk (hW.out.trans hb1)
  replace kp0 := Aside0.mk (blk_below kp0.out hb1)
  replace kp1 := Aside0.mk (blk_below kp1.out hb1)
  replace cp0 := blk_cell kp0.out
  replace cp1 := blk_cell kp1.out
  replace oA0 := Aside0.mk (oA0.out.trans hb1)
  replace oA1 := Aside0.mk (oA1.out.trans hb1)
  have n6 := Aside0.mk (show w1.heap.size ≤ w2.heap.size from hb1.size)
  clear hb1
  by_cases hneg2 : q2 < 0
  · go_wp2
    go_ret
    exact ⟨rfl, hW.out⟩
  have hz1 := Aside0.mk (show f1.2.length ≤ 1048576 by have := hq1.out (by omega); have := hq2.out (by omega); omega)
  go_wp2
  refine Reg.regionM (.s 0 .L (.s 2 .L (.two 1 8 (.two 3 8 (.two 4 8 (.leaf [(5,.L),(6,.L),(7,.P),(8,.N)]) (.leaf [(4,.N),(5,.L),(6,.L),(7,.P)])) (.leaf [(3,.N),(4,.N),(5,.L),(6,.L),(7,.P)])) (.leaf [(1,.N),(3,.N),(4,.N),(5,.L),(6,.L),(7,.P)])))) [9,10] (fun a a' w' => ∃ (D0 D1 : Value) (uaZ : Option Addr) (laZ xaZ : Nat) (ubZ : Option Addr) (lbZ xbZ : Nat) (g : Nat), a' = (Act.put (Act.put (Act.put (Act.put (Act.put (Act.put (Act.put (Act.put (Act.put (Act.put a (some 28) (.agg #[.slice ua0 la0 xa0, .slice ub0 lb0 xb0])) (some 30) (.agg #[.int .i64 ra1, .slice ub1 lb1 xb1])) (some 29) D0) (some 31) D1) (some 32) (.tuple #[.agg #[.slice uaZ laZ xaZ, .slice ubZ lbZ xbZ], .bool (insB rs0 fs0 f1)])) (some 27) (.tuple #[.agg #[.slice uaZ laZ xaZ, .slice ubZ lbZ xbZ], .bool (insB rs0 fs0 f1)])) (some 33) (.agg #[.slice uaZ laZ xaZ, .slice ubZ lbZ xbZ])) (some 34) (.bool (insB rs0 fs0 f1))) (some 6) (.pointer (some ⟨g, 0, none⟩))) (some 7) (.bool (insB rs0 fs0 f1))) ∧ On w2 w' ∧ w'.heap[g]? = some (.cells #[.slice uaZ laZ xaZ, .slice ubZ lbZ xbZ] 27 (0, 0)) ∧ w2.heap.size ≤ g ∧ OIn w' w2.heap.size (.agg #[.slice uaZ laZ xaZ, .slice ubZ lbZ xbZ]) rs0 (insI rs0 fs0 f1)) (by kernel_rfl) (by kernel_rfl) ?_ ?_
  · have hQ := Aside0.mk (On.refl w2)
    refine tL ?_
    refine tL ?_
    refine tTwo ?_ ?_
    · have hQ := hQ
      intro u1 hS
      replace hQ := Aside0.mk (hQ.out.trans hS)
      refine goesF 29 Tryz.func21 ((toI_calls _ _ rs0 fs0 (hA0.on (oA0.out.trans hQ.out)) hz0.out).mono ?_)
      rintro e u2 ⟨v1, rfl, hO0, hb1⟩
      have hD0 := Aside0.mk hO0.b
      clear hO0
      obtain ⟨uaD0, laD0, xaD0, ubD0, lbD0, xbD0, rfl⟩ := (hD0.out.read).shape
      refine ⟨_, rfl, hS.trans hb1, ?_⟩
      simp only [Act.put, List.setIfInBounds_toArray, List.set_cons_zero, List.set_cons_succ]
      replace hQ := Aside0.mk (hQ.out.trans hb1)
      clear hb1 hS
      refine tTwo ?_ ?_
      · have hQ := hQ
        intro u3 hS
        replace hQ := Aside0.mk (hQ.out.trans hS)
        replace hD0 := Aside0.mk (hD0.out.on hS)
        refine goesF 31 Tryz.func22 ((toF_calls _ _ f1 (hA1.on (oA1.out.trans hQ.out)) hz1.out).mono ?_)
        rintro e u4 ⟨v1, rfl, hO0, hb1⟩
        have hD1 := Aside0.mk hO0.b
        clear hO0
        obtain ⟨raD1, ubD1, lbD1, xbD1, rfl⟩ := (hD1.out.read).shape
        refine ⟨_, rfl, hS.trans hb1, ?_⟩
        simp only [Act.put, List.setIfInBounds_toArray, List.set_cons_zero, List.set_cons_succ]
        replace hD0 := Aside0.mk (hD0.out.on hb1)
        replace hQ := Aside0.mk (hQ.out.trans hb1)
        clear hb1 hS
        refine tTwo ?_ ?_
        · have hQ := hQ
          intro u5 hS
          replace hQ := Aside0.mk (hQ.out.trans hS)
          replace hD0 := Aside0.mk (hD0.out.on hS)
          replace hD1 := Aside0.mk (hD1.out.on hS)
          refine goesF 32 Tryz.func9 ((sInsertV _ _ _ rs0 fs0 f1 hD0.out.read hD1.out.read hz0.out hz1.out).mono ?_)
          rintro e u6 ⟨v0, rfl, v1, rfl, hO0, hb1⟩
          have hU := Aside0.mk hO0.b
          clear hO0
          obtain ⟨uaZ, laZ, xaZ, ubZ, lbZ, xbZ, rfl⟩ := (hU.out.read).shape
          have hlo := Aside0.mk (show w2.heap.size ≤ u5.heap.size ∧ u5.heap.size ≤ u6.heap.size from ⟨hQ.out.size, hb1.size⟩)
          refine ⟨_, rfl, hS.trans hb1, ?_⟩
          simp only [Act.put, List.setIfInBounds_toArray, List.set_cons_zero, List.set_cons_succ]
          replace hQ := Aside0.mk (hQ.out.trans hb1)
          clear hb1 hS
          refine Reg.tLeaf ?_
          repeat first | refine sP ?_ | refine sS ?_ | refine sA ?_ | refine sL ?_ | refine sQ ?_ | refine sO ?_
          have hQ0 := hQ
          refine stepM (fun u7 hS => ?_)
          go_wp2
          refine ⟨hS.trans (On.alloc (On.refl _) _), ?_⟩
          have hgg := Aside0.mk (show w2.heap.size ≤ u7.heap.size from Nat.le_trans hQ.out.size hS.size)
          have hgl := Aside0.mk hS.size
          replace hU := Aside0.mk (hU.out.on (hS.trans (On.alloc (On.refl _) (.cells #[.slice none 0 0, .slice none 0 0] 27))))
          replace hQ := Aside0.mk (hQ.out.trans (hS.trans (On.alloc (On.refl _) (.cells #[.slice none 0 0, .slice none 0 0] 27))))
          have kZ := Aside0.mk (loc_new u7 #[.slice none 0 0, .slice none 0 0] 27)
          clear hS
          refine Reg.tail_ fun u8 hS => ?_
          replace hQ := Aside0.mk (hQ.out.trans hS)
          replace kZ := Aside0.mk (blk_below kZ.out hS)
          replace hU := Aside0.mk (hU.out.on hS)
          have cZ := blk_cell kZ.out
          have fZ := blk_frozen kZ.out
          clear hS
          go_wp2
          have hgs := hgg.out
          have hl := hlo.out
          have hlt := hgl.out
          refine ⟨.agg #[.slice uaD0 laD0 xaD0, .slice ubD0 lbD0 xbD0], .agg #[.int .i64 raD1, .slice ubD1 lbD1 xbD1], uaZ, laZ, xaZ, ubZ, lbZ, xbZ, u7.heap.size, ?_, Reg.On.set (Reg.On.set hQ.out hgs _) hgs _, blk_set (blk_set kZ.out 0 _) 1 _, hgs, ((hU.out.set (g := u7.heap.size) (by omega)).set (by omega)).n.lower hl.1⟩
          try simp only [Act.put, List.setIfInBounds_toArray, List.set_cons_zero, List.set_cons_succ]
          try simp
        · have hQ := hQ
          intro u9 hS
          go_wp2
          refine ⟨hS.trans (On.alloc (On.refl _) _), ?_⟩
          have hgg := Aside0.mk (show w2.heap.size ≤ u9.heap.size from Nat.le_trans hQ.out.size hS.size)
          replace hD0 := Aside0.mk (hD0.out.on (hS.trans (On.alloc (On.refl _) (.cells #[.slice none 0 0, .slice none 0 0] 27))))
          replace hD1 := Aside0.mk (hD1.out.on (hS.trans (On.alloc (On.refl _) (.cells #[.slice none 0 0, .slice none 0 0] 27))))
          replace hQ := Aside0.mk (hQ.out.trans (hS.trans (On.alloc (On.refl _) (.cells #[.slice none 0 0, .slice none 0 0] 27))))
          have kZ := Aside0.mk (loc_new u9 #[.slice none 0 0, .slice none 0 0] 27)
          clear hS
          refine Reg.tLeaf ?_
          refine stepM (fun u10 hS => ?_)
          replace hQ := Aside0.mk (hQ.out.trans hS)
          replace kZ := Aside0.mk (blk_below kZ.out hS)
          replace hD0 := Aside0.mk (hD0.out.on hS)
          replace hD1 := Aside0.mk (hD1.out.on hS)
          refine goesF 32 Tryz.func9 ((sInsertV _ _ _ rs0 fs0 f1 hD0.out.read hD1.out.read hz0.out hz1.out).mono ?_)
          rintro e u11 ⟨v0, rfl, v1, rfl, hO0, hb1⟩
          have hU := Aside0.mk hO0.b
          clear hO0
          obtain ⟨uaZ, laZ, xaZ, ubZ, lbZ, xbZ, rfl⟩ := (hU.out.read).shape
          have hlo := Aside0.mk (show w2.heap.size ≤ u10.heap.size ∧ u10.heap.size ≤ u11.heap.size from ⟨hQ.out.size, hb1.size⟩)
          have hgl := Aside0.mk (show _ from blk_lt kZ.out)
          refine ⟨_, rfl, hS.trans hb1, ?_⟩
          simp only [Act.put, List.setIfInBounds_toArray, List.set_cons_zero, List.set_cons_succ]
          replace hQ := Aside0.mk (hQ.out.trans hb1)
          replace kZ := Aside0.mk (blk_below kZ.out hb1)
          clear hb1 hS
          repeat first | refine sP ?_ | refine sS ?_ | refine sA ?_ | refine sL ?_ | refine sQ ?_ | refine sO ?_
          refine Reg.tail_ fun u12 hS => ?_
          replace hQ := Aside0.mk (hQ.out.trans hS)
          replace kZ := Aside0.mk (blk_below kZ.out hS)
          replace hU := Aside0.mk (hU.out.on hS)
          have cZ := blk_cell kZ.out
          have fZ := blk_frozen kZ.out
          clear hS
          go_wp2
          have hgs := hgg.out
          have hl := hlo.out
          have hlt := hgl.out
          refine ⟨.agg #[.slice uaD0 laD0 xaD0, .slice ubD0 lbD0 xbD0], .agg #[.int .i64 raD1, .slice ubD1 lbD1 xbD1], uaZ, laZ, xaZ, ubZ, lbZ, xbZ, u9.heap.size, ?_, Reg.On.set (Reg.On.set hQ.out hgs _) hgs _, blk_set (blk_set kZ.out 0 _) 1 _, hgs, ((hU.out.set (g := u9.heap.size) (by omega)).set (by omega)).n.lower hl.1⟩
          try simp only [Act.put, List.setIfInBounds_toArray, List.set_cons_zero, List.set_cons_succ]
          try simp
      · have hQ := hQ
        intro u13 hS
        go_wp2
        refine ⟨hS.trans (On.alloc (On.refl _) _), ?_⟩
        have hgg := Aside0.mk (show w2.heap.size ≤ u13.heap.size from Nat.le_trans hQ.out.size hS.size)
        replace hD0 := Aside0.mk (hD0.out.on (hS.trans (On.alloc (On.refl _) (.cells #[.slice none 0 0, .slice none 0 0] 27))))
        replace hQ := Aside0.mk (hQ.out.trans (hS.trans (On.alloc (On.refl _) (.cells #[.slice none 0 0, .slice none 0 0] 27))))
        have kZ := Aside0.mk (loc_new u13 #[.slice none 0 0, .slice none 0 0] 27)
        clear hS
        refine Reg.tLeaf ?_
        refine stepM (fun u14 hS => ?_)
        replace hQ := Aside0.mk (hQ.out.trans hS)
        replace kZ := Aside0.mk (blk_below kZ.out hS)
        replace hD0 := Aside0.mk (hD0.out.on hS)
        refine goesF 31 Tryz.func22 ((toF_calls _ _ f1 (hA1.on (oA1.out.trans hQ.out)) hz1.out).mono ?_)
        rintro e u15 ⟨v1, rfl, hO0, hb1⟩
        have hD1 := Aside0.mk hO0.b
        clear hO0
        obtain ⟨raD1, ubD1, lbD1, xbD1, rfl⟩ := (hD1.out.read).shape
        refine ⟨_, rfl, hS.trans hb1, ?_⟩
        simp only [Act.put, List.setIfInBounds_toArray, List.set_cons_zero, List.set_cons_succ]
        replace hD0 := Aside0.mk (hD0.out.on hb1)
        replace hQ := Aside0.mk (hQ.out.trans hb1)
        replace kZ := Aside0.mk (blk_below kZ.out hb1)
        clear hb1 hS
        refine stepM (fun u16 hS => ?_)
        replace hQ := Aside0.mk (hQ.out.trans hS)
        replace kZ := Aside0.mk (blk_below kZ.out hS)
        replace hD0 := Aside0.mk (hD0.out.on hS)
        replace hD1 := Aside0.mk (hD1.out.on hS)
        refine goesF 32 Tryz.func9 ((sInsertV _ _ _ rs0 fs0 f1 hD0.out.read hD1.out.read hz0.out hz1.out).mono ?_)
        rintro e u17 ⟨v0, rfl, v1, rfl, hO0, hb1⟩
        have hU := Aside0.mk hO0.b
        clear hO0
        obtain ⟨uaZ, laZ, xaZ, ubZ, lbZ, xbZ, rfl⟩ := (hU.out.read).shape
        have hlo := Aside0.mk (show w2.heap.size ≤ u16.heap.size ∧ u16.heap.size ≤ u17.heap.size from ⟨hQ.out.size, hb1.size⟩)
        have hgl := Aside0.mk (show _ from blk_lt kZ.out)
        refine ⟨_, rfl, hS.trans hb1, ?_⟩
        simp only [Act.put, List.setIfInBounds_toArray, List.set_cons_zero, List.set_cons_succ]
        replace hQ := Aside0.mk (hQ.out.trans hb1)
        replace kZ := Aside0.mk (blk_below kZ.out hb1)
        clear hb1 hS
        repeat first | refine sP ?_ | refine sS ?_ | refine sA ?_ | refine sL ?_ | refine sQ ?_ | refine sO ?_
        refine Reg.tail_ fun u18 hS => ?_
        replace hQ := Aside0.mk (hQ.out.trans hS)
        replace kZ := Aside0.mk (blk_below kZ.out hS)
        replace hU := Aside0.mk (hU.out.on hS)
        have cZ := blk_cell kZ.out
        have fZ := blk_frozen kZ.out
        clear hS
        go_wp2
        have hgs := hgg.out
        have hl := hlo.out
        have hlt := hgl.out
        refine ⟨.agg #[.slice uaD0 laD0 xaD0, .slice ubD0 lbD0 xbD0], .agg #[.int .i64 raD1, .slice ubD1 lbD1 xbD1], uaZ, laZ, xaZ, ubZ, lbZ, xbZ, u13.heap.size, ?_, Reg.On.set (Reg.On.set hQ.out hgs _) hgs _, blk_set (blk_set kZ.out 0 _) 1 _, hgs, ((hU.out.set (g := u13.heap.size) (by omega)).set (by omega)).n.lower hl.1⟩
        try simp only [Act.put, List.setIfInBounds_toArray, List.set_cons_zero, List.set_cons_succ]
        try simp
    · have hQ := hQ
      intro u19 hS
      go_wp2
      refine ⟨hS.trans (On.alloc (On.refl _) _), ?_⟩
      have hgg := Aside0.mk (show w2.heap.size ≤ u19.heap.size from Nat.le_trans hQ.out.size hS.size)
      replace hQ := Aside0.mk (hQ.out.trans (hS.trans (On.alloc (On.refl _) (.cells #[.slice none 0 0, .slice none 0 0] 27))))
      have kZ := Aside0.mk (loc_new u19 #[.slice none 0 0, .slice none 0 0] 27)
      clear hS
      refine Reg.tLeaf ?_
      refine stepM (fun u20 hS => ?_)
      replace hQ := Aside0.mk (hQ.out.trans hS)
      replace kZ := Aside0.mk (blk_below kZ.out hS)
      refine goesF 29 Tryz.func21 ((toI_calls _ _ rs0 fs0 (hA0.on (oA0.out.trans hQ.out)) hz0.out).mono ?_)
      rintro e u21 ⟨v1, rfl, hO0, hb1⟩
      have hD0 := Aside0.mk hO0.b
      clear hO0
      obtain ⟨uaD0, laD0, xaD0, ubD0, lbD0, xbD0, rfl⟩ := (hD0.out.read).shape
      refine ⟨_, rfl, hS.trans hb1, ?_⟩
      simp only [Act.put, List.setIfInBounds_toArray, List.set_cons_zero, List.set_cons_succ]
      replace hQ := Aside0.mk (hQ.out.trans hb1)
      replace kZ := Aside0.mk (blk_below kZ.out hb1)
      clear hb1 hS
      refine stepM (fun u22 hS => ?_)
      replace hQ := Aside0.mk (hQ.out.trans hS)
      replace kZ := Aside0.mk (blk_below kZ.out hS)
      replace hD0 := Aside0.mk (hD0.out.on hS)
      refine goesF 31 Tryz.func22 ((toF_calls _ _ f1 (hA1.on (oA1.out.trans hQ.out)) hz1.out).mono ?_)
      rintro e u23 ⟨v1, rfl, hO0, hb1⟩
      have hD1 := Aside0.mk hO0.b
      clear hO0
      obtain ⟨raD1, ubD1, lbD1, xbD1, rfl⟩ := (hD1.out.read).shape
      refine ⟨_, rfl, hS.trans hb1, ?_⟩
      simp only [Act.put, List.setIfInBounds_toArray, List.set_cons_zero, List.set_cons_succ]
      replace hD0 := Aside0.mk (hD0.out.on hb1)
      replace hQ := Aside0.mk (hQ.out.trans hb1)
      replace kZ := Aside0.mk (blk_below kZ.out hb1)
      clear hb1 hS
      refine stepM (fun u24 hS => ?_)
      replace hQ := Aside0.mk (hQ.out.trans hS)
      replace kZ := Aside0.mk (blk_below kZ.out hS)
      replace hD0 := Aside0.mk (hD0.out.on hS)
      replace hD1 := Aside0.mk (hD1.out.on hS)
      refine goesF 32 Tryz.func9 ((sInsertV _ _ _ rs0 fs0 f1 hD0.out.read hD1.out.read hz0.out hz1.out).mono ?_)
      rintro e u25 ⟨v0, rfl, v1, rfl, hO0, hb1⟩
      have hU := Aside0.mk hO0.b
      clear hO0
      obtain ⟨uaZ, laZ, xaZ, ubZ, lbZ, xbZ, rfl⟩ := (hU.out.read).shape
      have hlo := Aside0.mk (show w2.heap.size ≤ u24.heap.size ∧ u24.heap.size ≤ u25.heap.size from ⟨hQ.out.size, hb1.size⟩)
      have hgl := Aside0.mk (show _ from blk_lt kZ.out)
      refine ⟨_, rfl, hS.trans hb1, ?_⟩
      simp only [Act.put, List.setIfInBounds_toArray, List.set_cons_zero, List.set_cons_succ]
      replace hQ := Aside0.mk (hQ.out.trans hb1)
      replace kZ := Aside0.mk (blk_below kZ.out hb1)
      clear hb1 hS
      repeat first | refine sP ?_ | refine sS ?_ | refine sA ?_ | refine sL ?_ | refine sQ ?_ | refine sO ?_
      refine Reg.tail_ fun u26 hS => ?_
      replace hQ := Aside0.mk (hQ.out.trans hS)
      replace kZ := Aside0.mk (blk_below kZ.out hS)
      replace hU := Aside0.mk (hU.out.on hS)
      have cZ := blk_cell kZ.out
      have fZ := blk_frozen kZ.out
      clear hS
      go_wp2
      have hgs := hgg.out
      have hl := hlo.out
      have hlt := hgl.out
      refine ⟨.agg #[.slice uaD0 laD0 xaD0, .slice ubD0 lbD0 xbD0], .agg #[.int .i64 raD1, .slice ubD1 lbD1 xbD1], uaZ, laZ, xaZ, ubZ, lbZ, xbZ, u19.heap.size, ?_, Reg.On.set (Reg.On.set hQ.out hgs _) hgs _, blk_set (blk_set kZ.out 0 _) 1 _, hgs, ((hU.out.set (g := u19.heap.size) (by omega)).set (by omega)).n.lower hl.1⟩
      try simp only [Act.put, List.setIfInBounds_toArray, List.set_cons_zero, List.set_cons_succ]
      try simp
  rintro a' w3 ⟨D0, D1, uaR, laR, xaR, ubR, lbR, xbR, gR, rfl, hb1, hk1, hg1, hO0⟩
  simp only [Act.put, List.setIfInBounds_toArray, List.set_cons_zero, List.set_cons_succ]
  replace hW := Aside0.mk (hW.out.trans hb1)
  replace kp0 := Aside0.mk (blk_below kp0.out hb1)
  replace kp1 := Aside0.mk (blk_below kp1.out hb1)
  replace cp0 := blk_cell kp0.out
  replace cp1 := blk_cell kp1.out
  replace oA0 := Aside0.mk (oA0.out.trans hb1)
  replace oA1 := Aside0.mk (oA1.out.trans hb1)
  have n7 := Aside0.mk (show w2.heap.size ≤ w3.heap.size from hb1.size)
  have kbR := Aside0.mk hk1
  have cbR := blk_cell hk1
  have hR := Aside0.mk hO0.read
  have oR := Aside0.mk (On.refl w3)
  have n8 := Aside0.mk (show w2.heap.size ≤ gR ∧ gR < w3.heap.size from ⟨hg1, blk_lt hk1⟩)
  clear hb1 hk1 hg1 hO0
  go_wp2_with (refine gate 36 ?_)
  refine ⟨goesF 36 Tryz.func21 ((toI_calls _ _ rs0 fs0 (hA0.on oA0.out) hz0.out).mono ?_)⟩
  rintro e w4 ⟨v1, rfl, hO0, hb1⟩
  refine ⟨_, rfl, ?_⟩
  have hX0 := Aside0.mk hO0.b
  clear hO0
  replace hW := Aside0.mk (hW.out.trans hb1)
  replace kp0 := Aside0.mk (blk_below kp0.out hb1)
  replace kp1 := Aside0.mk (blk_below kp1.out hb1)
  replace kbR := Aside0.mk (blk_below kbR.out hb1)
  replace cp0 := blk_cell kp0.out
  replace cp1 := blk_cell kp1.out
  replace cbR := blk_cell kbR.out
  replace oA0 := Aside0.mk (oA0.out.trans hb1)
  replace oA1 := Aside0.mk (oA1.out.trans hb1)
  replace oR := Aside0.mk (oR.out.trans hb1)
  have n9 := Aside0.mk (show w3.heap.size ≤ w4.heap.size from hb1.size)
  clear hb1
  obtain ⟨uaX0, laX0, xaX0, ubX0, lbX0, xbX0, rfl⟩ := (hX0.out.read).shape
  have hfill := alloc_fill w4
  replace hW := Aside0.mk (hW.out.trans (On.alloc (On.refl w4) (.cells #[.slice uaX0 laX0 xaX0, .slice ubX0 lbX0 xbX0] 27)))
  replace kp0 := Aside0.mk (blk_below kp0.out (On.alloc (On.refl w4) (.cells #[.slice uaX0 laX0 xaX0, .slice ubX0 lbX0 xbX0] 27)))
  replace kp1 := Aside0.mk (blk_below kp1.out (On.alloc (On.refl w4) (.cells #[.slice uaX0 laX0 xaX0, .slice ubX0 lbX0 xbX0] 27)))
  replace kbR := Aside0.mk (blk_below kbR.out (On.alloc (On.refl w4) (.cells #[.slice uaX0 laX0 xaX0, .slice ubX0 lbX0 xbX0] 27)))
  replace cp0 := blk_cell kp0.out
  replace cp1 := blk_cell kp1.out
  replace cbR := blk_cell kbR.out
  replace oA0 := Aside0.mk (oA0.out.trans (On.alloc (On.refl w4) (.cells #[.slice uaX0 laX0 xaX0, .slice ubX0 lbX0 xbX0] 27)))
  replace oA1 := Aside0.mk (oA1.out.trans (On.alloc (On.refl w4) (.cells #[.slice uaX0 laX0 xaX0, .slice ubX0 lbX0 xbX0] 27)))
  replace oR := Aside0.mk (oR.out.trans (On.alloc (On.refl w4) (.cells #[.slice uaX0 laX0 xaX0, .slice ubX0 lbX0 xbX0] 27)))
  replace hX0 := Aside0.mk (hX0.out.on (On.alloc (On.refl w4) (.cells #[.slice uaX0 laX0 xaX0, .slice ubX0 lbX0 xbX0] 27)))
  have n11 := Aside0.mk (show (w4.alloc (.cells #[.slice uaX0 laX0 xaX0, .slice ubX0 lbX0 xbX0] 27)).heap.size = w4.heap.size + 1 from by simp)
  have kx0 := Aside0.mk (loc_new w4 #[.slice uaX0 laX0 xaX0, .slice ubX0 lbX0 xbX0] 27)
  have cx0 := blk_cell kx0.out
  go_wp2_with (refine gate 38 ?_)
  try clear hfill
  refine ⟨goesF 38 Tryz.func22 ((toF_calls _ _ f1 (hA1.on oA1.out) hz1.out).mono ?_)⟩
  rintro e w5 ⟨v1, rfl, hO0, hb1⟩
  refine ⟨_, rfl, ?_⟩
  have hX1 := Aside0.mk hO0.b
  clear hO0
  replace hW := Aside0.mk (hW.out.trans hb1)
  replace kp0 := Aside0.mk (blk_below kp0.out hb1)
  replace kp1 := Aside0.mk (blk_below kp1.out hb1)
  replace kbR := Aside0.mk (blk_below kbR.out hb1)
  replace kx0 := Aside0.mk (blk_below kx0.out hb1)
  replace cp0 := blk_cell kp0.out
  replace cp1 := blk_cell kp1.out
  replace cbR := blk_cell kbR.out
  replace cx0 := blk_cell kx0.out
  replace oA0 := Aside0.mk (oA0.out.trans hb1)
  replace oA1 := Aside0.mk (oA1.out.trans hb1)
  replace oR := Aside0.mk (oR.out.trans hb1)
  replace hX0 := Aside0.mk (hX0.out.on hb1)
  have n12 := Aside0.mk (show (w4.alloc (.cells #[.slice uaX0 laX0 xaX0, .slice ubX0 lbX0 xbX0] 27)).heap.size ≤ w5.heap.size from hb1.size)
  clear hb1
  obtain ⟨raX1, ubX1, lbX1, xbX1, rfl⟩ := (hX1.out.read).shape
  have hfill := alloc_fill w5
  replace hW := Aside0.mk (hW.out.trans (On.alloc (On.refl w5) (.cells #[.int .i64 raX1, .slice ubX1 lbX1 xbX1] 30)))
  replace kp0 := Aside0.mk (blk_below kp0.out (On.alloc (On.refl w5) (.cells #[.int .i64 raX1, .slice ubX1 lbX1 xbX1] 30)))
  replace kp1 := Aside0.mk (blk_below kp1.out (On.alloc (On.refl w5) (.cells #[.int .i64 raX1, .slice ubX1 lbX1 xbX1] 30)))
  replace kbR := Aside0.mk (blk_below kbR.out (On.alloc (On.refl w5) (.cells #[.int .i64 raX1, .slice ubX1 lbX1 xbX1] 30)))
  replace kx0 := Aside0.mk (blk_below kx0.out (On.alloc (On.refl w5) (.cells #[.int .i64 raX1, .slice ubX1 lbX1 xbX1] 30)))
  replace cp0 := blk_cell kp0.out
  replace cp1 := blk_cell kp1.out
  replace cbR := blk_cell kbR.out
  replace cx0 := blk_cell kx0.out
  replace oA0 := Aside0.mk (oA0.out.trans (On.alloc (On.refl w5) (.cells #[.int .i64 raX1, .slice ubX1 lbX1 xbX1] 30)))
  replace oA1 := Aside0.mk (oA1.out.trans (On.alloc (On.refl w5) (.cells #[.int .i64 raX1, .slice ubX1 lbX1 xbX1] 30)))
  replace oR := Aside0.mk (oR.out.trans (On.alloc (On.refl w5) (.cells #[.int .i64 raX1, .slice ubX1 lbX1 xbX1] 30)))
  replace hX0 := Aside0.mk (hX0.out.on (On.alloc (On.refl w5) (.cells #[.int .i64 raX1, .slice ubX1 lbX1 xbX1] 30)))
  replace hX1 := Aside0.mk (hX1.out.on (On.alloc (On.refl w5) (.cells #[.int .i64 raX1, .slice ubX1 lbX1 xbX1] 30)))
  have n14 := Aside0.mk (show (w5.alloc (.cells #[.int .i64 raX1, .slice ubX1 lbX1 xbX1] 30)).heap.size = w5.heap.size + 1 from by simp)
  have kx1 := Aside0.mk (loc_new w5 #[.int .i64 raX1, .slice ubX1 lbX1 xbX1] 30)
  have cx1 := blk_cell kx1.out
  go_wp2_with (refine gate 42 ?_)
  try clear hfill
  refine ⟨goesF 42 Tryz.func8 ((iInsertV _ _ _ rs0 fs0 f1 hX0.out.read hX1.out.read hz0.out hz1.out).mono ?_)⟩
  rintro e w6 ⟨v0, rfl, v1, rfl, hO0, hb1⟩
  refine ⟨_, rfl, ?_⟩
  have hG := Aside0.mk hO0.b
  clear hO0
  replace hW := Aside0.mk (hW.out.trans hb1)
  replace kp0 := Aside0.mk (blk_below kp0.out hb1)
  replace kp1 := Aside0.mk (blk_below kp1.out hb1)
  replace kbR := Aside0.mk (blk_below kbR.out hb1)
  replace kx0 := Aside0.mk (blk_below kx0.out hb1)
  replace kx1 := Aside0.mk (blk_below kx1.out hb1)
  replace cp0 := blk_cell kp0.out
  replace cp1 := blk_cell kp1.out
  replace cbR := blk_cell kbR.out
  replace cx0 := blk_cell kx0.out
  replace cx1 := blk_cell kx1.out
  replace oA0 := Aside0.mk (oA0.out.trans hb1)
  replace oA1 := Aside0.mk (oA1.out.trans hb1)
  replace oR := Aside0.mk (oR.out.trans hb1)
  replace hX0 := Aside0.mk (hX0.out.on hb1)
  replace hX1 := Aside0.mk (hX1.out.on hb1)
  have n15 := Aside0.mk (show (w5.alloc (.cells #[.int .i64 raX1, .slice ubX1 lbX1 xbX1] 30)).heap.size ≤ w6.heap.size from hb1.size)
  clear hb1
  obtain ⟨uaG, laG, xaG, ubG, lbG, xbG, rfl⟩ := (hG.out.read).shape
  have hfill := alloc_fill w6
  replace hW := Aside0.mk (hW.out.trans (On.alloc (On.refl w6) (.cells #[.slice uaG laG xaG, .slice ubG lbG xbG] 27)))
  replace kp0 := Aside0.mk (blk_below kp0.out (On.alloc (On.refl w6) (.cells #[.slice uaG laG xaG, .slice ubG lbG xbG] 27)))
  replace kp1 := Aside0.mk (blk_below kp1.out (On.alloc (On.refl w6) (.cells #[.slice uaG laG xaG, .slice ubG lbG xbG] 27)))
  replace kbR := Aside0.mk (blk_below kbR.out (On.alloc (On.refl w6) (.cells #[.slice uaG laG xaG, .slice ubG lbG xbG] 27)))
  replace kx0 := Aside0.mk (blk_below kx0.out (On.alloc (On.refl w6) (.cells #[.slice uaG laG xaG, .slice ubG lbG xbG] 27)))
  replace kx1 := Aside0.mk (blk_below kx1.out (On.alloc (On.refl w6) (.cells #[.slice uaG laG xaG, .slice ubG lbG xbG] 27)))
  replace cp0 := blk_cell kp0.out
  replace cp1 := blk_cell kp1.out
  replace cbR := blk_cell kbR.out
  replace cx0 := blk_cell kx0.out
  replace cx1 := blk_cell kx1.out
  replace oA0 := Aside0.mk (oA0.out.trans (On.alloc (On.refl w6) (.cells #[.slice uaG laG xaG, .slice ubG lbG xbG] 27)))
  replace oA1 := Aside0.mk (oA1.out.trans (On.alloc (On.refl w6) (.cells #[.slice uaG laG xaG, .slice ubG lbG xbG] 27)))
  replace oR := Aside0.mk (oR.out.trans (On.alloc (On.refl w6) (.cells #[.slice uaG laG xaG, .slice ubG lbG xbG] 27)))
  replace hX0 := Aside0.mk (hX0.out.on (On.alloc (On.refl w6) (.cells #[.slice uaG laG xaG, .slice ubG lbG xbG] 27)))
  replace hX1 := Aside0.mk (hX1.out.on (On.alloc (On.refl w6) (.cells #[.slice uaG laG xaG, .slice ubG lbG xbG] 27)))
  replace hG := Aside0.mk (hG.out.on (On.alloc (On.refl w6) (.cells #[.slice uaG laG xaG, .slice ubG lbG xbG] 27)))
  have n17 := Aside0.mk (show (w6.alloc (.cells #[.slice uaG laG xaG, .slice ubG lbG xbG] 27)).heap.size = w6.heap.size + 1 from by simp)
  have kbG := Aside0.mk (loc_new w6 #[.slice uaG laG xaG, .slice ubG lbG xbG] 27)
  have cbG := blk_cell kbG.out
  go_wp2_with (go_at_call 23; refine (eqI_calls _ _ _ rs0 (insI rs0 fs0 f1) hG.out.read (hR.out.on oR.out)).mono ?_; rintro e w7 ⟨rfl, hb1⟩; replace hW := Aside0.mk (hW.out.trans hb1); replace kp0 := Aside0.mk (blk_below kp0.out hb1); replace kp1 := Aside0.mk (blk_below kp1.out hb1); replace kbR := Aside0.mk (blk_below kbR.out hb1); replace kx0 := Aside0.mk (blk_below kx0.out hb1); replace kx1 := Aside0.mk (blk_below kx1.out hb1); replace kbG := Aside0.mk (blk_below kbG.out hb1); replace cp0 := blk_cell kp0.out; replace cp1 := blk_cell kp1.out; replace cbR := blk_cell kbR.out; replace cx0 := blk_cell kx0.out; replace cx1 := blk_cell kx1.out; replace cbG := blk_cell kbG.out; replace oA0 := Aside0.mk (oA0.out.trans hb1); replace oA1 := Aside0.mk (oA1.out.trans hb1); replace oR := Aside0.mk (oR.out.trans hb1); replace hX0 := Aside0.mk (hX0.out.on hb1); replace hX1 := Aside0.mk (hX1.out.on hb1); replace hG := Aside0.mk (hG.out.on hb1); have n18 := Aside0.mk (show (w6.alloc (.cells #[.slice uaG laG xaG, .slice ubG lbG xbG] 27)).heap.size ≤ w7.heap.size from hb1.size); clear hb1)
  try clear hfill
  refine Reg.region [(0,.L),(1,.L),(2,.N),(3,.C),(4,.L)] [] (by kernel_rfl) (by kernel_rfl) ?_
  repeat first | refine sP ?_ | refine sS ?_ | refine sA ?_ | refine sL ?_ | refine sQ ?_ | refine sO ?_
  refine callN Tryz.func21 (fun w8 hS => ?_)
  replace hW := Aside0.mk (hW.out.trans hS)
  replace kp0 := Aside0.mk (blk_below kp0.out hS)
  replace kp1 := Aside0.mk (blk_below kp1.out hS)
  replace kbR := Aside0.mk (blk_below kbR.out hS)
  replace kx0 := Aside0.mk (blk_below kx0.out hS)
  replace kx1 := Aside0.mk (blk_below kx1.out hS)
  replace kbG := Aside0.mk (blk_below kbG.out hS)
  replace cp0 := blk_cell kp0.out
  replace cp1 := blk_cell kp1.out
  replace cbR := blk_cell kbR.out
  replace cx0 := blk_cell kx0.out
  replace cx1 := blk_cell kx1.out
  replace cbG := blk_cell kbG.out
  replace oA0 := Aside0.mk (oA0.out.trans hS)
  replace oA1 := Aside0.mk (oA1.out.trans hS)
  replace oR := Aside0.mk (oR.out.trans hS)
  replace hX0 := Aside0.mk (hX0.out.on hS)
  replace hX1 := Aside0.mk (hX1.out.on hS)
  replace hG := Aside0.mk (hG.out.on hS)
  have n19 := Aside0.mk (show w7.heap.size ≤ w8.heap.size from hS.size)
  clear hS
  refine (toI_calls _ _ rs0 fs0 (hA0.on oA0.out) hz0.out).mono ?_
  rintro e w9 ⟨v1, rfl, hO0, hb1⟩
  have hC := Aside0.mk hO0.read
  clear hO0
  obtain ⟨uaC, laC, xaC, ubC, lbC, xbC, rfl⟩ := (hC.out).shape
  refine ⟨_, rfl, hb1, fun a' ha => ?_⟩
  simp only [Act.put, List.setIfInBounds_toArray, List.set_cons_zero, List.set_cons_succ] at ha
  subst ha
  replace hW := Aside0.mk (hW.out.trans hb1)
  replace kp0 := Aside0.mk (blk_below kp0.out hb1)
  replace kp1 := Aside0.mk (blk_below kp1.out hb1)
  replace kbR := Aside0.mk (blk_below kbR.out hb1)
  replace kx0 := Aside0.mk (blk_below kx0.out hb1)
  replace kx1 := Aside0.mk (blk_below kx1.out hb1)
  replace kbG := Aside0.mk (blk_below kbG.out hb1)
  replace cp0 := blk_cell kp0.out
  replace cp1 := blk_cell kp1.out
  replace cbR := blk_cell kbR.out
  replace cx0 := blk_cell kx0.out
  replace cx1 := blk_cell kx1.out
  replace cbG := blk_cell kbG.out
  replace oA0 := Aside0.mk (oA0.out.trans hb1)
  replace oA1 := Aside0.mk (oA1.out.trans hb1)
  replace oR := Aside0.mk (oR.out.trans hb1)
  replace hX0 := Aside0.mk (hX0.out.on hb1)
  replace hX1 := Aside0.mk (hX1.out.on hb1)
  replace hG := Aside0.mk (hG.out.on hb1)
  have n20 := Aside0.mk (show w8.heap.size ≤ w9.heap.size from hb1.size)
  clear hb1
  repeat first | refine sP ?_ | refine sS ?_ | refine sA ?_ | refine sL ?_ | refine sQ ?_ | refine sO ?_
  refine callC (.bool true) Tryz.func23 (fun w' hS => ?_) ?_
  focus exact eqI_calls _ _ _ rs0 fs0 (hX0.out.read.on hS) (hC.out.on hS)
  repeat first | refine sP ?_ | refine sS ?_ | refine sA ?_ | refine sL ?_ | refine sQ ?_ | refine sO ?_
  refine Reg.nil fun w10 hS => ?_
  replace hW := Aside0.mk (hW.out.trans hS)
  replace kp0 := Aside0.mk (blk_below kp0.out hS)
  replace kp1 := Aside0.mk (blk_below kp1.out hS)
  replace kbR := Aside0.mk (blk_below kbR.out hS)
  replace kx0 := Aside0.mk (blk_below kx0.out hS)
  replace kx1 := Aside0.mk (blk_below kx1.out hS)
  replace kbG := Aside0.mk (blk_below kbG.out hS)
  replace cp0 := blk_cell kp0.out
  replace cp1 := blk_cell kp1.out
  replace cbR := blk_cell kbR.out
  replace cx0 := blk_cell kx0.out
  replace cx1 := blk_cell kx1.out
  replace cbG := blk_cell kbG.out
  replace oA0 := Aside0.mk (oA0.out.trans hS)
  replace oA1 := Aside0.mk (oA1.out.trans hS)
  replace oR := Aside0.mk (oR.out.trans hS)
  replace hX0 := Aside0.mk (hX0.out.on hS)
  replace hX1 := Aside0.mk (hX1.out.on hS)
  replace hG := Aside0.mk (hG.out.on hS)
  have n21 := Aside0.mk (show w9.heap.size ≤ w10.heap.size from hS.size)
  clear hS
  go_wp2
  refine Reg.region [(0,.L),(1,.L),(2,.N),(3,.C),(4,.L)] [] (by kernel_rfl) (by kernel_rfl) ?_
  repeat first | refine sP ?_ | refine sS ?_ | refine sA ?_ | refine sL ?_ | refine sQ ?_ | refine sO ?_
  refine callN Tryz.func22 (fun w11 hS => ?_)
  replace hW := Aside0.mk (hW.out.trans hS)
  replace kp0 := Aside0.mk (blk_below kp0.out hS)
  replace kp1 := Aside0.mk (blk_below kp1.out hS)
  replace kbR := Aside0.mk (blk_below kbR.out hS)
  replace kx0 := Aside0.mk (blk_below kx0.out hS)
  replace kx1 := Aside0.mk (blk_below kx1.out hS)
  replace kbG := Aside0.mk (blk_below kbG.out hS)
  replace cp0 := blk_cell kp0.out
  replace cp1 := blk_cell kp1.out
  replace cbR := blk_cell kbR.out
  replace cx0 := blk_cell kx0.out
  replace cx1 := blk_cell kx1.out
  replace cbG := blk_cell kbG.out
  replace oA0 := Aside0.mk (oA0.out.trans hS)
  replace oA1 := Aside0.mk (oA1.out.trans hS)
  replace oR := Aside0.mk (oR.out.trans hS)
  replace hX0 := Aside0.mk (hX0.out.on hS)
  replace hX1 := Aside0.mk (hX1.out.on hS)
  replace hG := Aside0.mk (hG.out.on hS)
  have n22 := Aside0.mk (show w10.heap.size ≤ w11.heap.size from hS.size)
  clear hS
  refine (toF_calls _ _ f1 (hA1.on oA1.out) hz1.out).mono ?_
  rintro e w12 ⟨v1, rfl, hO0, hb1⟩
  have hC := Aside0.mk hO0.read
  clear hO0
  obtain ⟨raC, ubC, lbC, xbC, rfl⟩ := (hC.out).shape
  refine ⟨_, rfl, hb1, fun a' ha => ?_⟩
  simp only [Act.put, List.setIfInBounds_toArray, List.set_cons_zero, List.set_cons_succ] at ha
  subst ha
  replace hW := Aside0.mk (hW.out.trans hb1)
  replace kp0 := Aside0.mk (blk_below kp0.out hb1)
  replace kp1 := Aside0.mk (blk_below kp1.out hb1)
  replace kbR := Aside0.mk (blk_below kbR.out hb1)
  replace kx0 := Aside0.mk (blk_below kx0.out hb1)
  replace kx1 := Aside0.mk (blk_below kx1.out hb1)
  replace kbG := Aside0.mk (blk_below kbG.out hb1)
  replace cp0 := blk_cell kp0.out
  replace cp1 := blk_cell kp1.out
  replace cbR := blk_cell kbR.out
  replace cx0 := blk_cell kx0.out
  replace cx1 := blk_cell kx1.out
  replace cbG := blk_cell kbG.out
  replace oA0 := Aside0.mk (oA0.out.trans hb1)
  replace oA1 := Aside0.mk (oA1.out.trans hb1)
  replace oR := Aside0.mk (oR.out.trans hb1)
  replace hX0 := Aside0.mk (hX0.out.on hb1)
  replace hX1 := Aside0.mk (hX1.out.on hb1)
  replace hG := Aside0.mk (hG.out.on hb1)
  have n23 := Aside0.mk (show w11.heap.size ≤ w12.heap.size from hb1.size)
  clear hb1
  repeat first | refine sP ?_ | refine sS ?_ | refine sA ?_ | refine sL ?_ | refine sQ ?_ | refine sO ?_
  refine callC (.bool true) Tryz.func24 (fun w' hS => ?_) ?_
  focus exact eqF_calls _ _ _ f1 (hX1.out.read.on hS) (hC.out.on hS)
  repeat first | refine sP ?_ | refine sS ?_ | refine sA ?_ | refine sL ?_ | refine sQ ?_ | refine sO ?_
  refine Reg.nil fun w13 hS => ?_
  replace hW := Aside0.mk (hW.out.trans hS)
  replace kp0 := Aside0.mk (blk_below kp0.out hS)
  replace kp1 := Aside0.mk (blk_below kp1.out hS)
  replace kbR := Aside0.mk (blk_below kbR.out hS)
  replace kx0 := Aside0.mk (blk_below kx0.out hS)
  replace kx1 := Aside0.mk (blk_below kx1.out hS)
  replace kbG := Aside0.mk (blk_below kbG.out hS)
  replace cp0 := blk_cell kp0.out
  replace cp1 := blk_cell kp1.out
  replace cbR := blk_cell kbR.out
  replace cx0 := blk_cell kx0.out
  replace cx1 := blk_cell kx1.out
  replace cbG := blk_cell kbG.out
  replace oA0 := Aside0.mk (oA0.out.trans hS)
  replace oA1 := Aside0.mk (oA1.out.trans hS)
  replace oR := Aside0.mk (oR.out.trans hS)
  replace hX0 := Aside0.mk (hX0.out.on hS)
  replace hX1 := Aside0.mk (hX1.out.on hS)
  replace hG := Aside0.mk (hG.out.on hS)
  have n24 := Aside0.mk (show w12.heap.size ≤ w13.heap.size from hS.size)
  clear hS
  go_wp2_with (refine gate 66 ?_)
  refine ⟨goesF 66 Tryz.func25 ((mkI_calls _ _ _ _ rs0 fs0 (1 : Int) hX0.out (by omega) (by have := hz0.out; have := hmk0.out; have := hz1.out; have := hmk1.out; omega)).mono ?_)⟩
  rintro e w14 ⟨rfl, hM0, hE0⟩
  refine ⟨_, rfl, ?_⟩
  have hE := Aside0.mk hE0
  clear hE0
  replace hX0 := Aside0.mk hM0
  clear hM0
  replace hW := Aside0.mk (Ex.on hW.out hE.out (fun i hi => (by obtain ⟨hi1, hi2⟩ := hi; have n2 := n2.out; have n4 := n4.out; have n5 := n5.out; have n6 := n6.out; have n7 := n7.out; have n8 := n8.out; have n9 := n9.out; have n11 := n11.out; have n12 := n12.out; have n14 := n14.out; have n15 := n15.out; have n17 := n17.out; have n18 := n18.out; have n19 := n19.out; have n20 := n20.out; have n21 := n21.out; have n22 := n22.out; have n23 := n23.out; have n24 := n24.out; omega)))
  replace kp0 := Aside0.mk (blk_ex hE.out kp0.out (fun hx => (by obtain ⟨hx1, hx2⟩ := hx; have n2 := n2.out; have n4 := n4.out; have n5 := n5.out; have n6 := n6.out; have n7 := n7.out; have n8 := n8.out; have n9 := n9.out; have n11 := n11.out; have n12 := n12.out; have n14 := n14.out; have n15 := n15.out; have n17 := n17.out; have n18 := n18.out; have n19 := n19.out; have n20 := n20.out; have n21 := n21.out; have n22 := n22.out; have n23 := n23.out; have n24 := n24.out; omega)))
  replace kp1 := Aside0.mk (blk_ex hE.out kp1.out (fun hx => (by obtain ⟨hx1, hx2⟩ := hx; have n2 := n2.out; have n4 := n4.out; have n5 := n5.out; have n6 := n6.out; have n7 := n7.out; have n8 := n8.out; have n9 := n9.out; have n11 := n11.out; have n12 := n12.out; have n14 := n14.out; have n15 := n15.out; have n17 := n17.out; have n18 := n18.out; have n19 := n19.out; have n20 := n20.out; have n21 := n21.out; have n22 := n22.out; have n23 := n23.out; have n24 := n24.out; omega)))
  replace kbR := Aside0.mk (blk_ex hE.out kbR.out (fun hx => (by obtain ⟨hx1, hx2⟩ := hx; have n2 := n2.out; have n4 := n4.out; have n5 := n5.out; have n6 := n6.out; have n7 := n7.out; have n8 := n8.out; have n9 := n9.out; have n11 := n11.out; have n12 := n12.out; have n14 := n14.out; have n15 := n15.out; have n17 := n17.out; have n18 := n18.out; have n19 := n19.out; have n20 := n20.out; have n21 := n21.out; have n22 := n22.out; have n23 := n23.out; have n24 := n24.out; omega)))
  replace kx0 := Aside0.mk (blk_ex hE.out kx0.out (fun hx => (by obtain ⟨hx1, hx2⟩ := hx; have n2 := n2.out; have n4 := n4.out; have n5 := n5.out; have n6 := n6.out; have n7 := n7.out; have n8 := n8.out; have n9 := n9.out; have n11 := n11.out; have n12 := n12.out; have n14 := n14.out; have n15 := n15.out; have n17 := n17.out; have n18 := n18.out; have n19 := n19.out; have n20 := n20.out; have n21 := n21.out; have n22 := n22.out; have n23 := n23.out; have n24 := n24.out; omega)))
  replace kx1 := Aside0.mk (blk_ex hE.out kx1.out (fun hx => (by obtain ⟨hx1, hx2⟩ := hx; have n2 := n2.out; have n4 := n4.out; have n5 := n5.out; have n6 := n6.out; have n7 := n7.out; have n8 := n8.out; have n9 := n9.out; have n11 := n11.out; have n12 := n12.out; have n14 := n14.out; have n15 := n15.out; have n17 := n17.out; have n18 := n18.out; have n19 := n19.out; have n20 := n20.out; have n21 := n21.out; have n22 := n22.out; have n23 := n23.out; have n24 := n24.out; omega)))
  replace kbG := Aside0.mk (blk_ex hE.out kbG.out (fun hx => (by obtain ⟨hx1, hx2⟩ := hx; have n2 := n2.out; have n4 := n4.out; have n5 := n5.out; have n6 := n6.out; have n7 := n7.out; have n8 := n8.out; have n9 := n9.out; have n11 := n11.out; have n12 := n12.out; have n14 := n14.out; have n15 := n15.out; have n17 := n17.out; have n18 := n18.out; have n19 := n19.out; have n20 := n20.out; have n21 := n21.out; have n22 := n22.out; have n23 := n23.out; have n24 := n24.out; omega)))
  replace cp0 := blk_cell kp0.out
  replace cp1 := blk_cell kp1.out
  replace cbR := blk_cell kbR.out
  replace cx0 := blk_cell kx0.out
  replace cx1 := blk_cell kx1.out
  replace cbG := blk_cell kbG.out
  replace oA0 := Aside0.mk (Ex.on oA0.out hE.out (fun i hi => (by obtain ⟨hi1, hi2⟩ := hi; have n2 := n2.out; have n4 := n4.out; have n5 := n5.out; have n6 := n6.out; have n7 := n7.out; have n8 := n8.out; have n9 := n9.out; have n11 := n11.out; have n12 := n12.out; have n14 := n14.out; have n15 := n15.out; have n17 := n17.out; have n18 := n18.out; have n19 := n19.out; have n20 := n20.out; have n21 := n21.out; have n22 := n22.out; have n23 := n23.out; have n24 := n24.out; omega)))
  replace oA1 := Aside0.mk (Ex.on oA1.out hE.out (fun i hi => (by obtain ⟨hi1, hi2⟩ := hi; have n2 := n2.out; have n4 := n4.out; have n5 := n5.out; have n6 := n6.out; have n7 := n7.out; have n8 := n8.out; have n9 := n9.out; have n11 := n11.out; have n12 := n12.out; have n14 := n14.out; have n15 := n15.out; have n17 := n17.out; have n18 := n18.out; have n19 := n19.out; have n20 := n20.out; have n21 := n21.out; have n22 := n22.out; have n23 := n23.out; have n24 := n24.out; omega)))
  replace oR := Aside0.mk (Ex.on oR.out hE.out (fun i hi => (by obtain ⟨hi1, hi2⟩ := hi; have n2 := n2.out; have n4 := n4.out; have n5 := n5.out; have n6 := n6.out; have n7 := n7.out; have n8 := n8.out; have n9 := n9.out; have n11 := n11.out; have n12 := n12.out; have n14 := n14.out; have n15 := n15.out; have n17 := n17.out; have n18 := n18.out; have n19 := n19.out; have n20 := n20.out; have n21 := n21.out; have n22 := n22.out; have n23 := n23.out; have n24 := n24.out; omega)))
  replace hX1 := Aside0.mk (hX1.out.ex hE.out (fun b h1 h2 h3 => (by obtain ⟨h31, h32⟩ := h3; have n2 := n2.out; have n4 := n4.out; have n5 := n5.out; have n6 := n6.out; have n7 := n7.out; have n8 := n8.out; have n9 := n9.out; have n11 := n11.out; have n12 := n12.out; have n14 := n14.out; have n15 := n15.out; have n17 := n17.out; have n18 := n18.out; have n19 := n19.out; have n20 := n20.out; have n21 := n21.out; have n22 := n22.out; have n23 := n23.out; have n24 := n24.out; omega)))
  replace hG := Aside0.mk (hG.out.ex hE.out (fun b h1 h2 h3 => (by obtain ⟨h31, h32⟩ := h3; have n2 := n2.out; have n4 := n4.out; have n5 := n5.out; have n6 := n6.out; have n7 := n7.out; have n8 := n8.out; have n9 := n9.out; have n11 := n11.out; have n12 := n12.out; have n14 := n14.out; have n15 := n15.out; have n17 := n17.out; have n18 := n18.out; have n19 := n19.out; have n20 := n20.out; have n21 := n21.out; have n22 := n22.out; have n23 := n23.out; have n24 := n24.out; omega)))
  have n25 := Aside0.mk (show w13.heap.size ≤ w14.heap.size from hE.out.size)
  clear hE
  go_wp2_with (refine gate 69 ?_)
  refine ⟨goesF 69 Tryz.func26 ((mkF_calls _ _ _ _ f1 ((1 : Int) + ((mkI rs0 fs0 : Nat) : Int)) hX1.out (by omega) (by have := hz0.out; have := hmk0.out; have := hz1.out; have := hmk1.out; omega)).mono ?_)⟩
  rintro e w15 ⟨rfl, hE0⟩
  refine ⟨_, rfl, ?_⟩
  have hE := Aside0.mk hE0
  clear hE0
  replace hW := Aside0.mk (Ex.on hW.out hE.out (fun i hi => (by obtain ⟨hi1, hi2⟩ := hi; have n2 := n2.out; have n4 := n4.out; have n5 := n5.out; have n6 := n6.out; have n7 := n7.out; have n8 := n8.out; have n9 := n9.out; have n11 := n11.out; have n12 := n12.out; have n14 := n14.out; have n15 := n15.out; have n17 := n17.out; have n18 := n18.out; have n19 := n19.out; have n20 := n20.out; have n21 := n21.out; have n22 := n22.out; have n23 := n23.out; have n24 := n24.out; have n25 := n25.out; omega)))
  replace kp0 := Aside0.mk (blk_ex hE.out kp0.out (fun hx => (by obtain ⟨hx1, hx2⟩ := hx; have n2 := n2.out; have n4 := n4.out; have n5 := n5.out; have n6 := n6.out; have n7 := n7.out; have n8 := n8.out; have n9 := n9.out; have n11 := n11.out; have n12 := n12.out; have n14 := n14.out; have n15 := n15.out; have n17 := n17.out; have n18 := n18.out; have n19 := n19.out; have n20 := n20.out; have n21 := n21.out; have n22 := n22.out; have n23 := n23.out; have n24 := n24.out; have n25 := n25.out; omega)))
  replace kp1 := Aside0.mk (blk_ex hE.out kp1.out (fun hx => (by obtain ⟨hx1, hx2⟩ := hx; have n2 := n2.out; have n4 := n4.out; have n5 := n5.out; have n6 := n6.out; have n7 := n7.out; have n8 := n8.out; have n9 := n9.out; have n11 := n11.out; have n12 := n12.out; have n14 := n14.out; have n15 := n15.out; have n17 := n17.out; have n18 := n18.out; have n19 := n19.out; have n20 := n20.out; have n21 := n21.out; have n22 := n22.out; have n23 := n23.out; have n24 := n24.out; have n25 := n25.out; omega)))
  replace kbR := Aside0.mk (blk_ex hE.out kbR.out (fun hx => (by obtain ⟨hx1, hx2⟩ := hx; have n2 := n2.out; have n4 := n4.out; have n5 := n5.out; have n6 := n6.out; have n7 := n7.out; have n8 := n8.out; have n9 := n9.out; have n11 := n11.out; have n12 := n12.out; have n14 := n14.out; have n15 := n15.out; have n17 := n17.out; have n18 := n18.out; have n19 := n19.out; have n20 := n20.out; have n21 := n21.out; have n22 := n22.out; have n23 := n23.out; have n24 := n24.out; have n25 := n25.out; omega)))
  replace kx0 := Aside0.mk (blk_ex hE.out kx0.out (fun hx => (by obtain ⟨hx1, hx2⟩ := hx; have n2 := n2.out; have n4 := n4.out; have n5 := n5.out; have n6 := n6.out; have n7 := n7.out; have n8 := n8.out; have n9 := n9.out; have n11 := n11.out; have n12 := n12.out; have n14 := n14.out; have n15 := n15.out; have n17 := n17.out; have n18 := n18.out; have n19 := n19.out; have n20 := n20.out; have n21 := n21.out; have n22 := n22.out; have n23 := n23.out; have n24 := n24.out; have n25 := n25.out; omega)))
  replace kx1 := Aside0.mk (blk_ex hE.out kx1.out (fun hx => (by obtain ⟨hx1, hx2⟩ := hx; have n2 := n2.out; have n4 := n4.out; have n5 := n5.out; have n6 := n6.out; have n7 := n7.out; have n8 := n8.out; have n9 := n9.out; have n11 := n11.out; have n12 := n12.out; have n14 := n14.out; have n15 := n15.out; have n17 := n17.out; have n18 := n18.out; have n19 := n19.out; have n20 := n20.out; have n21 := n21.out; have n22 := n22.out; have n23 := n23.out; have n24 := n24.out; have n25 := n25.out; omega)))
  replace kbG := Aside0.mk (blk_ex hE.out kbG.out (fun hx => (by obtain ⟨hx1, hx2⟩ := hx; have n2 := n2.out; have n4 := n4.out; have n5 := n5.out; have n6 := n6.out; have n7 := n7.out; have n8 := n8.out; have n9 := n9.out; have n11 := n11.out; have n12 := n12.out; have n14 := n14.out; have n15 := n15.out; have n17 := n17.out; have n18 := n18.out; have n19 := n19.out; have n20 := n20.out; have n21 := n21.out; have n22 := n22.out; have n23 := n23.out; have n24 := n24.out; have n25 := n25.out; omega)))
  replace cp0 := blk_cell kp0.out
  replace cp1 := blk_cell kp1.out
  replace cbR := blk_cell kbR.out
  replace cx0 := blk_cell kx0.out
  replace cx1 := blk_cell kx1.out
  replace cbG := blk_cell kbG.out
  replace oA0 := Aside0.mk (Ex.on oA0.out hE.out (fun i hi => (by obtain ⟨hi1, hi2⟩ := hi; have n2 := n2.out; have n4 := n4.out; have n5 := n5.out; have n6 := n6.out; have n7 := n7.out; have n8 := n8.out; have n9 := n9.out; have n11 := n11.out; have n12 := n12.out; have n14 := n14.out; have n15 := n15.out; have n17 := n17.out; have n18 := n18.out; have n19 := n19.out; have n20 := n20.out; have n21 := n21.out; have n22 := n22.out; have n23 := n23.out; have n24 := n24.out; have n25 := n25.out; omega)))
  replace oA1 := Aside0.mk (Ex.on oA1.out hE.out (fun i hi => (by obtain ⟨hi1, hi2⟩ := hi; have n2 := n2.out; have n4 := n4.out; have n5 := n5.out; have n6 := n6.out; have n7 := n7.out; have n8 := n8.out; have n9 := n9.out; have n11 := n11.out; have n12 := n12.out; have n14 := n14.out; have n15 := n15.out; have n17 := n17.out; have n18 := n18.out; have n19 := n19.out; have n20 := n20.out; have n21 := n21.out; have n22 := n22.out; have n23 := n23.out; have n24 := n24.out; have n25 := n25.out; omega)))
  replace oR := Aside0.mk (Ex.on oR.out hE.out (fun i hi => (by obtain ⟨hi1, hi2⟩ := hi; have n2 := n2.out; have n4 := n4.out; have n5 := n5.out; have n6 := n6.out; have n7 := n7.out; have n8 := n8.out; have n9 := n9.out; have n11 := n11.out; have n12 := n12.out; have n14 := n14.out; have n15 := n15.out; have n17 := n17.out; have n18 := n18.out; have n19 := n19.out; have n20 := n20.out; have n21 := n21.out; have n22 := n22.out; have n23 := n23.out; have n24 := n24.out; have n25 := n25.out; omega)))
  replace hX0 := Aside0.mk (hX0.out.ex hE.out (fun b h1 h2 h3 => (by obtain ⟨h31, h32⟩ := h3; have n2 := n2.out; have n4 := n4.out; have n5 := n5.out; have n6 := n6.out; have n7 := n7.out; have n8 := n8.out; have n9 := n9.out; have n11 := n11.out; have n12 := n12.out; have n14 := n14.out; have n15 := n15.out; have n17 := n17.out; have n18 := n18.out; have n19 := n19.out; have n20 := n20.out; have n21 := n21.out; have n22 := n22.out; have n23 := n23.out; have n24 := n24.out; have n25 := n25.out; omega)))
  replace hG := Aside0.mk (hG.out.ex hE.out (fun b h1 h2 h3 => (by obtain ⟨h31, h32⟩ := h3; have n2 := n2.out; have n4 := n4.out; have n5 := n5.out; have n6 := n6.out; have n7 := n7.out; have n8 := n8.out; have n9 := n9.out; have n11 := n11.out; have n12 := n12.out; have n14 := n14.out; have n15 := n15.out; have n17 := n17.out; have n18 := n18.out; have n19 := n19.out; have n20 := n20.out; have n21 := n21.out; have n22 := n22.out; have n23 := n23.out; have n24 := n24.out; have n25 := n25.out; omega)))
  have n26 := Aside0.mk (show w14.heap.size ≤ w15.heap.size from hE.out.size)
  clear hE
  have hkn : decide ((((1 : Int) + ((mkI rs0 fs0 : Nat) : Int)) + ((f1.2.length : Nat) : Int)) < 0) = false := decide_eq_false (by omega)
  have hmn : decide ((1 : Int) + ((mkI rs0 (insI rs0 fs0 f1) : Nat) : Int) < 0) = false := decide_eq_false (by omega)
  go_wp2_with (first
    | (refine gate 85 ?_)
    | (go_at_call 23; refine (eqI_calls _ _ _ rs0 (insI rs0 fs0 f1) hG.out.read (hR.out.on oR.out)).mono ?_; rintro e w16 ⟨rfl, hb1⟩; replace hW := Aside0.mk (hW.out.trans hb1); replace kp0 := Aside0.mk (blk_below kp0.out hb1); replace kp1 := Aside0.mk (blk_below kp1.out hb1); replace kbR := Aside0.mk (blk_below kbR.out hb1); replace kx0 := Aside0.mk (blk_below kx0.out hb1); replace kx1 := Aside0.mk (blk_below kx1.out hb1); replace kbG := Aside0.mk (blk_below kbG.out hb1); replace cp0 := blk_cell kp0.out; replace cp1 := blk_cell kp1.out; replace cbR := blk_cell kbR.out; replace cx0 := blk_cell kx0.out; replace cx1 := blk_cell kx1.out; replace cbG := blk_cell kbG.out; replace oA0 := Aside0.mk (oA0.out.trans hb1); replace oA1 := Aside0.mk (oA1.out.trans hb1); replace oR := Aside0.mk (oR.out.trans hb1); replace hX0 := Aside0.mk (hX0.out.on hb1); replace hG := Aside0.mk (hG.out.on hb1); have n27 := Aside0.mk (show w15.heap.size ≤ w16.heap.size from hb1.size); clear hb1))
  refine ⟨goesF 85 Tryz.func25 ((mkI_calls _ _ _ _ rs0 (insI rs0 fs0 f1) 1 hG.out (by omega) (by have := hmkG.out; have := hz0.out; have := hmk0.out; have := hz1.out; have := hmk1.out; omega)).mono ?_)⟩
  rintro e w17 ⟨rfl, hM0, hE0⟩
  refine ⟨_, rfl, ?_⟩
  have hE := Aside0.mk hE0
  clear hE0
  replace hG := Aside0.mk hM0
  clear hM0
  replace hW := Aside0.mk (Ex.on hW.out hE.out (fun i hi => (by obtain ⟨hi1, hi2⟩ := hi; have n2 := n2.out; have n4 := n4.out; have n5 := n5.out; have n6 := n6.out; have n7 := n7.out; have n8 := n8.out; have n9 := n9.out; have n11 := n11.out; have n12 := n12.out; have n14 := n14.out; have n15 := n15.out; have n17 := n17.out; have n18 := n18.out; have n19 := n19.out; have n20 := n20.out; have n21 := n21.out; have n22 := n22.out; have n23 := n23.out; have n24 := n24.out; have n25 := n25.out; have n26 := n26.out; have n27 := n27.out; omega)))
  replace kp0 := Aside0.mk (blk_ex hE.out kp0.out (fun hx => (by obtain ⟨hx1, hx2⟩ := hx; have n2 := n2.out; have n4 := n4.out; have n5 := n5.out; have n6 := n6.out; have n7 := n7.out; have n8 := n8.out; have n9 := n9.out; have n11 := n11.out; have n12 := n12.out; have n14 := n14.out; have n15 := n15.out; have n17 := n17.out; have n18 := n18.out; have n19 := n19.out; have n20 := n20.out; have n21 := n21.out; have n22 := n22.out; have n23 := n23.out; have n24 := n24.out; have n25 := n25.out; have n26 := n26.out; have n27 := n27.out; omega)))
  replace kp1 := Aside0.mk (blk_ex hE.out kp1.out (fun hx => (by obtain ⟨hx1, hx2⟩ := hx; have n2 := n2.out; have n4 := n4.out; have n5 := n5.out; have n6 := n6.out; have n7 := n7.out; have n8 := n8.out; have n9 := n9.out; have n11 := n11.out; have n12 := n12.out; have n14 := n14.out; have n15 := n15.out; have n17 := n17.out; have n18 := n18.out; have n19 := n19.out; have n20 := n20.out; have n21 := n21.out; have n22 := n22.out; have n23 := n23.out; have n24 := n24.out; have n25 := n25.out; have n26 := n26.out; have n27 := n27.out; omega)))
  replace kbR := Aside0.mk (blk_ex hE.out kbR.out (fun hx => (by obtain ⟨hx1, hx2⟩ := hx; have n2 := n2.out; have n4 := n4.out; have n5 := n5.out; have n6 := n6.out; have n7 := n7.out; have n8 := n8.out; have n9 := n9.out; have n11 := n11.out; have n12 := n12.out; have n14 := n14.out; have n15 := n15.out; have n17 := n17.out; have n18 := n18.out; have n19 := n19.out; have n20 := n20.out; have n21 := n21.out; have n22 := n22.out; have n23 := n23.out; have n24 := n24.out; have n25 := n25.out; have n26 := n26.out; have n27 := n27.out; omega)))
  replace kx0 := Aside0.mk (blk_ex hE.out kx0.out (fun hx => (by obtain ⟨hx1, hx2⟩ := hx; have n2 := n2.out; have n4 := n4.out; have n5 := n5.out; have n6 := n6.out; have n7 := n7.out; have n8 := n8.out; have n9 := n9.out; have n11 := n11.out; have n12 := n12.out; have n14 := n14.out; have n15 := n15.out; have n17 := n17.out; have n18 := n18.out; have n19 := n19.out; have n20 := n20.out; have n21 := n21.out; have n22 := n22.out; have n23 := n23.out; have n24 := n24.out; have n25 := n25.out; have n26 := n26.out; have n27 := n27.out; omega)))
  replace kx1 := Aside0.mk (blk_ex hE.out kx1.out (fun hx => (by obtain ⟨hx1, hx2⟩ := hx; have n2 := n2.out; have n4 := n4.out; have n5 := n5.out; have n6 := n6.out; have n7 := n7.out; have n8 := n8.out; have n9 := n9.out; have n11 := n11.out; have n12 := n12.out; have n14 := n14.out; have n15 := n15.out; have n17 := n17.out; have n18 := n18.out; have n19 := n19.out; have n20 := n20.out; have n21 := n21.out; have n22 := n22.out; have n23 := n23.out; have n24 := n24.out; have n25 := n25.out; have n26 := n26.out; have n27 := n27.out; omega)))
  replace kbG := Aside0.mk (blk_ex hE.out kbG.out (fun hx => (by obtain ⟨hx1, hx2⟩ := hx; have n2 := n2.out; have n4 := n4.out; have n5 := n5.out; have n6 := n6.out; have n7 := n7.out; have n8 := n8.out; have n9 := n9.out; have n11 := n11.out; have n12 := n12.out; have n14 := n14.out; have n15 := n15.out; have n17 := n17.out; have n18 := n18.out; have n19 := n19.out; have n20 := n20.out; have n21 := n21.out; have n22 := n22.out; have n23 := n23.out; have n24 := n24.out; have n25 := n25.out; have n26 := n26.out; have n27 := n27.out; omega)))
  replace cp0 := blk_cell kp0.out
  replace cp1 := blk_cell kp1.out
  replace cbR := blk_cell kbR.out
  replace cx0 := blk_cell kx0.out
  replace cx1 := blk_cell kx1.out
  replace cbG := blk_cell kbG.out
  replace oA0 := Aside0.mk (Ex.on oA0.out hE.out (fun i hi => (by obtain ⟨hi1, hi2⟩ := hi; have n2 := n2.out; have n4 := n4.out; have n5 := n5.out; have n6 := n6.out; have n7 := n7.out; have n8 := n8.out; have n9 := n9.out; have n11 := n11.out; have n12 := n12.out; have n14 := n14.out; have n15 := n15.out; have n17 := n17.out; have n18 := n18.out; have n19 := n19.out; have n20 := n20.out; have n21 := n21.out; have n22 := n22.out; have n23 := n23.out; have n24 := n24.out; have n25 := n25.out; have n26 := n26.out; have n27 := n27.out; omega)))
  replace oA1 := Aside0.mk (Ex.on oA1.out hE.out (fun i hi => (by obtain ⟨hi1, hi2⟩ := hi; have n2 := n2.out; have n4 := n4.out; have n5 := n5.out; have n6 := n6.out; have n7 := n7.out; have n8 := n8.out; have n9 := n9.out; have n11 := n11.out; have n12 := n12.out; have n14 := n14.out; have n15 := n15.out; have n17 := n17.out; have n18 := n18.out; have n19 := n19.out; have n20 := n20.out; have n21 := n21.out; have n22 := n22.out; have n23 := n23.out; have n24 := n24.out; have n25 := n25.out; have n26 := n26.out; have n27 := n27.out; omega)))
  replace oR := Aside0.mk (Ex.on oR.out hE.out (fun i hi => (by obtain ⟨hi1, hi2⟩ := hi; have n2 := n2.out; have n4 := n4.out; have n5 := n5.out; have n6 := n6.out; have n7 := n7.out; have n8 := n8.out; have n9 := n9.out; have n11 := n11.out; have n12 := n12.out; have n14 := n14.out; have n15 := n15.out; have n17 := n17.out; have n18 := n18.out; have n19 := n19.out; have n20 := n20.out; have n21 := n21.out; have n22 := n22.out; have n23 := n23.out; have n24 := n24.out; have n25 := n25.out; have n26 := n26.out; have n27 := n27.out; omega)))
  replace hX0 := Aside0.mk (hX0.out.ex hE.out (fun b h1 h2 h3 => (by obtain ⟨h31, h32⟩ := h3; have n2 := n2.out; have n4 := n4.out; have n5 := n5.out; have n6 := n6.out; have n7 := n7.out; have n8 := n8.out; have n9 := n9.out; have n11 := n11.out; have n12 := n12.out; have n14 := n14.out; have n15 := n15.out; have n17 := n17.out; have n18 := n18.out; have n19 := n19.out; have n20 := n20.out; have n21 := n21.out; have n22 := n22.out; have n23 := n23.out; have n24 := n24.out; have n25 := n25.out; have n26 := n26.out; have n27 := n27.out; omega)))
  have n28 := Aside0.mk (show w16.heap.size ≤ w17.heap.size from hE.out.size)
  clear hE
  go_wp2_with (refine gate 88 ?_)
  refine ⟨goesF 88 Tryz.func27 ((hdI_calls _ _ rs0 (insI rs0 fs0 f1) 1 hG.out.read (by omega) (by have := hmkG.out; have := hz0.out; have := hmk0.out; have := hz1.out; have := hmk1.out; omega)).mono ?_)⟩
  rintro e w18 ⟨rfl, hb1⟩
  refine ⟨_, rfl, ?_⟩
  replace hW := Aside0.mk (hW.out.trans hb1)
  replace kp0 := Aside0.mk (blk_below kp0.out hb1)
  replace kp1 := Aside0.mk (blk_below kp1.out hb1)
  replace kbR := Aside0.mk (blk_below kbR.out hb1)
  replace kx0 := Aside0.mk (blk_below kx0.out hb1)
  replace kx1 := Aside0.mk (blk_below kx1.out hb1)
  replace kbG := Aside0.mk (blk_below kbG.out hb1)
  replace cp0 := blk_cell kp0.out
  replace cp1 := blk_cell kp1.out
  replace cbR := blk_cell kbR.out
  replace cx0 := blk_cell kx0.out
  replace cx1 := blk_cell kx1.out
  replace cbG := blk_cell kbG.out
  replace oA0 := Aside0.mk (oA0.out.trans hb1)
  replace oA1 := Aside0.mk (oA1.out.trans hb1)
  replace oR := Aside0.mk (oR.out.trans hb1)
  replace hX0 := Aside0.mk (hX0.out.on hb1)
  replace hG := Aside0.mk (hG.out.on hb1)
  have n29 := Aside0.mk (show w17.heap.size ≤ w18.heap.size from hb1.size)
  clear hb1
  go_wp2
  refine Reg.regionM (.s 0 .L (.s 2 .L (.two 1 8 (.two 3 8 (.two 4 8 (.leaf [(5,.L),(6,.L),(7,.P),(8,.N)]) (.leaf [(4,.N),(5,.L),(6,.L),(7,.P)])) (.leaf [(3,.N),(4,.N),(5,.L),(6,.L),(7,.P)])) (.leaf [(1,.N),(3,.N),(4,.N),(5,.L),(6,.L),(7,.P)])))) [9,10] (fun a a' w' => ∃ (D0 D1 : Value) (uaZ : Option Addr) (laZ xaZ : Nat) (ubZ : Option Addr) (lbZ xbZ : Nat) (g : Nat), a' = (Act.put (Act.put (Act.put (Act.put (Act.put (Act.put (Act.put (Act.put (Act.put (Act.put a (some 95) (.agg #[.slice ua0 la0 xa0, .slice ub0 lb0 xb0])) (some 97) (.agg #[.int .i64 ra1, .slice ub1 lb1 xb1])) (some 96) D0) (some 98) D1) (some 99) (.tuple #[.agg #[.slice uaZ laZ xaZ, .slice ubZ lbZ xbZ], .bool (insB rs0 fs0 f1)])) (some 94) (.tuple #[.agg #[.slice uaZ laZ xaZ, .slice ubZ lbZ xbZ], .bool (insB rs0 fs0 f1)])) (some 100) (.agg #[.slice uaZ laZ xaZ, .slice ubZ lbZ xbZ])) (some 101) (.bool (insB rs0 fs0 f1))) (some 15) (.pointer (some ⟨g, 0, none⟩))) (some 16) (.bool (insB rs0 fs0 f1))) ∧ On w18 w' ∧ w'.heap[g]? = some (.cells #[.slice uaZ laZ xaZ, .slice ubZ lbZ xbZ] 27 (0, 0)) ∧ w18.heap.size ≤ g ∧ OIn w' w18.heap.size (.agg #[.slice uaZ laZ xaZ, .slice ubZ lbZ xbZ]) rs0 (insI rs0 fs0 f1)) (by kernel_rfl) (by kernel_rfl) ?_ ?_
  · have hQ := Aside0.mk (On.refl w18)
    refine tL ?_
    refine tL ?_
    refine tTwo ?_ ?_
    · have hQ := hQ
      intro u1 hS
      replace hQ := Aside0.mk (hQ.out.trans hS)
      refine goesF 96 Tryz.func21 ((toI_calls _ _ rs0 fs0 (hA0.on (oA0.out.trans hQ.out)) hz0.out).mono ?_)
      rintro e u2 ⟨v1, rfl, hO0, hb1⟩
      have hD0 := Aside0.mk hO0.b
      clear hO0
      obtain ⟨uaD0, laD0, xaD0, ubD0, lbD0, xbD0, rfl⟩ := (hD0.out.read).shape
      refine ⟨_, rfl, hS.trans hb1, ?_⟩
      simp only [Act.put, List.setIfInBounds_toArray, List.set_cons_zero, List.set_cons_succ]
      replace hQ := Aside0.mk (hQ.out.trans hb1)
      clear hb1 hS
      refine tTwo ?_ ?_
      · have hQ := hQ
        intro u3 hS
        replace hQ := Aside0.mk (hQ.out.trans hS)
        replace hD0 := Aside0.mk (hD0.out.on hS)
        refine goesF 98 Tryz.func22 ((toF_calls _ _ f1 (hA1.on (oA1.out.trans hQ.out)) hz1.out).mono ?_)
        rintro e u4 ⟨v1, rfl, hO0, hb1⟩
        have hD1 := Aside0.mk hO0.b
        clear hO0
        obtain ⟨raD1, ubD1, lbD1, xbD1, rfl⟩ := (hD1.out.read).shape
        refine ⟨_, rfl, hS.trans hb1, ?_⟩
        simp only [Act.put, List.setIfInBounds_toArray, List.set_cons_zero, List.set_cons_succ]
        replace hD0 := Aside0.mk (hD0.out.on hb1)
        replace hQ := Aside0.mk (hQ.out.trans hb1)
        clear hb1 hS
        refine tTwo ?_ ?_
        · have hQ := hQ
          intro u5 hS
          replace hQ := Aside0.mk (hQ.out.trans hS)
          replace hD0 := Aside0.mk (hD0.out.on hS)
          replace hD1 := Aside0.mk (hD1.out.on hS)
          refine goesF 99 Tryz.func8 ((iInsertV _ _ _ rs0 fs0 f1 hD0.out.read hD1.out.read hz0.out hz1.out).mono ?_)
          rintro e u6 ⟨v0, rfl, v1, rfl, hO0, hb1⟩
          have hU := Aside0.mk hO0.b
          clear hO0
          obtain ⟨uaZ, laZ, xaZ, ubZ, lbZ, xbZ, rfl⟩ := (hU.out.read).shape
          have hlo := Aside0.mk (show w18.heap.size ≤ u5.heap.size ∧ u5.heap.size ≤ u6.heap.size from ⟨hQ.out.size, hb1.size⟩)
          refine ⟨_, rfl, hS.trans hb1, ?_⟩
          simp only [Act.put, List.setIfInBounds_toArray, List.set_cons_zero, List.set_cons_succ]
          replace hQ := Aside0.mk (hQ.out.trans hb1)
          clear hb1 hS
          refine Reg.tLeaf ?_
          repeat first | refine sP ?_ | refine sS ?_ | refine sA ?_ | refine sL ?_ | refine sQ ?_ | refine sO ?_
          have hQ0 := hQ
          refine stepM (fun u7 hS => ?_)
          go_wp2
          refine ⟨hS.trans (On.alloc (On.refl _) _), ?_⟩
          have hgg := Aside0.mk (show w18.heap.size ≤ u7.heap.size from Nat.le_trans hQ.out.size hS.size)
          have hgl := Aside0.mk hS.size
          replace hU := Aside0.mk (hU.out.on (hS.trans (On.alloc (On.refl _) (.cells #[.slice none 0 0, .slice none 0 0] 27))))
          replace hQ := Aside0.mk (hQ.out.trans (hS.trans (On.alloc (On.refl _) (.cells #[.slice none 0 0, .slice none 0 0] 27))))
          have kZ := Aside0.mk (loc_new u7 #[.slice none 0 0, .slice none 0 0] 27)
          clear hS
          refine Reg.tail_ fun u8 hS => ?_
          replace hQ := Aside0.mk (hQ.out.trans hS)
          replace kZ := Aside0.mk (blk_below kZ.out hS)
          replace hU := Aside0.mk (hU.out.on hS)
          have cZ := blk_cell kZ.out
          have fZ := blk_frozen kZ.out
          clear hS
          go_wp2
          have hgs := hgg.out
          have hl := hlo.out
          have hlt := hgl.out
          refine ⟨.agg #[.slice uaD0 laD0 xaD0, .slice ubD0 lbD0 xbD0], .agg #[.int .i64 raD1, .slice ubD1 lbD1 xbD1], uaZ, laZ, xaZ, ubZ, lbZ, xbZ, u7.heap.size, ?_, Reg.On.set (Reg.On.set hQ.out hgs _) hgs _, blk_set (blk_set kZ.out 0 _) 1 _, hgs, ((hU.out.set (g := u7.heap.size) (by omega)).set (by omega)).n.lower hl.1⟩
          try simp only [Act.put, List.setIfInBounds_toArray, List.set_cons_zero, List.set_cons_succ]
          try simp
        · have hQ := hQ
          intro u9 hS
          go_wp2
          refine ⟨hS.trans (On.alloc (On.refl _) _), ?_⟩
          have hgg := Aside0.mk (show w18.heap.size ≤ u9.heap.size from Nat.le_trans hQ.out.size hS.size)
          replace hD0 := Aside0.mk (hD0.out.on (hS.trans (On.alloc (On.refl _) (.cells #[.slice none 0 0, .slice none 0 0] 27))))
          replace hD1 := Aside0.mk (hD1.out.on (hS.trans (On.alloc (On.refl _) (.cells #[.slice none 0 0, .slice none 0 0] 27))))
          replace hQ := Aside0.mk (hQ.out.trans (hS.trans (On.alloc (On.refl _) (.cells #[.slice none 0 0, .slice none 0 0] 27))))
          have kZ := Aside0.mk (loc_new u9 #[.slice none 0 0, .slice none 0 0] 27)
          clear hS
          refine Reg.tLeaf ?_
          refine stepM (fun u10 hS => ?_)
          replace hQ := Aside0.mk (hQ.out.trans hS)
          replace kZ := Aside0.mk (blk_below kZ.out hS)
          replace hD0 := Aside0.mk (hD0.out.on hS)
          replace hD1 := Aside0.mk (hD1.out.on hS)
          refine goesF 99 Tryz.func8 ((iInsertV _ _ _ rs0 fs0 f1 hD0.out.read hD1.out.read hz0.out hz1.out).mono ?_)
          rintro e u11 ⟨v0, rfl, v1, rfl, hO0, hb1⟩
          have hU := Aside0.mk hO0.b
          clear hO0
          obtain ⟨uaZ, laZ, xaZ, ubZ, lbZ, xbZ, rfl⟩ := (hU.out.read).shape
          have hlo := Aside0.mk (show w18.heap.size ≤ u10.heap.size ∧ u10.heap.size ≤ u11.heap.size from ⟨hQ.out.size, hb1.size⟩)
          have hgl := Aside0.mk (show _ from blk_lt kZ.out)
          refine ⟨_, rfl, hS.trans hb1, ?_⟩
          simp only [Act.put, List.setIfInBounds_toArray, List.set_cons_zero, List.set_cons_succ]
          replace hQ := Aside0.mk (hQ.out.trans hb1)
          replace kZ := Aside0.mk (blk_below kZ.out hb1)
          clear hb1 hS
          repeat first | refine sP ?_ | refine sS ?_ | refine sA ?_ | refine sL ?_ | refine sQ ?_ | refine sO ?_
          refine Reg.tail_ fun u12 hS => ?_
          replace hQ := Aside0.mk (hQ.out.trans hS)
          replace kZ := Aside0.mk (blk_below kZ.out hS)
          replace hU := Aside0.mk (hU.out.on hS)
          have cZ := blk_cell kZ.out
          have fZ := blk_frozen kZ.out
          clear hS
          go_wp2
          have hgs := hgg.out
          have hl := hlo.out
          have hlt := hgl.out
          refine ⟨.agg #[.slice uaD0 laD0 xaD0, .slice ubD0 lbD0 xbD0], .agg #[.int .i64 raD1, .slice ubD1 lbD1 xbD1], uaZ, laZ, xaZ, ubZ, lbZ, xbZ, u9.heap.size, ?_, Reg.On.set (Reg.On.set hQ.out hgs _) hgs _, blk_set (blk_set kZ.out 0 _) 1 _, hgs, ((hU.out.set (g := u9.heap.size) (by omega)).set (by omega)).n.lower hl.1⟩
          try simp only [Act.put, List.setIfInBounds_toArray, List.set_cons_zero, List.set_cons_succ]
          try simp
      · have hQ := hQ
        intro u13 hS
        go_wp2
        refine ⟨hS.trans (On.alloc (On.refl _) _), ?_⟩
        have hgg := Aside0.mk (show w18.heap.size ≤ u13.heap.size from Nat.le_trans hQ.out.size hS.size)
        replace hD0 := Aside0.mk (hD0.out.on (hS.trans (On.alloc (On.refl _) (.cells #[.slice none 0 0, .slice none 0 0] 27))))
        replace hQ := Aside0.mk (hQ.out.trans (hS.trans (On.alloc (On.refl _) (.cells #[.slice none 0 0, .slice none 0 0] 27))))
        have kZ := Aside0.mk (loc_new u13 #[.slice none 0 0, .slice none 0 0] 27)
        clear hS
        refine Reg.tLeaf ?_
        refine stepM (fun u14 hS => ?_)
        replace hQ := Aside0.mk (hQ.out.trans hS)
        replace kZ := Aside0.mk (blk_below kZ.out hS)
        replace hD0 := Aside0.mk (hD0.out.on hS)
        refine goesF 98 Tryz.func22 ((toF_calls _ _ f1 (hA1.on (oA1.out.trans hQ.out)) hz1.out).mono ?_)
        rintro e u15 ⟨v1, rfl, hO0, hb1⟩
        have hD1 := Aside0.mk hO0.b
        clear hO0
        obtain ⟨raD1, ubD1, lbD1, xbD1, rfl⟩ := (hD1.out.read).shape
        refine ⟨_, rfl, hS.trans hb1, ?_⟩
        simp only [Act.put, List.setIfInBounds_toArray, List.set_cons_zero, List.set_cons_succ]
        replace hD0 := Aside0.mk (hD0.out.on hb1)
        replace hQ := Aside0.mk (hQ.out.trans hb1)
        replace kZ := Aside0.mk (blk_below kZ.out hb1)
        clear hb1 hS
        refine stepM (fun u16 hS => ?_)
        replace hQ := Aside0.mk (hQ.out.trans hS)
        replace kZ := Aside0.mk (blk_below kZ.out hS)
        replace hD0 := Aside0.mk (hD0.out.on hS)
        replace hD1 := Aside0.mk (hD1.out.on hS)
        refine goesF 99 Tryz.func8 ((iInsertV _ _ _ rs0 fs0 f1 hD0.out.read hD1.out.read hz0.out hz1.out).mono ?_)
        rintro e u17 ⟨v0, rfl, v1, rfl, hO0, hb1⟩
        have hU := Aside0.mk hO0.b
        clear hO0
        obtain ⟨uaZ, laZ, xaZ, ubZ, lbZ, xbZ, rfl⟩ := (hU.out.read).shape
        have hlo := Aside0.mk (show w18.heap.size ≤ u16.heap.size ∧ u16.heap.size ≤ u17.heap.size from ⟨hQ.out.size, hb1.size⟩)
        have hgl := Aside0.mk (show _ from blk_lt kZ.out)
        refine ⟨_, rfl, hS.trans hb1, ?_⟩
        simp only [Act.put, List.setIfInBounds_toArray, List.set_cons_zero, List.set_cons_succ]
        replace hQ := Aside0.mk (hQ.out.trans hb1)
        replace kZ := Aside0.mk (blk_below kZ.out hb1)
        clear hb1 hS
        repeat first | refine sP ?_ | refine sS ?_ | refine sA ?_ | refine sL ?_ | refine sQ ?_ | refine sO ?_
        refine Reg.tail_ fun u18 hS => ?_
        replace hQ := Aside0.mk (hQ.out.trans hS)
        replace kZ := Aside0.mk (blk_below kZ.out hS)
        replace hU := Aside0.mk (hU.out.on hS)
        have cZ := blk_cell kZ.out
        have fZ := blk_frozen kZ.out
        clear hS
        go_wp2
        have hgs := hgg.out
        have hl := hlo.out
        have hlt := hgl.out
        refine ⟨.agg #[.slice uaD0 laD0 xaD0, .slice ubD0 lbD0 xbD0], .agg #[.int .i64 raD1, .slice ubD1 lbD1 xbD1], uaZ, laZ, xaZ, ubZ, lbZ, xbZ, u13.heap.size, ?_, Reg.On.set (Reg.On.set hQ.out hgs _) hgs _, blk_set (blk_set kZ.out 0 _) 1 _, hgs, ((hU.out.set (g := u13.heap.size) (by omega)).set (by omega)).n.lower hl.1⟩
        try simp only [Act.put, List.setIfInBounds_toArray, List.set_cons_zero, List.set_cons_succ]
        try simp
    · have hQ := hQ
      intro u19 hS
      go_wp2
      refine ⟨hS.trans (On.alloc (On.refl _) _), ?_⟩
      have hgg := Aside0.mk (show w18.heap.size ≤ u19.heap.size from Nat.le_trans hQ.out.size hS.size)
      replace hQ := Aside0.mk (hQ.out.trans (hS.trans (On.alloc (On.refl _) (.cells #[.slice none 0 0, .slice none 0 0] 27))))
      have kZ := Aside0.mk (loc_new u19 #[.slice none 0 0, .slice none 0 0] 27)
      clear hS
      refine Reg.tLeaf ?_
      refine stepM (fun u20 hS => ?_)
      replace hQ := Aside0.mk (hQ.out.trans hS)
      replace kZ := Aside0.mk (blk_below kZ.out hS)
      refine goesF 96 Tryz.func21 ((toI_calls _ _ rs0 fs0 (hA0.on (oA0.out.trans hQ.out)) hz0.out).mono ?_)
      rintro e u21 ⟨v1, rfl, hO0, hb1⟩
      have hD0 := Aside0.mk hO0.b
      clear hO0
      obtain ⟨uaD0, laD0, xaD0, ubD0, lbD0, xbD0, rfl⟩ := (hD0.out.read).shape
      refine ⟨_, rfl, hS.trans hb1, ?_⟩
      simp only [Act.put, List.setIfInBounds_toArray, List.set_cons_zero, List.set_cons_succ]
      replace hQ := Aside0.mk (hQ.out.trans hb1)
      replace kZ := Aside0.mk (blk_below kZ.out hb1)
      clear hb1 hS
      refine stepM (fun u22 hS => ?_)
      replace hQ := Aside0.mk (hQ.out.trans hS)
      replace kZ := Aside0.mk (blk_below kZ.out hS)
      replace hD0 := Aside0.mk (hD0.out.on hS)
      refine goesF 98 Tryz.func22 ((toF_calls _ _ f1 (hA1.on (oA1.out.trans hQ.out)) hz1.out).mono ?_)
      rintro e u23 ⟨v1, rfl, hO0, hb1⟩
      have hD1 := Aside0.mk hO0.b
      clear hO0
      obtain ⟨raD1, ubD1, lbD1, xbD1, rfl⟩ := (hD1.out.read).shape
      refine ⟨_, rfl, hS.trans hb1, ?_⟩
      simp only [Act.put, List.setIfInBounds_toArray, List.set_cons_zero, List.set_cons_succ]
      replace hD0 := Aside0.mk (hD0.out.on hb1)
      replace hQ := Aside0.mk (hQ.out.trans hb1)
      replace kZ := Aside0.mk (blk_below kZ.out hb1)
      clear hb1 hS
      refine stepM (fun u24 hS => ?_)
      replace hQ := Aside0.mk (hQ.out.trans hS)
      replace kZ := Aside0.mk (blk_below kZ.out hS)
      replace hD0 := Aside0.mk (hD0.out.on hS)
      replace hD1 := Aside0.mk (hD1.out.on hS)
      refine goesF 99 Tryz.func8 ((iInsertV _ _ _ rs0 fs0 f1 hD0.out.read hD1.out.read hz0.out hz1.out).mono ?_)
      rintro e u25 ⟨v0, rfl, v1, rfl, hO0, hb1⟩
      have hU := Aside0.mk hO0.b
      clear hO0
      obtain ⟨uaZ, laZ, xaZ, ubZ, lbZ, xbZ, rfl⟩ := (hU.out.read).shape
      have hlo := Aside0.mk (show w18.heap.size ≤ u24.heap.size ∧ u24.heap.size ≤ u25.heap.size from ⟨hQ.out.size, hb1.size⟩)
      have hgl := Aside0.mk (show _ from blk_lt kZ.out)
      refine ⟨_, rfl, hS.trans hb1, ?_⟩
      simp only [Act.put, List.setIfInBounds_toArray, List.set_cons_zero, List.set_cons_succ]
      replace hQ := Aside0.mk (hQ.out.trans hb1)
      replace kZ := Aside0.mk (blk_below kZ.out hb1)
      clear hb1 hS
      repeat first | refine sP ?_ | refine sS ?_ | refine sA ?_ | refine sL ?_ | refine sQ ?_ | refine sO ?_
      refine Reg.tail_ fun u26 hS => ?_
      replace hQ := Aside0.mk (hQ.out.trans hS)
      replace kZ := Aside0.mk (blk_below kZ.out hS)
      replace hU := Aside0.mk (hU.out.on hS)
      have cZ := blk_cell kZ.out
      have fZ := blk_frozen kZ.out
      clear hS
      go_wp2
      have hgs := hgg.out
      have hl := hlo.out
      have hlt := hgl.out
      refine ⟨.agg #[.slice uaD0 laD0 xaD0, .slice ubD0 lbD0 xbD0], .agg #[.int .i64 raD1, .slice ubD1 lbD1 xbD1], uaZ, laZ, xaZ, ubZ, lbZ, xbZ, u19.heap.size, ?_, Reg.On.set (Reg.On.set hQ.out hgs _) hgs _, blk_set (blk_set kZ.out 0 _) 1 _, hgs, ((hU.out.set (g := u19.heap.size) (by omega)).set (by omega)).n.lower hl.1⟩
      try simp only [Act.put, List.setIfInBounds_toArray, List.set_cons_zero, List.set_cons_succ]
      try simp
  rintro a' w19 ⟨D0, D1, uaH, laH, xaH, ubH, lbH, xbH, gH, rfl, hb1, hk1, hg1, hO0⟩
  simp only [Act.put, List.setIfInBounds_toArray, List.set_cons_zero, List.set_cons_succ]
  replace hW := Aside0.mk (hW.out.trans hb1)
  replace kp0 := Aside0.mk (blk_below kp0.out hb1)
  replace kp1 := Aside0.mk (blk_below kp1.out hb1)
  replace kbR := Aside0.mk (blk_below kbR.out hb1)
  replace kx0 := Aside0.mk (blk_below kx0.out hb1)
  replace kx1 := Aside0.mk (blk_below kx1.out hb1)
  replace kbG := Aside0.mk (blk_below kbG.out hb1)
  replace cp0 := blk_cell kp0.out
  replace cp1 := blk_cell kp1.out
  replace cbR := blk_cell kbR.out
  replace cx0 := blk_cell kx0.out
  replace cx1 := blk_cell kx1.out
  replace cbG := blk_cell kbG.out
  replace oA0 := Aside0.mk (oA0.out.trans hb1)
  replace oA1 := Aside0.mk (oA1.out.trans hb1)
  replace oR := Aside0.mk (oR.out.trans hb1)
  replace hX0 := Aside0.mk (hX0.out.on hb1)
  replace hG := Aside0.mk (hG.out.on hb1)
  have n30 := Aside0.mk (show w18.heap.size ≤ w19.heap.size from hb1.size)
  have kbH := Aside0.mk hk1
  have cbH := blk_cell hk1
  have hH := Aside0.mk hO0.read
  have oH := Aside0.mk (On.refl w19)
  have n31 := Aside0.mk (show w18.heap.size ≤ gH ∧ gH < w19.heap.size from ⟨hg1, blk_lt hk1⟩)
  clear hb1 hk1 hg1 hO0
  go_wp2_with (first
    | (refine gate 113 ?_)
    | (go_at_call 23; refine (eqI_calls _ _ _ rs0 (insI rs0 fs0 f1) (hH.out.on oH.out) (hR.out.on oR.out)).mono ?_; rintro e w20 ⟨rfl, hb1⟩; replace hW := Aside0.mk (hW.out.trans hb1); replace kp0 := Aside0.mk (blk_below kp0.out hb1); replace kp1 := Aside0.mk (blk_below kp1.out hb1); replace kbR := Aside0.mk (blk_below kbR.out hb1); replace kx0 := Aside0.mk (blk_below kx0.out hb1); replace kx1 := Aside0.mk (blk_below kx1.out hb1); replace kbG := Aside0.mk (blk_below kbG.out hb1); replace kbH := Aside0.mk (blk_below kbH.out hb1); replace cp0 := blk_cell kp0.out; replace cp1 := blk_cell kp1.out; replace cbR := blk_cell kbR.out; replace cx0 := blk_cell kx0.out; replace cx1 := blk_cell kx1.out; replace cbG := blk_cell kbG.out; replace cbH := blk_cell kbH.out; replace oA0 := Aside0.mk (oA0.out.trans hb1); replace oA1 := Aside0.mk (oA1.out.trans hb1); replace oR := Aside0.mk (oR.out.trans hb1); replace oH := Aside0.mk (oH.out.trans hb1); replace hX0 := Aside0.mk (hX0.out.on hb1); replace hG := Aside0.mk (hG.out.on hb1); have n32 := Aside0.mk (show w19.heap.size ≤ w20.heap.size from hb1.size); clear hb1))
  refine ⟨goesF 113 Tryz.func27 ((hdI_calls _ _ rs0 (insI rs0 fs0 f1) 1 hG.out.read (by omega) (by have := hmkG.out; have := hz0.out; have := hmk0.out; have := hz1.out; have := hmk1.out; omega)).mono ?_)⟩
  rintro e w21 ⟨rfl, hb1⟩
  refine ⟨_, rfl, ?_⟩
  replace hW := Aside0.mk (hW.out.trans hb1)
  replace kp0 := Aside0.mk (blk_below kp0.out hb1)
  replace kp1 := Aside0.mk (blk_below kp1.out hb1)
  replace kbR := Aside0.mk (blk_below kbR.out hb1)
  replace kx0 := Aside0.mk (blk_below kx0.out hb1)
  replace kx1 := Aside0.mk (blk_below kx1.out hb1)
  replace kbG := Aside0.mk (blk_below kbG.out hb1)
  replace kbH := Aside0.mk (blk_below kbH.out hb1)
  replace cp0 := blk_cell kp0.out
  replace cp1 := blk_cell kp1.out
  replace cbR := blk_cell kbR.out
  replace cx0 := blk_cell kx0.out
  replace cx1 := blk_cell kx1.out
  replace cbG := blk_cell kbG.out
  replace cbH := blk_cell kbH.out
  replace oA0 := Aside0.mk (oA0.out.trans hb1)
  replace oA1 := Aside0.mk (oA1.out.trans hb1)
  replace oR := Aside0.mk (oR.out.trans hb1)
  replace oH := Aside0.mk (oH.out.trans hb1)
  replace hX0 := Aside0.mk (hX0.out.on hb1)
  replace hG := Aside0.mk (hG.out.on hb1)
  have n33 := Aside0.mk (show w20.heap.size ≤ w21.heap.size from hb1.size)
  clear hb1
  go_wp2
  go_ret
  exact ⟨rfl, hW.out⟩
end Go.Proofs.YtngjhblbpapjeaaGreat.H
