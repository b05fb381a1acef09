/- Walks and plain laws for the law FnHomomorphisms, part 4 of 8: the texts HG17, HD5, HJ8, HRegH, HG18, HG19, HD4, HD6 in one. No condition. -/
import Derived.Test.YtgemaohdlibboaaGreatZFnHomomorphisms3
/- Walks: the draw of a substitution. What is told: sizes and ranges. No condition. -/
namespace Go.Proofs.YtgemaohdlibboaaGreat.H
open Go Go.RowKit Go.Proofs.YtgemaohdlibboaaGreatW.PrintWords Go.Proofs.YtgemaohdlibboaaGreatW.PrintLast
open Go.Proofs.YtgemaohdlibboaaGreat.Reg (On on_draw)
set_option maxHeartbeats 4000000
set_option maxRecDepth 100000
set_option linter.unusedVariables false
set_option linter.unusedSimpArgs false

theorem TW.nil (g lo : Nat) (w : World) : TW g lo w (.slice none 0 0) (.slice none 0 0) [] [] :=
  ⟨World.ownsRow_nil _ _ _ _, World.ownsRow_nil _ _ _ _, by intro b h; simp [Value.ownBlock] at h, by intro b h; simp [Value.ownBlock] at h, by intro b h; simp [Value.ownBlock] at h⟩
abbrev AnyS (lo m : Nat) (v : Value) (w : World) : Prop := ∃ A0 c0 A1 c1 ns vs, v = .agg #[.slice A0 ns.length c0, .slice A1 vs.length c1] ∧ OI w lo (.slice A0 ns.length c0) ns ∧ OI w lo (.slice A1 vs.length c1) vs ∧ InR ns ∧ InR vs ∧ ns.length ≤ m ∧ vs.length = ns.length
theorem sub_end {w0 w wz : World} {q m : Nat} {A0 A1 : Option Addr} {d0 d1 : Nat} {ns vs : List Int} (hqw : q < w.heap.size) (hq0 : w0.heap.size ≤ q) (h0 : OI wz (w.heap.size + 1) (.slice A0 ns.length d0) ns) (h1 : OI wz (w.heap.size + 1) (.slice A1 vs.length d1) vs) (hi0 : InR ns) (hi1 : InR vs) (hm : ns.length ≤ m) (hl : vs.length = ns.length) (hC : Cu w0 wz q) (hE : Ex (fun b => b = q) w wz) :
    Dr w0 w q (AnyS w.heap.size m) (.returned (.agg #[.slice A0 ns.length d0, .slice A1 vs.length d1])) ((wz.setCell ⟨w.heap.size, 0, none⟩ (.slice A0 ns.length d0)).setCell ⟨w.heap.size, 1, none⟩ (.slice A1 vs.length d1)) := by
  have EE := (Ex.set wz ⟨w.heap.size, 0, none⟩ (.slice A0 ns.length d0)).trans (Ex.set _ ⟨w.heap.size, 1, none⟩ (.slice A1 vs.length d1)) (fun _ _ h => h)
  exact ⟨_, rfl, ⟨A0, d0, A1, d1, ns, vs, rfl, own_lower (own_ex h0 EE (fun i hi e => by have := own_base h0 i hi; have e' : i = w.heap.size := e; omega)) (by omega), own_lower (own_ex h1 EE (fun i hi e => by have := own_base h1 i hi; have e' : i = w.heap.size := e; omega)) (by omega), hi0, hi1, hm, hl⟩,
    hC.ex EE (fun b hb => by have e' : b = w.heap.size := hb; omega), hE.trans EE (fun i hi h => by have e' : i = w.heap.size := h; omega)⟩
theorem l6Sub_calls (w0 w : World) (q : Nat) (hC : Cu w0 w q) (m : Nat) (hm : m ≤ 100) :
    Calls Tryz.prog 40 #[.pointer (some ⟨q, 0, none⟩), .int .i64 m] w (Dr w0 w q (AnyS w.heap.size m)) := by
  have hC' := Aside0.mk hC
  have hqw := Aside0.mk hC.lt
  have hq0 := Aside0.mk hC.lo
  have hm' := Aside0.mk hm
  have hL := Aside0.mk (loc2 w #[.slice none 0 0, .slice none 0 0] #[.slice none 0 0, .slice none 0 0] 32 32)
  have hb0 := Aside0.mk (On.alloc (On.alloc (On.refl w) (.cells #[.slice none 0 0, .slice none 0 0] 32 (0, 0))) (.cells #[.slice none 0 0, .slice none 0 0] 32 (0, 0)))
  have hfill := alloc_fill (w.alloc (.cells #[.slice none 0 0, .slice none 0 0] 32 (0, 0)))
  clear hC hm
  go_enter Tryz.func40, Tryz.ntmps40
  go_wp2
  clear hfill
  obtain ⟨wa, hwa⟩ : ∃ wa, (w.alloc (.cells #[.slice none 0 0, .slice none 0 0] 32 (0, 0))).alloc (.cells #[.slice none 0 0, .slice none 0 0] 32 (0, 0)) = wa := ⟨_, rfl⟩
  rw [hwa] at hL hb0 ⊢
  clear hwa
  obtain ⟨g5, hg5⟩ : ∃ g5, w.heap.size + 1 = g5 := ⟨_, rfl⟩
  have hg := Aside0.mk hg5
  rw [hg5] at hL ⊢
  clear hg5
  go_loopw [6] (fun v6 wr => ∃ (k : Nat) (ns vs : List Int) (A0 : Option Addr) (d0 : Nat) (A1 : Option Addr) (d1 : Nat), v6 = .int .i64 k ∧ k ≤ m ∧ wr.heap[g5]? = some (.cells #[.slice A0 ns.length d0, .slice A1 vs.length d1] 32 (0, 0)) ∧ wr.heap[w.heap.size]? = some (.cells #[.slice none 0 0, .slice none 0 0] 32 (0, 0)) ∧ TW g5 (w.heap.size + 1) wr (.slice A0 ns.length d0) (.slice A1 vs.length d1) ns vs ∧ InR ns ∧ InR vs ∧ vs.length = ns.length ∧ ns.length ≤ k ∧ Cu w0 wr q ∧ Ex (fun b => b = q) w wr) (fun v6 _ => m - (intOf v6).toNat)
  case atStart => exact ⟨0, [], [], none, 0, none, 0, rfl, Nat.zero_le _, hL.out.2.1, hL.out.1, TW.nil _ _ _, fun _ h => absurd h (by simp), fun _ h => absurd h (by simp), rfl, Nat.le_refl _, hC'.out.next hb0.out, Ex.of_on hb0.out⟩
  case round =>
    obtain ⟨k, ns, vs, A0, d0, A1, d1, rfl, hk, hb5, hbr, hT, hi0, hi1, hll, hlk, hC, hE⟩ := hrel
    have hk' := Aside0.mk hk
    have hb5' := Aside0.mk hb5
    have hbr' := Aside0.mk hbr
    have hT' := Aside0.mk hT
    have hi0' := Aside0.mk hi0
    have hi1' := Aside0.mk hi1
    have hll' := Aside0.mk hll
    have hlk' := Aside0.mk hlk
    have hC1 := Aside0.mk hC
    have hE1 := Aside0.mk hE
    clear hk hb5 hbr hT hi0 hi1 hll hlk hC hE
    by_cases hlt : k < m
    · have hlt' := Aside0.mk hlt
      have hwk := Aside0.mk (show wrap64 ((k : Int) + 1) = ((k + 1 : Nat) : Int) by have := hm'.out; rw [IntWalk.wrap64_in _ (by omega)]; omega)
      have hcb : decide ((k : Int) < (m : Int)) = true := decide_eq_true (by omega)
      have hcn : decide (k < m) = true := decide_eq_true hlt
      clear hlt
      go_wp2_with (go_at_call 39; refine Stop.out ?_)
      refine ⟨(l1Once_calls w0 _ q hC1.out 2 (by omega) (by omega)).mono ?_⟩
      rintro e w2 ⟨v, rfl, ⟨b, rfl⟩, hC2, hE2⟩
      have hC2' := Aside0.mk hC2
      have hE2' := Aside0.mk (hE1.out.trans hE2 fun _ _ h => h)
      have hb52 := Aside0.mk (blk_ex hE2 hb5'.out (by have := hqw.out; have := hg.out; omega))
      have hbr2 := Aside0.mk (blk_ex hE2 hbr'.out (by have := hqw.out; omega))
      have hT2 := Aside0.mk (hT'.out.ex hE2 fun b hb => .inl (by have := hqw.out; omega))
      clear hC2 hE2
      cases b with
      | false =>
        go_wp2
        refine ⟨⟨k + 1, ns, vs, A0, d0, A1, d1, by rw [hwk.out], by have := hlt'.out; omega, hb52.out, hbr2.out, hT2.out, hi0'.out, hi1'.out, hll'.out, by have := hlk'.out; omega, hC2'.out, hE2'.out⟩, ?_⟩
        rw [hwk.out]
        have := hlt'.out
        simp [intOf]
        omega
      | true =>
        have hd0 := blk_cell hb52.out
        have hf0 := blk_frozen hb52.out
        go_wp2_with (refine gate 19 ?_)
        have hI5 := Aside0.mk (lit_I w2 k (by have := hlt'.out; have := hm'.out; omega))
        have hS5 := Aside0.mk (On.alloc (On.refl w2) (.cells #[.int .i64 k] 3 (0, 0)))
        have hT5 := Aside0.mk (hT2.out.on hS5.out)
        have hlt5 := Aside0.mk (blk_lt (blk_below hb52.out hS5.out))
        obtain ⟨ms, hms⟩ : ∃ ms, ns ++ [(k : Int)] = ms := ⟨_, rfl⟩
        refine ⟨apI 19 hms (OI.to hT5.out.r0) hI5.out.2.1 (by have := hlt5.out; have := hg.out; omega) (by have := hlk'.out; have := hlt'.out; have := hm'.out; simp; omega) fun v6 w6 hO6 hg6 hat6 => ?_⟩
        have hO6' := Aside0.mk (OI.of hO6)
        have hT6 := Aside0.mk (hT5.out.app0 hlt5.out (OI.of hO6) hg6 (hat6.imp id fun ⟨b, e, h⟩ => ⟨b, e, h⟩))
        have hS6 := Aside0.mk (Ex.of_grown hg6)
        have hb56 := Aside0.mk (blk_ex hS6.out (blk_below hb52.out hS5.out) (fun e => hT5.out.n0 _ e.symm rfl))
        have hbr6 := Aside0.mk (blk_ex hS6.out (blk_below hbr2.out hS5.out) (fun e => by have := own_base hT5.out.r0 _ e.symm; omega))
        have hml := Aside0.mk (show ms.length = ns.length + 1 by rw [← hms]; simp)
        have hmi := Aside0.mk (show InR ms by rw [← hms]; intro z hz; exact (List.mem_append.1 hz).elim (hi0'.out z) (fun h => by rw [List.mem_singleton.1 h]; have := hlt'.out; have := hm'.out; omega))
        clear hO6 hg6 hat6 hms hd0 hf0
        obtain ⟨A6, c6, rfl⟩ := own_slice hO6'.out
        have hd6 := blk_cell hb56.out
        have hf6 := blk_frozen hb56.out
        have EX := Aside0.mk (Ex.set w6 ⟨g5, 0, none⟩ (.slice A6 ms.length c6))
        obtain ⟨X, hX⟩ : ∃ X, w6.setCell ⟨g5, 0, none⟩ (.slice A6 ms.length c6) = X := ⟨_, rfl⟩
        have hbX := Aside0.mk (show X.heap[g5]? = some (.cells #[.slice A6 ms.length c6, .slice A1 vs.length d1] 32 (0, 0)) from hX ▸ blk_set hb56.out 0 _)
        have hbXs := Aside0.mk (show (w6.setCell ⟨g5, 0, none⟩ (.slice A6 ms.length c6)).heap[g5]? = some (.cells #[.slice A6 ms.length c6, .slice A1 vs.length d1] 32 (0, 0)) from blk_set hb56.out 0 _)
        have hX' := Aside0.mk hX
        clear hX
        go_wp2
        rw [hX'.out]
        have EX' := Aside0.mk (show Ex (fun b => b = g5) w6 X from hX'.out ▸ EX.out)
        have hq1 := Aside0.mk (show q < w.heap.size ∧ w.heap.size + 1 = g5 ∧ w0.heap.size ≤ q from ⟨hqw.out, hg.out, hq0.out⟩)
        have hbrX := Aside0.mk (blk_ex EX'.out hbr6.out (by have := hg.out; omega))
        have hTX := Aside0.mk (hT6.out.ex EX'.out fun b hb => .inr hb)
        have hCX := Aside0.mk (((hC2'.out.next hS5.out).ex hS6.out (fun b hb => by have := own_base hT5.out.r0 b hb.symm; have := hq1.out; omega)).ex EX'.out (fun b hb => by have := hq1.out; omega))
        have hEX := Aside0.mk (((hE2'.out.then_on hS5.out).trans hS6.out (fun i hi h => by have := own_base hT5.out.r0 i h.symm; omega)).trans EX'.out (fun i hi h => by have := hq1.out; omega))
        clear hd6 hf6
        refine Reg.regionG (fun w' => w'.heap[g5]? = some (.cells #[.slice A6 ms.length c6, .slice A1 vs.length d1] 32 (0, 0))) [0,1,2,3] [4,5,6,7,8] 8 (by kernel_rfl) (by kernel_rfl) hbX.out ?_
        repeat refine Reg.sG ?_
        refine Reg.startG ?_
        obtain ⟨w7, hw7⟩ : ∃ w7, ({ X with drawn := X.drawn + 1 } : World) = w7 := ⟨_, rfl⟩
        have hS7 := Aside0.mk (show On X w7 from (hw7 ▸ on_draw X))
        rw [hw7]
        clear hw7
        refine Reg.tG ?_
        go_wp2_with (go_at_call 67; refine Stop.out ?_)
        refine ⟨(l4Value_calls w0 _ q (hCX.out.next hS7.out) m (by omega) (by have := hm'.out; omega)).mono ?_⟩
        rintro e w8 ⟨v, rfl, ⟨x, rfl, hx⟩, hC8, hE8⟩
        have hx' := Aside0.mk hx
        have hC8' := Aside0.mk hC8
        have hE8x := Aside0.mk ((Ex.of_on (S := fun b => b = q) hS7.out).trans hE8 fun _ _ h => h)
        have hE8' := Aside0.mk (hEX.out.trans hE8x.out fun _ _ h => h)
        have hb8 := Aside0.mk (blk_ex hE8x.out hbX.out (by have := hq1.out; omega))
        have hbr8 := Aside0.mk (blk_ex hE8x.out hbrX.out (by have := hq1.out; omega))
        have hT8 := Aside0.mk (hTX.out.ex hE8x.out fun b hb => .inl (by have := hq1.out; omega))
        clear hC8 hE8 hx
        go_wp2
        refine ⟨hb8.out, ?_⟩
        refine Reg.tG ?_
        go_wp2
        have hI9 := Aside0.mk (lit_I w8 x (by have := hx'.out; omega))
        have hS9 := Aside0.mk (On.alloc (On.refl w8) (.cells #[.int .i64 x] 3 (0, 0)))
        have hT9 := Aside0.mk (hT8.out.on hS9.out)
        have hlt9 := Aside0.mk (blk_lt (blk_below hb8.out hS9.out))
        refine ⟨blk_below hb8.out hS9.out, ?_⟩
        refine Reg.tG ?_
        obtain ⟨us, hus⟩ : ∃ us, vs ++ [x] = us := ⟨_, rfl⟩
        refine apI 27 hus (OI.to hT9.out.r1) hI9.out.2.1 (by have := hlt9.out; have := hq1.out; omega) (by have := hll'.out; have := hlk'.out; have := hlt'.out; have := hm'.out; simp; omega) fun v10 w10 hO10 hg10 hat10 => ?_
        have hO10' := Aside0.mk (OI.of hO10)
        have hT10 := Aside0.mk (hT9.out.app1 hlt9.out (OI.of hO10) hg10 (hat10.imp id fun ⟨b, e, h⟩ => ⟨b, e, h⟩))
        have hS10 := Aside0.mk (Ex.of_grown hg10)
        have hb10 := Aside0.mk (blk_ex hS10.out (blk_below hb8.out hS9.out) (fun e => hT9.out.n1 _ e.symm rfl))
        have hbr10 := Aside0.mk (blk_ex hS10.out (blk_below hbr8.out hS9.out) (fun e => by have := own_base hT9.out.r1 _ e.symm; omega))
        have hul := Aside0.mk (show us.length = vs.length + 1 by rw [← hus]; simp)
        have hui := Aside0.mk (show InR us by rw [← hus]; intro z hz; exact (List.mem_append.1 hz).elim (hi1'.out z) (fun h => by rw [List.mem_singleton.1 h]; have := hx'.out; omega))
        clear hO10 hg10 hat10 hus
        obtain ⟨A10, c10, rfl⟩ := own_slice hO10'.out
        refine ⟨hb10.out, ?_⟩
        have hd6 := blk_cell hb10.out
        have hf6 := blk_frozen hb10.out
        simp only [Act.put, List.setIfInBounds_toArray, List.set_cons_zero, List.set_cons_succ]
        refine Reg.tG ?_
        go_wp2
        refine ⟨hb10.out, ?_⟩
        refine Reg.tE ?_
        go_wp2
        have EY := Ex.set w10 ⟨g5, 1, none⟩ (.slice A10 us.length c10)
        have hq2 := hq1.out
        refine ⟨⟨k + 1, ms, us, A6, c6, A10, c10, by rw [hwk.out], by have := hlt'.out; omega, blk_set hb10.out 1 _, blk_ex EY hbr10.out (fun e => by have e' : w.heap.size = g5 := e; omega), hT10.out.ex EY (fun b hb => .inr hb), hmi.out, hui.out, by have := hml.out; have := hul.out; have := hll'.out; omega, by have := hml.out; have := hlk'.out; omega,
          ((hC8'.out.next hS9.out).ex hS10.out (fun b hb => by have := own_base hT9.out.r1 b hb.symm; omega)).ex EY (fun b hb => by have e' : b = g5 := hb; omega),
          ((hE8'.out.then_on hS9.out).trans hS10.out (fun i hi h => by have := own_base hT9.out.r1 i h.symm; omega)).trans EY (fun i hi h => by have e' : i = g5 := h; omega)⟩, ?_⟩
        rw [hwk.out]
        have := hlt'.out
        simp [intOf]
        omega
    · have hcb : decide ((k : Int) < (m : Int)) = false := decide_eq_false (by omega)
      have hcn : decide (k < m) = false := decide_eq_false hlt
      have hlm := Aside0.mk (show ns.length ≤ m by have := hlk'.out; have := hk'.out; omega)
      clear hlt
      by_cases hv : 0 < vs.length
      · have hv' := Aside0.mk hv
        have hvb : decide ((0 : Int) < (vs.length : Int)) = true := decide_eq_true (by omega)
        have hvn : decide (0 < vs.length) = true := decide_eq_true hv
        clear hv
        have hd0 := blk_cell hb5'.out
        go_wp2_with (go_at_call 39; refine Stop.out ?_)
        refine ⟨(l1Once_calls w0 _ q hC1.out 14 (by omega) (by omega)).mono ?_⟩
        rintro e w2 ⟨v, rfl, ⟨b, rfl⟩, hC2, hE2⟩
        have hC2' := Aside0.mk hC2
        have hE2' := Aside0.mk (hE1.out.trans hE2 fun _ _ h => h)
        have hb2 := Aside0.mk (blk_ex hE2 hb5'.out (by have := hqw.out; have := hg.out; omega))
        have hr2 := Aside0.mk (blk_ex hE2 hbr'.out (by have := hqw.out; omega))
        have hT2 := Aside0.mk (hT'.out.ex hE2 fun b hb => .inl (by have := hqw.out; omega))
        clear hC2 hE2 hd0
        have hd0 := blk_cell hb2.out
        cases b with
        | false =>
          have hd1 := blk_cell hr2.out
          have hf1 := blk_frozen hr2.out
          go_wp2
          refine bodyPost_ret (retSu rfl rfl (g := w.heap.size) (blk_set (blk_set hr2.out 0 _) 1 _) rfl) rfl ?_
          exact sub_end hqw.out hq0.out hT2.out.r0 hT2.out.r1 hi0'.out hi1'.out hlm.out hll'.out hC2'.out hE2'.out
        | true =>
          obtain ⟨y0, ys, rfl⟩ : ∃ y0 ys, vs = y0 :: ys := by
            cases vs with
            | nil => have := hv'.out; simp at this
            | cons a b => exact ⟨a, b, rfl⟩
          obtain ⟨gr, rfl, hgr1, hgr2, -⟩ := OI.set0 hT2.out.r1
          have hgr := Aside0.mk (show w.heap.size + 1 ≤ gr ∧ gr ≠ g5 from ⟨hgr1, hT2.out.n1 gr rfl⟩)
          clear hgr1 hgr2
          go_wp2
          refine Reg.regionG (fun w' => w'.heap[g5]? = some (.cells #[.slice A0 ns.length d0, .slice (some ⟨gr, 0, none⟩) (y0 :: ys).length d1] 32 (0, 0))) [0,1,2] [3,4,5,6] 6 (by kernel_rfl) (by kernel_rfl) hb2.out ?_
          repeat refine Reg.sG ?_
          refine Reg.startG ?_
          obtain ⟨w4, hw4⟩ : ∃ w4, ({ w2 with drawn := w2.drawn + 1 } : World) = w4 := ⟨_, rfl⟩
          have hS4 := Aside0.mk (show On w2 w4 from (hw4 ▸ on_draw w2))
          rw [hw4]
          clear hw4 hd0
          refine Reg.tG ?_
          go_wp2
          have hlt := Aside0.mk (show OI (w4.alloc (.cells #[.int .i64 10, .int .i64 (-41)] 3 (0, 0))) w4.heap.size (.slice (some ⟨w4.heap.size, 0, none⟩) 2 2) [10, -41] from lit_own w4 #[.int .i64 10, .int .i64 (-41)] 3 1 2 w4.heap.size (Nat.le_refl _) (by omega) rfl)
          have hS5 := Aside0.mk (hS4.out.trans (On.alloc (On.refl w4) (.cells #[.int .i64 10, .int .i64 (-41)] 3 (0, 0))))
          have hqs := Aside0.mk (show q < w4.heap.size from (hC2'.out.next hS4.out).lt)
          refine ⟨blk_below hb2.out hS5.out, ?_⟩
          refine Reg.tG ?_
          go_wp2_with (go_at_call 68; refine Stop.out ?_)
          refine ⟨(l1PickInt_calls w0 _ q (hC2'.out.next hS5.out) (some ⟨w4.heap.size, 0, none⟩) 2 [10, -41] (fun w' k => (OI.same (own_ex hlt.out k (fun i hi e => by have := own_base hlt.out i hi; have := hqs.out; omega)) (fun z hz => by simp at hz; omega)).2) (by simp) (by simp)).mono ?_⟩
          rintro e w6 ⟨v, rfl, ⟨x, rfl, hx⟩, hC6, hE6⟩
          have hx' := Aside0.mk (show -41 ≤ x ∧ x ≤ 10 by simp at hx; omega)
          have hC6' := Aside0.mk hC6
          have hE6' := Aside0.mk ((Ex.of_on (S := fun b => b = q) hS5.out).trans hE6 fun _ _ h => h)
          have hg6 := Aside0.mk (blk_ex hE6'.out hb2.out (by have := hqw.out; have := hg.out; omega))
          have hr6 := Aside0.mk (blk_ex hE6'.out hr2.out (by have := hqw.out; omega))
          have hT6 := Aside0.mk (hT2.out.ex hE6'.out fun b hb => .inl (by have := hqw.out; omega))
          clear hC6 hE6 hx
          obtain ⟨gr', hgr', -, -, ⟨z, hz⟩, hfz, hset⟩ := OI.set0 hT6.out.r1
          obtain rfl : gr = gr' := by injection hgr' with e; injection e
          clear hgr'
          have hset' := Aside0.mk (hset x)
          clear hset
          go_wp2
          refine ⟨hg6.out, ?_⟩
          refine Reg.tG ?_
          go_wp2
          refine ⟨hg6.out, ?_⟩
          refine Reg.tE ?_
          have hx6 := Aside0.mk (show (w6.setCell ⟨gr, 0, none⟩ (.int .i64 x)).heap[w.heap.size]? = _ from blk_far hr6.out (by show ¬ _; simp; have := hgr.out; omega) _)
          have hy6 := Aside0.mk (show (w6.setCell ⟨gr, 0, none⟩ (.int .i64 x)).heap[g5]? = _ from blk_far hg6.out (by show ¬ _; simp; have := hgr.out; omega) _)
          have hd0 := blk_cell hy6.out
          have hd1 := blk_cell hx6.out
          have hf1 := blk_frozen hx6.out
          go_wp2
          refine bodyPost_ret (retSu rfl rfl (g := w.heap.size) (blk_set (blk_set hx6.out 0 _) 1 _) rfl) rfl ?_
          have EX := Ex.set w6 ⟨gr, 0, none⟩ (.int .i64 x)
          have hb1 := hgr.out
          have hb3 := hqw.out
          have hb4 := hq0.out
          exact sub_end (vs := x :: ys) hqw.out hq0.out (own_ex hT6.out.r0 EX (fun i hi e => by have e' : i = gr := e; exact hT6.out.ap i hi (by rw [e']; rfl))) hset'.out hi0'.out (fun z hz => (List.mem_cons.1 hz).elim (fun e => by have := hx'.out; omega) (fun h => hi1'.out z (List.mem_cons_of_mem _ h))) hlm.out (by have := hll'.out; simp at this ⊢; omega) (hC6'.out.ex EX (fun b hb => by have e' : b = gr := hb; omega)) ((hE2'.out.trans hE6'.out fun _ _ h => h).trans EX (fun i hi h => by have e' : i = gr := h; omega))
      · have hvb : decide ((0 : Int) < (vs.length : Int)) = false := decide_eq_false (by omega)
        have hvn : decide (0 < vs.length) = false := decide_eq_false hv
        clear hv
        have hd0 := blk_cell hb5'.out
        have hd1 := blk_cell hbr'.out
        have hf1 := blk_frozen hbr'.out
        go_wp2
        refine bodyPost_ret (retSu rfl rfl (g := w.heap.size) (blk_set (blk_set hbr'.out 0 _) 1 _) rfl) rfl ?_
        exact sub_end hqw.out hq0.out hT'.out.r0 hT'.out.r1 hi0'.out hi1'.out hlm.out hll'.out hC1.out hE1.out
end Go.Proofs.YtgemaohdlibboaaGreat.H
/- Facts sorted, then the repeated ones taken out: the facts in order, each once. Plain. No condition. -/
namespace Go.Proofs.YtgemaohdlibboaaGreat.H
open Go Go.RowKit Go.Proofs.YtgemaohdlibboaaGreatW.PrintWords Go.Proofs.YtgemaohdlibboaaGreatW.PrintLast
set_option linter.unusedVariables false
set_option linter.unusedSimpArgs false

instance : DecidableEq Fct := inferInstance
end Go.Proofs.YtgemaohdlibboaaGreat.H
/- Walks: the reference applies a substitution to an instance. No condition. -/
namespace Go.Proofs.YtgemaohdlibboaaGreat.H
open Go Go.RowKit Go.Proofs.YtgemaohdlibboaaGreatW.PrintWords Go.Proofs.YtgemaohdlibboaaGreatW.PrintLast
open Go.Proofs.YtgemaohdlibboaaGreat.Reg (On on_draw)
set_option maxHeartbeats 4000000
set_option maxRecDepth 100000
set_option linter.unusedVariables false
set_option linter.unusedSimpArgs false

def appOk (rs : List Rel) (fs : List Fct) (ns vs : List Int) : Bool := okSub ns vs && okInst rs fs
def appR (rs : List Rel) (fs : List Fct) (ns vs : List Int) : List Rel := if appOk rs fs ns vs then rs else []
def appI (rs : List Rel) (fs : List Fct) (ns vs : List Int) : List Fct := if appOk rs fs ns vs then setF (fs.map (appF ns vs)) else []
theorem setF_len (l : List Fct) : (setF l).length ≤ l.length := by
  have : ∀ (l out : List Fct), (l.foldl putF out).length ≤ out.length + l.length := by
    intro l
    induction l with
    | nil => intro out; simp
    | cons f l ih =>
      intro out
      rw [List.foldl_cons]
      have h1 := ih (putF out f)
      have h2 : (putF out f).length ≤ out.length + 1 := by
        clear h1 ih
        induction out with
        | nil => simp [putF]
        | cons y r ih => unfold putF; split <;> (try split) <;> simp <;> omega
      simp; omega
  simpa [setF] using this l []
theorem sApplyToInstance_calls (w : World) (A0 c0 A1 c1) (ns vs : List Int) (h0 : Ints w A0 c0 ns) (h1 : Ints w A1 c1 vs) (A2 c2 A3 c3) (rs : List Rel) (fs : List Fct) (h2 : Rels w A2 c2 rs) (h3 : Fcts w A3 c3 fs) :
    Calls Tryz.prog 14 #[.agg #[.slice A0 ns.length c0, .slice A1 vs.length c1], .agg #[.slice A2 rs.length c2, .slice A3 fs.length c3]] w (Got fun v w' => ∃ v1, v = .tuple #[v1, .bool (appOk rs fs ns vs)] ∧ OIn w' w.heap.size v1 (appR rs fs ns vs) (appI rs fs ns vs) ∧ On w w') := by
  have hb := Aside0.mk (On.alloc (On.alloc (On.alloc (On.refl w) (.cells #[.slice A0 ns.length c0, .slice A1 vs.length c1] 32)) (.cells #[.slice A2 rs.length c2, .slice A3 fs.length c3] 27)) (.cells #[.slice none 0 0, .slice none 0 0] 27))
  have hL := Aside0.mk (loc3 w #[.slice A0 ns.length c0, .slice A1 vs.length c1] #[.slice A2 rs.length c2, .slice A3 fs.length c3] #[.slice none 0 0, .slice none 0 0] 32 27 27)
  cases hs : okSub ns vs with
  | false =>
    have hno := Aside0.mk (show appOk rs fs ns vs = false by unfold appOk; rw [hs]; rfl)
    have hs' := Aside0.mk hs
    clear hs
    go_enter Tryz.func14, Tryz.ntmps14
    go_wp2_with (go_at_call 32; refine (sIsValidSub_calls _ A0 c0 A1 c1 ns vs (h0.on hb.out) (h1.on hb.out)).mono ?_; rintro e w1 ⟨rfl, hb1⟩; rw [hs'.out]; have hBx := Aside0.mk (hb.out.trans hb1); have hRx := Aside0.mk (Loc.on hb1 hL.out).2.2.1; have hcr : ∀ i, w1.cell? ⟨w.heap.size + 1 + 1, i, none⟩ = _ := blk_cell hRx.out; have hfr : ∀ i, w1.frozen? ⟨w.heap.size + 1 + 1, i, none⟩ = _ := blk_frozen hRx.out)
    go_wp2
    refine bodyPost_ret (retIB rfl rfl (g := w.heap.size + 2) (blk_set (blk_set hRx.out 0 _) 1 _) rfl) rfl ?_
    have hlt := blk_lt hRx.out
    refine ⟨_, rfl, _, by rw [hno.out]; rfl, ?_, Reg.On.set (Reg.On.set hBx.out (by simp; omega) _) (by simp; omega) _⟩
    have e1 : appR rs fs ns vs = [] := by unfold appR; rw [hno.out]; rfl
    have e2 : appI rs fs ns vs = [] := by unfold appI; rw [hno.out]; rfl
    rw [e1, e2]
    exact ⟨_, _, [], rfl, World.ownsRow_nil _ _ _ _, World.ownsRow_nil _ _ _ _, Sep.nil _ _⟩
  | true =>
    have hs' := Aside0.mk hs
    cases ho : okInst rs fs with
    | false =>
      have hno := Aside0.mk (show appOk rs fs ns vs = false by unfold appOk; rw [hs, ho]; rfl)
      have ho' := Aside0.mk ho
      clear hs ho
      go_enter Tryz.func14, Tryz.ntmps14
      go_wp2_with (first
        | (go_at_call 31; refine (IsValidInstance_calls _ A2 c2 A3 c3 rs fs (h2.on (hb.out.trans hb1)) (h3.on (hb.out.trans hb1))).mono ?_; rintro e w2 ⟨rfl, hb2⟩; rw [ho'.out]; have hBx := Aside0.mk ((hb.out.trans hb1).trans hb2); have hRx := Aside0.mk (Loc.on (hb1.trans hb2) hL.out).2.2.1; have hcr : ∀ i, w2.cell? ⟨w.heap.size + 1 + 1, i, none⟩ = _ := blk_cell hRx.out; have hfr : ∀ i, w2.frozen? ⟨w.heap.size + 1 + 1, i, none⟩ = _ := blk_frozen hRx.out)
        | (go_at_call 32; refine (sIsValidSub_calls _ A0 c0 A1 c1 ns vs (h0.on hb.out) (h1.on hb.out)).mono ?_; rintro e w1 ⟨rfl, hb1⟩; rw [hs'.out]; have hd0 := blk_cell (Loc.on hb1 hL.out).2.1))
      go_wp2
      refine bodyPost_ret (retIB rfl rfl (g := w.heap.size + 2) (blk_set (blk_set hRx.out 0 _) 1 _) rfl) rfl ?_
      have hlt := blk_lt hRx.out
      refine ⟨_, rfl, _, by rw [hno.out]; rfl, ?_, Reg.On.set (Reg.On.set hBx.out (by simp; omega) _) (by simp; omega) _⟩
      have e1 : appR rs fs ns vs = [] := by unfold appR; rw [hno.out]; rfl
      have e2 : appI rs fs ns vs = [] := by unfold appI; rw [hno.out]; rfl
      rw [e1, e2]
      exact ⟨_, _, [], rfl, World.ownsRow_nil _ _ _ _, World.ownsRow_nil _ _ _ _, Sep.nil _ _⟩
    | true =>
      have hyes := Aside0.mk (show appOk rs fs ns vs = true by unfold appOk; rw [hs, ho]; rfl)
      have ho' := Aside0.mk ho
      have hle := Aside0.mk (okInst_len ho)
      have hle3 := Aside0.mk (fun f hf => okFact_len (okInst_mem ho f hf))
      have hmx := h3.max
      clear hs ho
      go_enter Tryz.func14, Tryz.ntmps14
      go_wp2_with (first
        | (go_at_call 31; refine (IsValidInstance_calls _ A2 c2 A3 c3 rs fs (h2.on (hb.out.trans hb1)) (h3.on (hb.out.trans hb1))).mono ?_; rintro e w2 ⟨rfl, hb2⟩; rw [ho'.out]; have hB2 := Aside0.mk ((hb.out.trans hb1).trans hb2); have hL2 := Aside0.mk (Loc.on (hb1.trans hb2) hL.out); have hd1 := blk_cell (blk_below hL2.out.2.1 (On.alloc (On.refl w2) (.cells #[] 72))))
        | (go_at_call 32; refine (sIsValidSub_calls _ A0 c0 A1 c1 ns vs (h0.on hb.out) (h1.on hb.out)).mono ?_; rintro e w1 ⟨rfl, hb1⟩; rw [hs'.out]; have hd0 := blk_cell (Loc.on hb1 hL.out).2.1)
        | (refine gate 20 ?_))
      clear hd0 hd1 hb1 hb2
      refine ⟨apRf 20 (List.nil_append _) (lit_own w2 #[] 72 3 0 w2.heap.size (Nat.le_refl _) (by omega) rfl) rfl (h2.on (hB2.out.trans (On.alloc (On.refl _) _))) (by simp) (by have := hle.out; omega) fun v3 w3 hO3 hb3 => ?_⟩
      obtain ⟨B0, d0, rfl⟩ := own_slice hO3
      have hO3' := Aside0.mk hO3
      have hB3 := Aside0.mk ((On.alloc (On.refl w2) (.cells #[] 72)).trans hb3)
      have hfill := alloc_fill w3
      clear hO3 hb3
      go_wp2
      clear hfill
      obtain ⟨q, hq⟩ : ∃ q, w3.heap.size = q := ⟨_, rfl⟩
      have hqY := Aside0.mk (show (w3.alloc (.cells #[.slice B0 rs.length d0, .slice none 0 0] 27)).heap[q]? = some (.cells #[.slice B0 rs.length d0, .slice none 0 0] 27 (0, 0)) from by rw [← hq]; exact loc_new w3 #[.slice B0 rs.length d0, .slice none 0 0] 27)
      have hB4 := Aside0.mk (hB3.out.trans (On.alloc (On.refl w3) (.cells #[.slice B0 rs.length d0, .slice none 0 0] 27)))
      have hq2 := Aside0.mk (show w2.heap.size ≤ q from by rw [← hq]; exact hB3.out.size)
      have hO4 := pw_own_below hO3'.out (On.alloc (On.refl w3) (.cells #[.slice B0 rs.length d0, .slice none 0 0] 27))
      have hlo : ∀ i, Value.ownBlock (.slice B0 rs.length d0) = some i → i < q := fun i hi => by rw [← hq]; exact own_lt hO3'.out i hi
      obtain ⟨w4, hw4⟩ : ∃ w4, w3.alloc (.cells #[.slice B0 rs.length d0, .slice none 0 0] 27) = w4 := ⟨_, rfl⟩
      rw [hw4] at hqY hB4 hO4 ⊢
      try rw [hq]
      clear hw4 hq
      have hR4 := Aside0.mk (show RS (fun b => b = q) w4 (.agg #[.slice B0 rs.length d0, .slice none ([] : List Fct).length 0]) rs [] from ⟨B0, d0, none, 0, [], rfl, fun w' k => by
        have h5 := own_ex hO4 k (fun i hi e => by have := hlo i hi; omega)
        obtain ⟨A', c', e, h6⟩ := OR.rd h5
        injection e with e1 e2 e3
        subst e1 e3
        exact ⟨h6, ⟨Nat.le_refl _, by simp, fun j u hu => by simp at hu⟩, Reads.nil _⟩⟩)
      clear hO4 hlo
      go_loopw [7] (fun v7 wr => ∃ (i : Nat) (C0 : Option Addr) (e0 : Nat) (C1 : Option Addr) (e1 : Nat) (cur : List Fct), v7 = .int .i64 i ∧ i ≤ fs.length ∧ Aside0 (cur = ((fs.map (appF ns vs)).take i).foldl putF []) ∧ Aside0 (RS (fun b => b = q) wr (.agg #[.slice C0 rs.length e0, .slice C1 cur.length e1]) rs cur) ∧ Aside0 (On w2 wr) ∧ wr.heap[q]? = some (.cells #[.slice C0 rs.length e0, .slice C1 cur.length e1] 27 (0, 0))) (fun v7 _ => fs.length - (intOf v7).toNat)
      case atStart => exact ⟨0, B0, d0, none, 0, [], rfl, Nat.zero_le _, ⟨rfl⟩, hR4, hB4, hqY.out⟩
      case round =>
        obtain ⟨i, C0, e0, C1, e1, cur, rfl, hi, hcur, hR, hB, hY⟩ := hrel
        have hBw := Aside0.mk (hB2.out.trans hB.out)
        have hLr := Aside0.mk (Loc.on hB.out hL2.out)
        have hY' := Aside0.mk hY
        have hyc := blk_cell hY
        have hyf := blk_frozen hY
        have hd0 := blk_cell hLr.out.1
        have hd1 := blk_cell hLr.out.2.1
        have hspec := Aside0.mk (show Asc cur ∧ ∀ x, x ∈ cur → x ∈ fs.map (appF ns vs) by
          have h := foldl_putF ((fs.map (appF ns vs)).take i) [] List.Pairwise.nil
          rw [hcur.out]
          refine ⟨h.1, fun x hx => ?_⟩
          rcases (h.2 x).1 hx with h | h
          · cases h
          · exact List.mem_of_mem_take h)
        have hcl := Aside0.mk (show cur.length ≤ 30 by
          have h := setF_len ((fs.map (appF ns vs)).take i)
          rw [hcur.out]
          have h2 : (setF ((fs.map (appF ns vs)).take i)).length ≤ 30 := by
            have := hle.out
            rw [List.length_take, List.length_map] at h
            omega
          exact h2)
        clear hY
        by_cases hlt : i < fs.length
        · obtain ⟨ad, A5, c5, rfl, x0, x1, x2⟩ := (h3.on hBw.out).at i hlt
          have x2' := Aside0.mk x2
          have hf3 := Aside0.mk (hle3.out fs[i] (List.getElem_mem hlt))
          clear x2
          go_wp2
          refine Reg.region [(0,.L),(1,.L),(2,.L),(3,.L),(4,.L),(5,.L),(6,.L),(7,.N),(8,.N)] [9] (by kernel_rfl) (by kernel_rfl) ?_
          repeat first | refine sP ?_ | refine sS ?_ | refine sA ?_ | refine sL ?_ | refine sQ ?_ | refine sO ?_
          refine callN Tryz.func36 (fun w5 hS5 => ?_)
          refine (sApplyToFact_calls w5 A0 c0 A1 c1 A5 c5 ns vs fs[i] (h0.on (hBw.out.trans hS5)) (h1.on (hBw.out.trans hS5)) (x2'.out.on hS5) (by have := hf3.out; omega)).mono ?_
          rintro e w6 ⟨v6, rfl, u6, rfl, hO6, hb6⟩
          obtain ⟨F, hF⟩ : ∃ F : Fct, appF ns vs fs[i] = F := ⟨_, rfl⟩
          have hF1 : fs[i].1 = F.1 := by rw [← hF]; rfl
          have hF2 : fs[i].2.map (appV ns vs) = F.2 := by rw [← hF]; rfl
          have hFl : F.2.length = fs[i].2.length := by rw [← hF2, List.length_map]
          rw [hF2] at hO6
          have hFR : InR F.2 := by
            rw [← hF2]
            intro x hx
            obtain ⟨y, hy, rfl⟩ := List.mem_map.1 hx
            exact appV_bd (x2'.out.2.2 y hy)
          obtain ⟨A6, c6, rfl, hI6⟩ := OI.rd hO6 hFR
          refine ⟨.agg #[.int .i64 F.1, .slice A6 F.2.length c6], by rw [hF1], hb6, fun a' ha => ?_⟩
          simp only [Act.put, List.setIfInBounds_toArray, List.set_cons_zero, List.set_cons_succ] at ha
          subst ha
          refine callN Tryz.func37 (fun w7 hS7 => ?_)
          have hB7 := hS5.trans (hb6.trans hS7)
          obtain ⟨D0, g0, D1, g1, hh, eR, hAR⟩ := (hR.out.on hB7).out
          injection eR with eR
          have eR1 := congrArg (fun x => x.toList) eR
          simp only [List.cons.injEq, Value.slice.injEq] at eR1
          obtain ⟨⟨p1, p2, p3⟩, ⟨p4, p5, p6⟩, _⟩ := eR1
          subst p1 p3 p4 p6
          have hq7 := blk_lt (blk_below hY'.out hB7)
          refine (l5PutS_calls (fun b => b = q) w7 C0 e0 C1 e1 hh rs cur hAR (fun b hb => by rw [hb]; exact hq7) A6 c6 F (hI6.on hS7) (by have := hcl.out; omega) (by have := hf3.out; omega) hspec.out.1).mono ?_
          rintro e w8 ⟨v8, rfl, hR8, hb8⟩
          have hR8' := Aside0.mk hR8
          obtain ⟨G0, k0, G1, k1, hh8, rfl, hAR8⟩ := hR8.out
          refine ⟨_, rfl, hb8, fun a' ha => ?_⟩
          simp only [Act.put, List.setIfInBounds_toArray, List.set_cons_zero, List.set_cons_succ] at ha
          subst ha
          refine Reg.tail_ fun w9 hS9 => ?_
          have hB9 := Aside0.mk (hB7.trans (hb8.trans hS9))
          have hY9 := Aside0.mk (blk_below hY'.out hB9.out)
          have hyc9 := blk_cell hY9.out
          have hyf9 := blk_frozen hY9.out
          have hF' := Aside0.mk hF
          have hS9' := Aside0.mk hS9
          clear eR p2 p5 hAR hAR8 hR8 hyc hyf hd0 hd1 x0 x1 hO6 hI6 hF hF1 hF2 hS9
          go_wp2
          refine ⟨⟨i + 1, G0, k0, G1, k1, putF cur F, by go_num, by omega, ⟨?_⟩, ⟨(hR8'.out.on hS9'.out).ex ((Ex.set w9 ⟨q, 0, none⟩ _).trans (Ex.set _ ⟨q, 1, none⟩ _) (fun i _ h => h))⟩, ⟨Reg.On.set (Reg.On.set (hB.out.trans hB9.out) hq2.out _) hq2.out _⟩, blk_set (blk_set hY9.out 0 _) 1 _⟩, by simp [intOf]; omega⟩
          rw [List.take_succ_eq_append_getElem (by rw [List.length_map]; exact hlt), List.foldl_append, ← hcur.out, List.getElem_map, hF'.out]
          rfl
        · have hend := Aside0.mk (show appI rs fs ns vs = cur by
            unfold appI
            rw [hyes.out, if_pos rfl, hcur.out, List.take_of_length_le (by rw [List.length_map]; omega)]
            rfl)
          obtain ⟨D0, g0, D1, g1, hh, eR, hAR⟩ := hR.out.out
          injection eR with eR
          have eR1 := congrArg (fun x => x.toList) eR
          simp only [List.cons.injEq, Value.slice.injEq] at eR1
          obtain ⟨⟨p1, p2, p3⟩, ⟨p4, p5, p6⟩, _⟩ := eR1
          subst p1 p3 p4 p6
          obtain ⟨r0, r1, r2⟩ := hAR wr (Ex.refl _ _)
          clear eR p2 p5
          go_wp2_with (refine gate 39 ?_)
          refine ⟨goesF 39 Tryz.func38 ((l5Copy_calls wr C0 e0 C1 e1 rs cur r0 (r1.fcts r2) (by have := hle.out; omega) (by have := hcl.out; omega) (fun f hf => ?_)).mono ?_)⟩
          · obtain ⟨f0, hf0, rfl⟩ := List.mem_map.1 (hspec.out.2 f hf)
            have := hle3.out f0 hf0
            show (f0.2.map (appV ns vs)).length ≤ _
            rw [List.length_map]; omega
          rintro e w5 ⟨v5, rfl, hI5, hb5⟩
          refine ⟨_, rfl, ?_⟩
          obtain ⟨a1, a2, a3, a4, a5, a6, rfl⟩ := hI5.read.shape
          have hI5' := Aside0.mk hI5
          have hRx := Aside0.mk (blk_below hLr.out.2.2.1 hb5)
          have hBx := Aside0.mk (hBw.out.trans hb5)
          have hcr : ∀ i, w5.cell? ⟨w.heap.size + 1 + 1, i, none⟩ = _ := blk_cell hRx.out
          have hfr : ∀ i, w5.frozen? ⟨w.heap.size + 1 + 1, i, none⟩ = _ := blk_frozen hRx.out
          clear hI5 r0 r1 r2 hAR hyc hyf hd0 hd1
          go_wp2
          refine bodyPost_ret (retIB rfl rfl (g := w.heap.size + 2) (blk_set (blk_set hRx.out 0 _) 1 _) rfl) rfl ?_
          have hlt1 := blk_lt hLr.out.2.2.1
          have hlt2 := hBw.out.size
          refine ⟨_, rfl, _, by rw [hyes.out]; rfl, ?_, Reg.On.set (Reg.On.set hBx.out (by simp; omega) _) (by simp; omega) _⟩
          have e1 : appR rs fs ns vs = rs := by unfold appR; rw [hyes.out]; rfl
          rw [e1, hend.out]
          exact OIn.lower (OIn.set (OIn.set hI5'.out (by simp; omega) _) (by simp; omega) _) hlt2
end Go.Proofs.YtgemaohdlibboaaGreat.H
/- The rule for regions that draw their order where what is read is told by a predicate G, and two operations that make memory may come up at once. No condition. -/
namespace Go.Proofs.YtgemaohdlibboaaGreat.Reg
open Go Go.RowKit
set_option linter.unusedVariables false
variable {P : Program} {ops : Array Oper} {Q : Exit → Act → World → Prop} {md : Region.Mode}
/-- leaf: in line; r: a read, whatever G tells; n: the one operation that may come up; two: two that may come up. -/
inductive Th where
  | leaf (l : List Nat)
  | r (i : Nat) (p : Th)
  | n (i : Nat) (p : Th)
  | two (i j : Nat) (p q : Th)
def Th.len : Th → Nat
  | .leaf l => l.length
  | .r _ p => p.len + 1
  | .n _ p => p.len + 1
  | .two _ _ p _ => p.len + 1
def chkH (md : Region.Mode) (ops : Array Oper) (k : Nat) : Th → Array Bool → Bool
  | .leaf l, listed => chkTail md ops l listed && l.getLast? == some k
  | .r i p, listed => (Region.ready md ops listed).contains i && freeC md ops false listed i && reach md ops k i && !(k == i) && chkH md ops k p (listed.setIfInBounds i true)
  | .n i p, listed => Region.ready md ops listed == [i] && chkH md ops k p (listed.setIfInBounds i true)
  | .two i j p q, listed => Region.ready md ops listed == [i, j] && p.len == q.len && chkH md ops k p (listed.setIfInBounds i true) && chkH md ops k q (listed.setIfInBounds j true)
def wpH (P : Program) (ops : Array Oper) (Q : Exit → Act → World → Prop) (G : World → Prop) : Th → Act → World → Prop
  | .leaf l, a, w => tailG P ops Q G l a w
  | .r i p, a, w => match ops[i]? with
    | none => False
    | some o => if Region.wanted o (yielded ops a.tmps) then ∃ v, (∀ w, G w → (execOp a.eval o).run P w = .ok (.value v) w) ∧ wpH P ops Q G p (a.put o.dst v) w else wpH P ops Q G p (a.put o.dst undef) w
  | .n i p, a, w => wpOp P ops Q i (fun a' w' => G w' ∧ wpH P ops Q G p a' w') a w
  | .two i j p q, a, w => wpOp P ops Q i (fun a' w' => G w' ∧ wpH P ops Q G p a' w') a w ∧ wpOp P ops Q j (fun a' w' => G w' ∧ wpH P ops Q G q a' w') a w
theorem stepT_of_op {G : World → Prop} {j : Nat} {o : Oper} (hi : ops[j]? = some o) {a : Act} {W : World} {X : Act → World → Prop} {T : Act → (World → Prop) → Prop} (h : wpOp P ops Q j (fun a' w' => G w' ∧ X a' w') a W) (hX : ∀ a' w', G w' → X a' w' → T a' (fun w => w = w')) :
    stepT P ops Q (fun _ => true) T j a (fun w => w = W) := by
  unfold stepT
  rw [hi]
  show (if _ then _ else _)
  split
  · refine .inr (.inr ⟨.inr rfl, fun w hS => ?_⟩)
    subst hS
    exact wpOp_mono (fun a' w' (hh : G w' ∧ X a' w') => ⟨fun w => w = w', rfl, fun h0 => (by cases h0), hX _ _ hh.1 hh.2⟩) h
  · rename_i hw
    unfold wpOp at h
    simp only [hi] at h
    rw [if_neg hw] at h
    exact hX _ _ h.1 h.2
theorem wpG_of_H {G : World → Prop} {k : Nat} {ok : Oper} (hok : ops[k]? = some ok) (hs : Region.noSelect ops = true) (hQ : Plain Q) : ∀ (t : Th) (listed : Array Bool) (a : Act) (W : World), k < listed.size → closed md ops listed → chkH md ops k t listed = true → G W → wpH P ops Q G t a W → wpG P md ops Q (fun _ => true) G k t.len listed a (fun w => w = W)
  | .leaf l, listed, a, W, hsz, hclosed, hc, hG, h => by
    simp only [chkH, Bool.and_eq_true, beq_iff_eq] at hc
    obtain ⟨hc, hlast⟩ := hc
    exact wpG_of_tail l listed a _ hsz (fun e => by rw [e] at hlast; cases hlast) (fun hn => by rw [List.getLast?_eq_some_getLast hn] at hlast; exact Option.some.inj hlast) (fun i hi => rfl) hc (fun _ w e => by subst e; exact hG) (fun w e => by subst e; exact h)
  | .r i p, listed, a, W, hsz, hclosed, hc, hG, h => by
    simp only [chkH, Bool.and_eq_true] at hc
    obtain ⟨⟨⟨⟨hr, hf⟩, hki⟩, hne⟩, hl⟩ := hc
    have hne' : k ≠ i := by intro e; subst e; simp at hne
    simp only [wpH] at h
    cases hi : ops[i]? with
    | none => simp only [hi] at h
    | some o =>
      simp only [hi] at h
      have hri : i ∈ Region.ready md ops listed := by simpa using hr
      have ih := fun a h => wpG_of_H hok hs hQ p (listed.setIfInBounds i true) a W (by rw [Array.size_setIfInBounds]; exact hsz) (hclosed.set hri) hl hG h
      have sel := Region.noSelect_spec hs
      by_cases hw : Region.wanted o (yielded ops a.tmps) = true
      · rw [if_pos hw] at h
        obtain ⟨v, h1, h2⟩ := h
        exact wpG_first hne' hok hki hQ hi sel _ listed a _ hclosed (fun j oj hj hne hun hno => (freeC_spec hi hf j oj hj hne hun hno).1) hri (.inl ⟨hw, fun w hS => by simpa using h1 w hS⟩) (ih _ h2)
      · rw [if_neg hw] at h
        exact wpG_first hne' hok hki hQ hi sel _ listed a _ hclosed (fun j oj hj hne hun hno => (freeC_spec hi hf j oj hj hne hun hno).1) hri (.inr ⟨by simpa using hw, rfl⟩) (ih _ h)
  | .n i p, listed, a, W, hsz, hclosed, hc, hG, h => by
    simp only [chkH, Bool.and_eq_true, beq_iff_eq] at hc
    obtain ⟨hr, hl⟩ := hc
    simp only [wpH] at h
    refine ⟨fun _ w e => by subst e; exact hG, fun h0 => (by rw [hr] at h0; cases h0), fun j hj => ?_⟩
    have hj' := hj
    rw [hr] at hj
    obtain rfl := List.mem_singleton.1 hj
    obtain ⟨_, oj, hoj, _⟩ := mem_ready.1 hj'
    exact stepT_of_op hoj h fun a' w' hG' hX => wpG_of_H hok hs hQ p _ a' w' (by rw [Array.size_setIfInBounds]; exact hsz) (hclosed.set hj') hl hG' hX
  | .two i j p q, listed, a, W, hsz, hclosed, hc, hG, h => by
    simp only [chkH, Bool.and_eq_true, beq_iff_eq] at hc
    obtain ⟨⟨⟨hr, hlen⟩, hp⟩, hq⟩ := hc
    simp only [wpH] at h
    obtain ⟨h1, h2⟩ := h
    refine ⟨fun _ w e => by subst e; exact hG, fun h0 => (by rw [hr] at h0; cases h0), fun x hx => ?_⟩
    have hx' := hx
    rw [hr] at hx
    obtain ⟨_, ox, hox, _⟩ := mem_ready.1 hx'
    rcases List.mem_cons.1 hx with rfl | hx
    · exact stepT_of_op hox h1 fun a' w' hG' hX => wpG_of_H hok hs hQ p _ a' w' (by rw [Array.size_setIfInBounds]; exact hsz) (hclosed.set hx') hp hG' hX
    · obtain rfl := List.mem_singleton.1 hx
      exact stepT_of_op hox h2 fun a' w' hG' hX => hlen ▸ wpG_of_H hok hs hQ q _ a' w' (by rw [Array.size_setIfInBounds]; exact hsz) (hclosed.set hx') hq hG' hX
/-- The rule, shut. -/
structure OrdH (P : Program) (ops : Array Oper) (Q : Exit → Act → World → Prop) (G : World → Prop) (t : Th) (a : Act) (w : World) : Prop where mk :: (out : wpH P ops Q G t a w)
/-- What the region comes to is told (M) with the state ahead of it; what follows stands behind it. -/
theorem regionH {id : Nat} {a : Act} {w : World} (G : World → Prop) (t : Th) (k : Nat) (M : Act → Act → World → Prop) (hm : P.follows .mixedOrders = true) (hc : (Region.noSelect ops && (t.len == ops.size) && decide (k < ops.size) && chkH .any ops k t (Array.replicate ops.size false)) = true)
    (hG : G { w with drawn := w.drawn + 1 }) (h : OrdH P ops (fun x a' w => x = .normal ∧ M a a' w) G t a { w with drawn := w.drawn + 1 }) (hk : ∀ a' w', M a a' w' → Q .normal a' w') : (Code.region id ops true).wp P Q a w := by
  simp only [Bool.and_eq_true, beq_iff_eq, decide_eq_true_eq] at hc
  obtain ⟨⟨⟨h1, h2⟩, h3⟩, h5⟩ := hc
  refine Code.wp_mono (Q := fun x a' w => x = .normal ∧ M a a' w) (fun e a w hx => by obtain ⟨rfl, hM⟩ := hx; exact hk _ _ hM) ?_
  refine wp_region_any hm (wpAny_of_wpG (cl := fun _ => true) (G := G) (k := k) _ _ _ (fun w' => w' = { w with drawn := w.drawn + 1 }) _ rfl ?_)
  rw [← h2]
  exact wpG_of_H (Array.getElem?_eq_getElem h3) h1 (fun c a d v w h => by obtain ⟨h, _⟩ := h; cases h) t _ a _ (by rw [h2, Array.size_replicate]; exact h3) (closed.start _) (by rw [h2]; exact h5) hG h.out
section
variable {G : World → Prop} {i j : Nat} {p q : Th} {l : List Nat} {a a' : Act} {w : World} {o o' : Oper} {N : Tmp}
theorem hR {v : Value} (h : OrdH P ops Q G p a' w) (hi : ops[i]? = some o := by rfl) (hN : o.dst = some N := by rfl) (hw : Region.wanted o (yielded ops a.tmps) = true := by rfl)
    (hy : ∀ w, G w → (execOp a.eval o).run P w = .ok (.value v) w := by intro w' hS; (first | (have hA := blk_cell hS; clear hS; go_simp; first | done | rfl) | (clear hS; go_simp; first | done | rfl)))
    (ha : a.put (some N) v = a' := by simp only [Act.put, List.setIfInBounds_toArray, List.set_cons_zero, List.set_cons_succ]; rfl) : OrdH P ops Q G (.r i p) a w := by
  refine ⟨?_⟩
  simp only [wpH, hi]
  rw [if_pos hw]
  exact ⟨v, hy, by rw [hN, ha]; exact h.out⟩
theorem hN (h : wpList P ops (Exit.then (fun a' w' => G w' ∧ OrdH P ops Q G p a' w') Q) [o] a w) (hi : ops[i]? = some o := by rfl) : OrdH P ops Q G (.n i p) a w := by
  refine ⟨?_⟩
  simp only [wpH]
  exact wpOp_mono (fun a' w' hh => ⟨hh.1, hh.2.out⟩) (wpOp_of_one hi h)
theorem hTwo (h : wpList P ops (Exit.then (fun a' w' => G w' ∧ OrdH P ops Q G p a' w') Q) [o] a w) (h' : wpList P ops (Exit.then (fun a' w' => G w' ∧ OrdH P ops Q G q a' w') Q) [o'] a w) (hi : ops[i]? = some o := by rfl) (hj : ops[j]? = some o' := by rfl) : OrdH P ops Q G (.two i j p q) a w := by
  refine ⟨?_⟩
  simp only [wpH]
  exact ⟨wpOp_mono (fun a' w' hh => ⟨hh.1, hh.2.out⟩) (wpOp_of_one hi h), wpOp_mono (fun a' w' hh => ⟨hh.1, hh.2.out⟩) (wpOp_of_one hj h')⟩
theorem hLeaf (h : TailG P ops Q G l a w) : OrdH P ops Q G (.leaf l) a w := ⟨h.out⟩
end
end Go.Proofs.YtgemaohdlibboaaGreat.Reg
/- Walks: the reference's draw of two instances. What is told: sizes and ranges. No condition. -/
namespace Go.Proofs.YtgemaohdlibboaaGreat.H
open Go Go.RowKit Go.Proofs.YtgemaohdlibboaaGreatW.PrintWords Go.Proofs.YtgemaohdlibboaaGreatW.PrintLast
open Go.Proofs.YtgemaohdlibboaaGreat.Reg (On on_draw)
set_option maxHeartbeats 4000000
set_option maxRecDepth 100000
set_option linter.unusedVariables false
set_option linter.unusedSimpArgs false

theorem appI_small {rs : List Rel} {fs : List Fct} (ns vs : List Int) (h1 : fs.length ≤ 4) (h2 : ∀ f ∈ fs, f.2.length ≤ 2) : (appI rs fs ns vs).length ≤ 4 ∧ ∀ f ∈ appI rs fs ns vs, f.2.length ≤ 2 := by
  unfold appI
  split
  · have h3 := setF_len (fs.map (appF ns vs))
    rw [List.length_map] at h3
    refine ⟨by omega, fun f hf => ?_⟩
    have h4 := (setF_spec (fs.map (appF ns vs))).2 f
    obtain ⟨g, hg, rfl⟩ := List.mem_map.1 (h4.1 hf)
    have := h2 g hg
    show (g.2.map (appV ns vs)).length ≤ 2
    rw [List.length_map]; exact this
  · simp
theorem OIn.rsW {S : Nat → Prop} {w : World} {lo : Nat} {v : Value} {rs : List Rel} {fs : List Fct} (h : OIn w lo v rs fs) (hS : ∀ b, S b → b < lo ∨ w.heap.size ≤ b) : RS S w v rs fs := by
  obtain ⟨vr, vf, hs, rfl, h0, h1, h2⟩ := h.out
  obtain ⟨A0, c0, rfl, _⟩ := OR.rd h0
  obtain ⟨A1, c1, rfl⟩ := own_slice h1
  refine ⟨A0, c0, A1, c1, hs, by rw [h2.len], fun w' k => ?_⟩
  have h3 := own_ex h0 k (fun i hi e => by have := own_base h0 i hi; have := own_lt h0 i hi; have := hS i e; omega)
  have h4 := own_ex h1 k (fun i hi e => by have := own_base h1 i hi; have := own_lt h1 i hi; have := hS i e; omega)
  have h5 := h2.ex k (fun i a b ha hb e => by have := h2.lt ha hb; have := hS b e; omega)
  obtain ⟨A', c', e, h6⟩ := OR.rd h3
  injection e with e1 e2 e3
  subst e1 e3
  exact ⟨h6, (OH.rh h4).2, h5.reads⟩
section
variable {fn : Func} {z p u : Tmp} {tmps : Array Value} {w : World} {g g' : Nat} {t t' : TypeId} {cs cs' : Array Value} {fr fr' : Nat × Nat}
theorem retTII (h : fn.results = #[.tmp z, .cell p 27, .cell u 27]) (hp : tmps.getD p undef = .pointer (some ⟨g, 0, none⟩)) (hp' : tmps.getD u undef = .pointer (some ⟨g', 0, none⟩)) (hg : w.heap[g]? = some (.cells cs t fr)) (hg' : w.heap[g']? = some (.cells cs' t' fr')) (hs : cs.size = 2) (hs' : cs'.size = 2) : (results fn tmps).run Tryz.prog w = .ok (.tuple #[tmps.getD z undef, .agg cs, .agg cs']) w :=
  results_list (rs := [.tmp z, .cell p 27, .cell u 27]) h (by simp) (.tmp (.cell g t cs fr _ hp hg Tryz.underlying27 rfl (by rw [hs]; kernel_rfl) (.cell g' t' cs' fr' _ hp' hg' Tryz.underlying27 rfl (by rw [hs']; kernel_rfl) .nil)))
end
/-- What the region that applies a drawn substitution comes to. -/
structure MTwo (w w4 : World) (q : Nat) (A0 : Option Addr) (d0 : Nat) (A1 : Option Addr) (nr d1 nf : Nat) (a a' : Act) (w' : World) : Prop where mk :: (out : ∃ (S0 : Value) (C0 : Option Addr) (m0 x0 : Nat) (C1 : Option Addr) (m1 x1 : Nat) (bk : Bool) (g : Nat), a' = (Act.put (Act.put (Act.put (Act.put (Act.put (Act.put (Act.put (Act.put (Act.put a (some 20) (.pointer (some ⟨q, 0, none⟩))) (some 22) (.agg #[.slice A0 nr d0, .slice A1 nf d1])) (some 21) S0) (some 23) (.tuple #[.agg #[.slice C0 m0 x0, .slice C1 m1 x1], .bool bk])) (some 19) (.tuple #[.agg #[.slice C0 m0 x0, .slice C1 m1 x1], .bool bk])) (some 24) (.agg #[.slice C0 m0 x0, .slice C1 m1 x1])) (some 25) (.bool bk)) (some 8) (.pointer (some ⟨g, 0, none⟩))) (some 9) (.bool bk)) ∧ w4.heap.size ≤ g ∧ w'.heap[g]? = some (.cells #[.slice C0 m0 x0, .slice C1 m1 x1] 27 (0, 0)) ∧ (∃ qs ys, RS (fun b => b < w4.heap.size ∨ b = g) w' (.agg #[.slice C0 m0 x0, .slice C1 m1 x1]) qs ys ∧ ys.length ≤ 4 ∧ ∀ f ∈ ys, f.2.length ≤ 2) ∧ Cu w w' q ∧ Ex (fun b => b = q) w4 w')
/-- What l7Two tells. -/
abbrev TwoI (w : World) (v : Value) (w' : World) : Prop := ∃ q v1 v2 rs fs qs gs, v = .tuple #[.pointer (some ⟨q, 0, none⟩), v1, v2] ∧ RS (fun b => b < w.heap.size ∨ b = q) w' v1 rs fs ∧ RS (fun b => b < w.heap.size ∨ b = q) w' v2 qs gs ∧ rs.length ≤ 5 ∧ fs.length ≤ 200 ∧ (∀ f ∈ fs, f.2.length ≤ 3) ∧ qs.length ≤ 5 ∧ gs.length ≤ 200 ∧ (∀ f ∈ gs, f.2.length ≤ 3) ∧ Cu w w' q ∧ On w w'
theorem l1NewW_calls (w0 w : World) (h0 : On w0 w) (A c) (xs : List Int) (hc : xs.length ≤ c) (hK : kBytes.C w0 A xs.length xs) :
    Calls Tryz.prog 41 #[.slice A xs.length c] w (Got fun v w' => ∃ q, v = .pointer (some ⟨q, 0, none⟩) ∧ w.heap.size ≤ q ∧ Cu w0 w' q ∧ On w w') := by
  have hu := Tryz.underlying88
  have hK0 := Aside0.mk hK
  have h0' := Aside0.mk h0
  have hK' := Aside0.mk (Kd.C_below hK h0)
  have hc' := Aside0.mk hc
  clear hK hc h0
  go_enter Tryz.func41, Tryz.ntmps41
  go_wp2
  go_loopw [3, 4] (fun v3 v4 wr => ∃ (x3 x4 : Int), v3 = .int .i64 x3 ∧ v4 = .int .i64 x4 ∧ 0 ≤ x4 ∧ x4 ≤ 4000 ∧ Aside0 (On w wr)) (fun v3 v4 _ => 4000 - (intOf v4).toNat)
  case atStart => exact ⟨_, 0, rfl, rfl, by omega, by omega, ⟨On.refl _⟩⟩
  case round =>
    obtain ⟨x3, x4, rfl, rfl, p0, p1, hB⟩ := hrel
    by_cases c2 : x4 < (xs.length : Int)
    · by_cases c3 : x4 < 4000
      · obtain ⟨ad, rfl, hx⟩ := Kd.at_int hK'.out x4 p0 c2
        replace hx := pw_cell_below hB.out hx
        have p0' := Aside0.mk p0
        have c3' := Aside0.mk c3
        have c2b := decide_eq_true c2
        have c3b := decide_eq_true c3
        replace p0 := eq_true p0
        replace c2 := eq_true c2
        clear c3 p1
        have hwr : wrap64 (x4 + 1) = x4 + 1 := IntWalk.wrap64_in _ (by have := p0'.out; have := c3'.out; omega)
        go_wp2
        go_roundw
        case rel => exact ⟨_, x4 + 1, rfl, by first | rfl | (rw [hwr]), by have := p0'.out; omega, by have := c3'.out; omega, hB⟩
        case measure => simp [intOf]; have := p0'.out; have := c3'.out; omega
      · have c2b := decide_eq_true c2
        have c3b := decide_eq_false c3
        clear c3 c2 p0 p1
        go_wp2_with ((with_reducible refine gate_dst (N := 31) rfl ?_); refine box_event ?hg (N := 31) ?hd (cs := #[.slice A xs.length c, .int .i64 0, .int .i64 x3]) (t := 88) ?hr ?_; (case hd => rfl); (case hg => rfl); (case hr => first | (go_simp; done) | (go_simp; rfl)); intro gb hg w5 hbox hb; have hbox' := Aside0.mk hbox; have hb' := Aside0.mk hb; have hg' := Aside0.mk hg; clear hbox hb hg)
        go_ret
        exact ⟨_, rfl, gb, rfl, by rw [hg'.out]; exact hB.out.size, ⟨h0'.out.trans (hB.out.trans hb'.out), by rw [hg'.out]; exact Nat.le_trans h0'.out.size hB.out.size, A, c, xs, 0, x3, hbox'.out, by omega, hc'.out, hK0.out⟩, hB.out.trans hb'.out⟩
    · have c2b := decide_eq_false c2
      clear c2 p0 p1
      go_wp2_with ((with_reducible refine gate_dst (N := 31) rfl ?_); refine box_event ?hg (N := 31) ?hd (cs := #[.slice A xs.length c, .int .i64 0, .int .i64 x3]) (t := 88) ?hr ?_; (case hd => rfl); (case hg => rfl); (case hr => first | (go_simp; done) | (go_simp; rfl)); intro gb hg w5 hbox hb; have hbox' := Aside0.mk hbox; have hb' := Aside0.mk hb; have hg' := Aside0.mk hg; clear hbox hb hg)
      go_ret
      exact ⟨_, rfl, gb, rfl, by rw [hg'.out]; exact hB.out.size, ⟨h0'.out.trans (hB.out.trans hb'.out), by rw [hg'.out]; exact Nat.le_trans h0'.out.size hB.out.size, A, c, xs, 0, x3, hbox'.out, by omega, hc'.out, hK0.out⟩, hB.out.trans hb'.out⟩
theorem l7Two_calls (w : World) (A c) (xs : List Int) (hc : xs.length ≤ c) (hK : kBytes.C w A xs.length xs) :
    Calls Tryz.prog 19 #[.slice A xs.length c] w (Got (TwoI w)) := by
  have hK' := Aside0.mk hK
  have hc' := Aside0.mk hc
  have hb0 := Aside0.mk (On.alloc (On.alloc (On.refl w) (.cells #[.slice none 0 0, .slice none 0 0] 27 (0, 0))) (.cells #[.slice none 0 0, .slice none 0 0] 27 (0, 0)))
  have hL := Aside0.mk (loc2 w #[.slice none 0 0, .slice none 0 0] #[.slice none 0 0, .slice none 0 0] 27 27)
  clear hK hc
  go_enter Tryz.func19, Tryz.ntmps19
  go_wp2_with (go_at_call 41; refine Stop.out ?_)
  obtain ⟨wz, hwz⟩ : ∃ wz, (w.alloc (.cells #[.slice none 0 0, .slice none 0 0] 27 (0, 0))).alloc (.cells #[.slice none 0 0, .slice none 0 0] 27 (0, 0)) = wz := ⟨_, rfl⟩
  have hzs := Aside0.mk (show wz.heap.size = w.heap.size + 2 by rw [← hwz]; simp)
  rw [hwz] at hb0 hL ⊢
  clear hwz
  refine ⟨(l1NewW_calls w wz hb0.out A c xs hc'.out hK'.out).mono ?_⟩
  rintro e w1 ⟨v, rfl, q, rfl, hqlo, hC1, hb1⟩
  have hC1' := Aside0.mk hC1
  have hq := Aside0.mk (show q < w1.heap.size ∧ w.heap.size + 2 ≤ q from ⟨hC1.lt, by have := hqlo; have := hzs.out; omega⟩)
  have hi1 := Aside0.mk (blk_below hL.out.1 hb1)
  have hr1 := Aside0.mk (blk_below hL.out.2.1 hb1)
  have hE1 := Aside0.mk (Ex.of_on (S := fun b => b = q) hb1)
  clear hC1 hb1 hqlo
  go_wp2_with (go_at_call 42; refine Stop.out ?_)
  refine ⟨(l5Target_calls _ w1 q hC1'.out 4 (by omega) (by omega) 3 (by omega) (by omega)).mono ?_⟩
  rintro e w2 ⟨v, rfl, ⟨fs0, hO, -, hl, hm⟩, hC2, hE2⟩
  have hfl0 := Aside0.mk (show fs0.length ≤ 4 ∧ ∀ f ∈ fs0, f.2.length ≤ 2 from ⟨by omega, hm⟩)
  have hA2 := Aside0.mk (OIn.rsW (S := fun b => b < w1.heap.size ∨ w2.heap.size ≤ b) hO fun b hb => hb)
  obtain ⟨A0, d0, A1, d1, hs0, rfl, -⟩ := hA2.out.out
  have hC2' := Aside0.mk hC2
  have hE2' := Aside0.mk (hE1.out.trans hE2 fun _ _ h => h)
  have hi2 := Aside0.mk (blk_ex hE2 hi1.out (by have := hq.out; omega))
  have hr2 := Aside0.mk (blk_ex hE2 hr1.out (by have := hq.out; omega))
  have hs2 := Aside0.mk (show w1.heap.size ≤ w2.heap.size from hE2.size)
  clear hO hl hm hC2 hE2 hi1 hr1
  have hfill := alloc_fill w2
  go_wp2_with (go_at_call 42; refine Stop.out ?_)
  refine ⟨?_⟩
  clear hfill
  obtain ⟨wa, hwa⟩ : ∃ wa, w2.alloc (.cells #[.slice A0 sigs.length d0, .slice A1 fs0.length d1] 27 (0, 0)) = wa := ⟨_, rfl⟩
  have hlA := Aside0.mk (show wa.heap[w2.heap.size]? = some (.cells #[.slice A0 sigs.length d0, .slice A1 fs0.length d1] 27 (0, 0)) from hwa ▸ loc_new w2 _ _)
  have hba := Aside0.mk (show On w2 wa from hwa ▸ On.alloc (On.refl _) _)
  rw [hwa]
  clear hwa
  obtain ⟨g6, hg6⟩ : ∃ g6, w2.heap.size = g6 := ⟨_, rfl⟩
  rw [hg6] at hlA hs2 hA2 ⊢
  clear hg6
  refine (l5Target_calls _ wa q (hC2'.out.next hba.out) 6 (by omega) (by omega) 2 (by omega) (by omega)).mono ?_
  rintro e w3 ⟨v, rfl, ⟨gs, hO, ha, hl, hm⟩, hC3, hE3⟩
  obtain ⟨vr, vf, hs, rfl, hIW⟩ := IW.of (g := w3.heap.size) (lo := w1.heap.size) hO (by have := blk_lt hlA.out; have := hs2.out; omega) (.inl (Nat.le_refl _))
  obtain ⟨B0, e0, rfl⟩ := own_slice hIW.r
  obtain ⟨B1, e1, rfl⟩ := own_slice hIW.f
  have hla := Aside0.mk hIW.s.len
  rw [hla.out] at hIW
  have hI3 := Aside0.mk hIW
  have hga := Aside0.mk ha
  have hgl := Aside0.mk (show gs.length ≤ 6 ∧ ∀ f ∈ gs, f.2.length ≤ 2 from ⟨by omega, hm⟩)
  have hC3' := Aside0.mk hC3
  have hE3a := Aside0.mk ((Ex.of_on (S := fun b => b = q) hba.out).trans hE3 fun _ _ h => h)
  have hE3' := Aside0.mk (hE2'.out.trans hE3a.out fun _ _ h => h)
  have hi3 := Aside0.mk (blk_ex hE3a.out hi2.out (by have := hq.out; omega))
  have hr3 := Aside0.mk (blk_ex hE3a.out hr2.out (by have := hq.out; omega))
  have hA3 := Aside0.mk (hA2.out.ex (hE3a.out.mono fun b hb => by have := hq.out; omega))
  have hlA3 := Aside0.mk (blk_ex hE3 hlA.out (by have := hq.out; have := hs2.out; omega))
  rw [hla.out]
  clear hO ha hl hm hC3 hE3 hIW hA2 hlA hi2 hr2
  have hfill := alloc_fill w3
  go_wp2_with (go_at_call 39; refine Stop.out ?_)
  refine ⟨?_⟩
  clear hfill
  obtain ⟨wb, hwb⟩ : ∃ wb, w3.alloc (.cells #[.slice B0 sigs.length e0, .slice B1 gs.length e1] 27 (0, 0)) = wb := ⟨_, rfl⟩
  have hlB := Aside0.mk (show wb.heap[w3.heap.size]? = some (.cells #[.slice B0 sigs.length e0, .slice B1 gs.length e1] 27 (0, 0)) from hwb ▸ loc_new w3 _ _)
  have hbb := Aside0.mk (show On w3 wb from hwb ▸ On.alloc (On.refl _) _)
  rw [hwb]
  clear hwb
  have hgg := Aside0.mk (show w1.heap.size ≤ g6 ∧ g6 < w3.heap.size from ⟨hs2.out, blk_lt hlA3.out⟩)
  obtain ⟨g7, hg7⟩ : ∃ g7, w3.heap.size = g7 := ⟨_, rfl⟩
  rw [hg7] at hlB hgg hI3 ⊢
  clear hg7
  refine (l1Once_calls _ _ q (hC3'.out.next hbb.out) 2 (by omega) (by omega)).mono ?_
  rintro e w4 ⟨v, rfl, ⟨b, rfl⟩, hC4, hE4⟩
  have hC4' := Aside0.mk hC4
  have hE4a := Aside0.mk ((Ex.of_on (S := fun b => b = q) hbb.out).trans hE4 fun _ _ h => h)
  have hE4' := Aside0.mk (hE3'.out.trans hE4a.out fun _ _ h => h)
  have hi4 := Aside0.mk (blk_ex hE4a.out hi3.out (by have := hq.out; omega))
  have hr4 := Aside0.mk (blk_ex hE4a.out hr3.out (by have := hq.out; omega))
  have hA4 := Aside0.mk (hA3.out.ex (hE4a.out.mono fun b hb => by have := hq.out; omega))
  have hgA4 := Aside0.mk (blk_ex hE4a.out hlA3.out (by have := hq.out; have := hgg.out; omega))
  have hgB4 := Aside0.mk (blk_ex hE4 hlB.out (by have := hq.out; have := hgg.out; omega))
  have hI4 := Aside0.mk (hI3.out.ex hE4a.out fun b hb => .inl (by have := hq.out; omega))
  clear hC4 hE4
  cases b with
  | false =>
    have hgA := hgA4
    have hgB := hgB4
    have hrx := hr4
    have hix := hi4
    have hAx := hA4
    have hBx := Aside0.mk (hI4.out.rs (S := fun b => b < w1.heap.size ∨ b = g7) fun b hb => hb)
    have hbl := Aside0.mk (show sigs.length ≤ 5 ∧ gs.length ≤ 200 ∧ ∀ f ∈ gs, f.2.length ≤ 3 from ⟨by show 5 ≤ 5; omega, by have := hgl.out.1; omega, fun f hf => by have := hgl.out.2 f hf; omega⟩)
    have hCx := hC4'
    have hEx := hE4'
    as_aux_lemma =>
      go_wp2_with (go_at_call 39; refine Stop.out ?_)
      refine ⟨?_⟩
      refine (l1Once_calls _ _ q hCx.out 20 (by omega) (by omega)).mono ?_
      rintro e w8 ⟨v, rfl, ⟨bb, rfl⟩, hC8, hE8⟩
      replace hgA := Aside0.mk (blk_ex hE8 hgA.out (by have := hq.out; have := hgg.out; omega))
      replace hgB := Aside0.mk (blk_ex hE8 hgB.out (by have := hq.out; have := hgg.out; omega))
      replace hrx := Aside0.mk (blk_ex hE8 hrx.out (by have := hq.out; have := hzs.out; omega))
      replace hix := Aside0.mk (blk_ex hE8 hix.out (by have := hq.out; have := hzs.out; omega))
      replace hAx := Aside0.mk (hAx.out.ex (hE8.mono fun b hb => by have := hq.out; omega))
      replace hBx := Aside0.mk (hBx.out.ex (hE8.mono fun b hb => by have := hq.out; omega))
      replace hCx := Aside0.mk hC8
      replace hEx := Aside0.mk (hEx.out.trans hE8 fun _ _ h => h)
      clear hC8 hE8
      cases bb with
      | false =>
        go_wp2
        as_aux_lemma =>
          refine Reg.regionG (fun w' => w'.heap[g6]? = some (.cells #[.slice A0 sigs.length d0, .slice A1 fs0.length d1] 27 (0, 0)) ∧ w'.heap[g7]? = some (.cells #[.slice B0 sigs.length e0, .slice B1 gs.length e1] 27 (0, 0))) [0,1,2] [3,4,5] 5 (by kernel_rfl) (by kernel_rfl) ⟨hgA.out, hgB.out⟩ ?_
          refine Reg.sG ?_
          refine Reg.sG (hy := by intro w' hS; have hA := blk_cell hS.1; clear hS; (go_simp; first | done | rfl)) ?_
          refine Reg.sG (hy := by intro w' hS; have hA := blk_cell hS.2; clear hS; (go_simp; first | done | rfl)) ?_
          refine Reg.startG ?_
          have hry0 := hrx.out
          have hiy0 := hix.out
          obtain ⟨wy, hwy⟩ : ∃ wy, ({ w8 with drawn := w8.drawn + 1 } : World) = wy := ⟨_, rfl⟩
          have hSy' := Aside0.mk (show On w8 wy from (hwy ▸ on_draw w8))
          rw [hwy]
          clear hwy hry0 hiy0
          have hry := Aside0.mk (blk_below hrx.out hSy'.out)
          have hiy := Aside0.mk (blk_below hix.out hSy'.out)
          have hgAy := Aside0.mk (blk_below hgA.out hSy'.out)
          have hgBy := Aside0.mk (blk_below hgB.out hSy'.out)
          refine Reg.tG ?_
          go_wp2
          refine ⟨⟨hgAy.out, hgBy.out⟩, ?_⟩
          refine Reg.tG ?_
          have hcr := blk_cell hiy.out
          have hfr := blk_frozen hiy.out
          obtain ⟨X, hX⟩ : ∃ X, (wy.setCell ⟨w.heap.size, 0, none⟩ (.slice A0 sigs.length d0)).setCell ⟨w.heap.size, 1, none⟩ (.slice A1 fs0.length d1) = X := ⟨_, rfl⟩
          have EX := Aside0.mk (show Ex (fun b => b = w.heap.size) wy X from hX ▸ (Ex.set wy ⟨w.heap.size, 0, none⟩ (.slice A0 sigs.length d0)).trans (Ex.set _ ⟨w.heap.size, 1, none⟩ (.slice A1 fs0.length d1)) (fun _ _ h => h))
          have hiX := Aside0.mk (show X.heap[w.heap.size]? = some (.cells #[.slice A0 sigs.length d0, .slice A1 fs0.length d1] 27 (0, 0)) from hX ▸ blk_set (blk_set hiy.out 0 _) 1 _)
          have hrX := Aside0.mk (blk_ex EX.out hry.out (by omega))
          have hqs := hq.out
          have hqt := hgg.out
          have hgAX := Aside0.mk (blk_ex EX.out hgAy.out (by omega))
          have hgBX := Aside0.mk (blk_ex EX.out hgBy.out (by omega))
          have hX' := Aside0.mk hX
          clear hX hqs hqt
          go_wp2
          rw [hX'.out]
          refine ⟨⟨hgAX.out, hgBX.out⟩, ?_⟩
          refine Reg.tE ?_
          have hcs := blk_cell hrX.out
          have hfs := blk_frozen hrX.out
          clear hcr hfr
          go_wp2
          have EY := (Ex.set X ⟨w.heap.size + 1, 0, none⟩ (.slice B0 sigs.length e0)).trans (Ex.set _ ⟨w.heap.size + 1, 1, none⟩ (.slice B1 gs.length e1)) (fun _ _ h => h)
          refine bodyPost_ret (retTII rfl rfl rfl (g := w.heap.size) (g' := w.heap.size + 1) (blk_ex EY hiX.out (fun e => by have e' : w.heap.size = w.heap.size + 1 := e; omega)) (blk_set (blk_set hrX.out 0 _) 1 _) rfl rfl) rfl ?_
          have EZ := (Ex.of_on (S := fun b => b = w.heap.size ∨ b = w.heap.size + 1) hSy'.out).trans ((EX.out.mono (S' := fun b => b = w.heap.size ∨ b = w.heap.size + 1) fun _ h => .inl h).trans EY (fun i hi h => .inr h)) (fun _ _ h => h)
          have hqs := hq.out
          have hzz := hzs.out
          refine ⟨_, rfl, q, _, _, sigs, fs0, sigs, gs, rfl, (hAx.out.ex (EZ.mono fun b h => by omega)).mono (fun b h => by omega), (hBx.out.ex (EZ.mono fun b h => by omega)).mono (fun b h => by omega), by show 5 ≤ 5; omega, by have := hfl0.out.1; omega, fun f hf => by have := hfl0.out.2 f hf; omega, hbl.out.1, hbl.out.2.1, hbl.out.2.2, hCx.out.ex EZ (fun b hb => by omega), ?_⟩
          exact Ex.on hb0.out ((hEx.out.mono (S' := fun b => b = q ∨ (b = w.heap.size ∨ b = w.heap.size + 1)) fun _ h => .inl h).trans EZ (fun i hi h => .inr h)) (fun i h => by omega)
      | true =>
        go_wp2_with (go_at_call 43; refine Stop.out ?_)
        refine ⟨(l5Any_calls _ w8 q hCx.out).mono ?_⟩
        clear hBx hbl
        rintro e w9 ⟨v, rfl, ⟨qs, zs, hR, hl0, hl, hl2⟩, hC9, hE9⟩
        have hsz := Aside0.mk (show g7 < w8.heap.size ∧ w1.heap.size ≤ w8.heap.size from ⟨blk_lt hgB.out, by have := blk_lt hgB.out; have := hgg.out; omega⟩)
        obtain ⟨F0, y0, F1, y1, hs', rfl, -⟩ := hR.out
        replace hgA := Aside0.mk (blk_ex hE9 hgA.out (by have := hq.out; have := hgg.out; omega))
        replace hgB := Aside0.mk (blk_ex hE9 hgB.out (by have := hq.out; have := hgg.out; omega))
        replace hrx := Aside0.mk (blk_ex hE9 hrx.out (by have := hq.out; have := hzs.out; omega))
        replace hix := Aside0.mk (blk_ex hE9 hix.out (by have := hq.out; have := hzs.out; omega))
        replace hAx := Aside0.mk (hAx.out.ex (hE9.mono fun b hb => by have := hq.out; omega))
        have hBx := Aside0.mk (hR.mono (S' := fun b => b < w1.heap.size ∨ b = g7) fun b hb => by have := hsz.out; omega)
        have hbl := Aside0.mk (And.intro hl0 (And.intro hl hl2))
        replace hCx := Aside0.mk hC9
        replace hEx := Aside0.mk (hEx.out.trans hE9 fun _ _ h => h)
        clear hC9 hE9 hR hl0 hl hl2
        have hcr := blk_cell hgB.out
        have hfr := blk_frozen hgB.out
        go_wp2
        clear hcr hfr
        have EE := (Ex.set w9 ⟨g7, 0, none⟩ (.slice F0 qs.length y0)).trans (Ex.set _ ⟨g7, 1, none⟩ (.slice F1 zs.length y1)) (fun _ _ h => h)
        have hq7 := hq.out
        have hq8 := hgg.out
        have hq9 := hzs.out
        replace hgA := Aside0.mk (blk_ex EE hgA.out (fun e => by have e' : g6 = g7 := e; omega))
        replace hgB := Aside0.mk (blk_set (blk_set hgB.out 0 (.slice F0 qs.length y0)) 1 (.slice F1 zs.length y1))
        replace hrx := Aside0.mk (blk_ex EE hrx.out (fun e => by have e' : w.heap.size + 1 = g7 := e; omega))
        replace hix := Aside0.mk (blk_ex EE hix.out (fun e => by have e' : w.heap.size = g7 := e; omega))
        replace hAx := Aside0.mk (hAx.out.ex (EE.mono fun b hb => .inr (by have e' : b = g7 := hb; omega)))
        replace hBx := Aside0.mk (hBx.out.ex (EE.mono fun b hb => .inr hb))
        replace hCx := Aside0.mk (hCx.out.ex EE (fun b hb => by have e' : b = g7 := hb; omega))
        replace hEx := Aside0.mk (hEx.out.trans EE (fun i hi h => by have e' : i = g7 := h; omega))
        obtain ⟨wx, hwx⟩ : ∃ wx, (w9.setCell ⟨g7, 0, none⟩ (.slice F0 qs.length y0)).setCell ⟨g7, 1, none⟩ (.slice F1 zs.length y1) = wx := ⟨_, rfl⟩
        rw [hwx] at hBx hgB hgA hix hrx hAx hCx hEx ⊢
        clear EE hq7 hq8 hq9 hwx
        as_aux_lemma =>
          refine Reg.regionG (fun w' => w'.heap[g6]? = some (.cells #[.slice A0 sigs.length d0, .slice A1 fs0.length d1] 27 (0, 0)) ∧ w'.heap[g7]? = some (.cells #[.slice F0 qs.length y0, .slice F1 zs.length y1] 27 (0, 0))) [0,1,2] [3,4,5] 5 (by kernel_rfl) (by kernel_rfl) ⟨hgA.out, hgB.out⟩ ?_
          refine Reg.sG ?_
          refine Reg.sG (hy := by intro w' hS; have hA := blk_cell hS.1; clear hS; (go_simp; first | done | rfl)) ?_
          refine Reg.sG (hy := by intro w' hS; have hA := blk_cell hS.2; clear hS; (go_simp; first | done | rfl)) ?_
          refine Reg.startG ?_
          have hry0 := hrx.out
          have hiy0 := hix.out
          obtain ⟨wy, hwy⟩ : ∃ wy, ({ wx with drawn := wx.drawn + 1 } : World) = wy := ⟨_, rfl⟩
          have hSy' := Aside0.mk (show On wx wy from (hwy ▸ on_draw wx))
          rw [hwy]
          clear hwy hry0 hiy0
          have hry := Aside0.mk (blk_below hrx.out hSy'.out)
          have hiy := Aside0.mk (blk_below hix.out hSy'.out)
          have hgAy := Aside0.mk (blk_below hgA.out hSy'.out)
          have hgBy := Aside0.mk (blk_below hgB.out hSy'.out)
          refine Reg.tG ?_
          go_wp2
          refine ⟨⟨hgAy.out, hgBy.out⟩, ?_⟩
          refine Reg.tG ?_
          have hcr := blk_cell hiy.out
          have hfr := blk_frozen hiy.out
          obtain ⟨X, hX⟩ : ∃ X, (wy.setCell ⟨w.heap.size, 0, none⟩ (.slice A0 sigs.length d0)).setCell ⟨w.heap.size, 1, none⟩ (.slice A1 fs0.length d1) = X := ⟨_, rfl⟩
          have EX := Aside0.mk (show Ex (fun b => b = w.heap.size) wy X from hX ▸ (Ex.set wy ⟨w.heap.size, 0, none⟩ (.slice A0 sigs.length d0)).trans (Ex.set _ ⟨w.heap.size, 1, none⟩ (.slice A1 fs0.length d1)) (fun _ _ h => h))
          have hiX := Aside0.mk (show X.heap[w.heap.size]? = some (.cells #[.slice A0 sigs.length d0, .slice A1 fs0.length d1] 27 (0, 0)) from hX ▸ blk_set (blk_set hiy.out 0 _) 1 _)
          have hrX := Aside0.mk (blk_ex EX.out hry.out (by omega))
          have hqs := hq.out
          have hqt := hgg.out
          have hgAX := Aside0.mk (blk_ex EX.out hgAy.out (by omega))
          have hgBX := Aside0.mk (blk_ex EX.out hgBy.out (by omega))
          have hX' := Aside0.mk hX
          clear hX hqs hqt
          go_wp2
          rw [hX'.out]
          refine ⟨⟨hgAX.out, hgBX.out⟩, ?_⟩
          refine Reg.tE ?_
          have hcs := blk_cell hrX.out
          have hfs := blk_frozen hrX.out
          clear hcr hfr
          go_wp2
          have EY := (Ex.set X ⟨w.heap.size + 1, 0, none⟩ (.slice F0 qs.length y0)).trans (Ex.set _ ⟨w.heap.size + 1, 1, none⟩ (.slice F1 zs.length y1)) (fun _ _ h => h)
          refine bodyPost_ret (retTII rfl rfl rfl (g := w.heap.size) (g' := w.heap.size + 1) (blk_ex EY hiX.out (fun e => by have e' : w.heap.size = w.heap.size + 1 := e; omega)) (blk_set (blk_set hrX.out 0 _) 1 _) rfl rfl) rfl ?_
          have EZ := (Ex.of_on (S := fun b => b = w.heap.size ∨ b = w.heap.size + 1) hSy'.out).trans ((EX.out.mono (S' := fun b => b = w.heap.size ∨ b = w.heap.size + 1) fun _ h => .inl h).trans EY (fun i hi h => .inr h)) (fun _ _ h => h)
          have hqs := hq.out
          have hzz := hzs.out
          refine ⟨_, rfl, q, _, _, sigs, fs0, qs, zs, rfl, (hAx.out.ex (EZ.mono fun b h => by omega)).mono (fun b h => by omega), (hBx.out.ex (EZ.mono fun b h => by omega)).mono (fun b h => by omega), by show 5 ≤ 5; omega, by have := hfl0.out.1; omega, fun f hf => by have := hfl0.out.2 f hf; omega, hbl.out.1, hbl.out.2.1, hbl.out.2.2, hCx.out.ex EZ (fun b hb => by omega), ?_⟩
          exact Ex.on hb0.out ((hEx.out.mono (S' := fun b => b = q ∨ (b = w.heap.size ∨ b = w.heap.size + 1)) fun _ h => .inl h).trans EZ (fun i hi h => .inr h)) (fun i h => by omega)
  | true =>
    go_wp2
    have hqg := Aside0.mk (show q < g6 ∧ q < w4.heap.size ∧ g6 < g7 ∧ g7 < w4.heap.size ∧ w1.heap.size ≤ g6 ∧ q < w1.heap.size from ⟨by have := hq.out; have := hgg.out; omega, by have := hq.out; have := hgg.out; have := blk_lt hgB4.out; omega, hgg.out.2, blk_lt hgB4.out, hgg.out.1, hq.out.1⟩)
    have hgg3 := Aside0.mk hgg.out
    clear hgg
    refine Reg.regionH (fun w' => w'.heap[g6]? = some (.cells #[.slice A0 sigs.length d0, .slice A1 fs0.length d1] 27 (0, 0))) (.r 0 (.r 2 (.two 1 7 (.two 3 7 (.r 4 (.r 5 (.r 6 (.n 7 (.leaf [8,9]))))) (.n 3 (.r 4 (.r 5 (.r 6 (.leaf [8,9])))))) (.n 1 (.n 3 (.r 4 (.r 5 (.r 6 (.leaf [8,9]))))))))) 9 (fun a a' w' => MTwo w w4 q A0 d0 A1 sigs.length d1 fs0.length a a' w') (by kernel_rfl) (by kernel_rfl) hgA4.out ?_ ?_
    · obtain ⟨u0, hu0⟩ : ∃ u0, ({ w4 with drawn := w4.drawn + 1 } : World) = u0 := ⟨_, rfl⟩
      have hS0 := Aside0.mk (show On w4 u0 from (hu0 ▸ on_draw w4))
      rw [hu0]
      clear hu0
      have hQ_u0 := Aside0.mk (Ex.of_on (S := fun b => b = q) hS0.out)
      have hC_u0 := Aside0.mk (hC4'.out.next hS0.out)
      have hG_u0 := Aside0.mk (blk_below hgA4.out hS0.out)
      refine Reg.hR ?_
      refine Reg.hR ?_
      · refine Reg.hTwo ?_ ?_
        · skip
          refine goesF 21 Tryz.func40 ((l6Sub_calls _ _ q hC_u0.out 3 (by omega)).mono ?_)
          rintro e u1 ⟨v, rfl, ⟨B0, e0, B1, e1, ns, vs, rfl, hN0, hN1, hi0, hi1, -, -⟩, hC, hE⟩
          have hN_u1 := Aside0.mk (And.intro hN0 hN1)
          have hi := Aside0.mk (And.intro hi0 hi1)
          have hC_u1 := Aside0.mk hC
          have hQ_u1 := Aside0.mk (hQ_u0.out.trans hE fun _ _ h => h)
          have hG_u1 := Aside0.mk (blk_ex hE hG_u0.out (by have := hqg.out; omega))
          clear hN0 hN1 hi0 hi1 hC hE
          refine ⟨_, rfl, hG_u1.out, ?_⟩
          simp only [Act.put, List.setIfInBounds_toArray, List.set_cons_zero, List.set_cons_succ]
          refine Reg.hTwo ?_ ?_
          · skip
            obtain ⟨-, hI0⟩ := OI.same hN_u1.out.1 hi.out.1
            obtain ⟨-, hI1⟩ := OI.same hN_u1.out.2 hi.out.2
            obtain ⟨-, -, hs', hall⟩ := (hA4.out.ex (hQ_u1.out.mono fun b hb => by have := hqg.out; omega)).parts
            obtain ⟨hRl, hRH, hRd⟩ := hall _ (Ex.refl _ _)
            refine goesF 23 Tryz.func14 ((sApplyToInstance_calls _ B0 e0 B1 e1 ns vs hI0 hI1 A0 d0 A1 d1 sigs fs0 hRl (hRH.fcts hRd)).mono ?_)
            rintro e u2 ⟨v, rfl, v1, rfl, hO, hb⟩
            clear hI0 hI1 hall hRl hRH hRd
            have hQ_u2 := Aside0.mk (hQ_u1.out.then_on hb)
            have hC_u2 := Aside0.mk (hC_u1.out.next hb)
            have hG_u2 := Aside0.mk (blk_below hG_u1.out hb)
            obtain ⟨vr, vf, hs, rfl, hY⟩ := IW.of (g := u2.heap.size) (lo := w4.heap.size) hO hQ_u1.out.size (.inl (Nat.le_refl _))
            obtain ⟨C0, x0, rfl⟩ := own_slice hY.r
            obtain ⟨C1, x1, rfl⟩ := own_slice hY.f
            have hY_u2 := Aside0.mk hY
            clear hO hb hY
            refine ⟨_, rfl, hG_u2.out, ?_⟩
            simp only [Act.put, List.setIfInBounds_toArray, List.set_cons_zero, List.set_cons_succ]
            refine Reg.hR ?_
            refine Reg.hR ?_
            refine Reg.hR ?_
            refine Reg.hN ?_
            go_wp2
            refine ⟨blk_below hG_u2.out (On.alloc (On.refl _) _), ?_⟩
            obtain ⟨u3, hu3⟩ : ∃ u, u2.alloc (.cells #[.slice none 0 0, .slice none 0 0] 27 (0, 0)) = u := ⟨_, rfl⟩
            have hS := Aside0.mk (show On u2 u3 from hu3 ▸ On.alloc (On.refl _) _)
            have hB_u3 := Aside0.mk (show u3.heap[u2.heap.size]? = some (.cells #[.slice none 0 0, .slice none 0 0] 27 (0, 0)) from hu3 ▸ loc_new _ _ _)
            have hgg := Aside0.mk (show w4.heap.size ≤ u2.heap.size from hQ_u2.out.size)
            have hgs := Aside0.mk (show u3.heap.size = u2.heap.size + 1 by rw [← hu3]; simp)
            rw [hu3]
            clear hu3
            have hQ_u3 := Aside0.mk (hQ_u2.out.then_on hS.out)
            have hC_u3 := Aside0.mk (hC_u2.out.next hS.out)
            have hG_u3 := Aside0.mk (blk_below hG_u2.out hS.out)
            have hsz := Aside0.mk (show u2.heap.size ≤ u2.heap.size from Nat.le_refl _)
            have hY_u3 := Aside0.mk (hY_u2.out.on hS.out)
            obtain ⟨g8, hg8⟩ : ∃ g8, u2.heap.size = g8 := ⟨_, rfl⟩
            rw [hg8] at hB_u3 hgg hgs hY_u3 ⊢
            clear hg8
            skip
            refine Reg.hLeaf ?_
            have hcr := blk_cell hB_u3.out
            have hfr := blk_frozen hB_u3.out
            refine Reg.tG ?_
            go_wp2
            clear hcr hfr
            have EX := (Ex.set u3 ⟨g8, 0, none⟩ (.slice C0 (appR sigs fs0 ns vs).length x0)).trans (Ex.set _ ⟨g8, 1, none⟩ (.slice C1 hs.length x1)) (fun _ _ h => h)
            refine ⟨blk_ex EX hG_u3.out (fun e => by have e' : g6 = g8 := e; have := hqg.out; have := hgg.out; omega), ?_⟩
            refine Reg.tE ?_
            go_wp2
            have hY2 := hY_u3.out.ex EX (fun b hb => .inr hb)
            have hgs2 := hgg.out
            have hqg2 := hqg.out
            have hqg3 := hq.out
            refine ⟨⟨.agg #[.slice B0 ns.length e0, .slice B1 vs.length e1], C0, (appR sigs fs0 ns vs).length, x0, C1, hs.length, x1, appOk sigs fs0 ns vs, g8, ?_, hgs2, blk_set (blk_set hB_u3.out 0 _) 1 _, ⟨_, _, hY2.rs (S := fun b => b < w4.heap.size ∨ b = g8) (fun b hb => hb), appI_small ns vs hfl0.out.1 hfl0.out.2⟩, hC_u3.out.ex EX (fun b hb => by have e' : b = g8 := hb; omega), hQ_u3.out.trans EX (fun i hi h => by have e' : i = g8 := h; omega)⟩⟩
            try simp only [Act.put, List.setIfInBounds_toArray, List.set_cons_zero, List.set_cons_succ]
            try simp
          · skip
            go_wp2
            refine ⟨blk_below hG_u1.out (On.alloc (On.refl _) _), ?_⟩
            obtain ⟨u4, hu4⟩ : ∃ u, u1.alloc (.cells #[.slice none 0 0, .slice none 0 0] 27 (0, 0)) = u := ⟨_, rfl⟩
            have hS := Aside0.mk (show On u1 u4 from hu4 ▸ On.alloc (On.refl _) _)
            have hB_u4 := Aside0.mk (show u4.heap[u1.heap.size]? = some (.cells #[.slice none 0 0, .slice none 0 0] 27 (0, 0)) from hu4 ▸ loc_new _ _ _)
            have hgg := Aside0.mk (show w4.heap.size ≤ u1.heap.size from hQ_u1.out.size)
            have hgs := Aside0.mk (show u4.heap.size = u1.heap.size + 1 by rw [← hu4]; simp)
            rw [hu4]
            clear hu4
            have hQ_u4 := Aside0.mk (hQ_u1.out.then_on hS.out)
            have hC_u4 := Aside0.mk (hC_u1.out.next hS.out)
            have hG_u4 := Aside0.mk (blk_below hG_u1.out hS.out)
            have hN_u4 := Aside0.mk (And.intro (pw_own_below hN_u1.out.1 hS.out) (pw_own_below hN_u1.out.2 hS.out))
            obtain ⟨g8, hg8⟩ : ∃ g8, u1.heap.size = g8 := ⟨_, rfl⟩
            rw [hg8] at hB_u4 hgg hgs ⊢
            clear hg8
            skip
            refine Reg.hN ?_
            obtain ⟨-, hI0⟩ := OI.same hN_u4.out.1 hi.out.1
            obtain ⟨-, hI1⟩ := OI.same hN_u4.out.2 hi.out.2
            obtain ⟨-, -, hs', hall⟩ := (hA4.out.ex (hQ_u4.out.mono fun b hb => by have := hqg.out; omega)).parts
            obtain ⟨hRl, hRH, hRd⟩ := hall _ (Ex.refl _ _)
            refine goesF 23 Tryz.func14 ((sApplyToInstance_calls _ B0 e0 B1 e1 ns vs hI0 hI1 A0 d0 A1 d1 sigs fs0 hRl (hRH.fcts hRd)).mono ?_)
            rintro e u5 ⟨v, rfl, v1, rfl, hO, hb⟩
            clear hI0 hI1 hall hRl hRH hRd
            have hQ_u5 := Aside0.mk (hQ_u4.out.then_on hb)
            have hC_u5 := Aside0.mk (hC_u4.out.next hb)
            have hG_u5 := Aside0.mk (blk_below hG_u4.out hb)
            have hB_u5 := Aside0.mk (blk_below hB_u4.out hb)
            obtain ⟨vr, vf, hs, rfl, hY⟩ := IW.of (g := g8) (lo := w4.heap.size) hO hQ_u4.out.size (.inr (blk_lt hB_u4.out))
            obtain ⟨C0, x0, rfl⟩ := own_slice hY.r
            obtain ⟨C1, x1, rfl⟩ := own_slice hY.f
            have hY_u5 := Aside0.mk hY
            clear hO hb hY
            refine ⟨_, rfl, hG_u5.out, ?_⟩
            simp only [Act.put, List.setIfInBounds_toArray, List.set_cons_zero, List.set_cons_succ]
            refine Reg.hR ?_
            refine Reg.hR ?_
            refine Reg.hR ?_
            refine Reg.hLeaf ?_
            have hcr := blk_cell hB_u5.out
            have hfr := blk_frozen hB_u5.out
            refine Reg.tG ?_
            go_wp2
            clear hcr hfr
            have EX := (Ex.set u5 ⟨g8, 0, none⟩ (.slice C0 (appR sigs fs0 ns vs).length x0)).trans (Ex.set _ ⟨g8, 1, none⟩ (.slice C1 hs.length x1)) (fun _ _ h => h)
            refine ⟨blk_ex EX hG_u5.out (fun e => by have e' : g6 = g8 := e; have := hqg.out; have := hgg.out; omega), ?_⟩
            refine Reg.tE ?_
            go_wp2
            have hY2 := hY_u5.out.ex EX (fun b hb => .inr hb)
            have hgs2 := hgg.out
            have hqg2 := hqg.out
            have hqg3 := hq.out
            refine ⟨⟨.agg #[.slice B0 ns.length e0, .slice B1 vs.length e1], C0, (appR sigs fs0 ns vs).length, x0, C1, hs.length, x1, appOk sigs fs0 ns vs, g8, ?_, hgs2, blk_set (blk_set hB_u5.out 0 _) 1 _, ⟨_, _, hY2.rs (S := fun b => b < w4.heap.size ∨ b = g8) (fun b hb => hb), appI_small ns vs hfl0.out.1 hfl0.out.2⟩, hC_u5.out.ex EX (fun b hb => by have e' : b = g8 := hb; omega), hQ_u5.out.trans EX (fun i hi h => by have e' : i = g8 := h; omega)⟩⟩
            try simp only [Act.put, List.setIfInBounds_toArray, List.set_cons_zero, List.set_cons_succ]
            try simp
        · skip
          go_wp2
          refine ⟨blk_below hG_u0.out (On.alloc (On.refl _) _), ?_⟩
          obtain ⟨u6, hu6⟩ : ∃ u, u0.alloc (.cells #[.slice none 0 0, .slice none 0 0] 27 (0, 0)) = u := ⟨_, rfl⟩
          have hS := Aside0.mk (show On u0 u6 from hu6 ▸ On.alloc (On.refl _) _)
          have hB_u6 := Aside0.mk (show u6.heap[u0.heap.size]? = some (.cells #[.slice none 0 0, .slice none 0 0] 27 (0, 0)) from hu6 ▸ loc_new _ _ _)
          have hgg := Aside0.mk (show w4.heap.size ≤ u0.heap.size from hQ_u0.out.size)
          have hgs := Aside0.mk (show u6.heap.size = u0.heap.size + 1 by rw [← hu6]; simp)
          rw [hu6]
          clear hu6
          have hQ_u6 := Aside0.mk (hQ_u0.out.then_on hS.out)
          have hC_u6 := Aside0.mk (hC_u0.out.next hS.out)
          have hG_u6 := Aside0.mk (blk_below hG_u0.out hS.out)
          obtain ⟨g8, hg8⟩ : ∃ g8, u0.heap.size = g8 := ⟨_, rfl⟩
          rw [hg8] at hB_u6 hgg hgs ⊢
          clear hg8
          skip
          refine Reg.hN ?_
          refine goesF 21 Tryz.func40 ((l6Sub_calls _ _ q hC_u6.out 3 (by omega)).mono ?_)
          rintro e u7 ⟨v, rfl, ⟨B0, e0, B1, e1, ns, vs, rfl, hN0, hN1, hi0, hi1, -, -⟩, hC, hE⟩
          have hN_u7 := Aside0.mk (And.intro hN0 hN1)
          have hi := Aside0.mk (And.intro hi0 hi1)
          have hC_u7 := Aside0.mk hC
          have hQ_u7 := Aside0.mk (hQ_u6.out.trans hE fun _ _ h => h)
          have hG_u7 := Aside0.mk (blk_ex hE hG_u6.out (by have := hqg.out; omega))
          have hB_u7 := Aside0.mk (blk_ex hE hB_u6.out (by have := hqg.out; have := hgg.out; omega))
          clear hN0 hN1 hi0 hi1 hC hE
          refine ⟨_, rfl, hG_u7.out, ?_⟩
          simp only [Act.put, List.setIfInBounds_toArray, List.set_cons_zero, List.set_cons_succ]
          refine Reg.hN ?_
          obtain ⟨-, hI0⟩ := OI.same hN_u7.out.1 hi.out.1
          obtain ⟨-, hI1⟩ := OI.same hN_u7.out.2 hi.out.2
          obtain ⟨-, -, hs', hall⟩ := (hA4.out.ex (hQ_u7.out.mono fun b hb => by have := hqg.out; omega)).parts
          obtain ⟨hRl, hRH, hRd⟩ := hall _ (Ex.refl _ _)
          refine goesF 23 Tryz.func14 ((sApplyToInstance_calls _ B0 e0 B1 e1 ns vs hI0 hI1 A0 d0 A1 d1 sigs fs0 hRl (hRH.fcts hRd)).mono ?_)
          rintro e u8 ⟨v, rfl, v1, rfl, hO, hb⟩
          clear hI0 hI1 hall hRl hRH hRd
          have hQ_u8 := Aside0.mk (hQ_u7.out.then_on hb)
          have hC_u8 := Aside0.mk (hC_u7.out.next hb)
          have hG_u8 := Aside0.mk (blk_below hG_u7.out hb)
          have hB_u8 := Aside0.mk (blk_below hB_u7.out hb)
          obtain ⟨vr, vf, hs, rfl, hY⟩ := IW.of (g := g8) (lo := w4.heap.size) hO hQ_u7.out.size (.inr (blk_lt hB_u7.out))
          obtain ⟨C0, x0, rfl⟩ := own_slice hY.r
          obtain ⟨C1, x1, rfl⟩ := own_slice hY.f
          have hY_u8 := Aside0.mk hY
          clear hO hb hY
          refine ⟨_, rfl, hG_u8.out, ?_⟩
          simp only [Act.put, List.setIfInBounds_toArray, List.set_cons_zero, List.set_cons_succ]
          refine Reg.hR ?_
          refine Reg.hR ?_
          refine Reg.hR ?_
          refine Reg.hLeaf ?_
          have hcr := blk_cell hB_u8.out
          have hfr := blk_frozen hB_u8.out
          refine Reg.tG ?_
          go_wp2
          clear hcr hfr
          have EX := (Ex.set u8 ⟨g8, 0, none⟩ (.slice C0 (appR sigs fs0 ns vs).length x0)).trans (Ex.set _ ⟨g8, 1, none⟩ (.slice C1 hs.length x1)) (fun _ _ h => h)
          refine ⟨blk_ex EX hG_u8.out (fun e => by have e' : g6 = g8 := e; have := hqg.out; have := hgg.out; omega), ?_⟩
          refine Reg.tE ?_
          go_wp2
          have hY2 := hY_u8.out.ex EX (fun b hb => .inr hb)
          have hgs2 := hgg.out
          have hqg2 := hqg.out
          have hqg3 := hq.out
          refine ⟨⟨.agg #[.slice B0 ns.length e0, .slice B1 vs.length e1], C0, (appR sigs fs0 ns vs).length, x0, C1, hs.length, x1, appOk sigs fs0 ns vs, g8, ?_, hgs2, blk_set (blk_set hB_u8.out 0 _) 1 _, ⟨_, _, hY2.rs (S := fun b => b < w4.heap.size ∨ b = g8) (fun b hb => hb), appI_small ns vs hfl0.out.1 hfl0.out.2⟩, hC_u8.out.ex EX (fun b hb => by have e' : b = g8 := hb; omega), hQ_u8.out.trans EX (fun i hi h => by have e' : i = g8 := h; omega)⟩⟩
          try simp only [Act.put, List.setIfInBounds_toArray, List.set_cons_zero, List.set_cons_succ]
          try simp
    rintro a' w5 ⟨S0, C0, m0, x0, C1, m1, x1, bk, g8, rfl, hg8, hB5, ⟨ps, ys, hY5, hyl, hym⟩, hC5, hE5⟩
    simp only [Act.put, List.setIfInBounds_toArray, List.set_cons_zero, List.set_cons_succ]
    have hB5' := Aside0.mk hB5
    have hY5' := Aside0.mk hY5
    have hyl' := Aside0.mk (And.intro hyl hym)
    have hC5' := Aside0.mk hC5
    have hE5' := Aside0.mk hE5
    have hg8' := Aside0.mk hg8
    clear hg8 hB5 hY5 hyl hym hC5 hE5
    have hA5 := Aside0.mk (hA4.out.ex (hE5'.out.mono fun b hb => by have := hqg.out; omega))
    have hgA5 := Aside0.mk (blk_ex hE5'.out hgA4.out (by have := hqg.out; omega))
    have hgB5 := Aside0.mk (blk_ex hE5'.out hgB4.out (by have := hqg.out; omega))
    have hi5 := Aside0.mk (blk_ex hE5'.out hi4.out (by have := hq.out; omega))
    have hr5 := Aside0.mk (blk_ex hE5'.out hr4.out (by have := hq.out; omega))
    have hI5 := Aside0.mk (hI4.out.ex hE5'.out fun b hb => .inl (by have := hqg.out; omega))
    have hEx5 := Aside0.mk (hE4'.out.trans hE5'.out fun _ _ h => h)
    cases bk with
    | false =>
      have hgg := hgg3
      have hgA := hgA5
      have hgB := hgB5
      have hrx := hr5
      have hix := hi5
      have hAx := hA5
      have hBx := Aside0.mk (hI5.out.rs (S := fun b => b < w1.heap.size ∨ b = g7) fun b hb => hb)
      have hbl := Aside0.mk (show sigs.length ≤ 5 ∧ gs.length ≤ 200 ∧ ∀ f ∈ gs, f.2.length ≤ 3 from ⟨by show 5 ≤ 5; omega, by have := hgl.out.1; omega, fun f hf => by have := hgl.out.2 f hf; omega⟩)
      have hCx := hC5'
      have hEx := hEx5
      as_aux_lemma =>
        go_wp2_with (go_at_call 39; refine Stop.out ?_)
        refine ⟨?_⟩
        refine (l1Once_calls _ _ q hCx.out 20 (by omega) (by omega)).mono ?_
        rintro e w8 ⟨v, rfl, ⟨bb, rfl⟩, hC8, hE8⟩
        replace hgA := Aside0.mk (blk_ex hE8 hgA.out (by have := hq.out; have := hgg.out; omega))
        replace hgB := Aside0.mk (blk_ex hE8 hgB.out (by have := hq.out; have := hgg.out; omega))
        replace hrx := Aside0.mk (blk_ex hE8 hrx.out (by have := hq.out; have := hzs.out; omega))
        replace hix := Aside0.mk (blk_ex hE8 hix.out (by have := hq.out; have := hzs.out; omega))
        replace hAx := Aside0.mk (hAx.out.ex (hE8.mono fun b hb => by have := hq.out; omega))
        replace hBx := Aside0.mk (hBx.out.ex (hE8.mono fun b hb => by have := hq.out; omega))
        replace hCx := Aside0.mk hC8
        replace hEx := Aside0.mk (hEx.out.trans hE8 fun _ _ h => h)
        clear hC8 hE8
        cases bb with
        | false =>
          go_wp2
          as_aux_lemma =>
            refine Reg.regionG (fun w' => w'.heap[g6]? = some (.cells #[.slice A0 sigs.length d0, .slice A1 fs0.length d1] 27 (0, 0)) ∧ w'.heap[g7]? = some (.cells #[.slice B0 sigs.length e0, .slice B1 gs.length e1] 27 (0, 0))) [0,1,2] [3,4,5] 5 (by kernel_rfl) (by kernel_rfl) ⟨hgA.out, hgB.out⟩ ?_
            refine Reg.sG ?_
            refine Reg.sG (hy := by intro w' hS; have hA := blk_cell hS.1; clear hS; (go_simp; first | done | rfl)) ?_
            refine Reg.sG (hy := by intro w' hS; have hA := blk_cell hS.2; clear hS; (go_simp; first | done | rfl)) ?_
            refine Reg.startG ?_
            have hry0 := hrx.out
            have hiy0 := hix.out
            obtain ⟨wy, hwy⟩ : ∃ wy, ({ w8 with drawn := w8.drawn + 1 } : World) = wy := ⟨_, rfl⟩
            have hSy' := Aside0.mk (show On w8 wy from (hwy ▸ on_draw w8))
            rw [hwy]
            clear hwy hry0 hiy0
            have hry := Aside0.mk (blk_below hrx.out hSy'.out)
            have hiy := Aside0.mk (blk_below hix.out hSy'.out)
            have hgAy := Aside0.mk (blk_below hgA.out hSy'.out)
            have hgBy := Aside0.mk (blk_below hgB.out hSy'.out)
            refine Reg.tG ?_
            go_wp2
            refine ⟨⟨hgAy.out, hgBy.out⟩, ?_⟩
            refine Reg.tG ?_
            have hcr := blk_cell hiy.out
            have hfr := blk_frozen hiy.out
            obtain ⟨X, hX⟩ : ∃ X, (wy.setCell ⟨w.heap.size, 0, none⟩ (.slice A0 sigs.length d0)).setCell ⟨w.heap.size, 1, none⟩ (.slice A1 fs0.length d1) = X := ⟨_, rfl⟩
            have EX := Aside0.mk (show Ex (fun b => b = w.heap.size) wy X from hX ▸ (Ex.set wy ⟨w.heap.size, 0, none⟩ (.slice A0 sigs.length d0)).trans (Ex.set _ ⟨w.heap.size, 1, none⟩ (.slice A1 fs0.length d1)) (fun _ _ h => h))
            have hiX := Aside0.mk (show X.heap[w.heap.size]? = some (.cells #[.slice A0 sigs.length d0, .slice A1 fs0.length d1] 27 (0, 0)) from hX ▸ blk_set (blk_set hiy.out 0 _) 1 _)
            have hrX := Aside0.mk (blk_ex EX.out hry.out (by omega))
            have hqs := hq.out
            have hqt := hgg.out
            have hgAX := Aside0.mk (blk_ex EX.out hgAy.out (by omega))
            have hgBX := Aside0.mk (blk_ex EX.out hgBy.out (by omega))
            have hX' := Aside0.mk hX
            clear hX hqs hqt
            go_wp2
            rw [hX'.out]
            refine ⟨⟨hgAX.out, hgBX.out⟩, ?_⟩
            refine Reg.tE ?_
            have hcs := blk_cell hrX.out
            have hfs := blk_frozen hrX.out
            clear hcr hfr
            go_wp2
            have EY := (Ex.set X ⟨w.heap.size + 1, 0, none⟩ (.slice B0 sigs.length e0)).trans (Ex.set _ ⟨w.heap.size + 1, 1, none⟩ (.slice B1 gs.length e1)) (fun _ _ h => h)
            refine bodyPost_ret (retTII rfl rfl rfl (g := w.heap.size) (g' := w.heap.size + 1) (blk_ex EY hiX.out (fun e => by have e' : w.heap.size = w.heap.size + 1 := e; omega)) (blk_set (blk_set hrX.out 0 _) 1 _) rfl rfl) rfl ?_
            have EZ := (Ex.of_on (S := fun b => b = w.heap.size ∨ b = w.heap.size + 1) hSy'.out).trans ((EX.out.mono (S' := fun b => b = w.heap.size ∨ b = w.heap.size + 1) fun _ h => .inl h).trans EY (fun i hi h => .inr h)) (fun _ _ h => h)
            have hqs := hq.out
            have hzz := hzs.out
            refine ⟨_, rfl, q, _, _, sigs, fs0, sigs, gs, rfl, (hAx.out.ex (EZ.mono fun b h => by omega)).mono (fun b h => by omega), (hBx.out.ex (EZ.mono fun b h => by omega)).mono (fun b h => by omega), by show 5 ≤ 5; omega, by have := hfl0.out.1; omega, fun f hf => by have := hfl0.out.2 f hf; omega, hbl.out.1, hbl.out.2.1, hbl.out.2.2, hCx.out.ex EZ (fun b hb => by omega), ?_⟩
            exact Ex.on hb0.out ((hEx.out.mono (S' := fun b => b = q ∨ (b = w.heap.size ∨ b = w.heap.size + 1)) fun _ h => .inl h).trans EZ (fun i hi h => .inr h)) (fun i h => by omega)
        | true =>
          go_wp2_with (go_at_call 43; refine Stop.out ?_)
          refine ⟨(l5Any_calls _ w8 q hCx.out).mono ?_⟩
          clear hBx hbl
          rintro e w9 ⟨v, rfl, ⟨qs, zs, hR, hl0, hl, hl2⟩, hC9, hE9⟩
          have hsz := Aside0.mk (show g7 < w8.heap.size ∧ w1.heap.size ≤ w8.heap.size from ⟨blk_lt hgB.out, by have := blk_lt hgB.out; have := hgg.out; omega⟩)
          obtain ⟨F0, y0, F1, y1, hs', rfl, -⟩ := hR.out
          replace hgA := Aside0.mk (blk_ex hE9 hgA.out (by have := hq.out; have := hgg.out; omega))
          replace hgB := Aside0.mk (blk_ex hE9 hgB.out (by have := hq.out; have := hgg.out; omega))
          replace hrx := Aside0.mk (blk_ex hE9 hrx.out (by have := hq.out; have := hzs.out; omega))
          replace hix := Aside0.mk (blk_ex hE9 hix.out (by have := hq.out; have := hzs.out; omega))
          replace hAx := Aside0.mk (hAx.out.ex (hE9.mono fun b hb => by have := hq.out; omega))
          have hBx := Aside0.mk (hR.mono (S' := fun b => b < w1.heap.size ∨ b = g7) fun b hb => by have := hsz.out; omega)
          have hbl := Aside0.mk (And.intro hl0 (And.intro hl hl2))
          replace hCx := Aside0.mk hC9
          replace hEx := Aside0.mk (hEx.out.trans hE9 fun _ _ h => h)
          clear hC9 hE9 hR hl0 hl hl2
          have hcr := blk_cell hgB.out
          have hfr := blk_frozen hgB.out
          go_wp2
          clear hcr hfr
          have EE := (Ex.set w9 ⟨g7, 0, none⟩ (.slice F0 qs.length y0)).trans (Ex.set _ ⟨g7, 1, none⟩ (.slice F1 zs.length y1)) (fun _ _ h => h)
          have hq7 := hq.out
          have hq8 := hgg.out
          have hq9 := hzs.out
          replace hgA := Aside0.mk (blk_ex EE hgA.out (fun e => by have e' : g6 = g7 := e; omega))
          replace hgB := Aside0.mk (blk_set (blk_set hgB.out 0 (.slice F0 qs.length y0)) 1 (.slice F1 zs.length y1))
          replace hrx := Aside0.mk (blk_ex EE hrx.out (fun e => by have e' : w.heap.size + 1 = g7 := e; omega))
          replace hix := Aside0.mk (blk_ex EE hix.out (fun e => by have e' : w.heap.size = g7 := e; omega))
          replace hAx := Aside0.mk (hAx.out.ex (EE.mono fun b hb => .inr (by have e' : b = g7 := hb; omega)))
          replace hBx := Aside0.mk (hBx.out.ex (EE.mono fun b hb => .inr hb))
          replace hCx := Aside0.mk (hCx.out.ex EE (fun b hb => by have e' : b = g7 := hb; omega))
          replace hEx := Aside0.mk (hEx.out.trans EE (fun i hi h => by have e' : i = g7 := h; omega))
          obtain ⟨wx, hwx⟩ : ∃ wx, (w9.setCell ⟨g7, 0, none⟩ (.slice F0 qs.length y0)).setCell ⟨g7, 1, none⟩ (.slice F1 zs.length y1) = wx := ⟨_, rfl⟩
          rw [hwx] at hBx hgB hgA hix hrx hAx hCx hEx ⊢
          clear EE hq7 hq8 hq9 hwx
          as_aux_lemma =>
            refine Reg.regionG (fun w' => w'.heap[g6]? = some (.cells #[.slice A0 sigs.length d0, .slice A1 fs0.length d1] 27 (0, 0)) ∧ w'.heap[g7]? = some (.cells #[.slice F0 qs.length y0, .slice F1 zs.length y1] 27 (0, 0))) [0,1,2] [3,4,5] 5 (by kernel_rfl) (by kernel_rfl) ⟨hgA.out, hgB.out⟩ ?_
            refine Reg.sG ?_
            refine Reg.sG (hy := by intro w' hS; have hA := blk_cell hS.1; clear hS; (go_simp; first | done | rfl)) ?_
            refine Reg.sG (hy := by intro w' hS; have hA := blk_cell hS.2; clear hS; (go_simp; first | done | rfl)) ?_
            refine Reg.startG ?_
            have hry0 := hrx.out
            have hiy0 := hix.out
            obtain ⟨wy, hwy⟩ : ∃ wy, ({ wx with drawn := wx.drawn + 1 } : World) = wy := ⟨_, rfl⟩
            have hSy' := Aside0.mk (show On wx wy from (hwy ▸ on_draw wx))
            rw [hwy]
            clear hwy hry0 hiy0
            have hry := Aside0.mk (blk_below hrx.out hSy'.out)
            have hiy := Aside0.mk (blk_below hix.out hSy'.out)
            have hgAy := Aside0.mk (blk_below hgA.out hSy'.out)
            have hgBy := Aside0.mk (blk_below hgB.out hSy'.out)
            refine Reg.tG ?_
            go_wp2
            refine ⟨⟨hgAy.out, hgBy.out⟩, ?_⟩
            refine Reg.tG ?_
            have hcr := blk_cell hiy.out
            have hfr := blk_frozen hiy.out
            obtain ⟨X, hX⟩ : ∃ X, (wy.setCell ⟨w.heap.size, 0, none⟩ (.slice A0 sigs.length d0)).setCell ⟨w.heap.size, 1, none⟩ (.slice A1 fs0.length d1) = X := ⟨_, rfl⟩
            have EX := Aside0.mk (show Ex (fun b => b = w.heap.size) wy X from hX ▸ (Ex.set wy ⟨w.heap.size, 0, none⟩ (.slice A0 sigs.length d0)).trans (Ex.set _ ⟨w.heap.size, 1, none⟩ (.slice A1 fs0.length d1)) (fun _ _ h => h))
            have hiX := Aside0.mk (show X.heap[w.heap.size]? = some (.cells #[.slice A0 sigs.length d0, .slice A1 fs0.length d1] 27 (0, 0)) from hX ▸ blk_set (blk_set hiy.out 0 _) 1 _)
            have hrX := Aside0.mk (blk_ex EX.out hry.out (by omega))
            have hqs := hq.out
            have hqt := hgg.out
            have hgAX := Aside0.mk (blk_ex EX.out hgAy.out (by omega))
            have hgBX := Aside0.mk (blk_ex EX.out hgBy.out (by omega))
            have hX' := Aside0.mk hX
            clear hX hqs hqt
            go_wp2
            rw [hX'.out]
            refine ⟨⟨hgAX.out, hgBX.out⟩, ?_⟩
            refine Reg.tE ?_
            have hcs := blk_cell hrX.out
            have hfs := blk_frozen hrX.out
            clear hcr hfr
            go_wp2
            have EY := (Ex.set X ⟨w.heap.size + 1, 0, none⟩ (.slice F0 qs.length y0)).trans (Ex.set _ ⟨w.heap.size + 1, 1, none⟩ (.slice F1 zs.length y1)) (fun _ _ h => h)
            refine bodyPost_ret (retTII rfl rfl rfl (g := w.heap.size) (g' := w.heap.size + 1) (blk_ex EY hiX.out (fun e => by have e' : w.heap.size = w.heap.size + 1 := e; omega)) (blk_set (blk_set hrX.out 0 _) 1 _) rfl rfl) rfl ?_
            have EZ := (Ex.of_on (S := fun b => b = w.heap.size ∨ b = w.heap.size + 1) hSy'.out).trans ((EX.out.mono (S' := fun b => b = w.heap.size ∨ b = w.heap.size + 1) fun _ h => .inl h).trans EY (fun i hi h => .inr h)) (fun _ _ h => h)
            have hqs := hq.out
            have hzz := hzs.out
            refine ⟨_, rfl, q, _, _, sigs, fs0, qs, zs, rfl, (hAx.out.ex (EZ.mono fun b h => by omega)).mono (fun b h => by omega), (hBx.out.ex (EZ.mono fun b h => by omega)).mono (fun b h => by omega), by show 5 ≤ 5; omega, by have := hfl0.out.1; omega, fun f hf => by have := hfl0.out.2 f hf; omega, hbl.out.1, hbl.out.2.1, hbl.out.2.2, hCx.out.ex EZ (fun b hb => by omega), ?_⟩
            exact Ex.on hb0.out ((hEx.out.mono (S' := fun b => b = q ∨ (b = w.heap.size ∨ b = w.heap.size + 1)) fun _ h => .inl h).trans EZ (fun i hi h => .inr h)) (fun i h => by omega)
    | true =>
      go_wp2
      obtain ⟨rfl, rfl, -⟩ := hY5'.out.parts
      have hbrx := Aside0.mk (hI5.out.rs (S := fun b => b = q ∨ b = g7) fun b hb => by have := hqg.out; omega)
      go_loopw [10] (fun v10 wr => ∃ (k : Nat) (fs : List Fct) (A0 : Option Addr) (d0 : Nat) (A1 : Option Addr) (d1 : Nat), k ≤ ys.length ∧ v10 = .int .i64 k ∧ wr.heap[g7]? = some (.cells #[.slice A0 sigs.length d0, .slice A1 fs.length d1] 27 (0, 0)) ∧ RS (fun b => b = q ∨ b = g7) wr (.agg #[.slice A0 sigs.length d0, .slice A1 fs.length d1]) sigs fs ∧ Asc fs ∧ fs.length ≤ 6 + k ∧ (∀ f ∈ fs, f.2.length ≤ 2) ∧ Ex (fun b => b = g7) w5 wr) (fun v10 _ => ys.length - (intOf v10).toNat)
      case atStart => exact ⟨0, gs, B0, e0, B1, e1, Nat.zero_le _, rfl, hgB5.out, hbrx.out, hga.out, by have := hgl.out.1; omega, hgl.out.2, Ex.refl _ _⟩
      case round =>
        obtain ⟨k, fs, D0, z0, D1, z1, hk, rfl, hbr, hR, ha, hl, hm, hE⟩ := hrel
        have hbr' := Aside0.mk hbr
        have hRr := Aside0.mk hR
        have ha' := Aside0.mk ha
        have hl' := Aside0.mk hl
        have hm' := Aside0.mk hm
        have hEr := Aside0.mk hE
        have hb4 := Aside0.mk (blk_ex hE hB5'.out (by have := hqg.out; have := hg8'.out; omega))
        have hd0 := blk_cell hbr 0
        have hd1 := blk_cell hbr 1
        have hd2 := blk_cell hb4.out 0
        have hd3 := blk_cell hb4.out 1
        have hCr := Aside0.mk (hC5'.out.ex hE (fun b hb => by have := hqg.out; have := hq.out; have := hzs.out; omega))
        clear hbr hR ha hl hm hE
        by_cases hlt : k < ys.length
        · obtain ⟨_, _, us', hall⟩ := (hY5'.out.ex (hEr.out.mono fun b hb => .inl (by have := hqg.out; omega))).parts
          obtain ⟨h1, h2, h3⟩ := hall wr (Ex.refl _ _)
          obtain ⟨ad, A3, c3, hA1, x0', x1', x2⟩ := (h2.fcts h3).at k hlt
          subst hA1
          have x2' := Aside0.mk x2
          have hkk := Aside0.mk hlt
          have hfk := Aside0.mk (show ys[k].2.length ≤ 2 from hyl'.out.2 _ (List.getElem_mem hlt))
          obtain ⟨_, _, hs', hall'⟩ := hRr.out.parts
          have hall2 := Aside0.mk hall'
          clear x2 h1 h2 h3 hall hall'
          go_wp2
          refine Reg.region [(0,.L),(1,.L),(2,.L),(3,.L),(4,.L),(5,.L),(6,.N)] [7] (by kernel_rfl) (by kernel_rfl) ?_
          repeat first | refine sP ?_ | refine sS ?_ | refine sA ?_ | refine sL ?_ | refine sQ ?_ | refine sO ?_
          clear hd0 hd1 hd2 hd3 x0' x1'
          refine callN Tryz.func37 (fun w6 hS6 => ?_)
          refine (l5PutS_calls (fun b => b = q ∨ b = g7) w6 D0 z0 D1 z1 hs' sigs fs (fun w' kk => hall2.out w' ((Ex.of_on hS6).trans kk fun _ _ h => h)) (fun b hb => by have := blk_lt (blk_below hbr'.out hS6); have := (hCr.out.next hS6).lt; rcases hb with h | h <;> omega) A3 c3 ys[k] (x2'.out.on hS6) (by have := hl'.out; have := hyl'.out.1; have := hkk.out; omega) (by have := hfk.out; omega) ha'.out).mono ?_
          rintro e w7 ⟨v5, rfl, hR5, hb5⟩
          obtain ⟨fs', hfs⟩ : ∃ fs', putF fs ys[k] = fs' := ⟨_, rfl⟩
          rw [hfs] at hR5
          have hR5' := Aside0.mk hR5
          obtain ⟨E0, i0, E1, i1, hs'', rfl, -⟩ := hR5.out
          have ha6 := Aside0.mk (show Asc fs' from hfs ▸ putF_asc ys[k] fs ha'.out)
          have hl6 := Aside0.mk (show fs'.length ≤ fs.length + 1 from hfs ▸ putF_le fs ys[k])
          have hm6 := Aside0.mk (show ∀ g ∈ fs', g.2.length ≤ 2 by
            rw [← hfs]; intro g hg; rcases (mem_putF ys[k] g fs).1 hg with rfl | h
            · exact hfk.out
            · exact hm'.out g h)
          have hB7 := Aside0.mk (hS6.trans hb5)
          refine ⟨_, rfl, hb5, fun a' ha'' => ?_⟩
          simp only [Act.put, List.setIfInBounds_toArray, List.set_cons_zero, List.set_cons_succ] at ha''
          subst ha''
          clear hR5 hfs
          refine Reg.tail_ fun w8 hS8 => ?_
          have hb6 := Aside0.mk (blk_below hbr'.out (hB7.out.trans hS8))
          have hR6 := Aside0.mk (hR5'.out.on hS8)
          have hB6 := Aside0.mk (hB7.out.trans hS8)
          have hcr := blk_cell hb6.out
          have hfr := blk_frozen hb6.out
          clear hS8
          go_wp2
          have EE := (Ex.set w8 ⟨g7, 0, none⟩ (.slice E0 sigs.length i0)).trans (Ex.set _ ⟨g7, 1, none⟩ (.slice E1 fs'.length i1)) (fun _ _ h => h)
          have hk1 := hkk.out
          have hwk : wrap64 ((k : Int) + 1) = ((k + 1 : Nat) : Int) := by rw [IntWalk.wrap64_in _ (by have := hyl'.out.1; omega)]; omega
          refine ⟨⟨k + 1, fs', E0, i0, E1, i1, by omega, by rw [hwk], blk_set (blk_set hb6.out 0 _) 1 _, hR6.out.ex (EE.mono fun _ h => .inr h), ha6.out, by have := hl'.out; have := hl6.out; omega, hm6.out, (hEr.out.then_on hB6.out).trans EE fun _ _ h => h⟩, by rw [hwk]; simp [intOf]; omega⟩
        · have hge : ¬ k < ys.length := hlt
          go_wp2_with (go_at_call 38; refine Stop.out ?_)
          obtain ⟨_, _, hs', hall⟩ := hRr.out.parts
          obtain ⟨h1, h2, h3⟩ := hall wr (Ex.refl _ _)
          refine ⟨(l5Copy_calls _ D0 z0 D1 z1 sigs fs h1 (h2.fcts h3) (by show (5 : Nat) ≤ _; omega) (by have := hl'.out; have := hyl'.out.1; omega) (fun f hf => by have := hm'.out f hf; omega)).mono ?_⟩
          rintro e w9 ⟨v7, rfl, hI7, hb7⟩
          have hgl7 := Aside0.mk (blk_lt hbr'.out)
          obtain ⟨vr, vf, hs, rfl, hIW0⟩ := IW.of (g := g7) (lo := w1.heap.size) hI7 (by have := hgl7.out; have := hgg3.out; omega) (.inr hgl7.out)
          obtain ⟨B0', e0', rfl⟩ := own_slice hIW0.r
          obtain ⟨B1', e1', rfl⟩ := own_slice hIW0.f
          have hlz := Aside0.mk hIW0.s.len
          rw [hlz.out] at hIW0 ⊢
          have hIW1 := Aside0.mk hIW0
          have hb7' := Aside0.mk hb7
          have hbx7 := Aside0.mk (blk_below hbr'.out hb7)
          have hix7 := Aside0.mk (blk_below (blk_ex hEr.out hi5.out (by have := hgg3.out; have := hq.out; omega)) hb7)
          have hrx7 := Aside0.mk (blk_below (blk_ex hEr.out hr5.out (by have := hgg3.out; have := hq.out; omega)) hb7)
          have hgA7 := Aside0.mk (blk_below (blk_ex hEr.out hgA5.out (by have := hqg.out; omega)) hb7)
          have hcr := blk_cell hbx7.out
          have hfr := blk_frozen hbx7.out
          have hfl := Aside0.mk (show fs.length ≤ 100 ∧ ∀ f ∈ fs, f.2.length ≤ 3 from ⟨by have := hl'.out; have := hyl'.out.1; omega, fun f hf => by have := hm'.out f hf; omega⟩)
          clear hIW0 hb7 hI7 h1 h2 h3 hall hd0 hd1 hd2 hd3 hge hlt
          go_wp2_with (go_at_call 39; refine Stop.out ?_)
          refine ⟨?_⟩
          have hq7 := hq.out
          have hq8 := hgg3.out
          have hq9 := hqg.out
          have EE := (Ex.set w9 ⟨g7, 0, none⟩ (.slice B0' sigs.length e0')).trans (Ex.set _ ⟨g7, 1, none⟩ (.slice B1' fs.length e1')) (fun _ _ h => h)
          have hBx := Aside0.mk ((hIW1.out.ex EE fun b hb => .inr hb).rs (S := fun b => b < w1.heap.size ∨ b = g7) fun b hb => hb)
          have hgB := Aside0.mk (blk_set (blk_set hbx7.out 0 (.slice B0' sigs.length e0')) 1 (.slice B1' fs.length e1'))
          have hgA := Aside0.mk (blk_ex EE hgA7.out (fun e => by have e' : g6 = g7 := e; omega))
          have hix := Aside0.mk (blk_ex EE hix7.out (fun e => by have e' : w.heap.size = g7 := e; omega))
          have hrx := Aside0.mk (blk_ex EE hrx7.out (fun e => by have e' : w.heap.size + 1 = g7 := e; omega))
          have hE59 := Aside0.mk ((hEr.out.then_on hb7'.out).trans EE (fun i hi h => h))
          have hAx := Aside0.mk (hA5.out.ex (hE59.out.mono fun b hb => .inr (by have e' : b = g7 := hb; omega)))
          have hCx := Aside0.mk ((hCr.out.next hb7'.out).ex EE (fun b hb => by have e' : b = g7 := hb; have := hzs.out; omega))
          have hEx := Aside0.mk (hEx5.out.trans hE59.out (fun i hi h => by have e' : i = g7 := h; have := hzs.out; omega))
          have hbl := Aside0.mk (show sigs.length ≤ 5 ∧ fs.length ≤ 200 ∧ ∀ f ∈ fs, f.2.length ≤ 3 from ⟨by show 5 ≤ 5; omega, by have := hfl.out.1; omega, hfl.out.2⟩)
          have hgg := hgg3
          obtain ⟨wx, hwx⟩ : ∃ wx, (w9.setCell ⟨g7, 0, none⟩ (.slice B0' sigs.length e0')).setCell ⟨g7, 1, none⟩ (.slice B1' fs.length e1') = wx := ⟨_, rfl⟩
          rw [hwx] at hBx hgB hgA hix hrx hAx hCx hEx ⊢
          clear hcr hfr EE hq7 hq8 hq9 hE59 hwx
          as_aux_lemma =>
            refine (l1Once_calls _ _ q hCx.out 20 (by omega) (by omega)).mono ?_
            rintro e w8 ⟨v, rfl, ⟨bb, rfl⟩, hC8, hE8⟩
            replace hgA := Aside0.mk (blk_ex hE8 hgA.out (by have := hq.out; have := hgg.out; omega))
            replace hgB := Aside0.mk (blk_ex hE8 hgB.out (by have := hq.out; have := hgg.out; omega))
            replace hrx := Aside0.mk (blk_ex hE8 hrx.out (by have := hq.out; have := hzs.out; omega))
            replace hix := Aside0.mk (blk_ex hE8 hix.out (by have := hq.out; have := hzs.out; omega))
            replace hAx := Aside0.mk (hAx.out.ex (hE8.mono fun b hb => by have := hq.out; omega))
            replace hBx := Aside0.mk (hBx.out.ex (hE8.mono fun b hb => by have := hq.out; omega))
            replace hCx := Aside0.mk hC8
            replace hEx := Aside0.mk (hEx.out.trans hE8 fun _ _ h => h)
            clear hC8 hE8
            cases bb with
            | false =>
              go_wp2
              as_aux_lemma =>
                refine Reg.regionG (fun w' => w'.heap[g6]? = some (.cells #[.slice A0 sigs.length d0, .slice A1 fs0.length d1] 27 (0, 0)) ∧ w'.heap[g7]? = some (.cells #[.slice B0' sigs.length e0', .slice B1' fs.length e1'] 27 (0, 0))) [0,1,2] [3,4,5] 5 (by kernel_rfl) (by kernel_rfl) ⟨hgA.out, hgB.out⟩ ?_
                refine Reg.sG ?_
                refine Reg.sG (hy := by intro w' hS; have hA := blk_cell hS.1; clear hS; (go_simp; first | done | rfl)) ?_
                refine Reg.sG (hy := by intro w' hS; have hA := blk_cell hS.2; clear hS; (go_simp; first | done | rfl)) ?_
                refine Reg.startG ?_
                have hry0 := hrx.out
                have hiy0 := hix.out
                obtain ⟨wy, hwy⟩ : ∃ wy, ({ w8 with drawn := w8.drawn + 1 } : World) = wy := ⟨_, rfl⟩
                have hSy' := Aside0.mk (show On w8 wy from (hwy ▸ on_draw w8))
                rw [hwy]
                clear hwy hry0 hiy0
                have hry := Aside0.mk (blk_below hrx.out hSy'.out)
                have hiy := Aside0.mk (blk_below hix.out hSy'.out)
                have hgAy := Aside0.mk (blk_below hgA.out hSy'.out)
                have hgBy := Aside0.mk (blk_below hgB.out hSy'.out)
                refine Reg.tG ?_
                go_wp2
                refine ⟨⟨hgAy.out, hgBy.out⟩, ?_⟩
                refine Reg.tG ?_
                have hcr := blk_cell hiy.out
                have hfr := blk_frozen hiy.out
                obtain ⟨X, hX⟩ : ∃ X, (wy.setCell ⟨w.heap.size, 0, none⟩ (.slice A0 sigs.length d0)).setCell ⟨w.heap.size, 1, none⟩ (.slice A1 fs0.length d1) = X := ⟨_, rfl⟩
                have EX := Aside0.mk (show Ex (fun b => b = w.heap.size) wy X from hX ▸ (Ex.set wy ⟨w.heap.size, 0, none⟩ (.slice A0 sigs.length d0)).trans (Ex.set _ ⟨w.heap.size, 1, none⟩ (.slice A1 fs0.length d1)) (fun _ _ h => h))
                have hiX := Aside0.mk (show X.heap[w.heap.size]? = some (.cells #[.slice A0 sigs.length d0, .slice A1 fs0.length d1] 27 (0, 0)) from hX ▸ blk_set (blk_set hiy.out 0 _) 1 _)
                have hrX := Aside0.mk (blk_ex EX.out hry.out (by omega))
                have hqs := hq.out
                have hqt := hgg.out
                have hgAX := Aside0.mk (blk_ex EX.out hgAy.out (by omega))
                have hgBX := Aside0.mk (blk_ex EX.out hgBy.out (by omega))
                have hX' := Aside0.mk hX
                clear hX hqs hqt
                go_wp2
                rw [hX'.out]
                refine ⟨⟨hgAX.out, hgBX.out⟩, ?_⟩
                refine Reg.tE ?_
                have hcs := blk_cell hrX.out
                have hfs := blk_frozen hrX.out
                clear hcr hfr
                go_wp2
                have EY := (Ex.set X ⟨w.heap.size + 1, 0, none⟩ (.slice B0' sigs.length e0')).trans (Ex.set _ ⟨w.heap.size + 1, 1, none⟩ (.slice B1' fs.length e1')) (fun _ _ h => h)
                refine bodyPost_ret (retTII rfl rfl rfl (g := w.heap.size) (g' := w.heap.size + 1) (blk_ex EY hiX.out (fun e => by have e' : w.heap.size = w.heap.size + 1 := e; omega)) (blk_set (blk_set hrX.out 0 _) 1 _) rfl rfl) rfl ?_
                have EZ := (Ex.of_on (S := fun b => b = w.heap.size ∨ b = w.heap.size + 1) hSy'.out).trans ((EX.out.mono (S' := fun b => b = w.heap.size ∨ b = w.heap.size + 1) fun _ h => .inl h).trans EY (fun i hi h => .inr h)) (fun _ _ h => h)
                have hqs := hq.out
                have hzz := hzs.out
                refine ⟨_, rfl, q, _, _, sigs, fs0, sigs, fs, rfl, (hAx.out.ex (EZ.mono fun b h => by omega)).mono (fun b h => by omega), (hBx.out.ex (EZ.mono fun b h => by omega)).mono (fun b h => by omega), by show 5 ≤ 5; omega, by have := hfl0.out.1; omega, fun f hf => by have := hfl0.out.2 f hf; omega, hbl.out.1, hbl.out.2.1, hbl.out.2.2, hCx.out.ex EZ (fun b hb => by omega), ?_⟩
                exact Ex.on hb0.out ((hEx.out.mono (S' := fun b => b = q ∨ (b = w.heap.size ∨ b = w.heap.size + 1)) fun _ h => .inl h).trans EZ (fun i hi h => .inr h)) (fun i h => by omega)
            | true =>
              go_wp2_with (go_at_call 43; refine Stop.out ?_)
              refine ⟨(l5Any_calls _ w8 q hCx.out).mono ?_⟩
              clear hBx hbl
              rintro e w9 ⟨v, rfl, ⟨qs, zs, hR, hl0, hl, hl2⟩, hC9, hE9⟩
              have hsz := Aside0.mk (show g7 < w8.heap.size ∧ w1.heap.size ≤ w8.heap.size from ⟨blk_lt hgB.out, by have := blk_lt hgB.out; have := hgg.out; omega⟩)
              obtain ⟨F0, y0, F1, y1, hs', rfl, -⟩ := hR.out
              replace hgA := Aside0.mk (blk_ex hE9 hgA.out (by have := hq.out; have := hgg.out; omega))
              replace hgB := Aside0.mk (blk_ex hE9 hgB.out (by have := hq.out; have := hgg.out; omega))
              replace hrx := Aside0.mk (blk_ex hE9 hrx.out (by have := hq.out; have := hzs.out; omega))
              replace hix := Aside0.mk (blk_ex hE9 hix.out (by have := hq.out; have := hzs.out; omega))
              replace hAx := Aside0.mk (hAx.out.ex (hE9.mono fun b hb => by have := hq.out; omega))
              have hBx := Aside0.mk (hR.mono (S' := fun b => b < w1.heap.size ∨ b = g7) fun b hb => by have := hsz.out; omega)
              have hbl := Aside0.mk (And.intro hl0 (And.intro hl hl2))
              replace hCx := Aside0.mk hC9
              replace hEx := Aside0.mk (hEx.out.trans hE9 fun _ _ h => h)
              clear hC9 hE9 hR hl0 hl hl2
              have hcr := blk_cell hgB.out
              have hfr := blk_frozen hgB.out
              go_wp2
              clear hcr hfr
              have EE := (Ex.set w9 ⟨g7, 0, none⟩ (.slice F0 qs.length y0)).trans (Ex.set _ ⟨g7, 1, none⟩ (.slice F1 zs.length y1)) (fun _ _ h => h)
              have hq7 := hq.out
              have hq8 := hgg.out
              have hq9 := hzs.out
              replace hgA := Aside0.mk (blk_ex EE hgA.out (fun e => by have e' : g6 = g7 := e; omega))
              replace hgB := Aside0.mk (blk_set (blk_set hgB.out 0 (.slice F0 qs.length y0)) 1 (.slice F1 zs.length y1))
              replace hrx := Aside0.mk (blk_ex EE hrx.out (fun e => by have e' : w.heap.size + 1 = g7 := e; omega))
              replace hix := Aside0.mk (blk_ex EE hix.out (fun e => by have e' : w.heap.size = g7 := e; omega))
              replace hAx := Aside0.mk (hAx.out.ex (EE.mono fun b hb => .inr (by have e' : b = g7 := hb; omega)))
              replace hBx := Aside0.mk (hBx.out.ex (EE.mono fun b hb => .inr hb))
              replace hCx := Aside0.mk (hCx.out.ex EE (fun b hb => by have e' : b = g7 := hb; omega))
              replace hEx := Aside0.mk (hEx.out.trans EE (fun i hi h => by have e' : i = g7 := h; omega))
              obtain ⟨wx, hwx⟩ : ∃ wx, (w9.setCell ⟨g7, 0, none⟩ (.slice F0 qs.length y0)).setCell ⟨g7, 1, none⟩ (.slice F1 zs.length y1) = wx := ⟨_, rfl⟩
              rw [hwx] at hBx hgB hgA hix hrx hAx hCx hEx ⊢
              clear EE hq7 hq8 hq9 hwx
              as_aux_lemma =>
                refine Reg.regionG (fun w' => w'.heap[g6]? = some (.cells #[.slice A0 sigs.length d0, .slice A1 fs0.length d1] 27 (0, 0)) ∧ w'.heap[g7]? = some (.cells #[.slice F0 qs.length y0, .slice F1 zs.length y1] 27 (0, 0))) [0,1,2] [3,4,5] 5 (by kernel_rfl) (by kernel_rfl) ⟨hgA.out, hgB.out⟩ ?_
                refine Reg.sG ?_
                refine Reg.sG (hy := by intro w' hS; have hA := blk_cell hS.1; clear hS; (go_simp; first | done | rfl)) ?_
                refine Reg.sG (hy := by intro w' hS; have hA := blk_cell hS.2; clear hS; (go_simp; first | done | rfl)) ?_
                refine Reg.startG ?_
                have hry0 := hrx.out
                have hiy0 := hix.out
                obtain ⟨wy, hwy⟩ : ∃ wy, ({ wx with drawn := wx.drawn + 1 } : World) = wy := ⟨_, rfl⟩
                have hSy' := Aside0.mk (show On wx wy from (hwy ▸ on_draw wx))
                rw [hwy]
                clear hwy hry0 hiy0
                have hry := Aside0.mk (blk_below hrx.out hSy'.out)
                have hiy := Aside0.mk (blk_below hix.out hSy'.out)
                have hgAy := Aside0.mk (blk_below hgA.out hSy'.out)
                have hgBy := Aside0.mk (blk_below hgB.out hSy'.out)
                refine Reg.tG ?_
                go_wp2
                refine ⟨⟨hgAy.out, hgBy.out⟩, ?_⟩
                refine Reg.tG ?_
                have hcr := blk_cell hiy.out
                have hfr := blk_frozen hiy.out
                obtain ⟨X, hX⟩ : ∃ X, (wy.setCell ⟨w.heap.size, 0, none⟩ (.slice A0 sigs.length d0)).setCell ⟨w.heap.size, 1, none⟩ (.slice A1 fs0.length d1) = X := ⟨_, rfl⟩
                have EX := Aside0.mk (show Ex (fun b => b = w.heap.size) wy X from hX ▸ (Ex.set wy ⟨w.heap.size, 0, none⟩ (.slice A0 sigs.length d0)).trans (Ex.set _ ⟨w.heap.size, 1, none⟩ (.slice A1 fs0.length d1)) (fun _ _ h => h))
                have hiX := Aside0.mk (show X.heap[w.heap.size]? = some (.cells #[.slice A0 sigs.length d0, .slice A1 fs0.length d1] 27 (0, 0)) from hX ▸ blk_set (blk_set hiy.out 0 _) 1 _)
                have hrX := Aside0.mk (blk_ex EX.out hry.out (by omega))
                have hqs := hq.out
                have hqt := hgg.out
                have hgAX := Aside0.mk (blk_ex EX.out hgAy.out (by omega))
                have hgBX := Aside0.mk (blk_ex EX.out hgBy.out (by omega))
                have hX' := Aside0.mk hX
                clear hX hqs hqt
                go_wp2
                rw [hX'.out]
                refine ⟨⟨hgAX.out, hgBX.out⟩, ?_⟩
                refine Reg.tE ?_
                have hcs := blk_cell hrX.out
                have hfs := blk_frozen hrX.out
                clear hcr hfr
                go_wp2
                have EY := (Ex.set X ⟨w.heap.size + 1, 0, none⟩ (.slice F0 qs.length y0)).trans (Ex.set _ ⟨w.heap.size + 1, 1, none⟩ (.slice F1 zs.length y1)) (fun _ _ h => h)
                refine bodyPost_ret (retTII rfl rfl rfl (g := w.heap.size) (g' := w.heap.size + 1) (blk_ex EY hiX.out (fun e => by have e' : w.heap.size = w.heap.size + 1 := e; omega)) (blk_set (blk_set hrX.out 0 _) 1 _) rfl rfl) rfl ?_
                have EZ := (Ex.of_on (S := fun b => b = w.heap.size ∨ b = w.heap.size + 1) hSy'.out).trans ((EX.out.mono (S' := fun b => b = w.heap.size ∨ b = w.heap.size + 1) fun _ h => .inl h).trans EY (fun i hi h => .inr h)) (fun _ _ h => h)
                have hqs := hq.out
                have hzz := hzs.out
                refine ⟨_, rfl, q, _, _, sigs, fs0, qs, zs, rfl, (hAx.out.ex (EZ.mono fun b h => by omega)).mono (fun b h => by omega), (hBx.out.ex (EZ.mono fun b h => by omega)).mono (fun b h => by omega), by show 5 ≤ 5; omega, by have := hfl0.out.1; omega, fun f hf => by have := hfl0.out.2 f hf; omega, hbl.out.1, hbl.out.2.1, hbl.out.2.2, hCx.out.ex EZ (fun b hb => by omega), ?_⟩
                exact Ex.on hb0.out ((hEx.out.mono (S' := fun b => b = q ∨ (b = w.heap.size ∨ b = w.heap.size + 1)) fun _ h => .inl h).trans EZ (fun i hi h => .inr h)) (fun i h => by omega)
end Go.Proofs.YtgemaohdlibboaaGreat.H
/- Walks: the draws of two instances for homomorphisms; a byte of the code. What is told: sizes and ranges. No condition. -/
namespace Go.Proofs.YtgemaohdlibboaaGreat.H
open Go Go.RowKit Go.Proofs.YtgemaohdlibboaaGreatW.PrintWords Go.Proofs.YtgemaohdlibboaaGreatW.PrintLast
open Go.Proofs.YtgemaohdlibboaaGreat.Reg (On on_draw)
set_option maxHeartbeats 4000000
set_option maxRecDepth 100000
set_option linter.unusedVariables false
set_option linter.unusedSimpArgs false

section
variable {fn : Func} {p u : Tmp} {tmps : Array Value} {w : World} {g g' : Nat} {t t' : TypeId} {cs cs' : Array Value} {fr fr' : Nat × Nat}
theorem retII (h : fn.results = #[.cell p 27, .cell u 27]) (hp : tmps.getD p undef = .pointer (some ⟨g, 0, none⟩)) (hp' : tmps.getD u undef = .pointer (some ⟨g', 0, none⟩)) (hg : w.heap[g]? = some (.cells cs t fr)) (hg' : w.heap[g']? = some (.cells cs' t' fr')) (hs : cs.size = 2) (hs' : cs'.size = 2) : (results fn tmps).run Tryz.prog w = .ok (.tuple #[.agg cs, .agg cs']) w :=
  results_cc h tmps w g g' t t' cs cs' fr fr' _ _ hp hg Tryz.underlying27 rfl (by rw [hs]; kernel_rfl) hp' hg' Tryz.underlying27 rfl (by rw [hs']; kernel_rfl)
end
/-- Two instances drawn. -/
abbrev DrI (w : World) (v : Value) (w' : World) : Prop := ∃ v1 v2 rs fs qs gs, v = .tuple #[v1, v2] ∧ RS (fun b => b < w.heap.size) w' v1 rs fs ∧ RS (fun b => b < w.heap.size) w' v2 qs gs ∧ rs.length ≤ 5 ∧ fs.length ≤ 200 ∧ (∀ f ∈ fs, f.2.length ≤ 3) ∧ qs.length ≤ 5 ∧ gs.length ≤ 200 ∧ (∀ f ∈ gs, f.2.length ≤ 3) ∧ On w w'
theorem DrawFindHomomorphism_calls (w : World) (A c) (xs : List Int) (hc : xs.length ≤ c) (hK : kBytes.C w A xs.length xs) :
    Calls Tryz.prog 5 #[.slice A xs.length c] w (Got (DrI w)) := by
  have hb0 := Aside0.mk (On.alloc (On.alloc (On.refl w) (.cells #[.slice none 0 0, .slice none 0 0] 27 (0, 0))) (.cells #[.slice none 0 0, .slice none 0 0] 27 (0, 0)))
  have hL := Aside0.mk (loc2 w #[.slice none 0 0, .slice none 0 0] #[.slice none 0 0, .slice none 0 0] 27 27)
  have hK' := Aside0.mk hK
  have hc' := Aside0.mk hc
  clear hK hc
  go_enter Tryz.func5, Tryz.ntmps5
  go_wp2_with (go_at_call 19; refine Stop.out ?_)
  refine ⟨(l7Two_calls _ A c xs hc'.out (Kd.C_below hK'.out hb0.out)).mono ?_⟩
  rintro e w1 ⟨v, rfl, q, v1, v2, rs, fs, qs, gs, rfl, hR, hF, hl0, hl, hl2, hl3, hl4, hl5, -, hb1⟩
  obtain ⟨A0, n0, c0, A1, n1, c1, rfl⟩ := hR.read.shape
  obtain ⟨B0, m0, d0, B1, m1, d1, rfl⟩ := hF.read.shape
  have hR' := Aside0.mk hR
  have hF' := Aside0.mk hF
  have hl' := Aside0.mk (And.intro hl0 (And.intro hl (And.intro hl2 (And.intro hl3 (And.intro hl4 hl5)))))
  have hb1' := Aside0.mk (hb0.out.trans hb1)
  have hsz := Aside0.mk (show w.heap.size + 2 ≤ w1.heap.size by have := hb1.size; simpa using this)
  have hi := Aside0.mk (blk_below hL.out.1 hb1)
  have hr := Aside0.mk (blk_below hL.out.2.1 hb1)
  clear hR hF hl0 hl hl2 hl3 hl4 hl5 hb1
  have hL5 := Aside0.mk (loc2 w1 #[.slice none 0 0, .slice none 0 0] #[.slice none 0 0, .slice none 0 0] 27 27)
  have hd0 := blk_cell hL5.out.1
  have hd1 := blk_cell hL5.out.2.1
  have hf0 := blk_frozen hL5.out.1
  have hf1 := blk_frozen hL5.out.2.1
  go_wp2
  clear hd0 hd1 hf0 hf1 hL5
  obtain ⟨W3, hW3⟩ : ∃ W3, (w1.alloc (.cells #[.slice A0 n0 c0, .slice A1 n1 c1] 27 (0, 0))).alloc (.cells #[.slice B0 m0 d0, .slice B1 m1 d1] 27 (0, 0)) = W3 := ⟨_, rfl⟩
  have hS3 := Aside0.mk (show On w1 W3 from hW3 ▸ On.alloc (On.alloc (On.refl _) _) _)
  have hL3 := Aside0.mk (show Loc W3 [(w1.heap.size, #[.slice A0 n0 c0, .slice A1 n1 c1], 27), (w1.heap.size + 1, #[.slice B0 m0 d0, .slice B1 m1 d1], 27)] from hW3 ▸ loc2 w1 _ _ _ _)
  rw [hW3]
  clear hW3
  obtain ⟨g3, hg3⟩ : ∃ g3, w1.heap.size = g3 := ⟨_, rfl⟩
  rw [hg3] at hL3 hsz ⊢
  clear hg3
  refine Reg.regionG (fun w' => w'.heap[g3]? = some (.cells #[.slice A0 n0 c0, .slice A1 n1 c1] 27 (0, 0)) ∧ w'.heap[g3 + 1]? = some (.cells #[.slice B0 m0 d0, .slice B1 m1 d1] 27 (0, 0))) [0,1] [2,3] 3 (by kernel_rfl) (by kernel_rfl) ⟨hL3.out.1, hL3.out.2.1⟩ ?_
  refine Reg.sG (hy := by intro w' hS; have hA := blk_cell hS.1; clear hS; (go_simp; first | done | rfl)) ?_
  refine Reg.sG (hy := by intro w' hS; have hA := blk_cell hS.2; clear hS; (go_simp; first | done | rfl)) ?_
  refine Reg.startG ?_
  obtain ⟨wy, hwy⟩ : ∃ wy, ({ W3 with drawn := W3.drawn + 1 } : World) = wy := ⟨_, rfl⟩
  have hSy := Aside0.mk (show On w1 wy from hS3.out.trans (hwy ▸ on_draw W3))
  have hLy := Aside0.mk (show Loc wy _ from Loc.on (hwy ▸ on_draw W3) hL3.out)
  rw [hwy]
  clear hwy
  have hry := Aside0.mk (blk_below hr.out hSy.out)
  have hiy := Aside0.mk (blk_below hi.out hSy.out)
  refine Reg.tG ?_
  have hcr := blk_cell hiy.out
  have hfr := blk_frozen hiy.out
  obtain ⟨X, hX⟩ : ∃ X, (wy.setCell ⟨w.heap.size, 0, none⟩ (.slice A0 n0 c0)).setCell ⟨w.heap.size, 1, none⟩ (.slice A1 n1 c1) = X := ⟨_, rfl⟩
  have EX := Aside0.mk (show Ex (fun b => b = w.heap.size) wy X from hX ▸ (Ex.set wy ⟨w.heap.size, 0, none⟩ (.slice A0 n0 c0)).trans (Ex.set _ ⟨w.heap.size, 1, none⟩ (.slice A1 n1 c1)) (fun _ _ h => h))
  have hiX := Aside0.mk (show X.heap[w.heap.size]? = some (.cells #[.slice A0 n0 c0, .slice A1 n1 c1] 27 (0, 0)) from hX ▸ blk_set (blk_set hiy.out 0 _) 1 _)
  have hrX := Aside0.mk (blk_ex EX.out hry.out (by omega))
  have hqs := hsz.out
  have hgA := Aside0.mk (blk_ex EX.out hLy.out.1 (by omega))
  have hgB := Aside0.mk (blk_ex EX.out hLy.out.2.1 (by omega))
  have hX' := Aside0.mk hX
  clear hX hqs
  go_wp2
  rw [hX'.out]
  refine ⟨⟨hgA.out, hgB.out⟩, ?_⟩
  refine Reg.tE ?_
  have hcs := blk_cell hrX.out
  have hfs := blk_frozen hrX.out
  clear hcr hfr
  go_wp2
  have EY := (Ex.set X ⟨w.heap.size + 1, 0, none⟩ (.slice B0 m0 d0)).trans (Ex.set _ ⟨w.heap.size + 1, 1, none⟩ (.slice B1 m1 d1)) (fun _ _ h => h)
  refine bodyPost_ret (retII rfl rfl rfl (g := w.heap.size) (g' := w.heap.size + 1) (blk_ex EY hiX.out (fun e => by have e' : w.heap.size = w.heap.size + 1 := e; omega)) (blk_set (blk_set hrX.out 0 _) 1 _) rfl rfl) rfl ?_
  have EZ := (EX.out.mono (S' := fun b => b = w.heap.size ∨ b = w.heap.size + 1) fun _ h => .inl h).trans EY (fun i hi h => .inr h)
  exact ⟨_, rfl, _, _, rs, fs, qs, gs, rfl, ((hR'.out.on hSy.out).ex (EZ.mono fun b h => by simp; omega)).mono (fun b h => by simp; omega), ((hF'.out.on hSy.out).ex (EZ.mono fun b h => by simp; omega)).mono (fun b h => by simp; omega), hl'.out.1, hl'.out.2.1, hl'.out.2.2.1, hl'.out.2.2.2.1, hl'.out.2.2.2.2.1, hl'.out.2.2.2.2.2, Ex.on (hb1'.out.trans hSy.out) EZ (fun i e => by omega)⟩
end Go.Proofs.YtgemaohdlibboaaGreat.H
/- Bindings, the search for homomorphisms. Plain. No condition. -/
namespace Go.Proofs.YtgemaohdlibboaaGreat.H
open Go Go.RowKit Go.Proofs.YtgemaohdlibboaaGreatW.PrintWords Go.Proofs.YtgemaohdlibboaaGreatW.PrintLast
set_option linter.unusedVariables false
set_option linter.unusedSimpArgs false

/-- A binding of nulls: forty cells, 10 where nothing is bound. -/
def nxt (l : List Int) (v w : Int) : Option (List Int) := if isNul v then (if l.getD (nulNum v).toNat 10 ≠ 10 ∧ l.getD (nulNum v).toNat 10 ≠ w then none else some (l.set (nulNum v).toNat w)) else if v ≠ w then none else some l
def fitFrom : List Int → List Int → List Int → Option (List Int)
  | [], _, x => some x
  | v :: fv, gv, x => (nxt x v (gv.headD 0)).bind fun y => fitFrom fv gv.tail y
def fit (f g : Fct) (x : List Int) : Option (List Int) := if f.1 ≠ g.1 ∨ f.2.length ≠ g.2.length then none else fitFrom f.2 g.2 x
theorem fitFrom_step (fv gv x : List Int) (k : Nat) (h : k < fv.length) (h2 : k < gv.length) : fitFrom (fv.drop k) (gv.drop k) x = (nxt x fv[k] gv[k]).bind fun y => fitFrom (fv.drop (k + 1)) (gv.drop (k + 1)) y := by
  rw [List.drop_eq_getElem_cons h, List.drop_eq_getElem_cons h2]
  rfl
/-- The bindings that go on from x over the facts, at most so many. -/
def walk (tos : List Fct) : List Fct → List Int → Nat → List (List Int)
  | [], x, _ => [x]
  | f :: fs, x, most => tos.foldl (fun out g => if out.length < most then (match fit f g x with | some y => out ++ walk tos fs y (most - out.length) | none => out) else out) []
def wstep (tos fs : List Fct) (f : Fct) (x : List Int) (most : Nat) (out : List (List Int)) (g : Fct) : List (List Int) := if out.length < most then (match fit f g x with | some y => out ++ walk tos fs y (most - out.length) | none => out) else out
theorem walk_cons (tos fs : List Fct) (f : Fct) (x : List Int) (most : Nat) : walk tos (f :: fs) x most = tos.foldl (wstep tos fs f x most) [] := rfl
theorem wstep_full {tos fs : List Fct} {f : Fct} {x : List Int} {most : Nat} {out : List (List Int)} (h : most ≤ out.length) : ∀ l : List Fct, l.foldl (wstep tos fs f x most) out = out
  | [] => rfl
  | g :: l => by
    rw [List.foldl_cons, show wstep tos fs f x most out g = out by unfold wstep; rw [if_neg (by omega)]]
    exact wstep_full h l
theorem wfold_succ (tos fs : List Fct) (f : Fct) (x : List Int) (most : Nat) (k : Nat) (h : k < tos.length) : (tos.take (k + 1)).foldl (wstep tos fs f x most) [] = wstep tos fs f x most ((tos.take k).foldl (wstep tos fs f x most) []) tos[k] := by
  rw [List.take_succ_eq_append_getElem h, List.foldl_append]; rfl
theorem wfold_stop (tos fs : List Fct) (f : Fct) (x : List Int) (most : Nat) (k : Nat) (h : most ≤ ((tos.take k).foldl (wstep tos fs f x most) []).length) : tos.foldl (wstep tos fs f x most) [] = (tos.take k).foldl (wstep tos fs f x most) [] := by
  have e : tos.foldl (wstep tos fs f x most) [] = (tos.take k ++ tos.drop k).foldl (wstep tos fs f x most) [] := by rw [List.take_append_drop]
  rw [e, List.foldl_append]
  exact wstep_full h _
theorem walk_len (tos : List Fct) : ∀ (fs : List Fct) (x : List Int) (most : Nat), 1 ≤ most → (walk tos fs x most).length ≤ most
  | [], _, _, h => h
  | f :: fs, x, most, h => by
    rw [walk_cons]
    have : ∀ (l : List Fct) (out : List (List Int)), out.length ≤ most → (l.foldl (wstep tos fs f x most) out).length ≤ most := by
      intro l
      induction l with
      | nil => intro out h; exact h
      | cons g l ih =>
        intro out ho
        rw [List.foldl_cons]
        refine ih _ ?_
        unfold wstep
        split
        · rename_i hlt
          split
          · rename_i y _
            have := walk_len tos fs y (most - out.length) (by omega)
            rw [List.length_append]; omega
          · exact ho
        · exact ho
    exact this tos [] (Nat.zero_le _)
/-- The substitution that a binding is. -/
def subI : Nat → List Int → List Int × List Int
  | _, [] => ([], [])
  | k, v :: l => if v = 10 then subI (k + 1) l else ((k : Int) :: (subI (k + 1) l).1, v :: (subI (k + 1) l).2)
def none40 : List Int := List.replicate 40 10
def homs (r1 : List Rel) (f1 : List Fct) (r2 : List Rel) (f2 : List Fct) (most : Nat) : List (List Int) := if okInst r1 f1 && okInst r2 f2 && decide (r1 = r2) then walk f2 f1 none40 most else []
def subs (r1 : List Rel) (f1 : List Fct) (r2 : List Rel) (f2 : List Fct) (most : Nat) : List (List Int × List Int) := (homs r1 f1 r2 f2 most).map (subI 0)
def hasHom (r1 : List Rel) (f1 : List Fct) (r2 : List Rel) (f2 : List Fct) : Bool := decide ((homs r1 f1 r2 f2 1).length ≠ 0)
theorem subI_len (k : Nat) (l : List Int) : (subI k l).1.length = (subI k l).2.length ∧ (subI k l).1.length ≤ l.length := by
  induction l generalizing k with
  | nil => simp [subI]
  | cons v l ih =>
    unfold subI
    have := ih (k + 1)
    split
    · simp; omega
    · simp; omega
theorem subI_cons (k : Nat) (v : Int) (l : List Int) : subI k (v :: l) = if v = 10 then subI (k + 1) l else ((k : Int) :: (subI (k + 1) l).1, v :: (subI (k + 1) l).2) := rfl
theorem subI_append (k : Nat) (a b : List Int) : subI k (a ++ b) = ((subI k a).1 ++ (subI (k + a.length) b).1, (subI k a).2 ++ (subI (k + a.length) b).2) := by
  induction a generalizing k with
  | nil => simp [subI]
  | cons v a ih =>
    have e : k + (v :: a).length = k + 1 + a.length := by simp; omega
    rw [List.cons_append, subI_cons, subI_cons, ih (k + 1), e]
    split <;> simp
theorem subI_succ (l : List Int) (k : Nat) (h : k < l.length) : subI 0 (l.take (k + 1)) = if l[k] = 10 then subI 0 (l.take k) else ((subI 0 (l.take k)).1 ++ [(k : Int)], (subI 0 (l.take k)).2 ++ [l[k]]) := by
  rw [List.take_succ_eq_append_getElem h, subI_append]
  have : (l.take k).length = k := by rw [List.length_take]; omega
  rw [this, Nat.zero_add]
  simp only [subI]
  split <;> simp
end Go.Proofs.YtgemaohdlibboaaGreat.H
/- Plain: when a homomorphism exists. No condition. -/
namespace Go.Proofs.YtgemaohdlibboaaGreat.H
open Go Go.RowKit
set_option linter.unusedVariables false
set_option linter.unusedSimpArgs false

def valB (y : List Int) (v : Int) : Int := if isNul v then y.getD (nulNum v).toNat 10 else v
def imgB (y : List Int) (f : Fct) : Fct := (f.1, f.2.map (valB y))
/-- y tells all that x tells. -/
def ExtB (x y : List Int) : Prop := ∀ k : Nat, x.getD k 10 ≠ 10 → y.getD k 10 = x.getD k 10
theorem ExtB.refl (x : List Int) : ExtB x x := fun _ _ => rfl
theorem ExtB.trans {x y z : List Int} (h1 : ExtB x y) (h2 : ExtB y z) : ExtB x z := fun k hk => by
  have e := h1 k hk
  rw [h2 k (by rw [e]; exact hk), e]
theorem nul_lt (v : Int) : (nulNum v).toNat < 40 := by have := nulNum_bd v; omega
theorem getD_set (x : List Int) (i : Nat) (w : Int) (k : Nat) (hi : i < x.length) : (x.set i w).getD k 10 = if k = i then w else x.getD k 10 := by
  rw [List.getD_eq_getElem?_getD, List.getD_eq_getElem?_getD, List.getElem?_set]
  by_cases c : i = k
  · subst c; simp [hi]
  · rw [if_neg c, if_neg (fun e => c e.symm)]
theorem valB_ext {y z : List Int} {v : Int} (h : ExtB y z) (hv : valB y v ≠ 10) : valB z v = valB y v := by
  unfold valB at *
  by_cases c : isNul v = true
  · rw [if_pos c] at hv ⊢; rw [if_pos c]; exact h _ hv
  · rw [if_neg c, if_neg c]
/-- What a step of the search tells: y goes on from x; new cells hold good values and belong to nulls of vs. -/
structure Snd (vs x y : List Int) : Prop where
  ext : ExtB x y
  len : y.length = 40
  new : ∀ k : Nat, y.getD k 10 ≠ 10 → x.getD k 10 ≠ 10 ∨ (okVal (y.getD k 10) = true ∧ ∃ v ∈ vs, isNul v = true ∧ (nulNum v).toNat = k)
theorem Snd.trans {vs us x y z : List Int} (h1 : Snd vs x y) (h2 : Snd us y z) : Snd (vs ++ us) x z :=
  ⟨h1.ext.trans h2.ext, h2.len, fun k hk => by
    rcases h2.new k hk with h | ⟨ho, v, hv, h⟩
    · have e := h2.ext k h
      rcases h1.new k h with h | ⟨ho, v, hv, h⟩
      · exact .inl h
      · exact .inr ⟨by rw [e]; exact ho, v, List.mem_append_left _ hv, h⟩
    · exact .inr ⟨ho, v, List.mem_append_right _ hv, h⟩⟩
theorem ok_ne {w : Int} (h : okVal w = true) : w ≠ 10 := by simp only [okVal, decide_eq_true_eq] at h; omega
theorem nxt_snd {x y : List Int} {v w : Int} (h : nxt x v w = some y) (hw : okVal w = true) (hl : x.length = 40) : Snd [v] x y ∧ valB y v = w := by
  have hk := nul_lt v
  have hne := ok_ne hw
  unfold nxt at h
  unfold valB
  by_cases c : isNul v = true
  · rw [if_pos c] at h ⊢
    split at h
    · cases h
    · rename_i hc
      injection h with h
      subst h
      have hcur : x.getD (nulNum v).toNat 10 ≠ 10 → w = x.getD (nulNum v).toNat 10 := fun h1 => Decidable.byContradiction fun h2 => hc ⟨h1, fun e => h2 e.symm⟩
      refine ⟨⟨fun k hk' => ?_, by rw [List.length_set]; exact hl, fun k hk' => ?_⟩, by rw [getD_set _ _ _ _ (by omega), if_pos rfl]⟩
      · rw [getD_set _ _ _ _ (by omega)]
        by_cases e : k = (nulNum v).toNat
        · rw [if_pos e]; subst e; exact hcur hk'
        · rw [if_neg e]
      · rw [getD_set _ _ _ _ (by omega)] at hk' ⊢
        by_cases e : k = (nulNum v).toNat
        · rw [if_pos e] at hk' ⊢
          exact .inr ⟨hw, v, List.mem_singleton.2 rfl, c, e.symm⟩
        · rw [if_neg e] at hk' ⊢; exact .inl hk'
  · rw [if_neg c] at h ⊢
    split at h
    · cases h
    · rename_i hc
      injection h with h
      subst h
      exact ⟨⟨ExtB.refl _, hl, fun k hk => .inl hk⟩, Decidable.byContradiction fun e => hc e⟩
theorem fitFrom_snd : ∀ (fv gv x y : List Int), fv.length = gv.length → (∀ w ∈ gv, okVal w = true) → x.length = 40 → fitFrom fv gv x = some y → Snd fv x y ∧ fv.map (valB y) = gv
  | [], [], x, y, _, _, hl, h => by unfold fitFrom at h; injection h with h; subst h; exact ⟨⟨ExtB.refl _, hl, fun k hk => .inl hk⟩, rfl⟩
  | [], _ :: _, _, _, hn, _, _, _ => by simp at hn
  | _ :: _, [], _, _, hn, _, _, _ => by simp at hn
  | v :: fv, w :: gv, x, y, hn, hg, hl, h => by
    have hh : (nxt x v w).bind (fun y => fitFrom fv gv y) = some y := h
    cases hz : nxt x v w with
    | none => rw [hz] at hh; cases hh
    | some z =>
      rw [hz] at hh
      obtain ⟨s1, e1⟩ := nxt_snd hz (hg w List.mem_cons_self) hl
      obtain ⟨s2, e2⟩ := fitFrom_snd fv gv z y (by simpa using hn) (fun w hw => hg w (List.mem_cons_of_mem _ hw)) s1.len hh
      refine ⟨by simpa using s1.trans s2, ?_⟩
      rw [List.map_cons, e2, valB_ext s2.ext (by rw [e1]; exact ok_ne (hg w List.mem_cons_self)), e1]
theorem fit_snd {f g : Fct} {x y : List Int} (h : fit f g x = some y) (hg : ∀ w ∈ g.2, okVal w = true) (hl : x.length = 40) : Snd f.2 x y ∧ imgB y f = g := by
  unfold fit at h
  split at h
  · cases h
  · rename_i hc
    have h1 : f.1 = g.1 := Decidable.byContradiction fun c => hc (.inl c)
    have h2 : f.2.length = g.2.length := Decidable.byContradiction fun c => hc (.inr c)
    obtain ⟨s, e⟩ := fitFrom_snd f.2 g.2 x y h2 hg hl h
    exact ⟨s, by unfold imgB; rw [h1, e]⟩
theorem imgB_ext {y z : List Int} {f : Fct} (h : ExtB y z) (hv : ∀ w ∈ (imgB y f).2, w ≠ 10) : imgB z f = imgB y f := by
  unfold imgB at *
  congr 1
  refine List.map_congr_left fun v hm => valB_ext h (hv _ (List.mem_map.2 ⟨v, hm, rfl⟩))
abbrev vsAll (fs : List Fct) : List Int := fs.flatMap fun f => f.2
theorem walk_snd {tos : List Fct} (hT : ∀ g ∈ tos, ∀ w ∈ g.2, okVal w = true) : ∀ (fs : List Fct) (x : List Int) (most : Nat), x.length = 40 → ∀ y ∈ walk tos fs x most, Snd (vsAll fs) x y ∧ ∀ f ∈ fs, imgB y f ∈ tos
  | [], x, _, hl, y, hy => by rw [walk] at hy; rw [List.mem_singleton.1 hy]; exact ⟨⟨ExtB.refl _, hl, fun k hk => .inl hk⟩, fun f hf => by cases hf⟩
  | f :: fs, x, most, hl, y, hy => by
    rw [walk_cons] at hy
    have key : ∀ (l : List Fct) (out : List (List Int)), (∀ g ∈ l, g ∈ tos) → (∀ y ∈ out, Snd (vsAll (f :: fs)) x y ∧ ∀ g ∈ f :: fs, imgB y g ∈ tos) → ∀ y ∈ l.foldl (wstep tos fs f x most) out, Snd (vsAll (f :: fs)) x y ∧ ∀ g ∈ f :: fs, imgB y g ∈ tos := by
      intro l
      induction l with
      | nil => intro out _ h; exact h
      | cons g l ih =>
        intro out hl' ho
        rw [List.foldl_cons]
        refine ih _ (fun z hz => hl' z (List.mem_cons_of_mem _ hz)) ?_
        unfold wstep
        split
        · split
          · rename_i z hz
            intro y hy
            rcases List.mem_append.1 hy with hy | hy
            · exact ho y hy
            · have hgt := hl' g List.mem_cons_self
              obtain ⟨s1, e1⟩ := fit_snd hz (hT g hgt) hl
              obtain ⟨s2, e2⟩ := walk_snd hT fs z _ s1.len y hy
              refine ⟨by simpa [vsAll] using s1.trans s2, fun k hk => ?_⟩
              rcases List.mem_cons.1 hk with rfl | hk
              · rw [imgB_ext s2.ext (by rw [e1]; exact fun w hw => ok_ne (hT g hgt w hw)), e1]; exact hgt
              · exact e2 k hk
          · exact ho
        · exact ho
    exact key tos [] (fun g hg => hg) (by simp) y hy
theorem okInst_vals {rs : List Rel} {fs : List Fct} (h : okInst rs fs = true) : ∀ g ∈ fs, ∀ w ∈ g.2, okVal w = true := fun g hg => by
  have : okFact rs g = true := by
    have h0 : factsFrom rs none fs = true := by simp only [okInst, Bool.and_eq_true] at h; exact h.1
    clear h
    revert h0
    generalize (none : Option Fct) = p
    induction fs generalizing p with
    | nil => cases hg
    | cons a l ih =>
      intro h0
      simp only [factsFrom, okNext, Bool.and_eq_true] at h0
      rcases List.mem_cons.1 hg with rfl | hg
      · exact h0.1.1.1
      · exact ih hg _ h0.2
  simp only [okFact, Bool.and_eq_true, List.all_eq_true] at this
  exact this.2
end Go.Proofs.YtgemaohdlibboaaGreat.H
