/- Walks and plain laws for the law FnHomomorphisms, part 8 of 8: the texts HQFnHomomorphisms in one. No condition. -/
import Derived.Test.YtgemaohdlibboaaGreatZFnHomomorphisms7
/- Walks: the law FnHomomorphisms. No condition. -/
namespace Go.Proofs.YtgemaohdlibboaaGreat.H
open Go Go.RowKit Go.Proofs.YtgemaohdlibboaaGreatW.PrintWords Go.Proofs.YtgemaohdlibboaaGreatW.PrintLast
open Go.Proofs.YtgemaohdlibboaaGreat.Reg (On on_draw)
set_option maxHeartbeats 8000000
set_option maxRecDepth 100000
set_option linter.unusedVariables false
set_option linter.unusedSimpArgs false

theorem flF_at : ∀ (ss : List Su) (i : Nat) (h : i < ss.length), (flF ss)[2 * i]? = some ((0 : Int), ss[i].1) ∧ (flF ss)[2 * i + 1]? = some ((0 : Int), ss[i].2)
  | s :: ss, 0, _ => ⟨rfl, rfl⟩
  | s :: ss, i + 1, h => by
    have ih := flF_at ss i (by simpa using h)
    have e : flF (s :: ss) = ((0 : Int), s.1) :: ((0 : Int), s.2) :: flF ss := rfl
    rw [e, show 2 * (i + 1) = 2 * i + 1 + 1 by omega]
    simpa using ih
theorem flF_length (ss : List Su) : (flF ss).length = 2 * ss.length := by
  induction ss with
  | nil => rfl
  | cons s ss ih =>
    have e : flF (s :: ss) = ((0 : Int), s.1) :: ((0 : Int), s.2) :: flF ss := rfl
    rw [e]; simp [ih]; omega
/-- A row of substitutions that can be read. -/
structure RSS (w : World) (v : Value) (ss : List Su) : Prop where mk :: (out : ∃ A c, v = .slice A ss.length c ∧ ss.length ≤ 9223372036854775807 ∧ ∀ (i : Nat) (h : i < ss.length), ∃ ad A1 c1 A2 c2, A = some ad ∧ w.cell? (ad.add (i * 2)) = some (.slice A1 ss[i].1.length c1) ∧ w.cell? ⟨(ad.add (i * 2)).block, (ad.add (i * 2)).off + 1, none⟩ = some (.slice A2 ss[i].2.length c2) ∧ Ints w A1 c1 ss[i].1 ∧ Ints w A2 c2 ss[i].2)
theorem RSS.on {W w : World} {v : Value} {ss : List Su} (h : RSS W v ss) (hb : On W w) : RSS w v ss := by
  obtain ⟨A, c, e, hm, hall⟩ := h.out
  refine ⟨A, c, e, hm, fun i hi => ?_⟩
  obtain ⟨ad, A1, c1, A2, c2, e1, x0, x1, i1, i2⟩ := hall i hi
  exact ⟨ad, A1, c1, A2, c2, e1, (hb.eq _ (by rw [x0]; rfl)).trans x0, (hb.eq _ (by rw [x1]; rfl)).trans x1, i1.on hb, i2.on hb⟩
theorem RRw.ss {w : World} {v : Value} {ss : List Su} (h : RRw w v (flF ss)) : RSS w v ss := by
  obtain ⟨A, c, n, e, hl, hm, hall⟩ := h.out
  rw [flF_length] at hl
  have hn : n = ss.length := by omega
  subst hn
  refine ⟨A, c, e, hm, fun i hi => ?_⟩
  obtain ⟨h1, h2⟩ := flF_at ss i hi
  exact hall i hi _ _ h1 h2
theorem areV (w : World) (v u : Value) (rs : List Rel) (fs : List Fct) (qs : List Rel) (gs : List Fct) (h : RIn w v rs fs) (k : RIn w u qs gs) : Calls Tryz.prog 17 #[v, u] w fun e w' => e = .returned (.bool (hasHom rs fs qs gs && hasHom qs gs rs fs)) ∧ On w w' := by
  obtain ⟨A0, c0, A1, c1, rfl, h0, h1⟩ := h.out
  obtain ⟨A2, c2, A3, c3, rfl, h2, h3⟩ := k.out
  exact iAre_calls w A0 c0 A1 c1 rs fs h0 h1 A2 c2 A3 c3 qs gs h2 h3
theorem ihasV (w : World) (v u : Value) (rs : List Rel) (fs : List Fct) (qs : List Rel) (gs : List Fct) (h : RIn w v rs fs) (k : RIn w u qs gs) : Calls Tryz.prog 11 #[v, u] w fun e w' => e = .returned (.bool (hasHom rs fs qs gs)) ∧ On w w' := by
  obtain ⟨A0, c0, A1, c1, rfl, h0, h1⟩ := h.out
  obtain ⟨A2, c2, A3, c3, rfl, h2, h3⟩ := k.out
  exact iHas_calls w A0 c0 A1 c1 rs fs h0 h1 A2 c2 A3 c3 qs gs h2 h3
theorem shasV (w : World) (v u : Value) (rs : List Rel) (fs : List Fct) (qs : List Rel) (gs : List Fct) (h : RIn w v rs fs) (k : RIn w u qs gs) : Calls Tryz.prog 18 #[v, u] w fun e w' => e = .returned (.bool (hasHom rs fs qs gs)) ∧ On w w' := by
  obtain ⟨A0, c0, A1, c1, rfl, h0, h1⟩ := h.out
  obtain ⟨A2, c2, A3, c3, rfl, h2, h3⟩ := k.out
  exact sHas_calls w A0 c0 A1 c1 rs fs h0 h1 A2 c2 A3 c3 qs gs h2 h3
theorem iishV (w : World) (v u t : Value) (rs : List Rel) (fs : List Fct) (qs : List Rel) (gs : List Fct) (ns vs : List Int) (h : RIn w v rs fs) (k : RIn w u qs gs) (l : RSu w t ns vs) (hz : wF fs ≤ 10000000) : Calls Tryz.prog 12 #[v, u, t] w fun e w' => e = .returned (.bool (isHom rs fs qs gs ns vs)) ∧ On w w' := by
  obtain ⟨A0, c0, A1, c1, rfl, h0, h1⟩ := h.out
  obtain ⟨A2, c2, A3, c3, rfl, h2, h3⟩ := k.out
  obtain ⟨A4, c4, A5, c5, rfl, h4, h5⟩ := l.out
  exact iIsHom_calls w A0 c0 A1 c1 rs fs h0 h1 A2 c2 A3 c3 qs gs h2 h3 A4 c4 A5 c5 ns vs h4 h5 hz
theorem sishV (w : World) (v u t : Value) (rs : List Rel) (fs : List Fct) (qs : List Rel) (gs : List Fct) (ns vs : List Int) (h : RIn w v rs fs) (k : RIn w u qs gs) (l : RSu w t ns vs) (hz : wF fs ≤ 10000000) : Calls Tryz.prog 13 #[v, u, t] w fun e w' => e = .returned (.bool (isHom rs fs qs gs ns vs)) ∧ On w w' := by
  obtain ⟨A0, c0, A1, c1, rfl, h0, h1⟩ := h.out
  obtain ⟨A2, c2, A3, c3, rfl, h2, h3⟩ := k.out
  obtain ⟨A4, c4, A5, c5, rfl, h4, h5⟩ := l.out
  exact sIsHom_calls w A0 c0 A1 c1 rs fs h0 h1 A2 c2 A3 c3 qs gs h2 h3 A4 c4 A5 c5 ns vs h4 h5 hz
theorem appV2 (w : World) (t v : Value) (rs : List Rel) (fs : List Fct) (ns vs : List Int) (l : RSu w t ns vs) (h : RIn w v rs fs) : Calls Tryz.prog 14 #[t, v] w (Got fun u w' => ∃ v1, u = .tuple #[v1, .bool (appOk rs fs ns vs)] ∧ OIn w' w.heap.size v1 (appR rs fs ns vs) (appI rs fs ns vs) ∧ On w w') := by
  obtain ⟨A0, c0, A1, c1, rfl, h0, h1⟩ := h.out
  obtain ⟨A4, c4, A5, c5, rfl, h4, h5⟩ := l.out
  exact sApplyToInstance_calls w A4 c4 A5 c5 ns vs h4 h5 A0 c0 A1 c1 rs fs h0 h1
theorem ssubV (w : World) (v u : Value) (rs qs : List Rel) (fs gs : List Fct) (h : RIn w v rs fs) (k : RIn w u qs gs) (hs : ∀ f ∈ fs, hasF gs f = true) : Calls Tryz.prog 16 #[v, u] w fun e w' => e = .returned (.bool true) ∧ On w w' := by
  obtain ⟨A0, c0, A1, c1, rfl, h0, h1⟩ := h.out
  obtain ⟨A2, c2, A3, c3, rfl, h2, h3⟩ := k.out
  exact sIsSubset_calls w A0 _ c0 A1 c1 fs h1 A2 _ c2 A3 c3 gs h3 hs
theorem su_parts {w : World} {A B : Option Addr} {n c m d : Nat} {ns vs : List Int} (h : RSu w (.agg #[.slice A n c, .slice B m d]) ns vs) : n = ns.length ∧ m = vs.length := by
  obtain ⟨A1, c1, B1, d1, e, -, -⟩ := h.out
  injection e with e
  have e1 := congrArg Array.toList e
  simp at e1
  exact ⟨e1.1.2.1, e1.2.2.1⟩
theorem wF_200 {fs : List Fct} (h : fs.length ≤ 200) (h3 : ∀ f ∈ fs, f.2.length ≤ 3) : wF fs ≤ 10000000 := by
  have := wF_small fs h3
  omega
theorem beq_refl_bool (b : Bool) : (b == b) = true := by cases b <;> rfl
theorem FnHomomorphisms_calls (w : World) (A c) (xs : List Int) (hc : xs.length ≤ c) (hK : kBytes.C w A xs.length xs) (hg : ∀ x ∈ xs, 0 ≤ x ∧ x ≤ 255) : Calls Tryz.prog 3 #[.slice A xs.length c] w fun e w' => e = .returned (.bool true) ∧ On w w' := by
  have hK' := Aside0.mk hK
  have hc' := Aside0.mk hc
  clear hK hc hg
  by_cases hbig : 1048576 < (xs.length : Int)
  · have hbb := Aside0.mk (decide_eq_true hbig)
    clear hbig
    go_enter Tryz.func3, Tryz.ntmps3
    go_wp2_with (go_at_call 4; refine (big_calls w A xs.length c).mono ?_; rintro e w1 ⟨rfl, hb1⟩; rw [hbb.out])
    go_ret
    exact ⟨rfl, hb1⟩
  · have hbb := Aside0.mk (decide_eq_false hbig)
    clear hbig
    go_enter Tryz.func3, Tryz.ntmps3
    go_wp2_with (first | (go_at_call 4; refine (big_calls w A xs.length c).mono ?_; rintro e w1 ⟨rfl, hb1⟩; rw [hbb.out]) | (go_at_call 5; refine Stop.out ?_))
    refine ⟨(DrawFindHomomorphism_calls _ A c xs hc'.out (Kd.C_below hK'.out hb1)).mono ?_⟩
    rintro e w2 ⟨v, rfl, v1, v2, rs, fs, qs, gs, rfl, hR, hF, hl0, hl1, hl2, hl3, hl4, hl5, hb2⟩
    have hRa := Aside0.mk hR.read
    have hRb := Aside0.mk hF.read
    obtain ⟨A0, n0, c0, A1, n1, c1, rfl⟩ := hRa.out.shape
    obtain ⟨B0, m0, d0, B1, m1, d1, rfl⟩ := hRb.out.shape
    have hwa := Aside0.mk (wF_200 hl1 hl2)
    have hW := Aside0.mk (hb1.trans hb2)
    clear hR hF hl0 hl1 hl2 hl3 hl4 hl5 hb1 hb2
    have hL := Aside0.mk (loc2 w2 #[.slice none 0 0, .slice none 0 0] #[.slice none 0 0, .slice none 0 0] 27 27)
    have hd0 := blk_cell hL.out.1
    have hd1 := blk_cell hL.out.2.1
    have hf0 := blk_frozen hL.out.1
    have hf1 := blk_frozen hL.out.2.1
    go_wp2_with (go_at_call 6; refine Stop.out ?_)
    obtain ⟨W3, hW3⟩ : ∃ W3, (w2.alloc (.cells #[.slice A0 n0 c0, .slice A1 n1 c1] 27 (0, 0))).alloc (.cells #[.slice B0 m0 d0, .slice B1 m1 d1] 27 (0, 0)) = W3 := ⟨_, rfl⟩
    have hS3 := Aside0.mk (show On w2 W3 from hW3 ▸ On.alloc (On.alloc (On.refl _) _) _)
    have hL3 := Aside0.mk (show Loc W3 [(w2.heap.size, #[.slice A0 n0 c0, .slice A1 n1 c1], 27), (w2.heap.size + 1, #[.slice B0 m0 d0, .slice B1 m1 d1], 27)] from hW3 ▸ loc2 w2 _ _ _ _)
    rw [hW3]
    clear hW3 hL hd0 hd1 hf0 hf1
    obtain ⟨g3, hg3⟩ : ∃ g3, w2.heap.size = g3 := ⟨_, rfl⟩
    rw [hg3] at hL3 ⊢
    clear hg3
    have hRx := Aside0.mk (hRa.out.on hS3.out)
    have hRy := Aside0.mk (hRb.out.on hS3.out)
    replace hW := Aside0.mk (hW.out.trans hS3.out)
    have kA := Aside0.mk hL3.out.1
    have kB := Aside0.mk hL3.out.2.1
    clear hS3 hRa hRb hL3
    have hif := Aside0.mk (fun W v u h k => iFindV W v u rs fs qs gs h k)
    have hsf := Aside0.mk (fun W v u h k => sFindV W v u rs fs qs gs h k)
    have hia := Aside0.mk (fun W v u h k => iFindAllV W v u rs fs qs gs h k)
    have hsa := Aside0.mk (fun W v u h k => sFindAllV W v u rs fs qs gs h k)
    have hih := Aside0.mk (fun W v u h k => ihasV W v u rs fs qs gs h k)
    have har := Aside0.mk (fun W v u h k => areV W v u rs fs qs gs h k)
    have hsi := Aside0.mk (fun (p : Su) (hp : p ∈ subs rs fs qs gs 100) => subs_isHom hp)
    have hsh := Aside0.mk (subs_head rs fs qs gs)
    unfold allF at hia hsa
    obtain ⟨ss, hss⟩ : ∃ ss, subs rs fs qs gs 100 = ss := ⟨_, rfl⟩
    obtain ⟨p, hp⟩ : ∃ p, head1 rs fs qs gs = p := ⟨_, rfl⟩
    obtain ⟨bo, hbo⟩ : ∃ bo, hasHom rs fs qs gs = bo := ⟨_, rfl⟩
    rw [hss] at hia hsa hsi hsh
    rw [hp] at hif hsf hsh
    rw [hbo] at hif hsf hih har hsh
    clear hss hp hbo
    obtain ⟨ns, vs⟩ := p
    simp only at hif hsf
    refine ⟨(hif.out _ _ _ hRx.out hRy.out).mono ?_⟩
    rintro e w3 ⟨_, rfl, v3, rfl, hO, hb1⟩
    have hS0 := Aside0.mk hO.read
    obtain ⟨S00, i00, s00, S01, i01, s01, rfl⟩ := hS0.out.shape
    obtain ⟨rfl, rfl⟩ := su_parts hS0.out
    replace hW := Aside0.mk (hW.out.trans hb1)
    replace kA := Aside0.mk (blk_below kA.out hb1)
    replace kB := Aside0.mk (blk_below kB.out hb1)
    replace hRx := Aside0.mk (hRx.out.on hb1)
    replace hRy := Aside0.mk (hRy.out.on hb1)
    clear hb1 hO
    have hfill := alloc_fill w3
    have kk := Aside0.mk (loc_new w3 #[.slice S00 ns.length s00, .slice S01 vs.length s01] 32)
    have hbb := Aside0.mk (On.alloc (On.refl w3) (.cells #[.slice S00 ns.length s00, .slice S01 vs.length s01] 32 (0, 0)))
    have ckk := blk_cell kk.out
    have ckA := blk_cell (blk_below kA.out hbb.out)
    have ckB := blk_cell (blk_below kB.out hbb.out)
    go_wp2_with (go_at_call 7; refine Stop.out ?_)
    clear ckk ckA ckB hfill
    obtain ⟨w3x, hx⟩ : ∃ x, w3.alloc (.cells #[.slice S00 ns.length s00, .slice S01 vs.length s01] 32 (0, 0)) = x := ⟨_, rfl⟩
    rw [hx] at kk hbb ⊢
    clear hx
    replace hW := Aside0.mk (hW.out.trans hbb.out)
    replace kA := Aside0.mk (blk_below kA.out hbb.out)
    replace kB := Aside0.mk (blk_below kB.out hbb.out)
    replace hRx := Aside0.mk (hRx.out.on hbb.out)
    replace hRy := Aside0.mk (hRy.out.on hbb.out)
    replace hS0 := Aside0.mk (hS0.out.on hbb.out)
    have kS := kk
    clear kk hbb
    refine ⟨(hsf.out _ _ _ hRx.out hRy.out).mono ?_⟩
    rintro e w4 ⟨_, rfl, v3, rfl, hO, hb1⟩
    have hS1 := Aside0.mk hO.read
    obtain ⟨S10, i10, s10, S11, i11, s11, rfl⟩ := hS1.out.shape
    obtain ⟨rfl, rfl⟩ := su_parts hS1.out
    replace hW := Aside0.mk (hW.out.trans hb1)
    replace kA := Aside0.mk (blk_below kA.out hb1)
    replace kB := Aside0.mk (blk_below kB.out hb1)
    replace hRx := Aside0.mk (hRx.out.on hb1)
    replace hRy := Aside0.mk (hRy.out.on hb1)
    replace hS0 := Aside0.mk (hS0.out.on hb1)
    replace kS := Aside0.mk (blk_below kS.out hb1)
    clear hb1 hO
    have hfill := alloc_fill w4
    have kk := Aside0.mk (loc_new w4 #[.slice S10 ns.length s10, .slice S11 vs.length s11] 32)
    have hbb := Aside0.mk (On.alloc (On.refl w4) (.cells #[.slice S10 ns.length s10, .slice S11 vs.length s11] 32 (0, 0)))
    have ckk := blk_cell kk.out
    have ckA := blk_cell (blk_below kA.out hbb.out)
    have ckB := blk_cell (blk_below kB.out hbb.out)
    go_wp2_with (go_at_call 8; refine Stop.out ?_)
    clear ckk ckA ckB hfill
    obtain ⟨w4x, hx⟩ : ∃ x, w4.alloc (.cells #[.slice S10 ns.length s10, .slice S11 vs.length s11] 32 (0, 0)) = x := ⟨_, rfl⟩
    rw [hx] at kk hbb ⊢
    clear hx
    replace hW := Aside0.mk (hW.out.trans hbb.out)
    replace kA := Aside0.mk (blk_below kA.out hbb.out)
    replace kB := Aside0.mk (blk_below kB.out hbb.out)
    replace hRx := Aside0.mk (hRx.out.on hbb.out)
    replace hRy := Aside0.mk (hRy.out.on hbb.out)
    replace hS0 := Aside0.mk (hS0.out.on hbb.out)
    replace kS := Aside0.mk (blk_below kS.out hbb.out)
    replace hS1 := Aside0.mk (hS1.out.on hbb.out)
    have kX := kk
    clear kk hbb
    refine ⟨(hia.out _ _ _ hRx.out hRy.out).mono ?_⟩
    rintro e w5 ⟨vl, rfl, hO, hb1⟩
    have hl := Aside0.mk hO.read.ss
    obtain ⟨Al, cl, rfl, hlm, -⟩ := hl.out.out
    replace hW := Aside0.mk (hW.out.trans hb1)
    replace kA := Aside0.mk (blk_below kA.out hb1)
    replace kB := Aside0.mk (blk_below kB.out hb1)
    replace hRx := Aside0.mk (hRx.out.on hb1)
    replace hRy := Aside0.mk (hRy.out.on hb1)
    replace hS0 := Aside0.mk (hS0.out.on hb1)
    replace kS := Aside0.mk (blk_below kS.out hb1)
    replace hS1 := Aside0.mk (hS1.out.on hb1)
    replace kX := Aside0.mk (blk_below kX.out hb1)
    clear hb1 hO
    rcases hsh.out with ⟨rfl, rfl, hpp⟩ | ⟨rfl, r, rfl⟩
    · obtain ⟨rfl, rfl⟩ : ns = [] ∧ vs = [] := by simpa using hpp
      clear hpp hsh
      have ckA := blk_cell kA.out
      have ckB := blk_cell kB.out
      have ckS := blk_cell kS.out
      have ckX := blk_cell kX.out
      go_wp2_with (go_at_call 9; refine Stop.out ?_)
      clear ckA ckB ckS ckX
      refine ⟨(EqSub_calls _ _ _ _ _ hS0.out hS1.out).mono ?_⟩
      rintro e w6 ⟨rfl, hb1⟩
      replace hW := Aside0.mk (hW.out.trans hb1)
      replace kA := Aside0.mk (blk_below kA.out hb1)
      replace kB := Aside0.mk (blk_below kB.out hb1)
      replace hRx := Aside0.mk (hRx.out.on hb1)
      replace hRy := Aside0.mk (hRy.out.on hb1)
      replace hS0 := Aside0.mk (hS0.out.on hb1)
      replace kS := Aside0.mk (blk_below kS.out hb1)
      replace hS1 := Aside0.mk (hS1.out.on hb1)
      replace kX := Aside0.mk (blk_below kX.out hb1)
      replace hl := Aside0.mk (hl.out.on hb1)
      clear hb1
      have ckA := blk_cell kA.out
      have ckB := blk_cell kB.out
      have ckS := blk_cell kS.out
      have ckX := blk_cell kX.out
      go_wp2_with (go_at_call 10; refine Stop.out ?_)
      clear ckA ckB ckS ckX
      refine ⟨(hsa.out _ _ _ hRx.out hRy.out).mono ?_⟩
      rintro e w7 ⟨vm, rfl, hO, hb1⟩
      obtain ⟨Am, cm, rfl, hmm, -⟩ := hO.read.ss.out
      replace hW := Aside0.mk (hW.out.trans hb1)
      replace kA := Aside0.mk (blk_below kA.out hb1)
      replace kB := Aside0.mk (blk_below kB.out hb1)
      replace hRx := Aside0.mk (hRx.out.on hb1)
      replace hRy := Aside0.mk (hRy.out.on hb1)
      replace hS0 := Aside0.mk (hS0.out.on hb1)
      replace kS := Aside0.mk (blk_below kS.out hb1)
      replace hS1 := Aside0.mk (hS1.out.on hb1)
      replace kX := Aside0.mk (blk_below kX.out hb1)
      replace hl := Aside0.mk (hl.out.on hb1)
      clear hb1 hO
      have ckA := blk_cell kA.out
      have ckB := blk_cell kB.out
      have ckS := blk_cell kS.out
      have ckX := blk_cell kX.out
      go_wp2_with (go_at_call 11; refine Stop.out ?_)
      clear ckA ckB ckS ckX
      refine ⟨(hih.out _ _ _ hRx.out hRy.out).mono ?_⟩
      rintro e w8 ⟨rfl, hb1⟩
      replace hW := Aside0.mk (hW.out.trans hb1)
      replace kA := Aside0.mk (blk_below kA.out hb1)
      replace kB := Aside0.mk (blk_below kB.out hb1)
      replace hRx := Aside0.mk (hRx.out.on hb1)
      replace hRy := Aside0.mk (hRy.out.on hb1)
      replace hS0 := Aside0.mk (hS0.out.on hb1)
      replace kS := Aside0.mk (blk_below kS.out hb1)
      replace hS1 := Aside0.mk (hS1.out.on hb1)
      replace kX := Aside0.mk (blk_below kX.out hb1)
      replace hl := Aside0.mk (hl.out.on hb1)
      clear hb1
      have ckS := blk_cell kS.out
      go_wp2
      go_loopw [10] (fun v wr => v = .int .i64 0 ∧ wr = w8) (fun v _ => 0)
      case atStart => exact ⟨rfl, rfl⟩
      case round =>
        obtain ⟨rfl, rfl⟩ := hrel
        go_wp2
        go_ret
        exact ⟨rfl, hW.out⟩
    · have hiso := Aside0.mk (fun (q : Su) hq => (hsi.out q hq).1)
      have hap := Aside0.mk (hsi.out (ns, vs) List.mem_cons_self).2
      have hfirst := Aside0.mk (show ((ns, vs) :: r)[0]'(by simp) = (ns, vs) from rfl)
      have hpos0 := Aside0.mk (show 0 < ((ns, vs) :: r).length by simp)
      obtain ⟨ss, hss⟩ : ∃ ss, ((ns, vs) :: r) = ss := ⟨_, rfl⟩
      have hat := Aside0.mk (show ∃ h : 0 < ss.length, ss[0] = (ns, vs) by subst hss; exact ⟨by simp, rfl⟩)
      rw [hss] at hiso hl hsa hpos0 hlm ⊢
      clear hss hsi hsh hia hfirst
      have hp1 : ((0 : Int) < (ss.length : Int)) = True := eq_true (by have := hpos0.out; omega)
      have hp2 : decide ((0 : Int) < (ss.length : Int)) = true := decide_eq_true (by have := hpos0.out; omega)
      have hp3 : decide (0 < ss.length) = true := decide_eq_true hpos0.out
      have hp4 : (ss = []) = False := eq_false (fun e => by have h := hpos0.out; rw [e] at h; simp at h)
      have ckA := blk_cell kA.out
      have ckB := blk_cell kB.out
      have ckS := blk_cell kS.out
      have ckX := blk_cell kX.out
      go_wp2_with (go_at_call 9; refine Stop.out ?_)
      clear ckA ckB ckS ckX
      refine ⟨(EqSub_calls _ _ _ _ _ hS0.out hS1.out).mono ?_⟩
      rintro e w9 ⟨rfl, hb1⟩
      replace hW := Aside0.mk (hW.out.trans hb1)
      replace kA := Aside0.mk (blk_below kA.out hb1)
      replace kB := Aside0.mk (blk_below kB.out hb1)
      replace hRx := Aside0.mk (hRx.out.on hb1)
      replace hRy := Aside0.mk (hRy.out.on hb1)
      replace hS0 := Aside0.mk (hS0.out.on hb1)
      replace kS := Aside0.mk (blk_below kS.out hb1)
      replace hS1 := Aside0.mk (hS1.out.on hb1)
      replace kX := Aside0.mk (blk_below kX.out hb1)
      replace hl := Aside0.mk (hl.out.on hb1)
      clear hb1
      have ckA := blk_cell kA.out
      have ckB := blk_cell kB.out
      have ckS := blk_cell kS.out
      have ckX := blk_cell kX.out
      go_wp2_with (go_at_call 10; refine Stop.out ?_)
      clear ckA ckB ckS ckX
      refine ⟨(hsa.out _ _ _ hRx.out hRy.out).mono ?_⟩
      rintro e w10 ⟨vm, rfl, hO, hb1⟩
      obtain ⟨Am, cm, rfl, hmm, -⟩ := hO.read.ss.out
      replace hW := Aside0.mk (hW.out.trans hb1)
      replace kA := Aside0.mk (blk_below kA.out hb1)
      replace kB := Aside0.mk (blk_below kB.out hb1)
      replace hRx := Aside0.mk (hRx.out.on hb1)
      replace hRy := Aside0.mk (hRy.out.on hb1)
      replace hS0 := Aside0.mk (hS0.out.on hb1)
      replace kS := Aside0.mk (blk_below kS.out hb1)
      replace hS1 := Aside0.mk (hS1.out.on hb1)
      replace kX := Aside0.mk (blk_below kX.out hb1)
      replace hl := Aside0.mk (hl.out.on hb1)
      clear hb1 hO
      have ckA := blk_cell kA.out
      have ckB := blk_cell kB.out
      have ckS := blk_cell kS.out
      have ckX := blk_cell kX.out
      go_wp2_with (go_at_call 11; refine Stop.out ?_)
      clear ckA ckB ckS ckX
      refine ⟨(hih.out _ _ _ hRx.out hRy.out).mono ?_⟩
      rintro e w11 ⟨rfl, hb1⟩
      replace hW := Aside0.mk (hW.out.trans hb1)
      replace kA := Aside0.mk (blk_below kA.out hb1)
      replace kB := Aside0.mk (blk_below kB.out hb1)
      replace hRx := Aside0.mk (hRx.out.on hb1)
      replace hRy := Aside0.mk (hRy.out.on hb1)
      replace hS0 := Aside0.mk (hS0.out.on hb1)
      replace kS := Aside0.mk (blk_below kS.out hb1)
      replace hS1 := Aside0.mk (hS1.out.on hb1)
      replace kX := Aside0.mk (blk_below kX.out hb1)
      replace hl := Aside0.mk (hl.out.on hb1)
      clear hb1
      go_wp2
      clear hp1 hp2 hp3 hp4
      go_loopw [10] (fun v wr => ∃ k : Nat, k ≤ ss.length ∧ v = .int .i64 k ∧ Aside0 (On w11 wr)) (fun v _ => ss.length - (intOf v).toNat)
      case atStart => exact ⟨0, Nat.zero_le _, rfl, ⟨On.refl _⟩⟩
      case round =>
        obtain ⟨k, hk, rfl, hB⟩ := hrel
        replace hW := Aside0.mk (hW.out.trans hB.out)
        replace kA := Aside0.mk (blk_below kA.out hB.out)
        replace kB := Aside0.mk (blk_below kB.out hB.out)
        replace hRx := Aside0.mk (hRx.out.on hB.out)
        replace hRy := Aside0.mk (hRy.out.on hB.out)
        replace hS0 := Aside0.mk (hS0.out.on hB.out)
        replace kS := Aside0.mk (blk_below kS.out hB.out)
        replace hS1 := Aside0.mk (hS1.out.on hB.out)
        replace kX := Aside0.mk (blk_below kX.out hB.out)
        replace hl := Aside0.mk (hl.out.on hB.out)
        have ckA := blk_cell kA.out
        have ckB := blk_cell kB.out
        have ckS := blk_cell kS.out
        by_cases hlt : k < ss.length
        · obtain ⟨Am2, cm2, e2, -, hall⟩ := hl.out.out
          injection e2 with e3 e4 e5
          subst e3
          obtain ⟨ad, C1, k1, C2, k2, rfl, x0, x1, j1, j2⟩ := hall k hlt
          have hj := Aside0.mk (show RSu wr (.agg #[.slice C1 ss[k].1.length k1, .slice C2 ss[k].2.length k2]) ss[k].1 ss[k].2 from ⟨_, _, _, _, rfl, j1, j2⟩)
          have hh := Aside0.mk (hiso.out _ (List.getElem_mem hlt))
          clear hall j1 j2 e4 e5 ckS
          go_wp2
          refine Reg.region [(0,.L),(1,.L),(2,.L),(3,.L),(4,.L),(5,.L),(6,.C),(7,.L),(8,.L),(9,.L),(10,.L),(11,.L),(12,.L),(13,.L),(14,.L),(15,.C),(16,.L),(17,.L)] [] (by kernel_rfl) (by kernel_rfl) ?_
          repeat first | refine sP ?_ | refine sS ?_ | refine sA ?_ | refine sL ?_ | refine sQ ?_ | refine sO ?_
          refine callC (.bool true) Tryz.func12 (fun w' hS => ?_) ?_
          focus exact (iishV w' _ _ _ rs fs qs gs _ _ (hRx.out.on hS) (hRy.out.on hS) (hj.out.on hS) hwa.out).mono fun e w'' h => ⟨by rw [h.1, hh.out], h.2⟩
          repeat first | refine sP ?_ | refine sS ?_ | refine sA ?_ | refine sL ?_ | refine sQ ?_ | refine sO ?_
          refine callC (.bool true) Tryz.func13 (fun w' hS => ?_) ?_
          focus exact (sishV w' _ _ _ rs fs qs gs _ _ (hRx.out.on hS) (hRy.out.on hS) (hj.out.on hS) hwa.out).mono fun e w'' h => ⟨by rw [h.1, hh.out], h.2⟩
          repeat first | refine sP ?_ | refine sS ?_ | refine sA ?_ | refine sL ?_ | refine sQ ?_ | refine sO ?_
          refine Reg.nil fun w8 hS => ?_
          have hS' := Aside0.mk hS
          clear hS x0 x1
          go_wp2
          exact ⟨⟨k + 1, by omega, by go_num, ⟨hB.out.trans hS'.out⟩⟩, by simp [intOf]; omega⟩
        · have hkl := Aside0.mk hlt
          go_wp2_with (go_at_call 14; refine Stop.out ?_)
          clear ckA ckB ckS
          refine ⟨(appV2 _ _ _ rs fs ns vs hS0.out hRx.out).mono ?_⟩
          rintro e w12 ⟨_, rfl, v5, rfl, hO, hb1⟩
          have hY := Aside0.mk hO.read
          obtain ⟨Y0, e0, y0, Y1, e1, y1, rfl⟩ := hY.out.shape
          replace hW := Aside0.mk (hW.out.trans hb1)
          replace kA := Aside0.mk (blk_below kA.out hb1)
          replace kB := Aside0.mk (blk_below kB.out hb1)
          replace hRx := Aside0.mk (hRx.out.on hb1)
          replace hRy := Aside0.mk (hRy.out.on hb1)
          replace hS0 := Aside0.mk (hS0.out.on hb1)
          replace kS := Aside0.mk (blk_below kS.out hb1)
          replace hS1 := Aside0.mk (hS1.out.on hb1)
          replace kX := Aside0.mk (blk_below kX.out hb1)
          replace hl := Aside0.mk (hl.out.on hb1)
          clear hb1 hO
          have hfill := alloc_fill w12
          have kk := Aside0.mk (loc_new w12 #[.slice Y0 e0 y0, .slice Y1 e1 y1] 27)
          have hbb := Aside0.mk (On.alloc (On.refl w12) (.cells #[.slice Y0 e0 y0, .slice Y1 e1 y1] 27 (0, 0)))
          go_wp2_with (go_at_call 15; refine Stop.out ?_)
          clear hfill
          obtain ⟨wb, hx⟩ : ∃ x, w12.alloc (.cells #[.slice Y0 e0 y0, .slice Y1 e1 y1] 27 (0, 0)) = x := ⟨_, rfl⟩
          rw [hx] at kk hbb ⊢
          clear hx
          replace hW := Aside0.mk (hW.out.trans hbb.out)
          replace kA := Aside0.mk (blk_below kA.out hbb.out)
          replace kB := Aside0.mk (blk_below kB.out hbb.out)
          replace hRx := Aside0.mk (hRx.out.on hbb.out)
          replace hRy := Aside0.mk (hRy.out.on hbb.out)
          replace hS0 := Aside0.mk (hS0.out.on hbb.out)
          replace kS := Aside0.mk (blk_below kS.out hbb.out)
          replace hS1 := Aside0.mk (hS1.out.on hbb.out)
          replace kX := Aside0.mk (blk_below kX.out hbb.out)
          replace hl := Aside0.mk (hl.out.on hbb.out)
          replace hY := Aside0.mk (hY.out.on hbb.out)
          have kY := kk
          clear kk hbb
          refine ⟨(DrawIsHomomorphism_calls wb A c xs hc'.out (Kd.C_below hK'.out hW.out)).mono ?_⟩
          rintro e w13 ⟨_, rfl, u1, u2, u3, rfl, hV, hb1⟩
          obtain ⟨rs1, fs1, qs1, gs1, ns1, vs1, hU1, hU2, hU3, hz1, hz2⟩ := hV.out
          have hwz := Aside0.mk (wF_200 hz1 hz2)
          have hU1' := Aside0.mk hU1
          have hU2' := Aside0.mk hU2
          have hU3' := Aside0.mk hU3
          obtain ⟨E0, f0, g0, E1, f1, g1, rfl⟩ := hU1.shape
          obtain ⟨F0, f2, g2, F1, f3, g4, rfl⟩ := hU2.shape
          obtain ⟨G0, f4, g5, G1, f5, g6, rfl⟩ := hU3.shape
          replace hW := Aside0.mk (hW.out.trans hb1)
          replace kA := Aside0.mk (blk_below kA.out hb1)
          replace kB := Aside0.mk (blk_below kB.out hb1)
          replace hRx := Aside0.mk (hRx.out.on hb1)
          replace hRy := Aside0.mk (hRy.out.on hb1)
          replace hS0 := Aside0.mk (hS0.out.on hb1)
          replace kS := Aside0.mk (blk_below kS.out hb1)
          replace hS1 := Aside0.mk (hS1.out.on hb1)
          replace kX := Aside0.mk (blk_below kX.out hb1)
          replace hl := Aside0.mk (hl.out.on hb1)
          replace hY := Aside0.mk (hY.out.on hb1)
          replace kY := Aside0.mk (blk_below kY.out hb1)
          clear hb1 hV hU1 hU2 hU3 hz1 hz2
          have hL := Aside0.mk (loc3 w13 #[.slice none 0 0, .slice none 0 0] #[.slice none 0 0, .slice none 0 0] #[.slice none 0 0, .slice none 0 0] 27 27 32)
          have hd0 := blk_cell hL.out.1
          have hd1 := blk_cell hL.out.2.1
          have hd2 := blk_cell hL.out.2.2.1
          have hf0 := blk_frozen hL.out.1
          have hf1 := blk_frozen hL.out.2.1
          have hf2 := blk_frozen hL.out.2.2.1
          go_wp2
          clear hd0 hd1 hd2 hf0 hf1 hf2 hL
          obtain ⟨W9, hW9⟩ : ∃ W9, ((w13.alloc (.cells #[.slice E0 f0 g0, .slice E1 f1 g1] 27 (0, 0))).alloc (.cells #[.slice F0 f2 g2, .slice F1 f3 g4] 27 (0, 0))).alloc (.cells #[.slice G0 f4 g5, .slice G1 f5 g6] 32 (0, 0)) = W9 := ⟨_, rfl⟩
          have hS9 := Aside0.mk (show On w13 W9 from hW9 ▸ On.alloc (On.alloc (On.alloc (On.refl _) _) _) _)
          have hL9 := Aside0.mk (show Loc W9 [(w13.heap.size, #[.slice E0 f0 g0, .slice E1 f1 g1], 27), (w13.heap.size + 1, #[.slice F0 f2 g2, .slice F1 f3 g4], 27), (w13.heap.size + 2, #[.slice G0 f4 g5, .slice G1 f5 g6], 32)] from hW9 ▸ loc3 w13 _ _ _ _ _ _)
          rw [hW9]
          clear hW9
          replace hW := Aside0.mk (hW.out.trans hS9.out)
          replace kA := Aside0.mk (blk_below kA.out hS9.out)
          replace kB := Aside0.mk (blk_below kB.out hS9.out)
          replace hRx := Aside0.mk (hRx.out.on hS9.out)
          replace hRy := Aside0.mk (hRy.out.on hS9.out)
          replace hS0 := Aside0.mk (hS0.out.on hS9.out)
          replace kS := Aside0.mk (blk_below kS.out hS9.out)
          replace hS1 := Aside0.mk (hS1.out.on hS9.out)
          replace kX := Aside0.mk (blk_below kX.out hS9.out)
          replace hl := Aside0.mk (hl.out.on hS9.out)
          replace hY := Aside0.mk (hY.out.on hS9.out)
          replace kY := Aside0.mk (blk_below kY.out hS9.out)
          replace hU1' := Aside0.mk (hU1'.out.on hS9.out)
          replace hU2' := Aside0.mk (hU2'.out.on hS9.out)
          replace hU3' := Aside0.mk (hU3'.out.on hS9.out)
          have ckA := blk_cell kA.out
          have ckB := blk_cell kB.out
          have ckS := blk_cell kS.out
          have ckY := blk_cell kY.out
          have ck1 := blk_cell hL9.out.1
          have ck2 := blk_cell hL9.out.2.1
          have ck3 := blk_cell hL9.out.2.2.1
          obtain ⟨hz, h0⟩ := hat.out
          obtain ⟨Am2, cm2, e2, -, hall⟩ := hl.out.out
          injection e2 with e3 e4 e5
          subst e3
          obtain ⟨ad, C1, k1, C2, k2, rfl, x0, x1, j1, j2⟩ := hall 0 hz
          have hj := Aside0.mk (show RSu W9 (.agg #[.slice C1 ss[0].1.length k1, .slice C2 ss[0].2.length k2]) ss[0].1 ss[0].2 from ⟨_, _, _, _, rfl, j1, j2⟩)
          rw [h0] at x0 x1 hj
          replace x0 : W9.cell? ad = some (.slice C1 ns.length k1) := x0
          replace x1 : W9.cell? ⟨ad.block, ad.off + 1, none⟩ = some (.slice C2 vs.length k2) := x1
          clear hall j1 j2 e4 e5 h0
          obtain ⟨h2, hh2⟩ : ∃ b, hasHom qs gs rs fs = b := ⟨_, rfl⟩
          have hsw := Aside0.mk (fun W v u h k => shasV W v u qs gs rs fs h k)
          rw [hh2] at har hsw
          clear hh2
          obtain ⟨zz, hzz⟩ : ∃ b, isHom rs1 fs1 qs1 gs1 ns1 vs1 = b := ⟨_, rfl⟩
          have hi1 := Aside0.mk (fun W v u t h k l => iishV W v u t rs1 fs1 qs1 gs1 ns1 vs1 h k l hwz.out)
          have hi2 := Aside0.mk (fun W v u t h k l => sishV W v u t rs1 fs1 qs1 gs1 ns1 vs1 h k l hwz.out)
          rw [hzz] at hi1 hi2
          clear hzz
          have hq1 := beq_refl_bool h2
          have hq2 := beq_refl_bool zz
          go_wp2
          refine Reg.region [(0,.L),(1,.L),(2,.C),(3,.L),(4,.L),(5,.L),(6,.L),(7,.L),(8,.C),(9,.L),(10,.L),(11,.L),(12,.L),(13,.C),(14,.L),(15,.L),(16,.L),(17,.L),(18,.C),(19,.L),(20,.L),(21,.L),(22,.L),(23,.L),(24,.L),(25,.L),(26,.C),(27,.L),(28,.L),(29,.L),(30,.C),(31,.L),(32,.L)] [33] (by kernel_rfl) (by kernel_rfl) ?_
          repeat first | refine sP ?_ | refine sS ?_ | refine sA ?_ | refine sL ?_ | refine sQ ?_ | refine sO ?_
          refine callC (.bool true) Tryz.func16 (fun w' hS => ?_) ?_
          focus exact ssubV w' _ _ _ _ _ _ (hY.out.on hS) (hRy.out.on hS) hap.out
          repeat first | refine sP ?_ | refine sS ?_ | refine sA ?_ | refine sL ?_ | refine sQ ?_ | refine sO ?_
          refine callC (.bool true) Tryz.func9 (fun w' hS => ?_) ?_
          focus exact EqSub_calls w' _ _ ns vs (hj.out.on hS) (hS0.out.on hS)
          repeat first | refine sP ?_ | refine sS ?_ | refine sA ?_ | refine sL ?_ | refine sQ ?_ | refine sO ?_
          refine callC (.bool h2) Tryz.func17 (fun w' hS => ?_) ?_
          focus exact (har.out w' _ _ (hRx.out.on hS) (hRy.out.on hS)).mono fun e w'' h => ⟨by rw [h.1]; rfl, h.2⟩
          repeat first | refine sP ?_ | refine sS ?_ | refine sA ?_ | refine sL ?_ | refine sQ ?_ | refine sO ?_
          refine callC (.bool h2) Tryz.func18 (fun w' hS => ?_) ?_
          focus exact hsw.out w' _ _ (hRy.out.on hS) (hRx.out.on hS)
          repeat first | refine sP ?_ | refine sS ?_ | refine sA ?_ | refine sL ?_ | refine sQ ?_ | refine sO ?_
          refine callC (.bool zz) Tryz.func12 (fun w' hS => ?_) ?_
          focus exact hi1.out w' _ _ _ (hU1'.out.on hS) (hU2'.out.on hS) (hU3'.out.on hS)
          repeat first | refine sP ?_ | refine sS ?_ | refine sA ?_ | refine sL ?_ | refine sQ ?_ | refine sO ?_
          refine callC (.bool zz) Tryz.func13 (fun w' hS => ?_) ?_
          focus exact hi2.out w' _ _ _ (hU1'.out.on hS) (hU2'.out.on hS) (hU3'.out.on hS)
          repeat first | refine sP ?_ | refine sS ?_ | refine sA ?_ | refine sL ?_ | refine sQ ?_ | refine sO ?_
          refine Reg.tail_ fun wz hS => ?_
          have hWz := Aside0.mk (hW.out.trans hS)
          clear hS
          go_wp2
          go_ret
          exact ⟨rfl, hWz.out⟩
end Go.Proofs.YtgemaohdlibboaaGreat.H
