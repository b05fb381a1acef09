/- Walks: the reference takes a fact out; restricts. No condition. -/
import Derived.Test.YtngjhblbpapjeaaHB7
namespace Go.Proofs.Ytngjhblbpapjeaa.H
open Go Go.RowKit Go.Proofs.YtngjhblbpapjeaaW.PrintWords Go.Proofs.YtngjhblbpapjeaaW.PrintLast
open Go.Proofs.Ytngjhblbpapjeaa.Reg (On on_draw)
set_option maxHeartbeats 1000000
set_option maxRecDepth 100000
set_option linter.unusedVariables false
set_option linter.unusedSimpArgs false

/-- An instance that is read. -/
structure RIn (w : World) (v : Value) (rs : List Rel) (fs : List Fct) : Prop where mk :: (out : ∃ A0 c0 A1 c1, v = .agg #[.slice A0 rs.length c0, .slice A1 fs.length c1] ∧ Rels w A0 c0 rs ∧ Fcts w A1 c1 fs)
theorem RIn.on {W w : World} {v : Value} {rs : List Rel} {fs : List Fct} (h : RIn W v rs fs) (hb : On W w) : RIn w v rs fs := by
  obtain ⟨A0, c0, A1, c1, e, h0, h1⟩ := h.out
  exact ⟨A0, c0, A1, c1, e, h0.on hb, h1.on hb⟩
theorem OIn.read {w : World} {lo : Nat} {v : Value} {rs : List Rel} {fs : List Fct} (h : OIn w lo v rs fs) : RIn w v rs fs := by
  obtain ⟨vr, vf, hs, rfl, hR, hH, hS⟩ := h.out
  obtain ⟨A0, c0, rfl, h0⟩ := OR.rd hR
  obtain ⟨A1, c1, rfl, h1⟩ := OH.rd hH hS.reads
  exact ⟨A0, c0, A1, c1, rfl, h0, h1⟩
theorem RH.take {w : World} {A : Option Addr} {c : Nat} {hs : List Hdr} (h : RH w A c hs) (k : Nat) (hk : k ≤ hs.length) : RH w A c (hs.take k) := by
  have hl : (hs.take k).length = k := by rw [List.length_take]; omega
  refine ⟨by rw [hl]; have := h.cap; omega, by rw [hl]; have := h.max; omega, fun j u hu => h.cell j u ?_⟩
  have e : hs.flatMap encH = (hs.take k).flatMap encH ++ (hs.drop k).flatMap encH := by rw [← List.flatMap_append, List.take_append_drop]
  rw [e, List.getElem?_append_left (List.getElem?_eq_some_iff.1 hu).1]; exact hu
theorem RH.drop {w : World} {A : Option Addr} {c : Nat} {hs : List Hdr} (h : RH w A c hs) (k : Nat) (hk : k ≤ hs.length) : RH w (if c = k then A else A.map (·.add (k * 2))) (c - k) (hs.drop k) := by
  have hl : (hs.drop k).length = hs.length - k := List.length_drop
  have hcap := h.cap
  have e : hs.flatMap encH = (hs.take k).flatMap encH ++ (hs.drop k).flatMap encH := by rw [← List.flatMap_append, List.take_append_drop]
  have hl2 : ((hs.take k).flatMap encH).length = k * 2 := by rw [flat_len (enc := encH) (sz := 2) (fun _ => rfl), List.length_take]; congr 1; omega
  refine ⟨by rw [hl]; omega, by rw [hl]; have := h.max; omega, fun j u hu => ?_⟩
  obtain ⟨ad, e2, hc⟩ := h.cell (k * 2 + j) u (by rw [e, List.getElem?_append_right (by omega), hl2, show k * 2 + j - k * 2 = j by omega]; exact hu)
  subst e2
  have hlt : 0 < (hs.drop k).length := by
    have := (List.getElem?_eq_some_iff.1 hu).1
    rw [flat_len (enc := encH) (sz := 2) (fun _ => rfl)] at this
    omega
  rw [if_neg (by omega)]
  exact ⟨_, rfl, by rw [Addr.add_add]; exact hc⟩
section
variable {ops : Array Oper} {Q : Exit → Act → World → Prop} {i : Nat} {tail : List Nat} {l : List (Nat × Reg.K)} {a : Act} {W : World} {o : Oper} {N : Tmp}
/-- Cuts of rows of facts. -/
theorem sTo {x y : Operand} {A : Option Addr} {n c k : Nat} (hk : k ≤ n) (hc : n ≤ c) (h : Reg.Ord Try.prog ops Q tail l (a.put (some N) (.slice A k c)) W) (hi : ops[i]? = some o := by rfl) (hN : o.dst = some N := by rfl) (hw : Region.wanted o (yielded ops a.tmps) = true := by rfl)
    (hop : o.op = .slice 30 x none (some y) none := by rfl) (hx : a.eval x = .slice A n c := by rfl) (hy : a.eval y = .int .i64 (k : Int) := by rfl) : Reg.Ord Try.prog ops Q tail ((i, .L) :: l) a W := by
  obtain ⟨i0, hi0, _, hsz, _⟩ := info_parts infoF
  have hcut := cut_to (P := Try.prog) 30 55 .i64 Try.underlying30 hi0 A n c (k : Int) (by omega) (by omega) hc
  refine Reg.stepL (v := .slice A k c) (fun w _ => ?_) h hi hN hw
  unfold execOp
  simp only [hop, hx, hy, Option.map_some, Option.map_none]
  have := hcut w
  simp only [Int.toNat_natCast] at this
  go_simp
theorem sFrom {x y : Operand} {A A' : Option Addr} {n c k m c' : Nat} (hA : (if c = k then A else A.map (·.add (k * 2))) = A') (hm : n - k = m) (hc' : c - k = c') (hk : k ≤ n) (hc : n ≤ c) (h : Reg.Ord Try.prog ops Q tail l (a.put (some N) (.slice A' m c')) W) (hi : ops[i]? = some o := by rfl) (hN : o.dst = some N := by rfl) (hw : Region.wanted o (yielded ops a.tmps) = true := by rfl)
    (hop : o.op = .slice 30 x (some y) none none := by rfl) (hx : a.eval x = .slice A n c := by rfl) (hy : a.eval y = .int .i64 (k : Int) := by rfl) : Reg.Ord Try.prog ops Q tail ((i, .L) :: l) a W := by
  subst hA hm hc'
  obtain ⟨i0, hi0, _, hsz, _⟩ := info_parts infoF
  have hcut := cut_from (P := Try.prog) 30 55 .i64 Try.underlying30 hi0 2 hsz A n c (k : Int) (by omega) (by omega)
  refine Reg.stepL (v := .slice (if c = k then A else A.map (·.add (k * 2))) (n - k) (c - k)) (fun w _ => ?_) h hi hN hw
  unfold execOp
  simp only [hop, hx, hy, Option.map_some, Option.map_none]
  have := hcut w
  simp only [Int.toNat_natCast] at this
  go_simp
end
/-- What is left of an instance's facts without g. -/
def delI (rs : List Rel) (fs : List Fct) (g : Fct) : List Fct := if okInst rs fs && hasF fs g then delF fs g else fs
theorem factsFrom_asc {rs : List Rel} : ∀ {p : Option Fct} {fs : List Fct}, factsFrom rs p fs = true → Asc fs ∧ ∀ q, p = some q → ∀ f ∈ fs, cmpF q f < 0
  | _, [], _ => ⟨List.Pairwise.nil, fun _ _ _ h => by cases h⟩
  | p, f :: fs, h => by
    simp only [factsFrom, Bool.and_eq_true] at h
    obtain ⟨h1, h2⟩ := factsFrom_asc h.2
    refine ⟨List.pairwise_cons.2 ⟨h2 f rfl, h1⟩, fun q hq g hg => ?_⟩
    subst hq
    have hqf : cmpF q f < 0 := by
      have := h.1; simp only [okNext, okPrev, Bool.and_eq_true, decide_eq_true_eq] at this; exact this.1.2
    rcases List.mem_cons.1 hg with rfl | hg
    · exact hqf
    · exact cmpF_trans _ _ _ hqf (h2 f rfl g hg)
theorem okInst_asc {rs : List Rel} {fs : List Fct} (h : okInst rs fs = true) : Asc fs := by
  simp only [okInst, Bool.and_eq_true] at h; exact (factsFrom_asc h.1).1
theorem okInst_len {rs : List Rel} {fs : List Fct} (h : okInst rs fs = true) : rs.length ≤ 6 ∧ fs.length ≤ 30 := by
  simp only [okInst, okRels, Bool.and_eq_true, decide_eq_true_eq] at h; exact ⟨h.2.1.2, h.2.2⟩
theorem sDeleteFact_calls (w : World) (A0 c0 A1 c1) (rs : List Rel) (fs : List Fct) (h0 : Rels w A0 c0 rs) (h1 : Fcts w A1 c1 fs) (A2 c2) (g : Fct) (h2 : Ints w A2 c2 g.2) (hl0 : rs.length ≤ 2000000) (hl : fs.length ≤ 2000000) (hl2 : ∀ f ∈ fs, f.2.length ≤ 2000000) :
    Calls Try.prog 32 #[.agg #[.slice A0 rs.length c0, .slice A1 fs.length c1], .agg #[.int .i64 g.1, .slice A2 g.2.length c2]] w (Got fun v w' => ∃ v1, v = .tuple #[v1, .bool (okInst rs fs && hasF fs g)] ∧ OIn w' w.heap.size v1 rs (delI rs fs g) ∧ On w w') := by
  have hb := Aside0.mk (On.alloc (On.alloc (On.alloc (On.refl w) (.cells #[.slice A0 rs.length c0, .slice A1 fs.length c1] 32)) (.cells #[.int .i64 g.1, .slice A2 g.2.length c2] 55)) (.cells #[.slice none 0 0, .slice none 0 0] 32))
  have hL := Aside0.mk (loc3 w #[.slice A0 rs.length c0, .slice A1 fs.length c1] #[.int .i64 g.1, .slice A2 g.2.length c2] #[.slice none 0 0, .slice none 0 0] 32 55 32)
  have hsz3 := Aside0.mk (show (((w.alloc (.cells #[.slice A0 rs.length c0, .slice A1 fs.length c1] 32)).alloc (.cells #[.int .i64 g.1, .slice A2 g.2.length c2] 55)).alloc (.cells #[.slice none 0 0, .slice none 0 0] 32)).heap.size = w.heap.size + 3 by simp)
  cases ho : okInst rs fs && hasF fs g with
  | false =>
    have ho' := Aside0.mk ho
    clear ho
    go_enter Try.func32, Try.ntmps32
    go_wp2_with (first
      | (go_at_call 86; refine (l5Copy_calls _ A0 c0 A1 c1 rs fs (h0.on hb.out) (h1.on hb.out) hl0 hl hl2).mono ?_; rintro e w1 ⟨v1, rfl, ⟨vr, vf, hs, rfl, hR, hH, hS⟩, hb1⟩; obtain ⟨Ar, cr, rfl⟩ := own_slice hR; obtain ⟨Af, cf, rfl⟩ := own_slice hH; have hfill := alloc_fill w1; have hI := Aside0.mk (OIn.mk ⟨_, _, hs, rfl, hR, hH, hS⟩); have hB1 := Aside0.mk (hb1.trans (On.alloc (On.refl _) (.cells #[.slice Ar rs.length cr, .slice Af hs.length cf] 32))); have hL1 := Aside0.mk (Loc.on hB1.out hL.out); have hc0 := blk_cell hL1.out.1; have hc1 := blk_cell hL1.out.2.1; have hY1 := Aside0.mk (loc_new w1 #[.slice Ar rs.length cr, .slice Af hs.length cf] 32); clear hR hH hS)
      | (go_at_call 87; refine (sContainsFact_calls _ A0 c0 A1 c1 rs fs (h0.on (hb.out.trans hB1.out)) (h1.on (hb.out.trans hB1.out)) A2 c2 g (h2.on (hb.out.trans hB1.out))).mono ?_; rintro e w2 ⟨rfl, hb2⟩; rw [ho'.out]; have hL2 := Aside0.mk (Loc.on (hB1.out.trans hb2) hL.out); have hy := blk_cell (blk_below hY1.out hb2); have hcr : ∀ i, w2.cell? ⟨w.heap.size + 1 + 1, i, none⟩ = _ := blk_cell hL2.out.2.2.1; have hfr : ∀ i, w2.frozen? ⟨w.heap.size + 1 + 1, i, none⟩ = _ := blk_frozen hL2.out.2.2.1; have hI2 := Aside0.mk (hI.out.on ((On.alloc (On.refl _) _).trans hb2)); clear hc0 hc1 hfill))
    refine bodyPost_ret (retIB rfl rfl (g := w.heap.size + 2) (blk_set (blk_set hL2.out.2.2.1 0 _) 1 _) rfl) rfl ?_
    have hI3 := hI2.out
    rw [hsz3.out] at hI3
    refine ⟨_, rfl, _, rfl, ?_, Reg.On.set (Reg.On.set (hb.out.trans (hB1.out.trans hb2)) (by simp; omega) _) (by simp; omega) _⟩
    unfold delI; rw [ho'.out, if_neg (by simp)]
    exact OIn.lower (OIn.set (OIn.set hI3 (by simp) _) (by simp) _) (by omega)
  | true =>
    have hg : g ∈ fs := (hasF_mem fs g).1 (Bool.and_eq_true_iff.1 ho).2
    have hasc := okInst_asc (Bool.and_eq_true_iff.1 ho).1
    have hle := okInst_len (Bool.and_eq_true_iff.1 ho).1
    rcases place_spec fs g with ⟨_, hn⟩ | ⟨k, hk, hpl, hkg, _⟩
    · exact absurd hg hn
    have hdel := Aside0.mk (show delI rs fs g = fs.take k ++ fs.drop (k + 1) by unfold delI; rw [ho, if_pos rfl, delF_at fs g hasc k hk hkg])
    have ho' := Aside0.mk ho
    clear ho hg hasc hkg
    go_enter Try.func32, Try.ntmps32
    go_wp2_with (first
      | (go_at_call 86; refine (l5Copy_calls _ A0 c0 A1 c1 rs fs (h0.on hb.out) (h1.on hb.out) hl0 hl hl2).mono ?_; rintro e w1 ⟨v1, rfl, ⟨vr, vf, hs, rfl, hR, hH, hS⟩, hb1⟩; obtain ⟨Ar, cr, rfl⟩ := own_slice hR; obtain ⟨Af, cf, rfl⟩ := own_slice hH; have hfill := alloc_fill w1; have hR1 := Aside0.mk hR; have hH1 := Aside0.mk hH; have hS1 := Aside0.mk hS; have hlen := Aside0.mk hS.len; have hB1 := Aside0.mk (hb1.trans (On.alloc (On.refl _) (.cells #[.slice Ar rs.length cr, .slice Af hs.length cf] 32))); have hL1 := Aside0.mk (Loc.on hB1.out hL.out); have hc0 := blk_cell hL1.out.1; have hc1 := blk_cell hL1.out.2.1; have hY1 := Aside0.mk (loc_new w1 #[.slice Ar rs.length cr, .slice Af hs.length cf] 32); clear hR hH hS)
      | (go_at_call 87; refine (sContainsFact_calls _ A0 c0 A1 c1 rs fs (h0.on (hb.out.trans hB1.out)) (h1.on (hb.out.trans hB1.out)) A2 c2 g (h2.on (hb.out.trans hB1.out))).mono ?_; rintro e w2 ⟨rfl, hb2⟩; rw [ho'.out]; have hL2 := Aside0.mk (Loc.on (hB1.out.trans hb2) hL.out); have hy := blk_cell (blk_below hY1.out hb2); have hcg := blk_cell hL2.out.2.1; have hb2' := Aside0.mk ((On.alloc (On.refl w1) (.cells #[.slice Ar rs.length cr, .slice Af hs.length cf] 32)).trans hb2); have hF2 := Aside0.mk ((OH.rh (pw_own_below hH1.out hb2'.out)).2.fcts ((hS1.out.on hb2'.out).reads)); clear hc0 hc1 hfill)
      | (go_at_call 76; rw [hlen.out]; refine (l5Place_calls w2 Ar rs.length cr Af cf A2 c2 fs g hF2.out (h2.on (hb.out.trans (hB1.out.trans hb2)))).mono ?_; rintro e w3 ⟨rfl, hb3⟩; rw [hpl]; have hL3 := Aside0.mk (Loc.on hb3 hL2.out); have hY3 := Aside0.mk (blk_below (blk_below hY1.out hb2) hb3); have hy3 := blk_cell hY3.out; clear hy hcg))
    have hH3 := Aside0.mk (pw_own_below hH1.out (hb2'.out.trans hb3))
    have hS3 := Aside0.mk (hS1.out.on (hb2'.out.trans hb3))
    have hRH := Aside0.mk (OH.rh hH3.out).2
    have hkk := Aside0.mk (show k < hs.length by rw [hlen.out]; exact hk)
    have hcap := hRH.out.cap
    have hB3 := Aside0.mk (hB1.out.trans (hb2.trans hb3))
    refine Reg.region [(1,.L),(2,.L),(3,.L),(4,.L),(6,.L),(7,.L),(8,.L),(9,.L),(10,.L),(0,.N),(5,.N)] [11,12,13] (by kernel_rfl) (by kernel_rfl) ?_
    repeat first | refine sP ?_ | refine sS ?_ | refine sA ?_ | refine sL ?_ | refine sQ ?_ | refine sO ?_
    refine sTo (k := k) (Nat.le_of_lt hkk.out) hcap ?_
    simp only [Act.put, List.setIfInBounds_toArray, List.set_cons_zero, List.set_cons_succ]
    repeat first | refine sP ?_ | refine sS ?_ | refine sA ?_ | refine sL ?_ | refine sQ ?_ | refine sO ?_
    obtain ⟨xs, hxs⟩ : ∃ xs, hs.take k = xs := ⟨_, rfl⟩
    obtain ⟨ys, hys⟩ : ∃ ys, hs.drop (k + 1) = ys := ⟨_, rfl⟩
    obtain ⟨Ad, hAd⟩ : ∃ Ad, (if cf = k + 1 then Af else Af.map (·.add ((k + 1) * 2))) = Ad := ⟨_, rfl⟩
    obtain ⟨cd, hcd⟩ : ∃ cd, cf - (k + 1) = cd := ⟨_, rfl⟩
    refine sFrom (k := k + 1) (m := ys.length) hAd (by rw [← hys, List.length_drop]) hcd hkk.out hcap ?_
    have hRx := Aside0.mk (hxs ▸ hRH.out.take k (Nat.le_of_lt hkk.out))
    have hRy := Aside0.mk (show RH w3 Ad cd ys from hAd ▸ hcd ▸ hys ▸ hRH.out.drop (k + 1) hkk.out)
    have hxl := Aside0.mk (show xs.length = k by rw [← hxs, List.length_take]; have := hkk.out; omega)
    have hxys := Aside0.mk (show hs.take k ++ hs.drop (k + 1) = xs ++ ys by rw [hxs, hys])
    clear hxs hys hAd hcd hcap
    simp only [Act.put, List.setIfInBounds_toArray, List.set_cons_zero, List.set_cons_succ]
    refine stepM (fun w4 hS4 => ?_)
    go_wp2
    refine ⟨hS4.trans (On.alloc (On.refl _) _), ?_⟩
    refine stepM (fun w5 hS5 => ?_)
    have hS35 := Aside0.mk (hS4.trans ((On.alloc (On.refl _) _).trans hS5))
    refine apHf 23 (List.nil_append xs) (pw_own_below (lit_own w4 #[] 55 2 0 w4.heap.size (Nat.le_refl _) (by omega) rfl) hS5) rfl (hRx.out.on hS35.out) (Nat.le_trans (by simp) hS5.size) (by have := hxl.out; omega) (fun v6 w6 hO6 hb6 => ?_) (hx := by rw [hxl.out]; rfl)
    refine ⟨hS5.trans hb6, ?_⟩
    obtain ⟨A6, c6, rfl⟩ := own_slice hO6
    simp only [Act.put, List.setIfInBounds_toArray, List.set_cons_zero, List.set_cons_succ]
    refine Reg.tail_ fun w7 hS7 => ?_
    have hB7 := Aside0.mk (hS35.out.trans (hb6.trans hS7))
    have hO7 := Aside0.mk (pw_own_below hO6 hS7)
    have hs34 := hS4.size
    have hs45 := ((On.alloc (On.refl w4) (.cells #[] 55)).trans hS5).size
    have hw13 : w.heap.size + 3 ≤ w1.heap.size := by have := hb1.size; rwa [hsz3.out] at this
    have hw1l : w1.heap.size < w3.heap.size := blk_lt hY3.out
    have hge : ∀ i, some i = Value.ownBlock (.slice A6 xs.length c6) → w4.heap.size ≤ i := fun i e => own_base hO6 i e.symm
    have hge' := Aside0.mk hge
    obtain ⟨zs, hzs⟩ : ∃ zs, xs ++ ys = zs := ⟨_, rfl⟩
    have hzl : xs.length + ys.length ≤ 1000000000 := by have h5 := congrArg List.length hxys.out; rw [List.length_append, List.length_append, List.length_take, List.length_drop] at h5; have := hlen.out; omega
    refine apH 29 hzs hO7.out (hRy.out.on hB7.out) (by have := (hb6.trans hS7).size; omega) hzl fun v8 w8 hO8 hg8 => ?_
    obtain ⟨A8, c8, rfl⟩ := own_slice hO8
    have hy8 := blk_grown hg8 (blk_below hY3.out hB7.out) (fun e => by have := hge _ e; have := blk_lt hY1.out; have := (hb2'.out.trans hb3).size; have := blk_lt hY3.out; omega)
    have hr8 := blk_grown hg8 (Loc.on hB7.out hL3.out).2.2.1 (fun e => by have := hge _ e; have := blk_lt hL3.out.2.2.1; omega)
    have hcy := blk_cell hy8
    have hfy := blk_frozen hy8
    have hcr : ∀ i, w8.cell? ⟨w.heap.size + 1 + 1, i, none⟩ = _ := blk_cell hr8
    have hfr : ∀ i, w8.frozen? ⟨w.heap.size + 1 + 1, i, none⟩ = _ := blk_frozen hr8
    have hr8' := Aside0.mk hr8
    have hne := Aside0.mk (show w.heap.size + 2 ≠ w1.heap.size by have := hb1.size; rw [hsz3.out] at this; omega)
    have hne1 : ¬ (w.heap.size + 1 + 1 = w1.heap.size) := hne.out
    have hne2 : ¬ (w1.heap.size = w.heap.size + 1 + 1) := fun e => hne.out e.symm
    have hy8' := Aside0.mk hy8
    clear hy8 hr8 hge hy3 hzl
    go_wp2
    refine bodyPost_ret (retIB rfl rfl (g := w.heap.size + 2) (blk_set (blk_set (blk_far hr8'.out (by simpa using hne1) _) 0 _) 1 _) rfl) rfl ?_
    have hEx : Ex (fun b => w1.heap.size = b ∨ w4.heap.size ≤ b) w3 (w8.setCell ⟨w1.heap.size, 1, none⟩ (.slice A8 zs.length c8)) :=
      ((Ex.of_on hB7.out).trans (Ex.of_grown hg8) (fun i _ e => .inr (hge'.out i e))).trans (Ex.set _ _ _) (fun i _ e => .inl e.symm)
    have hI : OIn (w8.setCell ⟨w1.heap.size, 1, none⟩ (.slice A8 zs.length c8)) (w.heap.size + 3) (.agg #[.slice Ar rs.length cr, .slice A8 zs.length c8]) rs (fs.take k ++ fs.drop (k + 1)) := by
      have hR3 := pw_own_below hR1.out (hb2'.out.trans hb3)
      have hy3' := blk_lt hY3.out
      rw [hsz3.out] at hR3
      have hS9 := hS3.out.erase k
      rw [hxys.out, hzs, hsz3.out] at hS9
      refine ⟨_, _, zs, rfl, own_ex hR3 hEx (fun i hi h => ?_), own_lower (own_ex hO8 (Ex.set _ _ _) (fun i hi h => ?_)) (by omega), hS9.ex hEx (fun i a b ha hb h => ?_)⟩
      · have := own_lt hR1.out i hi; omega
      · have h7 := own_base hO8 i hi; have h8 : i = w1.heap.size := h; omega
      · have h1 := (hS1.out.erase k)
        rw [hxys.out, hzs] at h1
        have := h1.lt ha hb; omega
    rw [hdel.out]
    refine ⟨_, rfl, _, rfl, OIn.lower (OIn.set (OIn.set hI (by simp) _) (by simp) _) (by omega), Reg.On.set (Reg.On.set (Ex.on (hb.out.trans (hB1.out.trans (hb2.trans hb3))) hEx (fun i h => by omega)) (by simp; omega) _) (by simp; omega) _⟩
/-- The facts of the source's relations, or of the others. -/
def resF (rs : List Rel) (fs : List Fct) (b : Bool) : List Fct := fs.filter fun f => srcOf rs f.1 == b
def resI (rs : List Rel) (fs : List Fct) (b : Bool) : List Fct := if okInst rs fs then resF rs fs b else []
def resR (rs : List Rel) (fs : List Fct) : List Rel := if okInst rs fs then rs else []
theorem resF_step (rs : List Rel) (fs : List Fct) (b : Bool) (k : Nat) (h : k < fs.length) : resF rs (fs.take (k + 1)) b = resF rs (fs.take k) b ++ (if srcOf rs fs[k].1 == b then [fs[k]] else []) := by
  unfold resF; rw [List.take_succ_eq_append_getElem h, List.filter_append, List.filter_cons]; split <;> simp
theorem factsFrom_mem {rs : List Rel} : ∀ {p : Option Fct} {fs : List Fct}, factsFrom rs p fs = true → ∀ f ∈ fs, okFact rs f = true
  | _, [], _, f, hf => by cases hf
  | p, g :: fs, h, f, hf => by
    simp only [factsFrom, okNext, Bool.and_eq_true] at h
    rcases List.mem_cons.1 hf with rfl | hf
    · exact h.1.1.1
    · exact factsFrom_mem h.2 f hf
theorem okInst_mem {rs : List Rel} {fs : List Fct} (h : okInst rs fs = true) : ∀ f ∈ fs, okFact rs f = true := by
  simp only [okInst, Bool.and_eq_true] at h; exact factsFrom_mem h.1
theorem sRestrict_calls (w : World) (A0 c0 A1 c1) (rs : List Rel) (fs : List Fct) (b : Bool) (h0 : Rels w A0 c0 rs) (h1 : Fcts w A1 c1 fs) :
    Calls Try.prog 21 #[.agg #[.slice A0 rs.length c0, .slice A1 fs.length c1], .bool b] w (Got fun v w' => RIn w' v (resR rs fs) (resI rs fs b) ∧ On w w') := by
  have hb := Aside0.mk (On.alloc (On.alloc (On.refl w) (.cells #[.slice A0 rs.length c0, .slice A1 fs.length c1] 32)) (.cells #[.slice none 0 0, .slice none 0 0] 32))
  have hL := Aside0.mk (loc2 w #[.slice A0 rs.length c0, .slice A1 fs.length c1] #[.slice none 0 0, .slice none 0 0] 32 32)
  cases ho : okInst rs fs with
  | false =>
    have ho' := Aside0.mk ho
    clear ho
    go_enter Try.func21, Try.ntmps21
    go_wp2_with (go_at_call 41; refine (IsValidInstance_calls _ A0 c0 A1 c1 rs fs (h0.on hb.out) (h1.on hb.out)).mono ?_; rintro e w1 ⟨rfl, hb1⟩; rw [ho'.out]; have hL1 := Aside0.mk (Loc.on hb1 hL.out); have hcr := blk_cell hL1.out.2.1; have hfr := blk_frozen hL1.out.2.1)
    refine bodyPost_ret (retI rfl rfl (g := w.heap.size + 1) (blk_set (blk_set hL1.out.2.1 0 _) 1 _) rfl) rfl ?_
    refine ⟨_, rfl, ?_, Reg.On.set (Reg.On.set (hb.out.trans hb1) (by simp) _) (by simp) _⟩
    unfold resR resI; rw [ho'.out, if_neg (by simp), if_neg (by simp)]
    exact ⟨none, 0, none, 0, rfl, ⟨Nat.le_refl _, rfl, by simp, fun h => absurd h (by simp)⟩, ⟨Nat.le_refl _, ⟨rfl, by simp, fun h => absurd h (by simp)⟩, fun f hf => by cases hf⟩⟩
  | true =>
    have hle := okInst_len ho
    have hmem := Aside0.mk (okInst_mem ho)
    have ho' := Aside0.mk ho
    clear ho
    go_enter Try.func21, Try.ntmps21
    go_wp2_with (first | (go_at_call 41; refine (IsValidInstance_calls _ A0 c0 A1 c1 rs fs (h0.on hb.out) (h1.on hb.out)).mono ?_; rintro e w0 ⟨rfl, hb0⟩; rw [ho'.out]; have hL0 := Aside0.mk (Loc.on hb0 hL.out); have hc0 := blk_cell hL0.out.1; have hc1 := blk_cell (blk_alloc hL0.out.1 (.cells #[] 87)); have hB0 := Aside0.mk (hb.out.trans hb0)) | (refine gate 14 ?_))
    refine ⟨apRf 14 (List.nil_append _) (lit_own w0 #[] 87 3 0 (w.heap.size + 2) (blk_lt hL0.out.2.1) (by omega) rfl) rfl (h0.on (hB0.out.trans (On.alloc (On.refl _) _))) (by have := blk_lt hL0.out.2.1; simp; omega) (by omega) fun v1 w1 hO1 hb1 => ?_⟩
    obtain ⟨Ar, cr, rfl⟩ := own_slice hO1
    have hfill := alloc_fill w1
    go_wp2
    clear hfill hc0 hc1
    have hbL := Aside0.mk (Loc.on ((On.alloc (On.refl _) _).trans hb1) hL0.out)
    have hB1 := Aside0.mk (hB0.out.trans ((On.alloc (On.refl _) _).trans hb1))
    have hOR := Aside0.mk hO1
    clear hb1 hO1
    have hyb := Aside0.mk (loc_new w1 #[.slice Ar rs.length cr, .slice none 0 0] 32)
    have hBy := Aside0.mk (On.alloc (On.refl w1) (.cells #[.slice Ar rs.length cr, .slice none 0 0] 32))
    have hsy := Aside0.mk (show (w1.alloc (.cells #[.slice Ar rs.length cr, .slice none 0 0] 32)).heap.size = w1.heap.size + 1 by simp)
    obtain ⟨Wy, hWy⟩ : ∃ Wy, w1.alloc (.cells #[.slice Ar rs.length cr, .slice none 0 0] 32) = Wy := ⟨_, rfl⟩
    rw [hWy] at hyb hBy hsy ⊢
    clear hWy
    go_loopw [6] (fun v wr => ∃ (k : Nat) (hs : List Hdr) (A' : Option Addr) (c' : Nat), k ≤ fs.length ∧ v = .int .i64 k ∧ Aside0 (OH wr (w1.heap.size + 1) (.slice A' hs.length c') hs) ∧ Aside0 (Sep wr (w1.heap.size + 1) hs (resF rs (fs.take k) b)) ∧ Aside0 (w1.heap.size + 1 ≤ wr.heap.size) ∧ Aside0 (Ex (fun b => w1.heap.size ≤ b) w1 wr) ∧ wr.heap[w1.heap.size]? = some (.cells #[.slice Ar rs.length cr, .slice A' hs.length c'] 32 (0, 0))) (fun v _ => fs.length - (intOf v).toNat)
    case atStart => exact ⟨0, [], none, 0, Nat.zero_le _, rfl, ⟨World.ownsRow_nil _ _ _ _⟩, ⟨Sep.nil _ _⟩, ⟨by rw [hsy.out]; exact Nat.le_refl _⟩, ⟨Ex.of_on hBy.out⟩, hyb.out⟩
    case round =>
      obtain ⟨k, hs, A', c', hk, rfl, hO, hS, hsz, hE, hy⟩ := hrel
      have hlen := Aside0.mk (show hs.length ≤ k by have := hS.out.len; have h6 : (resF rs (fs.take k) b).length ≤ (fs.take k).length := List.length_filter_le _ _; rw [List.length_take] at h6; omega)
      have hB := Aside0.mk (Ex.on hB1.out hE.out (fun i hi => by have := hB1.out.size; omega))
      have hLr := Aside0.mk (show Loc wr _ from Loc.on (Ex.to_on hE.out (fun i hi => hi)) hbL.out)
      have hc0 := blk_cell hLr.out.1
      have hcy := blk_cell hy
      have hy' := Aside0.mk hy
      clear hy
      by_cases hlt : k < fs.length
      · obtain ⟨ad, A3, c3, rfl, hx0, hx1, hx2⟩ := (h1.on hB.out).at k hlt
        have hat := okFact_at (hmem.out _ (List.getElem_mem hlt))
        have hat1 : fs[k].1.toNat < rs.length := by omega
        have hat2 : 0 ≤ fs[k].1 := hat.1
        have hat3 : fs[k].1 < rs.length := hat.2
        obtain ⟨ad0, rfl, _, _, hxs⟩ := (h0.on hB.out).at fs[k].1.toNat hat1
        have hsr : rs[fs[k].1.toNat].2.2 = srcOf rs fs[k].1 := by simp [srcOf, hat1]
        rw [hsr] at hxs
        have hstep := Aside0.mk (resF_step rs fs b k hlt)
        clear hsr hat
        cases hq : (srcOf rs fs[k].1 == b) with
        | true =>
          have hq' := Aside0.mk hq
          go_wp2
          refine Reg.region [(0,.L),(1,.L),(2,.L),(3,.L),(4,.L),(5,.L),(6,.L),(7,.L),(8,.L),(9,.L),(10,.L),(11,.L),(12,.L)] [] (by kernel_rfl) (by kernel_rfl) ?_
          repeat first | refine sP ?_ | refine sS ?_ | refine sA ?_ | refine sL ?_ | refine sQ ?_ | refine sO ?_
          refine Reg.nil fun w2 hS2 => ?_
          have hEq2 := hS2.eq
          have hc2 := blk_cell (Loc.on hS2 hLr.out).1
          have hcy2 := blk_cell (blk_below hy'.out hS2)
          have hx0' := (hS2.eq _ (by rw [hx0]; rfl)).trans hx0
          have hx1' := (hS2.eq _ (by rw [hx1]; rfl)).trans hx1
          clear hEq2 hc0 hcy hx0 hx1 hxs
          go_wp2
          refine Reg.region [(0,.L),(1,.L),(2,.L),(3,.L),(4,.L),(5,.L),(6,.L),(7,.N),(8,.N)] [9,10,11] (by kernel_rfl) (by kernel_rfl) ?_
          repeat first | refine sP ?_ | refine sS ?_ | refine sA ?_ | refine sL ?_ | refine sQ ?_ | refine sO ?_
          have hO2 := Aside0.mk (pw_own_below hO.out hS2)
          have hSp2 := Aside0.mk (hS.out.on hS2)
          have hsz2 := Aside0.mk (Nat.le_trans hsz.out hS2.size)
          have hy2 := Aside0.mk (blk_below hy'.out hS2)
          have hl3 := Nat.le_trans (okFact_len (hmem.out _ (List.getElem_mem hlt))) (show 3 ≤ 2000000 by omega)
          refine callN Try.func65 (fun w3 hS3 => ?_)
          refine (l5Fact_calls w3 A3 c3 fs[k] (hx2.on (hS2.trans hS3)) hl3).mono ?_
          rintro e w4 ⟨v4, rfl, v5, rfl, hO4, hb4⟩
          obtain ⟨A4, c4, rfl⟩ := own_slice hO4
          refine ⟨_, rfl, hb4, fun a' ha => ?_⟩
          simp only [Act.put, List.setIfInBounds_toArray, List.set_cons_zero, List.set_cons_succ] at ha
          subst ha
          refine stepM (fun w5 hS5 => ?_)
          go_wp2
          refine ⟨hS5.trans (On.alloc (On.refl _) _), ?_⟩
          refine Reg.tail_ fun w6 hS6 => ?_
          have hB6 := Aside0.mk ((hS3.trans (hb4.trans (hS5.trans (On.alloc (On.refl _) _)))).trans hS6)
          have hlit := Aside0.mk (lit_RH hS6)
          have hO6 := Aside0.mk (pw_own_below hO2.out hB6.out)
          obtain ⟨zs, hz⟩ : ∃ zs, hs ++ [(fs[k].1, A4, fs[k].2.length, c4)] = zs := ⟨_, rfl⟩
          have hz' := Aside0.mk hz
          refine apH 45 hz hO6.out hlit.out (Nat.le_trans hsz2.out hB6.out.size) (by have := hlen.out; simp; omega) fun v7 w7 hO7 hg7 => ?_
          obtain ⟨A7, c7, rfl⟩ := own_slice hO7
          have hgy : some w1.heap.size ≠ Value.ownBlock (.slice A' hs.length c') := fun e => by have := own_base hO.out _ e.symm; omega
          have hk7 := blk_grown hg7 (blk_below hy2.out hB6.out) hgy
          have hcy7 := blk_cell hk7
          have hf7 := blk_frozen hk7
          have hk7' := Aside0.mk hk7
          have hS7 := Aside0.mk (copy_more (r := fs[k].1) (vs := fs[k].2) hSp2.out hsz2.out hO2.out (own_lower hO4 hS3.size) (hx2.2.2) (hS3.trans hb4) (hS5.trans ((On.alloc (On.refl _) _).trans hS6)) hg7)
          have hS7 := Aside0.mk (hz ▸ hS7.out)
          clear hk7 hgy hcy2 hz hc2 hx0' hx1'
          go_wp2
          refine ⟨⟨k + 1, zs, A7, c7, by omega, by go_num, ⟨ownsRow_setCell_below hO7 (Nat.lt_succ_self _) _⟩, ⟨?_⟩, ⟨?_⟩, ⟨?_⟩, blk_set hk7'.out 1 _⟩, by simp [intOf]; omega⟩
          · rw [hstep.out, hq'.out, if_pos rfl]
            exact Sep.set hS7.out (Nat.lt_succ_self _) _
          · have h3 := hg7.size; have h4 := hB6.out.size; have := hsz2.out; simp [World.setCell]; omega
          · exact ((hE.out.then_on (hS2.trans hB6.out)).trans (Ex.of_grown hg7) (fun i _ e => by have := own_base hO6.out i e.symm; omega)).trans (Ex.set _ _ _) (fun i _ e => by subst e; exact Nat.le_refl _)
        | false =>
          have hq' := Aside0.mk hq
          go_wp2
          refine Reg.region [(0,.L),(1,.L),(2,.L),(3,.L),(4,.L),(5,.L),(6,.L),(7,.L),(8,.L),(9,.L),(10,.L),(11,.L),(12,.L)] [] (by kernel_rfl) (by kernel_rfl) ?_
          repeat first | refine sP ?_ | refine sS ?_ | refine sA ?_ | refine sL ?_ | refine sQ ?_ | refine sO ?_
          refine Reg.nil fun w2 hS2 => ?_
          go_wp2
          refine ⟨⟨k + 1, hs, A', c', by omega, by go_num, ⟨pw_own_below hO.out hS2⟩, ⟨?_⟩, ⟨Nat.le_trans hsz.out hS2.size⟩, ⟨hE.out.then_on hS2⟩, blk_below hy'.out hS2⟩, by simp [intOf]; omega⟩
          rw [hstep.out, hq'.out, if_neg (by simp), List.append_nil]; exact hS.out.on hS2
      · have e1 : fs.take k = fs := List.take_of_length_le (by omega)
        rw [e1] at hS
        have hcr := blk_cell hLr.out.2.1
        have hfr := blk_frozen hLr.out.2.1
        go_wp2
        have hs1 := hBy.out.size
        have hw1 := blk_lt hbL.out.2.1
        refine bodyPost_ret (retI rfl rfl (g := w.heap.size + 1) (blk_set (blk_set hLr.out.2.1 0 _) 1 _) rfl) rfl ?_
        have hI : OIn wr (w.heap.size + 2) (.agg #[.slice Ar rs.length cr, .slice A' hs.length c']) rs (resF rs fs b) :=
          ⟨_, _, hs, rfl, own_ex hOR.out hE.out (fun i hi h => by have := own_lt hOR.out i hi; omega), own_lower hO.out (by omega), hS.out.lower (by omega)⟩
        refine ⟨_, rfl, ?_, Reg.On.set (Reg.On.set hB.out (by simp) _) (by simp) _⟩
        unfold resR resI; rw [ho'.out, if_pos rfl, if_pos rfl]
        exact (OIn.set (OIn.set hI (by simp) _) (by simp) _).read
end Go.Proofs.Ytngjhblbpapjeaa.H
