/- Walks: the program's own nulls; the library's sorting over its shelf. No condition. -/
import Derived.Test.YtngjhblbpapjeaaHE
import Derived.Test.YtngjhblbpapjeaaHC1
namespace Go.Proofs.Ytngjhblbpapjeaa.H
open Go Go.RowKit Go.Proofs.YtngjhblbpapjeaaW.PrintWords Go.Proofs.YtngjhblbpapjeaaW.PrintLast
open Go.Proofs.Ytngjhblbpapjeaa.Reg (On on_draw)
set_option maxHeartbeats 1000000
set_option maxRecDepth 100000
set_option linter.unusedVariables false
set_option linter.unusedSimpArgs false

theorem own_setCells {base g n cap : Nat} {e : TypeId} : ∀ (ys : List Value) (i : Nat) (xs : List Value) (W : World), W.ownsRow base e 1 (.slice (some ⟨g, 0, none⟩) n cap) n xs → i + ys.length ≤ n →
    (W.setCells g i ys).ownsRow base e 1 (.slice (some ⟨g, 0, none⟩) n cap) n (xs.take i ++ ys ++ xs.drop (i + ys.length)) ∧ W.grownBy (W.setCells g i ys) (some g)
  | [], i, xs, W, h, _ => ⟨by simpa [World.setCells] using h, World.grownBy.refl W _⟩
  | y :: ys, i, xs, W, h, hl => by
    have hx : xs.length = n := by have := h.1; omega
    simp only [List.length_cons] at hl
    obtain ⟨h1, g1⟩ := h.stored i y
    obtain ⟨h2, g2⟩ := own_setCells ys (i + 1) _ _ h1 (by omega)
    refine ⟨?_, World.grownBy.trans g1 g2⟩
    have e : (xs.set i y).take (i + 1) ++ ys ++ (xs.set i y).drop (i + 1 + ys.length) = xs.take i ++ (y :: ys) ++ xs.drop (i + (y :: ys).length) := by
      rw [List.take_succ_eq_append_getElem (by simp; omega), List.take_set_of_le (Nat.le_refl _), List.getElem_set_self, List.drop_set_of_lt (by omega)]
      rw [show i + 1 + ys.length = i + (y :: ys).length by simp; omega]
      simp
    rw [e] at h2
    exact h2
theorem own_holds {base g cap : Nat} {e : TypeId} {w : World} {zs : List Int} (h : w.ownsRow base e 1 (.slice (some ⟨g, 0, none⟩) zs.length cap) zs.length (encs (Value.int .i64) zs)) : Go.Sort.Holds (Value.int .i64) w g 0 zs.toArray := by
  intro j hj
  have hj' : j < zs.length := by simpa using hj
  constructor
  · have hc := h.cells (g := g) rfl j (.int .i64 zs[j]) (by simp [encs, List.getElem?_eq_getElem hj'])
    rw [add_plain] at hc
    rw [Nat.zero_add, hc]
    simp [hj']
  · rcases h.2 with ⟨h', _⟩ | ⟨g', cap', cur, h', _, hh, _⟩
    · cases h'
    · have : g = g' := by injection h' with h'; injection h' with h'; injection h' with h'
      subst this
      simp [World.frozen?, hh]
theorem own_row {base g cap : Nat} {e : TypeId} {w : World} {zs ys : List Int} (q : Nat) (h : w.ownsRow base e 1 (.slice (some ⟨g, 0, none⟩) zs.length cap) zs.length (encs (Value.int .i64) zs)) (hl : ys.length = zs.length) :
    (Go.Sort.putRow (Value.int .i64) (Go.Sort.ahead w q) g 0 ys.toArray).ownsRow base e 1 (.slice (some ⟨g, 0, none⟩) zs.length cap) zs.length (encs (Value.int .i64) ys) ∧ w.grownBy (Go.Sort.putRow (Value.int .i64) (Go.Sort.ahead w q) g 0 ys.toArray) (some g) := by
  rw [Go.Lib.putRow_eq_setCells _ w g 0 zs.toArray ys q (own_holds h) (by simpa using hl)]
  have h1 : (w.drewN q).ownsRow base e 1 (.slice (some ⟨g, 0, none⟩) zs.length cap) zs.length (encs (Value.int .i64) zs) := own_move h (fun _ _ => rfl)
  obtain ⟨h2, g2⟩ := own_setCells (ys.map (Value.int .i64)) 0 _ _ h1 (by simp; omega)
  have e : (encs (Value.int .i64) zs).take 0 ++ ys.map (Value.int .i64) ++ (encs (Value.int .i64) zs).drop (0 + (ys.map (Value.int .i64)).length) = encs (Value.int .i64) ys := by
    rw [List.drop_of_length_le (by simp [encs]; omega)]
    simp [encs]
  rw [e] at h2
  exact ⟨h2, ⟨g2.os, g2.tape, g2.output, g2.size, g2.block⟩⟩
theorem grownBy_grow {w w1 : World} {row : Option Nat} (h : w.grownBy w1 row) (os : Array Obj) : w.grownBy (Go.Sort.grow w1 os) row := by
  refine ⟨h.os, h.tape, h.output, by have := h.size; simp [Go.Sort.grow]; omega, fun k hk hr => ?_⟩
  have hs := h.size
  show (w1.heap ++ os)[k]? = _
  rw [Array.getElem?_append_left (by omega)]
  exact h.block k hk hr
theorem own_grow {w : World} {base : Nat} {e : TypeId} {size n : Nat} {v : Value} {xs : List Value} (h : w.ownsRow base e size v n xs) (os : Array Obj) : (Go.Sort.grow w os).ownsRow base e size v n xs := by
  refine own_move h fun k hk => ?_
  have := own_lt h k hk
  show (w.heap ++ os)[k]? = _
  rw [Array.getElem?_append_left (by omega)]
theorem own_cut1 {base g cap n : Nat} {e : TypeId} {w : World} {xs : List Value} (h : w.ownsRow base e 1 (.slice (some ⟨g, 0, none⟩) n cap) n xs) (m : Nat) (hm : m ≤ n) : w.ownsRow base e 1 (.slice (some ⟨g, 0, none⟩) m cap) m (xs.take m) := by
  have hx : xs.length = n := by have := h.1; omega
  rcases h.2 with ⟨h', _⟩ | ⟨g', cap', cur, h', hg, hh, hnc, hcm, hcs, htk⟩
  · cases h'
  · injection h' with h1 h2 h3
    injection h1 with h1
    injection h1 with h1
    subst h1 h3
    refine ⟨by rw [List.length_take]; omega, .inr ⟨g, cap, cur, rfl, hg, hh, by omega, hcm, hcs, ?_⟩⟩
    rw [← htk, List.take_take]
    congr 1
    omega
theorem Ex.trans' {S : Nat → Prop} {a b c : World} (h : Ex S a b) (k : Ex S b c) : Ex S a c := h.trans k fun _ _ h => h
theorem sortI_calls (w : World) (lo : Nat) (v : Value) (xs : List Int) (h : OI w lo v xs) (hl : xs.length < 1099511627776) : Calls Try.prog 103 #[v] w fun e w' => e = .returned (.tuple #[]) ∧ OI w' lo v (xs.mergeSort fun x y => decide (x ≤ y)) ∧ Ex (fun b => some b = v.ownBlock) w w' := by
  have hown : w.ownsRow lo 3 1 v xs.length (encs (Value.int .i64) xs) := by rw [encs_flat]; exact h
  rcases hown.2 with ⟨rfl, hn⟩ | ⟨g, cap, cur, rfl, hg, hh, hr⟩
  · obtain rfl : xs = [] := List.eq_nil_of_length_eq_zero hn
    refine (Try.slices_Sort_int_none none 0 w).mono fun e w' ⟨he, hw⟩ => ?_
    subst hw
    exact ⟨he, by simpa using h, Ex.refl _ _⟩
  · have hlt : g < w.heap.size := own_lt hown g rfl
    refine (Try.slices_Sort_int g 0 cap xs w (own_holds hown) hlt (by omega)).mono fun e w' ⟨he, n, os, hw⟩ => ?_
    obtain ⟨h1, g1⟩ := own_row (ys := xs.mergeSort fun x y => decide (x ≤ y)) n hown (by simp)
    have h2 := own_grow h1 os
    have g2 := grownBy_grow g1 os
    rw [← hw] at h2 g2
    refine ⟨he, ?_, Ex.of_grown g2⟩
    show World.ownsRow _ _ _ _ _ (xs.mergeSort fun x y => decide (x ≤ y)).length _
    rw [← encs_flat, List.length_mergeSort]
    exact h2
theorem compactI_calls (w : World) (lo : Nat) (v : Value) (xs : List Int) (h : OI w lo v xs) (hl : xs.length < 1099511627776) : Calls Try.prog 104 #[v] w (Got fun v1 w' => OI w' lo v1 (Go.Lib.compact xs) ∧ Ex (fun b => some b = v.ownBlock) w w') := by
  have hown : w.ownsRow lo 3 1 v xs.length (encs (Value.int .i64) xs) := by rw [encs_flat]; exact h
  rcases hown.2 with ⟨rfl, hn⟩ | ⟨g, cap, cur, rfl, hg, hh, hnc, hr⟩
  · obtain rfl : xs = [] := List.eq_nil_of_length_eq_zero hn
    refine (Try.slices_Compact_int_empty none 0 w).mono fun e w' ⟨he, hw⟩ => ?_
    subst hw
    exact ⟨_, he, by simpa [Go.Lib.compact, Go.Lib.compactUpTo] using h, Ex.refl _ _⟩
  · have hle := Go.Lib.compact_length_le xs
    refine (Try.slices_Compact_int g 0 cap xs w (own_holds hown) (by omega) hnc).mono fun e w' ⟨he, n, hw⟩ => ?_
    obtain ⟨h1, g1⟩ := own_row (ys := Go.Lib.compact xs ++ List.replicate (xs.length - (Go.Lib.compact xs).length) 0) n hown (by simp; omega)
    have h2 := own_cut1 h1 (Go.Lib.compact xs).length hle
    have e2 : (encs (Value.int .i64) (Go.Lib.compact xs ++ List.replicate (xs.length - (Go.Lib.compact xs).length) 0)).take (Go.Lib.compact xs).length = encs (Value.int .i64) (Go.Lib.compact xs) := by
      simp [encs]
    rw [e2] at h2
    rw [← hw] at h2 g1
    rw [encs_flat] at h2
    exact ⟨_, he, h2, Ex.of_grown g1⟩
theorem nullsOf_calls (w : World) (A c) (vs : List Int) (h : Ints w A c vs) (hl : vs.length ≤ 1000000000) : Calls Try.prog 60 #[.slice A vs.length c] w (Got fun v' w' => OI w' w.heap.size v' (sortU (nulSeq vs)) ∧ On w w') := by
  go_enter Try.func60, Try.ntmps60
  go_wp2
  go_loopw [3, 11] (fun v3 v11 wr => ∃ k : Nat, k ≤ vs.length ∧ v11 = .int .i64 k ∧ Aside0 (OInts wr w.heap.size v3 (nulSeq (vs.take k))) ∧ On w wr) (fun _ v11 _ => vs.length - (intOf v11).toNat)
  case atStart => exact ⟨0, Nat.zero_le _, rfl, ⟨own0' (by simp) (by simp)⟩, On.alloc (On.refl _) _⟩
  case round =>
    obtain ⟨k, hk, rfl, hO, hB⟩ := hrel
    by_cases hlt : k < vs.length
    · obtain ⟨ad, rfl, hx⟩ := (h.on hB).at k hlt
      have hbd := h.bd k hlt
      have hseq := Aside0.mk (show nulSeq (vs.take (k + 1)) = nulSeq (vs.take k) ++ (if isNul vs[k] then [nulNum vs[k]] else []) by rw [List.take_succ_eq_append_getElem hlt, nulSeq_append, nulSeq_cons]; split <;> rfl)
      have hlq := Aside0.mk (show (nulSeq (vs.take k)).length ≤ k by have := (nulSeq_ok (vs.take k)).2; rw [List.length_take] at this; omega)
      cases hn : isNul vs[k] with
      | false =>
        have hn' := Aside0.mk hn
        clear hn
        go_wp2_with (go_at_call 102; refine (iNullNumber_calls _ _ hbd).mono ?_; rintro e w2 ⟨rfl, hb2⟩; rw [hn'.out])
        exact ⟨⟨k + 1, by omega, by go_num, ⟨by rw [hseq.out, hn'.out]; simpa using OInts.on hO.out hb2⟩, hB.trans hb2⟩, by simp [intOf]; omega⟩
      | true =>
        have hn' := Aside0.mk hn
        clear hn
        go_wp2_with (first | (go_at_call 102; refine (iNullNumber_calls _ _ hbd).mono ?_; rintro e w2 ⟨rfl, hb2⟩; rw [hn'.out]) | (refine gate 24 ?_))
        have hBA := (hB.trans hb2).trans (On.alloc (On.refl w2) (.cells #[.int .i64 (nulNum vs[k])] 3))
        have hOA := OInts.on hO.out (hb2.trans (On.alloc (On.refl w2) (.cells #[.int .i64 (nulNum vs[k])] 3)))
        obtain ⟨ys, hys⟩ : ∃ ys, nulSeq (vs.take k) ++ [nulNum vs[k]] = ys := ⟨_, rfl⟩
        have hys' := Aside0.mk hys
        have hl2 : (nulSeq (vs.take k)).length + 1 ≤ 10000000000 := by have := hlq.out; omega
        refine ⟨apI 24 hys hOA (Kd.R_reads' (own1 w2 (nulNum vs[k]))).2.2 hBA.size hl2 fun v3 w3 hO3 hg3 hat3 => ?_⟩
        clear hys
        have hB3 := grown_own hBA hOA hg3 (Nat.le_refl _)
        clear hl2 hat3
        go_wp2
        exact ⟨⟨k + 1, by omega, by go_num, ⟨by rw [hseq.out, hn'.out, if_pos rfl, hys'.out]; exact hO3⟩, hB3⟩, by simp [intOf]; omega⟩
    · have e1 : vs.take k = vs := List.take_of_length_le (by omega)
      rw [e1] at hO
      have hlq := (nulSeq_ok vs).2
      go_wp2_with (first | (go_at_call 103; refine (sortI_calls wr w.heap.size _ (nulSeq vs) (OI.of hO.out) (by omega)).mono ?_; rintro e w2 ⟨rfl, hO2, hE2⟩; have hO3 := Aside0.mk hO2; clear hO2) | (go_at_call 104; refine (compactI_calls w2 w.heap.size _ _ hO3.out (by rw [List.length_mergeSort]; omega)).mono ?_; rintro e w3 ⟨v3, rfl, hO4, hE4⟩))
      go_ret
      exact ⟨_, rfl, hO4, Ex.on (Ex.on hB hE2 (fun i e => own_base (OI.of hO.out) i e.symm)) hE4 (fun i e => own_base (OI.of hO.out) i e.symm)⟩
theorem iNullsOfFact_calls (w : World) (A c) (r : Int) (vs : List Int) (h : Ints w A c vs) (hl : vs.length ≤ 1000000000) : Calls Try.prog 110 #[.agg #[.int .i64 r, .slice A vs.length c]] w (Got fun v' w' => OI w' w.heap.size v' (nuls vs) ∧ On w w') := by
  have hb := Aside0.mk (On.alloc (On.refl w) (.cells #[.int .i64 r, .slice A vs.length c] 55))
  go_enter Try.func110, Try.ntmps110
  go_wp2_with (go_at_call 60; refine (nullsOf_calls _ A c vs (h.on hb.out) hl).mono ?_; rintro e w2 ⟨v, rfl, hO, hb2⟩; have hO' := Aside0.mk hO; clear hO)
  go_ret
  exact ⟨_, rfl, by rw [← nuls_sort]; exact own_lower hO'.out hb.out.size, hb.out.trans hb2⟩
theorem valsOf_take (fs : List Fct) (k : Nat) (h : k < fs.length) : valsOf (fs.take (k + 1)) = valsOf (fs.take k) ++ fs[k].2 := by
  unfold valsOf; rw [List.take_succ_eq_append_getElem h, List.flatMap_append]; simp
theorem valsOf_inR {fs : List Fct} (h : InF fs) : InR (valsOf fs) := fun x hx => by
  obtain ⟨f, hf, hx⟩ := List.mem_flatMap.1 hx
  exact h f hf x hx
theorem valsOf_len (fs : List Fct) : (valsOf fs).length ≤ wF fs := by
  unfold valsOf wF
  induction fs with
  | nil => simp
  | cons f fs ih => simp at ih ⊢; omega
theorem iNullsOfInstance_calls (w : World) (A0 n0 c0 A1 c1) (fs : List Fct) (h1 : Fcts w A1 c1 fs) (hl : wF fs ≤ 10000000) : Calls Try.prog 15 #[.agg #[.slice A0 n0 c0, .slice A1 fs.length c1]] w (Got fun v' w' => OI w' w.heap.size v' (nulsI fs) ∧ On w w') := by
  have hmax : fs.length ≤ 10000000 := by have := wF_len fs; omega
  go_enter Try.func15, Try.ntmps15
  go_wp2
  go_loopw [3, 10] (fun v3 v10 wr => ∃ k : Nat, k ≤ fs.length ∧ v10 = .int .i64 k ∧ Aside0 (OInts wr w.heap.size v3 (valsOf (fs.take k))) ∧ On w wr) (fun _ v10 _ => fs.length - (intOf v10).toNat)
  case atStart => exact ⟨0, Nat.zero_le _, rfl, ⟨own0' (by simp) (by simp)⟩, On.alloc (On.alloc (On.refl _) _) _⟩
  case round =>
    obtain ⟨k, hk, rfl, hO, hB⟩ := hrel
    by_cases hlt : k < fs.length
    · obtain ⟨ad, A3, c3, rfl, hx0, hx1, hx2'⟩ := (h1.on hB).at k hlt
      have hvt := Aside0.mk (valsOf_take fs k hlt)
      have hlv := Aside0.mk (show (valsOf (fs.take k)).length + fs[k].2.length ≤ 10000000000 by
        have h3 := valsOf_len (fs.take (k + 1)); rw [hvt.out, List.length_append] at h3
        have h4 := cF_take_le (lens fs) (k + 1); rw [cF_lens, ← List.map_take] at h4
        have h5 := cF_lens (fs.take (k + 1)); simp only [lens] at h5; omega)
      have hfill := alloc_fill wr
      have hcn := blk_cell (loc_new wr #[.int .i64 fs[k].1, .slice A3 fs[k].2.length c3] 55)
      have hbx := Aside0.mk (On.alloc (On.refl wr) (.cells #[.int .i64 fs[k].1, .slice A3 fs[k].2.length c3] 55))
      go_wp2_with (refine gate 17 ?_)
      obtain ⟨ys, hys⟩ : ∃ ys, valsOf (fs.take k) ++ fs[k].2 = ys := ⟨_, rfl⟩
      have hys' := Aside0.mk hys
      have hOA := OInts.on hO.out hbx.out
      have hBA := hB.trans hbx.out
      refine ⟨apI 17 hys hOA (hx2'.on hbx.out).2.1 hBA.size hlv.out fun v3 w3 hO3 hg3 hat3 => ?_⟩
      clear hys
      have hB3 := grown_own hBA hOA hg3 (Nat.le_refl _)
      clear hat3 hfill hcn
      go_wp2
      exact ⟨⟨k + 1, by omega, by go_num, ⟨by rw [hvt.out, hys'.out]; exact hO3⟩, hB3⟩, by simp [intOf]; omega⟩
    · have e1 : fs.take k = fs := List.take_of_length_le (by omega)
      rw [e1] at hO
      have hvl := valsOf_len fs
      have hOI := Aside0.mk (OI.of hO.out)
      obtain ⟨A5, c5, rfl, hI5⟩ := OInts.slice hO.out (valsOf_inR h1.2.2)
      go_wp2_with (go_at_call 60; refine (nullsOf_calls wr A5 c5 (valsOf fs) hI5 (by omega)).mono ?_; rintro e w2 ⟨v, rfl, hO2, hb2⟩)
      go_ret
      exact ⟨_, rfl, by rw [← nulsI_sort]; exact own_lower hO2 hB.size, hB.trans hb2⟩
end Go.Proofs.Ytngjhblbpapjeaa.H
