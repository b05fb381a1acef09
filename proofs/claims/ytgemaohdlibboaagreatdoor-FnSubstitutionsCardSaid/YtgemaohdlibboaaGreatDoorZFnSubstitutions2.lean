/- Walks and plain laws for the law FnSubstitutions, part 2 of 7: the texts HB6, HO2, HD2, HB7, HB8, HL8, HRegT, HL9, HRegF, HJ4, HD3 in one. No condition. -/
import Derived.Maps.AppendAt
import Derived.Lib.SliceRun
import Derived.Test.YtgemaohdlibboaaGreatDoorZFnSubstitutions1
/- Walks: nulls of instances. No condition. -/
namespace Go.Proofs.YtgemaohdlibboaaGreatDoor.H
open Go Go.RowKit Go.Proofs.YtgemaohdlibboaaGreatDoorW.PrintWords Go.Proofs.YtgemaohdlibboaaGreatDoorW.PrintLast
open Go.Proofs.YtgemaohdlibboaaGreatDoor.Reg (On on_draw)
set_option maxHeartbeats 1000000
set_option maxRecDepth 100000
set_option linter.unusedVariables false
set_option linter.unusedSimpArgs false

def putAll : List Int → List Int → List Int
  | out, [] => out
  | out, x :: l => putAll (put out x) l
def nulsIFrom : List Int → List Fct → List Int
  | out, [] => out
  | out, f :: l => nulsIFrom (putAll out (nuls f.2)) l
def nulsI (fs : List Fct) : List Int := nulsIFrom [] fs
theorem putAll_step (out l : List Int) (k : Nat) (h : k < l.length) : putAll out (l.drop k) = putAll (put out l[k]) (l.drop (k + 1)) := by
  rw [List.drop_eq_getElem_cons h]; rfl
theorem nulsIFrom_step (out : List Int) (fs : List Fct) (k : Nat) (h : k < fs.length) : nulsIFrom out (fs.drop k) = nulsIFrom (putAll out (nuls fs[k].2)) (fs.drop (k + 1)) := by
  rw [List.drop_eq_getElem_cons h]; rfl
theorem nulsFrom_ok (out vs : List Int) (h : ∀ x ∈ out, 0 ≤ x ∧ x ≤ 39) : (∀ x ∈ nulsFrom out vs, 0 ≤ x ∧ x ≤ 39) ∧ (nulsFrom out vs).length ≤ out.length + vs.length := by
  induction vs generalizing out with
  | nil => exact ⟨h, by simp [nulsFrom]⟩
  | cons v vs ih =>
    unfold nulsFrom
    split
    · have h2 := ih (put out (nulNum v)) (fun x hx => by
        rcases put_mem hx with hx | rfl
        · exact h x hx
        · exact nulNum_bd v)
      have := put_length out (nulNum v)
      exact ⟨h2.1, by simp only [List.length_cons]; omega⟩
    · have h2 := ih out h
      exact ⟨h2.1, by simp only [List.length_cons]; omega⟩
theorem nuls_ok (vs : List Int) : (∀ x ∈ nuls vs, 0 ≤ x ∧ x ≤ 39) ∧ (nuls vs).length ≤ vs.length := by
  have := nulsFrom_ok [] vs (fun x hx => by cases hx)
  exact ⟨this.1, Nat.le_trans this.2 (by simp)⟩
theorem inR_of {xs : List Int} (h : ∀ x ∈ xs, 0 ≤ x ∧ x ≤ 39) : InR xs := fun x hx => by have := h x hx; omega
theorem sNullsOfInstance_calls (w : World) (A0 n0 c0 A1 c1) (fs : List Fct) (h1 : Fcts w A1 c1 fs) (hl : wF fs ≤ 10000000) : Calls Tryz.prog 35 #[.agg #[.slice A0 n0 c0, .slice A1 fs.length c1]] w (Got fun v' w' => OInts w' w.heap.size v' (nulsI fs) ∧ On w w') := by
  have hmax : fs.length ≤ 10000000 := by have := wF_len fs; omega
  go_enter Tryz.func35, Tryz.ntmps35
  go_wp2
  go_loopw [3, 4] (fun v3 v4 wr => ∃ (k : Nat) (out : List Int), k ≤ fs.length ∧ v4 = .int .i64 k ∧ Aside0 (OInts wr w.heap.size v3 out) ∧ Aside0 (nulsIFrom out (fs.drop k) = nulsI fs) ∧ Aside0 (out.length ≤ wF (fs.take k)) ∧ Aside0 (InR out) ∧ On w wr ∧ Loc wr [(w.heap.size, #[.slice A0 n0 c0, .slice A1 fs.length c1], 25)]) (fun _ v4 _ => fs.length - (intOf v4).toNat)
  case atStart => exact ⟨0, [], Nat.zero_le _, rfl, ⟨own0' (by simp) (by simp)⟩, ⟨rfl⟩, ⟨Nat.zero_le _⟩, ⟨fun x hx => by cases hx⟩, On.alloc (On.alloc (On.refl _) _) _, Loc.on (On.alloc (On.refl _) _) (loc1 _ _ _)⟩
  case round =>
    obtain ⟨k, out, hk, rfl, hO, hp, hlen, hR, hB, hL⟩ := hrel
    have hc0 := blk_cell hL.1
    have hL' := Aside0.mk hL
    clear hL
    by_cases hlt : k < fs.length
    · obtain ⟨ad, A3, c3, rfl, hx0, hx1, hx2'⟩ := (h1.on hB).at k hlt
      have hst := Aside0.mk ((nulsIFrom_step out fs k hlt).symm.trans hp.out)
      have hwt := Aside0.mk (wF_take fs k hlt)
      have hwl := Aside0.mk (show wF (fs.take (k + 1)) ≤ 10000000 by have h5 : wF (fs.take (k + 1)) ≤ wF fs := (by have := cF_take_le (lens fs) (k + 1); rw [cF_lens, ← List.map_take] at this; rw [← cF_lens]; exact this); omega)
      have hok := Aside0.mk (nuls_ok fs[k].2)
      clear hp
      go_wp2_with (go_at_call 71; refine (NullsOfFact_calls wr A3 c3 fs[k].1 fs[k].2 hx2' (by have := hwl.out; have := hwt.out; omega)).mono ?_; rintro e w2 ⟨v5, rfl, hO5, hb5⟩; obtain ⟨A5, c5, rfl, hI5⟩ := OInts.slice hO5 (inR_of hok.out.1); clear hO5)
      have hI := Aside0.mk hI5
      go_loopw [3, 6] (fun v3 v6 wq => ∃ (j : Nat) (out2 : List Int), j ≤ (nuls fs[k].2).length ∧ v6 = .int .i64 j ∧ Aside0 (OInts wq w.heap.size v3 out2) ∧ Aside0 (putAll out2 ((nuls fs[k].2).drop j) = putAll out (nuls fs[k].2)) ∧ Aside0 (out2.length ≤ out.length + j) ∧ Aside0 (InR out2) ∧ On w2 wq) (fun _ v6 _ => (nuls fs[k].2).length - (intOf v6).toNat)
      case atStart => exact ⟨0, out, Nat.zero_le _, rfl, ⟨OInts.on hO.out hb5⟩, ⟨rfl⟩, ⟨Nat.le_refl _⟩, hR, On.refl _⟩
      case round =>
        obtain ⟨j, out2, hj, rfl, hO2, hp2, hlen2, hR2, hB2⟩ := hrel
        by_cases hlt2 : j < (nuls fs[k].2).length
        · obtain ⟨ad5, rfl, hy⟩ := (hI.out.on hB2).at j hlt2
          have hjb := hok.out.1 _ (List.getElem_mem hlt2)
          have hst2 := Aside0.mk ((putAll_step out2 _ j hlt2).symm.trans hp2.out)
          have hjl : (nuls fs[k].2).length ≤ 10000000 := by have := hok.out.2; have := hwl.out; have := hwt.out; omega
          have hol : out2.length ≤ 5000000000 := by have := hlen2.out; have := hlen.out; have := hwl.out; have := hwt.out; omega
          clear hp2 hjb
          go_wp2_with (go_at_call 104; refine (l4Put_calls wr w.heap.size ((hB.trans hb5).trans hB2).size _ out2 (nuls fs[k].2)[j] hO2.out hR2.out hol).mono ?_; rintro e w4 ⟨v4, rfl, hO4, hb4⟩)
          have hjb := hok.out.1 _ (List.getElem_mem hlt2)
          exact ⟨⟨j + 1, _, by omega, by go_num, ⟨hO4⟩, hst2, ⟨by have := put_length out2 (nuls fs[k].2)[j]; have := hlen2.out; omega⟩, ⟨put_inR hR2.out (by omega) (by omega)⟩, hB2.trans hb4⟩, by simp [intOf]; omega⟩
        · have hp3 := Aside0.mk (show out2 = putAll out (nuls fs[k].2) by rw [← hp2.out, List.drop_of_length_le (by omega)]; rfl)
          clear hp2
          go_wp2
          exact ⟨⟨k + 1, out2, by omega, by go_num, hO2, ⟨by rw [hp3.out]; exact hst.out⟩, ⟨by have := hlen2.out; have := hlen.out; have := hwt.out; have := hok.out.2; omega⟩, hR2, (hB.trans hb5).trans hB2, Loc.on (hb5.trans hB2) hL'.out⟩, by simp [intOf]; omega⟩
    · have hp' := Aside0.mk hp.out
      clear hp
      go_wp2
      go_ret
      exact ⟨_, rfl, by have := hp'.out; rw [List.drop_of_length_le (by omega)] at this; rw [← this]; exact hO.out, hB⟩
end Go.Proofs.YtgemaohdlibboaaGreatDoor.H
/- Cells of own rows: appended to, cut, cleared; rows of headers that are read. No condition. -/
namespace Go.Proofs.YtgemaohdlibboaaGreatDoor.H
open Go Go.RowKit Go.Proofs.YtgemaohdlibboaaGreatDoorW.PrintWords Go.Proofs.YtgemaohdlibboaaGreatDoorW.PrintLast
open Go.Proofs.YtgemaohdlibboaaGreatDoor.Reg (On on_draw)
set_option maxHeartbeats 1000000
set_option maxRecDepth 100000
set_option linter.unusedVariables false
set_option linter.unusedSimpArgs false

theorem flat_get {α : Type} {enc : α → List Value} {sz : Nat} (hl : ∀ x, (enc x).length = sz) : ∀ (xs : List α) (i r : Nat) (hi : i < xs.length), r < sz → (xs.flatMap enc)[i * sz + r]? = (enc xs[i])[r]?
  | [], _, _, hi, _ => absurd hi (Nat.not_lt_zero _)
  | x :: xs, 0, r, _, hr => by
    rw [List.flatMap_cons, Nat.zero_mul, Nat.zero_add, List.getElem?_append_left (by rw [hl]; exact hr)]; rfl
  | x :: xs, i + 1, r, hi, hr => by
    rw [List.flatMap_cons, List.getElem?_append_right (by rw [hl, Nat.add_mul]; omega), hl, show (i + 1) * sz + r - sz = i * sz + r by rw [Nat.add_mul]; omega]
    exact flat_get hl xs i r (by simpa using hi) hr
theorem flat_div {α : Type} {enc : α → List Value} {sz : Nat} (hs : 0 < sz) (hl : ∀ x, (enc x).length = sz) (xs : List α) (j : Nat) (u : Value) (h : (xs.flatMap enc)[j]? = some u) : ∃ i r, ∃ hi : i < xs.length, r < sz ∧ j = i * sz + r ∧ (enc xs[i])[r]? = some u := by
  have hj : j < xs.length * sz := by
    have := (List.getElem?_eq_some_iff.1 h).1
    rwa [flat_len hl] at this
  have hi : j / sz < xs.length := (Nat.div_lt_iff_lt_mul hs).2 hj
  have e : j = j / sz * sz + j % sz := by rw [Nat.mul_comm]; exact (Nat.div_add_mod j sz).symm
  refine ⟨j / sz, j % sz, hi, Nat.mod_lt _ hs, e, ?_⟩
  rw [← flat_get hl xs _ _ hi (Nat.mod_lt _ hs), ← e]
  exact h
/-- A row of headers that is read. -/
structure RH (w : World) (A : Option Addr) (c : Nat) (hs : List Hdr) : Prop where
  cap : hs.length ≤ c
  max : hs.length ≤ 9223372036854775807
  cell : ∀ j u, (hs.flatMap encH)[j]? = some u → ∃ ad, A = some ad ∧ w.cell? (ad.add j) = some u
theorem RH.on {W w : World} {A : Option Addr} {c : Nat} {hs : List Hdr} (h : RH W A c hs) (hb : On W w) : RH w A c hs := ⟨h.cap, h.max, fun j u hu => by
  obtain ⟨ad, e, hc⟩ := h.cell j u hu
  exact ⟨ad, e, (hb.eq _ (by rw [hc]; rfl)).trans hc⟩⟩
theorem own_capmax {w : World} {lo e sz n : Nat} {A : Option Addr} {c : Nat} {cs : List Value} (h : w.ownsRow lo e sz (.slice A n c) n cs) : n ≤ c ∧ n ≤ 9223372036854775807 := by
  rcases h.2 with ⟨h1, h2⟩ | ⟨g, cap, cur, h1, _, _, h3, h4, _⟩
  · exact ⟨by omega, by omega⟩
  · injection h1 with h1 h5 h6
    have : maxLen = 9223372036854775807 := rfl
    exact ⟨by omega, by omega⟩
theorem OH.slice {w : World} {lo : Nat} {v : Value} {hs : List Hdr} (h : OH w lo v hs) : ∃ A c, v = .slice A hs.length c ∧ RH w A c hs := by
  obtain ⟨A, c, rfl⟩ := own_slice h
  obtain ⟨h1, h2⟩ := own_capmax h
  refine ⟨A, c, rfl, h1, h2, fun j u hu => ?_⟩
  rcases h.2 with ⟨h1, h3⟩ | ⟨g, cap, cur, h1, _⟩
  · obtain rfl : hs = [] := List.eq_nil_of_length_eq_zero h3
    simp at hu
  · injection h1 with h1 h5 h6
    subst h1
    exact ⟨_, rfl, h.cells rfl j u hu⟩
theorem OH.rh {w : World} {lo c : Nat} {A : Option Addr} {n : Nat} {hs : List Hdr} (h : OH w lo (.slice A n c) hs) : n = hs.length ∧ RH w A c hs := by
  obtain ⟨A', c', e, h'⟩ := OH.slice h
  injection e with e1 e2 e3
  subst e1 e3
  exact ⟨e2, h'⟩
theorem blk_grown {W w1 : World} {row : Option Nat} {g : Nat} {o : Obj} (hg : W.grownBy w1 row) (h : W.heap[g]? = some o) (hne : some g ≠ row) : w1.heap[g]? = some o := (hg.block g (blk_lt h) hne).trans h
theorem OR.slice {w : World} {lo : Nat} {v : Value} {hs : List Rel} (h : OR w lo v hs) : ∃ A c, v = .slice A hs.length c := own_slice h
theorem RH.fcts {w : World} {A : Option Addr} {c : Nat} {hs : List Hdr} {fs : List Fct} (h : RH w A c hs) (hr : Reads w hs fs) : Fcts w A c fs := by
  have hlen := hr.len
  refine ⟨by rw [← hlen]; exact h.cap, ⟨rfl, by rw [← hlen]; exact h.max, fun h0 => ?_⟩, hr.inF⟩
  obtain ⟨ad, rfl, _⟩ := h.cell 0 (.int .i64 (hs[0]'(by omega)).1) (by
    have := flat_get (enc := encH) (sz := 2) (fun _ => rfl) hs 0 0 (by omega) (by omega)
    rw [Nat.zero_mul] at this
    rw [this]; rfl)
  refine ⟨ad, rfl, fun j f hj => ?_⟩
  have hj' : j < hs.length := by rw [hlen]; exact (List.getElem?_eq_some_iff.1 hj).1
  obtain ⟨e1, e2, e3⟩ := hr.at_ j hs[j] f (List.getElem?_eq_getElem hj') hj
  refine ⟨encH hs[j], rfl, ⟨[.int .i64 hs[j].1], [hdV hs[j]], rfl, by rw [e1]; rfl, hs[j].2.1, hs[j].2.2.2, by rw [← e2], e3.1, e3.2.1⟩, fun i u hu => ?_⟩
  have hi : i < 2 := (List.getElem?_eq_some_iff.1 hu).1
  obtain ⟨ad', e, hc⟩ := h.cell (j * 2 + i) u (by rw [flat_get (enc := encH) (sz := 2) (fun _ => rfl) hs j i hj' hi]; exact hu)
  injection e with e
  subst e
  exact hc
theorem Fcts.hdrs {w : World} {A : Option Addr} {c : Nat} {fs : List Fct} (h : Fcts w A c fs) : ∃ hs, RH w A c hs ∧ Reads w hs fs := by
  have key : ∀ k, k ≤ fs.length → ∃ hs : List Hdr, hs.length = k ∧ ∀ (i : Nat) (hi : i < k) (hl : i < hs.length) (hf : i < fs.length), hs[i].1 = fs[i].1 ∧ hs[i].2.2.1 = fs[i].2.length ∧ Ints w hs[i].2.1 hs[i].2.2.2 fs[i].2 ∧ ∃ ad, A = some ad ∧ w.cell? (ad.add (i * 2)) = some (.int .i64 hs[i].1) ∧ w.cell? (ad.add (i * 2 + 1)) = some (hdV hs[i]) := by
    intro k
    induction k with
    | zero => intro _; exact ⟨[], rfl, fun i hi => by omega⟩
    | succ k ih =>
      intro hk
      obtain ⟨hs, hl, hh⟩ := ih (by omega)
      obtain ⟨ad, A1, c1, rfl, h1, h2, h3⟩ := h.at k (by omega)
      refine ⟨hs ++ [(fs[k].1, A1, fs[k].2.length, c1)], by simp [hl], fun i hi hl' hf => ?_⟩
      rcases Nat.lt_or_ge i k with h4 | h4
      · have := hh i h4 (by omega) hf
        rw [List.getElem_append_left (by omega)]
        exact this
      · obtain rfl : i = k := by omega
        have e0 : (hs ++ [(fs[i].1, A1, fs[i].2.length, c1)])[i]'hl' = (fs[i].1, A1, fs[i].2.length, c1) := by rw [List.getElem_append_right (by omega)]; simp [hl]
        rw [e0]
        exact ⟨rfl, rfl, h3, ad, rfl, h1, by rw [add_field _ _ 1 (by omega)]; exact h2⟩
  obtain ⟨hs, hl, hh⟩ := key fs.length (Nat.le_refl _)
  refine ⟨hs, ⟨by rw [hl]; exact h.1, by rw [hl]; exact h.max, fun j u hu => ?_⟩, ⟨hl, fun i a f ha hf => ?_⟩⟩
  · obtain ⟨i, r, hi, hr, rfl, hv⟩ := flat_div (enc := encH) (sz := 2) (by omega) (fun _ => rfl) hs j u hu
    obtain ⟨_, _, _, ad, e, c0, c1⟩ := hh i (by omega) hi (by omega)
    refine ⟨ad, e, ?_⟩
    match r, hr, hv with
    | 0, _, hv => obtain rfl : Value.int .i64 hs[i].1 = u := Option.some.inj hv; exact c0
    | 1, _, hv => obtain rfl : hdV hs[i] = u := Option.some.inj hv; exact c1
  · obtain ⟨hi, rfl⟩ := List.getElem?_eq_some_iff.1 ha
    obtain ⟨hj, rfl⟩ := List.getElem?_eq_some_iff.1 hf
    obtain ⟨e1, e2, e3, _⟩ := hh i (by omega) hi hj
    exact ⟨e1, e2, e3⟩
theorem Reads.take {w : World} {hs : List Hdr} {fs : List Fct} (h : Reads w hs fs) (k : Nat) : Reads w (hs.take k) (fs.take k) := ⟨by rw [List.length_take, List.length_take, h.len], fun i a f ha hf => by
  rw [List.getElem?_take] at ha hf
  split at ha
  · rename_i hk; rw [if_pos hk] at hf; exact h.at_ i a f ha hf
  · cases ha⟩
theorem Reads.drop {w : World} {hs : List Hdr} {fs : List Fct} (h : Reads w hs fs) (k : Nat) : Reads w (hs.drop k) (fs.drop k) := ⟨by rw [List.length_drop, List.length_drop, h.len], fun i a f ha hf => by
  rw [List.getElem?_drop] at ha hf
  exact h.at_ _ a f ha hf⟩
theorem Reads.append {w : World} {hs hs' : List Hdr} {fs fs' : List Fct} (h : Reads w hs fs) (h' : Reads w hs' fs') : Reads w (hs ++ hs') (fs ++ fs') := ⟨by rw [List.length_append, List.length_append, h.len, h'.len], fun i a f ha hf => by
  have hl := h.len
  rcases Nat.lt_or_ge i hs.length with hi | hi
  · rw [List.getElem?_append_left hi] at ha
    rw [List.getElem?_append_left (by omega)] at hf
    exact h.at_ i a f ha hf
  · rw [List.getElem?_append_right hi] at ha
    rw [List.getElem?_append_right (by omega), ← hl] at hf
    exact h'.at_ _ a f ha hf⟩
/-- Some of the facts whose rows lie apart. -/
theorem Sep.sub {w : World} {lo : Nat} {hs : List Hdr} {fs : List Fct} (h : Sep w lo hs fs) {qs : List (Hdr × Fct)} (hq : qs.Sublist (hs.zip fs)) : Sep w lo (qs.map Prod.fst) (qs.map Prod.snd) := by
  have hl := h.len
  have hmem : ∀ p ∈ qs, ∃ i, hs[i]? = some p.1 ∧ fs[i]? = some p.2 := fun p hp => by
    obtain ⟨i, hi, e⟩ := List.getElem_of_mem (hq.subset hp)
    rw [List.getElem_zip] at e
    have hi' : i < hs.length := by rw [List.length_zip] at hi; omega
    exact ⟨i, by rw [List.getElem?_eq_getElem hi', ← e], by rw [List.getElem?_eq_getElem (by omega), ← e]⟩
  have hpw : (hs.zip fs).Pairwise fun p q => ∀ k, (hdV p.1).ownBlock = some k → (hdV q.1).ownBlock ≠ some k := by
    rw [List.pairwise_iff_getElem]
    intro i j hi hj hij k h1 h2
    rw [List.getElem_zip] at h1 h2
    have hi' : i < hs.length := by rw [List.length_zip] at hi; omega
    have hj' : j < hs.length := by rw [List.length_zip] at hj; omega
    have := h.apart i j _ _ k (List.getElem?_eq_getElem hi') (List.getElem?_eq_getElem hj') h1 h2
    omega
  have hpq := hpw.sublist hq
  refine ⟨by simp, fun i a f ha hf => ?_, fun i j a b k ha hb h1 h2 => ?_⟩
  · rw [List.getElem?_map] at ha hf
    obtain ⟨p, hp, rfl⟩ := Option.map_eq_some_iff.1 ha
    rw [hp] at hf
    obtain rfl : p.2 = f := Option.some.inj hf
    obtain ⟨m, e1, e2⟩ := hmem p (List.mem_of_getElem? hp)
    exact h.at_ m _ _ e1 e2
  · rw [List.getElem?_map] at ha hb
    obtain ⟨p, hp, rfl⟩ := Option.map_eq_some_iff.1 ha
    obtain ⟨q, hq', rfl⟩ := Option.map_eq_some_iff.1 hb
    obtain ⟨hi, rfl⟩ := List.getElem?_eq_some_iff.1 hp
    obtain ⟨hj, rfl⟩ := List.getElem?_eq_some_iff.1 hq'
    rcases Nat.lt_trichotomy i j with c | c | c
    · exact absurd h2 (List.pairwise_iff_getElem.1 hpq i j hi hj c k h1)
    · exact c
    · exact absurd h1 (List.pairwise_iff_getElem.1 hpq j i hj hi c k h2)
theorem OIn.on {W w : World} {lo : Nat} {v : Value} {rs : List Rel} {fs : List Fct} (h : OIn W lo v rs fs) (hb : On W w) : OIn w lo v rs fs := by
  obtain ⟨vr, vf, hs, e, hR, hH, hS⟩ := h.out
  exact ⟨vr, vf, hs, e, pw_own_below hR hb, pw_own_below hH hb, hS.on hb⟩
theorem OIn.set {W : World} {lo : Nat} {v : Value} {rs : List Rel} {fs : List Fct} (h : OIn W lo v rs fs) {p : Addr} (hp : p.block < lo) (u : Value) : OIn (W.setCell p u) lo v rs fs := by
  obtain ⟨vr, vf, hs, e, hR, hH, hS⟩ := h.out
  exact ⟨vr, vf, hs, e, ownsRow_setCell_below hR hp u, ownsRow_setCell_below hH hp u, hS.set hp u⟩
theorem OIn.lower {w : World} {lo lo' : Nat} {v : Value} {rs : List Rel} {fs : List Fct} (h : OIn w lo v rs fs) (hl : lo' ≤ lo) : OIn w lo' v rs fs := by
  obtain ⟨vr, vf, hs, e, hR, hH, hS⟩ := h.out
  exact ⟨vr, vf, hs, e, own_lower hR hl, own_lower hH hl, hS.lower hl⟩
/-! Appends, cell by cell. -/
section
variable {ops : Array Oper} {rest : List Oper} {o : Oper} {a : Act} {Q : Exit → Act → World → Prop} {W : World}
theorem ap_none (N : Tmp) {e sz bytes t c base n : Nat} {z v : Value} {xs : List Value} {s x : Operand} (ht : Tryz.prog.underlying t = some (.slice e)) (hinfo : (Tryz.prog.info? e).map (fun i => (i.zero, i.size, i.bytes)) = some (some z, sz, bytes)) (HO : W.ownsRow base e sz v n xs)
    (h : wpList Tryz.prog ops Q rest (a.put (some N) v) W)
    (hop : o.op = .call { callee := .builtin .append, args := #[s, x], argTypes := #[t, t] }) (hd : o.dst = some N) (hg : o.guard = none) (hs : a.eval s = v) (hx : a.eval x = .slice none 0 c) : wpList Tryz.prog ops Q (o :: rest) a W := by
  obtain ⟨i0, hi, hzz⟩ := Option.map_eq_some_iff.1 hinfo
  have hr : (Builtin.append_ #[t, t] o.type #[v, .slice none 0 c]).run Tryz.prog W = .ok v W := by
    rcases HO.2 with ⟨rfl, hn⟩ | ⟨g, cap, cur, rfl, _, _, hnc, _⟩
    · simp [Builtin.append_, run_underlying ht, sizeOf, typeInfo, hi, Builtin.lenOf, Builtin.firstCells]
    · simp [Builtin.append_, run_underlying ht, sizeOf, typeInfo, hi, Builtin.lenOf, Builtin.firstCells, hnc, storeCells]
  refine wpList_plain hg fun K hK => ?_
  unfold Oper.wp execOp
  simp only [hop, resolve, invoke, builtin, Sem.run_bind, Sem.run_pure, Result.andThen_ok, List.map_toArray, List.map_cons, List.map_nil, hs, hx, hr]
  refine hK _ _ ?_
  rw [hd]; exact h
/-- append of headers that are read onto headers of one's own. -/
theorem apH (N : Tmp) {s x : Operand} {v : Value} {A : Option Addr} {c base : Nat} {xs ys zs : List Hdr} (hz : xs ++ ys = zs)
    (HO : OH W base v xs) (HR : RH W A c ys) (hbase : base ≤ W.heap.size) (hl : xs.length + ys.length ≤ 1000000000)
    (h : ∀ v1 w1, OH w1 base v1 zs → W.grownBy w1 v.ownBlock → wpList Tryz.prog ops Q rest (a.put (some N) v1) w1)
    (hop : o.op = .call { callee := .builtin .append, args := #[s, x], argTypes := #[23, 23] } := by rfl)
    (hd : o.dst = some N := by rfl) (hg : o.guard = none := by rfl) (hs : a.eval s = v := by rfl) (hx : a.eval x = .slice A ys.length c := by rfl) : wpList Tryz.prog ops Q (o :: rest) a W := by
  subst hz
  obtain ⟨i0, hi, hzz⟩ := Option.map_eq_some_iff.1 infoF
  simp only [Prod.mk.injEq] at hzz
  obtain ⟨hz0, hz1, hz2⟩ := hzz
  have hnil : ys = [] → wpList Tryz.prog ops Q (o :: rest) a W := by
    rintro rfl
    rw [List.append_nil] at h
    cases A with
    | none => exact ap_none N Tryz.underlying23 infoF HO (h v W HO (World.grownBy.refl W _)) hop hd hg hs hx
    | some ad =>
      refine wpList_append_own_at W hg s x 23 hop base 60 i0 _ 2 32 Tryz.underlying23 hi hz0 hz1 hz2 rfl (by omega) v xs.length _ hs HO ad 0 c [] hx rfl (by simp) (by simp) (by simp at hl; simp [maxLen]; omega) (by simp at hl; omega) hbase fun v1 w1 h1 h2 _ _ => ?_
      rw [hd]
      exact h v1 w1 (by simpa using h1) h2
  cases A with
  | none =>
    refine hnil ?_
    cases ys with
    | nil => rfl
    | cons y ys => obtain ⟨_, e, _⟩ := HR.cell 0 _ rfl; cases e
  | some ad =>
    refine wpList_append_own_at W hg s x 23 hop base 60 i0 _ 2 32 Tryz.underlying23 hi hz0 hz1 hz2 rfl (by omega) v xs.length _ hs HO ad ys.length c (ys.flatMap encH) hx (flat_len (enc := encH) (sz := 2) (fun _ => rfl) ys) (fun j u hu => ?_) (fun u hu => ?_) (by simp [maxLen]; omega) (by omega) hbase fun v1 w1 h1 h2 _ _ => ?_
    · obtain ⟨ad', e, hc⟩ := HR.cell j u hu
      injection e with e; subst e; exact hc
    · obtain ⟨y, _, hy⟩ := List.mem_flatMap.1 hu
      simp only [List.mem_cons, List.not_mem_nil, or_false] at hy
      rcases hy with rfl | rfl <;> rfl
    · rw [hd]
      refine h v1 w1 ?_ h2
      have e : (xs ++ ys).flatMap encH = xs.flatMap encH ++ ys.flatMap encH := List.flatMap_append
      show World.ownsRow _ _ _ _ _ (xs ++ ys).length _
      rw [e, List.length_append]
      exact h1
end
/-! Appends onto a row that is full (a literal): nothing old is written. -/
theorem run_append_full {P : Program} (w : World) (base : Nat) (t ty e : TypeId) (i : TypeInfo) (z : Value) (size bytes : Nat) (ht : P.underlying t = some (.slice e)) (hi : P.info? e = some i) (hz : i.zero = some z)
    (hsize : i.size = size) (hby : i.bytes = bytes) (hzs : z.cells.size = size) (hsz : 0 < size)
    (g n : Nat) (xs : List Value) (hown : w.ownsRow base e size (.slice (some ⟨g, 0, none⟩) n n) n xs)
    (a : Addr) (m c : Nat) (news : List Value) (hl : news.length = m * size) (hnews : ∀ j u, news[j]? = some u → w.cell? (a.add j) = some u) (h1 : ∀ u ∈ news, u.oneCell' = true)
    (h63 : n + m ≤ maxLen) (hbytes : (n + m) * bytes ≤ 140737488355328) (hbase : base ≤ w.heap.size) :
    ∃ v' w', (Builtin.append_ #[t, t] ty #[.slice (some ⟨g, 0, none⟩) n n, .slice (some a) m c]).run P w = .ok v' w' ∧ w'.ownsRow base e size v' (n + m) (xs ++ news) ∧ w.grownBy w' none := by
  subst hsize
  subst hby
  by_cases hm : m = 0
  · subst hm
    obtain rfl : news = [] := List.eq_nil_of_length_eq_zero (by simpa using hl)
    refine ⟨_, w, ?_, by simpa using hown, World.grownBy.refl w _⟩
    simp [Builtin.append_, run_underlying ht, sizeOf, typeInfo, hi, Builtin.lenOf, Builtin.firstCells, loadCells, loadCellsFrom, storeCells]
  · have hsmall : n + m ≤ 9223372036854775807 := by simp only [maxLen] at h63; omega
    have holds : ∀ j u, xs[j]? = some u → w.cell? ((⟨g, 0, none⟩ : Addr).add j) = some u := hown.cells (g := g) rfl
    have hr := run_append_grow (P := P) w t ty e i z ht hi hz ⟨g, 0, none⟩ n n xs hown.1 holds a m c news hl hnews (by omega) (by omega) (growslice_fits (by omega) hbytes)
    have hge := grownCap_ge w (n + m) n e
    have hcm : grownCap w (n + m) n e ≤ maxLen := grownCap_le_maxLen w (n + m) n e h63
    have hlen : (xs ++ news).length = (n + m) * i.size := by rw [List.length_append, hown.1, hl, Nat.add_mul]
    refine ⟨_, _, hr, ⟨hlen, .inr ⟨w.heap.size, _, _, rfl, hbase, heap_alloc_new w.drew _, hge, hcm, ?_, ?_⟩⟩, ⟨rfl, rfl, rfl, by simp, fun k hk _ => Below.heap_alloc w.drew _ k hk⟩⟩
    · simp only [Array.size_append, List.size_toArray, size_zeroCells, hzs, hown.1, hl, ← Nat.add_mul]
      congr 1
      omega
    · simp only [Array.toList_append, List.append_assoc]
      rw [← List.append_assoc, ← hlen]
      exact List.take_left
section
variable {ops : Array Oper} {rest : List Oper} {o : Oper} {a : Act} {Q : Exit → Act → World → Prop} {W : World}
theorem apFull (N : Tmp) {e sz bytes t c base n g m : Nat} {z : Value} {xs news : List Value} {A : Option Addr} {s x : Operand} (ht : Tryz.prog.underlying t = some (.slice e)) (hinfo : (Tryz.prog.info? e).map (fun i => (i.zero, i.size, i.bytes)) = some (some z, sz, bytes)) (hzs : z.cells.size = sz) (hsz : 0 < sz) (HO : W.ownsRow base e sz (.slice (some ⟨g, 0, none⟩) n n) n xs)
    (hl : news.length = m * sz) (hnews : ∀ j u, news[j]? = some u → ∃ ad, A = some ad ∧ W.cell? (ad.add j) = some u) (h1 : ∀ u ∈ news, u.oneCell' = true) (hb : (n + m) * bytes ≤ 140737488355328) (hnm : n + m ≤ 9223372036854775807) (hbase : base ≤ W.heap.size)
    (h : ∀ v1 w1, w1.ownsRow base e sz v1 (n + m) (xs ++ news) → On W w1 → wpList Tryz.prog ops Q rest (a.put (some N) v1) w1)
    (hop : o.op = .call { callee := .builtin .append, args := #[s, x], argTypes := #[t, t] }) (hd : o.dst = some N) (hg : o.guard = none) (hs : a.eval s = .slice (some ⟨g, 0, none⟩) n n) (hx : a.eval x = .slice A m c) : wpList Tryz.prog ops Q (o :: rest) a W := by
  cases A with
  | none =>
    obtain rfl : m = 0 := by
      rcases Nat.eq_zero_or_pos m with h0 | h0
      · exact h0
      · have hp : 0 < news.length := by rw [hl]; exact Nat.mul_pos h0 hsz
        obtain ⟨_, e, _⟩ := hnews 0 _ (List.getElem?_eq_getElem hp)
        cases e
    obtain rfl : news = [] := List.eq_nil_of_length_eq_zero (by simpa using hl)
    exact ap_none N ht hinfo HO (h _ W (by simpa using HO) (On.refl _)) hop hd hg hs hx
  | some ad =>
    obtain ⟨i0, hi, hzz⟩ := Option.map_eq_some_iff.1 hinfo
    simp only [Prod.mk.injEq] at hzz
    obtain ⟨hz0, hz1, hz2⟩ := hzz
    obtain ⟨v', w', hr, h2, h3⟩ := run_append_full (P := Tryz.prog) W base t o.type e i0 z sz bytes ht hi hz0 hz1 hz2 hzs hsz g n xs HO ad m c news hl (fun j u hu => by obtain ⟨ad', e, hc⟩ := hnews j u hu; injection e with e; subst e; exact hc) h1 (by simp only [maxLen]; omega) hb hbase
    refine wpList_plain hg fun K hK => ?_
    unfold Oper.wp execOp
    simp only [hop, resolve, invoke, builtin, Sem.run_bind, Sem.run_pure, Result.andThen_ok, List.map_toArray, List.map_cons, List.map_nil, hs, hx, hr]
    refine hK _ _ ?_
    rw [hd]
    exact h v' w' h2 (on_grown (On.refl _) h3 fun k hk => by cases hk)
theorem apHf (N : Tmp) {s x : Operand} {A : Option Addr} {c base g n : Nat} {xs ys zs : List Hdr} (hz : xs ++ ys = zs) (HO : OH W base (.slice (some ⟨g, 0, none⟩) n n) xs) (hn : xs.length = n) (HR : RH W A c ys) (hbase : base ≤ W.heap.size) (hl : n + ys.length ≤ 1000000000)
    (h : ∀ v1 w1, OH w1 base v1 zs → On W w1 → wpList Tryz.prog ops Q rest (a.put (some N) v1) w1)
    (hop : o.op = .call { callee := .builtin .append, args := #[s, x], argTypes := #[23, 23] } := by rfl)
    (hd : o.dst = some N := by rfl) (hg : o.guard = none := by rfl) (hs : a.eval s = .slice (some ⟨g, 0, none⟩) n n := by rfl) (hx : a.eval x = .slice A ys.length c := by rfl) : wpList Tryz.prog ops Q (o :: rest) a W := by
  subst hz hn
  refine apFull N Tryz.underlying23 infoF rfl (by omega) HO (flat_len (enc := encH) (sz := 2) (fun _ => rfl) ys) HR.cell (fun u hu => ?_) (by omega) (by omega) hbase (fun v1 w1 h1 h2 => h v1 w1 ?_ h2) hop hd hg hs hx
  · obtain ⟨y, _, hy⟩ := List.mem_flatMap.1 hu
    simp only [List.mem_cons, List.not_mem_nil, or_false] at hy
    rcases hy with rfl | rfl <;> rfl
  · show World.ownsRow _ _ _ _ _ (xs ++ ys).length _
    rw [show (xs ++ ys).flatMap encH = xs.flatMap encH ++ ys.flatMap encH from List.flatMap_append, List.length_append]
    exact h1
theorem apRf (N : Tmp) {s x : Operand} {A : Option Addr} {c base g n : Nat} {xs ys zs : List Rel} (hz : xs ++ ys = zs) (HO : OR W base (.slice (some ⟨g, 0, none⟩) n n) xs) (hn : xs.length = n) (HR : Rels W A c ys) (hbase : base ≤ W.heap.size) (hl : n + ys.length ≤ 1000000000)
    (h : ∀ v1 w1, OR w1 base v1 zs → On W w1 → wpList Tryz.prog ops Q rest (a.put (some N) v1) w1)
    (hop : o.op = .call { callee := .builtin .append, args := #[s, x], argTypes := #[22, 22] } := by rfl)
    (hd : o.dst = some N := by rfl) (hg : o.guard = none := by rfl) (hs : a.eval s = .slice (some ⟨g, 0, none⟩) n n := by rfl) (hx : a.eval x = .slice A ys.length c := by rfl) : wpList Tryz.prog ops Q (o :: rest) a W := by
  subst hz hn
  refine apFull N Tryz.underlying22 infoR rfl (by omega) HO (flat_len (enc := encR) (sz := 3) (fun _ => rfl) ys) (fun j u hu => ?_) (fun u hu => ?_) (by omega) (by omega) hbase (fun v1 w1 h1 h2 => h v1 w1 ?_ h2) hop hd hg hs hx
  · obtain ⟨i, r, hi, hr, rfl, hv⟩ := flat_div (enc := encR) (sz := 3) (by omega) (fun _ => rfl) ys j u hu
    obtain ⟨ad', e, c0, c1, c2⟩ := HR.at i hi
    refine ⟨ad', e, ?_⟩
    match r, hr, hv with
    | 0, _, hv => obtain rfl : Value.string ys[i].1 = u := Option.some.inj hv; exact c0
    | 1, _, hv => obtain rfl : Value.int .i64 ys[i].2.1 = u := Option.some.inj hv; rw [add_field _ _ 1 (by omega)]; exact c1
    | 2, _, hv => obtain rfl : Value.bool ys[i].2.2 = u := Option.some.inj hv; rw [add_field _ _ 2 (by omega)]; exact c2
  · obtain ⟨y, _, hy⟩ := List.mem_flatMap.1 hu
    simp only [List.mem_cons, List.not_mem_nil, or_false] at hy
    rcases hy with rfl | rfl | rfl <;> rfl
  · show World.ownsRow _ _ _ _ _ (xs ++ ys).length _
    rw [show (xs ++ ys).flatMap encR = xs.flatMap encR ++ ys.flatMap encR from List.flatMap_append, List.length_append]
    exact h1
theorem apIf (N : Tmp) {s x : Operand} {A : Option Addr} {c base g n : Nat} {xs ys zs : List Int} (hz : xs ++ ys = zs) (HO : OI W base (.slice (some ⟨g, 0, none⟩) n n) xs) (hn : xs.length = n) (HR : Ints W A c ys) (hbase : base ≤ W.heap.size) (hl : n + ys.length ≤ 10000000000)
    (h : ∀ v1 w1, OI w1 base v1 zs → On W w1 → wpList Tryz.prog ops Q rest (a.put (some N) v1) w1)
    (hop : o.op = .call { callee := .builtin .append, args := #[s, x], argTypes := #[39, 39] } := by rfl)
    (hd : o.dst = some N := by rfl) (hg : o.guard = none := by rfl) (hs : a.eval s = .slice (some ⟨g, 0, none⟩) n n := by rfl) (hx : a.eval x = .slice A ys.length c := by rfl) : wpList Tryz.prog ops Q (o :: rest) a W := by
  subst hz hn
  refine apFull N Tryz.underlying39 infoI rfl (by omega) HO (flat_len (enc := encI) (sz := 1) (fun _ => rfl) ys) (fun j u hu => ?_) (fun u hu => ?_) (by omega) (by omega) hbase (fun v1 w1 h1 h2 => h v1 w1 ?_ h2) hop hd hg hs hx
  · obtain ⟨i, r, hi, hr, rfl, hv⟩ := flat_div (enc := encI) (sz := 1) (by omega) (fun _ => rfl) ys j u hu
    obtain ⟨ad', e, c0⟩ := HR.at i hi
    refine ⟨ad', e, ?_⟩
    obtain rfl : r = 0 := by omega
    obtain rfl : Value.int .i64 ys[i] = u := Option.some.inj hv
    rw [show i * 1 + 0 = i by omega]; exact c0
  · obtain ⟨y, _, hy⟩ := List.mem_flatMap.1 hu
    simp only [List.mem_cons, List.not_mem_nil, or_false] at hy
    rcases hy with rfl; rfl
  · show World.ownsRow _ _ _ _ _ (xs ++ ys).length _
    rw [show (xs ++ ys).flatMap encI = xs.flatMap encI ++ ys.flatMap encI from List.flatMap_append, List.length_append]
    exact h1
end
/-- Literals. -/
theorem lit_own (W : World) (cs : Array Value) (e sz n lo : Nat) (hlo : lo ≤ W.heap.size) (hn : n ≤ 1000000) (hs : cs.size = n * sz) : (W.alloc (.cells cs e (0, 0))).ownsRow lo e sz (.slice (some ⟨W.heap.size, 0, none⟩) n n) n cs.toList :=
  World.ownsRow_lit W cs n hlo (by simp [maxLen]; omega) hs
theorem lit_own' (g : Nat) (W : World) (hg : g = W.heap.size) (cs : Array Value) (e sz n lo : Nat) (hlo : lo ≤ W.heap.size) (hn : n ≤ 1000000) (hs : cs.size = n * sz) : (W.alloc (.cells cs e (0, 0))).ownsRow lo e sz (.slice (some ⟨g, 0, none⟩) n n) n cs.toList := by
  subst hg; exact lit_own W cs e sz n lo hlo hn hs
theorem lit_H (W : World) (r : Int) (A : Option Addr) (n c : Nat) : OH (W.alloc (.cells #[.int .i64 r, .slice A n c] 60 (0, 0))) W.heap.size (.slice (some ⟨W.heap.size, 0, none⟩) 1 1) [(r, A, n, c)] :=
  lit_own W #[.int .i64 r, .slice A n c] 60 2 1 W.heap.size (Nat.le_refl _) (by omega) rfl
theorem lit_RH {W w : World} {r : Int} {A : Option Addr} {n c : Nat} (hb : On (W.alloc (.cells #[.int .i64 r, .slice A n c] 60 (0, 0))) w) : RH w (some ⟨W.heap.size, 0, none⟩) 1 [(r, A, n, c)] :=
  (OH.rh (n := 1) (pw_own_below (lit_H W r A n c) hb)).2
theorem own_grows {w W w1 : World} {lo e sz n : Nat} {v : Value} {cs : List Value} (h : On w W) (hO : W.ownsRow lo e sz v n cs) (hg : W.grownBy w1 v.ownBlock) (hlo : w.heap.size ≤ lo) : On w w1 :=
  on_grown h hg fun k hk => Nat.le_trans hlo (own_base hO k hk)
end Go.Proofs.YtgemaohdlibboaaGreatDoor.H
/- Facts in order: compared, found, laid in, taken out. Plain. No condition. -/
namespace Go.Proofs.YtgemaohdlibboaaGreatDoor.H
open Go Go.RowKit Go.Proofs.YtgemaohdlibboaaGreatDoorW.PrintWords Go.Proofs.YtgemaohdlibboaaGreatDoorW.PrintLast
set_option linter.unusedVariables false
set_option linter.unusedSimpArgs false

theorem ints_eq : ∀ a b : List Int, ints a b = 0 ↔ a = b
  | [], [] => by simp [ints]
  | [], _ :: _ => by simp [ints]
  | _ :: _, [] => by simp [ints]
  | x :: a, y :: b => by
    have ih := ints_eq a b
    unfold ints
    by_cases h1 : x < y
    · rw [if_pos h1]; constructor
      · intro h; omega
      · intro h; injection h with h _; omega
    · rw [if_neg h1]
      by_cases h2 : y < x
      · rw [if_pos h2]; constructor
        · intro h; omega
        · intro h; injection h with h _; omega
      · rw [if_neg h2, ih, List.cons.injEq]
        constructor
        · intro h; exact ⟨by omega, h⟩
        · intro h; exact h.2
theorem ints_neg : ∀ a b : List Int, ints b a = - ints a b
  | [], [] => rfl
  | [], _ :: _ => rfl
  | _ :: _, [] => rfl
  | x :: a, y :: b => by
    have ih := ints_neg a b
    unfold ints
    by_cases h1 : x < y
    · have h2 : ¬ y < x := by omega
      simp [h1, h2]
    · by_cases h2 : y < x
      · simp [h1, h2]
      · simp [h1, h2, ih]
theorem ints_trans : ∀ a b c : List Int, ints a b < 0 → ints b c < 0 → ints a c < 0
  | [], [], _, h, _ => by simp [ints] at h
  | [], _ :: _, [], _, h => by simp [ints] at h
  | [], _ :: _, _ :: _, _, _ => by simp [ints]
  | _ :: _, [], _, h, _ => by simp [ints] at h
  | _ :: _, _ :: _, [], _, h => by simp [ints] at h
  | x :: a, y :: b, z :: c, h1, h2 => by
    have ih := ints_trans a b c
    unfold ints at h1 h2 ⊢
    by_cases e1 : x < y
    · by_cases e2 : y < z
      · rw [if_pos (by omega)]; omega
      · rw [if_neg e2] at h2
        by_cases e3 : z < y
        · rw [if_pos e3] at h2; omega
        · rw [if_pos (by omega)]; omega
    · rw [if_neg e1] at h1
      by_cases e1' : y < x
      · rw [if_pos e1'] at h1; omega
      · rw [if_neg e1'] at h1
        by_cases e2 : y < z
        · rw [if_pos (by omega)]; omega
        · rw [if_neg e2] at h2
          by_cases e3 : z < y
          · rw [if_pos e3] at h2; omega
          · rw [if_neg e3] at h2
            rw [if_neg (by omega), if_neg (by omega)]
            exact ih h1 h2
theorem cmpF_eq (f g : Fct) : cmpF f g = 0 ↔ f = g := by
  rcases f with ⟨a, x⟩; rcases g with ⟨b, y⟩
  simp only [cmpF, Prod.mk.injEq]
  by_cases h1 : a < b
  · rw [if_pos h1]; constructor
    · intro h; omega
    · intro h; omega
  · rw [if_neg h1]
    by_cases h2 : b < a
    · rw [if_pos h2]; constructor
      · intro h; omega
      · intro h; omega
    · rw [if_neg h2, ints_eq]
      constructor
      · intro h; exact ⟨by omega, h⟩
      · intro h; exact h.2
theorem cmpF_self (f : Fct) : cmpF f f = 0 := (cmpF_eq f f).2 rfl
theorem cmpF_neg (f g : Fct) : cmpF g f = - cmpF f g := by
  unfold cmpF
  by_cases h1 : f.1 < g.1
  · have h2 : ¬ g.1 < f.1 := by omega
    simp [h1, h2]
  · by_cases h2 : g.1 < f.1
    · simp [h1, h2]
    · simp [h1, h2, ints_neg f.2 g.2]
theorem cmpF_trans (f g h : Fct) (h1 : cmpF f g < 0) (h2 : cmpF g h < 0) : cmpF f h < 0 := by
  unfold cmpF at *
  by_cases e1 : f.1 < g.1
  · by_cases e2 : g.1 < h.1
    · rw [if_pos (by omega)]; omega
    · rw [if_neg e2] at h2
      by_cases e3 : h.1 < g.1
      · rw [if_pos e3] at h2; omega
      · rw [if_pos (by omega)]; omega
  · rw [if_neg e1] at h1
    by_cases e1' : g.1 < f.1
    · rw [if_pos e1'] at h1; omega
    · rw [if_neg e1'] at h1
      by_cases e2 : g.1 < h.1
      · rw [if_pos (by omega)]; omega
      · rw [if_neg e2] at h2
        by_cases e3 : h.1 < g.1
        · rw [if_pos e3] at h2; omega
        · rw [if_neg e3] at h2
          rw [if_neg (by omega), if_neg (by omega)]
          exact ints_trans _ _ _ h1 h2
/-- Ascending, each once. -/
abbrev Asc (l : List Fct) : Prop := l.Pairwise fun f g => cmpF f g < 0
theorem asc_ext : ∀ a b : List Fct, Asc a → Asc b → (∀ x, x ∈ a ↔ x ∈ b) → a = b
  | [], [], _, _, _ => rfl
  | [], y :: b, _, _, h => absurd ((h y).2 (by simp)) (by simp)
  | x :: a, [], _, _, h => absurd ((h x).1 (by simp)) (by simp)
  | x :: a, y :: b, ha, hb, h => by
    rw [Asc, List.pairwise_cons] at ha hb
    have e : x = y := by
      rcases List.mem_cons.1 ((h x).1 (by simp)) with e | hx
      · exact e
      · rcases List.mem_cons.1 ((h y).2 (by simp)) with e | hy
        · exact e.symm
        · have h1 := hb.1 x hx
          have h2 := ha.1 y hy
          rw [cmpF_neg] at h1; omega
    subst e
    rw [asc_ext a b ha.2 hb.2 (fun z => ?_)]
    constructor
    · intro hz
      rcases List.mem_cons.1 ((h z).1 (List.mem_cons_of_mem _ hz)) with e | hz'
      · have := ha.1 z hz; rw [e, cmpF_self] at this; omega
      · exact hz'
    · intro hz
      rcases List.mem_cons.1 ((h z).2 (List.mem_cons_of_mem _ hz)) with e | hz'
      · have := hb.1 z hz; rw [e, cmpF_self] at this; omega
      · exact hz'
theorem placeFrom_lt (f : Fct) : ∀ (l : List Fct) (i : Nat), (placeFrom f l i = -1 ∧ f ∉ l) ∨ ∃ k, ∃ h : k < l.length, placeFrom f l i = ((i + k : Nat) : Int) ∧ l[k] = f ∧ ∀ j, (hj : j < k) → l[j]'(by omega) ≠ f
  | [], _ => .inl ⟨rfl, by simp⟩
  | g :: l, i => by
    unfold placeFrom
    by_cases h : cmpF g f = 0
    · rw [if_pos h]
      exact .inr ⟨0, by simp, by simp, by simpa using (cmpF_eq g f).1 h, fun j hj => by omega⟩
    · rw [if_neg h]
      have hgf : g ≠ f := fun e => h ((cmpF_eq g f).2 e)
      rcases placeFrom_lt f l (i + 1) with ⟨e, hn⟩ | ⟨k, hk, e, ha, hb⟩
      · exact .inl ⟨e, by simp only [List.mem_cons, not_or]; exact ⟨fun e => hgf e.symm, hn⟩⟩
      · refine .inr ⟨k + 1, by simp; omega, by rw [e]; congr 1; omega, by simpa using ha, fun j hj => ?_⟩
        cases j with
        | zero => simpa using hgf
        | succ j => simpa using hb j (by omega)
theorem place_spec (l : List Fct) (f : Fct) : (place l f = -1 ∧ f ∉ l) ∨ ∃ k, ∃ h : k < l.length, place l f = (k : Int) ∧ l[k] = f ∧ ∀ j, (hj : j < k) → l[j]'(by omega) ≠ f := by
  have := placeFrom_lt f l 0
  simpa [place] using this
def hasF (fs : List Fct) (g : Fct) : Bool := fs.any fun f => cmpF f g == 0
theorem hasF_mem (fs : List Fct) (g : Fct) : hasF fs g = true ↔ g ∈ fs := by
  unfold hasF
  rw [List.any_eq_true]
  constructor
  · rintro ⟨f, hf, h⟩
    rw [beq_iff_eq, cmpF_eq] at h
    exact h ▸ hf
  · intro h; exact ⟨g, h, by rw [cmpF_self]; rfl⟩
/-- A fact laid into a row that is in order. -/
def putF (l : List Fct) (x : Fct) : List Fct := match l with
  | [] => [x]
  | y :: r => if cmpF y x < 0 then y :: putF r x else if cmpF y x = 0 then y :: r else x :: y :: r
theorem mem_putF (x z : Fct) : ∀ l : List Fct, z ∈ putF l x ↔ z = x ∨ z ∈ l
  | [] => by simp [putF]
  | y :: l => by
    unfold putF
    by_cases c : cmpF y x < 0
    · rw [if_pos c, List.mem_cons, List.mem_cons, mem_putF x z l]
      constructor <;> rintro (h | h | h) <;> simp [h]
    · rw [if_neg c]
      by_cases c2 : cmpF y x = 0
      · rw [if_pos c2]; rw [cmpF_eq] at c2; subst c2; simp
      · rw [if_neg c2]; simp
theorem putF_asc (x : Fct) : ∀ l : List Fct, Asc l → Asc (putF l x)
  | [], _ => by simp [putF, Asc]
  | y :: l, h => by
    rw [Asc, List.pairwise_cons] at h
    unfold putF
    by_cases c : cmpF y x < 0
    · rw [if_pos c, Asc, List.pairwise_cons]
      refine ⟨fun z hz => ?_, putF_asc x l h.2⟩
      rcases (mem_putF x z l).1 hz with rfl | hz
      · exact c
      · exact h.1 z hz
    · rw [if_neg c]
      by_cases c2 : cmpF y x = 0
      · rw [if_pos c2, Asc, List.pairwise_cons]; exact h
      · rw [if_neg c2, Asc, List.pairwise_cons, List.pairwise_cons]
        have hxy : cmpF x y < 0 := by rw [cmpF_neg]; omega
        refine ⟨fun z hz => ?_, h⟩
        rcases List.mem_cons.1 hz with rfl | hz
        · exact hxy
        · exact cmpF_trans _ _ _ hxy (h.1 z hz)
/-- Facts in ascending order, each once. -/
def setF (l : List Fct) : List Fct := l.foldl putF []
theorem foldl_putF (l out : List Fct) (h : Asc out) : Asc (l.foldl putF out) ∧ ∀ x, x ∈ l.foldl putF out ↔ x ∈ out ∨ x ∈ l := by
  induction l generalizing out with
  | nil => exact ⟨h, fun x => by simp⟩
  | cons y l ih =>
    obtain ⟨h1, h2⟩ := ih _ (putF_asc y out h)
    refine ⟨h1, fun x => ?_⟩
    rw [List.foldl_cons, h2, mem_putF, List.mem_cons]
    constructor
    · rintro ((h | h) | h)
      · exact .inr (.inl h)
      · exact .inl h
      · exact .inr (.inr h)
    · rintro (h | h | h)
      · exact .inl (.inr h)
      · exact .inl (.inl h)
      · exact .inr h
theorem setF_spec (l : List Fct) : Asc (setF l) ∧ ∀ x, x ∈ setF l ↔ x ∈ l := by
  have := foldl_putF l [] List.Pairwise.nil
  exact ⟨this.1, fun x => by rw [setF, this.2]; simp⟩
theorem setF_asc (l : List Fct) (h : Asc l) : setF l = l := asc_ext _ _ (setF_spec l).1 h (setF_spec l).2
theorem putF_has (fs : List Fct) (f : Fct) (h : Asc fs) (hm : f ∈ fs) : putF fs f = fs :=
  asc_ext _ _ (putF_asc f fs h) h fun x => by
    rw [mem_putF]
    constructor
    · rintro (rfl | h)
      · exact hm
      · exact h
    · exact .inr
theorem putF_split (l : List Fct) (x : Fct) (k : Nat) (hk : k ≤ l.length) (hlt : ∀ j, (h : j < k) → cmpF (l[j]'(by omega)) x < 0) : putF l x = l.take k ++ putF (l.drop k) x := by
  induction k generalizing l with
  | zero => simp
  | succ k ih =>
    cases l with
    | nil => simp at hk
    | cons y r =>
      have h0 := hlt 0 (by omega)
      simp only [List.getElem_cons_zero] at h0
      have := ih r (by simpa using hk) (fun j h => by have := hlt (j + 1) (by omega); simpa using this)
      rw [putF, if_pos h0, this]
      simp
theorem putF_at (l : List Fct) (x : Fct) (k : Nat) (hk : k ≤ l.length) (hlt : ∀ j, (h : j < k) → cmpF (l[j]'(by omega)) x < 0) (h1 : ∀ h : k < l.length, ¬ cmpF l[k] x < 0) (hn : x ∉ l) : putF l x = l.take k ++ x :: l.drop k := by
  rw [putF_split l x k hk hlt]
  rcases Nat.lt_or_ge k l.length with hk' | hk'
  · rw [List.drop_eq_getElem_cons hk', putF, if_neg (h1 hk'), if_neg (fun e => hn (by have := (cmpF_eq _ _).1 e; rw [← this]; exact List.getElem_mem hk'))]
  · rw [List.drop_of_length_le hk']; rfl
end Go.Proofs.YtgemaohdlibboaaGreatDoor.H
/- Walks: the reference's place of a fact, copies. No condition. -/
namespace Go.Proofs.YtgemaohdlibboaaGreatDoor.H
open Go Go.RowKit Go.Proofs.YtgemaohdlibboaaGreatDoorW.PrintWords Go.Proofs.YtgemaohdlibboaaGreatDoorW.PrintLast
open Go.Proofs.YtgemaohdlibboaaGreatDoor.Reg (On on_draw)
set_option maxHeartbeats 1000000
set_option maxRecDepth 100000
set_option linter.unusedVariables false
set_option linter.unusedSimpArgs false

section
variable {fn : Func} {p u : Tmp} {tmps : Array Value} {w : World} {g : Nat} {t : TypeId} {cs : Array Value} {fr : Nat × Nat}
theorem retIB (h : fn.results = #[.cell p 25, .tmp u]) (hp : tmps.getD p undef = .pointer (some ⟨g, 0, none⟩)) (hg : w.heap[g]? = some (.cells cs t fr)) (hs : cs.size = 2) : (results fn tmps).run Tryz.prog w = .ok (.tuple #[.agg cs, tmps.getD u undef]) w :=
  results_ct h tmps w g t cs fr _ hp hg Tryz.underlying25 rfl (by rw [hs]; kernel_rfl)
end
/-- A step that makes memory at most and hands back one value, nothing else coming up. -/
theorem stepM {P : Program} {ops : Array Oper} {Q : Exit → Act → World → Prop} {i : Nat} {tail : List Nat} {l : List (Nat × Reg.K)} {a : Act} {W : World} {o : Oper}
    (h : ∀ w, On W w → wpList P ops (Exit.then (fun a' w' => On W w' ∧ Reg.Ord P ops Q tail l a' w') Q) [o] a w) (hi : ops[i]? = some o := by rfl)
    (hw : Region.wanted o (yielded ops a.tmps) = true := by rfl) : Reg.Ord P ops Q tail ((i, .N) :: l) a W := Reg.stepN h hi hw
theorem l5Place_calls (w : World) (A0 n0 c0 A1 c1 A2 c2) (fs : List Fct) (f : Fct) (h1 : Fcts w A1 c1 fs) (h2 : Ints w A2 c2 f.2) :
    Calls Tryz.prog 155 #[.agg #[.slice A0 n0 c0, .slice A1 fs.length c1], .agg #[.int .i64 f.1, .slice A2 f.2.length c2]] w fun e w' => e = .returned (.int .i64 (place fs f)) ∧ On w w' := by
  have hmax := h1.max
  go_enter Tryz.func155, Tryz.ntmps155
  go_wp2
  go_loopw [5] (fun v5 wr => ∃ k : Nat, k ≤ fs.length ∧ v5 = .int .i64 k ∧ Hid (placeFrom f (fs.drop k) k = place fs f) ∧ On w wr ∧ Loc wr [(w.heap.size, #[.slice A0 n0 c0, .slice A1 fs.length c1], 25), (w.heap.size + 1, #[.int .i64 f.1, .slice A2 f.2.length c2], 60)]) (fun v5 _ => fs.length - (intOf v5).toNat)
  case atStart => exact ⟨0, Nat.zero_le _, rfl, rfl, On.alloc (On.alloc (On.refl _) _) _, loc2 _ _ _ _ _⟩
  case round =>
    obtain ⟨k, hk, rfl, hp, hB, hL⟩ := hrel
    have hc0 := blk_cell hL.1
    have hc1 := blk_cell hL.2.1
    have hl := Aside0.mk hL
    clear hL
    by_cases hlt : k < fs.length
    · obtain ⟨ad, A3, c3, rfl, hx0, hx1, hx2⟩ := (h1.on hB).at k hlt
      have hp' : Hid ((if cmpF fs[k] f = 0 then (k : Int) else placeFrom f (fs.drop (k + 1)) (k + 1)) = place fs f) := by have := hp.out; rwa [List.drop_eq_getElem_cons hlt] at this
      clear hp
      go_wp2
      refine Reg.region [(0,.L),(1,.L),(2,.L),(3,.L),(4,.L),(5,.L),(6,.C),(7,.L)] [] (by kernel_rfl) (by kernel_rfl) ?_
      repeat first | refine sP ?_ | refine sS ?_ | refine sA ?_ | refine sL ?_ | refine sQ ?_ | refine sO ?_
      refine callC (.int .i64 (cmpF fs[k] f)) Tryz.func70 (fun w' hS => ?_) ?_
      focus exact (CompareFacts_calls w' _ _ _ _ fs[k] f (hx2.on hS) ((h2.on hB).on hS))
      repeat first | refine sP ?_ | refine sS ?_ | refine sA ?_ | refine sL ?_ | refine sQ ?_ | refine sO ?_
      refine Reg.nil fun w2 hS => ?_
      by_cases h0 : cmpF fs[k] f = 0
      · have h0' : (cmpF fs[k] f == 0) = true := by simpa using h0
        go_wp2
        go_ret
        exact ⟨by rw [← hp'.out, if_pos h0]; rfl, hB.trans hS⟩
      · have h0' : (cmpF fs[k] f == 0) = false := by simpa using h0
        go_wp2
        go_roundw
        case rel => exact ⟨k + 1, by omega, by go_num, (by rw [← hp'.out, if_neg h0] : _ = _), hB.trans hS, Loc.on hS hl.out⟩
        case measure => simp [intOf]; omega
    · go_wp2
      go_ret
      exact ⟨by rw [← hp.out, List.drop_of_length_le (by omega)]; rfl, hB⟩
theorem l5Fact_calls (w : World) (A c) (f : Fct) (h : Ints w A c f.2) (hl : f.2.length ≤ 2000000) : Calls Tryz.prog 145 #[.agg #[.int .i64 f.1, .slice A f.2.length c]] w (Got fun v w' => ∃ v1, v = .agg #[.int .i64 f.1, v1] ∧ OI w' w.heap.size v1 f.2 ∧ On w w') := by
  have hb := Aside0.mk (On.alloc (On.alloc (On.refl w) (.cells #[.int .i64 f.1, .slice A f.2.length c] 60)) (.cells #[.int .i64 0, .slice none 0 0] 60))
  have hL := Aside0.mk (loc2 w #[.int .i64 f.1, .slice A f.2.length c] #[.int .i64 0, .slice none 0 0] 60 60)
  go_enter Tryz.func145, Tryz.ntmps145
  go_wp2
  refine Reg.region [(0,.L),(1,.L),(3,.L),(4,.L),(2,.N),(5,.N),(6,.L)] [7] (by kernel_rfl) (by kernel_rfl) ?_
  repeat first | refine sP ?_ | refine sS ?_ | refine sA ?_ | refine sL ?_ | refine sQ ?_ | refine sO ?_
  refine stepM (fun w1 hS => ?_)
  go_wp2
  refine ⟨hS.trans (On.alloc (On.refl _) _), ?_⟩
  repeat first | refine sP ?_ | refine sS ?_ | refine sA ?_ | refine sL ?_ | refine sQ ?_ | refine sO ?_
  refine stepM (fun w2 hS2 => ?_)
  refine apIf 8 (List.nil_append _) (pw_own_below (lit_own w1 #[] 3 1 0 w1.heap.size (Nat.le_refl _) (by omega) rfl) hS2) rfl (h.on ((hb.out.trans hS).trans ((On.alloc (On.refl _) _).trans hS2))) (by have := hS2.size; simp at this; omega) (by omega) fun v3 w3 hO3 hb3 => ?_
  refine ⟨hS2.trans hb3, ?_⟩
  obtain ⟨A3, c3, rfl⟩ := own_slice hO3
  simp only [Act.put, List.setIfInBounds_toArray, List.set_cons_zero, List.set_cons_succ]
  repeat first | refine sP ?_ | refine sS ?_ | refine sA ?_ | refine sL ?_ | refine sQ ?_ | refine sO ?_
  refine Reg.tail_ fun w4 hS4 => ?_
  have hk := (Loc.on ((hS.trans (On.alloc (On.refl _) _)).trans (hS2.trans (hb3.trans hS4))) hL.out).2.1
  have hc := blk_cell hk
  have hf := blk_frozen hk
  have hk' := Aside0.mk hk
  clear hk
  go_wp2
  have hsz := hS.size
  simp only [World.size_alloc] at hsz
  refine bodyPost_ret (retF rfl rfl (g := w.heap.size + 1) (blk_set (blk_set hk'.out 0 _) 1 _) rfl) rfl ?_
  exact ⟨_, rfl, _, rfl, own_lower (ownsRow_setCell_below (ownsRow_setCell_below (pw_own_below hO3 hS4) (by simp; omega) _) (by simp; omega) _) (by omega), Reg.On.set (Reg.On.set (((hb.out.trans hS).trans (On.alloc (On.refl _) _)).trans (hS2.trans (hb3.trans hS4))) (by simp) _) (by simp) _⟩
theorem blk_ex {S : Nat → Prop} {W w : World} {g : Nat} {o : Obj} (h : Ex S W w) (hg : W.heap[g]? = some o) (hn : ¬ S g) : w.heap[g]? = some o := (h.block g (blk_lt hg) hn).trans hg
theorem Fcts.ex {S : Nat → Prop} {w0 W w : World} {A : Option Addr} {c : Nat} {fs : List Fct} (h : Fcts w0 A c fs) (hb : On w0 W) (hE : Ex S W w) (hS : ∀ i, S i → w0.heap.size ≤ i) : Fcts w A c fs := h.on (Ex.on hb hE hS)
/-- The row of copies, one more. -/
theorem copy_more {lo : Nat} {hs : List Hdr} {fs : List Fct} {A' A2 : Option Addr} {c' c2 : Nat} {r : Int} {vs : List Int} {wr w2 w5 w6 : World} (hS : Sep wr lo hs fs) (hlo : lo ≤ wr.heap.size) (hO : OH wr lo (.slice A' hs.length c') hs) (h2 : OI w2 wr.heap.size (.slice A2 vs.length c2) vs) (hR : InR vs) (hb : On wr w2) (hb5 : On w2 w5)
    (hg : w5.grownBy w6 (Value.ownBlock (.slice A' hs.length c'))) : Sep w6 lo (hs ++ [(r, A2, vs.length, c2)]) (fs ++ [(r, vs)]) := by
  have h5 := Sep.snoc (a := (r, A2, vs.length, c2)) (f := (r, vs)) hS (hb.trans hb5) hlo rfl (pw_own_below h2 hb5) hR
  refine Sep.ex h5 (Ex.of_grown hg) (fun i a b ha hbk e => ?_)
  have hlt := own_lt hO b e.symm
  have hab := (h5.at_ i a _ ha (List.getElem?_eq_getElem (by rw [← h5.len]; exact (List.getElem?_eq_some_iff.1 ha).1))).2.1
  have := own_ne_blk hab (pw_own_below hO (hb.trans hb5)) (by decide) hbk
  exact this e.symm
theorem l5Copy_calls (w : World) (A0 c0 A1 c1) (rs : List Rel) (fs : List Fct) (h0 : Rels w A0 c0 rs) (h1 : Fcts w A1 c1 fs) (hl0 : rs.length ≤ 2000000) (hl : fs.length ≤ 2000000) (hl2 : ∀ f ∈ fs, f.2.length ≤ 2000000) : Calls Tryz.prog 69 #[.agg #[.slice A0 rs.length c0, .slice A1 fs.length c1]] w (Got fun v w' => OIn w' w.heap.size v rs fs ∧ On w w') := by
  have hb := Aside0.mk (On.alloc (On.alloc (On.refl w) (.cells #[.slice A0 rs.length c0, .slice A1 fs.length c1] 25)) (.cells #[.slice none 0 0, .slice none 0 0] 25))
  have hL := Aside0.mk (loc2 w #[.slice A0 rs.length c0, .slice A1 fs.length c1] #[.slice none 0 0, .slice none 0 0] 25 25)
  go_enter Tryz.func69, Tryz.ntmps69
  go_wp2_with (refine gate 8 ?_)
  refine ⟨apRf 8 (List.nil_append _) (lit_own' (w.heap.size + 1 + 1) _ (by simp) #[] 95 3 0 (w.heap.size + 2) (by simp) (by omega) rfl) rfl (h0.on (hb.out.trans (On.alloc (On.refl _) _))) (by simp) (by omega) fun v1 w1 hO1 hb1 => ?_⟩
  obtain ⟨Ar, cr, rfl⟩ := own_slice hO1
  have hfill := alloc_fill w1
  go_wp2
  clear hfill
  have hbL := Aside0.mk (Loc.on ((On.alloc (On.refl _) _).trans hb1) hL.out)
  have hB1 := Aside0.mk (hb.out.trans ((On.alloc (On.refl _) _).trans hb1))
  have hOR := Aside0.mk hO1
  clear hb1 hO1
  have hyb := Aside0.mk (loc_new w1 #[.slice Ar rs.length cr, .slice none 0 0] 25)
  have hBy := Aside0.mk (On.alloc (On.refl w1) (.cells #[.slice Ar rs.length cr, .slice none 0 0] 25))
  have hsy := Aside0.mk (show (w1.alloc (.cells #[.slice Ar rs.length cr, .slice none 0 0] 25)).heap.size = w1.heap.size + 1 by simp)
  obtain ⟨Wy, hWy⟩ : ∃ Wy, w1.alloc (.cells #[.slice Ar rs.length cr, .slice none 0 0] 25) = Wy := ⟨_, rfl⟩
  rw [hWy] at hyb hBy hsy ⊢
  clear hWy
  go_loopw [4] (fun v wr => ∃ (k : Nat) (hs : List Hdr) (A' : Option Addr) (c' : Nat), k ≤ fs.length ∧ v = .int .i64 k ∧ Aside0 (OH wr (w1.heap.size + 1) (.slice A' hs.length c') hs) ∧ Aside0 (Sep wr (w1.heap.size + 1) hs (fs.take k)) ∧ Aside0 (w1.heap.size + 1 ≤ wr.heap.size) ∧ Aside0 (Ex (fun b => w1.heap.size ≤ b) w1 wr) ∧ wr.heap[w1.heap.size]? = some (.cells #[.slice Ar rs.length cr, .slice A' hs.length c'] 25 (0, 0))) (fun v _ => fs.length - (intOf v).toNat)
  case atStart => exact ⟨0, [], none, 0, Nat.zero_le _, rfl, ⟨World.ownsRow_nil _ _ _ _⟩, ⟨Sep.nil _ _⟩, ⟨by rw [hsy.out]; exact Nat.le_refl _⟩, ⟨Ex.of_on hBy.out⟩, hyb.out⟩
  case round =>
    obtain ⟨k, hs, A', c', hk, rfl, hO, hS, hsz, hE, hy⟩ := hrel
    have hlen := Aside0.mk (show hs.length = k by have := hS.out.len; rw [List.length_take] at this; omega)
    have hB := Aside0.mk (Ex.on hB1.out hE.out (fun i hi => by have := hB1.out.size; omega))
    have hLr := Aside0.mk (show Loc wr _ from Loc.on (Ex.to_on hE.out (fun i hi => hi)) hbL.out)
    have hc0 := blk_cell hLr.out.1
    have hcy := blk_cell hy
    have hy' := Aside0.mk hy
    clear hy
    by_cases hlt : k < fs.length
    · obtain ⟨ad, A3, c3, rfl, hx0, hx1, hx2⟩ := (h1.on hB.out).at k hlt
      go_wp2
      refine Reg.region [(0,.L),(1,.L),(2,.L),(3,.L),(4,.L),(5,.L),(6,.L),(7,.N),(8,.N)] [9,10,11] (by kernel_rfl) (by kernel_rfl) ?_
      repeat first | refine sP ?_ | refine sS ?_ | refine sA ?_ | refine sL ?_ | refine sQ ?_ | refine sO ?_
      refine callN Tryz.func145 (fun w2 hS2 => ?_)
      focus
        refine (l5Fact_calls w2 A3 c3 fs[k] (hx2.on hS2) (hl2 _ (List.getElem_mem hlt))).mono ?_
        rintro e w3 ⟨v3, rfl, v4, rfl, hO4, hb3⟩
        obtain ⟨A4, c4, rfl⟩ := own_slice hO4
        refine ⟨_, rfl, hb3, fun a' ha => ?_⟩
        simp only [Act.put, List.setIfInBounds_toArray, List.set_cons_zero, List.set_cons_succ] at ha
        subst ha
        repeat first | refine sP ?_ | refine sS ?_ | refine sA ?_ | refine sL ?_ | refine sQ ?_ | refine sO ?_
        refine stepM (fun w4 hS4 => ?_)
        go_wp2
        refine ⟨hS4.trans (On.alloc (On.refl _) _), ?_⟩
        refine Reg.tail_ fun w5 hS5 => ?_
        have hB5 := Aside0.mk ((hS2.trans (hb3.trans (hS4.trans (On.alloc (On.refl _) _)))).trans hS5)
        have hlit := Aside0.mk (lit_RH hS5)
        have hO5 := Aside0.mk (pw_own_below hO.out hB5.out)
        obtain ⟨zs, hz⟩ : ∃ zs, hs ++ [(fs[k].1, A4, fs[k].2.length, c4)] = zs := ⟨_, rfl⟩
        have hz' := Aside0.mk hz
        refine apH 26 hz hO5.out hlit.out (Nat.le_trans hsz.out hB5.out.size) (by have := hlen.out; simp; omega) fun v6 w6 hO6 hg6 => ?_
        obtain ⟨A6, c6, rfl⟩ := own_slice hO6
        have hgy : some w1.heap.size ≠ Value.ownBlock (.slice A' hs.length c') := fun e => by have := own_base hO.out _ e.symm; omega
        have hk6 := blk_grown hg6 (blk_below hy'.out hB5.out) hgy
        have hcy6 := blk_cell hk6
        have hf6 := blk_frozen hk6
        have hk6' := Aside0.mk hk6
        have hS6 := Aside0.mk (copy_more (r := fs[k].1) (vs := fs[k].2) hS.out hsz.out hO.out (own_lower hO4 hS2.size) (hx2.2.2) (hS2.trans hb3) (hS4.trans ((On.alloc (On.refl _) _).trans hS5)) hg6)
        have hS6 := Aside0.mk (hz ▸ hS6.out)
        clear hk6 hgy hcy hz
        go_wp2
        refine ⟨⟨k + 1, zs, A6, c6, by omega, by go_num, ⟨ownsRow_setCell_below hO6 (Nat.lt_succ_self _) _⟩, ⟨?_⟩, ⟨?_⟩, ⟨?_⟩, blk_set hk6'.out 1 _⟩, by simp [intOf]; omega⟩
        · rw [List.take_succ_eq_append_getElem hlt]
          exact Sep.set hS6.out (Nat.lt_succ_self _) _
        · have h3 := hg6.size; have h4 := hB5.out.size; have := hsz.out; simp [World.setCell]; omega
        · exact ((hE.out.then_on hB5.out).trans (Ex.of_grown hg6) (fun i _ e => by have := own_base hO5.out i e.symm; omega)).trans (Ex.set _ _ _) (fun i _ e => by subst e; exact Nat.le_refl _)
    · have e1 : fs.take k = fs := List.take_of_length_le (by omega)
      rw [e1] at hS
      have hcr := blk_cell hLr.out.2.1
      have hfr := blk_frozen hLr.out.2.1
      go_wp2
      have hs1 := hBy.out.size
      have hs2 := hLr.out.2.1
      refine bodyPost_ret (retI rfl rfl (g := w.heap.size + 1) (blk_set (blk_set hLr.out.2.1 0 _) 1 _) rfl) rfl ?_
      have hw1 := blk_lt hbL.out.2.1
      refine ⟨_, rfl, ⟨_, _, hs, rfl, ?_, ?_, ?_⟩, ?_⟩
      · have h5 := own_ex hOR.out hE.out (fun i hi h => by have := own_lt hOR.out i hi; omega)
        exact own_lower (ownsRow_setCell_below (ownsRow_setCell_below h5 (by simp) _) (by simp) _) (by omega)
      · exact own_lower (ownsRow_setCell_below (ownsRow_setCell_below hO.out (by simp; omega) _) (by simp; omega) _) (by omega)
      · exact Sep.lower (Sep.set (Sep.set hS.out (by simp; omega) _) (by simp; omega) _) (by omega)
      · exact Reg.On.set (Reg.On.set hB.out (by simp) _) (by simp) _
end Go.Proofs.YtgemaohdlibboaaGreatDoor.H
/- Walks: the reference takes a fact out; restricts. No condition. -/
namespace Go.Proofs.YtgemaohdlibboaaGreatDoor.H
open Go Go.RowKit Go.Proofs.YtgemaohdlibboaaGreatDoorW.PrintWords Go.Proofs.YtgemaohdlibboaaGreatDoorW.PrintLast
open Go.Proofs.YtgemaohdlibboaaGreatDoor.Reg (On on_draw)
set_option maxHeartbeats 1000000
set_option maxRecDepth 100000
set_option linter.unusedVariables false
set_option linter.unusedSimpArgs false

/-- An instance that is read. -/
structure RIn (w : World) (v : Value) (rs : List Rel) (fs : List Fct) : Prop where mk :: (out : ∃ A0 c0 A1 c1, v = .agg #[.slice A0 rs.length c0, .slice A1 fs.length c1] ∧ Rels w A0 c0 rs ∧ Fcts w A1 c1 fs)
theorem RIn.on {W w : World} {v : Value} {rs : List Rel} {fs : List Fct} (h : RIn W v rs fs) (hb : On W w) : RIn w v rs fs := by
  obtain ⟨A0, c0, A1, c1, e, h0, h1⟩ := h.out
  exact ⟨A0, c0, A1, c1, e, h0.on hb, h1.on hb⟩
theorem OIn.read {w : World} {lo : Nat} {v : Value} {rs : List Rel} {fs : List Fct} (h : OIn w lo v rs fs) : RIn w v rs fs := by
  obtain ⟨vr, vf, hs, rfl, hR, hH, hS⟩ := h.out
  obtain ⟨A0, c0, rfl, h0⟩ := OR.rd hR
  obtain ⟨A1, c1, rfl, h1⟩ := OH.rd hH hS.reads
  exact ⟨A0, c0, A1, c1, rfl, h0, h1⟩
theorem RH.take {w : World} {A : Option Addr} {c : Nat} {hs : List Hdr} (h : RH w A c hs) (k : Nat) (hk : k ≤ hs.length) : RH w A c (hs.take k) := by
  have hl : (hs.take k).length = k := by rw [List.length_take]; omega
  refine ⟨by rw [hl]; have := h.cap; omega, by rw [hl]; have := h.max; omega, fun j u hu => h.cell j u ?_⟩
  have e : hs.flatMap encH = (hs.take k).flatMap encH ++ (hs.drop k).flatMap encH := by rw [← List.flatMap_append, List.take_append_drop]
  rw [e, List.getElem?_append_left (List.getElem?_eq_some_iff.1 hu).1]; exact hu
theorem RH.drop {w : World} {A : Option Addr} {c : Nat} {hs : List Hdr} (h : RH w A c hs) (k : Nat) (hk : k ≤ hs.length) : RH w (if c = k then A else A.map (·.add (k * 2))) (c - k) (hs.drop k) := by
  have hl : (hs.drop k).length = hs.length - k := List.length_drop
  have hcap := h.cap
  have e : hs.flatMap encH = (hs.take k).flatMap encH ++ (hs.drop k).flatMap encH := by rw [← List.flatMap_append, List.take_append_drop]
  have hl2 : ((hs.take k).flatMap encH).length = k * 2 := by rw [flat_len (enc := encH) (sz := 2) (fun _ => rfl), List.length_take]; congr 1; omega
  refine ⟨by rw [hl]; omega, by rw [hl]; have := h.max; omega, fun j u hu => ?_⟩
  obtain ⟨ad, e2, hc⟩ := h.cell (k * 2 + j) u (by rw [e, List.getElem?_append_right (by omega), hl2, show k * 2 + j - k * 2 = j by omega]; exact hu)
  subst e2
  have hlt : 0 < (hs.drop k).length := by
    have := (List.getElem?_eq_some_iff.1 hu).1
    rw [flat_len (enc := encH) (sz := 2) (fun _ => rfl)] at this
    omega
  rw [if_neg (by omega)]
  exact ⟨_, rfl, by rw [Addr.add_add]; exact hc⟩
section
variable {ops : Array Oper} {Q : Exit → Act → World → Prop} {i : Nat} {tail : List Nat} {l : List (Nat × Reg.K)} {a : Act} {W : World} {o : Oper} {N : Tmp}
theorem sFrom {x y : Operand} {A A' : Option Addr} {n c k m c' : Nat} (hA : (if c = k then A else A.map (·.add (k * 2))) = A') (hm : n - k = m) (hc' : c - k = c') (hk : k ≤ n) (hc : n ≤ c) (h : Reg.Ord Tryz.prog ops Q tail l (a.put (some N) (.slice A' m c')) W) (hi : ops[i]? = some o := by rfl) (hN : o.dst = some N := by rfl) (hw : Region.wanted o (yielded ops a.tmps) = true := by rfl)
    (hop : o.op = .slice 23 x (some y) none none := by rfl) (hx : a.eval x = .slice A n c := by rfl) (hy : a.eval y = .int .i64 (k : Int) := by rfl) : Reg.Ord Tryz.prog ops Q tail ((i, .L) :: l) a W := by
  subst hA hm hc'
  obtain ⟨i0, hi0, _, hsz, _⟩ := info_parts infoF
  have hcut := cut_from (P := Tryz.prog) 23 60 .i64 Tryz.underlying23 hi0 2 hsz A n c (k : Int) (by omega) (by omega)
  refine Reg.stepL (v := .slice (if c = k then A else A.map (·.add (k * 2))) (n - k) (c - k)) (fun w _ => ?_) h hi hN hw
  unfold execOp
  simp only [hop, hx, hy, Option.map_some, Option.map_none]
  have := hcut w
  simp only [Int.toNat_natCast] at this
  go_simp
end
theorem factsFrom_asc {rs : List Rel} : ∀ {p : Option Fct} {fs : List Fct}, factsFrom rs p fs = true → Asc fs ∧ ∀ q, p = some q → ∀ f ∈ fs, cmpF q f < 0
  | _, [], _ => ⟨List.Pairwise.nil, fun _ _ _ h => by cases h⟩
  | p, f :: fs, h => by
    simp only [factsFrom, Bool.and_eq_true] at h
    obtain ⟨h1, h2⟩ := factsFrom_asc h.2
    refine ⟨List.pairwise_cons.2 ⟨h2 f rfl, h1⟩, fun q hq g hg => ?_⟩
    subst hq
    have hqf : cmpF q f < 0 := by
      have := h.1; simp only [okNext, okPrev, Bool.and_eq_true, decide_eq_true_eq] at this; exact this.1.2
    rcases List.mem_cons.1 hg with rfl | hg
    · exact hqf
    · exact cmpF_trans _ _ _ hqf (h2 f rfl g hg)
theorem okInst_asc {rs : List Rel} {fs : List Fct} (h : okInst rs fs = true) : Asc fs := by
  simp only [okInst, Bool.and_eq_true] at h; exact (factsFrom_asc h.1).1
theorem okInst_len {rs : List Rel} {fs : List Fct} (h : okInst rs fs = true) : rs.length ≤ 6 ∧ fs.length ≤ 30 := by
  simp only [okInst, okRels, Bool.and_eq_true, decide_eq_true_eq] at h; exact ⟨h.2.1.2, h.2.2⟩
theorem factsFrom_mem {rs : List Rel} : ∀ {p : Option Fct} {fs : List Fct}, factsFrom rs p fs = true → ∀ f ∈ fs, okFact rs f = true
  | _, [], _, f, hf => by cases hf
  | p, g :: fs, h, f, hf => by
    simp only [factsFrom, okNext, Bool.and_eq_true] at h
    rcases List.mem_cons.1 hf with rfl | hf
    · exact h.1.1.1
    · exact factsFrom_mem h.2 f hf
theorem okInst_mem {rs : List Rel} {fs : List Fct} (h : okInst rs fs = true) : ∀ f ∈ fs, okFact rs f = true := by
  simp only [okInst, Bool.and_eq_true] at h; exact factsFrom_mem h.1
end Go.Proofs.YtgemaohdlibboaaGreatDoor.H
/- Walks: marks of instances, and whether they hold. No condition. -/
namespace Go.Proofs.YtgemaohdlibboaaGreatDoor.H
open Go Go.RowKit Go.Proofs.YtgemaohdlibboaaGreatDoorW.PrintWords Go.Proofs.YtgemaohdlibboaaGreatDoorW.PrintLast
open Go.Proofs.YtgemaohdlibboaaGreatDoor.Reg (On on_draw)
set_option maxHeartbeats 1000000
set_option maxRecDepth 100000
set_option linter.unusedVariables false
set_option linter.unusedSimpArgs false

/-- The blocks of an instance. -/
def IB (vr vf : Value) (hs : List Hdr) (b : Nat) : Prop := some b = vr.ownBlock ∨ FB vf hs b
theorem FB.lt {w : World} {lo lo2 : Nat} {vf : Value} {hs : List Hdr} {fs : List Fct} (h : OH w lo2 vf hs) (hS : Sep w lo hs fs) {b : Nat} (hb : FB vf hs b) : b < w.heap.size := by
  rcases hb with e | ⟨i, a, ha, e⟩
  · exact own_lt h b e.symm
  · exact (hS.lt ha e.symm).2
end Go.Proofs.YtgemaohdlibboaaGreatDoor.H
/- The rule for regions that draw their order, where two operations that make memory may come up at once. No condition. -/
namespace Go.Proofs.YtgemaohdlibboaaGreatDoor.Reg
open Go Go.RowKit
variable {P : Program} {ops : Array Oper} {Q : Exit → Act → World → Prop} {md : Region.Mode}
/-! Two operations that make memory may come up at once: both ways are walked. -/
inductive Tr where
  | leaf (l : List (Nat × K))
  | s (i : Nat) (k : K) (p : Tr)
  | two (i j : Nat) (p q : Tr)
def Tr.len : Tr → Nat
  | .leaf l => l.length
  | .s _ _ p => p.len + 1
  | .two _ _ p _ => p.len + 1
/-! The moves over a tree. -/
section
variable {i j : Nat} {tail : List Nat} {p q : Tr} {a : Act} {W : World} {o : Oper} {N : Tmp}
end
end Go.Proofs.YtgemaohdlibboaaGreatDoor.Reg
namespace Go.Proofs.YtgemaohdlibboaaGreatDoor.H
open Go Go.RowKit Go.Proofs.YtgemaohdlibboaaGreatDoorW.PrintWords Go.Proofs.YtgemaohdlibboaaGreatDoorW.PrintLast
open Go.Proofs.YtgemaohdlibboaaGreatDoor.Reg (On on_draw)
section
variable {P : Program} {ops : Array Oper} {Q : Exit → Act → World → Prop} {i j : Nat} {tail : List Nat} {p q : Reg.Tr} {a a' : Act} {W : World} {o o' : Oper} {N : Tmp}
end
end Go.Proofs.YtgemaohdlibboaaGreatDoor.H
/- The laws' own functions, told alike for each kind of datum. No condition. -/
namespace Go.Proofs.YtgemaohdlibboaaGreatDoor.H
open Go Go.RowKit Go.Proofs.YtgemaohdlibboaaGreatDoorW.PrintWords Go.Proofs.YtgemaohdlibboaaGreatDoorW.PrintLast
open Go.Proofs.YtgemaohdlibboaaGreatDoor.Reg (On on_draw)
set_option maxHeartbeats 1000000
set_option maxRecDepth 100000
set_option linter.unusedVariables false
set_option linter.unusedSimpArgs false

/-- A call of a plain function, met in line. -/
theorem goesF {ops : Array Oper} {rest : List Oper} {o : Oper} {a : Act} {Q : Exit → Act → World → Prop} {w : World} (N : Tmp) {f : FuncId} {fn : Func} {xs : Array Operand} {ts : Array TypeId} {args : Array Value} (hf : Tryz.prog.funcs[f]? = some fn)
    (h : Calls Tryz.prog f args w fun e w' => ∃ v, e = .returned v ∧ wpList Tryz.prog ops Q rest (a.put (some N) v) w') (hname : (fn.name == "runtime.NumGoroutine") = false := by kernel_rfl) (hb : fn.body.isSome = true := by rfl)
    (hop : o.op = .call { callee := .value (.func f), args := xs, argTypes := ts } := by rfl) (hargs : xs.map a.eval = args := by (try simp only [List.map_toArray, List.map_cons, List.map_nil]); rfl)
    (hd : o.dst = some N := by rfl) (hg : o.guard = none := by rfl) : wpList Tryz.prog ops Q (o :: rest) a w := by
  refine wpList_plain hg fun K hK => ?_
  have he := enters_ hf hname hb args w
  have hrun : (execOp a.eval o).run Tryz.prog w = .ok (.enter f args) w := by
    unfold execOp
    simp [hop, resolve, Deferred.ofValue, invoke, Act.eval, hargs, he]
  unfold Oper.wp
  rw [hrun, Oper.upon_enter]
  refine h.mono fun e w'' hh => ?_
  obtain ⟨v, rfl, hk⟩ := hh
  rw [← hd] at hk
  exact hK _ _ hk
theorem OIn.ex {S : Nat → Prop} {W w : World} {lo : Nat} {v : Value} {rs : List Rel} {fs : List Fct} (h : OIn W lo v rs fs) (k : Ex S W w) (hS : ∀ b, S b → b < lo) : OIn w lo v rs fs := by
  obtain ⟨vr, vf, hs, e, hR, hH, hSp⟩ := h.out
  refine ⟨vr, vf, hs, e, own_ex hR k (fun i hi h => ?_), own_ex hH k (fun i hi h => ?_), hSp.ex k (fun i a b ha hb h => ?_)⟩
  · have := own_base hR i hi; have := hS _ h; omega
  · have := own_base hH i hi; have := hS _ h; omega
  · have := (hSp.lt ha hb).1; have := hS _ h; omega
theorem RIn.shape {w : World} {v : Value} {rs : List Rel} {fs : List Fct} (h : RIn w v rs fs) : ∃ A n c B m d, v = .agg #[.slice A n c, .slice B m d] := by
  obtain ⟨A0, c0, A1, c1, e, _⟩ := h.out
  exact ⟨_, _, _, _, _, _, e⟩
theorem RIn.parts {w : World} {A B : Option Addr} {n c m d : Nat} {rs : List Rel} {fs : List Fct} (h : RIn w (.agg #[.slice A n c, .slice B m d]) rs fs) : n = rs.length ∧ m = fs.length ∧ Rels w A c rs ∧ Fcts w B d fs := by
  obtain ⟨A0, c0, A1, c1, e, h0, h1⟩ := h.out
  injection e with e
  have e' := congrArg Array.toList e
  simp only [List.cons.injEq, Value.slice.injEq, and_true] at e'
  obtain ⟨⟨rfl, rfl, rfl⟩, rfl, rfl, rfl⟩ := e'
  exact ⟨rfl, rfl, h0, h1⟩
theorem wF_small (fs : List Fct) (h : ∀ f ∈ fs, f.2.length ≤ 3) : wF fs ≤ 4 * fs.length := by
  unfold wF
  induction fs with
  | nil => simp
  | cons f fs ih =>
    have h1 := h f List.mem_cons_self
    have h2 := ih (fun g hg => h g (List.mem_cons_of_mem _ hg))
    simp at h2 ⊢; omega
/-- An instance of one's own whose blocks lie in a range. -/
structure OIb (w : World) (lo hi : Nat) (v : Value) (rs : List Rel) (fs : List Fct) : Prop where mk :: (out : ∃ vr vf hs, v = .agg #[vr, vf] ∧ OR w lo vr rs ∧ OH w lo vf hs ∧ Sep w lo hs fs ∧ ∀ b, IB vr vf hs b → b < hi)
theorem OIn.b {w : World} {lo : Nat} {v : Value} {rs : List Rel} {fs : List Fct} (h : OIn w lo v rs fs) : OIb w lo w.heap.size v rs fs := by
  obtain ⟨vr, vf, hs, e, hR, hH, hS⟩ := h.out
  refine ⟨vr, vf, hs, e, hR, hH, hS, fun b hb => ?_⟩
  rcases hb with e | e | ⟨i, a, ha, e⟩
  · exact own_lt hR b e.symm
  · exact own_lt hH b e.symm
  · exact (hS.lt ha e.symm).2
theorem OIb.n {w : World} {lo hi : Nat} {v : Value} {rs : List Rel} {fs : List Fct} (h : OIb w lo hi v rs fs) : OIn w lo v rs fs := by
  obtain ⟨vr, vf, hs, e, hR, hH, hS, _⟩ := h.out
  exact ⟨vr, vf, hs, e, hR, hH, hS⟩
theorem OIb.read {w : World} {lo hi : Nat} {v : Value} {rs : List Rel} {fs : List Fct} (h : OIb w lo hi v rs fs) : RIn w v rs fs := h.n.read
theorem OIb.on {W w : World} {lo hi : Nat} {v : Value} {rs : List Rel} {fs : List Fct} (h : OIb W lo hi v rs fs) (hb : On W w) : OIb w lo hi v rs fs := by
  obtain ⟨vr, vf, hs, e, hR, hH, hS, hh⟩ := h.out
  exact ⟨vr, vf, hs, e, pw_own_below hR hb, pw_own_below hH hb, hS.on hb, hh⟩
theorem OIb.ex {S : Nat → Prop} {W w : World} {lo hi : Nat} {v : Value} {rs : List Rel} {fs : List Fct} (h : OIb W lo hi v rs fs) (k : Ex S W w) (hS : ∀ b, lo ≤ b → b < hi → ¬ S b) : OIb w lo hi v rs fs := by
  obtain ⟨vr, vf, hs, e, hR, hH, hSp, hh⟩ := h.out
  exact ⟨vr, vf, hs, e, own_ex hR k (fun i hi h => hS i (own_base hR i hi) (hh i (.inl hi.symm)) h), own_ex hH k (fun i hi h => hS i (own_base hH i hi) (hh i (.inr (.inl hi.symm))) h), hSp.ex k (fun i a b ha hb h => hS b (hSp.lt ha hb).1 (hh b (.inr (.inr ⟨i, a, ha, hb.symm⟩))) h), hh⟩
theorem OIb.set {W : World} {lo hi g j : Nat} {v u : Value} {rs : List Rel} {fs : List Fct} (h : OIb W lo hi v rs fs) (hg : g < lo ∨ hi ≤ g) : OIb (W.setCell ⟨g, j, none⟩ u) lo hi v rs fs :=
  h.ex (Ex.set W ⟨g, j, none⟩ u) (fun b h1 h2 h3 => by have h4 : b = g := h3; omega)
/-- One fact. -/
structure RFa (w : World) (v : Value) (f : Fct) : Prop where mk :: (out : ∃ A c, v = .agg #[.int .i64 f.1, .slice A f.2.length c] ∧ Ints w A c f.2)
structure OFa (w : World) (lo : Nat) (v : Value) (f : Fct) : Prop where mk :: (out : ∃ v1, v = .agg #[.int .i64 f.1, v1] ∧ OI w lo v1 f.2 ∧ InR f.2)
theorem RFa.on {W w : World} {v : Value} {f : Fct} (h : RFa W v f) (hb : On W w) : RFa w v f := by
  obtain ⟨A, c, e, h0⟩ := h.out
  exact ⟨A, c, e, h0.on hb⟩
theorem OFa.on {W w : World} {lo : Nat} {v : Value} {f : Fct} (h : OFa W lo v f) (hb : On W w) : OFa w lo v f := by
  obtain ⟨v1, e, h0, h1⟩ := h.out
  exact ⟨v1, e, pw_own_below h0 hb, h1⟩
theorem OFa.read {w : World} {lo : Nat} {v : Value} {f : Fct} (h : OFa w lo v f) : RFa w v f := by
  obtain ⟨v1, e, h0, h1⟩ := h.out
  obtain ⟨A, c, rfl, h2⟩ := OI.rd h0 h1
  exact ⟨A, c, e, h2⟩
theorem OFa.ex {S : Nat → Prop} {W w : World} {lo : Nat} {v : Value} {f : Fct} (h : OFa W lo v f) (k : Ex S W w) (hS : ∀ b, S b → b < lo) : OFa w lo v f := by
  obtain ⟨v1, e, h0, h1⟩ := h.out
  refine ⟨v1, e, own_ex h0 k (fun i hi h => ?_), h1⟩
  have := own_base h0 i hi; have := hS _ h; omega
theorem RFa.shape {w : World} {v : Value} {f : Fct} (h : RFa w v f) : ∃ r A n c, v = .agg #[.int .i64 r, .slice A n c] := by
  obtain ⟨A, c, e, _⟩ := h.out
  exact ⟨_, _, _, _, e⟩
theorem RFa.parts {w : World} {r : Int} {A : Option Addr} {n c : Nat} {f : Fct} (h : RFa w (.agg #[.int .i64 r, .slice A n c]) f) : r = f.1 ∧ n = f.2.length ∧ Ints w A c f.2 := by
  obtain ⟨A0, c0, e, h0⟩ := h.out
  injection e with e
  have e' := congrArg Array.toList e
  simp only [List.cons.injEq, Value.slice.injEq, Value.int.injEq, and_true, true_and] at e'
  obtain ⟨rfl, rfl, rfl, rfl⟩ := e'
  exact ⟨rfl, rfl, h0⟩
/-- One fact of one's own whose block lies in a range. -/
structure OFb (w : World) (lo hi : Nat) (v : Value) (f : Fct) : Prop where mk :: (out : ∃ v1, v = .agg #[.int .i64 f.1, v1] ∧ OI w lo v1 f.2 ∧ InR f.2 ∧ ∀ b, v1.ownBlock = some b → b < hi)
theorem OFa.b {w : World} {lo : Nat} {v : Value} {f : Fct} (h : OFa w lo v f) : OFb w lo w.heap.size v f := by
  obtain ⟨v1, e, h0, h1⟩ := h.out
  exact ⟨v1, e, h0, h1, fun b hb => own_lt h0 b hb⟩
theorem OFb.read {w : World} {lo hi : Nat} {v : Value} {f : Fct} (h : OFb w lo hi v f) : RFa w v f := by
  obtain ⟨v1, e, h0, h1, _⟩ := h.out
  obtain ⟨A, c, rfl, h2⟩ := OI.rd h0 h1
  exact ⟨A, c, e, h2⟩
theorem OFb.on {W w : World} {lo hi : Nat} {v : Value} {f : Fct} (h : OFb W lo hi v f) (hb : On W w) : OFb w lo hi v f := by
  obtain ⟨v1, e, h0, h1, h2⟩ := h.out
  exact ⟨v1, e, pw_own_below h0 hb, h1, h2⟩
theorem OFb.ex {S : Nat → Prop} {W w : World} {lo hi : Nat} {v : Value} {f : Fct} (h : OFb W lo hi v f) (k : Ex S W w) (hS : ∀ b, lo ≤ b → b < hi → ¬ S b) : OFb w lo hi v f := by
  obtain ⟨v1, e, h0, h1, h2⟩ := h.out
  exact ⟨v1, e, own_ex h0 k (fun i hi h => hS i (own_base h0 i hi) (h2 i hi) h), h1, h2⟩
end Go.Proofs.YtgemaohdlibboaaGreatDoor.H
/- The rule for regions that draw their order, where reads may come up at any time, behind stores too: what they read is told by a predicate G that holds all along. No condition. -/
namespace Go.Proofs.YtgemaohdlibboaaGreatDoor.Reg
open Go Go.RowKit
variable {P : Program} {ops : Array Oper} {Q : Exit → Act → World → Prop} {md : Region.Mode}
def wpF (P : Program) (md : Region.Mode) (ops : Array Oper) (Q : Exit → Act → World → Prop) (cl : Nat → Bool) (G : World → Prop) : Nat → Array Bool → Act → (World → Prop) → Prop
  | 0, listed, a, S => (∀ w, S w → G w) ∧ Region.ready md ops listed = [] ∧ ∀ w, S w → Q .normal a w
  | fuel + 1, listed, a, S => (∀ w, S w → G w) ∧
    (Region.ready md ops listed = [] → ∀ w, S w → Q .normal a w) ∧
    ∀ i ∈ Region.ready md ops listed, stepT P ops Q cl (wpF P md ops Q cl G fuel (listed.setIfInBounds i true)) i a S
theorem wpF_G {cl : Nat → Bool} {G : World → Prop} {fuel : Nat} {listed : Array Bool} {a : Act} {S : World → Prop} (h : wpF P md ops Q cl G fuel listed a S) : ∀ w, S w → G w := by
  cases fuel <;> exact h.1
theorem wpAny_of_wpF {cl : Nat → Bool} {G : World → Prop} : ∀ (fuel : Nat) (listed : Array Bool) (a : Act) (S : World → Prop) (w : World), S w → wpF P md ops Q cl G fuel listed a S → wpAny P md ops Q fuel listed a w
  | 0, _, _, _, _, hS, h => ⟨h.2.1, h.2.2 _ hS⟩
  | fuel + 1, _, _, _, _, hS, h => ⟨fun h0 => h.2.1 h0 _ hS, fun i hi => wpOp_of_stepT (fun a S w hS hT => wpAny_of_wpF fuel _ a S w hS hT) hS (h.2.2 i hi)⟩
theorem stepT_putG {cl : Nat → Bool} {G : World → Prop} {j : Nat} {oi oj : Oper} {v : Value} (hQ : Plain Q) (hj : ops[j]? = some oj) (hap : oi.apart ops oj = true)
    (hsi : ∀ cs b, oi.op ≠ .select cs b) (hsj : ∀ cs b, oj.op ≠ .select cs b) {T : Act → (World → Prop) → Prop} {a : Act} {S : World → Prop}
    (hy : Y P ops false G oi v a) (h : stepT P ops Q cl T j (a.put oi.dst v) S) :
    stepT P ops Q cl (fun a' S' => Y P ops false G oi v a' ∧ T (a'.put oi.dst v) S') j a S := by
  obtain ⟨h1, h2, h3⟩ := Oper.apart_spec hap
  have keep : ∀ (a : Act), Y P ops false G oi v a → ∀ u, Y P ops false G oi v (a.put oj.dst u) := fun a hy u =>
    hy.of_same (execOp_put oi hsi a oj.dst u h3) (wanted_put oi a oj.dst u h3)
  unfold stepT nAt at *
  simp only [hj] at h ⊢
  rw [wanted_put oj a oi.dst v h1] at h
  split
  · rename_i hw
    rw [if_pos hw] at h
    rw [execOp_put oj hsj a oi.dst v h1] at h
    rcases h with ⟨u, hu, hn⟩ | ⟨u, hu, hn⟩ | ⟨hi, hu⟩
    · exact .inl ⟨u, hu, keep a hy u, by rw [← Act.put_comm a v u h2]; exact hn⟩
    · exact .inr (.inl ⟨u, hu, keep a hy u, by rw [← Act.put_comm a v u h2]; exact hn⟩)
    · refine .inr (.inr ⟨hi, fun w hS => ?_⟩)
      exact wpOp_mono (fun a' w' ⟨y', S', a1, a2, a3⟩ => ⟨S', a1, a2, Y.of_if y', a3⟩) (wpOp_putIf hj hap hsi hsj (fun c a w h => hQ c a _ _ w h) hy.if (hu w hS))
  · rename_i hw
    rw [if_neg hw] at h
    exact ⟨keep a hy _, by rw [← Act.put_comm a v undef h2]; exact h⟩
theorem wpF_first {cl : Nat → Bool} {G : World → Prop} {i : Nat} {oi : Oper} {v : Value} (hQ : Plain Q) (hi : ops[i]? = some oi) (hsel : ∀ (j : Nat) (o : Oper) cs b, ops[j]? = some o → o.op ≠ .select cs b) :
    ∀ (fuel : Nat) (listed : Array Bool) (a : Act) (S : World → Prop), closed md ops listed →
      (∀ j oj, ops[j]? = some oj → j ≠ i → listed.getD j true = false → reach md ops j i = false → oi.apart ops oj = true) →
      i ∈ Region.ready md ops listed → Y P ops false G oi v a →
      wpF P md ops Q cl G fuel (listed.setIfInBounds i true) (a.put oi.dst v) S → wpF P md ops Q cl G (fuel + 1) listed a S := by
  intro fuel
  induction fuel with
  | zero =>
    intro listed a S _ _ hr hy H
    refine ⟨wpF_G H, fun h => (by rw [h] at hr; cases hr), fun j hj => ?_⟩
    by_cases hji : j = i
    · subst hji; exact (hy.sub (wpF_G H)).step hi H
    · have := ready_mono hj hji
      rw [H.2.1] at this
      cases this
  | succ fuel ih =>
    intro listed a S hclosed hfree hr hy H
    refine ⟨wpF_G H, fun h => (by rw [h] at hr; cases hr), fun j hj => ?_⟩
    by_cases hji : j = i
    · subst hji; exact (hy.sub (wpF_G H)).step hi H
    · have h1 := H.2.2 j (ready_mono hj hji)
      obtain ⟨hjun, oj, hoj, hall⟩ := mem_ready.1 hj
      have hif : listed.getD i false = false := by
        have h0 := (mem_ready.1 hr).1
        rcases Nat.lt_or_ge i listed.size with h' | h'
        · simp [h'] at h0 ⊢; exact h0
        · simp [Array.getElem?_eq_none h']
      have hnot : reach md ops j i = false := by
        cases hc : reach md ops j i with
        | false => rfl
        | true =>
          have := closed.reach hclosed hoj hall hc
          rw [hif] at this
          cases this
      have h2 := stepT_putG hQ hoj (hfree j oj hoj hji hjun hnot) (fun cs b => hsel i oi cs b hi) (fun cs b => hsel j oj cs b hoj) hy h1
      have hfree' : ∀ k ok, ops[k]? = some ok → k ≠ i → (listed.setIfInBounds j true).getD k true = false →
          reach md ops k i = false → oi.apart ops ok = true := fun k ok hk hki hun hno => by
        refine hfree k ok hk hki ?_ hno
        by_cases hjk : j = k
        · subst hjk; exact hjun
        · rw [getD_set_ne true hjk] at hun; exact hun
      refine stepT_mono (fun a' S' h3 => ih (listed.setIfInBounds j true) a' S' (hclosed.set hj) hfree' (ready_mono hr (Ne.symm hji)) h3.1 ?_) h2
      rw [Array.setIfInBounds_comm _ _ hji]
      exact h3.2
/-- What stands in line behind the reads: G holds all along. -/
def tailF (P : Program) (ops : Array Oper) (Q : Exit → Act → World → Prop) (G : World → Prop) : List Nat → Act → World → Prop
  | [], a, w => Q .normal a w
  | i :: l, a, w => match ops[i]? with
    | none => False
    | some _ => wpOp P ops Q i (fun a' w' => G w' ∧ tailF P ops Q G l a' w') a w
theorem wpF_of_tail {cl : Nat → Bool} {G : World → Prop} : ∀ (l : List Nat) (listed : Array Bool) (a : Act) (S : World → Prop), (∀ i ∈ l, cl i = true) → chkTail md ops l listed = true → (∀ w, S w → G w) → (∀ w, S w → tailF P ops Q G l a w) → wpF P md ops Q cl G l.length listed a S
  | [], listed, a, S, _, hc, hG, h => ⟨hG, by simpa [chkTail] using hc, h⟩
  | i :: l, listed, a, S, hcl, hc, hG, h => by
    simp only [chkTail, Bool.and_eq_true, beq_iff_eq] at hc
    obtain ⟨⟨hr, hbusy⟩, hl⟩ := hc
    cases hi : ops[i]? with
    | none => simp [hi] at hbusy
    | some o =>
      rw [List.length_cons]
      refine ⟨hG, fun h0 => (by rw [hr] at h0; cases h0), fun j hj => ?_⟩
      rw [hr] at hj
      obtain rfl := List.mem_singleton.1 hj
      have ih := fun (a : Act) (S : World → Prop) (hG : ∀ w, S w → G w) (h : ∀ w, S w → tailF P ops Q G l a w) => wpF_of_tail (cl := cl) l (listed.setIfInBounds j true) a S (fun k hk => hcl k (List.mem_cons_of_mem _ hk)) hl hG h
      have hlist : ∀ w, S w → wpOp P ops Q j (fun a' w' => G w' ∧ tailF P ops Q G l a' w') a w := fun w hS => by
        have h1 := h w hS
        simp only [tailF, hi] at h1
        exact h1
      unfold stepT
      simp only [hi]
      split
      · exact .inr (.inr ⟨.inr (hcl j List.mem_cons_self), fun w hS => wpOp_mono (fun a' w' hh => ⟨fun w => w = w', rfl, fun h0 => (by rw [hcl j List.mem_cons_self] at h0; cases h0), ih a' _ (fun w e => by subst e; exact hh.1) (fun w e => by subst e; exact hh.2)⟩) (hlist w hS)⟩)
      · rename_i hw
        refine ih _ _ (fun w hS => ?_) fun w hS => ?_
        · have h1 := hlist w hS
          unfold wpOp at h1
          simp only [hi] at h1
          rw [if_neg hw] at h1
          exact h1.1
        · have h1 := hlist w hS
          unfold wpOp at h1
          simp only [hi] at h1
          rw [if_neg hw] at h1
          exact h1.2
def chkF (md : Region.Mode) (ops : Array Oper) (tail : List Nat) : List Nat → Array Bool → Bool
  | [], listed => chkTail md ops tail listed
  | i :: l, listed => (Region.ready md ops listed).contains i && freeC md ops false listed i && chkF md ops tail l (listed.setIfInBounds i true)
def wpOrdF (P : Program) (ops : Array Oper) (Q : Exit → Act → World → Prop) (G : World → Prop) (tail : List Nat) (W : World) : List Nat → Act → Prop
  | [], a => tailF P ops Q G tail a W
  | i :: l, a => match ops[i]? with
    | none => False
    | some o =>
      if Region.wanted o (yielded ops a.tmps) then ∃ v, (∀ w, G w → (execOp a.eval o).run P w = .ok (.value v) w) ∧ wpOrdF P ops Q G tail W l (a.put o.dst v)
      else wpOrdF P ops Q G tail W l (a.put o.dst undef)
theorem wpF_of_ord {G : World → Prop} {W : World} (hs : Region.noSelect ops = true) (hQ : Plain Q) (hG : G W) (tail : List Nat) : ∀ (l : List Nat) (listed : Array Bool) (a : Act), closed md ops listed → chkF md ops tail l listed = true → wpOrdF P ops Q G tail W l a → wpF P md ops Q (fun j => tail.contains j) G (l.length + tail.length) listed a (fun w => w = W)
  | [], listed, a, _, hc, h => by
    rw [List.length_nil, Nat.zero_add]
    exact wpF_of_tail tail listed a _ (fun i hi => by simpa using hi) hc (fun w e => by subst e; exact hG) (fun w e => by subst e; exact h)
  | i :: l, listed, a, hclosed, hc, h => by
    simp only [chkF, Bool.and_eq_true] at hc
    obtain ⟨⟨hr, hf⟩, hl⟩ := hc
    simp only [wpOrdF] at h
    cases hi : ops[i]? with
    | none => simp only [hi] at h
    | some o =>
      simp only [hi] at h
      have hri : i ∈ Region.ready md ops listed := by simpa using hr
      have ih := fun a h => wpF_of_ord hs hQ hG tail l (listed.setIfInBounds i true) a (hclosed.set hri) hl h
      have sel := Region.noSelect_spec hs
      have hlen : ((i :: l).length + tail.length) = (l.length + tail.length) + 1 := by rw [List.length_cons]; omega
      rw [hlen]
      by_cases hw : Region.wanted o (yielded ops a.tmps) = true
      · rw [if_pos hw] at h
        obtain ⟨v, h1, h2⟩ := h
        exact wpF_first hQ hi sel _ listed a _ hclosed (fun j oj hj hne hun hno => (freeC_spec hi hf j oj hj hne hun hno).1) hri (.inl ⟨hw, fun w hS => by simpa using h1 w hS⟩) (ih _ h2)
      · rw [if_neg hw] at h
        exact wpF_first hQ hi sel _ listed a _ hclosed (fun j oj hj hne hun hno => (freeC_spec hi hf j oj hj hne hun hno).1) hri (.inr ⟨by simpa using hw, rfl⟩) (ih _ h)
structure OrdF (P : Program) (ops : Array Oper) (Q : Exit → Act → World → Prop) (G : World → Prop) (tail : List Nat) (W : World) (l : List Nat) (a : Act) : Prop where mk :: (out : wpOrdF P ops Q G tail W l a)
structure TailF (P : Program) (ops : Array Oper) (Q : Exit → Act → World → Prop) (G : World → Prop) (l : List Nat) (a : Act) (w : World) : Prop where mk :: (out : tailF P ops Q G l a w)
theorem regionF {id : Nat} {a : Act} {w : World} (G : World → Prop) (l tail : List Nat) (hm : P.follows .mixedOrders = true) (hc : (Region.noSelect ops && (l.length + tail.length == ops.size) && chkF .any ops tail l (Array.replicate ops.size false)) = true)
    (hG : G { w with drawn := w.drawn + 1 }) (h : OrdF P ops Q G tail { w with drawn := w.drawn + 1 } l a) (hQ : Plain Q := by exact fun c a d v w h => by cases d <;> exact h) : (Code.region id ops true).wp P Q a w := by
  simp only [Bool.and_eq_true, beq_iff_eq] at hc
  refine wp_region_any hm (wpAny_of_wpF (cl := fun j => tail.contains j) (G := G) _ _ _ (fun w' => w' = { w with drawn := w.drawn + 1 }) _ rfl ?_)
  rw [← hc.1.2]
  exact wpF_of_ord hc.1.1 hQ hG tail l _ a (closed.start _) (by rw [hc.1.2]; exact hc.2) h.out
section
variable {G : World → Prop} {i : Nat} {tail l : List Nat} {a a' : Act} {W : World} {o : Oper} {N : Tmp}
theorem stepF {v : Value} (hy : ∀ w, G w → (execOp a.eval o).run P w = .ok (.value v) w) (h : OrdF P ops Q G tail W l (a.put (some N) v)) (hi : ops[i]? = some o) (hN : o.dst = some N)
    (hw : Region.wanted o (yielded ops a.tmps) = true) : OrdF P ops Q G tail W (i :: l) a := by
  refine ⟨?_⟩
  simp only [wpOrdF, hi]
  rw [if_pos hw]
  exact ⟨v, hy, hN ▸ h.out⟩
theorem startF (h : TailF P ops Q G tail a W) : OrdF P ops Q G tail W [] a := ⟨h.out⟩
/-- A read, an address, whatever G tells. -/
theorem sF {v : Value} (h : OrdF P ops Q G tail W l a') (hi : ops[i]? = some o := by rfl) (hN : o.dst = some N := by rfl) (hw : Region.wanted o (yielded ops a.tmps) = true := by rfl)
    (hy : ∀ w, G w → (execOp a.eval o).run P w = .ok (.value v) w := by intro w' hS; (first | (have hA := blk_cell hS; clear hS; go_simp; first | done | rfl) | (clear hS; go_simp; first | done | rfl)))
    (ha : a.put (some N) v = a' := by simp only [Act.put, List.setIfInBounds_toArray, List.set_cons_zero, List.set_cons_succ]; rfl) : OrdF P ops Q G tail W (i :: l) a := stepF hy (ha ▸ h) hi hN hw
theorem tF {w : World} (h : wpList P ops (Exit.then (fun a' w' => G w' ∧ TailF P ops Q G l a' w') Q) [o] a w) (hi : ops[i]? = some o := by rfl) : TailF P ops Q G (i :: l) a w := by
  refine ⟨?_⟩
  simp only [tailF, hi]
  refine wpOp_mono (fun a' w' hh => ⟨hh.1, hh.2.out⟩) (wpOp_of_one hi h)
theorem endF {w : World} (h : Q .normal a w) : TailF P ops Q G [] a w := ⟨h⟩
end
end Go.Proofs.YtgemaohdlibboaaGreatDoor.Reg
/- Walks: the reference puts a fact into an instance. No condition. -/
namespace Go.Proofs.YtgemaohdlibboaaGreatDoor.H
open Go Go.RowKit Go.Proofs.YtgemaohdlibboaaGreatDoorW.PrintWords Go.Proofs.YtgemaohdlibboaaGreatDoorW.PrintLast
open Go.Proofs.YtgemaohdlibboaaGreatDoor.Reg (On on_draw)
set_option maxHeartbeats 4000000
set_option maxRecDepth 100000
set_option linter.unusedVariables false
set_option linter.unusedSimpArgs false

section
variable {ops : Array Oper} {Q : Exit → Act → World → Prop} {G : World → Prop} {i : Nat} {tail l : List Nat} {a : Act} {W : World} {o : Oper} {N : Tmp}
theorem sToF {x y : Operand} {A : Option Addr} {n c k : Nat} (hk : k ≤ n) (hc : n ≤ c) (h : Reg.OrdF Tryz.prog ops Q G tail W l (a.put (some N) (.slice A k c))) (hi : ops[i]? = some o := by rfl) (hN : o.dst = some N := by rfl) (hw : Region.wanted o (yielded ops a.tmps) = true := by rfl)
    (hop : o.op = .slice 23 x none (some y) none := by rfl) (hx : a.eval x = .slice A n c := by rfl) (hy : a.eval y = .int .i64 (k : Int) := by rfl) : Reg.OrdF Tryz.prog ops Q G tail W (i :: l) a := by
  obtain ⟨i0, hi0, _, hsz, _⟩ := info_parts infoF
  have hcut := cut_to (P := Tryz.prog) 23 60 .i64 Tryz.underlying23 hi0 A n c (k : Int) (by omega) (by omega) hc
  refine Reg.stepF (v := .slice A k c) (fun w _ => ?_) h hi hN hw
  unfold execOp
  simp only [hop, hx, hy, Option.map_some, Option.map_none]
  have := hcut w
  simp only [Int.toNat_natCast] at this
  go_simp
end
/-- An instance that is read, whatever happens to the blocks S. -/
structure RS (S : Nat → Prop) (w : World) (v : Value) (rs : List Rel) (fs : List Fct) : Prop where mk :: (out : ∃ A0 c0 A1 c1 hs, v = .agg #[.slice A0 rs.length c0, .slice A1 fs.length c1] ∧ ∀ w', Ex S w w' → Rels w' A0 c0 rs ∧ RH w' A1 c1 hs ∧ Reads w' hs fs)
theorem RS.ex {S : Nat → Prop} {W w : World} {v : Value} {rs : List Rel} {fs : List Fct} (h : RS S W v rs fs) (k : Ex S W w) : RS S w v rs fs := by
  obtain ⟨A0, c0, A1, c1, hs, e, h⟩ := h.out
  exact ⟨A0, c0, A1, c1, hs, e, fun w' h' => h w' (k.trans h' fun _ _ h => h)⟩
theorem RS.on {S : Nat → Prop} {W w : World} {v : Value} {rs : List Rel} {fs : List Fct} (h : RS S W v rs fs) (k : On W w) : RS S w v rs fs := h.ex (Ex.of_on k)
theorem RS.read {S : Nat → Prop} {w : World} {v : Value} {rs : List Rel} {fs : List Fct} (h : RS S w v rs fs) : RIn w v rs fs := by
  obtain ⟨A0, c0, A1, c1, hs, e, h⟩ := h.out
  obtain ⟨h1, h2, h3⟩ := h w (Ex.refl _ _)
  exact ⟨A0, c0, A1, c1, e, h1, h2.fcts h3⟩
theorem Ex.none {W w : World} (h : Ex (fun _ => False) W w) : On W w := h.to_on fun _ h => h.elim
theorem RIn.rs {w : World} {v : Value} {rs : List Rel} {fs : List Fct} (h : RIn w v rs fs) : RS (fun _ => False) w v rs fs := by
  obtain ⟨A0, c0, A1, c1, e, h0, h1⟩ := h.out
  obtain ⟨hs, h2, h3⟩ := h1.hdrs
  exact ⟨A0, c0, A1, c1, hs, e, fun w' k => ⟨h0.on k.none, h2.on k.none, h3.on k.none⟩⟩
theorem OIn.rs {S : Nat → Prop} {w : World} {lo : Nat} {v : Value} {rs : List Rel} {fs : List Fct} (h : OIn w lo v rs fs) (hS : ∀ b, S b → b < lo) : RS S w v rs fs := by
  obtain ⟨vr, vf, hs, rfl, h0, h1, h2⟩ := h.out
  obtain ⟨A0, c0, rfl, _⟩ := OR.rd h0
  obtain ⟨A1, c1, rfl⟩ := own_slice h1
  refine ⟨A0, c0, A1, c1, hs, by rw [h2.len], fun w' k => ?_⟩
  have h3 := own_ex h0 k (fun i hi e => by have := own_base h0 i hi; have := hS i e; omega)
  have h4 := own_ex h1 k (fun i hi e => by have := own_base h1 i hi; have := hS i e; omega)
  have h5 := h2.ex k (fun i a b ha hb e => by have := (h2.lt ha hb).1; have := hS b e; omega)
  obtain ⟨A', c', e, h6⟩ := OR.rd h3
  injection e with e1 e2 e3
  subst e1 e3
  exact ⟨h6, (OH.rh h4).2, h5.reads⟩
theorem l5PutS_calls (S : Nat → Prop) (w : World) (A0 c0 A1 c1) (hs : List Hdr) (rs : List Rel) (fs : List Fct) (hA0 : ∀ w', Ex S w w' → Rels w' A0 c0 rs ∧ RH w' A1 c1 hs ∧ Reads w' hs fs) (hSb : ∀ b, S b → b < w.heap.size) (A2 c2) (f : Fct) (h2 : Ints w A2 c2 f.2) (hl : fs.length ≤ 2000000) (hl2 : f.2.length ≤ 2000000) (ha : Asc fs) :
    Calls Tryz.prog 81 #[.agg #[.slice A0 rs.length c0, .slice A1 fs.length c1], .agg #[.int .i64 f.1, .slice A2 f.2.length c2]] w (Got fun v w' => RS S w' v rs (putF fs f) ∧ On w w') := by
  obtain ⟨h0, hRH0, hRd0⟩ := hA0 w (Ex.refl _ _)
  have h1 := hRH0.fcts hRd0
  have hA := Aside0.mk hA0
  have hSb' := Aside0.mk hSb
  have hRH0' := Aside0.mk hRH0
  have hRd0' := Aside0.mk hRd0
  clear hA0 hSb hRH0 hRd0
  have hb := Aside0.mk (On.alloc (On.alloc (On.alloc (On.refl w) (.cells #[.slice A0 rs.length c0, .slice A1 fs.length c1] 25)) (.cells #[.int .i64 f.1, .slice A2 f.2.length c2] 60)) (.cells #[.slice none 0 0, .slice none 0 0] 25))
  have hL := Aside0.mk (loc3 w #[.slice A0 rs.length c0, .slice A1 fs.length c1] #[.int .i64 f.1, .slice A2 f.2.length c2] #[.slice none 0 0, .slice none 0 0] 25 60 25)
  have hmx := h1.max
  have hl' := Aside0.mk (show fs.length ≤ 2000000 ∧ f.2.length ≤ 2000000 from ⟨hl, hl2⟩)
  clear hl hl2
  by_cases hf : f ∈ fs
  · have hput := Aside0.mk (putF_has fs f ha hf)
    rcases place_spec fs f with ⟨_, hn⟩ | ⟨k, hk, hpl, _, _⟩
    · exact absurd hf hn
    have hk' := Aside0.mk hk
    clear hf ha
    go_enter Tryz.func81, Tryz.ntmps81
    go_wp2_with (go_at_call 155; refine (l5Place_calls _ A0 rs.length c0 A1 c1 A2 c2 fs f (h1.on hb.out) (h2.on hb.out)).mono ?_; rintro e w1 ⟨rfl, hb1⟩; rw [hpl]; have hL1 := Aside0.mk (Loc.on hb1 hL.out); have hc0 := blk_cell hL1.out.1; have hcr : ∀ i, w1.cell? ⟨w.heap.size + 1 + 1, i, none⟩ = _ := blk_cell hL1.out.2.2.1; have hfr : ∀ i, w1.frozen? ⟨w.heap.size + 1 + 1, i, none⟩ = _ := blk_frozen hL1.out.2.2.1)
    refine bodyPost_ret (retI rfl rfl (g := w.heap.size + 2) (blk_set (blk_set hL1.out.2.2.1 0 _) 1 _) rfl) rfl ?_
    have hBe := Reg.On.set (p := ⟨w.heap.size + 1 + 1, 1, none⟩) (Reg.On.set (p := ⟨w.heap.size + 1 + 1, 0, none⟩) (hb.out.trans hb1) (by simp; omega) (.slice A0 rs.length c0)) (by simp; omega) (.slice A1 fs.length c1)
    exact ⟨_, rfl, ⟨A0, c0, A1, c1, hs, by rw [hput.out]; rfl, fun w' k => by rw [hput.out]; exact hA.out w' ((Ex.of_on hBe).trans k fun _ _ h => h)⟩, hBe⟩
  · have hf' := Aside0.mk hf
    have ha' := Aside0.mk ha
    have hpl : place fs f = -1 := by
      rcases place_spec fs f with ⟨e, _⟩ | ⟨k, hk, _, e, _⟩
      · exact e
      · exact absurd (e ▸ List.getElem_mem hk) hf
    clear hf ha
    go_enter Tryz.func81, Tryz.ntmps81
    go_wp2_with (go_at_call 155; refine (l5Place_calls _ A0 rs.length c0 A1 c1 A2 c2 fs f (h1.on hb.out) (h2.on hb.out)).mono ?_; rintro e w1 ⟨rfl, hb1⟩; rw [hpl])
    have hW1 := Aside0.mk (hb.out.trans hb1)
    have hL1 := Aside0.mk (Loc.on hb1 hL.out)
    clear hpl hb1 hb hL
    go_loopw [5] (fun v5 wr => ∃ (k : Nat), v5 = .int .i64 k ∧ k ≤ fs.length ∧ Aside0 (∀ j, (h : j < k) → (hj : j < fs.length) → cmpF fs[j] f < 0) ∧ Aside0 (On w1 wr)) (fun v5 _ => fs.length - (intOf v5).toNat)
    case atStart => exact ⟨0, rfl, Nat.zero_le _, ⟨fun j h => by omega⟩, ⟨On.refl _⟩⟩
    case round =>
      obtain ⟨k, rfl, hk, hall, hB⟩ := hrel
      have hBw := Aside0.mk (hW1.out.trans hB.out)
      have hLr := Aside0.mk (Loc.on hB.out hL1.out)
      have hd0 := blk_cell hLr.out.1
      have hd1 := blk_cell hLr.out.2.1
      by_cases hlt : k < fs.length
      · obtain ⟨ad, A3, c3, hA1, x0, x1, x2⟩ := (h1.on hBw.out).at k hlt
        have hA1' := Aside0.mk hA1
        rw [hA1] at hd0
        clear hA1
        have x2' := Aside0.mk x2
        clear x2
        by_cases hc : cmpF fs[k] f < 0
        · have hc' := Aside0.mk hc
          have hcb : decide (cmpF fs[k] f < 0) = true := decide_eq_true hc
          clear hc
          go_wp2
          refine Reg.region [(0,.L),(1,.L),(2,.L),(3,.L),(4,.L),(5,.L),(6,.L),(7,.L),(8,.L),(9,.L),(10,.L),(11,.L),(12,.C),(13,.L),(14,.L)] [] (by kernel_rfl) (by kernel_rfl) ?_
          repeat first | refine sP ?_ | refine sS ?_ | refine sA ?_ | refine sL ?_ | refine sQ ?_ | refine sO ?_
          refine callC (.int .i64 (cmpF fs[k] f)) Tryz.func70 (fun w' hS => ?_) ?_
          focus exact CompareFacts_calls w' _ _ _ _ fs[k] f (x2'.out.on hS) (h2.on (hBw.out.trans hS))
          repeat first | refine sP ?_ | refine sS ?_ | refine sA ?_ | refine sL ?_ | refine sQ ?_ | refine sO ?_
          refine Reg.nil fun w2 hS => ?_
          clear x0 x1 hd0 hd1
          go_wp2
          exact ⟨⟨k + 1, by go_num, by omega, ⟨fun j hj hjf => by
            by_cases e : j = k
            · subst e; exact hc'.out
            · exact hall.out j (by omega) hjf⟩, ⟨hB.out.trans hS⟩⟩, by simp [intOf]; omega⟩
        · have hcn := Aside0.mk (show ∀ h : k < fs.length, ¬ cmpF fs[k] f < 0 from fun _ => hc)
          have hcb : decide (cmpF fs[k] f < 0) = false := decide_eq_false hc
          clear hc
          go_wp2
          refine Reg.region [(0,.L),(1,.L),(2,.L),(3,.L),(4,.L),(5,.L),(6,.L),(7,.L),(8,.L),(9,.L),(10,.L),(11,.L),(12,.C),(13,.L),(14,.L)] [] (by kernel_rfl) (by kernel_rfl) ?_
          repeat first | refine sP ?_ | refine sS ?_ | refine sA ?_ | refine sL ?_ | refine sQ ?_ | refine sO ?_
          refine callC (.int .i64 (cmpF fs[k] f)) Tryz.func70 (fun w' hS => ?_) ?_
          focus exact CompareFacts_calls w' _ _ _ _ fs[k] f (x2'.out.on hS) (h2.on (hBw.out.trans hS))
          repeat first | refine sP ?_ | refine sS ?_ | refine sA ?_ | refine sL ?_ | refine sQ ?_ | refine sO ?_
          refine Reg.nil fun w2 hS2 => ?_
          clear x0 x1 hd0 hd1 hcb
          have hB2 := Aside0.mk (hBw.out.trans hS2)
          have hL2 := Aside0.mk (Loc.on hS2 hLr.out)
          have hd0 := blk_cell hL2.out.1
          have hd1 := blk_cell hL2.out.2.1
          have hRd := hRd0'.out
          have hRH := hRH0'.out.on hB2.out
          have hlen := Aside0.mk hRd.len
          have hRH' := Aside0.mk hRH
          have hRd' := Aside0.mk hRd
          have hcap := hRH.cap
          clear hRH hRd
          have hkl := Aside0.mk (show k ≤ hs.length by rw [hlen.out]; exact hk)
          go_wp2
          refine Reg.region [(0,.L),(3,.L),(4,.L),(5,.L),(6,.L),(1,.N),(2,.N)] [7,8] (by kernel_rfl) (by kernel_rfl) ?_
          iterate 4 (first | refine sL ?_ | refine sQ ?_)
          obtain ⟨xs, hxs⟩ : ∃ xs, hs.take k = xs := ⟨_, rfl⟩
          obtain ⟨ys, hys⟩ : ∃ ys, hs.drop k = ys := ⟨_, rfl⟩
          obtain ⟨Ad, hAd⟩ : ∃ Ad, (if c1 = k then A1 else (A1).map (·.add (k * 2))) = Ad := ⟨_, rfl⟩
          obtain ⟨cd, hcd⟩ : ∃ cd, c1 - k = cd := ⟨_, rfl⟩
          refine sFrom (k := k) (m := ys.length) hAd (by rw [← hys, List.length_drop, hlen.out]) hcd hk (by rw [← hlen.out]; exact hcap) ?_
          have hRx := Aside0.mk (hxs ▸ hRH'.out.take k hkl.out)
          have hRy := Aside0.mk (show RH w2 Ad cd ys from hAd ▸ hcd ▸ hys ▸ hRH'.out.drop k hkl.out)
          have hxl := Aside0.mk (show xs.length = k by rw [← hxs, List.length_take]; have := hkl.out; omega)
          have hyl := Aside0.mk (show ys.length ≤ 2000000 by rw [← hys, List.length_drop]; have := hl'.out.1; have := hlen.out; omega)
          have hxs' := Aside0.mk hxs
          have hys' := Aside0.mk hys
          clear hxs hys hAd hcd
          simp only [Act.put, List.setIfInBounds_toArray, List.set_cons_zero, List.set_cons_succ]
          refine callN Tryz.func145 (fun w3 hS3 => ?_)
          refine (l5Fact_calls w3 A2 c2 f (h2.on (hB2.out.trans hS3)) hl'.out.2).mono ?_
          rintro e w4 ⟨v4, rfl, vf, rfl, hOf, hb4⟩
          obtain ⟨A4, c4, rfl⟩ := own_slice hOf
          have hOf' := Aside0.mk hOf
          have hB4 := Aside0.mk (hS3.trans hb4)
          clear hOf hd0 hd1
          refine ⟨_, rfl, hb4, fun a' ha' => ?_⟩
          simp only [Act.put, List.setIfInBounds_toArray, List.set_cons_zero, List.set_cons_succ] at ha'
          subst ha'
          refine stepM (fun w5 hS5 => ?_)
          go_wp2
          refine ⟨hS5.trans (On.alloc (On.refl _) _), ?_⟩
          refine Reg.tail_ fun w6 hS6 => ?_
          have hB6 := Aside0.mk ((hS5.trans (On.alloc (On.refl _) (.cells #[.int .i64 f.1, .slice A4 f.2.length c4] 60))).trans hS6)
          obtain ⟨z7, hz7⟩ : ∃ z7, [((f.1, A4, f.2.length, c4) : Hdr)] ++ ys = z7 := ⟨_, rfl⟩
          refine apHf 36 hz7 (pw_own_below (lit_own w5 #[.int .i64 f.1, .slice A4 f.2.length c4] 60 2 1 w5.heap.size (Nat.le_refl _) (by omega) rfl) hS6) rfl (hRy.out.on (hB4.out.trans hB6.out)) (Nat.le_trans (by simp) hS6.size) (by have := hyl.out; omega) fun v7 w7 hO7 hb7 => ?_
          obtain ⟨A7, c7, rfl⟩ := own_slice hO7
          have hz7' := Aside0.mk hz7
          have hz7l := Aside0.mk (show z7.length ≤ 2000001 by rw [← hz7, List.length_append]; have := hyl.out; simp; omega)
          have hRz := Aside0.mk (OH.rh hO7).2
          have hB7 := Aside0.mk (hB6.out.trans hb7)
          have hB47 := Aside0.mk (hB4.out.trans hB7.out)
          have hL7 := Aside0.mk (Loc.on hB47.out hL2.out)
          have hd0 := blk_cell hL7.out.1
          clear hz7 hO7
          go_wp2
          refine Reg.regionF (fun w' => w'.heap[w.heap.size]? = some (.cells #[.slice A0 rs.length c0, .slice A1 fs.length c1] 25 (0, 0))) [0,1,3,4,5,6,8] [2,7,9,10,11] (by kernel_rfl) (by kernel_rfl) hL7.out.1 ?_
          iterate 5 refine Reg.sF ?_
          refine sToF (k := k) (A := A1) (n := fs.length) (c := c1) hk (by have := hcap; have := hlen.out; omega) ?_
          simp only [Act.put, List.setIfInBounds_toArray, List.set_cons_zero, List.set_cons_succ]
          repeat refine Reg.sF ?_
          refine Reg.startF ?_
          obtain ⟨w8, hw8⟩ : ∃ w8, ({ w7 with drawn := w7.drawn + 1 } : World) = w8 := ⟨_, rfl⟩
          have hS8 : On w7 w8 := by rw [← hw8]; exact on_draw w7
          rw [hw8]
          clear hw8
          refine Reg.tF ?_
          go_wp2
          refine ⟨blk_below hL7.out.1 (hS8.trans (On.alloc (On.refl _) _)), ?_⟩
          refine Reg.tF ?_
          have hB79 := Aside0.mk (hS8.trans (On.alloc (On.refl w8) (.cells #[] 60)))
          refine apHf 44 (List.nil_append xs) (lit_own w8 #[] 60 2 0 w8.heap.size (Nat.le_refl _) (by omega) rfl) rfl (hRx.out.on (hB47.out.trans hB79.out)) (by simp) (by have := hxl.out; have := hl'.out.1; omega) (fun v10 w10 hO10 hb10 => ?_) (hx := by rw [hxl.out]; rfl)
          have hB11 := Aside0.mk (hB79.out.trans hb10)
          refine ⟨blk_below hL7.out.1 hB11.out, ?_⟩
          obtain ⟨A10, c10, rfl⟩ := own_slice hO10
          simp only [Act.put, List.setIfInBounds_toArray, List.set_cons_zero, List.set_cons_succ]
          refine Reg.tF ?_
          have hO11 := Aside0.mk hO10
          obtain ⟨zs, hzs⟩ : ∃ zs, xs ++ z7 = zs := ⟨_, rfl⟩
          refine apH 46 hzs hO11.out (hRz.out.on hB11.out) (Nat.le_trans (by simp) hb10.size) (by have := hxl.out; have := hl'.out.1; have := hz7l.out; omega) fun v12 w12 hO12 hg12 => ?_
          obtain ⟨A12, c12, rfl⟩ := own_slice hO12
          have hw8 := hS8.size
          have hB12 := Aside0.mk (own_grows hB11.out hO11.out hg12 hw8)
          have hL12 := Aside0.mk (Loc.on hB12.out hL7.out)
          refine ⟨hL12.out.1, ?_⟩
          have hcr : ∀ i, w12.cell? ⟨w.heap.size + 1 + 1, i, none⟩ = _ := blk_cell hL12.out.2.2.1
          have hfr : ∀ i, w12.frozen? ⟨w.heap.size + 1 + 1, i, none⟩ = _ := blk_frozen hL12.out.2.2.1
          have hzs' := Aside0.mk hzs
          have hO12' := Aside0.mk hO12
          clear hzs hO12 hg12 hd0
          simp only [Act.put, List.setIfInBounds_toArray, List.set_cons_zero, List.set_cons_succ]
          refine Reg.tF ?_
          go_wp2
          refine ⟨hL12.out.1, ?_⟩
          refine Reg.tF ?_
          go_wp2
          refine ⟨blk_far (blk_far hL12.out.1 (by show ¬ _; simp; try omega) _) (by show ¬ _; simp; try omega) _, ?_⟩
          refine Reg.endF ?_
          go_wp2
          refine bodyPost_ret (retI rfl rfl (g := w.heap.size + 2) (blk_set (blk_set hL12.out.2.2.1 0 _) 1 _) rfl) rfl ?_
          have hBz := (hB2.out.trans hB47.out).trans hB12.out
          have hlt2 := hBw.out.size
          have hBe := Reg.On.set (p := ⟨w.heap.size + 1 + 1, 1, none⟩) (Reg.On.set (p := ⟨w.heap.size + 1 + 1, 0, none⟩) hBz (by simp; omega) (.slice A0 rs.length c0)) (by simp; omega) (.slice A12 zs.length c12)
          have hput := putF_at fs f k hk (fun j hj => hall.out j hj (by omega)) (fun h => Int.not_lt.2 (hcn.out h)) hf'.out
          have hpe : On w4 w12 := hB7.out.trans hB12.out
          have hw4 : w.heap.size + 3 ≤ w4.heap.size := by
            have h1 := blk_lt hL1.out.2.2.1
            have h2 := (hB.out.trans (hS2.trans hB4.out)).size
            omega
          have hE : Ex (fun b => b = w.heap.size + 1 + 1) w12 ((w12.setCell ⟨w.heap.size + 1 + 1, 0, none⟩ (.slice A0 rs.length c0)).setCell ⟨w.heap.size + 1 + 1, 1, none⟩ (.slice A12 zs.length c12)) := (Ex.set w12 ⟨w.heap.size + 1 + 1, 0, none⟩ _).trans (Ex.set _ ⟨w.heap.size + 1 + 1, 1, none⟩ _) (fun i _ h => h)
          have hOe := own_ex hO12'.out hE (fun i hi e => by have := own_base hO12'.out i hi; have := (hS8.size); have := hB47.out.size; have := hlt2; have := hS2.size; have := blk_lt hL1.out.2.2.1; have := hB.out.size; omega)
          have hIe := OI.of (OI.to (own_ex (pw_own_below (show OI w4 (w.heap.size + 3) (.slice A4 f.2.length c4) f.2 from own_lower hOf'.out (by have h1 := blk_lt hL1.out.2.2.1; have h2 := (hB.out.trans (hS2.trans hS3)).size; omega)) hpe) hE (fun i hi e => by have := own_base hOf'.out i hi; have h1 := blk_lt hL1.out.2.2.1; have h2 := (hB.out.trans (hS2.trans hS3)).size; omega)))
          have e1 : zs = hs.take k ++ ([((f.1, A4, f.2.length, c4) : Hdr)] ++ hs.drop k) := by rw [hxs'.out, hys'.out, hz7'.out, hzs'.out]
          have hlz : zs.length = (putF fs f).length := by
            rw [hput, e1]
            have := hlen.out
            simp [this]
          refine ⟨_, rfl, ⟨A0, c0, A12, c12, zs, by rw [← hlz]; rfl, fun w' kE => ?_⟩, hBe⟩
          obtain ⟨r0, r1, r2⟩ := hA.out w' ((Ex.of_on hBe).trans kE fun _ _ h => h)
          have hnew : ∀ i, w.heap.size ≤ i → ¬ S i := fun i hi hs => by have := hSb'.out i hs; omega
          obtain ⟨A4', c4', e4, hI5⟩ := OI.rd (own_ex hIe kE (fun i hi => hnew i (by have := own_base hIe i hi; omega))) h2.2.2
          injection e4 with e41 e42 e43
          subst e41 e43
          have hOw := own_ex hOe kE (fun i hi => hnew i (by have := own_base hOe i hi; have := hS8.size; have := hB47.out.size; have := hlt2; have := hS2.size; omega))
          refine ⟨r0, (OH.rh hOw).2, ?_⟩
          rw [hput, e1]
          exact (r2.take k).append (((Reads.nil _).snoc (a := (f.1, A4, f.2.length, c4)) (f := f) rfl rfl hI5).append (r2.drop k))
      · have hcn := Aside0.mk (show ∀ h : k < fs.length, ¬ cmpF fs[k] f < 0 from fun h => absurd h hlt)
        go_wp2
        refine Reg.region [(0,.L),(1,.L),(2,.L),(3,.L),(4,.L),(5,.L),(6,.L),(7,.L),(8,.L),(9,.L),(10,.L),(11,.L),(12,.C),(13,.L),(14,.L)] [] (by kernel_rfl) (by kernel_rfl) ?_
        repeat first | refine sP ?_ | refine sS ?_ | refine sA ?_ | refine sL ?_ | refine sQ ?_ | refine sO ?_
        refine Reg.nil fun w2 hS2 => ?_
        clear hd0 hd1
        have hB2 := Aside0.mk (hBw.out.trans hS2)
        have hL2 := Aside0.mk (Loc.on hS2 hLr.out)
        have hd0 := blk_cell hL2.out.1
        have hd1 := blk_cell hL2.out.2.1
        have hRd := hRd0'.out
        have hRH := hRH0'.out.on hB2.out
        have hlen := Aside0.mk hRd.len
        have hRH' := Aside0.mk hRH
        have hRd' := Aside0.mk hRd
        have hcap := hRH.cap
        clear hRH hRd
        have hkl := Aside0.mk (show k ≤ hs.length by rw [hlen.out]; exact hk)
        go_wp2
        refine Reg.region [(0,.L),(3,.L),(4,.L),(5,.L),(6,.L),(1,.N),(2,.N)] [7,8] (by kernel_rfl) (by kernel_rfl) ?_
        iterate 4 (first | refine sL ?_ | refine sQ ?_)
        obtain ⟨xs, hxs⟩ : ∃ xs, hs.take k = xs := ⟨_, rfl⟩
        obtain ⟨ys, hys⟩ : ∃ ys, hs.drop k = ys := ⟨_, rfl⟩
        obtain ⟨Ad, hAd⟩ : ∃ Ad, (if c1 = k then A1 else (A1).map (·.add (k * 2))) = Ad := ⟨_, rfl⟩
        obtain ⟨cd, hcd⟩ : ∃ cd, c1 - k = cd := ⟨_, rfl⟩
        refine sFrom (k := k) (m := ys.length) hAd (by rw [← hys, List.length_drop, hlen.out]) hcd hk (by rw [← hlen.out]; exact hcap) ?_
        have hRx := Aside0.mk (hxs ▸ hRH'.out.take k hkl.out)
        have hRy := Aside0.mk (show RH w2 Ad cd ys from hAd ▸ hcd ▸ hys ▸ hRH'.out.drop k hkl.out)
        have hxl := Aside0.mk (show xs.length = k by rw [← hxs, List.length_take]; have := hkl.out; omega)
        have hyl := Aside0.mk (show ys.length ≤ 2000000 by rw [← hys, List.length_drop]; have := hl'.out.1; have := hlen.out; omega)
        have hxs' := Aside0.mk hxs
        have hys' := Aside0.mk hys
        clear hxs hys hAd hcd
        simp only [Act.put, List.setIfInBounds_toArray, List.set_cons_zero, List.set_cons_succ]
        refine callN Tryz.func145 (fun w3 hS3 => ?_)
        refine (l5Fact_calls w3 A2 c2 f (h2.on (hB2.out.trans hS3)) hl'.out.2).mono ?_
        rintro e w4 ⟨v4, rfl, vf, rfl, hOf, hb4⟩
        obtain ⟨A4, c4, rfl⟩ := own_slice hOf
        have hOf' := Aside0.mk hOf
        have hB4 := Aside0.mk (hS3.trans hb4)
        clear hOf hd0 hd1
        refine ⟨_, rfl, hb4, fun a' ha' => ?_⟩
        simp only [Act.put, List.setIfInBounds_toArray, List.set_cons_zero, List.set_cons_succ] at ha'
        subst ha'
        refine stepM (fun w5 hS5 => ?_)
        go_wp2
        refine ⟨hS5.trans (On.alloc (On.refl _) _), ?_⟩
        refine Reg.tail_ fun w6 hS6 => ?_
        have hB6 := Aside0.mk ((hS5.trans (On.alloc (On.refl _) (.cells #[.int .i64 f.1, .slice A4 f.2.length c4] 60))).trans hS6)
        obtain ⟨z7, hz7⟩ : ∃ z7, [((f.1, A4, f.2.length, c4) : Hdr)] ++ ys = z7 := ⟨_, rfl⟩
        refine apHf 36 hz7 (pw_own_below (lit_own w5 #[.int .i64 f.1, .slice A4 f.2.length c4] 60 2 1 w5.heap.size (Nat.le_refl _) (by omega) rfl) hS6) rfl (hRy.out.on (hB4.out.trans hB6.out)) (Nat.le_trans (by simp) hS6.size) (by have := hyl.out; omega) fun v7 w7 hO7 hb7 => ?_
        obtain ⟨A7, c7, rfl⟩ := own_slice hO7
        have hz7' := Aside0.mk hz7
        have hz7l := Aside0.mk (show z7.length ≤ 2000001 by rw [← hz7, List.length_append]; have := hyl.out; simp; omega)
        have hRz := Aside0.mk (OH.rh hO7).2
        have hB7 := Aside0.mk (hB6.out.trans hb7)
        have hB47 := Aside0.mk (hB4.out.trans hB7.out)
        have hL7 := Aside0.mk (Loc.on hB47.out hL2.out)
        have hd0 := blk_cell hL7.out.1
        clear hz7 hO7
        go_wp2
        refine Reg.regionF (fun w' => w'.heap[w.heap.size]? = some (.cells #[.slice A0 rs.length c0, .slice A1 fs.length c1] 25 (0, 0))) [0,1,3,4,5,6,8] [2,7,9,10,11] (by kernel_rfl) (by kernel_rfl) hL7.out.1 ?_
        iterate 5 refine Reg.sF ?_
        refine sToF (k := k) (A := A1) (n := fs.length) (c := c1) hk (by have := hcap; have := hlen.out; omega) ?_
        simp only [Act.put, List.setIfInBounds_toArray, List.set_cons_zero, List.set_cons_succ]
        repeat refine Reg.sF ?_
        refine Reg.startF ?_
        obtain ⟨w8, hw8⟩ : ∃ w8, ({ w7 with drawn := w7.drawn + 1 } : World) = w8 := ⟨_, rfl⟩
        have hS8 : On w7 w8 := by rw [← hw8]; exact on_draw w7
        rw [hw8]
        clear hw8
        refine Reg.tF ?_
        go_wp2
        refine ⟨blk_below hL7.out.1 (hS8.trans (On.alloc (On.refl _) _)), ?_⟩
        refine Reg.tF ?_
        have hB79 := Aside0.mk (hS8.trans (On.alloc (On.refl w8) (.cells #[] 60)))
        refine apHf 44 (List.nil_append xs) (lit_own w8 #[] 60 2 0 w8.heap.size (Nat.le_refl _) (by omega) rfl) rfl (hRx.out.on (hB47.out.trans hB79.out)) (by simp) (by have := hxl.out; have := hl'.out.1; omega) (fun v10 w10 hO10 hb10 => ?_) (hx := by rw [hxl.out]; rfl)
        have hB11 := Aside0.mk (hB79.out.trans hb10)
        refine ⟨blk_below hL7.out.1 hB11.out, ?_⟩
        obtain ⟨A10, c10, rfl⟩ := own_slice hO10
        simp only [Act.put, List.setIfInBounds_toArray, List.set_cons_zero, List.set_cons_succ]
        refine Reg.tF ?_
        have hO11 := Aside0.mk hO10
        obtain ⟨zs, hzs⟩ : ∃ zs, xs ++ z7 = zs := ⟨_, rfl⟩
        refine apH 46 hzs hO11.out (hRz.out.on hB11.out) (Nat.le_trans (by simp) hb10.size) (by have := hxl.out; have := hl'.out.1; have := hz7l.out; omega) fun v12 w12 hO12 hg12 => ?_
        obtain ⟨A12, c12, rfl⟩ := own_slice hO12
        have hw8 := hS8.size
        have hB12 := Aside0.mk (own_grows hB11.out hO11.out hg12 hw8)
        have hL12 := Aside0.mk (Loc.on hB12.out hL7.out)
        refine ⟨hL12.out.1, ?_⟩
        have hcr : ∀ i, w12.cell? ⟨w.heap.size + 1 + 1, i, none⟩ = _ := blk_cell hL12.out.2.2.1
        have hfr : ∀ i, w12.frozen? ⟨w.heap.size + 1 + 1, i, none⟩ = _ := blk_frozen hL12.out.2.2.1
        have hzs' := Aside0.mk hzs
        have hO12' := Aside0.mk hO12
        clear hzs hO12 hg12 hd0
        simp only [Act.put, List.setIfInBounds_toArray, List.set_cons_zero, List.set_cons_succ]
        refine Reg.tF ?_
        go_wp2
        refine ⟨hL12.out.1, ?_⟩
        refine Reg.tF ?_
        go_wp2
        refine ⟨blk_far (blk_far hL12.out.1 (by show ¬ _; simp; try omega) _) (by show ¬ _; simp; try omega) _, ?_⟩
        refine Reg.endF ?_
        go_wp2
        refine bodyPost_ret (retI rfl rfl (g := w.heap.size + 2) (blk_set (blk_set hL12.out.2.2.1 0 _) 1 _) rfl) rfl ?_
        have hBz := (hB2.out.trans hB47.out).trans hB12.out
        have hlt2 := hBw.out.size
        have hBe := Reg.On.set (p := ⟨w.heap.size + 1 + 1, 1, none⟩) (Reg.On.set (p := ⟨w.heap.size + 1 + 1, 0, none⟩) hBz (by simp; omega) (.slice A0 rs.length c0)) (by simp; omega) (.slice A12 zs.length c12)
        have hput := putF_at fs f k hk (fun j hj => hall.out j hj (by omega)) (fun h => Int.not_lt.2 (hcn.out h)) hf'.out
        have hpe : On w4 w12 := hB7.out.trans hB12.out
        have hw4 : w.heap.size + 3 ≤ w4.heap.size := by
          have h1 := blk_lt hL1.out.2.2.1
          have h2 := (hB.out.trans (hS2.trans hB4.out)).size
          omega
        have hE : Ex (fun b => b = w.heap.size + 1 + 1) w12 ((w12.setCell ⟨w.heap.size + 1 + 1, 0, none⟩ (.slice A0 rs.length c0)).setCell ⟨w.heap.size + 1 + 1, 1, none⟩ (.slice A12 zs.length c12)) := (Ex.set w12 ⟨w.heap.size + 1 + 1, 0, none⟩ _).trans (Ex.set _ ⟨w.heap.size + 1 + 1, 1, none⟩ _) (fun i _ h => h)
        have hOe := own_ex hO12'.out hE (fun i hi e => by have := own_base hO12'.out i hi; have := (hS8.size); have := hB47.out.size; have := hlt2; have := hS2.size; have := blk_lt hL1.out.2.2.1; have := hB.out.size; omega)
        have hIe := OI.of (OI.to (own_ex (pw_own_below (show OI w4 (w.heap.size + 3) (.slice A4 f.2.length c4) f.2 from own_lower hOf'.out (by have h1 := blk_lt hL1.out.2.2.1; have h2 := (hB.out.trans (hS2.trans hS3)).size; omega)) hpe) hE (fun i hi e => by have := own_base hOf'.out i hi; have h1 := blk_lt hL1.out.2.2.1; have h2 := (hB.out.trans (hS2.trans hS3)).size; omega)))
        have e1 : zs = hs.take k ++ ([((f.1, A4, f.2.length, c4) : Hdr)] ++ hs.drop k) := by rw [hxs'.out, hys'.out, hz7'.out, hzs'.out]
        have hlz : zs.length = (putF fs f).length := by
          rw [hput, e1]
          have := hlen.out
          simp [this]
        refine ⟨_, rfl, ⟨A0, c0, A12, c12, zs, by rw [← hlz]; rfl, fun w' kE => ?_⟩, hBe⟩
        obtain ⟨r0, r1, r2⟩ := hA.out w' ((Ex.of_on hBe).trans kE fun _ _ h => h)
        have hnew : ∀ i, w.heap.size ≤ i → ¬ S i := fun i hi hs => by have := hSb'.out i hs; omega
        obtain ⟨A4', c4', e4, hI5⟩ := OI.rd (own_ex hIe kE (fun i hi => hnew i (by have := own_base hIe i hi; omega))) h2.2.2
        injection e4 with e41 e42 e43
        subst e41 e43
        have hOw := own_ex hOe kE (fun i hi => hnew i (by have := own_base hOe i hi; have := hS8.size; have := hB47.out.size; have := hlt2; have := hS2.size; omega))
        refine ⟨r0, (OH.rh hOw).2, ?_⟩
        rw [hput, e1]
        exact (r2.take k).append (((Reads.nil _).snoc (a := (f.1, A4, f.2.length, c4)) (f := f) rfl rfl hI5).append (r2.drop k))
end Go.Proofs.YtgemaohdlibboaaGreatDoor.H
/- Substitutions, applied; homomorphisms. Plain. No condition. -/
namespace Go.Proofs.YtgemaohdlibboaaGreatDoor.H
open Go Go.RowKit Go.Proofs.YtgemaohdlibboaaGreatDoorW.PrintWords Go.Proofs.YtgemaohdlibboaaGreatDoorW.PrintLast
set_option linter.unusedVariables false
set_option linter.unusedSimpArgs false

/-- Substitutions: nulls in order, values. -/
def subFrom : Option Int → List Int → List Int → Bool
  | _, [], _ => true
  | p, k :: ns, vs => within k 0 39 && (match p with | none => true | some q => decide (q < k)) && okVal (vs.headD 0) && subFrom (some k) ns vs.tail
def okSub (ns vs : List Int) : Bool := decide (ns.length = vs.length) && subFrom none ns vs
def prevI (l : List Int) (k : Nat) : Option Int := if k = 0 then none else l[k - 1]?
def okPrevI (p : Option Int) (k : Int) : Bool := match p with | none => true | some q => decide (q < k)
theorem subFrom_step (ns vs : List Int) (k : Nat) (h : k < ns.length) (h2 : k < vs.length) : subFrom (prevI ns k) (ns.drop k) (vs.drop k) = (within ns[k] 0 39 && okPrevI (prevI ns k) ns[k] && okVal vs[k] && subFrom (prevI ns (k + 1)) (ns.drop (k + 1)) (vs.drop (k + 1))) := by
  rw [List.drop_eq_getElem_cons h, List.drop_eq_getElem_cons h2, show prevI ns (k + 1) = some ns[k] by simp [prevI, h]]
  rfl
theorem subFrom_mem {p : Option Int} {ns vs : List Int} (h : subFrom p ns vs = true) (hl : ns.length = vs.length) : (∀ k ∈ ns, 0 ≤ k ∧ k ≤ 39) ∧ (∀ v ∈ vs, -40 ≤ v ∧ v ≤ 9) ∧ ns.Pairwise (· < ·) ∧ ∀ q, p = some q → ∀ k ∈ ns, q < k := by
  induction ns generalizing p vs with
  | nil =>
    cases vs with
    | nil => simp
    | cons v vs => simp at hl
  | cons k ns ih =>
    cases vs with
    | nil => simp at hl
    | cons v vs =>
      simp only [subFrom, Bool.and_eq_true, List.headD_cons, List.tail_cons] at h
      obtain ⟨⟨⟨h1, h2⟩, h3⟩, h4⟩ := h
      obtain ⟨i1, i2, i3, i4⟩ := ih h4 (by simpa using hl)
      simp only [within, okVal, decide_eq_true_eq] at h1 h3
      refine ⟨fun x hx => ?_, fun x hx => ?_, ?_, fun q hq x hx => ?_⟩
      · rcases List.mem_cons.1 hx with rfl | hx
        · exact h1
        · exact i1 x hx
      · rcases List.mem_cons.1 hx with rfl | hx
        · exact h3
        · exact i2 x hx
      · rw [List.pairwise_cons]; exact ⟨i4 k rfl, i3⟩
      · subst hq
        have hqk : q < k := by simpa using h2
        rcases List.mem_cons.1 hx with rfl | hx
        · exact hqk
        · have := i4 k rfl x hx; omega
theorem okSub_spec {ns vs : List Int} (h : okSub ns vs = true) : ns.length = vs.length ∧ (∀ k ∈ ns, 0 ≤ k ∧ k ≤ 39) ∧ (∀ v ∈ vs, -40 ≤ v ∧ v ≤ 9) ∧ ns.Pairwise (· < ·) := by
  simp only [okSub, Bool.and_eq_true, decide_eq_true_eq] at h
  obtain ⟨a, b, c, _⟩ := subFrom_mem h.2 h.1
  exact ⟨h.1, a, b, c⟩
def findV : List Int → List Int → Int → Option Int
  | n :: ns, v :: vs, x => if -1 - n = x then some v else findV ns vs x
  | _, _, _ => none
def appV (ns vs : List Int) (x : Int) : Int := if okSub ns vs then (findV ns vs x).getD x else x
theorem findV_step (ns vs : List Int) (x : Int) (k : Nat) (h : k < ns.length) (h2 : k < vs.length) : findV (ns.drop k) (vs.drop k) x = if -1 - ns[k] = x then some vs[k] else findV (ns.drop (k + 1)) (vs.drop (k + 1)) x := by
  rw [List.drop_eq_getElem_cons h, List.drop_eq_getElem_cons h2]; rfl
theorem findV_nil (ns vs : List Int) (x : Int) (k : Nat) (h : ns.length ≤ k) : findV (ns.drop k) (vs.drop k) x = none := by
  rw [List.drop_of_length_le h]; rfl
theorem findV_mem : ∀ (ns vs : List Int) (x y : Int), findV ns vs x = some y → y ∈ vs
  | [], _, _, _, h => by simp [findV] at h
  | _ :: _, [], _, _, h => by simp [findV] at h
  | n :: ns, v :: vs, x, y, h => by
    unfold findV at h
    split at h
    · injection h with h; exact h ▸ List.mem_cons_self
    · exact List.mem_cons_of_mem _ (findV_mem ns vs x y h)
theorem appV_bd {ns vs : List Int} {x : Int} (h : -9223372036854775808 ≤ x ∧ x ≤ 9223372036854775807) : -9223372036854775808 ≤ appV ns vs x ∧ appV ns vs x ≤ 9223372036854775807 := by
  unfold appV
  split
  · rename_i h1
    cases h2 : findV ns vs x with
    | none => exact h
    | some y =>
      have := (okSub_spec h1).2.2.1 y (findV_mem _ _ _ _ h2)
      simp only [Option.getD_some]; omega
  · exact h
theorem appV_ok {ns vs : List Int} {x : Int} (h : okVal x = true) : okVal (appV ns vs x) = true := by
  unfold appV
  split
  · rename_i h1
    cases h2 : findV ns vs x with
    | none => exact h
    | some y =>
      have := (okSub_spec h1).2.2.1 y (findV_mem _ _ _ _ h2)
      simp only [Option.getD_some, okVal, decide_eq_true_eq]; exact this
  · exact h
/-- The program looks the null's number up. -/
theorem idx_findV : ∀ (ns vs : List Int) (x : Int) (i : Nat), ns.length = vs.length → (∀ k ∈ ns, 0 ≤ k ∧ k ≤ 39) → isNul x = true →
    (idxFrom (fun n => n == nulNum x) ns i = -1 ∧ findV ns vs x = none) ∨ ∃ k, ∃ h : k < vs.length, idxFrom (fun n => n == nulNum x) ns i = ((i + k : Nat) : Int) ∧ findV ns vs x = some vs[k]
  | [], [], _, _, _, _, _ => .inl ⟨rfl, rfl⟩
  | [], _ :: _, _, _, h, _, _ => by simp at h
  | _ :: _, [], _, _, h, _, _ => by simp at h
  | n :: ns, v :: vs, x, i, hl, hb, hx => by
    have hn := hb n List.mem_cons_self
    have e : (n == nulNum x) = decide (-1 - n = x) := by
      have hx' := hx
      simp only [isNul, decide_eq_true_eq] at hx'
      unfold nulNum; rw [if_pos hx]
      by_cases c : n = -1 - x
      · have : -1 - n = x := by omega
        simp [c]; omega
      · have : ¬ -1 - n = x := by omega
        simp [this, c]
    unfold idxFrom findV
    by_cases c : -1 - n = x
    · rw [if_pos c]
      refine .inr ⟨0, by simp, ?_, by simp⟩
      rw [if_pos (by rw [e]; exact decide_eq_true c)]; simp
    · rw [if_neg c, if_neg (by rw [e]; simpa using c)]
      rcases idx_findV ns vs x (i + 1) (by simpa using hl) (fun k hk => hb k (List.mem_cons_of_mem _ hk)) hx with h | ⟨k, hk, h1, h2⟩
      · exact .inl h
      · refine .inr ⟨k + 1, by simp; omega, ?_, by simpa using h2⟩
        rw [h1]; congr 1; omega
theorem findV_not {ns vs : List Int} {x : Int} (hb : ∀ k ∈ ns, 0 ≤ k ∧ k ≤ 39) (hx : isNul x = false) : findV ns vs x = none := by
  induction ns generalizing vs with
  | nil => rfl
  | cons n ns ih =>
    cases vs with
    | nil => rfl
    | cons v vs =>
      have hn := hb n List.mem_cons_self
      have : ¬ -1 - n = x := by
        intro c
        simp only [isNul, decide_eq_false_iff_not] at hx
        omega
      unfold findV
      rw [if_neg this]
      exact ih fun k hk => hb k (List.mem_cons_of_mem _ hk)
def appF (ns vs : List Int) (f : Fct) : Fct := (f.1, f.2.map (appV ns vs))
/-- A homomorphism of instances. -/
def isHom (r1 : List Rel) (f1 : List Fct) (r2 : List Rel) (f2 : List Fct) (ns vs : List Int) : Bool :=
  okInst r1 f1 && (okInst r2 f2 && (okSub ns vs && (decide (r1 = r2) && (decide (ns = nulsI f1) && f1.all fun f => hasF f2 (appF ns vs f)))))
end Go.Proofs.YtgemaohdlibboaaGreatDoor.H
