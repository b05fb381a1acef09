/- Walks and plain laws for the law FnExactApplyToInstance, part 3 of 6: the texts HO2, HD2, HB7, HB8, HC5, HO3, HC6, HD5 in one. No condition. -/
import Derived.Maps.AppendAt
import Derived.Lib.SliceRun
import Derived.Test.YtngjhblbpapjeaaGreatZFnExactApplyToInstance2
/- Cells of own rows: appended to, cut, cleared; rows of headers that are read. No condition. -/
namespace Go.Proofs.YtngjhblbpapjeaaGreat.H
open Go Go.RowKit Go.Proofs.YtngjhblbpapjeaaGreatW.PrintWords Go.Proofs.YtngjhblbpapjeaaGreatW.PrintLast
open Go.Proofs.YtngjhblbpapjeaaGreat.Reg (On on_draw)
set_option maxHeartbeats 1000000
set_option maxRecDepth 100000
set_option linter.unusedVariables false
set_option linter.unusedSimpArgs false

theorem flat_get {α : Type} {enc : α → List Value} {sz : Nat} (hl : ∀ x, (enc x).length = sz) : ∀ (xs : List α) (i r : Nat) (hi : i < xs.length), r < sz → (xs.flatMap enc)[i * sz + r]? = (enc xs[i])[r]?
  | [], _, _, hi, _ => absurd hi (Nat.not_lt_zero _)
  | x :: xs, 0, r, _, hr => by
    rw [List.flatMap_cons, Nat.zero_mul, Nat.zero_add, List.getElem?_append_left (by rw [hl]; exact hr)]; rfl
  | x :: xs, i + 1, r, hi, hr => by
    rw [List.flatMap_cons, List.getElem?_append_right (by rw [hl, Nat.add_mul]; omega), hl, show (i + 1) * sz + r - sz = i * sz + r by rw [Nat.add_mul]; omega]
    exact flat_get hl xs i r (by simpa using hi) hr
theorem flat_div {α : Type} {enc : α → List Value} {sz : Nat} (hs : 0 < sz) (hl : ∀ x, (enc x).length = sz) (xs : List α) (j : Nat) (u : Value) (h : (xs.flatMap enc)[j]? = some u) : ∃ i r, ∃ hi : i < xs.length, r < sz ∧ j = i * sz + r ∧ (enc xs[i])[r]? = some u := by
  have hj : j < xs.length * sz := by
    have := (List.getElem?_eq_some_iff.1 h).1
    rwa [flat_len hl] at this
  have hi : j / sz < xs.length := (Nat.div_lt_iff_lt_mul hs).2 hj
  have e : j = j / sz * sz + j % sz := by rw [Nat.mul_comm]; exact (Nat.div_add_mod j sz).symm
  refine ⟨j / sz, j % sz, hi, Nat.mod_lt _ hs, e, ?_⟩
  rw [← flat_get hl xs _ _ hi (Nat.mod_lt _ hs), ← e]
  exact h
/-- A row of headers that is read. -/
structure RH (w : World) (A : Option Addr) (c : Nat) (hs : List Hdr) : Prop where
  cap : hs.length ≤ c
  max : hs.length ≤ 9223372036854775807
  cell : ∀ j u, (hs.flatMap encH)[j]? = some u → ∃ ad, A = some ad ∧ w.cell? (ad.add j) = some u
theorem RH.on {W w : World} {A : Option Addr} {c : Nat} {hs : List Hdr} (h : RH W A c hs) (hb : On W w) : RH w A c hs := ⟨h.cap, h.max, fun j u hu => by
  obtain ⟨ad, e, hc⟩ := h.cell j u hu
  exact ⟨ad, e, (hb.eq _ (by rw [hc]; rfl)).trans hc⟩⟩
theorem own_capmax {w : World} {lo e sz n : Nat} {A : Option Addr} {c : Nat} {cs : List Value} (h : w.ownsRow lo e sz (.slice A n c) n cs) : n ≤ c ∧ n ≤ 9223372036854775807 := by
  rcases h.2 with ⟨h1, h2⟩ | ⟨g, cap, cur, h1, _, _, h3, h4, _⟩
  · exact ⟨by omega, by omega⟩
  · injection h1 with h1 h5 h6
    have : maxLen = 9223372036854775807 := rfl
    exact ⟨by omega, by omega⟩
theorem OH.slice {w : World} {lo : Nat} {v : Value} {hs : List Hdr} (h : OH w lo v hs) : ∃ A c, v = .slice A hs.length c ∧ RH w A c hs := by
  obtain ⟨A, c, rfl⟩ := own_slice h
  obtain ⟨h1, h2⟩ := own_capmax h
  refine ⟨A, c, rfl, h1, h2, fun j u hu => ?_⟩
  rcases h.2 with ⟨h1, h3⟩ | ⟨g, cap, cur, h1, _⟩
  · obtain rfl : hs = [] := List.eq_nil_of_length_eq_zero h3
    simp at hu
  · injection h1 with h1 h5 h6
    subst h1
    exact ⟨_, rfl, h.cells rfl j u hu⟩
theorem OH.rh {w : World} {lo c : Nat} {A : Option Addr} {n : Nat} {hs : List Hdr} (h : OH w lo (.slice A n c) hs) : n = hs.length ∧ RH w A c hs := by
  obtain ⟨A', c', e, h'⟩ := OH.slice h
  injection e with e1 e2 e3
  subst e1 e3
  exact ⟨e2, h'⟩
theorem blk_grown {W w1 : World} {row : Option Nat} {g : Nat} {o : Obj} (hg : W.grownBy w1 row) (h : W.heap[g]? = some o) (hne : some g ≠ row) : w1.heap[g]? = some o := (hg.block g (blk_lt h) hne).trans h
theorem OR.slice {w : World} {lo : Nat} {v : Value} {hs : List Rel} (h : OR w lo v hs) : ∃ A c, v = .slice A hs.length c := own_slice h
theorem RH.fcts {w : World} {A : Option Addr} {c : Nat} {hs : List Hdr} {fs : List Fct} (h : RH w A c hs) (hr : Reads w hs fs) : Fcts w A c fs := by
  have hlen := hr.len
  refine ⟨by rw [← hlen]; exact h.cap, ⟨rfl, by rw [← hlen]; exact h.max, fun h0 => ?_⟩, hr.inF⟩
  obtain ⟨ad, rfl, _⟩ := h.cell 0 (.int .i64 (hs[0]'(by omega)).1) (by
    have := flat_get (enc := encH) (sz := 2) (fun _ => rfl) hs 0 0 (by omega) (by omega)
    rw [Nat.zero_mul] at this
    rw [this]; rfl)
  refine ⟨ad, rfl, fun j f hj => ?_⟩
  have hj' : j < hs.length := by rw [hlen]; exact (List.getElem?_eq_some_iff.1 hj).1
  obtain ⟨e1, e2, e3⟩ := hr.at_ j hs[j] f (List.getElem?_eq_getElem hj') hj
  refine ⟨encH hs[j], rfl, ⟨[.int .i64 hs[j].1], [hdV hs[j]], rfl, by rw [e1]; rfl, hs[j].2.1, hs[j].2.2.2, by rw [← e2], e3.1, e3.2.1⟩, fun i u hu => ?_⟩
  have hi : i < 2 := (List.getElem?_eq_some_iff.1 hu).1
  obtain ⟨ad', e, hc⟩ := h.cell (j * 2 + i) u (by rw [flat_get (enc := encH) (sz := 2) (fun _ => rfl) hs j i hj' hi]; exact hu)
  injection e with e
  subst e
  exact hc
theorem Fcts.hdrs {w : World} {A : Option Addr} {c : Nat} {fs : List Fct} (h : Fcts w A c fs) : ∃ hs, RH w A c hs ∧ Reads w hs fs := by
  have key : ∀ k, k ≤ fs.length → ∃ hs : List Hdr, hs.length = k ∧ ∀ (i : Nat) (hi : i < k) (hl : i < hs.length) (hf : i < fs.length), hs[i].1 = fs[i].1 ∧ hs[i].2.2.1 = fs[i].2.length ∧ Ints w hs[i].2.1 hs[i].2.2.2 fs[i].2 ∧ ∃ ad, A = some ad ∧ w.cell? (ad.add (i * 2)) = some (.int .i64 hs[i].1) ∧ w.cell? (ad.add (i * 2 + 1)) = some (hdV hs[i]) := by
    intro k
    induction k with
    | zero => intro _; exact ⟨[], rfl, fun i hi => by omega⟩
    | succ k ih =>
      intro hk
      obtain ⟨hs, hl, hh⟩ := ih (by omega)
      obtain ⟨ad, A1, c1, rfl, h1, h2, h3⟩ := h.at k (by omega)
      refine ⟨hs ++ [(fs[k].1, A1, fs[k].2.length, c1)], by simp [hl], fun i hi hl' hf => ?_⟩
      rcases Nat.lt_or_ge i k with h4 | h4
      · have := hh i h4 (by omega) hf
        rw [List.getElem_append_left (by omega)]
        exact this
      · obtain rfl : i = k := by omega
        have e0 : (hs ++ [(fs[i].1, A1, fs[i].2.length, c1)])[i]'hl' = (fs[i].1, A1, fs[i].2.length, c1) := by rw [List.getElem_append_right (by omega)]; simp [hl]
        rw [e0]
        exact ⟨rfl, rfl, h3, ad, rfl, h1, by rw [add_field _ _ 1 (by omega)]; exact h2⟩
  obtain ⟨hs, hl, hh⟩ := key fs.length (Nat.le_refl _)
  refine ⟨hs, ⟨by rw [hl]; exact h.1, by rw [hl]; exact h.max, fun j u hu => ?_⟩, ⟨hl, fun i a f ha hf => ?_⟩⟩
  · obtain ⟨i, r, hi, hr, rfl, hv⟩ := flat_div (enc := encH) (sz := 2) (by omega) (fun _ => rfl) hs j u hu
    obtain ⟨_, _, _, ad, e, c0, c1⟩ := hh i (by omega) hi (by omega)
    refine ⟨ad, e, ?_⟩
    match r, hr, hv with
    | 0, _, hv => obtain rfl : Value.int .i64 hs[i].1 = u := Option.some.inj hv; exact c0
    | 1, _, hv => obtain rfl : hdV hs[i] = u := Option.some.inj hv; exact c1
  · obtain ⟨hi, rfl⟩ := List.getElem?_eq_some_iff.1 ha
    obtain ⟨hj, rfl⟩ := List.getElem?_eq_some_iff.1 hf
    obtain ⟨e1, e2, e3, _⟩ := hh i (by omega) hi hj
    exact ⟨e1, e2, e3⟩
theorem Reads.take {w : World} {hs : List Hdr} {fs : List Fct} (h : Reads w hs fs) (k : Nat) : Reads w (hs.take k) (fs.take k) := ⟨by rw [List.length_take, List.length_take, h.len], fun i a f ha hf => by
  rw [List.getElem?_take] at ha hf
  split at ha
  · rename_i hk; rw [if_pos hk] at hf; exact h.at_ i a f ha hf
  · cases ha⟩
theorem Reads.drop {w : World} {hs : List Hdr} {fs : List Fct} (h : Reads w hs fs) (k : Nat) : Reads w (hs.drop k) (fs.drop k) := ⟨by rw [List.length_drop, List.length_drop, h.len], fun i a f ha hf => by
  rw [List.getElem?_drop] at ha hf
  exact h.at_ _ a f ha hf⟩
theorem Reads.append {w : World} {hs hs' : List Hdr} {fs fs' : List Fct} (h : Reads w hs fs) (h' : Reads w hs' fs') : Reads w (hs ++ hs') (fs ++ fs') := ⟨by rw [List.length_append, List.length_append, h.len, h'.len], fun i a f ha hf => by
  have hl := h.len
  rcases Nat.lt_or_ge i hs.length with hi | hi
  · rw [List.getElem?_append_left hi] at ha
    rw [List.getElem?_append_left (by omega)] at hf
    exact h.at_ i a f ha hf
  · rw [List.getElem?_append_right hi] at ha
    rw [List.getElem?_append_right (by omega), ← hl] at hf
    exact h'.at_ _ a f ha hf⟩
/-- Some of the facts whose rows lie apart. -/
theorem Sep.sub {w : World} {lo : Nat} {hs : List Hdr} {fs : List Fct} (h : Sep w lo hs fs) {qs : List (Hdr × Fct)} (hq : qs.Sublist (hs.zip fs)) : Sep w lo (qs.map Prod.fst) (qs.map Prod.snd) := by
  have hl := h.len
  have hmem : ∀ p ∈ qs, ∃ i, hs[i]? = some p.1 ∧ fs[i]? = some p.2 := fun p hp => by
    obtain ⟨i, hi, e⟩ := List.getElem_of_mem (hq.subset hp)
    rw [List.getElem_zip] at e
    have hi' : i < hs.length := by rw [List.length_zip] at hi; omega
    exact ⟨i, by rw [List.getElem?_eq_getElem hi', ← e], by rw [List.getElem?_eq_getElem (by omega), ← e]⟩
  have hpw : (hs.zip fs).Pairwise fun p q => ∀ k, (hdV p.1).ownBlock = some k → (hdV q.1).ownBlock ≠ some k := by
    rw [List.pairwise_iff_getElem]
    intro i j hi hj hij k h1 h2
    rw [List.getElem_zip] at h1 h2
    have hi' : i < hs.length := by rw [List.length_zip] at hi; omega
    have hj' : j < hs.length := by rw [List.length_zip] at hj; omega
    have := h.apart i j _ _ k (List.getElem?_eq_getElem hi') (List.getElem?_eq_getElem hj') h1 h2
    omega
  have hpq := hpw.sublist hq
  refine ⟨by simp, fun i a f ha hf => ?_, fun i j a b k ha hb h1 h2 => ?_⟩
  · rw [List.getElem?_map] at ha hf
    obtain ⟨p, hp, rfl⟩ := Option.map_eq_some_iff.1 ha
    rw [hp] at hf
    obtain rfl : p.2 = f := Option.some.inj hf
    obtain ⟨m, e1, e2⟩ := hmem p (List.mem_of_getElem? hp)
    exact h.at_ m _ _ e1 e2
  · rw [List.getElem?_map] at ha hb
    obtain ⟨p, hp, rfl⟩ := Option.map_eq_some_iff.1 ha
    obtain ⟨q, hq', rfl⟩ := Option.map_eq_some_iff.1 hb
    obtain ⟨hi, rfl⟩ := List.getElem?_eq_some_iff.1 hp
    obtain ⟨hj, rfl⟩ := List.getElem?_eq_some_iff.1 hq'
    rcases Nat.lt_trichotomy i j with c | c | c
    · exact absurd h2 (List.pairwise_iff_getElem.1 hpq i j hi hj c k h1)
    · exact c
    · exact absurd h1 (List.pairwise_iff_getElem.1 hpq j i hj hi c k h2)
theorem Sep.erase {w : World} {lo : Nat} {hs : List Hdr} {fs : List Fct} (h : Sep w lo hs fs) (k : Nat) : Sep w lo (hs.take k ++ hs.drop (k + 1)) (fs.take k ++ fs.drop (k + 1)) := by
  have hq : ((hs.zip fs).take k ++ (hs.zip fs).drop (k + 1)).Sublist (hs.zip fs) := by
    rw [← List.eraseIdx_eq_take_drop_succ]; exact List.eraseIdx_sublist ..
  have := h.sub hq
  rw [List.map_append, List.map_append, List.map_take, List.map_take, List.map_drop, List.map_drop, List.map_fst_zip (by rw [h.len]; exact Nat.le_refl _), List.map_snd_zip (by rw [h.len]; exact Nat.le_refl _)] at this
  exact this
theorem OIn.on {W w : World} {lo : Nat} {v : Value} {rs : List Rel} {fs : List Fct} (h : OIn W lo v rs fs) (hb : On W w) : OIn w lo v rs fs := by
  obtain ⟨vr, vf, hs, e, hR, hH, hS⟩ := h.out
  exact ⟨vr, vf, hs, e, pw_own_below hR hb, pw_own_below hH hb, hS.on hb⟩
theorem OIn.set {W : World} {lo : Nat} {v : Value} {rs : List Rel} {fs : List Fct} (h : OIn W lo v rs fs) {p : Addr} (hp : p.block < lo) (u : Value) : OIn (W.setCell p u) lo v rs fs := by
  obtain ⟨vr, vf, hs, e, hR, hH, hS⟩ := h.out
  exact ⟨vr, vf, hs, e, ownsRow_setCell_below hR hp u, ownsRow_setCell_below hH hp u, hS.set hp u⟩
theorem OIn.lower {w : World} {lo lo' : Nat} {v : Value} {rs : List Rel} {fs : List Fct} (h : OIn w lo v rs fs) (hl : lo' ≤ lo) : OIn w lo' v rs fs := by
  obtain ⟨vr, vf, hs, e, hR, hH, hS⟩ := h.out
  exact ⟨vr, vf, hs, e, own_lower hR hl, own_lower hH hl, hS.lower hl⟩
/-! Appends, cell by cell. -/
section
variable {ops : Array Oper} {rest : List Oper} {o : Oper} {a : Act} {Q : Exit → Act → World → Prop} {W : World}
theorem ap_none (N : Tmp) {e sz bytes t c base n : Nat} {z v : Value} {xs : List Value} {s x : Operand} (ht : Tryz.prog.underlying t = some (.slice e)) (hinfo : (Tryz.prog.info? e).map (fun i => (i.zero, i.size, i.bytes)) = some (some z, sz, bytes)) (HO : W.ownsRow base e sz v n xs)
    (h : wpList Tryz.prog ops Q rest (a.put (some N) v) W)
    (hop : o.op = .call { callee := .builtin .append, args := #[s, x], argTypes := #[t, t] }) (hd : o.dst = some N) (hg : o.guard = none) (hs : a.eval s = v) (hx : a.eval x = .slice none 0 c) : wpList Tryz.prog ops Q (o :: rest) a W := by
  obtain ⟨i0, hi, hzz⟩ := Option.map_eq_some_iff.1 hinfo
  have hr : (Builtin.append_ #[t, t] o.type #[v, .slice none 0 c]).run Tryz.prog W = .ok v W := by
    rcases HO.2 with ⟨rfl, hn⟩ | ⟨g, cap, cur, rfl, _, _, hnc, _⟩
    · simp [Builtin.append_, run_underlying ht, sizeOf, typeInfo, hi, Builtin.lenOf, Builtin.firstCells]
    · simp [Builtin.append_, run_underlying ht, sizeOf, typeInfo, hi, Builtin.lenOf, Builtin.firstCells, hnc, storeCells]
  refine wpList_plain hg fun K hK => ?_
  unfold Oper.wp execOp
  simp only [hop, resolve, invoke, builtin, Sem.run_bind, Sem.run_pure, Result.andThen_ok, List.map_toArray, List.map_cons, List.map_nil, hs, hx, hr]
  refine hK _ _ ?_
  rw [hd]; exact h
/-- append of headers that are read onto headers of one's own. -/
theorem apH (N : Tmp) {s x : Operand} {v : Value} {A : Option Addr} {c base : Nat} {xs ys zs : List Hdr} (hz : xs ++ ys = zs)
    (HO : OH W base v xs) (HR : RH W A c ys) (hbase : base ≤ W.heap.size) (hl : xs.length + ys.length ≤ 1000000000)
    (h : ∀ v1 w1, OH w1 base v1 zs → W.grownBy w1 v.ownBlock → wpList Tryz.prog ops Q rest (a.put (some N) v1) w1)
    (hop : o.op = .call { callee := .builtin .append, args := #[s, x], argTypes := #[25, 25] } := by rfl)
    (hd : o.dst = some N := by rfl) (hg : o.guard = none := by rfl) (hs : a.eval s = v := by rfl) (hx : a.eval x = .slice A ys.length c := by rfl) : wpList Tryz.prog ops Q (o :: rest) a W := by
  subst hz
  obtain ⟨i0, hi, hzz⟩ := Option.map_eq_some_iff.1 infoF
  simp only [Prod.mk.injEq] at hzz
  obtain ⟨hz0, hz1, hz2⟩ := hzz
  have hnil : ys = [] → wpList Tryz.prog ops Q (o :: rest) a W := by
    rintro rfl
    rw [List.append_nil] at h
    cases A with
    | none => exact ap_none N Tryz.underlying25 infoF HO (h v W HO (World.grownBy.refl W _)) hop hd hg hs hx
    | some ad =>
      refine wpList_append_own_at W hg s x 25 hop base 30 i0 _ 2 32 Tryz.underlying25 hi hz0 hz1 hz2 rfl (by omega) v xs.length _ hs HO ad 0 c [] hx rfl (by simp) (by simp) (by simp at hl; simp [maxLen]; omega) (by simp at hl; omega) hbase fun v1 w1 h1 h2 _ _ => ?_
      rw [hd]
      exact h v1 w1 (by simpa using h1) h2
  cases A with
  | none =>
    refine hnil ?_
    cases ys with
    | nil => rfl
    | cons y ys => obtain ⟨_, e, _⟩ := HR.cell 0 _ rfl; cases e
  | some ad =>
    refine wpList_append_own_at W hg s x 25 hop base 30 i0 _ 2 32 Tryz.underlying25 hi hz0 hz1 hz2 rfl (by omega) v xs.length _ hs HO ad ys.length c (ys.flatMap encH) hx (flat_len (enc := encH) (sz := 2) (fun _ => rfl) ys) (fun j u hu => ?_) (fun u hu => ?_) (by simp [maxLen]; omega) (by omega) hbase fun v1 w1 h1 h2 _ _ => ?_
    · obtain ⟨ad', e, hc⟩ := HR.cell j u hu
      injection e with e; subst e; exact hc
    · obtain ⟨y, _, hy⟩ := List.mem_flatMap.1 hu
      simp only [List.mem_cons, List.not_mem_nil, or_false] at hy
      rcases hy with rfl | rfl <;> rfl
    · rw [hd]
      refine h v1 w1 ?_ h2
      have e : (xs ++ ys).flatMap encH = xs.flatMap encH ++ ys.flatMap encH := List.flatMap_append
      show World.ownsRow _ _ _ _ _ (xs ++ ys).length _
      rw [e, List.length_append]
      exact h1
/-- The same at relations. -/
theorem apR (N : Tmp) {s x : Operand} {v : Value} {A : Option Addr} {c base : Nat} {xs ys zs : List Rel} (hz : xs ++ ys = zs)
    (HO : OR W base v xs) (HR : Rels W A c ys) (hbase : base ≤ W.heap.size) (hl : xs.length + ys.length ≤ 1000000000)
    (h : ∀ v1 w1, OR w1 base v1 zs → W.grownBy w1 v.ownBlock → wpList Tryz.prog ops Q rest (a.put (some N) v1) w1)
    (hop : o.op = .call { callee := .builtin .append, args := #[s, x], argTypes := #[24, 24] } := by rfl)
    (hd : o.dst = some N := by rfl) (hg : o.guard = none := by rfl) (hs : a.eval s = v := by rfl) (hx : a.eval x = .slice A ys.length c := by rfl) : wpList Tryz.prog ops Q (o :: rest) a W := by
  subst hz
  obtain ⟨i0, hi, hzz⟩ := Option.map_eq_some_iff.1 infoR
  simp only [Prod.mk.injEq] at hzz
  obtain ⟨hz0, hz1, hz2⟩ := hzz
  cases A with
  | none =>
    obtain rfl : ys = [] := by
      cases ys with
      | nil => rfl
      | cons y ys => obtain ⟨_, e, _⟩ := HR.at 0 (by simp); cases e
    rw [List.append_nil] at h
    exact ap_none N Tryz.underlying24 infoR HO (h v W HO (World.grownBy.refl W _)) hop hd hg hs hx
  | some ad =>
    refine wpList_append_own_at W hg s x 24 hop base 81 i0 _ 3 32 Tryz.underlying24 hi hz0 hz1 hz2 rfl (by omega) v xs.length _ hs HO ad ys.length c (ys.flatMap encR) hx (flat_len (enc := encR) (sz := 3) (fun _ => rfl) ys) (fun j u hu => ?_) (fun u hu => ?_) (by simp [maxLen]; omega) (by omega) hbase fun v1 w1 h1 h2 _ _ => ?_
    · obtain ⟨i, r, hi, hr, rfl, hv⟩ := flat_div (enc := encR) (sz := 3) (by omega) (fun _ => rfl) ys j u hu
      obtain ⟨ad', e, c0, c1, c2⟩ := HR.at i hi
      injection e with e; subst e
      match r, hr with
      | 0, _ => obtain rfl : Value.string ys[i].1 = u := Option.some.inj hv; exact c0
      | 1, _ => obtain rfl : Value.int .i64 ys[i].2.1 = u := Option.some.inj hv; rw [add_field _ _ 1 (by omega)]; exact c1
      | 2, _ => obtain rfl : Value.bool ys[i].2.2 = u := Option.some.inj hv; rw [add_field _ _ 2 (by omega)]; exact c2
    · obtain ⟨y, _, hy⟩ := List.mem_flatMap.1 hu
      simp only [List.mem_cons, List.not_mem_nil, or_false] at hy
      rcases hy with rfl | rfl | rfl <;> rfl
    · rw [hd]
      refine h v1 w1 ?_ h2
      have e : (xs ++ ys).flatMap encR = xs.flatMap encR ++ ys.flatMap encR := List.flatMap_append
      show World.ownsRow _ _ _ _ _ (xs ++ ys).length _
      rw [e, List.length_append]
      exact h1
end
/-! Appends onto a row that is full (a literal): nothing old is written. -/
theorem run_append_full {P : Program} (w : World) (base : Nat) (t ty e : TypeId) (i : TypeInfo) (z : Value) (size bytes : Nat) (ht : P.underlying t = some (.slice e)) (hi : P.info? e = some i) (hz : i.zero = some z)
    (hsize : i.size = size) (hby : i.bytes = bytes) (hzs : z.cells.size = size) (hsz : 0 < size)
    (g n : Nat) (xs : List Value) (hown : w.ownsRow base e size (.slice (some ⟨g, 0, none⟩) n n) n xs)
    (a : Addr) (m c : Nat) (news : List Value) (hl : news.length = m * size) (hnews : ∀ j u, news[j]? = some u → w.cell? (a.add j) = some u) (h1 : ∀ u ∈ news, u.oneCell' = true)
    (h63 : n + m ≤ maxLen) (hbytes : (n + m) * bytes ≤ 140737488355328) (hbase : base ≤ w.heap.size) :
    ∃ v' w', (Builtin.append_ #[t, t] ty #[.slice (some ⟨g, 0, none⟩) n n, .slice (some a) m c]).run P w = .ok v' w' ∧ w'.ownsRow base e size v' (n + m) (xs ++ news) ∧ w.grownBy w' none := by
  subst hsize
  subst hby
  by_cases hm : m = 0
  · subst hm
    obtain rfl : news = [] := List.eq_nil_of_length_eq_zero (by simpa using hl)
    refine ⟨_, w, ?_, by simpa using hown, World.grownBy.refl w _⟩
    simp [Builtin.append_, run_underlying ht, sizeOf, typeInfo, hi, Builtin.lenOf, Builtin.firstCells, loadCells, loadCellsFrom, storeCells]
  · have hsmall : n + m ≤ 9223372036854775807 := by simp only [maxLen] at h63; omega
    have holds : ∀ j u, xs[j]? = some u → w.cell? ((⟨g, 0, none⟩ : Addr).add j) = some u := hown.cells (g := g) rfl
    have hr := run_append_grow (P := P) w t ty e i z ht hi hz ⟨g, 0, none⟩ n n xs hown.1 holds a m c news hl hnews (by omega) (by omega) (growslice_fits (by omega) hbytes)
    have hge := grownCap_ge w (n + m) n e
    have hcm : grownCap w (n + m) n e ≤ maxLen := grownCap_le_maxLen w (n + m) n e h63
    have hlen : (xs ++ news).length = (n + m) * i.size := by rw [List.length_append, hown.1, hl, Nat.add_mul]
    refine ⟨_, _, hr, ⟨hlen, .inr ⟨w.heap.size, _, _, rfl, hbase, heap_alloc_new w.drew _, hge, hcm, ?_, ?_⟩⟩, ⟨rfl, rfl, rfl, by simp, fun k hk _ => Below.heap_alloc w.drew _ k hk⟩⟩
    · simp only [Array.size_append, List.size_toArray, size_zeroCells, hzs, hown.1, hl, ← Nat.add_mul]
      congr 1
      omega
    · simp only [Array.toList_append, List.append_assoc]
      rw [← List.append_assoc, ← hlen]
      exact List.take_left
section
variable {ops : Array Oper} {rest : List Oper} {o : Oper} {a : Act} {Q : Exit → Act → World → Prop} {W : World}
theorem apFull (N : Tmp) {e sz bytes t c base n g m : Nat} {z : Value} {xs news : List Value} {A : Option Addr} {s x : Operand} (ht : Tryz.prog.underlying t = some (.slice e)) (hinfo : (Tryz.prog.info? e).map (fun i => (i.zero, i.size, i.bytes)) = some (some z, sz, bytes)) (hzs : z.cells.size = sz) (hsz : 0 < sz) (HO : W.ownsRow base e sz (.slice (some ⟨g, 0, none⟩) n n) n xs)
    (hl : news.length = m * sz) (hnews : ∀ j u, news[j]? = some u → ∃ ad, A = some ad ∧ W.cell? (ad.add j) = some u) (h1 : ∀ u ∈ news, u.oneCell' = true) (hb : (n + m) * bytes ≤ 140737488355328) (hnm : n + m ≤ 9223372036854775807) (hbase : base ≤ W.heap.size)
    (h : ∀ v1 w1, w1.ownsRow base e sz v1 (n + m) (xs ++ news) → On W w1 → wpList Tryz.prog ops Q rest (a.put (some N) v1) w1)
    (hop : o.op = .call { callee := .builtin .append, args := #[s, x], argTypes := #[t, t] }) (hd : o.dst = some N) (hg : o.guard = none) (hs : a.eval s = .slice (some ⟨g, 0, none⟩) n n) (hx : a.eval x = .slice A m c) : wpList Tryz.prog ops Q (o :: rest) a W := by
  cases A with
  | none =>
    obtain rfl : m = 0 := by
      rcases Nat.eq_zero_or_pos m with h0 | h0
      · exact h0
      · have hp : 0 < news.length := by rw [hl]; exact Nat.mul_pos h0 hsz
        obtain ⟨_, e, _⟩ := hnews 0 _ (List.getElem?_eq_getElem hp)
        cases e
    obtain rfl : news = [] := List.eq_nil_of_length_eq_zero (by simpa using hl)
    exact ap_none N ht hinfo HO (h _ W (by simpa using HO) (On.refl _)) hop hd hg hs hx
  | some ad =>
    obtain ⟨i0, hi, hzz⟩ := Option.map_eq_some_iff.1 hinfo
    simp only [Prod.mk.injEq] at hzz
    obtain ⟨hz0, hz1, hz2⟩ := hzz
    obtain ⟨v', w', hr, h2, h3⟩ := run_append_full (P := Tryz.prog) W base t o.type e i0 z sz bytes ht hi hz0 hz1 hz2 hzs hsz g n xs HO ad m c news hl (fun j u hu => by obtain ⟨ad', e, hc⟩ := hnews j u hu; injection e with e; subst e; exact hc) h1 (by simp only [maxLen]; omega) hb hbase
    refine wpList_plain hg fun K hK => ?_
    unfold Oper.wp execOp
    simp only [hop, resolve, invoke, builtin, Sem.run_bind, Sem.run_pure, Result.andThen_ok, List.map_toArray, List.map_cons, List.map_nil, hs, hx, hr]
    refine hK _ _ ?_
    rw [hd]
    exact h v' w' h2 (on_grown (On.refl _) h3 fun k hk => by cases hk)
theorem apHf (N : Tmp) {s x : Operand} {A : Option Addr} {c base g n : Nat} {xs ys zs : List Hdr} (hz : xs ++ ys = zs) (HO : OH W base (.slice (some ⟨g, 0, none⟩) n n) xs) (hn : xs.length = n) (HR : RH W A c ys) (hbase : base ≤ W.heap.size) (hl : n + ys.length ≤ 1000000000)
    (h : ∀ v1 w1, OH w1 base v1 zs → On W w1 → wpList Tryz.prog ops Q rest (a.put (some N) v1) w1)
    (hop : o.op = .call { callee := .builtin .append, args := #[s, x], argTypes := #[25, 25] } := by rfl)
    (hd : o.dst = some N := by rfl) (hg : o.guard = none := by rfl) (hs : a.eval s = .slice (some ⟨g, 0, none⟩) n n := by rfl) (hx : a.eval x = .slice A ys.length c := by rfl) : wpList Tryz.prog ops Q (o :: rest) a W := by
  subst hz hn
  refine apFull N Tryz.underlying25 infoF rfl (by omega) HO (flat_len (enc := encH) (sz := 2) (fun _ => rfl) ys) HR.cell (fun u hu => ?_) (by omega) (by omega) hbase (fun v1 w1 h1 h2 => h v1 w1 ?_ h2) hop hd hg hs hx
  · obtain ⟨y, _, hy⟩ := List.mem_flatMap.1 hu
    simp only [List.mem_cons, List.not_mem_nil, or_false] at hy
    rcases hy with rfl | rfl <;> rfl
  · show World.ownsRow _ _ _ _ _ (xs ++ ys).length _
    rw [show (xs ++ ys).flatMap encH = xs.flatMap encH ++ ys.flatMap encH from List.flatMap_append, List.length_append]
    exact h1
theorem apRf (N : Tmp) {s x : Operand} {A : Option Addr} {c base g n : Nat} {xs ys zs : List Rel} (hz : xs ++ ys = zs) (HO : OR W base (.slice (some ⟨g, 0, none⟩) n n) xs) (hn : xs.length = n) (HR : Rels W A c ys) (hbase : base ≤ W.heap.size) (hl : n + ys.length ≤ 1000000000)
    (h : ∀ v1 w1, OR w1 base v1 zs → On W w1 → wpList Tryz.prog ops Q rest (a.put (some N) v1) w1)
    (hop : o.op = .call { callee := .builtin .append, args := #[s, x], argTypes := #[24, 24] } := by rfl)
    (hd : o.dst = some N := by rfl) (hg : o.guard = none := by rfl) (hs : a.eval s = .slice (some ⟨g, 0, none⟩) n n := by rfl) (hx : a.eval x = .slice A ys.length c := by rfl) : wpList Tryz.prog ops Q (o :: rest) a W := by
  subst hz hn
  refine apFull N Tryz.underlying24 infoR rfl (by omega) HO (flat_len (enc := encR) (sz := 3) (fun _ => rfl) ys) (fun j u hu => ?_) (fun u hu => ?_) (by omega) (by omega) hbase (fun v1 w1 h1 h2 => h v1 w1 ?_ h2) hop hd hg hs hx
  · obtain ⟨i, r, hi, hr, rfl, hv⟩ := flat_div (enc := encR) (sz := 3) (by omega) (fun _ => rfl) ys j u hu
    obtain ⟨ad', e, c0, c1, c2⟩ := HR.at i hi
    refine ⟨ad', e, ?_⟩
    match r, hr, hv with
    | 0, _, hv => obtain rfl : Value.string ys[i].1 = u := Option.some.inj hv; exact c0
    | 1, _, hv => obtain rfl : Value.int .i64 ys[i].2.1 = u := Option.some.inj hv; rw [add_field _ _ 1 (by omega)]; exact c1
    | 2, _, hv => obtain rfl : Value.bool ys[i].2.2 = u := Option.some.inj hv; rw [add_field _ _ 2 (by omega)]; exact c2
  · obtain ⟨y, _, hy⟩ := List.mem_flatMap.1 hu
    simp only [List.mem_cons, List.not_mem_nil, or_false] at hy
    rcases hy with rfl | rfl | rfl <;> rfl
  · show World.ownsRow _ _ _ _ _ (xs ++ ys).length _
    rw [show (xs ++ ys).flatMap encR = xs.flatMap encR ++ ys.flatMap encR from List.flatMap_append, List.length_append]
    exact h1
theorem apIf (N : Tmp) {s x : Operand} {A : Option Addr} {c base g n : Nat} {xs ys zs : List Int} (hz : xs ++ ys = zs) (HO : OI W base (.slice (some ⟨g, 0, none⟩) n n) xs) (hn : xs.length = n) (HR : Ints W A c ys) (hbase : base ≤ W.heap.size) (hl : n + ys.length ≤ 10000000000)
    (h : ∀ v1 w1, OI w1 base v1 zs → On W w1 → wpList Tryz.prog ops Q rest (a.put (some N) v1) w1)
    (hop : o.op = .call { callee := .builtin .append, args := #[s, x], argTypes := #[28, 28] } := by rfl)
    (hd : o.dst = some N := by rfl) (hg : o.guard = none := by rfl) (hs : a.eval s = .slice (some ⟨g, 0, none⟩) n n := by rfl) (hx : a.eval x = .slice A ys.length c := by rfl) : wpList Tryz.prog ops Q (o :: rest) a W := by
  subst hz hn
  refine apFull N Tryz.underlying28 infoI rfl (by omega) HO (flat_len (enc := encI) (sz := 1) (fun _ => rfl) ys) (fun j u hu => ?_) (fun u hu => ?_) (by omega) (by omega) hbase (fun v1 w1 h1 h2 => h v1 w1 ?_ h2) hop hd hg hs hx
  · obtain ⟨i, r, hi, hr, rfl, hv⟩ := flat_div (enc := encI) (sz := 1) (by omega) (fun _ => rfl) ys j u hu
    obtain ⟨ad', e, c0⟩ := HR.at i hi
    refine ⟨ad', e, ?_⟩
    obtain rfl : r = 0 := by omega
    obtain rfl : Value.int .i64 ys[i] = u := Option.some.inj hv
    rw [show i * 1 + 0 = i by omega]; exact c0
  · obtain ⟨y, _, hy⟩ := List.mem_flatMap.1 hu
    simp only [List.mem_cons, List.not_mem_nil, or_false] at hy
    rcases hy with rfl; rfl
  · show World.ownsRow _ _ _ _ _ (xs ++ ys).length _
    rw [show (xs ++ ys).flatMap encI = xs.flatMap encI ++ ys.flatMap encI from List.flatMap_append, List.length_append]
    exact h1
end
/-- Literals. -/
theorem lit_own (W : World) (cs : Array Value) (e sz n lo : Nat) (hlo : lo ≤ W.heap.size) (hn : n ≤ 1000000) (hs : cs.size = n * sz) : (W.alloc (.cells cs e (0, 0))).ownsRow lo e sz (.slice (some ⟨W.heap.size, 0, none⟩) n n) n cs.toList :=
  World.ownsRow_lit W cs n hlo (by simp [maxLen]; omega) hs
theorem lit_own' (g : Nat) (W : World) (hg : g = W.heap.size) (cs : Array Value) (e sz n lo : Nat) (hlo : lo ≤ W.heap.size) (hn : n ≤ 1000000) (hs : cs.size = n * sz) : (W.alloc (.cells cs e (0, 0))).ownsRow lo e sz (.slice (some ⟨g, 0, none⟩) n n) n cs.toList := by
  subst hg; exact lit_own W cs e sz n lo hlo hn hs
theorem lit_H (W : World) (r : Int) (A : Option Addr) (n c : Nat) : OH (W.alloc (.cells #[.int .i64 r, .slice A n c] 30 (0, 0))) W.heap.size (.slice (some ⟨W.heap.size, 0, none⟩) 1 1) [(r, A, n, c)] :=
  lit_own W #[.int .i64 r, .slice A n c] 30 2 1 W.heap.size (Nat.le_refl _) (by omega) rfl
theorem lit_RH {W w : World} {r : Int} {A : Option Addr} {n c : Nat} (hb : On (W.alloc (.cells #[.int .i64 r, .slice A n c] 30 (0, 0))) w) : RH w (some ⟨W.heap.size, 0, none⟩) 1 [(r, A, n, c)] :=
  (OH.rh (n := 1) (pw_own_below (lit_H W r A n c) hb)).2
theorem own_grows {w W w1 : World} {lo e sz n : Nat} {v : Value} {cs : List Value} (h : On w W) (hO : W.ownsRow lo e sz v n cs) (hg : W.grownBy w1 v.ownBlock) (hlo : w.heap.size ≤ lo) : On w w1 :=
  on_grown h hg fun k hk => Nat.le_trans hlo (own_base hO k hk)
end Go.Proofs.YtngjhblbpapjeaaGreat.H
/- Facts in order: compared, found, laid in, taken out. Plain. No condition. -/
namespace Go.Proofs.YtngjhblbpapjeaaGreat.H
open Go Go.RowKit Go.Proofs.YtngjhblbpapjeaaGreatW.PrintWords Go.Proofs.YtngjhblbpapjeaaGreatW.PrintLast
set_option linter.unusedVariables false
set_option linter.unusedSimpArgs false

theorem ints_eq : ∀ a b : List Int, ints a b = 0 ↔ a = b
  | [], [] => by simp [ints]
  | [], _ :: _ => by simp [ints]
  | _ :: _, [] => by simp [ints]
  | x :: a, y :: b => by
    have ih := ints_eq a b
    unfold ints
    by_cases h1 : x < y
    · rw [if_pos h1]; constructor
      · intro h; omega
      · intro h; injection h with h _; omega
    · rw [if_neg h1]
      by_cases h2 : y < x
      · rw [if_pos h2]; constructor
        · intro h; omega
        · intro h; injection h with h _; omega
      · rw [if_neg h2, ih, List.cons.injEq]
        constructor
        · intro h; exact ⟨by omega, h⟩
        · intro h; exact h.2
theorem ints_neg : ∀ a b : List Int, ints b a = - ints a b
  | [], [] => rfl
  | [], _ :: _ => rfl
  | _ :: _, [] => rfl
  | x :: a, y :: b => by
    have ih := ints_neg a b
    unfold ints
    by_cases h1 : x < y
    · have h2 : ¬ y < x := by omega
      simp [h1, h2]
    · by_cases h2 : y < x
      · simp [h1, h2]
      · simp [h1, h2, ih]
theorem ints_trans : ∀ a b c : List Int, ints a b < 0 → ints b c < 0 → ints a c < 0
  | [], [], _, h, _ => by simp [ints] at h
  | [], _ :: _, [], _, h => by simp [ints] at h
  | [], _ :: _, _ :: _, _, _ => by simp [ints]
  | _ :: _, [], _, h, _ => by simp [ints] at h
  | _ :: _, _ :: _, [], _, h => by simp [ints] at h
  | x :: a, y :: b, z :: c, h1, h2 => by
    have ih := ints_trans a b c
    unfold ints at h1 h2 ⊢
    by_cases e1 : x < y
    · by_cases e2 : y < z
      · rw [if_pos (by omega)]; omega
      · rw [if_neg e2] at h2
        by_cases e3 : z < y
        · rw [if_pos e3] at h2; omega
        · rw [if_pos (by omega)]; omega
    · rw [if_neg e1] at h1
      by_cases e1' : y < x
      · rw [if_pos e1'] at h1; omega
      · rw [if_neg e1'] at h1
        by_cases e2 : y < z
        · rw [if_pos (by omega)]; omega
        · rw [if_neg e2] at h2
          by_cases e3 : z < y
          · rw [if_pos e3] at h2; omega
          · rw [if_neg e3] at h2
            rw [if_neg (by omega), if_neg (by omega)]
            exact ih h1 h2
theorem cmpF_eq (f g : Fct) : cmpF f g = 0 ↔ f = g := by
  rcases f with ⟨a, x⟩; rcases g with ⟨b, y⟩
  simp only [cmpF, Prod.mk.injEq]
  by_cases h1 : a < b
  · rw [if_pos h1]; constructor
    · intro h; omega
    · intro h; omega
  · rw [if_neg h1]
    by_cases h2 : b < a
    · rw [if_pos h2]; constructor
      · intro h; omega
      · intro h; omega
    · rw [if_neg h2, ints_eq]
      constructor
      · intro h; exact ⟨by omega, h⟩
      · intro h; exact h.2
theorem cmpF_self (f : Fct) : cmpF f f = 0 := (cmpF_eq f f).2 rfl
theorem cmpF_neg (f g : Fct) : cmpF g f = - cmpF f g := by
  unfold cmpF
  by_cases h1 : f.1 < g.1
  · have h2 : ¬ g.1 < f.1 := by omega
    simp [h1, h2]
  · by_cases h2 : g.1 < f.1
    · simp [h1, h2]
    · simp [h1, h2, ints_neg f.2 g.2]
theorem cmpF_trans (f g h : Fct) (h1 : cmpF f g < 0) (h2 : cmpF g h < 0) : cmpF f h < 0 := by
  unfold cmpF at *
  by_cases e1 : f.1 < g.1
  · by_cases e2 : g.1 < h.1
    · rw [if_pos (by omega)]; omega
    · rw [if_neg e2] at h2
      by_cases e3 : h.1 < g.1
      · rw [if_pos e3] at h2; omega
      · rw [if_pos (by omega)]; omega
  · rw [if_neg e1] at h1
    by_cases e1' : g.1 < f.1
    · rw [if_pos e1'] at h1; omega
    · rw [if_neg e1'] at h1
      by_cases e2 : g.1 < h.1
      · rw [if_pos (by omega)]; omega
      · rw [if_neg e2] at h2
        by_cases e3 : h.1 < g.1
        · rw [if_pos e3] at h2; omega
        · rw [if_neg e3] at h2
          rw [if_neg (by omega), if_neg (by omega)]
          exact ints_trans _ _ _ h1 h2
/-- Ascending, each once. -/
abbrev Asc (l : List Fct) : Prop := l.Pairwise fun f g => cmpF f g < 0
theorem asc_ext : ∀ a b : List Fct, Asc a → Asc b → (∀ x, x ∈ a ↔ x ∈ b) → a = b
  | [], [], _, _, _ => rfl
  | [], y :: b, _, _, h => absurd ((h y).2 (by simp)) (by simp)
  | x :: a, [], _, _, h => absurd ((h x).1 (by simp)) (by simp)
  | x :: a, y :: b, ha, hb, h => by
    rw [Asc, List.pairwise_cons] at ha hb
    have e : x = y := by
      rcases List.mem_cons.1 ((h x).1 (by simp)) with e | hx
      · exact e
      · rcases List.mem_cons.1 ((h y).2 (by simp)) with e | hy
        · exact e.symm
        · have h1 := hb.1 x hx
          have h2 := ha.1 y hy
          rw [cmpF_neg] at h1; omega
    subst e
    rw [asc_ext a b ha.2 hb.2 (fun z => ?_)]
    constructor
    · intro hz
      rcases List.mem_cons.1 ((h z).1 (List.mem_cons_of_mem _ hz)) with e | hz'
      · have := ha.1 z hz; rw [e, cmpF_self] at this; omega
      · exact hz'
    · intro hz
      rcases List.mem_cons.1 ((h z).2 (List.mem_cons_of_mem _ hz)) with e | hz'
      · have := hb.1 z hz; rw [e, cmpF_self] at this; omega
      · exact hz'
theorem placeFrom_lt (f : Fct) : ∀ (l : List Fct) (i : Nat), (placeFrom f l i = -1 ∧ f ∉ l) ∨ ∃ k, ∃ h : k < l.length, placeFrom f l i = ((i + k : Nat) : Int) ∧ l[k] = f ∧ ∀ j, (hj : j < k) → l[j]'(by omega) ≠ f
  | [], _ => .inl ⟨rfl, by simp⟩
  | g :: l, i => by
    unfold placeFrom
    by_cases h : cmpF g f = 0
    · rw [if_pos h]
      exact .inr ⟨0, by simp, by simp, by simpa using (cmpF_eq g f).1 h, fun j hj => by omega⟩
    · rw [if_neg h]
      have hgf : g ≠ f := fun e => h ((cmpF_eq g f).2 e)
      rcases placeFrom_lt f l (i + 1) with ⟨e, hn⟩ | ⟨k, hk, e, ha, hb⟩
      · exact .inl ⟨e, by simp only [List.mem_cons, not_or]; exact ⟨fun e => hgf e.symm, hn⟩⟩
      · refine .inr ⟨k + 1, by simp; omega, by rw [e]; congr 1; omega, by simpa using ha, fun j hj => ?_⟩
        cases j with
        | zero => simpa using hgf
        | succ j => simpa using hb j (by omega)
theorem place_spec (l : List Fct) (f : Fct) : (place l f = -1 ∧ f ∉ l) ∨ ∃ k, ∃ h : k < l.length, place l f = (k : Int) ∧ l[k] = f ∧ ∀ j, (hj : j < k) → l[j]'(by omega) ≠ f := by
  have := placeFrom_lt f l 0
  simpa [place] using this
def hasF (fs : List Fct) (g : Fct) : Bool := fs.any fun f => cmpF f g == 0
theorem hasF_mem (fs : List Fct) (g : Fct) : hasF fs g = true ↔ g ∈ fs := by
  unfold hasF
  rw [List.any_eq_true]
  constructor
  · rintro ⟨f, hf, h⟩
    rw [beq_iff_eq, cmpF_eq] at h
    exact h ▸ hf
  · intro h; exact ⟨g, h, by rw [cmpF_self]; rfl⟩
theorem hasF_place (fs : List Fct) (g : Fct) : hasF fs g = decide (0 ≤ place fs g) := by
  rcases place_spec fs g with ⟨e, h⟩ | ⟨k, hk, e, h, _⟩
  · rw [e]
    have : hasF fs g = false := by
      cases h2 : hasF fs g with
      | false => rfl
      | true => exact absurd ((hasF_mem fs g).1 h2) h
    rw [this]; rfl
  · rw [e, (hasF_mem fs g).2 (h ▸ List.getElem_mem hk)]
    symm; exact decide_eq_true (by omega)
/-- All but g. -/
def delF (fs : List Fct) (g : Fct) : List Fct := fs.filter fun f => !(cmpF f g == 0)
theorem delF_at (fs : List Fct) (g : Fct) (h : Asc fs) (k : Nat) (hk : k < fs.length) (hg : fs[k] = g) : delF fs g = fs.take k ++ fs.drop (k + 1) := by
  have e := List.take_append_drop k fs
  rw [List.drop_eq_getElem_cons hk, hg] at e
  have h' := h
  rw [← e] at h'
  rw [Asc, List.pairwise_append, List.pairwise_cons] at h'
  obtain ⟨_, ⟨h2, _⟩, h3⟩ := h'
  have e1 : (fs.take k).filter (fun f => !(cmpF f g == 0)) = fs.take k := List.filter_eq_self.2 fun f hf => by
    have := h3 f hf g (by simp)
    simp; omega
  have e2 : (fs.drop (k + 1)).filter (fun f => !(cmpF f g == 0)) = fs.drop (k + 1) := List.filter_eq_self.2 fun f hf => by
    have := h2 f hf
    rw [cmpF_neg] at this
    simp; omega
  unfold delF
  conv => lhs; rw [← e]
  rw [List.filter_append, List.filter_cons_of_neg (by simp [cmpF_self]), e1, e2]
/-- A fact laid into a row that is in order. -/
def putF (l : List Fct) (x : Fct) : List Fct := match l with
  | [] => [x]
  | y :: r => if cmpF y x < 0 then y :: putF r x else if cmpF y x = 0 then y :: r else x :: y :: r
theorem mem_putF (x z : Fct) : ∀ l : List Fct, z ∈ putF l x ↔ z = x ∨ z ∈ l
  | [] => by simp [putF]
  | y :: l => by
    unfold putF
    by_cases c : cmpF y x < 0
    · rw [if_pos c, List.mem_cons, List.mem_cons, mem_putF x z l]
      constructor <;> rintro (h | h | h) <;> simp [h]
    · rw [if_neg c]
      by_cases c2 : cmpF y x = 0
      · rw [if_pos c2]; rw [cmpF_eq] at c2; subst c2; simp
      · rw [if_neg c2]; simp
theorem putF_asc (x : Fct) : ∀ l : List Fct, Asc l → Asc (putF l x)
  | [], _ => by simp [putF, Asc]
  | y :: l, h => by
    rw [Asc, List.pairwise_cons] at h
    unfold putF
    by_cases c : cmpF y x < 0
    · rw [if_pos c, Asc, List.pairwise_cons]
      refine ⟨fun z hz => ?_, putF_asc x l h.2⟩
      rcases (mem_putF x z l).1 hz with rfl | hz
      · exact c
      · exact h.1 z hz
    · rw [if_neg c]
      by_cases c2 : cmpF y x = 0
      · rw [if_pos c2, Asc, List.pairwise_cons]; exact h
      · rw [if_neg c2, Asc, List.pairwise_cons, List.pairwise_cons]
        have hxy : cmpF x y < 0 := by rw [cmpF_neg]; omega
        refine ⟨fun z hz => ?_, h⟩
        rcases List.mem_cons.1 hz with rfl | hz
        · exact hxy
        · exact cmpF_trans _ _ _ hxy (h.1 z hz)
/-- Facts in ascending order, each once. -/
def setF (l : List Fct) : List Fct := l.foldl putF []
theorem foldl_putF (l out : List Fct) (h : Asc out) : Asc (l.foldl putF out) ∧ ∀ x, x ∈ l.foldl putF out ↔ x ∈ out ∨ x ∈ l := by
  induction l generalizing out with
  | nil => exact ⟨h, fun x => by simp⟩
  | cons y l ih =>
    obtain ⟨h1, h2⟩ := ih _ (putF_asc y out h)
    refine ⟨h1, fun x => ?_⟩
    rw [List.foldl_cons, h2, mem_putF, List.mem_cons]
    constructor
    · rintro ((h | h) | h)
      · exact .inr (.inl h)
      · exact .inl h
      · exact .inr (.inr h)
    · rintro (h | h | h)
      · exact .inl (.inr h)
      · exact .inl (.inl h)
      · exact .inr h
theorem setF_spec (l : List Fct) : Asc (setF l) ∧ ∀ x, x ∈ setF l ↔ x ∈ l := by
  have := foldl_putF l [] List.Pairwise.nil
  exact ⟨this.1, fun x => by rw [setF, this.2]; simp⟩
theorem setF_asc (l : List Fct) (h : Asc l) : setF l = l := asc_ext _ _ (setF_spec l).1 h (setF_spec l).2
theorem setF_put (fs : List Fct) (f : Fct) (h : Asc fs) : setF (fs ++ [f]) = putF fs f := by
  unfold setF
  rw [List.foldl_append]
  have := setF_asc fs h
  unfold setF at this
  rw [this]; rfl
theorem putF_has (fs : List Fct) (f : Fct) (h : Asc fs) (hm : f ∈ fs) : putF fs f = fs :=
  asc_ext _ _ (putF_asc f fs h) h fun x => by
    rw [mem_putF]
    constructor
    · rintro (rfl | h)
      · exact hm
      · exact h
    · exact .inr
theorem putF_split (l : List Fct) (x : Fct) (k : Nat) (hk : k ≤ l.length) (hlt : ∀ j, (h : j < k) → cmpF (l[j]'(by omega)) x < 0) : putF l x = l.take k ++ putF (l.drop k) x := by
  induction k generalizing l with
  | zero => simp
  | succ k ih =>
    cases l with
    | nil => simp at hk
    | cons y r =>
      have h0 := hlt 0 (by omega)
      simp only [List.getElem_cons_zero] at h0
      have := ih r (by simpa using hk) (fun j h => by have := hlt (j + 1) (by omega); simpa using this)
      rw [putF, if_pos h0, this]
      simp
theorem putF_at (l : List Fct) (x : Fct) (k : Nat) (hk : k ≤ l.length) (hlt : ∀ j, (h : j < k) → cmpF (l[j]'(by omega)) x < 0) (h1 : ∀ h : k < l.length, ¬ cmpF l[k] x < 0) (hn : x ∉ l) : putF l x = l.take k ++ x :: l.drop k := by
  rw [putF_split l x k hk hlt]
  rcases Nat.lt_or_ge k l.length with hk' | hk'
  · rw [List.drop_eq_getElem_cons hk', putF, if_neg (h1 hk'), if_neg (fun e => hn (by have := (cmpF_eq _ _).1 e; rw [← this]; exact List.getElem_mem hk'))]
  · rw [List.drop_of_length_le hk']; rfl
theorem delF_put (fs : List Fct) (f : Fct) (h : Asc fs) (hn : f ∉ fs) : delF (putF fs f) f = fs := by
  refine asc_ext _ _ ((putF_asc f fs h).sublist List.filter_sublist) h fun x => ?_
  unfold delF
  rw [List.mem_filter, mem_putF]
  simp only [Bool.not_eq_true', beq_eq_false_iff_ne, ne_eq, cmpF_eq]
  constructor
  · rintro ⟨rfl | h, h2⟩
    · exact absurd rfl h2
    · exact h
  · intro hx; exact ⟨.inr hx, fun e => hn (e ▸ hx)⟩
theorem put_delF (fs : List Fct) (f : Fct) (h : Asc fs) (hm : f ∈ fs) : putF (delF fs f) f = fs := by
  refine asc_ext _ _ (putF_asc f _ (h.sublist List.filter_sublist)) h fun x => ?_
  unfold delF
  rw [mem_putF, List.mem_filter]
  simp only [Bool.not_eq_true', beq_eq_false_iff_ne, ne_eq, cmpF_eq]
  constructor
  · rintro (rfl | h)
    · exact hm
    · exact h.1
  · intro hx
    by_cases e : x = f
    · exact .inl e
    · exact .inr ⟨hx, e⟩
end Go.Proofs.YtngjhblbpapjeaaGreat.H
/- Walks: the reference's place of a fact, copies. No condition. -/
namespace Go.Proofs.YtngjhblbpapjeaaGreat.H
open Go Go.RowKit Go.Proofs.YtngjhblbpapjeaaGreatW.PrintWords Go.Proofs.YtngjhblbpapjeaaGreatW.PrintLast
open Go.Proofs.YtngjhblbpapjeaaGreat.Reg (On on_draw)
set_option maxHeartbeats 1000000
set_option maxRecDepth 100000
set_option linter.unusedVariables false
set_option linter.unusedSimpArgs false

section
variable {fn : Func} {p u : Tmp} {tmps : Array Value} {w : World} {g : Nat} {t : TypeId} {cs : Array Value} {fr : Nat × Nat}
theorem retIB (h : fn.results = #[.cell p 27, .tmp u]) (hp : tmps.getD p undef = .pointer (some ⟨g, 0, none⟩)) (hg : w.heap[g]? = some (.cells cs t fr)) (hs : cs.size = 2) : (results fn tmps).run Tryz.prog w = .ok (.tuple #[.agg cs, tmps.getD u undef]) w :=
  results_ct h tmps w g t cs fr _ hp hg Tryz.underlying27 rfl (by rw [hs]; kernel_rfl)
end
/-- A step that makes memory at most and hands back one value, nothing else coming up. -/
theorem stepM {P : Program} {ops : Array Oper} {Q : Exit → Act → World → Prop} {i : Nat} {tail : List Nat} {l : List (Nat × Reg.K)} {a : Act} {W : World} {o : Oper}
    (h : ∀ w, On W w → wpList P ops (Exit.then (fun a' w' => On W w' ∧ Reg.Ord P ops Q tail l a' w') Q) [o] a w) (hi : ops[i]? = some o := by rfl)
    (hw : Region.wanted o (yielded ops a.tmps) = true := by rfl) : Reg.Ord P ops Q tail ((i, .N) :: l) a W := Reg.stepN h hi hw
theorem l5Place_calls (w : World) (A0 n0 c0 A1 c1 A2 c2) (fs : List Fct) (f : Fct) (h1 : Fcts w A1 c1 fs) (h2 : Ints w A2 c2 f.2) :
    Calls Tryz.prog 53 #[.agg #[.slice A0 n0 c0, .slice A1 fs.length c1], .agg #[.int .i64 f.1, .slice A2 f.2.length c2]] w fun e w' => e = .returned (.int .i64 (place fs f)) ∧ On w w' := by
  have hmax := h1.max
  go_enter Tryz.func53, Tryz.ntmps53
  go_wp2
  go_loopw [5] (fun v5 wr => ∃ k : Nat, k ≤ fs.length ∧ v5 = .int .i64 k ∧ Hid (placeFrom f (fs.drop k) k = place fs f) ∧ On w wr ∧ Loc wr [(w.heap.size, #[.slice A0 n0 c0, .slice A1 fs.length c1], 27), (w.heap.size + 1, #[.int .i64 f.1, .slice A2 f.2.length c2], 30)]) (fun v5 _ => fs.length - (intOf v5).toNat)
  case atStart => exact ⟨0, Nat.zero_le _, rfl, rfl, On.alloc (On.alloc (On.refl _) _) _, loc2 _ _ _ _ _⟩
  case round =>
    obtain ⟨k, hk, rfl, hp, hB, hL⟩ := hrel
    have hc0 := blk_cell hL.1
    have hc1 := blk_cell hL.2.1
    have hl := Aside0.mk hL
    clear hL
    by_cases hlt : k < fs.length
    · obtain ⟨ad, A3, c3, rfl, hx0, hx1, hx2⟩ := (h1.on hB).at k hlt
      have hp' : Hid ((if cmpF fs[k] f = 0 then (k : Int) else placeFrom f (fs.drop (k + 1)) (k + 1)) = place fs f) := by have := hp.out; rwa [List.drop_eq_getElem_cons hlt] at this
      clear hp
      go_wp2
      refine Reg.region [(0,.L),(1,.L),(2,.L),(3,.L),(4,.L),(5,.L),(6,.C),(7,.L)] [] (by kernel_rfl) (by kernel_rfl) ?_
      repeat first | refine sP ?_ | refine sS ?_ | refine sA ?_ | refine sL ?_ | refine sQ ?_ | refine sO ?_
      refine callC (.int .i64 (cmpF fs[k] f)) Tryz.func13 (fun w' hS => ?_) ?_
      focus exact (CompareFacts_calls w' _ _ _ _ fs[k] f (hx2.on hS) ((h2.on hB).on hS))
      repeat first | refine sP ?_ | refine sS ?_ | refine sA ?_ | refine sL ?_ | refine sQ ?_ | refine sO ?_
      refine Reg.nil fun w2 hS => ?_
      by_cases h0 : cmpF fs[k] f = 0
      · have h0' : (cmpF fs[k] f == 0) = true := by simpa using h0
        go_wp2
        go_ret
        exact ⟨by rw [← hp'.out, if_pos h0]; rfl, hB.trans hS⟩
      · have h0' : (cmpF fs[k] f == 0) = false := by simpa using h0
        go_wp2
        go_roundw
        case rel => exact ⟨k + 1, by omega, by go_num, (by rw [← hp'.out, if_neg h0] : _ = _), hB.trans hS, Loc.on hS hl.out⟩
        case measure => simp [intOf]; omega
    · go_wp2
      go_ret
      exact ⟨by rw [← hp.out, List.drop_of_length_le (by omega)]; rfl, hB⟩
theorem sContainsFact_calls (w : World) (A0 c0 A1 c1) (rs : List Rel) (fs : List Fct) (h0 : Rels w A0 c0 rs) (h1 : Fcts w A1 c1 fs) (A2 c2) (g : Fct) (h2 : Ints w A2 c2 g.2) :
    Calls Tryz.prog 40 #[.agg #[.slice A0 rs.length c0, .slice A1 fs.length c1], .agg #[.int .i64 g.1, .slice A2 g.2.length c2]] w fun e w' => e = .returned (.bool (okInst rs fs && hasF fs g)) ∧ On w w' := by
  have hb := Aside0.mk (On.alloc (On.alloc (On.refl w) (.cells #[.slice A0 rs.length c0, .slice A1 fs.length c1] 27)) (.cells #[.int .i64 g.1, .slice A2 g.2.length c2] 30))
  have hL := Aside0.mk (loc2 w #[.slice A0 rs.length c0, .slice A1 fs.length c1] #[.int .i64 g.1, .slice A2 g.2.length c2] 27 30)
  cases ho : okInst rs fs with
  | false =>
    have ho' := Aside0.mk ho
    clear ho
    go_enter Tryz.func40, Tryz.ntmps40
    go_wp2_with (go_at_call 39; refine (IsValidInstance_calls _ A0 c0 A1 c1 rs fs (h0.on hb.out) (h1.on hb.out)).mono ?_; rintro e w1 ⟨rfl, hb1⟩; rw [ho'.out])
    go_ret
    exact ⟨by simp, hb.out.trans hb1⟩
  | true =>
    have ho' := Aside0.mk ho
    clear ho
    go_enter Tryz.func40, Tryz.ntmps40
    go_wp2_with (first | (go_at_call 39; refine (IsValidInstance_calls _ A0 c0 A1 c1 rs fs (h0.on hb.out) (h1.on hb.out)).mono ?_; rintro e w1 ⟨rfl, hb1⟩; rw [ho'.out]; have hL1 := Loc.on hb1 hL.out; have hc0 := blk_cell hL1.1; have hc1 := blk_cell hL1.2.1; clear hL1) | (go_at_call 53; refine (l5Place_calls w1 A0 rs.length c0 A1 c1 A2 c2 fs g (h1.on (hb.out.trans hb1)) (h2.on (hb.out.trans hb1))).mono ?_; rintro e w2 ⟨rfl, hb2⟩))
    go_ret
    exact ⟨ret_bool (by rw [hasF_place]; simp), (hb.out.trans hb1).trans hb2⟩
theorem l5Fact_calls (w : World) (A c) (f : Fct) (h : Ints w A c f.2) (hl : f.2.length ≤ 2000000) : Calls Tryz.prog 84 #[.agg #[.int .i64 f.1, .slice A f.2.length c]] w (Got fun v w' => ∃ v1, v = .agg #[.int .i64 f.1, v1] ∧ OI w' w.heap.size v1 f.2 ∧ On w w') := by
  have hb := Aside0.mk (On.alloc (On.alloc (On.refl w) (.cells #[.int .i64 f.1, .slice A f.2.length c] 30)) (.cells #[.int .i64 0, .slice none 0 0] 30))
  have hL := Aside0.mk (loc2 w #[.int .i64 f.1, .slice A f.2.length c] #[.int .i64 0, .slice none 0 0] 30 30)
  go_enter Tryz.func84, Tryz.ntmps84
  go_wp2
  refine Reg.region [(0,.L),(1,.L),(3,.L),(4,.L),(2,.N),(5,.N),(6,.L)] [7] (by kernel_rfl) (by kernel_rfl) ?_
  repeat first | refine sP ?_ | refine sS ?_ | refine sA ?_ | refine sL ?_ | refine sQ ?_ | refine sO ?_
  refine stepM (fun w1 hS => ?_)
  go_wp2
  refine ⟨hS.trans (On.alloc (On.refl _) _), ?_⟩
  repeat first | refine sP ?_ | refine sS ?_ | refine sA ?_ | refine sL ?_ | refine sQ ?_ | refine sO ?_
  refine stepM (fun w2 hS2 => ?_)
  refine apIf 8 (List.nil_append _) (pw_own_below (lit_own w1 #[] 3 1 0 w1.heap.size (Nat.le_refl _) (by omega) rfl) hS2) rfl (h.on ((hb.out.trans hS).trans ((On.alloc (On.refl _) _).trans hS2))) (by have := hS2.size; simp at this; omega) (by omega) fun v3 w3 hO3 hb3 => ?_
  refine ⟨hS2.trans hb3, ?_⟩
  obtain ⟨A3, c3, rfl⟩ := own_slice hO3
  simp only [Act.put, List.setIfInBounds_toArray, List.set_cons_zero, List.set_cons_succ]
  repeat first | refine sP ?_ | refine sS ?_ | refine sA ?_ | refine sL ?_ | refine sQ ?_ | refine sO ?_
  refine Reg.tail_ fun w4 hS4 => ?_
  have hk := (Loc.on ((hS.trans (On.alloc (On.refl _) _)).trans (hS2.trans (hb3.trans hS4))) hL.out).2.1
  have hc := blk_cell hk
  have hf := blk_frozen hk
  have hk' := Aside0.mk hk
  clear hk
  go_wp2
  have hsz := hS.size
  simp only [World.size_alloc] at hsz
  refine bodyPost_ret (retF rfl rfl (g := w.heap.size + 1) (blk_set (blk_set hk'.out 0 _) 1 _) rfl) rfl ?_
  exact ⟨_, rfl, _, rfl, own_lower (ownsRow_setCell_below (ownsRow_setCell_below (pw_own_below hO3 hS4) (by simp; omega) _) (by simp; omega) _) (by omega), Reg.On.set (Reg.On.set (((hb.out.trans hS).trans (On.alloc (On.refl _) _)).trans (hS2.trans (hb3.trans hS4))) (by simp) _) (by simp) _⟩
theorem blk_ex {S : Nat → Prop} {W w : World} {g : Nat} {o : Obj} (h : Ex S W w) (hg : W.heap[g]? = some o) (hn : ¬ S g) : w.heap[g]? = some o := (h.block g (blk_lt hg) hn).trans hg
theorem Fcts.ex {S : Nat → Prop} {w0 W w : World} {A : Option Addr} {c : Nat} {fs : List Fct} (h : Fcts w0 A c fs) (hb : On w0 W) (hE : Ex S W w) (hS : ∀ i, S i → w0.heap.size ≤ i) : Fcts w A c fs := h.on (Ex.on hb hE hS)
/-- The row of copies, one more. -/
theorem copy_more {lo : Nat} {hs : List Hdr} {fs : List Fct} {A' A2 : Option Addr} {c' c2 : Nat} {r : Int} {vs : List Int} {wr w2 w5 w6 : World} (hS : Sep wr lo hs fs) (hlo : lo ≤ wr.heap.size) (hO : OH wr lo (.slice A' hs.length c') hs) (h2 : OI w2 wr.heap.size (.slice A2 vs.length c2) vs) (hR : InR vs) (hb : On wr w2) (hb5 : On w2 w5)
    (hg : w5.grownBy w6 (Value.ownBlock (.slice A' hs.length c'))) : Sep w6 lo (hs ++ [(r, A2, vs.length, c2)]) (fs ++ [(r, vs)]) := by
  have h5 := Sep.snoc (a := (r, A2, vs.length, c2)) (f := (r, vs)) hS (hb.trans hb5) hlo rfl (pw_own_below h2 hb5) hR
  refine Sep.ex h5 (Ex.of_grown hg) (fun i a b ha hbk e => ?_)
  have hlt := own_lt hO b e.symm
  have hab := (h5.at_ i a _ ha (List.getElem?_eq_getElem (by rw [← h5.len]; exact (List.getElem?_eq_some_iff.1 ha).1))).2.1
  have := own_ne_blk hab (pw_own_below hO (hb.trans hb5)) (by decide) hbk
  exact this e.symm
theorem l5Copy_calls (w : World) (A0 c0 A1 c1) (rs : List Rel) (fs : List Fct) (h0 : Rels w A0 c0 rs) (h1 : Fcts w A1 c1 fs) (hl0 : rs.length ≤ 2000000) (hl : fs.length ≤ 2000000) (hl2 : ∀ f ∈ fs, f.2.length ≤ 2000000) : Calls Tryz.prog 38 #[.agg #[.slice A0 rs.length c0, .slice A1 fs.length c1]] w (Got fun v w' => OIn w' w.heap.size v rs fs ∧ On w w') := by
  have hb := Aside0.mk (On.alloc (On.alloc (On.refl w) (.cells #[.slice A0 rs.length c0, .slice A1 fs.length c1] 27)) (.cells #[.slice none 0 0, .slice none 0 0] 27))
  have hL := Aside0.mk (loc2 w #[.slice A0 rs.length c0, .slice A1 fs.length c1] #[.slice none 0 0, .slice none 0 0] 27 27)
  go_enter Tryz.func38, Tryz.ntmps38
  go_wp2_with (refine gate 8 ?_)
  refine ⟨apRf 8 (List.nil_append _) (lit_own' (w.heap.size + 1 + 1) _ (by simp) #[] 81 3 0 (w.heap.size + 2) (by simp) (by omega) rfl) rfl (h0.on (hb.out.trans (On.alloc (On.refl _) _))) (by simp) (by omega) fun v1 w1 hO1 hb1 => ?_⟩
  obtain ⟨Ar, cr, rfl⟩ := own_slice hO1
  have hfill := alloc_fill w1
  go_wp2
  clear hfill
  have hbL := Aside0.mk (Loc.on ((On.alloc (On.refl _) _).trans hb1) hL.out)
  have hB1 := Aside0.mk (hb.out.trans ((On.alloc (On.refl _) _).trans hb1))
  have hOR := Aside0.mk hO1
  clear hb1 hO1
  have hyb := Aside0.mk (loc_new w1 #[.slice Ar rs.length cr, .slice none 0 0] 27)
  have hBy := Aside0.mk (On.alloc (On.refl w1) (.cells #[.slice Ar rs.length cr, .slice none 0 0] 27))
  have hsy := Aside0.mk (show (w1.alloc (.cells #[.slice Ar rs.length cr, .slice none 0 0] 27)).heap.size = w1.heap.size + 1 by simp)
  obtain ⟨Wy, hWy⟩ : ∃ Wy, w1.alloc (.cells #[.slice Ar rs.length cr, .slice none 0 0] 27) = Wy := ⟨_, rfl⟩
  rw [hWy] at hyb hBy hsy ⊢
  clear hWy
  go_loopw [4] (fun v wr => ∃ (k : Nat) (hs : List Hdr) (A' : Option Addr) (c' : Nat), k ≤ fs.length ∧ v = .int .i64 k ∧ Aside0 (OH wr (w1.heap.size + 1) (.slice A' hs.length c') hs) ∧ Aside0 (Sep wr (w1.heap.size + 1) hs (fs.take k)) ∧ Aside0 (w1.heap.size + 1 ≤ wr.heap.size) ∧ Aside0 (Ex (fun b => w1.heap.size ≤ b) w1 wr) ∧ wr.heap[w1.heap.size]? = some (.cells #[.slice Ar rs.length cr, .slice A' hs.length c'] 27 (0, 0))) (fun v _ => fs.length - (intOf v).toNat)
  case atStart => exact ⟨0, [], none, 0, Nat.zero_le _, rfl, ⟨World.ownsRow_nil _ _ _ _⟩, ⟨Sep.nil _ _⟩, ⟨by rw [hsy.out]; exact Nat.le_refl _⟩, ⟨Ex.of_on hBy.out⟩, hyb.out⟩
  case round =>
    obtain ⟨k, hs, A', c', hk, rfl, hO, hS, hsz, hE, hy⟩ := hrel
    have hlen := Aside0.mk (show hs.length = k by have := hS.out.len; rw [List.length_take] at this; omega)
    have hB := Aside0.mk (Ex.on hB1.out hE.out (fun i hi => by have := hB1.out.size; omega))
    have hLr := Aside0.mk (show Loc wr _ from Loc.on (Ex.to_on hE.out (fun i hi => hi)) hbL.out)
    have hc0 := blk_cell hLr.out.1
    have hcy := blk_cell hy
    have hy' := Aside0.mk hy
    clear hy
    by_cases hlt : k < fs.length
    · obtain ⟨ad, A3, c3, rfl, hx0, hx1, hx2⟩ := (h1.on hB.out).at k hlt
      go_wp2
      refine Reg.region [(0,.L),(1,.L),(2,.L),(3,.L),(4,.L),(5,.L),(6,.L),(7,.N),(8,.N)] [9,10,11] (by kernel_rfl) (by kernel_rfl) ?_
      repeat first | refine sP ?_ | refine sS ?_ | refine sA ?_ | refine sL ?_ | refine sQ ?_ | refine sO ?_
      refine callN Tryz.func84 (fun w2 hS2 => ?_)
      focus
        refine (l5Fact_calls w2 A3 c3 fs[k] (hx2.on hS2) (hl2 _ (List.getElem_mem hlt))).mono ?_
        rintro e w3 ⟨v3, rfl, v4, rfl, hO4, hb3⟩
        obtain ⟨A4, c4, rfl⟩ := own_slice hO4
        refine ⟨_, rfl, hb3, fun a' ha => ?_⟩
        simp only [Act.put, List.setIfInBounds_toArray, List.set_cons_zero, List.set_cons_succ] at ha
        subst ha
        repeat first | refine sP ?_ | refine sS ?_ | refine sA ?_ | refine sL ?_ | refine sQ ?_ | refine sO ?_
        refine stepM (fun w4 hS4 => ?_)
        go_wp2
        refine ⟨hS4.trans (On.alloc (On.refl _) _), ?_⟩
        refine Reg.tail_ fun w5 hS5 => ?_
        have hB5 := Aside0.mk ((hS2.trans (hb3.trans (hS4.trans (On.alloc (On.refl _) _)))).trans hS5)
        have hlit := Aside0.mk (lit_RH hS5)
        have hO5 := Aside0.mk (pw_own_below hO.out hB5.out)
        obtain ⟨zs, hz⟩ : ∃ zs, hs ++ [(fs[k].1, A4, fs[k].2.length, c4)] = zs := ⟨_, rfl⟩
        have hz' := Aside0.mk hz
        refine apH 26 hz hO5.out hlit.out (Nat.le_trans hsz.out hB5.out.size) (by have := hlen.out; simp; omega) fun v6 w6 hO6 hg6 => ?_
        obtain ⟨A6, c6, rfl⟩ := own_slice hO6
        have hgy : some w1.heap.size ≠ Value.ownBlock (.slice A' hs.length c') := fun e => by have := own_base hO.out _ e.symm; omega
        have hk6 := blk_grown hg6 (blk_below hy'.out hB5.out) hgy
        have hcy6 := blk_cell hk6
        have hf6 := blk_frozen hk6
        have hk6' := Aside0.mk hk6
        have hS6 := Aside0.mk (copy_more (r := fs[k].1) (vs := fs[k].2) hS.out hsz.out hO.out (own_lower hO4 hS2.size) (hx2.2.2) (hS2.trans hb3) (hS4.trans ((On.alloc (On.refl _) _).trans hS5)) hg6)
        have hS6 := Aside0.mk (hz ▸ hS6.out)
        clear hk6 hgy hcy hz
        go_wp2
        refine ⟨⟨k + 1, zs, A6, c6, by omega, by go_num, ⟨ownsRow_setCell_below hO6 (Nat.lt_succ_self _) _⟩, ⟨?_⟩, ⟨?_⟩, ⟨?_⟩, blk_set hk6'.out 1 _⟩, by simp [intOf]; omega⟩
        · rw [List.take_succ_eq_append_getElem hlt]
          exact Sep.set hS6.out (Nat.lt_succ_self _) _
        · have h3 := hg6.size; have h4 := hB5.out.size; have := hsz.out; simp [World.setCell]; omega
        · exact ((hE.out.then_on hB5.out).trans (Ex.of_grown hg6) (fun i _ e => by have := own_base hO5.out i e.symm; omega)).trans (Ex.set _ _ _) (fun i _ e => by subst e; exact Nat.le_refl _)
    · have e1 : fs.take k = fs := List.take_of_length_le (by omega)
      rw [e1] at hS
      have hcr := blk_cell hLr.out.2.1
      have hfr := blk_frozen hLr.out.2.1
      go_wp2
      have hs1 := hBy.out.size
      have hs2 := hLr.out.2.1
      refine bodyPost_ret (retI rfl rfl (g := w.heap.size + 1) (blk_set (blk_set hLr.out.2.1 0 _) 1 _) rfl) rfl ?_
      have hw1 := blk_lt hbL.out.2.1
      refine ⟨_, rfl, ⟨_, _, hs, rfl, ?_, ?_, ?_⟩, ?_⟩
      · have h5 := own_ex hOR.out hE.out (fun i hi h => by have := own_lt hOR.out i hi; omega)
        exact own_lower (ownsRow_setCell_below (ownsRow_setCell_below h5 (by simp) _) (by simp) _) (by omega)
      · exact own_lower (ownsRow_setCell_below (ownsRow_setCell_below hO.out (by simp; omega) _) (by simp; omega) _) (by omega)
      · exact Sep.lower (Sep.set (Sep.set hS.out (by simp; omega) _) (by simp; omega) _) (by omega)
      · exact Reg.On.set (Reg.On.set hB.out (by simp) _) (by simp) _
end Go.Proofs.YtngjhblbpapjeaaGreat.H
/- Walks: the reference takes a fact out; restricts. No condition. -/
namespace Go.Proofs.YtngjhblbpapjeaaGreat.H
open Go Go.RowKit Go.Proofs.YtngjhblbpapjeaaGreatW.PrintWords Go.Proofs.YtngjhblbpapjeaaGreatW.PrintLast
open Go.Proofs.YtngjhblbpapjeaaGreat.Reg (On on_draw)
set_option maxHeartbeats 1000000
set_option maxRecDepth 100000
set_option linter.unusedVariables false
set_option linter.unusedSimpArgs false

/-- An instance that is read. -/
structure RIn (w : World) (v : Value) (rs : List Rel) (fs : List Fct) : Prop where mk :: (out : ∃ A0 c0 A1 c1, v = .agg #[.slice A0 rs.length c0, .slice A1 fs.length c1] ∧ Rels w A0 c0 rs ∧ Fcts w A1 c1 fs)
theorem RIn.on {W w : World} {v : Value} {rs : List Rel} {fs : List Fct} (h : RIn W v rs fs) (hb : On W w) : RIn w v rs fs := by
  obtain ⟨A0, c0, A1, c1, e, h0, h1⟩ := h.out
  exact ⟨A0, c0, A1, c1, e, h0.on hb, h1.on hb⟩
theorem OIn.read {w : World} {lo : Nat} {v : Value} {rs : List Rel} {fs : List Fct} (h : OIn w lo v rs fs) : RIn w v rs fs := by
  obtain ⟨vr, vf, hs, rfl, hR, hH, hS⟩ := h.out
  obtain ⟨A0, c0, rfl, h0⟩ := OR.rd hR
  obtain ⟨A1, c1, rfl, h1⟩ := OH.rd hH hS.reads
  exact ⟨A0, c0, A1, c1, rfl, h0, h1⟩
theorem RH.take {w : World} {A : Option Addr} {c : Nat} {hs : List Hdr} (h : RH w A c hs) (k : Nat) (hk : k ≤ hs.length) : RH w A c (hs.take k) := by
  have hl : (hs.take k).length = k := by rw [List.length_take]; omega
  refine ⟨by rw [hl]; have := h.cap; omega, by rw [hl]; have := h.max; omega, fun j u hu => h.cell j u ?_⟩
  have e : hs.flatMap encH = (hs.take k).flatMap encH ++ (hs.drop k).flatMap encH := by rw [← List.flatMap_append, List.take_append_drop]
  rw [e, List.getElem?_append_left (List.getElem?_eq_some_iff.1 hu).1]; exact hu
theorem RH.drop {w : World} {A : Option Addr} {c : Nat} {hs : List Hdr} (h : RH w A c hs) (k : Nat) (hk : k ≤ hs.length) : RH w (if c = k then A else A.map (·.add (k * 2))) (c - k) (hs.drop k) := by
  have hl : (hs.drop k).length = hs.length - k := List.length_drop
  have hcap := h.cap
  have e : hs.flatMap encH = (hs.take k).flatMap encH ++ (hs.drop k).flatMap encH := by rw [← List.flatMap_append, List.take_append_drop]
  have hl2 : ((hs.take k).flatMap encH).length = k * 2 := by rw [flat_len (enc := encH) (sz := 2) (fun _ => rfl), List.length_take]; congr 1; omega
  refine ⟨by rw [hl]; omega, by rw [hl]; have := h.max; omega, fun j u hu => ?_⟩
  obtain ⟨ad, e2, hc⟩ := h.cell (k * 2 + j) u (by rw [e, List.getElem?_append_right (by omega), hl2, show k * 2 + j - k * 2 = j by omega]; exact hu)
  subst e2
  have hlt : 0 < (hs.drop k).length := by
    have := (List.getElem?_eq_some_iff.1 hu).1
    rw [flat_len (enc := encH) (sz := 2) (fun _ => rfl)] at this
    omega
  rw [if_neg (by omega)]
  exact ⟨_, rfl, by rw [Addr.add_add]; exact hc⟩
section
variable {ops : Array Oper} {Q : Exit → Act → World → Prop} {i : Nat} {tail : List Nat} {l : List (Nat × Reg.K)} {a : Act} {W : World} {o : Oper} {N : Tmp}
/-- Cuts of rows of facts. -/
theorem sTo {x y : Operand} {A : Option Addr} {n c k : Nat} (hk : k ≤ n) (hc : n ≤ c) (h : Reg.Ord Tryz.prog ops Q tail l (a.put (some N) (.slice A k c)) W) (hi : ops[i]? = some o := by rfl) (hN : o.dst = some N := by rfl) (hw : Region.wanted o (yielded ops a.tmps) = true := by rfl)
    (hop : o.op = .slice 25 x none (some y) none := by rfl) (hx : a.eval x = .slice A n c := by rfl) (hy : a.eval y = .int .i64 (k : Int) := by rfl) : Reg.Ord Tryz.prog ops Q tail ((i, .L) :: l) a W := by
  obtain ⟨i0, hi0, _, hsz, _⟩ := info_parts infoF
  have hcut := cut_to (P := Tryz.prog) 25 30 .i64 Tryz.underlying25 hi0 A n c (k : Int) (by omega) (by omega) hc
  refine Reg.stepL (v := .slice A k c) (fun w _ => ?_) h hi hN hw
  unfold execOp
  simp only [hop, hx, hy, Option.map_some, Option.map_none]
  have := hcut w
  simp only [Int.toNat_natCast] at this
  go_simp
theorem sFrom {x y : Operand} {A A' : Option Addr} {n c k m c' : Nat} (hA : (if c = k then A else A.map (·.add (k * 2))) = A') (hm : n - k = m) (hc' : c - k = c') (hk : k ≤ n) (hc : n ≤ c) (h : Reg.Ord Tryz.prog ops Q tail l (a.put (some N) (.slice A' m c')) W) (hi : ops[i]? = some o := by rfl) (hN : o.dst = some N := by rfl) (hw : Region.wanted o (yielded ops a.tmps) = true := by rfl)
    (hop : o.op = .slice 25 x (some y) none none := by rfl) (hx : a.eval x = .slice A n c := by rfl) (hy : a.eval y = .int .i64 (k : Int) := by rfl) : Reg.Ord Tryz.prog ops Q tail ((i, .L) :: l) a W := by
  subst hA hm hc'
  obtain ⟨i0, hi0, _, hsz, _⟩ := info_parts infoF
  have hcut := cut_from (P := Tryz.prog) 25 30 .i64 Tryz.underlying25 hi0 2 hsz A n c (k : Int) (by omega) (by omega)
  refine Reg.stepL (v := .slice (if c = k then A else A.map (·.add (k * 2))) (n - k) (c - k)) (fun w _ => ?_) h hi hN hw
  unfold execOp
  simp only [hop, hx, hy, Option.map_some, Option.map_none]
  have := hcut w
  simp only [Int.toNat_natCast] at this
  go_simp
end
/-- What is left of an instance's facts without g. -/
def delI (rs : List Rel) (fs : List Fct) (g : Fct) : List Fct := if okInst rs fs && hasF fs g then delF fs g else fs
theorem factsFrom_asc {rs : List Rel} : ∀ {p : Option Fct} {fs : List Fct}, factsFrom rs p fs = true → Asc fs ∧ ∀ q, p = some q → ∀ f ∈ fs, cmpF q f < 0
  | _, [], _ => ⟨List.Pairwise.nil, fun _ _ _ h => by cases h⟩
  | p, f :: fs, h => by
    simp only [factsFrom, Bool.and_eq_true] at h
    obtain ⟨h1, h2⟩ := factsFrom_asc h.2
    refine ⟨List.pairwise_cons.2 ⟨h2 f rfl, h1⟩, fun q hq g hg => ?_⟩
    subst hq
    have hqf : cmpF q f < 0 := by
      have := h.1; simp only [okNext, okPrev, Bool.and_eq_true, decide_eq_true_eq] at this; exact this.1.2
    rcases List.mem_cons.1 hg with rfl | hg
    · exact hqf
    · exact cmpF_trans _ _ _ hqf (h2 f rfl g hg)
theorem okInst_asc {rs : List Rel} {fs : List Fct} (h : okInst rs fs = true) : Asc fs := by
  simp only [okInst, Bool.and_eq_true] at h; exact (factsFrom_asc h.1).1
theorem okInst_len {rs : List Rel} {fs : List Fct} (h : okInst rs fs = true) : rs.length ≤ 6 ∧ fs.length ≤ 30 := by
  simp only [okInst, okRels, Bool.and_eq_true, decide_eq_true_eq] at h; exact ⟨h.2.1.2, h.2.2⟩
theorem sDeleteFact_calls (w : World) (A0 c0 A1 c1) (rs : List Rel) (fs : List Fct) (h0 : Rels w A0 c0 rs) (h1 : Fcts w A1 c1 fs) (A2 c2) (g : Fct) (h2 : Ints w A2 c2 g.2) (hl0 : rs.length ≤ 2000000) (hl : fs.length ≤ 2000000) (hl2 : ∀ f ∈ fs, f.2.length ≤ 2000000) :
    Calls Tryz.prog 15 #[.agg #[.slice A0 rs.length c0, .slice A1 fs.length c1], .agg #[.int .i64 g.1, .slice A2 g.2.length c2]] w (Got fun v w' => ∃ v1, v = .tuple #[v1, .bool (okInst rs fs && hasF fs g)] ∧ OIn w' w.heap.size v1 rs (delI rs fs g) ∧ On w w') := by
  have hb := Aside0.mk (On.alloc (On.alloc (On.alloc (On.refl w) (.cells #[.slice A0 rs.length c0, .slice A1 fs.length c1] 27)) (.cells #[.int .i64 g.1, .slice A2 g.2.length c2] 30)) (.cells #[.slice none 0 0, .slice none 0 0] 27))
  have hL := Aside0.mk (loc3 w #[.slice A0 rs.length c0, .slice A1 fs.length c1] #[.int .i64 g.1, .slice A2 g.2.length c2] #[.slice none 0 0, .slice none 0 0] 27 30 27)
  have hsz3 := Aside0.mk (show (((w.alloc (.cells #[.slice A0 rs.length c0, .slice A1 fs.length c1] 27)).alloc (.cells #[.int .i64 g.1, .slice A2 g.2.length c2] 30)).alloc (.cells #[.slice none 0 0, .slice none 0 0] 27)).heap.size = w.heap.size + 3 by simp)
  cases ho : okInst rs fs && hasF fs g with
  | false =>
    have ho' := Aside0.mk ho
    clear ho
    go_enter Tryz.func15, Tryz.ntmps15
    go_wp2_with (first
      | (go_at_call 38; refine (l5Copy_calls _ A0 c0 A1 c1 rs fs (h0.on hb.out) (h1.on hb.out) hl0 hl hl2).mono ?_; rintro e w1 ⟨v1, rfl, ⟨vr, vf, hs, rfl, hR, hH, hS⟩, hb1⟩; obtain ⟨Ar, cr, rfl⟩ := own_slice hR; obtain ⟨Af, cf, rfl⟩ := own_slice hH; have hfill := alloc_fill w1; have hI := Aside0.mk (OIn.mk ⟨_, _, hs, rfl, hR, hH, hS⟩); have hB1 := Aside0.mk (hb1.trans (On.alloc (On.refl _) (.cells #[.slice Ar rs.length cr, .slice Af hs.length cf] 27))); have hL1 := Aside0.mk (Loc.on hB1.out hL.out); have hc0 := blk_cell hL1.out.1; have hc1 := blk_cell hL1.out.2.1; have hY1 := Aside0.mk (loc_new w1 #[.slice Ar rs.length cr, .slice Af hs.length cf] 27); clear hR hH hS)
      | (go_at_call 40; refine (sContainsFact_calls _ A0 c0 A1 c1 rs fs (h0.on (hb.out.trans hB1.out)) (h1.on (hb.out.trans hB1.out)) A2 c2 g (h2.on (hb.out.trans hB1.out))).mono ?_; rintro e w2 ⟨rfl, hb2⟩; rw [ho'.out]; have hL2 := Aside0.mk (Loc.on (hB1.out.trans hb2) hL.out); have hy := blk_cell (blk_below hY1.out hb2); have hcr : ∀ i, w2.cell? ⟨w.heap.size + 1 + 1, i, none⟩ = _ := blk_cell hL2.out.2.2.1; have hfr : ∀ i, w2.frozen? ⟨w.heap.size + 1 + 1, i, none⟩ = _ := blk_frozen hL2.out.2.2.1; have hI2 := Aside0.mk (hI.out.on ((On.alloc (On.refl _) _).trans hb2)); clear hc0 hc1 hfill))
    refine bodyPost_ret (retIB rfl rfl (g := w.heap.size + 2) (blk_set (blk_set hL2.out.2.2.1 0 _) 1 _) rfl) rfl ?_
    have hI3 := hI2.out
    rw [hsz3.out] at hI3
    refine ⟨_, rfl, _, rfl, ?_, Reg.On.set (Reg.On.set (hb.out.trans (hB1.out.trans hb2)) (by simp; omega) _) (by simp; omega) _⟩
    unfold delI; rw [ho'.out, if_neg (by simp)]
    exact OIn.lower (OIn.set (OIn.set hI3 (by simp) _) (by simp) _) (by omega)
  | true =>
    have hg : g ∈ fs := (hasF_mem fs g).1 (Bool.and_eq_true_iff.1 ho).2
    have hasc := okInst_asc (Bool.and_eq_true_iff.1 ho).1
    have hle := okInst_len (Bool.and_eq_true_iff.1 ho).1
    rcases place_spec fs g with ⟨_, hn⟩ | ⟨k, hk, hpl, hkg, _⟩
    · exact absurd hg hn
    have hdel := Aside0.mk (show delI rs fs g = fs.take k ++ fs.drop (k + 1) by unfold delI; rw [ho, if_pos rfl, delF_at fs g hasc k hk hkg])
    have ho' := Aside0.mk ho
    clear ho hg hasc hkg
    go_enter Tryz.func15, Tryz.ntmps15
    go_wp2_with (first
      | (go_at_call 38; refine (l5Copy_calls _ A0 c0 A1 c1 rs fs (h0.on hb.out) (h1.on hb.out) hl0 hl hl2).mono ?_; rintro e w1 ⟨v1, rfl, ⟨vr, vf, hs, rfl, hR, hH, hS⟩, hb1⟩; obtain ⟨Ar, cr, rfl⟩ := own_slice hR; obtain ⟨Af, cf, rfl⟩ := own_slice hH; have hfill := alloc_fill w1; have hR1 := Aside0.mk hR; have hH1 := Aside0.mk hH; have hS1 := Aside0.mk hS; have hlen := Aside0.mk hS.len; have hB1 := Aside0.mk (hb1.trans (On.alloc (On.refl _) (.cells #[.slice Ar rs.length cr, .slice Af hs.length cf] 27))); have hL1 := Aside0.mk (Loc.on hB1.out hL.out); have hc0 := blk_cell hL1.out.1; have hc1 := blk_cell hL1.out.2.1; have hY1 := Aside0.mk (loc_new w1 #[.slice Ar rs.length cr, .slice Af hs.length cf] 27); clear hR hH hS)
      | (go_at_call 40; refine (sContainsFact_calls _ A0 c0 A1 c1 rs fs (h0.on (hb.out.trans hB1.out)) (h1.on (hb.out.trans hB1.out)) A2 c2 g (h2.on (hb.out.trans hB1.out))).mono ?_; rintro e w2 ⟨rfl, hb2⟩; rw [ho'.out]; have hL2 := Aside0.mk (Loc.on (hB1.out.trans hb2) hL.out); have hy := blk_cell (blk_below hY1.out hb2); have hcg := blk_cell hL2.out.2.1; have hb2' := Aside0.mk ((On.alloc (On.refl w1) (.cells #[.slice Ar rs.length cr, .slice Af hs.length cf] 27)).trans hb2); have hF2 := Aside0.mk ((OH.rh (pw_own_below hH1.out hb2'.out)).2.fcts ((hS1.out.on hb2'.out).reads)); clear hc0 hc1 hfill)
      | (go_at_call 53; rw [hlen.out]; refine (l5Place_calls w2 Ar rs.length cr Af cf A2 c2 fs g hF2.out (h2.on (hb.out.trans (hB1.out.trans hb2)))).mono ?_; rintro e w3 ⟨rfl, hb3⟩; rw [hpl]; have hL3 := Aside0.mk (Loc.on hb3 hL2.out); have hY3 := Aside0.mk (blk_below (blk_below hY1.out hb2) hb3); have hy3 := blk_cell hY3.out; clear hy hcg))
    have hH3 := Aside0.mk (pw_own_below hH1.out (hb2'.out.trans hb3))
    have hS3 := Aside0.mk (hS1.out.on (hb2'.out.trans hb3))
    have hRH := Aside0.mk (OH.rh hH3.out).2
    have hkk := Aside0.mk (show k < hs.length by rw [hlen.out]; exact hk)
    have hcap := hRH.out.cap
    have hB3 := Aside0.mk (hB1.out.trans (hb2.trans hb3))
    refine Reg.region [(1,.L),(2,.L),(3,.L),(4,.L),(6,.L),(7,.L),(8,.L),(9,.L),(10,.L),(0,.N),(5,.N)] [11,12,13] (by kernel_rfl) (by kernel_rfl) ?_
    repeat first | refine sP ?_ | refine sS ?_ | refine sA ?_ | refine sL ?_ | refine sQ ?_ | refine sO ?_
    refine sTo (k := k) (Nat.le_of_lt hkk.out) hcap ?_
    simp only [Act.put, List.setIfInBounds_toArray, List.set_cons_zero, List.set_cons_succ]
    repeat first | refine sP ?_ | refine sS ?_ | refine sA ?_ | refine sL ?_ | refine sQ ?_ | refine sO ?_
    obtain ⟨xs, hxs⟩ : ∃ xs, hs.take k = xs := ⟨_, rfl⟩
    obtain ⟨ys, hys⟩ : ∃ ys, hs.drop (k + 1) = ys := ⟨_, rfl⟩
    obtain ⟨Ad, hAd⟩ : ∃ Ad, (if cf = k + 1 then Af else Af.map (·.add ((k + 1) * 2))) = Ad := ⟨_, rfl⟩
    obtain ⟨cd, hcd⟩ : ∃ cd, cf - (k + 1) = cd := ⟨_, rfl⟩
    refine sFrom (k := k + 1) (m := ys.length) hAd (by rw [← hys, List.length_drop]) hcd hkk.out hcap ?_
    have hRx := Aside0.mk (hxs ▸ hRH.out.take k (Nat.le_of_lt hkk.out))
    have hRy := Aside0.mk (show RH w3 Ad cd ys from hAd ▸ hcd ▸ hys ▸ hRH.out.drop (k + 1) hkk.out)
    have hxl := Aside0.mk (show xs.length = k by rw [← hxs, List.length_take]; have := hkk.out; omega)
    have hxys := Aside0.mk (show hs.take k ++ hs.drop (k + 1) = xs ++ ys by rw [hxs, hys])
    clear hxs hys hAd hcd hcap
    simp only [Act.put, List.setIfInBounds_toArray, List.set_cons_zero, List.set_cons_succ]
    refine stepM (fun w4 hS4 => ?_)
    go_wp2
    refine ⟨hS4.trans (On.alloc (On.refl _) _), ?_⟩
    refine stepM (fun w5 hS5 => ?_)
    have hS35 := Aside0.mk (hS4.trans ((On.alloc (On.refl _) _).trans hS5))
    refine apHf 23 (List.nil_append xs) (pw_own_below (lit_own w4 #[] 30 2 0 w4.heap.size (Nat.le_refl _) (by omega) rfl) hS5) rfl (hRx.out.on hS35.out) (Nat.le_trans (by simp) hS5.size) (by have := hxl.out; omega) (fun v6 w6 hO6 hb6 => ?_) (hx := by rw [hxl.out]; rfl)
    refine ⟨hS5.trans hb6, ?_⟩
    obtain ⟨A6, c6, rfl⟩ := own_slice hO6
    simp only [Act.put, List.setIfInBounds_toArray, List.set_cons_zero, List.set_cons_succ]
    refine Reg.tail_ fun w7 hS7 => ?_
    have hB7 := Aside0.mk (hS35.out.trans (hb6.trans hS7))
    have hO7 := Aside0.mk (pw_own_below hO6 hS7)
    have hs34 := hS4.size
    have hs45 := ((On.alloc (On.refl w4) (.cells #[] 30)).trans hS5).size
    have hw13 : w.heap.size + 3 ≤ w1.heap.size := by have := hb1.size; rwa [hsz3.out] at this
    have hw1l : w1.heap.size < w3.heap.size := blk_lt hY3.out
    have hge : ∀ i, some i = Value.ownBlock (.slice A6 xs.length c6) → w4.heap.size ≤ i := fun i e => own_base hO6 i e.symm
    have hge' := Aside0.mk hge
    obtain ⟨zs, hzs⟩ : ∃ zs, xs ++ ys = zs := ⟨_, rfl⟩
    have hzl : xs.length + ys.length ≤ 1000000000 := by have h5 := congrArg List.length hxys.out; rw [List.length_append, List.length_append, List.length_take, List.length_drop] at h5; have := hlen.out; omega
    refine apH 29 hzs hO7.out (hRy.out.on hB7.out) (by have := (hb6.trans hS7).size; omega) hzl fun v8 w8 hO8 hg8 => ?_
    obtain ⟨A8, c8, rfl⟩ := own_slice hO8
    have hy8 := blk_grown hg8 (blk_below hY3.out hB7.out) (fun e => by have := hge _ e; have := blk_lt hY1.out; have := (hb2'.out.trans hb3).size; have := blk_lt hY3.out; omega)
    have hr8 := blk_grown hg8 (Loc.on hB7.out hL3.out).2.2.1 (fun e => by have := hge _ e; have := blk_lt hL3.out.2.2.1; omega)
    have hcy := blk_cell hy8
    have hfy := blk_frozen hy8
    have hcr : ∀ i, w8.cell? ⟨w.heap.size + 1 + 1, i, none⟩ = _ := blk_cell hr8
    have hfr : ∀ i, w8.frozen? ⟨w.heap.size + 1 + 1, i, none⟩ = _ := blk_frozen hr8
    have hr8' := Aside0.mk hr8
    have hne := Aside0.mk (show w.heap.size + 2 ≠ w1.heap.size by have := hb1.size; rw [hsz3.out] at this; omega)
    have hne1 : ¬ (w.heap.size + 1 + 1 = w1.heap.size) := hne.out
    have hne2 : ¬ (w1.heap.size = w.heap.size + 1 + 1) := fun e => hne.out e.symm
    have hy8' := Aside0.mk hy8
    clear hy8 hr8 hge hy3 hzl
    go_wp2
    refine bodyPost_ret (retIB rfl rfl (g := w.heap.size + 2) (blk_set (blk_set (blk_far hr8'.out (by simpa using hne1) _) 0 _) 1 _) rfl) rfl ?_
    have hEx : Ex (fun b => w1.heap.size = b ∨ w4.heap.size ≤ b) w3 (w8.setCell ⟨w1.heap.size, 1, none⟩ (.slice A8 zs.length c8)) :=
      ((Ex.of_on hB7.out).trans (Ex.of_grown hg8) (fun i _ e => .inr (hge'.out i e))).trans (Ex.set _ _ _) (fun i _ e => .inl e.symm)
    have hI : OIn (w8.setCell ⟨w1.heap.size, 1, none⟩ (.slice A8 zs.length c8)) (w.heap.size + 3) (.agg #[.slice Ar rs.length cr, .slice A8 zs.length c8]) rs (fs.take k ++ fs.drop (k + 1)) := by
      have hR3 := pw_own_below hR1.out (hb2'.out.trans hb3)
      have hy3' := blk_lt hY3.out
      rw [hsz3.out] at hR3
      have hS9 := hS3.out.erase k
      rw [hxys.out, hzs, hsz3.out] at hS9
      refine ⟨_, _, zs, rfl, own_ex hR3 hEx (fun i hi h => ?_), own_lower (own_ex hO8 (Ex.set _ _ _) (fun i hi h => ?_)) (by omega), hS9.ex hEx (fun i a b ha hb h => ?_)⟩
      · have := own_lt hR1.out i hi; omega
      · have h7 := own_base hO8 i hi; have h8 : i = w1.heap.size := h; omega
      · have h1 := (hS1.out.erase k)
        rw [hxys.out, hzs] at h1
        have := h1.lt ha hb; omega
    rw [hdel.out]
    refine ⟨_, rfl, _, rfl, OIn.lower (OIn.set (OIn.set hI (by simp) _) (by simp) _) (by omega), Reg.On.set (Reg.On.set (Ex.on (hb.out.trans (hB1.out.trans (hb2.trans hb3))) hEx (fun i h => by omega)) (by simp; omega) _) (by simp; omega) _⟩
/-- The facts of the source's relations, or of the others. -/
def resF (rs : List Rel) (fs : List Fct) (b : Bool) : List Fct := fs.filter fun f => srcOf rs f.1 == b
def resI (rs : List Rel) (fs : List Fct) (b : Bool) : List Fct := if okInst rs fs then resF rs fs b else []
def resR (rs : List Rel) (fs : List Fct) : List Rel := if okInst rs fs then rs else []
theorem resF_step (rs : List Rel) (fs : List Fct) (b : Bool) (k : Nat) (h : k < fs.length) : resF rs (fs.take (k + 1)) b = resF rs (fs.take k) b ++ (if srcOf rs fs[k].1 == b then [fs[k]] else []) := by
  unfold resF; rw [List.take_succ_eq_append_getElem h, List.filter_append, List.filter_cons]; split <;> simp
theorem factsFrom_mem {rs : List Rel} : ∀ {p : Option Fct} {fs : List Fct}, factsFrom rs p fs = true → ∀ f ∈ fs, okFact rs f = true
  | _, [], _, f, hf => by cases hf
  | p, g :: fs, h, f, hf => by
    simp only [factsFrom, okNext, Bool.and_eq_true] at h
    rcases List.mem_cons.1 hf with rfl | hf
    · exact h.1.1.1
    · exact factsFrom_mem h.2 f hf
theorem okInst_mem {rs : List Rel} {fs : List Fct} (h : okInst rs fs = true) : ∀ f ∈ fs, okFact rs f = true := by
  simp only [okInst, Bool.and_eq_true] at h; exact factsFrom_mem h.1
end Go.Proofs.YtngjhblbpapjeaaGreat.H
/- Walks: copies, and what the program holds to be in an instance. No condition. -/
namespace Go.Proofs.YtngjhblbpapjeaaGreat.H
open Go Go.RowKit Go.Proofs.YtngjhblbpapjeaaGreatW.PrintWords Go.Proofs.YtngjhblbpapjeaaGreatW.PrintLast
open Go.Proofs.YtngjhblbpapjeaaGreat.Reg (On on_draw)
set_option maxHeartbeats 1000000
set_option maxRecDepth 100000
set_option linter.unusedVariables false
set_option linter.unusedSimpArgs false

theorem iContainsFact_calls (w : World) (A0 c0 A1 c1) (rs : List Rel) (fs : List Fct) (h0 : Rels w A0 c0 rs) (h1 : Fcts w A1 c1 fs) (A2 c2) (g : Fct) (h2 : Ints w A2 c2 g.2) :
    Calls Tryz.prog 16 #[.agg #[.slice A0 rs.length c0, .slice A1 fs.length c1], .agg #[.int .i64 g.1, .slice A2 g.2.length c2]] w fun e w' => e = .returned (.bool (okInst rs fs && hasF fs g)) ∧ On w w' := by
  have hb := Aside0.mk (On.alloc (On.alloc (On.refl w) (.cells #[.slice A0 rs.length c0, .slice A1 fs.length c1] 27)) (.cells #[.int .i64 g.1, .slice A2 g.2.length c2] 30))
  have hL := Aside0.mk (loc2 w #[.slice A0 rs.length c0, .slice A1 fs.length c1] #[.int .i64 g.1, .slice A2 g.2.length c2] 27 30)
  cases ho : okInst rs fs with
  | false =>
    have ho' := Aside0.mk ho
    clear ho
    go_enter Tryz.func16, Tryz.ntmps16
    go_wp2_with (go_at_call 17; refine (iIsValidInstance_calls _ A0 c0 A1 c1 rs fs (h0.on hb.out) (h1.on hb.out)).mono ?_; rintro e w1 ⟨rfl, hb1⟩; rw [ho'.out])
    go_ret
    exact ⟨by simp, hb.out.trans hb1⟩
  | true =>
    have ho' := Aside0.mk ho
    clear ho
    go_enter Tryz.func16, Tryz.ntmps16
    go_wp2_with (first | (go_at_call 17; refine (iIsValidInstance_calls _ A0 c0 A1 c1 rs fs (h0.on hb.out) (h1.on hb.out)).mono ?_; rintro e w1 ⟨rfl, hb1⟩; rw [ho'.out]; have hL1 := Loc.on hb1 hL.out; have hc0 := blk_cell hL1.1; have hc1 := blk_cell hL1.2.1; clear hL1) | (go_at_call 35; refine (hasFact_calls w1 A1 c1 fs (h1.on (hb.out.trans hb1)) A2 c2 g (h2.on (hb.out.trans hb1))).mono ?_; rintro e w2 ⟨rfl, hb2⟩))
    go_ret
    exact ⟨ret_bool (by simp [hasF]), (hb.out.trans hb1).trans hb2⟩
theorem cloneI_calls (w : World) (A c) (xs : List Int) (h : Ints w A c xs) (hl : xs.length ≤ 5000000000) : Calls Tryz.prog 124 #[.slice A xs.length c] w (Got fun v w' => OI w' w.heap.size v xs ∧ On w w') := by
  have q : ∀ (w : World) (a : Option Addr) (n c n' c' : Nat), (binOp .eql 28 (.slice a n c) (.slice none n' c')).run Tryz.prog w = .ok (.bool a.isNone) w := fun w a n c n' c' => Lib.run_eql_slice_nil w _ _ a n c n' c' Tryz.underlying28
  cases A with
  | none =>
    obtain rfl : xs = [] := by
      cases xs with
      | nil => rfl
      | cons x xs => obtain ⟨ad, e, _⟩ := h.at 0 (by simp); cases e
    go_enter Tryz.func124, Tryz.ntmps124
    go_wp2
    go_ret
    exact ⟨_, rfl, World.ownsRow_nil _ _ _ _, On.refl _⟩
  | some ad =>
    go_enter Tryz.func124, Tryz.ntmps124
    go_wp2_with (refine gate 7 ?_)
    refine ⟨apIf 7 (List.nil_append _) (lit_own w #[] 3 1 0 w.heap.size (Nat.le_refl _) (by omega) rfl) rfl (h.on (On.alloc (On.refl _) _)) (by simp) (by omega) fun v1 w1 hO1 hb1 => ?_⟩
    go_wp2
    go_ret
    exact ⟨_, rfl, hO1, (On.alloc (On.refl _) _).trans hb1⟩
theorem cloneR_calls (w : World) (A c) (xs : List Rel) (h : Rels w A c xs) (hl : xs.length ≤ 2000000) : Calls Tryz.prog 80 #[.slice A xs.length c] w (Got fun v w' => OR w' w.heap.size v xs ∧ On w w') := by
  have q : ∀ (w : World) (a : Option Addr) (n c n' c' : Nat), (binOp .eql 24 (.slice a n c) (.slice none n' c')).run Tryz.prog w = .ok (.bool a.isNone) w := fun w a n c n' c' => Lib.run_eql_slice_nil w _ _ a n c n' c' Tryz.underlying24
  cases A with
  | none =>
    obtain rfl : xs = [] := by
      cases xs with
      | nil => rfl
      | cons x xs => obtain ⟨ad, e, _⟩ := h.at 0 (by simp); cases e
    go_enter Tryz.func80, Tryz.ntmps80
    go_wp2
    go_ret
    exact ⟨_, rfl, World.ownsRow_nil _ _ _ _, On.refl _⟩
  | some ad =>
    go_enter Tryz.func80, Tryz.ntmps80
    go_wp2_with (refine gate 7 ?_)
    refine ⟨apRf 7 (List.nil_append _) (lit_own w #[] 81 3 0 w.heap.size (Nat.le_refl _) (by omega) rfl) rfl (h.on (On.alloc (On.refl _) _)) (by simp) (by omega) fun v1 w1 hO1 hb1 => ?_⟩
    go_wp2
    go_ret
    exact ⟨_, rfl, hO1, (On.alloc (On.refl _) _).trans hb1⟩
theorem factCopy_calls (w : World) (A c) (f : Fct) (h : Ints w A c f.2) (hl : f.2.length ≤ 2000000) : Calls Tryz.prog 107 #[.agg #[.int .i64 f.1, .slice A f.2.length c]] w (Got fun v w' => ∃ v1, v = .agg #[.int .i64 f.1, v1] ∧ OI w' w.heap.size v1 f.2 ∧ On w w') := by
  have hb := Aside0.mk (On.alloc (On.alloc (On.refl w) (.cells #[.int .i64 f.1, .slice A f.2.length c] 30)) (.cells #[.int .i64 0, .slice none 0 0] 30))
  have hL := Aside0.mk (loc2 w #[.int .i64 f.1, .slice A f.2.length c] #[.int .i64 0, .slice none 0 0] 30 30)
  go_enter Tryz.func107, Tryz.ntmps107
  go_wp2
  refine Reg.region [(0,.L),(1,.L),(2,.L),(3,.L),(4,.N),(5,.L)] [6] (by kernel_rfl) (by kernel_rfl) ?_
  repeat first | refine sP ?_ | refine sS ?_ | refine sA ?_ | refine sL ?_ | refine sQ ?_ | refine sO ?_
  refine callN Tryz.func124 (fun w2 hS2 => ?_)
  refine (cloneI_calls w2 A c f.2 (h.on (hb.out.trans hS2)) (by omega)).mono ?_
  rintro e w3 ⟨v3, rfl, hO3, hb3⟩
  obtain ⟨A3, c3, rfl⟩ := own_slice hO3
  refine ⟨_, rfl, hb3, fun a' ha => ?_⟩
  simp only [Act.put, List.setIfInBounds_toArray, List.set_cons_zero, List.set_cons_succ] at ha
  subst ha
  repeat first | refine sP ?_ | refine sS ?_ | refine sA ?_ | refine sL ?_ | refine sQ ?_ | refine sO ?_
  refine Reg.tail_ fun w4 hS4 => ?_
  have hk := (Loc.on (hS2.trans (hb3.trans hS4)) hL.out).2.1
  have hc := blk_cell hk
  have hf := blk_frozen hk
  have hk' := Aside0.mk hk
  have hsz := hS2.size
  simp only [World.size_alloc] at hsz
  clear hk
  go_wp2
  refine bodyPost_ret (retF rfl rfl (g := w.heap.size + 1) (blk_set (blk_set hk'.out 0 _) 1 _) rfl) rfl ?_
  exact ⟨_, rfl, _, rfl, own_lower (ownsRow_setCell_below (ownsRow_setCell_below (pw_own_below hO3 hS4) (by simp; omega) _) (by simp; omega) _) (by omega), Reg.On.set (Reg.On.set ((hb.out.trans hS2).trans (hb3.trans hS4)) (by simp) _) (by simp) _⟩
theorem factsCopy_calls (w : World) (A c) (fs : List Fct) (h : Fcts w A c fs) (hl : fs.length ≤ 2000000) (hl2 : ∀ f ∈ fs, f.2.length ≤ 2000000) : Calls Tryz.prog 81 #[.slice A fs.length c] w (Got fun v w' => ∃ hs, OH w' w.heap.size v hs ∧ Sep w' w.heap.size hs fs ∧ On w w') := by
  go_enter Tryz.func81, Tryz.ntmps81
  go_wp2
  go_loopw [3, 9] (fun v3 v9 wr => ∃ (k : Nat) (hs : List Hdr) (A' : Option Addr) (c' : Nat), k ≤ fs.length ∧ v3 = .slice A' hs.length c' ∧ v9 = .int .i64 k ∧ Aside0 (OH wr w.heap.size (.slice A' hs.length c') hs) ∧ Aside0 (Sep wr w.heap.size hs (fs.take k)) ∧ On w wr) (fun _ v9 _ => fs.length - (intOf v9).toNat)
  case atStart => exact ⟨0, [], _, _, Nat.zero_le _, rfl, rfl, ⟨lit_own w #[] 30 2 0 w.heap.size (Nat.le_refl _) (by omega) rfl⟩, ⟨Sep.nil _ _⟩, On.alloc (On.refl _) _⟩
  case round =>
    obtain ⟨k, hs, A', c', hk, rfl, rfl, hO, hS, hB⟩ := hrel
    have hlen := Aside0.mk (show hs.length = k by have := hS.out.len; rw [List.length_take] at this; omega)
    by_cases hlt : k < fs.length
    · obtain ⟨ad, A3, c3, rfl, hx0, hx1, hx2⟩ := (h.on hB).at k hlt
      have hfill := alloc_fill wr
      have hcn := blk_cell (loc_new wr #[.int .i64 fs[k].1, .slice A3 fs[k].2.length c3] 30)
      have hbx := Aside0.mk (On.alloc (On.refl wr) (.cells #[.int .i64 fs[k].1, .slice A3 fs[k].2.length c3] 30))
      have hl3 := hl2 _ (List.getElem_mem hlt)
      go_wp2_with (first
        | (go_at_call 107; refine (factCopy_calls _ A3 c3 fs[k] (hx2.on hbx.out) hl3).mono ?_; rintro e w3 ⟨v3, rfl, v4, rfl, hO4, hb3⟩; obtain ⟨A4, c4, rfl⟩ := own_slice hO4; have hO4' := Aside0.mk (own_lower hO4 hbx.out.size); have hb3' := Aside0.mk (hbx.out.trans hb3); clear hO4 hb3 hfill hcn)
        | (refine gate 17 ?_))
      obtain ⟨zs, hz⟩ : ∃ zs, hs ++ [(fs[k].1, A4, fs[k].2.length, c4)] = zs := ⟨_, rfl⟩
      have hB6 := Aside0.mk (hb3'.out.trans (On.alloc (On.refl _) (.cells #[.int .i64 fs[k].1, .slice A4 fs[k].2.length c4] 30)))
      have hO6 := Aside0.mk (pw_own_below hO.out hB6.out)
      refine ⟨apH 17 hz hO6.out (lit_RH (On.refl _)) (Nat.le_trans hB.size hB6.out.size) (by have := hlen.out; simp; omega) fun v7 w7 hO7 hg7 => ?_⟩
      obtain ⟨A7, c7, rfl⟩ := own_slice hO7
      have hS7 := Aside0.mk (copy_more (r := fs[k].1) (vs := fs[k].2) hS.out hB.size hO.out hO4'.out hx2.2.2 hb3'.out (On.alloc (On.refl _) _) hg7)
      have hS7 := Aside0.mk (hz ▸ hS7.out)
      clear hz
      go_wp2
      refine ⟨⟨k + 1, zs, A7, c7, by omega, rfl, by go_num, ⟨hO7⟩, ⟨?_⟩, own_grows (hB.trans hB6.out) hO6.out hg7 (Nat.le_refl _)⟩, by simp [intOf]; omega⟩
      rw [List.take_succ_eq_append_getElem hlt]; exact hS7.out
    · have e1 : fs.take k = fs := List.take_of_length_le (by omega)
      rw [e1] at hS
      go_wp2
      go_ret
      exact ⟨_, rfl, hs, hO.out, hS.out, hB⟩
theorem instanceCopy_calls (w : World) (A0 c0 A1 c1) (rs : List Rel) (fs : List Fct) (h0 : Rels w A0 c0 rs) (h1 : Fcts w A1 c1 fs) (hl0 : rs.length ≤ 2000000) (hl : fs.length ≤ 2000000) (hl2 : ∀ f ∈ fs, f.2.length ≤ 2000000) : Calls Tryz.prog 36 #[.agg #[.slice A0 rs.length c0, .slice A1 fs.length c1]] w (Got fun v w' => OIn w' w.heap.size v rs fs ∧ On w w') := by
  have hb := Aside0.mk (On.alloc (On.alloc (On.refl w) (.cells #[.slice A0 rs.length c0, .slice A1 fs.length c1] 27)) (.cells #[.slice none 0 0, .slice none 0 0] 27))
  have hL := Aside0.mk (loc2 w #[.slice A0 rs.length c0, .slice A1 fs.length c1] #[.slice none 0 0, .slice none 0 0] 27 27)
  go_enter Tryz.func36, Tryz.ntmps36
  go_wp2
  refine Reg.region [(0,.L),(1,.L),(3,.L),(4,.L),(2,.N),(5,.N),(6,.L)] [7] (by kernel_rfl) (by kernel_rfl) ?_
  repeat first | refine sP ?_ | refine sS ?_ | refine sA ?_ | refine sL ?_ | refine sQ ?_ | refine sO ?_
  refine callN Tryz.func80 (fun w2 hS2 => ?_)
  refine (cloneR_calls w2 A0 c0 rs (h0.on (hb.out.trans hS2)) hl0).mono ?_
  rintro e w3 ⟨v3, rfl, hO3, hb3⟩
  obtain ⟨A3, c3, rfl⟩ := own_slice hO3
  refine ⟨_, rfl, hb3, fun a' ha => ?_⟩
  simp only [Act.put, List.setIfInBounds_toArray, List.set_cons_zero, List.set_cons_succ] at ha
  subst ha
  refine callN Tryz.func81 (fun w4 hS4 => ?_)
  refine (factsCopy_calls w4 A1 c1 fs (h1.on ((hb.out.trans hS2).trans (hb3.trans hS4))) hl hl2).mono ?_
  rintro e w5 ⟨v5, rfl, hs, hO5, hS5, hb5⟩
  obtain ⟨A5, c5, rfl⟩ := own_slice hO5
  refine ⟨_, rfl, hb5, fun a' ha => ?_⟩
  simp only [Act.put, List.setIfInBounds_toArray, List.set_cons_zero, List.set_cons_succ] at ha
  subst ha
  repeat first | refine sP ?_ | refine sS ?_ | refine sA ?_ | refine sL ?_ | refine sQ ?_ | refine sO ?_
  refine Reg.tail_ fun w6 hS6 => ?_
  have hk := (Loc.on (hS2.trans (hb3.trans (hS4.trans (hb5.trans hS6)))) hL.out).2.1
  have hc := blk_cell hk
  have hf := blk_frozen hk
  have hk' := Aside0.mk hk
  have hsz := hS2.size
  have hsz2 := (hb3.trans hS4).size
  simp only [World.size_alloc] at hsz
  clear hk
  go_wp2
  refine bodyPost_ret (retI rfl rfl (g := w.heap.size + 1) (blk_set (blk_set hk'.out 0 _) 1 _) rfl) rfl ?_
  have hI : OIn w6 (w.heap.size + 2) (.agg #[.slice A3 rs.length c3, .slice A5 hs.length c5]) rs fs := ⟨_, _, hs, rfl, own_lower (pw_own_below hO3 (hS4.trans (hb5.trans hS6))) (by omega), own_lower (pw_own_below hO5 hS6) (by omega), (hS5.on hS6).lower (by omega)⟩
  exact ⟨_, rfl, OIn.lower (OIn.set (OIn.set hI (by simp) _) (by simp) _) (by omega), Reg.On.set (Reg.On.set ((hb.out.trans hS2).trans (hb3.trans (hS4.trans (hb5.trans hS6)))) (by simp) _) (by simp) _⟩
end Go.Proofs.YtngjhblbpapjeaaGreat.H
/- Headers stored, cut, cleared. No condition. -/
namespace Go.Proofs.YtngjhblbpapjeaaGreat.H
open Go Go.RowKit Go.Proofs.YtngjhblbpapjeaaGreatW.PrintWords Go.Proofs.YtngjhblbpapjeaaGreatW.PrintLast
open Go.Proofs.YtngjhblbpapjeaaGreat.Reg (On on_draw)
set_option maxHeartbeats 1000000
set_option maxRecDepth 100000
set_option linter.unusedVariables false
set_option linter.unusedSimpArgs false

theorem own_sets {base g n cap sz : Nat} {e : TypeId} : ∀ (ys : List Value) (i : Nat) (xs : List Value) (W : World), W.ownsRow base e sz (.slice (some ⟨g, 0, none⟩) n cap) n xs → i + ys.length ≤ n * sz →
    (W.setCells g i ys).ownsRow base e sz (.slice (some ⟨g, 0, none⟩) n cap) n (xs.take i ++ ys ++ xs.drop (i + ys.length)) ∧ W.grownBy (W.setCells g i ys) (some g)
  | [], i, xs, W, h, _ => ⟨by simpa [World.setCells] using h, World.grownBy.refl W _⟩
  | y :: ys, i, xs, W, h, hl => by
    have hx : xs.length = n * sz := h.1
    simp only [List.length_cons] at hl
    obtain ⟨h1, g1⟩ := h.stored i y
    obtain ⟨h2, g2⟩ := own_sets ys (i + 1) _ _ h1 (by omega)
    refine ⟨?_, World.grownBy.trans g1 g2⟩
    have e : (xs.set i y).take (i + 1) ++ ys ++ (xs.set i y).drop (i + 1 + ys.length) = xs.take i ++ (y :: ys) ++ xs.drop (i + (y :: ys).length) := by
      rw [List.take_succ_eq_append_getElem (by simp; omega), List.take_set_of_le (Nat.le_refl _), List.getElem_set_self, List.drop_set_of_lt (by omega)]
      rw [show i + 1 + ys.length = i + (y :: ys).length by simp; omega]
      simp
    rw [e] at h2
    exact h2
theorem own_cut {base g cap n sz : Nat} {e : TypeId} {w : World} {xs : List Value} (h : w.ownsRow base e sz (.slice (some ⟨g, 0, none⟩) n cap) n xs) (m : Nat) (hm : m ≤ n) : w.ownsRow base e sz (.slice (some ⟨g, 0, none⟩) m cap) m (xs.take (m * sz)) := by
  have hx : xs.length = n * sz := h.1
  have hms : m * sz ≤ n * sz := Nat.mul_le_mul_right _ hm
  rcases h.2 with ⟨h', _⟩ | ⟨g', cap', cur, h', hg, hh, hnc, hcm, hcs, htk⟩
  · cases h'
  · injection h' with h1 h2 h3
    injection h1 with h1
    injection h1 with h1
    subst h1 h3
    refine ⟨by rw [List.length_take]; omega, .inr ⟨g, cap, cur, rfl, hg, hh, by omega, hcm, hcs, ?_⟩⟩
    rw [← htk, List.take_take]
    congr 1
    omega
theorem OH.store {w : World} {lo g n c : Nat} {L : List Hdr} (h : OH w lo (.slice (some ⟨g, 0, none⟩) n c) L) (i : Nat) (hi : i < L.length) (a : Hdr) : OH ((w.setCell ⟨g, i * 2, none⟩ (.int .i64 a.1)).setCell ⟨g, i * 2 + 1, none⟩ (hdV a)) lo (.slice (some ⟨g, 0, none⟩) n c) (L.set i a) := by
  have hn := (OH.rh h).1
  subst hn
  have h2 := ((h.stored (i * 2) (.int .i64 a.1)).1.stored (i * 2 + 1) (hdV a)).1
  have e : L = L.take i ++ L[i] :: L.drop (i + 1) := by rw [← List.drop_eq_getElem_cons hi, List.take_append_drop]
  have hl : (L.take i).length = i := by rw [List.length_take]; omega
  have e2 : L.flatMap encH = (L.take i).flatMap encH ++ .int .i64 L[i].1 :: hdV L[i] :: (L.drop (i + 1)).flatMap encH := by
    conv => lhs; rw [e]
    rw [List.flatMap_append, List.flatMap_cons]; rfl
  have e3 : L.set i a = L.take i ++ a :: L.drop (i + 1) := by
    conv => lhs; rw [e]
    exact set_mid _ _ _ _ _ hl
  rw [e2, set2 (i * 2) (by rw [flat_len (enc := encH) (sz := 2) (fun _ => rfl), hl])] at h2
  show World.ownsRow _ _ _ _ _ (L.set i a).length _
  rw [List.length_set, e3, List.flatMap_append, List.flatMap_cons]
  exact h2
theorem OH.at {w : World} {lo g n c : Nat} {L : List Hdr} (h : OH w lo (.slice (some ⟨g, 0, none⟩) n c) L) (i : Nat) (hi : i < L.length) : w.cell? ⟨g, i * 2, none⟩ = some (.int .i64 L[i].1) ∧ w.cell? ⟨g, i * 2 + 1, none⟩ = some (hdV L[i]) := by
  have hn := (OH.rh h).1
  subst hn
  have h0 := h.cellAt (i * 2) (by omega)
  have h1 := h.cellAt (i * 2 + 1) (by omega)
  have e0 := flat_get (enc := encH) (sz := 2) (fun _ => rfl) L i 0 hi (by omega)
  have e1 := flat_get (enc := encH) (sz := 2) (fun _ => rfl) L i 1 hi (by omega)
  rw [Nat.add_zero] at e0
  rw [e0] at h0
  rw [e1] at h1
  exact ⟨h0, h1⟩
/-- clear of what is left of a row of facts. -/
theorem run_clearF {w : World} {lo g n c : Nat} {L : List Hdr} (h : OH w lo (.slice (some ⟨g, 0, none⟩) n c) L) (i : Nat) (hi : i < n) (cc : Nat) (ty : TypeId) :
    (Builtin.clear_ #[25] ty #[.slice (some ⟨g, i * 2, none⟩) (n - i) cc]).run Tryz.prog w = .ok (.tuple #[]) (w.setCells g (i * 2) (Builtin.zeroCells #[.int .i64 0, .slice none 0 0] (n - i)).toList) := by
  have hn := (OH.rh h).1
  subst hn
  obtain ⟨i0, hi0, hz0, _, _⟩ := info_parts infoF
  have hv : (zeroValue 30).run Tryz.prog w = .ok (.agg #[.int .i64 0, .slice none 0 0]) w := by
    unfold zeroValue typeInfo
    simp [hi0, hz0]
  have hlen : (Builtin.zeroCells #[.int .i64 0, .slice none 0 0] (L.length - i)).toList.length = (L.length - i) * 2 := by
    rw [Array.length_toList, size_zeroCells]; rfl
  have hst := run_storeCells_cells (P := Tryz.prog) g (i * 2) (Builtin.zeroCells #[.int .i64 0, .slice none 0 0] (L.length - i)).toList 0 w
    (fun j hj => by
      have := own_some h (i * 2 + 0 + j) (by omega)
      obtain ⟨z, hz⟩ := this
      rw [hz]; rfl)
    (fun j hj => own_frozen h _)
    (fun v hv => by
      simp only [Builtin.zeroCells, Array.toList_map, List.mem_map] at hv
      obtain ⟨k, _, rfl⟩ := hv
      have : k % 2 = 0 ∨ k % 2 = 1 := by omega
      rcases this with e | e <;> simp [e] <;> rfl)
  simp only [Nat.add_zero] at hst
  obtain ⟨m, hm⟩ : ∃ m, L.length - i = m + 1 := ⟨L.length - i - 1, by omega⟩
  rw [hm] at hst ⊢
  simp [Builtin.clear_, run_underlying Tryz.underlying25, hv, Value.cells, hst]
section
variable {ops : Array Oper} {rest : List Oper} {o : Oper} {a : Act} {Q : Exit → Act → World → Prop} {W : World}
theorem slFF (N : Tmp) {x y : Operand} {A A' : Option Addr} {n c k m c' : Nat} (hA : (if c = k then A else A.map (·.add (k * 2))) = A') (hm : n - k = m) (hc' : c - k = c') (hk : k ≤ n) (hc : n ≤ c)
    (h : wpList Tryz.prog ops Q rest (a.put (some N) (.slice A' m c')) W)
    (hop : o.op = .slice 25 x (some y) none none := by rfl) (hd : o.dst = some N := by rfl) (hg : o.guard = none := by rfl) (hx : a.eval x = .slice A n c := by rfl) (hy : a.eval y = .int .i64 (k : Int) := by rfl) : wpList Tryz.prog ops Q (o :: rest) a W := by
  subst hA hm hc'
  obtain ⟨i0, hi0, _, hsz, _⟩ := info_parts infoF
  have hcut := cut_from (P := Tryz.prog) 25 30 .i64 Tryz.underlying25 hi0 2 hsz A n c (k : Int) (by omega) (by omega)
  refine wpList_plain hg fun K hK => ?_
  have hrun : (execOp a.eval o).run Tryz.prog W = .ok (.value (.slice (if c = k then A else A.map (·.add (k * 2))) (n - k) (c - k))) W := by
    unfold execOp
    simp only [hop, hx, hy, Option.map_some, Option.map_none]
    have := hcut W
    simp only [Int.toNat_natCast] at this
    go_simp
  unfold Oper.wp
  rw [hrun]
  refine hK _ _ ?_
  rw [hd]
  exact h
theorem slTF (N : Tmp) {x y : Operand} {A : Option Addr} {n c k : Nat} (hk : k ≤ n) (hc : n ≤ c)
    (h : wpList Tryz.prog ops Q rest (a.put (some N) (.slice A k c)) W)
    (hop : o.op = .slice 25 x none (some y) none := by rfl) (hd : o.dst = some N := by rfl) (hg : o.guard = none := by rfl) (hx : a.eval x = .slice A n c := by rfl) (hy : a.eval y = .int .i64 (k : Int) := by rfl) : wpList Tryz.prog ops Q (o :: rest) a W := by
  obtain ⟨i0, hi0, _, hsz, _⟩ := info_parts infoF
  have hcut := cut_to (P := Tryz.prog) 25 30 .i64 Tryz.underlying25 hi0 A n c (k : Int) (by omega) (by omega) hc
  refine wpList_plain hg fun K hK => ?_
  have hrun : (execOp a.eval o).run Tryz.prog W = .ok (.value (.slice A k c)) W := by
    unfold execOp
    simp only [hop, hx, hy, Option.map_some, Option.map_none]
    have := hcut W
    simp only [Int.toNat_natCast] at this
    go_simp
  unfold Oper.wp
  rw [hrun]
  refine hK _ _ ?_
  rw [hd]
  exact h
end
end Go.Proofs.YtngjhblbpapjeaaGreat.H
/- Walks: the program takes facts out of an instance. No condition. -/
namespace Go.Proofs.YtngjhblbpapjeaaGreat.H
open Go Go.RowKit Go.Proofs.YtngjhblbpapjeaaGreatW.PrintWords Go.Proofs.YtngjhblbpapjeaaGreatW.PrintLast
open Go.Proofs.YtngjhblbpapjeaaGreat.Reg (On on_draw)
set_option maxHeartbeats 4000000
set_option maxRecDepth 100000
set_option linter.unusedVariables false
set_option linter.unusedSimpArgs false

/-- The headers that are kept of the first j. -/
def kept (p : Fct → Bool) (hs : List Hdr) (fs : List Fct) (j : Nat) : List Hdr := (((hs.zip fs).take j).filter fun q => !p q.2).map Prod.fst
theorem kept_succ (p : Fct → Bool) (hs : List Hdr) (fs : List Fct) (j : Nat) (hl : hs.length = fs.length) (h : j < fs.length) : kept p hs fs (j + 1) = kept p hs fs j ++ (if p fs[j] then [] else [hs[j]'(by omega)]) := by
  unfold kept
  rw [List.take_succ_eq_append_getElem (by rw [List.length_zip]; omega), List.filter_append, List.map_append, List.getElem_zip, List.filter_cons]
  cases p fs[j] <;> simp
theorem kept_len (p : Fct → Bool) (hs : List Hdr) (fs : List Fct) (j : Nat) : (kept p hs fs j).length ≤ j := by
  unfold kept
  rw [List.length_map]
  exact Nat.le_trans (List.length_filter_le _ _) (by rw [List.length_take]; omega)
theorem filter_zip_snd (p : Fct → Bool) : ∀ (hs : List Hdr) (fs : List Fct), hs.length = fs.length → ((hs.zip fs).filter fun q => !p q.2).map Prod.snd = fs.filter fun f => !p f
  | [], [], _ => rfl
  | [], _ :: _, h => by simp at h
  | _ :: _, [], h => by simp at h
  | a :: hs, f :: fs, h => by
    have ih := filter_zip_snd p hs fs (by simpa using h)
    rw [List.zip_cons_cons, List.filter_cons, List.filter_cons]
    cases p f <;> simp [ih]
theorem kept_sep {w : World} {lo : Nat} {hs : List Hdr} {fs : List Fct} (h : Sep w lo hs fs) (p : Fct → Bool) : Sep w lo (kept p hs fs fs.length) (fs.filter fun f => !p f) := by
  have hq : ((hs.zip fs).filter fun q => !p q.2).Sublist (hs.zip fs) := List.filter_sublist
  have := h.sub hq
  rw [filter_zip_snd p hs fs h.len] at this
  unfold kept
  rw [List.take_of_length_le (by rw [List.length_zip]; omega)]
  exact this
theorem kept_front (p : Fct → Bool) (hs : List Hdr) (fs : List Fct) (hl : hs.length = fs.length) : ∀ j, j ≤ fs.length → (∀ i, (h : i < j) → (hi : i < fs.length) → p fs[i] = false) → kept p hs fs j = hs.take j
  | 0, _, _ => by simp [kept]
  | j + 1, hj, h => by
    rw [kept_succ p hs fs j hl (by omega), kept_front p hs fs hl j (by omega) (fun i hi hf => h i (by omega) hf), h j (by omega) (by omega), List.take_succ_eq_append_getElem (by omega)]
    rfl
theorem idxFrom_spec (p : Fct → Bool) : ∀ (l : List Fct) (i : Nat), (idxFrom p l i = -1 ∧ ∀ j, (h : j < l.length) → p l[j] = false) ∨ ∃ k, ∃ h : k < l.length, idxFrom p l i = ((i + k : Nat) : Int) ∧ p l[k] = true ∧ ∀ j, (hj : j < k) → p (l[j]'(by omega)) = false
  | [], _ => .inl ⟨rfl, fun j h => by simp at h⟩
  | x :: l, i => by
    unfold idxFrom
    cases hx : p x with
    | true => exact .inr ⟨0, by simp, by simp, by simpa using hx, fun j hj => by omega⟩
    | false =>
      rw [if_neg (by simp)]
      rcases idxFrom_spec p l (i + 1) with ⟨e, ha⟩ | ⟨k, hk, e, ht, ha⟩
      · refine .inl ⟨e, fun j h => ?_⟩
        cases j with
        | zero => exact hx
        | succ j => exact ha j (by simpa using h)
      · refine .inr ⟨k + 1, by simp; omega, by rw [e]; congr 1; omega, by simpa using ht, fun j hj => ?_⟩
        cases j with
        | zero => exact hx
        | succ j => exact ha j (by omega)
/-- How the row stands when j facts are looked at, of which i are kept. -/
structure KI (p : Fct → Bool) (hs : List Hdr) (fs : List Fct) (j i : Nat) (L : List Hdr) : Prop where
  len : L.length = fs.length
  lt : i < j
  is : i = (kept p hs fs j).length
  row : ∃ M, L = kept p hs fs j ++ M ++ hs.drop j
theorem KI.start (p : Fct → Bool) (hs : List Hdr) (fs : List Fct) (hl : hs.length = fs.length) (k : Nat) (hk : k < fs.length) (ht : p fs[k] = true) (hall : ∀ j, (hj : j < k) → p (fs[j]'(by omega)) = false) : KI p hs fs (k + 1) k hs := by
  have e : kept p hs fs (k + 1) = hs.take k := by
    rw [kept_succ p hs fs k hl hk, ht, if_pos rfl, List.append_nil, kept_front p hs fs hl k (by omega) (fun i hi _ => hall i hi)]
  refine ⟨hl, Nat.lt_succ_self _, by rw [e, List.length_take]; omega, ⟨[hs[k]], ?_⟩⟩
  rw [e, ← List.take_succ_eq_append_getElem (by omega), List.take_append_drop]
theorem KI.mid {p : Fct → Bool} {hs : List Hdr} {fs : List Fct} {j i : Nat} {L : List Hdr} (h : KI p hs fs j i L) (hl : hs.length = fs.length) (hj : j < fs.length) : ∃ m M, L = kept p hs fs j ++ (m :: M) ++ hs.drop j ∧ i + (M.length + 1) = j := by
  obtain ⟨M, e⟩ := h.row
  have h1 := congrArg List.length e
  rw [h.len, List.length_append, List.length_append, List.length_drop, ← h.is] at h1
  cases M with
  | nil => have := h.lt; simp at h1; omega
  | cons m M => exact ⟨m, M, e, by simp at h1; omega⟩
theorem KI.get {p : Fct → Bool} {hs : List Hdr} {fs : List Fct} {j i : Nat} {L : List Hdr} (h : KI p hs fs j i L) (hl : hs.length = fs.length) (hj : j < fs.length) : L[j]? = hs[j]? := by
  obtain ⟨m, M, e, hM⟩ := h.mid hl hj
  have h2 := h.is
  rw [e, List.getElem?_append_right (by simp; omega), List.length_append, List.length_cons, ← h2, show j - (i + (M.length + 1)) = 0 by omega, List.getElem?_drop]
  rfl
theorem KI.skip {p : Fct → Bool} {hs : List Hdr} {fs : List Fct} {j i : Nat} {L : List Hdr} (h : KI p hs fs j i L) (hl : hs.length = fs.length) (hj : j < fs.length) (hp : p fs[j] = true) : KI p hs fs (j + 1) i L := by
  obtain ⟨M, e⟩ := h.row
  have ek : kept p hs fs (j + 1) = kept p hs fs j := by rw [kept_succ p hs fs j hl hj, hp, if_pos rfl, List.append_nil]
  refine ⟨h.len, Nat.lt_succ_of_lt h.lt, by rw [ek]; exact h.is, ⟨M ++ [hs[j]'(by omega)], ?_⟩⟩
  rw [ek, e, List.drop_eq_getElem_cons (by omega : j < hs.length)]
  simp
theorem KI.keep {p : Fct → Bool} {hs : List Hdr} {fs : List Fct} {j i : Nat} {L : List Hdr} (h : KI p hs fs j i L) (hl : hs.length = fs.length) (hj : j < fs.length) (hp : p fs[j] = false) : KI p hs fs (j + 1) (i + 1) (L.set i (hs[j]'(by omega))) := by
  obtain ⟨m, M, e, hM⟩ := h.mid hl hj
  have ek : kept p hs fs (j + 1) = kept p hs fs j ++ [hs[j]'(by omega)] := by rw [kept_succ p hs fs j hl hj, hp, if_neg (by simp)]
  refine ⟨by rw [List.length_set]; exact h.len, Nat.succ_lt_succ h.lt, by rw [ek, List.length_append, ← h.is]; rfl, ⟨M ++ [hs[j]'(by omega)], ?_⟩⟩
  rw [ek, e, List.append_assoc, List.cons_append, set_mid _ _ _ _ _ h.is.symm, List.drop_eq_getElem_cons (by omega : j < hs.length)]
  simp
theorem KI.done {p : Fct → Bool} {hs : List Hdr} {fs : List Fct} {i : Nat} {L : List Hdr} (h : KI p hs fs fs.length i L) : L.take i = kept p hs fs fs.length := by
  obtain ⟨M, e⟩ := h.row
  rw [e, List.append_assoc, h.is, List.take_left]
theorem DeleteFuncF_calls (w : World) (lo : Nat) (v : Value) (hs : List Hdr) (fs : List Fct) (hO : OH w lo v hs) (hS : Sep w lo hs fs) {fn : FuncId} {F : Func} (caps : Array Value) (p : Fct → Bool) (hf : Tryz.prog.funcs[fn]? = some F) (hname : (F.name == "runtime.NumGoroutine") = false) (hbd : F.body.isSome = true)
    (hcl : ∀ (w' : World), Ex (fun b => some b = v.ownBlock) w w' → ∀ (f : Fct), f ∈ fs → ∀ (A1 : Option Addr) (c1 : Nat), Ints w' A1 c1 f.2 → Calls Tryz.prog fn (#[.agg #[.int .i64 f.1, .slice A1 f.2.length c1]] ++ caps) w' fun e w'' => e = .returned (.bool (p f)) ∧ On w' w'') :
    Calls Tryz.prog 50 #[v, .func (.func fn) #[] caps] w (Got fun v' w' => ∃ hs', OH w' lo v' hs' ∧ Sep w' lo hs' (fs.filter fun f => !p f) ∧ Ex (fun b => some b = v.ownBlock) w w' ∧ ∀ b, FB v' hs' b → FB v hs b) := by
  have hlen := hS.len
  have hF := OH.rd hO hS.reads
  obtain ⟨A, c, e0, hFc⟩ := hF
  have hn : v = .slice A hs.length c := by rw [hlen]; exact e0
  have hIF := IndexFuncF_calls w A c fs hFc caps p hf hname hbd (fun w' hw f hf A1 c1 hI => hcl w' (Ex.of_on hw) f hf A1 c1 hI)
  rcases idxFrom_spec p fs 0 with ⟨e1, hall⟩ | ⟨k0, hk0, e1, ht, hall⟩
  · have hk := Aside0.mk (kept_sep hS p)
    rw [kept_front p hs fs hlen fs.length (Nat.le_refl _) (fun i _ hi => hall i hi), List.take_of_length_le (by omega)] at hk
    rw [e1] at hIF
    have hIF' := Aside0.mk hIF
    have hO' := Aside0.mk hO
    subst e0
    clear hIF hall e1 hFc hcl hS hO hn
    go_enter Tryz.func50, Tryz.ntmps50
    go_wp2_with (go_at_call 92; refine hIF'.out.mono ?_; rintro e w1 ⟨rfl, hb1⟩)
    go_ret
    exact ⟨_, rfl, hs, pw_own_below hO'.out hb1, hk.out.on hb1, Ex.of_on hb1, fun _ h => h⟩
  · rcases hO.2 with ⟨hv, hz⟩ | ⟨g, cap, cur, hv, hg, _⟩
    · omega
    have e5 := hn.symm.trans hv
    injection e5 with e5 _ e6
    subst e5 e6 e0
    have hk0' := hk0
    have hcapm := (OH.rh (n := fs.length) hO).2.cap
    have hmx : fs.length ≤ 9223372036854775807 := by have := (OH.rh (n := fs.length) hO).2.max; omega
    rw [hlen] at hcapm
    have hI0 := Aside0.mk (KI.start p hs fs hlen k0 hk0 ht hall)
    rw [e1, Nat.zero_add] at hIF
    have hIF' := Aside0.mk hIF
    have hO' := Aside0.mk hO
    have hS' := Aside0.mk hS
    have hlen' := Aside0.mk hlen
    have hcl' := Aside0.mk hcl
    have hne : ((k0 : Int) == -1) = false := beq_eq_false_iff_ne.2 (by omega)
    clear hIF hall e1 hFc hcl hS hO hn hv ht hlen
    go_enter Tryz.func50, Tryz.ntmps50
    go_wp2_with (go_at_call 92; refine hIF'.out.mono ?_; rintro e w1 ⟨rfl, hb1⟩)
    go_loopw [5, 6] (fun v5 v6 wr => ∃ (i j : Nat) (L : List Hdr), v5 = .int .i64 i ∧ v6 = .int .i64 j ∧ j ≤ fs.length ∧ Aside0 (KI p hs fs j i L) ∧ Aside0 (OH wr lo (.slice (some ⟨g, 0, none⟩) fs.length c) L) ∧ Aside0 (Ex (fun b => some b = Value.ownBlock (.slice (some ⟨g, 0, none⟩) fs.length c)) w wr)) (fun _ v6 _ => fs.length - (intOf v6).toNat)
    case atStart => exact ⟨k0, k0 + 1, hs, rfl, by go_num, hk0, hI0, ⟨pw_own_below hO'.out hb1⟩, ⟨Ex.of_on hb1⟩⟩
    case round =>
      obtain ⟨i, j, L, rfl, rfl, hj, hK, hL, hE⟩ := hrel
      have hij := hK.out.lt
      have hLl := Aside0.mk hK.out.len
      by_cases hlt : j < fs.length
      · have hjh : j < hs.length := by have := hlen'.out; omega
        have hLj : L[j]'(by have := hLl.out; omega) = hs[j] := Option.some.inj (by rw [← List.getElem?_eq_getElem, ← List.getElem?_eq_getElem, hK.out.get hlen'.out hlt])
        obtain ⟨a1, a2, a3⟩ := hS'.out.reads.at_ j hs[j] fs[j] (List.getElem?_eq_getElem hjh) (List.getElem?_eq_getElem hlt)
        have hSr := hS'.out.ex hE.out (fun i a b ha hb e => (hS'.out.ne_row hO'.out ha hb) e.symm)
        obtain ⟨_, _, b3⟩ := hSr.reads.at_ j hs[j] fs[j] (List.getElem?_eq_getElem hjh) (List.getElem?_eq_getElem hlt)
        obtain ⟨hx0, hx1⟩ := hL.out.at j (by have := hLl.out; omega)
        rw [hLj, a1] at hx0
        rw [hLj] at hx1
        obtain ⟨hd, hhd⟩ : ∃ hd, hd = hs[j] := ⟨_, rfl⟩
        rw [← hhd] at a1 a2 b3 hx1
        obtain ⟨r1, A3, n3, c3⟩ := hd
        dsimp only at a1 a2 b3
        subst a1 a2
        have hx1 : wr.cell? ⟨g, j * 2 + 1, none⟩ = some (.slice A3 fs[j].2.length c3) := hx1
        have hhd' := Aside0.mk hhd
        have hfill := alloc_fill wr
        have hcn := blk_cell (loc_new wr #[.int .i64 fs[j].1, .slice A3 fs[j].2.length c3] 30)
        have hbx := Aside0.mk (On.alloc (On.refl wr) (.cells #[.int .i64 fs[j].1, .slice A3 fs[j].2.length c3] 30))
        have hcall := Aside0.mk (hcl'.out _ (hE.out.then_on hbx.out) fs[j] (List.getElem_mem hlt) A3 c3 (b3.on hbx.out))
        clear hLj a3 hSr hhd b3
        cases hq : p fs[j] with
        | true =>
          have hq' := Aside0.mk hq
          rw [hq] at hcall
          clear hq
          go_wp2_with (refine gate 28 ?_)
          refine ⟨goesC 28 hf hname hbd (hcall.out.mono fun e w2 h2 => ⟨_, h2.1, ?_⟩)⟩
          have hb2 := Aside0.mk (hbx.out.trans h2.2)
          clear h2 hfill hcn hx0 hx1
          go_wp2
          exact ⟨⟨i, j + 1, L, rfl, by go_num, hlt, ⟨hK.out.skip hlen'.out hlt hq'.out⟩, ⟨pw_own_below hL.out hb2.out⟩, ⟨hE.out.then_on hb2.out⟩⟩, by simp [intOf]; omega⟩
        | false =>
          have hq' := Aside0.mk hq
          rw [hq] at hcall
          clear hq
          go_wp2_with (refine gate 28 ?_)
          refine ⟨goesC 28 hf hname hbd (hcall.out.mono fun e w2 h2 => ⟨_, h2.1, ?_⟩)⟩
          have hb2 := Aside0.mk (hbx.out.trans h2.2)
          have hbc := blk_cell (blk_below (loc_new wr #[.int .i64 fs[j].1, .slice A3 fs[j].2.length c3] 30) h2.2)
          have hL2 := Aside0.mk (pw_own_below hL.out hb2.out)
          obtain ⟨hi0, hi1⟩ := OH.at hL2.out i (by have := hLl.out; omega)
          have hL2n : w2.ownsRow lo 30 2 (.slice (some ⟨g, 0, none⟩) fs.length c) fs.length (L.flatMap encH) := hLl.out ▸ hL2.out
          have hf0 := own_frozen hL2n (i * 2)
          have hf1 := own_frozen hL2n (i * 2 + 1)
          clear hL2n
          have hiL : i < L.length := by have := hLl.out; omega
          clear h2 hfill hcn hx0 hx1
          go_wp2
          have hst := OH.store hL2.out i hiL (fs[j].1, A3, fs[j].2.length, c3)
          have hkp := hK.out.keep hlen'.out hlt hq'.out
          rw [← hhd'.out] at hkp
          exact ⟨⟨i + 1, j + 1, _, by go_num, by go_num, hlt, ⟨hkp⟩, ⟨hst⟩, ⟨((hE.out.then_on hb2.out).trans' (Ex.mono (Ex.set _ _ _) (fun k e => by subst e; rfl))).trans' (Ex.mono (Ex.set _ _ _) (fun k e => by subst e; rfl))⟩⟩, by simp [intOf]; omega⟩
      · obtain rfl : j = fs.length := by omega
        have hclr := fun ty => run_clearF hL.out i hij (c - i) ty
        go_wp2_with (refine gate 38 ?_)
        refine ⟨slFF 38 (A := some ⟨g, 0, none⟩) (k := i) (n := fs.length) (c := c) (A' := some ⟨g, i * 2, none⟩) (m := fs.length - i) (c' := c - i) (by rw [if_neg (by omega), Option.map_some, add_plain]) rfl rfl (by omega) hcapm ?_⟩
        go_wp2_with (refine gate 41 ?_)
        refine ⟨slTF 41 (k := i) (n := fs.length) (c := c) (Nat.le_of_lt hij) hcapm ?_⟩
        go_wp2
        go_ret
        have hLn : wr.ownsRow lo 30 2 (.slice (some ⟨g, 0, none⟩) fs.length c) fs.length (L.flatMap encH) := hLl.out ▸ hL.out
        obtain ⟨h1, g1⟩ := own_sets (Builtin.zeroCells #[.int .i64 0, .slice none 0 0] (fs.length - i)).toList (i * 2) _ _ hLn (by rw [Array.length_toList, size_zeroCells]; show i * 2 + (fs.length - i) * 2 ≤ _; omega)
        have h2 := own_cut h1 i (Nat.le_of_lt hij)
        have hl0 : (L.flatMap encH).length = fs.length * 2 := hLn.1
        have e : ((L.flatMap encH).take (i * 2)) = (kept p hs fs fs.length).flatMap encH := by
          rw [← hK.out.done]
          have e2 : L.flatMap encH = (L.take i).flatMap encH ++ (L.drop i).flatMap encH := by rw [← List.flatMap_append, List.take_append_drop]
          have e3 : ((L.take i).flatMap encH).length = i * 2 := by rw [flat_len (enc := encH) (sz := 2) (fun _ => rfl), List.length_take, hLl.out]; congr 1; omega
          rw [e2, List.take_append_of_le_length (by omega), ← e3, List.take_length]
        rw [List.append_assoc, List.take_append_of_le_length (by rw [List.length_take]; omega), List.take_take, Nat.min_self, e] at h2
        have hE' := hE.out.trans' (Ex.of_grown g1)
        refine ⟨_, rfl, kept p hs fs fs.length, ?_, (kept_sep hS'.out p).ex hE' (fun i a b ha hb e => ?_), hE', fun b h => ?_⟩
        · show World.ownsRow _ _ _ _ _ (kept p hs fs fs.length).length _
          rw [← hK.out.is]; exact h2
        · have hk := kept_sep hS'.out p
          exact (hk.ne_row (hs' := hs) (lo' := lo) (by have := hO'.out; rw [← hlen'.out] at this ⊢; exact this) ha hb) e.symm
        · rcases h with h | ⟨m, a, ha, h⟩
          · exact .inl h
          · have hmem := List.mem_of_getElem? ha
            unfold kept at hmem
            obtain ⟨q, hq, rfl⟩ := List.mem_map.1 hmem
            have hq1 := List.mem_of_mem_take (List.mem_filter.1 hq).1
            have hq2 : q.1 ∈ hs := (List.of_mem_zip hq1).1
            obtain ⟨m', hm', e⟩ := List.mem_iff_getElem.1 hq2
            exact .inr ⟨m', q.1, by rw [List.getElem?_eq_getElem hm', e], h⟩
theorem DeleteFact1_calls (w : World) (A0 c0 A1 c1) (f g : Fct) (b : Nat) (h0 : Ints w A0 c0 f.2) (h1 : Ints w A1 c1 g.2) (hb0 : w.heap[b]? = some (.cells #[.int .i64 g.1, .slice A1 g.2.length c1] 30 (0, 0))) : Calls Tryz.prog 51 #[.agg #[.int .i64 f.1, .slice A0 f.2.length c0], .pointer (some ⟨b, 0, none⟩)] w fun e w' => e = .returned (.bool (cmpF f g == 0)) ∧ On w w' := by
  have hb := Aside0.mk (On.alloc (On.refl w) (.cells #[.int .i64 f.1, .slice A0 f.2.length c0] 30))
  have hc := blk_cell (blk_below hb0 hb.out)
  have hlt := Aside0.mk (blk_lt hb0)
  clear hb0
  go_enter Tryz.func51, Tryz.ntmps51
  go_wp2_with (go_at_call 52; refine (sameFact_calls _ A0 c0 A1 c1 f g (h0.on hb.out) (h1.on hb.out)).mono ?_; rintro e w1 ⟨rfl, hb1⟩)
  go_ret
  exact ⟨rfl, hb.out.trans hb1⟩
theorem iDeleteFact_calls (w : World) (A0 c0 A1 c1) (rs : List Rel) (fs : List Fct) (h0 : Rels w A0 c0 rs) (h1 : Fcts w A1 c1 fs) (A2 c2) (g : Fct) (h2 : Ints w A2 c2 g.2) (hl0 : rs.length ≤ 2000000) (hl : fs.length ≤ 2000000) (hl2 : ∀ f ∈ fs, f.2.length ≤ 2000000) :
    Calls Tryz.prog 14 #[.agg #[.slice A0 rs.length c0, .slice A1 fs.length c1], .agg #[.int .i64 g.1, .slice A2 g.2.length c2]] w (Got fun v w' => ∃ v1, v = .tuple #[v1, .bool (okInst rs fs && hasF fs g)] ∧ OIn w' w.heap.size v1 rs (delI rs fs g) ∧ On w w') := by
  have hb := Aside0.mk (On.alloc (On.alloc (On.alloc (On.refl w) (.cells #[.slice A0 rs.length c0, .slice A1 fs.length c1] 27)) (.cells #[.int .i64 g.1, .slice A2 g.2.length c2] 30)) (.cells #[.slice none 0 0, .slice none 0 0] 27))
  have hL := Aside0.mk (loc3 w #[.slice A0 rs.length c0, .slice A1 fs.length c1] #[.int .i64 g.1, .slice A2 g.2.length c2] #[.slice none 0 0, .slice none 0 0] 27 30 27)
  have hsz3 := Aside0.mk (show (((w.alloc (.cells #[.slice A0 rs.length c0, .slice A1 fs.length c1] 27)).alloc (.cells #[.int .i64 g.1, .slice A2 g.2.length c2] 30)).alloc (.cells #[.slice none 0 0, .slice none 0 0] 27)).heap.size = w.heap.size + 3 by simp)
  cases ho : okInst rs fs && hasF fs g with
  | false =>
    have ho' := Aside0.mk ho
    clear ho
    go_enter Tryz.func14, Tryz.ntmps14
    go_wp2_with (first
      | (go_at_call 36; refine (instanceCopy_calls _ A0 c0 A1 c1 rs fs (h0.on hb.out) (h1.on hb.out) hl0 hl hl2).mono ?_; rintro e w1 ⟨v1, rfl, ⟨vr, vf, hs, rfl, hR, hH, hS⟩, hb1⟩; obtain ⟨Ar, cr, rfl⟩ := own_slice hR; obtain ⟨Af, cf, rfl⟩ := own_slice hH; have hfill := alloc_fill w1; have hI := Aside0.mk (OIn.mk ⟨_, _, hs, rfl, hR, hH, hS⟩); have hB1 := Aside0.mk (hb1.trans (On.alloc (On.refl _) (.cells #[.slice Ar rs.length cr, .slice Af hs.length cf] 27))); have hL1 := Aside0.mk (Loc.on hB1.out hL.out); have hc0 := blk_cell hL1.out.1; have hc1 := blk_cell hL1.out.2.1; have hY1 := Aside0.mk (loc_new w1 #[.slice Ar rs.length cr, .slice Af hs.length cf] 27); clear hR hH hS)
      | (go_at_call 16; refine (iContainsFact_calls _ A0 c0 A1 c1 rs fs (h0.on (hb.out.trans hB1.out)) (h1.on (hb.out.trans hB1.out)) A2 c2 g (h2.on (hb.out.trans hB1.out))).mono ?_; rintro e w2 ⟨rfl, hb2⟩; rw [ho'.out]; have hL2 := Aside0.mk (Loc.on (hB1.out.trans hb2) hL.out); have hy := blk_cell (blk_below hY1.out hb2); have hcr : ∀ i, w2.cell? ⟨w.heap.size + 1 + 1, i, none⟩ = _ := blk_cell hL2.out.2.2.1; have hfr : ∀ i, w2.frozen? ⟨w.heap.size + 1 + 1, i, none⟩ = _ := blk_frozen hL2.out.2.2.1; have hI2 := Aside0.mk (hI.out.on ((On.alloc (On.refl _) _).trans hb2)); clear hc0 hc1 hfill))
    refine bodyPost_ret (retIB rfl rfl (g := w.heap.size + 2) (blk_set (blk_set hL2.out.2.2.1 0 _) 1 _) rfl) rfl ?_
    have hI3 := hI2.out
    rw [hsz3.out] at hI3
    refine ⟨_, rfl, _, rfl, ?_, Reg.On.set (Reg.On.set (hb.out.trans (hB1.out.trans hb2)) (by simp; omega) _) (by simp; omega) _⟩
    unfold delI; rw [ho'.out, if_neg (by simp)]
    exact OIn.lower (OIn.set (OIn.set hI3 (by simp) _) (by simp) _) (by omega)
  | true =>
    have hdel := Aside0.mk (show delI rs fs g = fs.filter fun f => !(cmpF f g == 0) by unfold delI; rw [ho, if_pos rfl]; rfl)
    have ho' := Aside0.mk ho
    clear ho
    go_enter Tryz.func14, Tryz.ntmps14
    go_wp2_with (first
      | (go_at_call 36; refine (instanceCopy_calls _ A0 c0 A1 c1 rs fs (h0.on hb.out) (h1.on hb.out) hl0 hl hl2).mono ?_; rintro e w1 ⟨v1, rfl, ⟨vr, vf, hs, rfl, hR, hH, hS⟩, hb1⟩; obtain ⟨Ar, cr, rfl⟩ := own_slice hR; obtain ⟨Af, cf, rfl⟩ := own_slice hH; have hfill := alloc_fill w1; have hR1 := Aside0.mk hR; have hH1 := Aside0.mk hH; have hS1 := Aside0.mk hS; have hB1 := Aside0.mk (hb1.trans (On.alloc (On.refl _) (.cells #[.slice Ar rs.length cr, .slice Af hs.length cf] 27))); have hL1 := Aside0.mk (Loc.on hB1.out hL.out); have hc0 := blk_cell hL1.out.1; have hc1 := blk_cell hL1.out.2.1; have hY1 := Aside0.mk (loc_new w1 #[.slice Ar rs.length cr, .slice Af hs.length cf] 27); have hw1 : w.heap.size + 3 ≤ w1.heap.size := (by have := hb1.size; rwa [hsz3.out] at this); clear hR hH hS)
      | (go_at_call 16; refine (iContainsFact_calls _ A0 c0 A1 c1 rs fs (h0.on (hb.out.trans hB1.out)) (h1.on (hb.out.trans hB1.out)) A2 c2 g (h2.on (hb.out.trans hB1.out))).mono ?_; rintro e w2 ⟨rfl, hb2⟩; rw [ho'.out]; have hL2 := Aside0.mk (Loc.on (hB1.out.trans hb2) hL.out); have hY2 := Aside0.mk (blk_below hY1.out hb2); have hy := blk_cell hY2.out; have hb2' := Aside0.mk ((On.alloc (On.refl w1) (.cells #[.slice Ar rs.length cr, .slice Af hs.length cf] 27)).trans hb2); have hB2 := Aside0.mk (hb.out.trans (hB1.out.trans hb2)); have hge := Aside0.mk (fun i (e : some i = Value.ownBlock (.slice Af hs.length cf)) => show w.heap.size + 3 ≤ i ∧ i < w1.heap.size by have h5 := own_base hH1.out i e.symm; have h6 := own_lt hH1.out i e.symm; rw [hsz3.out] at h5; exact ⟨h5, h6⟩); clear hc0 hc1 hfill hb2)
      | (go_at_call 50; refine (DeleteFuncF_calls w2 _ _ hs fs (pw_own_below hH1.out hb2'.out) (hS1.out.on hb2'.out) (fn := 51) #[.pointer (some ⟨w.heap.size + 1, 0, none⟩)] (fun f => cmpF f g == 0) Tryz.func51 (by kernel_rfl) rfl (fun w' hw f hf B d hB => DeleteFact1_calls w' B d A2 c2 f g (w.heap.size + 1) hB (h2.on (Ex.on hB2.out hw (fun i e => by have := hge.out i e; omega))) (blk_ex hw hL2.out.2.1 (fun e => by have := hge.out _ e; omega)))).mono ?_; rintro e w3 ⟨v3, rfl, hs3, hO3, hS3, hE3, hFB3⟩; have hFB := Aside0.mk hFB3; clear hFB3; obtain ⟨A3, c3, rfl⟩ := own_slice hO3; have hY3 := Aside0.mk (blk_ex hE3 hY2.out (fun e => by have := hge.out _ e; omega)); have hR3 := Aside0.mk (blk_ex hE3 hL2.out.2.2.1 (fun e => by have := hge.out _ e; omega)); have hy3 := blk_cell hY3.out; have hf3 := blk_frozen hY3.out; have hcr : ∀ i, w3.cell? ⟨w.heap.size + 1 + 1, i, none⟩ = _ := blk_cell hR3.out; have hfr : ∀ i, w3.frozen? ⟨w.heap.size + 1 + 1, i, none⟩ = _ := blk_frozen hR3.out; have hne1 : ¬ (w.heap.size + 1 + 1 = w1.heap.size) := (by omega); have hne2 : ¬ (w1.heap.size = w.heap.size + 1 + 1) := (by omega); have hO3' := Aside0.mk hO3; have hS3' := Aside0.mk hS3; have hE3' := Aside0.mk hE3; clear hO3 hS3 hE3 hy))
    refine bodyPost_ret (retIB rfl rfl (g := w.heap.size + 2) (blk_set (blk_set (blk_far hR3.out (by simpa using hne1) _) 0 _) 1 _) rfl) rfl ?_
    have hw2 := hb2'.out.size
    have hI : OIn (w3.setCell ⟨w1.heap.size, 1, none⟩ (.slice A3 hs3.length c3)) (w.heap.size + 3) (.agg #[.slice Ar rs.length cr, .slice A3 hs3.length c3]) rs (delI rs fs g) := by
      have h5 := hO3'.out
      have h6 := hS3'.out
      have h7 := own_ex (pw_own_below hR1.out hb2'.out) hE3'.out (fun i hi e => by exact own_ne_blk hR1.out hH1.out (by decide) hi e.symm)
      rw [hsz3.out] at h5 h6 h7
      rw [hdel.out]
      refine ⟨_, _, hs3, rfl, own_ex h7 (Ex.set _ _ _) (fun i hi e => ?_), own_ex h5 (Ex.set _ _ _) (fun i hi e => ?_), h6.ex (Ex.set _ _ _) (fun i a b ha hb e => ?_)⟩
      · have := own_lt hR1.out i hi; have h8 : i = w1.heap.size := e; omega
      · have h9 := hFB.out i (.inl hi.symm)
        have h8 : i = w1.heap.size := e
        rcases h9 with h9 | ⟨m, a, ha, h9⟩
        · have := own_lt hH1.out i h9.symm; omega
        · have := (hS1.out.lt ha h9.symm).2; omega
      · have h9 := hFB.out b (.inr ⟨i, a, ha, hb.symm⟩)
        have h8 : b = w1.heap.size := e
        rcases h9 with h9 | ⟨m, a, ha, h9⟩
        · have := own_lt hH1.out b h9.symm; omega
        · have := (hS1.out.lt ha h9.symm).2; omega
    exact ⟨_, rfl, _, rfl, OIn.lower (OIn.set (OIn.set hI (by simp) _) (by simp) _) (by omega), Reg.On.set (Reg.On.set (Reg.On.set (Ex.on hB2.out hE3'.out (fun i e => by have := hge.out i e; omega)) (by simp; omega) _) (by simp; omega) _) (by simp; omega) _⟩
end Go.Proofs.YtngjhblbpapjeaaGreat.H
/- Facts sorted, then the repeated ones taken out: the facts in order, each once. Plain. No condition. -/
namespace Go.Proofs.YtngjhblbpapjeaaGreat.H
open Go Go.RowKit Go.Proofs.YtngjhblbpapjeaaGreatW.PrintWords Go.Proofs.YtngjhblbpapjeaaGreatW.PrintLast
set_option linter.unusedVariables false
set_option linter.unusedSimpArgs false

instance : DecidableEq Fct := inferInstance
/-- What stands once of each run. -/
def runs : Option Fct → List Fct → List Fct
  | _, [] => []
  | p, f :: l => if p = some f then runs (some f) l else f :: runs (some f) l
theorem cmpF_flip {f g : Fct} (h : ¬ cmpF f g < 0) (hn : g ≠ f) : cmpF g f < 0 := by
  have h1 := cmpF_neg f g
  have h2 : cmpF f g ≠ 0 := fun e => hn ((cmpF_eq f g).1 e).symm
  omega
theorem runs_spec : ∀ (l : List Fct) (p : Option Fct), l.Pairwise (fun x y => ¬ cmpF y x < 0) → (∀ q, p = some q → ∀ y ∈ l, ¬ cmpF y q < 0) → Asc (runs p l) ∧ (∀ q, p = some q → ∀ y ∈ runs p l, cmpF q y < 0) ∧ ∀ x, x ∈ runs p l ↔ x ∈ l ∧ p ≠ some x
  | [], p, _, _ => ⟨List.Pairwise.nil, fun q _ y hy => (by cases hy), fun x => by simp [runs]⟩
  | f :: l, p, hs, hp => by
    obtain ⟨h1, h2⟩ := List.pairwise_cons.1 hs
    obtain ⟨i1, i2, i3⟩ := runs_spec l (some f) h2 (fun q hq y hy => by injection hq with hq; subst hq; exact h1 y hy)
    by_cases e : p = some f
    · subst e
      rw [runs, if_pos rfl]
      refine ⟨i1, fun q hq => i2 q hq, fun x => ?_⟩
      rw [i3]
      constructor
      · rintro ⟨a, b⟩; exact ⟨List.mem_cons_of_mem _ a, b⟩
      · rintro ⟨a, b⟩
        rcases List.mem_cons.1 a with rfl | a
        · exact absurd rfl b
        · exact ⟨a, b⟩
    · rw [runs, if_neg e]
      have hq : ∀ q, p = some q → cmpF q f < 0 := fun q hq => cmpF_flip (hp q hq f List.mem_cons_self) (fun c => e (by rw [hq, c]))
      refine ⟨List.pairwise_cons.2 ⟨fun y hy => i2 f rfl y hy, i1⟩, fun q hq' y hy => ?_, fun x => ?_⟩
      · rcases List.mem_cons.1 hy with rfl | hy
        · exact hq q hq'
        · exact cmpF_trans _ _ _ (hq q hq') (i2 f rfl y hy)
      · rw [List.mem_cons, List.mem_cons, i3]
        constructor
        · rintro (rfl | ⟨a, b⟩)
          · exact ⟨.inl rfl, e⟩
          · exact ⟨.inr a, fun c => h1 x a (hq x c)⟩
        · rintro ⟨rfl | a, b⟩
          · exact .inl rfl
          · by_cases c : x = f
            · exact .inl c
            · exact .inr ⟨a, fun d => c (by injection d with d; exact d.symm)⟩
theorem runs_setF {fs fs' : List Fct} (hp : fs'.Perm fs) (hs : fs'.Pairwise fun x y => ¬ cmpF y x < 0) : runs none fs' = setF fs := by
  obtain ⟨h1, _, h3⟩ := runs_spec fs' none hs (fun q hq => by cases hq)
  refine asc_ext _ _ h1 (setF_spec fs).1 fun x => ?_
  rw [h3, (setF_spec fs).2, hp.mem_iff]
  simp
/-- Which are dropped. -/
def flags : Option Fct → List Fct → List Bool
  | _, [] => []
  | p, f :: l => decide (p = some f) :: flags (some f) l
theorem flags_len : ∀ (l : List Fct) (p : Option Fct), (flags p l).length = l.length
  | [], _ => rfl
  | f :: l, p => by simp [flags, flags_len l]
theorem flags_get : ∀ (l : List Fct) (p : Option Fct) (i : Nat) (h : i + 1 < l.length), (flags p l)[i + 1]'(by rw [flags_len]; exact h) = decide (l[i] = l[i + 1])
  | [], _, _, h => by simp at h
  | [_], _, _, h => by simp at h
  | f :: g :: l, p, 0, _ => by simp [flags]
  | f :: g :: l, p, i + 1, h => by
    have := flags_get (g :: l) (some f) i (by simpa using h)
    simpa [flags] using this
theorem flags_zero (l : List Fct) (h : 0 < l.length) : (flags none l)[0]'(by rw [flags_len]; exact h) = false := by
  cases l with
  | nil => simp at h
  | cons f l => simp [flags]
theorem runs_flags : ∀ (hs : List Hdr) (l : List Fct) (p : Option Fct), hs.length = l.length → (((hs.zip l).zip (flags p l)).filter fun q => !q.2).map (fun q => q.1.2) = runs p l
  | [], [], _, _ => rfl
  | [], _ :: _, _, h => by simp at h
  | _ :: _, [], _, h => by simp at h
  | a :: hs, f :: l, p, h => by
    have ih := runs_flags hs l (some f) (by simpa using h)
    rw [flags, List.zip_cons_cons, List.zip_cons_cons, List.filter_cons, runs]
    by_cases e : p = some f
    · simp only [e, decide_true, Bool.not_true, if_true]
      simpa using ih
    · simp only [e, decide_false, Bool.not_false, if_true, if_false, List.map_cons]
      rw [ih]
end Go.Proofs.YtngjhblbpapjeaaGreat.H
