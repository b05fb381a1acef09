/- Cells of own rows: appended to, cut, cleared; rows of headers that are read. No condition. -/
import Derived.Test.YtngjhblbpapjeaaHL7
import Derived.Maps.AppendAt
import Derived.Lib.SliceRun
namespace Go.Proofs.Ytngjhblbpapjeaa.H
open Go Go.RowKit Go.Proofs.YtngjhblbpapjeaaW.PrintWords Go.Proofs.YtngjhblbpapjeaaW.PrintLast
open Go.Proofs.Ytngjhblbpapjeaa.Reg (On on_draw)
set_option maxHeartbeats 1000000
set_option maxRecDepth 100000
set_option linter.unusedVariables false
set_option linter.unusedSimpArgs false

theorem flat_get {α : Type} {enc : α → List Value} {sz : Nat} (hl : ∀ x, (enc x).length = sz) : ∀ (xs : List α) (i r : Nat) (hi : i < xs.length), r < sz → (xs.flatMap enc)[i * sz + r]? = (enc xs[i])[r]?
  | [], _, _, hi, _ => absurd hi (Nat.not_lt_zero _)
  | x :: xs, 0, r, _, hr => by
    rw [List.flatMap_cons, Nat.zero_mul, Nat.zero_add, List.getElem?_append_left (by rw [hl]; exact hr)]; rfl
  | x :: xs, i + 1, r, hi, hr => by
    rw [List.flatMap_cons, List.getElem?_append_right (by rw [hl, Nat.add_mul]; omega), hl, show (i + 1) * sz + r - sz = i * sz + r by rw [Nat.add_mul]; omega]
    exact flat_get hl xs i r (by simpa using hi) hr
theorem flat_div {α : Type} {enc : α → List Value} {sz : Nat} (hs : 0 < sz) (hl : ∀ x, (enc x).length = sz) (xs : List α) (j : Nat) (u : Value) (h : (xs.flatMap enc)[j]? = some u) : ∃ i r, ∃ hi : i < xs.length, r < sz ∧ j = i * sz + r ∧ (enc xs[i])[r]? = some u := by
  have hj : j < xs.length * sz := by
    have := (List.getElem?_eq_some_iff.1 h).1
    rwa [flat_len hl] at this
  have hi : j / sz < xs.length := (Nat.div_lt_iff_lt_mul hs).2 hj
  have e : j = j / sz * sz + j % sz := by rw [Nat.mul_comm]; exact (Nat.div_add_mod j sz).symm
  refine ⟨j / sz, j % sz, hi, Nat.mod_lt _ hs, e, ?_⟩
  rw [← flat_get hl xs _ _ hi (Nat.mod_lt _ hs), ← e]
  exact h
/-- A row of headers that is read. -/
structure RH (w : World) (A : Option Addr) (c : Nat) (hs : List Hdr) : Prop where
  cap : hs.length ≤ c
  max : hs.length ≤ 9223372036854775807
  cell : ∀ j u, (hs.flatMap encH)[j]? = some u → ∃ ad, A = some ad ∧ w.cell? (ad.add j) = some u
theorem RH.on {W w : World} {A : Option Addr} {c : Nat} {hs : List Hdr} (h : RH W A c hs) (hb : On W w) : RH w A c hs := ⟨h.cap, h.max, fun j u hu => by
  obtain ⟨ad, e, hc⟩ := h.cell j u hu
  exact ⟨ad, e, (hb.eq _ (by rw [hc]; rfl)).trans hc⟩⟩
theorem own_capmax {w : World} {lo e sz n : Nat} {A : Option Addr} {c : Nat} {cs : List Value} (h : w.ownsRow lo e sz (.slice A n c) n cs) : n ≤ c ∧ n ≤ 9223372036854775807 := by
  rcases h.2 with ⟨h1, h2⟩ | ⟨g, cap, cur, h1, _, _, h3, h4, _⟩
  · exact ⟨by omega, by omega⟩
  · injection h1 with h1 h5 h6
    have : maxLen = 9223372036854775807 := rfl
    exact ⟨by omega, by omega⟩
theorem OH.slice {w : World} {lo : Nat} {v : Value} {hs : List Hdr} (h : OH w lo v hs) : ∃ A c, v = .slice A hs.length c ∧ RH w A c hs := by
  obtain ⟨A, c, rfl⟩ := own_slice h
  obtain ⟨h1, h2⟩ := own_capmax h
  refine ⟨A, c, rfl, h1, h2, fun j u hu => ?_⟩
  rcases h.2 with ⟨h1, h3⟩ | ⟨g, cap, cur, h1, _⟩
  · obtain rfl : hs = [] := List.eq_nil_of_length_eq_zero h3
    simp at hu
  · injection h1 with h1 h5 h6
    subst h1
    exact ⟨_, rfl, h.cells rfl j u hu⟩
theorem OH.rh {w : World} {lo c : Nat} {A : Option Addr} {n : Nat} {hs : List Hdr} (h : OH w lo (.slice A n c) hs) : n = hs.length ∧ RH w A c hs := by
  obtain ⟨A', c', e, h'⟩ := OH.slice h
  injection e with e1 e2 e3
  subst e1 e3
  exact ⟨e2, h'⟩
theorem blk_grown {W w1 : World} {row : Option Nat} {g : Nat} {o : Obj} (hg : W.grownBy w1 row) (h : W.heap[g]? = some o) (hne : some g ≠ row) : w1.heap[g]? = some o := (hg.block g (blk_lt h) hne).trans h
theorem OR.slice {w : World} {lo : Nat} {v : Value} {hs : List Rel} (h : OR w lo v hs) : ∃ A c, v = .slice A hs.length c := own_slice h
theorem RH.fcts {w : World} {A : Option Addr} {c : Nat} {hs : List Hdr} {fs : List Fct} (h : RH w A c hs) (hr : Reads w hs fs) : Fcts w A c fs := by
  have hlen := hr.len
  refine ⟨by rw [← hlen]; exact h.cap, ⟨rfl, by rw [← hlen]; exact h.max, fun h0 => ?_⟩, hr.inF⟩
  obtain ⟨ad, rfl, _⟩ := h.cell 0 (.int .i64 (hs[0]'(by omega)).1) (by
    have := flat_get (enc := encH) (sz := 2) (fun _ => rfl) hs 0 0 (by omega) (by omega)
    rw [Nat.zero_mul] at this
    rw [this]; rfl)
  refine ⟨ad, rfl, fun j f hj => ?_⟩
  have hj' : j < hs.length := by rw [hlen]; exact (List.getElem?_eq_some_iff.1 hj).1
  obtain ⟨e1, e2, e3⟩ := hr.at_ j hs[j] f (List.getElem?_eq_getElem hj') hj
  refine ⟨encH hs[j], rfl, ⟨[.int .i64 hs[j].1], [hdV hs[j]], rfl, by rw [e1]; rfl, hs[j].2.1, hs[j].2.2.2, by rw [← e2], e3.1, e3.2.1⟩, fun i u hu => ?_⟩
  have hi : i < 2 := (List.getElem?_eq_some_iff.1 hu).1
  obtain ⟨ad', e, hc⟩ := h.cell (j * 2 + i) u (by rw [flat_get (enc := encH) (sz := 2) (fun _ => rfl) hs j i hj' hi]; exact hu)
  injection e with e
  subst e
  exact hc
theorem Fcts.hdrs {w : World} {A : Option Addr} {c : Nat} {fs : List Fct} (h : Fcts w A c fs) : ∃ hs, RH w A c hs ∧ Reads w hs fs := by
  have key : ∀ k, k ≤ fs.length → ∃ hs : List Hdr, hs.length = k ∧ ∀ (i : Nat) (hi : i < k) (hl : i < hs.length) (hf : i < fs.length), hs[i].1 = fs[i].1 ∧ hs[i].2.2.1 = fs[i].2.length ∧ Ints w hs[i].2.1 hs[i].2.2.2 fs[i].2 ∧ ∃ ad, A = some ad ∧ w.cell? (ad.add (i * 2)) = some (.int .i64 hs[i].1) ∧ w.cell? (ad.add (i * 2 + 1)) = some (hdV hs[i]) := by
    intro k
    induction k with
    | zero => intro _; exact ⟨[], rfl, fun i hi => by omega⟩
    | succ k ih =>
      intro hk
      obtain ⟨hs, hl, hh⟩ := ih (by omega)
      obtain ⟨ad, A1, c1, rfl, h1, h2, h3⟩ := h.at k (by omega)
      refine ⟨hs ++ [(fs[k].1, A1, fs[k].2.length, c1)], by simp [hl], fun i hi hl' hf => ?_⟩
      rcases Nat.lt_or_ge i k with h4 | h4
      · have := hh i h4 (by omega) hf
        rw [List.getElem_append_left (by omega)]
        exact this
      · obtain rfl : i = k := by omega
        have e0 : (hs ++ [(fs[i].1, A1, fs[i].2.length, c1)])[i]'hl' = (fs[i].1, A1, fs[i].2.length, c1) := by rw [List.getElem_append_right (by omega)]; simp [hl]
        rw [e0]
        exact ⟨rfl, rfl, h3, ad, rfl, h1, by rw [add_field _ _ 1 (by omega)]; exact h2⟩
  obtain ⟨hs, hl, hh⟩ := key fs.length (Nat.le_refl _)
  refine ⟨hs, ⟨by rw [hl]; exact h.1, by rw [hl]; exact h.max, fun j u hu => ?_⟩, ⟨hl, fun i a f ha hf => ?_⟩⟩
  · obtain ⟨i, r, hi, hr, rfl, hv⟩ := flat_div (enc := encH) (sz := 2) (by omega) (fun _ => rfl) hs j u hu
    obtain ⟨_, _, _, ad, e, c0, c1⟩ := hh i (by omega) hi (by omega)
    refine ⟨ad, e, ?_⟩
    match r, hr, hv with
    | 0, _, hv => obtain rfl : Value.int .i64 hs[i].1 = u := Option.some.inj hv; exact c0
    | 1, _, hv => obtain rfl : hdV hs[i] = u := Option.some.inj hv; exact c1
  · obtain ⟨hi, rfl⟩ := List.getElem?_eq_some_iff.1 ha
    obtain ⟨hj, rfl⟩ := List.getElem?_eq_some_iff.1 hf
    obtain ⟨e1, e2, e3, _⟩ := hh i (by omega) hi hj
    exact ⟨e1, e2, e3⟩
theorem Reads.take {w : World} {hs : List Hdr} {fs : List Fct} (h : Reads w hs fs) (k : Nat) : Reads w (hs.take k) (fs.take k) := ⟨by rw [List.length_take, List.length_take, h.len], fun i a f ha hf => by
  rw [List.getElem?_take] at ha hf
  split at ha
  · rename_i hk; rw [if_pos hk] at hf; exact h.at_ i a f ha hf
  · cases ha⟩
theorem Reads.drop {w : World} {hs : List Hdr} {fs : List Fct} (h : Reads w hs fs) (k : Nat) : Reads w (hs.drop k) (fs.drop k) := ⟨by rw [List.length_drop, List.length_drop, h.len], fun i a f ha hf => by
  rw [List.getElem?_drop] at ha hf
  exact h.at_ _ a f ha hf⟩
theorem Reads.append {w : World} {hs hs' : List Hdr} {fs fs' : List Fct} (h : Reads w hs fs) (h' : Reads w hs' fs') : Reads w (hs ++ hs') (fs ++ fs') := ⟨by rw [List.length_append, List.length_append, h.len, h'.len], fun i a f ha hf => by
  have hl := h.len
  rcases Nat.lt_or_ge i hs.length with hi | hi
  · rw [List.getElem?_append_left hi] at ha
    rw [List.getElem?_append_left (by omega)] at hf
    exact h.at_ i a f ha hf
  · rw [List.getElem?_append_right hi] at ha
    rw [List.getElem?_append_right (by omega), ← hl] at hf
    exact h'.at_ _ a f ha hf⟩
/-- Some of the facts whose rows lie apart. -/
theorem Sep.sub {w : World} {lo : Nat} {hs : List Hdr} {fs : List Fct} (h : Sep w lo hs fs) {qs : List (Hdr × Fct)} (hq : qs.Sublist (hs.zip fs)) : Sep w lo (qs.map Prod.fst) (qs.map Prod.snd) := by
  have hl := h.len
  have hmem : ∀ p ∈ qs, ∃ i, hs[i]? = some p.1 ∧ fs[i]? = some p.2 := fun p hp => by
    obtain ⟨i, hi, e⟩ := List.getElem_of_mem (hq.subset hp)
    rw [List.getElem_zip] at e
    have hi' : i < hs.length := by rw [List.length_zip] at hi; omega
    exact ⟨i, by rw [List.getElem?_eq_getElem hi', ← e], by rw [List.getElem?_eq_getElem (by omega), ← e]⟩
  have hpw : (hs.zip fs).Pairwise fun p q => ∀ k, (hdV p.1).ownBlock = some k → (hdV q.1).ownBlock ≠ some k := by
    rw [List.pairwise_iff_getElem]
    intro i j hi hj hij k h1 h2
    rw [List.getElem_zip] at h1 h2
    have hi' : i < hs.length := by rw [List.length_zip] at hi; omega
    have hj' : j < hs.length := by rw [List.length_zip] at hj; omega
    have := h.apart i j _ _ k (List.getElem?_eq_getElem hi') (List.getElem?_eq_getElem hj') h1 h2
    omega
  have hpq := hpw.sublist hq
  refine ⟨by simp, fun i a f ha hf => ?_, fun i j a b k ha hb h1 h2 => ?_⟩
  · rw [List.getElem?_map] at ha hf
    obtain ⟨p, hp, rfl⟩ := Option.map_eq_some_iff.1 ha
    rw [hp] at hf
    obtain rfl : p.2 = f := Option.some.inj hf
    obtain ⟨m, e1, e2⟩ := hmem p (List.mem_of_getElem? hp)
    exact h.at_ m _ _ e1 e2
  · rw [List.getElem?_map] at ha hb
    obtain ⟨p, hp, rfl⟩ := Option.map_eq_some_iff.1 ha
    obtain ⟨q, hq', rfl⟩ := Option.map_eq_some_iff.1 hb
    obtain ⟨hi, rfl⟩ := List.getElem?_eq_some_iff.1 hp
    obtain ⟨hj, rfl⟩ := List.getElem?_eq_some_iff.1 hq'
    rcases Nat.lt_trichotomy i j with c | c | c
    · exact absurd h2 (List.pairwise_iff_getElem.1 hpq i j hi hj c k h1)
    · exact c
    · exact absurd h1 (List.pairwise_iff_getElem.1 hpq j i hj hi c k h2)
theorem Sep.erase {w : World} {lo : Nat} {hs : List Hdr} {fs : List Fct} (h : Sep w lo hs fs) (k : Nat) : Sep w lo (hs.take k ++ hs.drop (k + 1)) (fs.take k ++ fs.drop (k + 1)) := by
  have hq : ((hs.zip fs).take k ++ (hs.zip fs).drop (k + 1)).Sublist (hs.zip fs) := by
    rw [← List.eraseIdx_eq_take_drop_succ]; exact List.eraseIdx_sublist ..
  have := h.sub hq
  rw [List.map_append, List.map_append, List.map_take, List.map_take, List.map_drop, List.map_drop, List.map_fst_zip (by rw [h.len]; exact Nat.le_refl _), List.map_snd_zip (by rw [h.len]; exact Nat.le_refl _)] at this
  exact this
theorem OIn.on {W w : World} {lo : Nat} {v : Value} {rs : List Rel} {fs : List Fct} (h : OIn W lo v rs fs) (hb : On W w) : OIn w lo v rs fs := by
  obtain ⟨vr, vf, hs, e, hR, hH, hS⟩ := h.out
  exact ⟨vr, vf, hs, e, pw_own_below hR hb, pw_own_below hH hb, hS.on hb⟩
theorem OIn.set {W : World} {lo : Nat} {v : Value} {rs : List Rel} {fs : List Fct} (h : OIn W lo v rs fs) {p : Addr} (hp : p.block < lo) (u : Value) : OIn (W.setCell p u) lo v rs fs := by
  obtain ⟨vr, vf, hs, e, hR, hH, hS⟩ := h.out
  exact ⟨vr, vf, hs, e, ownsRow_setCell_below hR hp u, ownsRow_setCell_below hH hp u, hS.set hp u⟩
theorem OIn.lower {w : World} {lo lo' : Nat} {v : Value} {rs : List Rel} {fs : List Fct} (h : OIn w lo v rs fs) (hl : lo' ≤ lo) : OIn w lo' v rs fs := by
  obtain ⟨vr, vf, hs, e, hR, hH, hS⟩ := h.out
  exact ⟨vr, vf, hs, e, own_lower hR hl, own_lower hH hl, hS.lower hl⟩
/-! Appends, cell by cell. -/
section
variable {ops : Array Oper} {rest : List Oper} {o : Oper} {a : Act} {Q : Exit → Act → World → Prop} {W : World}
theorem ap_none (N : Tmp) {e sz bytes t c base n : Nat} {z v : Value} {xs : List Value} {s x : Operand} (ht : Try.prog.underlying t = some (.slice e)) (hinfo : (Try.prog.info? e).map (fun i => (i.zero, i.size, i.bytes)) = some (some z, sz, bytes)) (HO : W.ownsRow base e sz v n xs)
    (h : wpList Try.prog ops Q rest (a.put (some N) v) W)
    (hop : o.op = .call { callee := .builtin .append, args := #[s, x], argTypes := #[t, t] }) (hd : o.dst = some N) (hg : o.guard = none) (hs : a.eval s = v) (hx : a.eval x = .slice none 0 c) : wpList Try.prog ops Q (o :: rest) a W := by
  obtain ⟨i0, hi, hzz⟩ := Option.map_eq_some_iff.1 hinfo
  have hr : (Builtin.append_ #[t, t] o.type #[v, .slice none 0 c]).run Try.prog W = .ok v W := by
    rcases HO.2 with ⟨rfl, hn⟩ | ⟨g, cap, cur, rfl, _, _, hnc, _⟩
    · simp [Builtin.append_, run_underlying ht, sizeOf, typeInfo, hi, Builtin.lenOf, Builtin.firstCells]
    · simp [Builtin.append_, run_underlying ht, sizeOf, typeInfo, hi, Builtin.lenOf, Builtin.firstCells, hnc, storeCells]
  refine wpList_plain hg fun K hK => ?_
  unfold Oper.wp execOp
  simp only [hop, resolve, invoke, builtin, Sem.run_bind, Sem.run_pure, Result.andThen_ok, List.map_toArray, List.map_cons, List.map_nil, hs, hx, hr]
  refine hK _ _ ?_
  rw [hd]; exact h
/-- append of headers that are read onto headers of one's own. -/
theorem apH (N : Tmp) {s x : Operand} {v : Value} {A : Option Addr} {c base : Nat} {xs ys zs : List Hdr} (hz : xs ++ ys = zs)
    (HO : OH W base v xs) (HR : RH W A c ys) (hbase : base ≤ W.heap.size) (hl : xs.length + ys.length ≤ 1000000000)
    (h : ∀ v1 w1, OH w1 base v1 zs → W.grownBy w1 v.ownBlock → wpList Try.prog ops Q rest (a.put (some N) v1) w1)
    (hop : o.op = .call { callee := .builtin .append, args := #[s, x], argTypes := #[30, 30] } := by rfl)
    (hd : o.dst = some N := by rfl) (hg : o.guard = none := by rfl) (hs : a.eval s = v := by rfl) (hx : a.eval x = .slice A ys.length c := by rfl) : wpList Try.prog ops Q (o :: rest) a W := by
  subst hz
  obtain ⟨i0, hi, hzz⟩ := Option.map_eq_some_iff.1 infoF
  simp only [Prod.mk.injEq] at hzz
  obtain ⟨hz0, hz1, hz2⟩ := hzz
  have hnil : ys = [] → wpList Try.prog ops Q (o :: rest) a W := by
    rintro rfl
    rw [List.append_nil] at h
    cases A with
    | none => exact ap_none N Try.underlying30 infoF HO (h v W HO (World.grownBy.refl W _)) hop hd hg hs hx
    | some ad =>
      refine wpList_append_own_at W hg s x 30 hop base 55 i0 _ 2 32 Try.underlying30 hi hz0 hz1 hz2 rfl (by omega) v xs.length _ hs HO ad 0 c [] hx rfl (by simp) (by simp) (by simp at hl; simp [maxLen]; omega) (by simp at hl; omega) hbase fun v1 w1 h1 h2 _ _ => ?_
      rw [hd]
      exact h v1 w1 (by simpa using h1) h2
  cases A with
  | none =>
    refine hnil ?_
    cases ys with
    | nil => rfl
    | cons y ys => obtain ⟨_, e, _⟩ := HR.cell 0 _ rfl; cases e
  | some ad =>
    refine wpList_append_own_at W hg s x 30 hop base 55 i0 _ 2 32 Try.underlying30 hi hz0 hz1 hz2 rfl (by omega) v xs.length _ hs HO ad ys.length c (ys.flatMap encH) hx (flat_len (enc := encH) (sz := 2) (fun _ => rfl) ys) (fun j u hu => ?_) (fun u hu => ?_) (by simp [maxLen]; omega) (by omega) hbase fun v1 w1 h1 h2 _ _ => ?_
    · obtain ⟨ad', e, hc⟩ := HR.cell j u hu
      injection e with e; subst e; exact hc
    · obtain ⟨y, _, hy⟩ := List.mem_flatMap.1 hu
      simp only [List.mem_cons, List.not_mem_nil, or_false] at hy
      rcases hy with rfl | rfl <;> rfl
    · rw [hd]
      refine h v1 w1 ?_ h2
      have e : (xs ++ ys).flatMap encH = xs.flatMap encH ++ ys.flatMap encH := List.flatMap_append
      show World.ownsRow _ _ _ _ _ (xs ++ ys).length _
      rw [e, List.length_append]
      exact h1
/-- The same at relations. -/
theorem apR (N : Tmp) {s x : Operand} {v : Value} {A : Option Addr} {c base : Nat} {xs ys zs : List Rel} (hz : xs ++ ys = zs)
    (HO : OR W base v xs) (HR : Rels W A c ys) (hbase : base ≤ W.heap.size) (hl : xs.length + ys.length ≤ 1000000000)
    (h : ∀ v1 w1, OR w1 base v1 zs → W.grownBy w1 v.ownBlock → wpList Try.prog ops Q rest (a.put (some N) v1) w1)
    (hop : o.op = .call { callee := .builtin .append, args := #[s, x], argTypes := #[29, 29] } := by rfl)
    (hd : o.dst = some N := by rfl) (hg : o.guard = none := by rfl) (hs : a.eval s = v := by rfl) (hx : a.eval x = .slice A ys.length c := by rfl) : wpList Try.prog ops Q (o :: rest) a W := by
  subst hz
  obtain ⟨i0, hi, hzz⟩ := Option.map_eq_some_iff.1 infoR
  simp only [Prod.mk.injEq] at hzz
  obtain ⟨hz0, hz1, hz2⟩ := hzz
  cases A with
  | none =>
    obtain rfl : ys = [] := by
      cases ys with
      | nil => rfl
      | cons y ys => obtain ⟨_, e, _⟩ := HR.at 0 (by simp); cases e
    rw [List.append_nil] at h
    exact ap_none N Try.underlying29 infoR HO (h v W HO (World.grownBy.refl W _)) hop hd hg hs hx
  | some ad =>
    refine wpList_append_own_at W hg s x 29 hop base 87 i0 _ 3 32 Try.underlying29 hi hz0 hz1 hz2 rfl (by omega) v xs.length _ hs HO ad ys.length c (ys.flatMap encR) hx (flat_len (enc := encR) (sz := 3) (fun _ => rfl) ys) (fun j u hu => ?_) (fun u hu => ?_) (by simp [maxLen]; omega) (by omega) hbase fun v1 w1 h1 h2 _ _ => ?_
    · obtain ⟨i, r, hi, hr, rfl, hv⟩ := flat_div (enc := encR) (sz := 3) (by omega) (fun _ => rfl) ys j u hu
      obtain ⟨ad', e, c0, c1, c2⟩ := HR.at i hi
      injection e with e; subst e
      match r, hr with
      | 0, _ => obtain rfl : Value.string ys[i].1 = u := Option.some.inj hv; exact c0
      | 1, _ => obtain rfl : Value.int .i64 ys[i].2.1 = u := Option.some.inj hv; rw [add_field _ _ 1 (by omega)]; exact c1
      | 2, _ => obtain rfl : Value.bool ys[i].2.2 = u := Option.some.inj hv; rw [add_field _ _ 2 (by omega)]; exact c2
    · obtain ⟨y, _, hy⟩ := List.mem_flatMap.1 hu
      simp only [List.mem_cons, List.not_mem_nil, or_false] at hy
      rcases hy with rfl | rfl | rfl <;> rfl
    · rw [hd]
      refine h v1 w1 ?_ h2
      have e : (xs ++ ys).flatMap encR = xs.flatMap encR ++ ys.flatMap encR := List.flatMap_append
      show World.ownsRow _ _ _ _ _ (xs ++ ys).length _
      rw [e, List.length_append]
      exact h1
end
/-! Appends onto a row that is full (a literal): nothing old is written. -/
theorem run_append_full {P : Program} (w : World) (base : Nat) (t ty e : TypeId) (i : TypeInfo) (z : Value) (size bytes : Nat) (ht : P.underlying t = some (.slice e)) (hi : P.info? e = some i) (hz : i.zero = some z)
    (hsize : i.size = size) (hby : i.bytes = bytes) (hzs : z.cells.size = size) (hsz : 0 < size)
    (g n : Nat) (xs : List Value) (hown : w.ownsRow base e size (.slice (some ⟨g, 0, none⟩) n n) n xs)
    (a : Addr) (m c : Nat) (news : List Value) (hl : news.length = m * size) (hnews : ∀ j u, news[j]? = some u → w.cell? (a.add j) = some u) (h1 : ∀ u ∈ news, u.oneCell' = true)
    (h63 : n + m ≤ maxLen) (hbytes : (n + m) * bytes ≤ 140737488355328) (hbase : base ≤ w.heap.size) :
    ∃ v' w', (Builtin.append_ #[t, t] ty #[.slice (some ⟨g, 0, none⟩) n n, .slice (some a) m c]).run P w = .ok v' w' ∧ w'.ownsRow base e size v' (n + m) (xs ++ news) ∧ w.grownBy w' none := by
  subst hsize
  subst hby
  by_cases hm : m = 0
  · subst hm
    obtain rfl : news = [] := List.eq_nil_of_length_eq_zero (by simpa using hl)
    refine ⟨_, w, ?_, by simpa using hown, World.grownBy.refl w _⟩
    simp [Builtin.append_, run_underlying ht, sizeOf, typeInfo, hi, Builtin.lenOf, Builtin.firstCells, loadCells, loadCellsFrom, storeCells]
  · have hsmall : n + m ≤ 9223372036854775807 := by simp only [maxLen] at h63; omega
    have holds : ∀ j u, xs[j]? = some u → w.cell? ((⟨g, 0, none⟩ : Addr).add j) = some u := hown.cells (g := g) rfl
    have hr := run_append_grow (P := P) w t ty e i z ht hi hz ⟨g, 0, none⟩ n n xs hown.1 holds a m c news hl hnews (by omega) (by omega) (growslice_fits (by omega) hbytes)
    have hge := grownCap_ge w (n + m) n e
    have hcm : grownCap w (n + m) n e ≤ maxLen := grownCap_le_maxLen w (n + m) n e h63
    have hlen : (xs ++ news).length = (n + m) * i.size := by rw [List.length_append, hown.1, hl, Nat.add_mul]
    refine ⟨_, _, hr, ⟨hlen, .inr ⟨w.heap.size, _, _, rfl, hbase, heap_alloc_new w.drew _, hge, hcm, ?_, ?_⟩⟩, ⟨rfl, rfl, rfl, by simp, fun k hk _ => Below.heap_alloc w.drew _ k hk⟩⟩
    · simp only [Array.size_append, List.size_toArray, size_zeroCells, hzs, hown.1, hl, ← Nat.add_mul]
      congr 1
      omega
    · simp only [Array.toList_append, List.append_assoc]
      rw [← List.append_assoc, ← hlen]
      exact List.take_left
section
variable {ops : Array Oper} {rest : List Oper} {o : Oper} {a : Act} {Q : Exit → Act → World → Prop} {W : World}
theorem apFull (N : Tmp) {e sz bytes t c base n g m : Nat} {z : Value} {xs news : List Value} {A : Option Addr} {s x : Operand} (ht : Try.prog.underlying t = some (.slice e)) (hinfo : (Try.prog.info? e).map (fun i => (i.zero, i.size, i.bytes)) = some (some z, sz, bytes)) (hzs : z.cells.size = sz) (hsz : 0 < sz) (HO : W.ownsRow base e sz (.slice (some ⟨g, 0, none⟩) n n) n xs)
    (hl : news.length = m * sz) (hnews : ∀ j u, news[j]? = some u → ∃ ad, A = some ad ∧ W.cell? (ad.add j) = some u) (h1 : ∀ u ∈ news, u.oneCell' = true) (hb : (n + m) * bytes ≤ 140737488355328) (hnm : n + m ≤ 9223372036854775807) (hbase : base ≤ W.heap.size)
    (h : ∀ v1 w1, w1.ownsRow base e sz v1 (n + m) (xs ++ news) → On W w1 → wpList Try.prog ops Q rest (a.put (some N) v1) w1)
    (hop : o.op = .call { callee := .builtin .append, args := #[s, x], argTypes := #[t, t] }) (hd : o.dst = some N) (hg : o.guard = none) (hs : a.eval s = .slice (some ⟨g, 0, none⟩) n n) (hx : a.eval x = .slice A m c) : wpList Try.prog ops Q (o :: rest) a W := by
  cases A with
  | none =>
    obtain rfl : m = 0 := by
      rcases Nat.eq_zero_or_pos m with h0 | h0
      · exact h0
      · have hp : 0 < news.length := by rw [hl]; exact Nat.mul_pos h0 hsz
        obtain ⟨_, e, _⟩ := hnews 0 _ (List.getElem?_eq_getElem hp)
        cases e
    obtain rfl : news = [] := List.eq_nil_of_length_eq_zero (by simpa using hl)
    exact ap_none N ht hinfo HO (h _ W (by simpa using HO) (On.refl _)) hop hd hg hs hx
  | some ad =>
    obtain ⟨i0, hi, hzz⟩ := Option.map_eq_some_iff.1 hinfo
    simp only [Prod.mk.injEq] at hzz
    obtain ⟨hz0, hz1, hz2⟩ := hzz
    obtain ⟨v', w', hr, h2, h3⟩ := run_append_full (P := Try.prog) W base t o.type e i0 z sz bytes ht hi hz0 hz1 hz2 hzs hsz g n xs HO ad m c news hl (fun j u hu => by obtain ⟨ad', e, hc⟩ := hnews j u hu; injection e with e; subst e; exact hc) h1 (by simp only [maxLen]; omega) hb hbase
    refine wpList_plain hg fun K hK => ?_
    unfold Oper.wp execOp
    simp only [hop, resolve, invoke, builtin, Sem.run_bind, Sem.run_pure, Result.andThen_ok, List.map_toArray, List.map_cons, List.map_nil, hs, hx, hr]
    refine hK _ _ ?_
    rw [hd]
    exact h v' w' h2 (on_grown (On.refl _) h3 fun k hk => by cases hk)
theorem apHf (N : Tmp) {s x : Operand} {A : Option Addr} {c base g n : Nat} {xs ys zs : List Hdr} (hz : xs ++ ys = zs) (HO : OH W base (.slice (some ⟨g, 0, none⟩) n n) xs) (hn : xs.length = n) (HR : RH W A c ys) (hbase : base ≤ W.heap.size) (hl : n + ys.length ≤ 1000000000)
    (h : ∀ v1 w1, OH w1 base v1 zs → On W w1 → wpList Try.prog ops Q rest (a.put (some N) v1) w1)
    (hop : o.op = .call { callee := .builtin .append, args := #[s, x], argTypes := #[30, 30] } := by rfl)
    (hd : o.dst = some N := by rfl) (hg : o.guard = none := by rfl) (hs : a.eval s = .slice (some ⟨g, 0, none⟩) n n := by rfl) (hx : a.eval x = .slice A ys.length c := by rfl) : wpList Try.prog ops Q (o :: rest) a W := by
  subst hz hn
  refine apFull N Try.underlying30 infoF rfl (by omega) HO (flat_len (enc := encH) (sz := 2) (fun _ => rfl) ys) HR.cell (fun u hu => ?_) (by omega) (by omega) hbase (fun v1 w1 h1 h2 => h v1 w1 ?_ h2) hop hd hg hs hx
  · obtain ⟨y, _, hy⟩ := List.mem_flatMap.1 hu
    simp only [List.mem_cons, List.not_mem_nil, or_false] at hy
    rcases hy with rfl | rfl <;> rfl
  · show World.ownsRow _ _ _ _ _ (xs ++ ys).length _
    rw [show (xs ++ ys).flatMap encH = xs.flatMap encH ++ ys.flatMap encH from List.flatMap_append, List.length_append]
    exact h1
theorem apRf (N : Tmp) {s x : Operand} {A : Option Addr} {c base g n : Nat} {xs ys zs : List Rel} (hz : xs ++ ys = zs) (HO : OR W base (.slice (some ⟨g, 0, none⟩) n n) xs) (hn : xs.length = n) (HR : Rels W A c ys) (hbase : base ≤ W.heap.size) (hl : n + ys.length ≤ 1000000000)
    (h : ∀ v1 w1, OR w1 base v1 zs → On W w1 → wpList Try.prog ops Q rest (a.put (some N) v1) w1)
    (hop : o.op = .call { callee := .builtin .append, args := #[s, x], argTypes := #[29, 29] } := by rfl)
    (hd : o.dst = some N := by rfl) (hg : o.guard = none := by rfl) (hs : a.eval s = .slice (some ⟨g, 0, none⟩) n n := by rfl) (hx : a.eval x = .slice A ys.length c := by rfl) : wpList Try.prog ops Q (o :: rest) a W := by
  subst hz hn
  refine apFull N Try.underlying29 infoR rfl (by omega) HO (flat_len (enc := encR) (sz := 3) (fun _ => rfl) ys) (fun j u hu => ?_) (fun u hu => ?_) (by omega) (by omega) hbase (fun v1 w1 h1 h2 => h v1 w1 ?_ h2) hop hd hg hs hx
  · obtain ⟨i, r, hi, hr, rfl, hv⟩ := flat_div (enc := encR) (sz := 3) (by omega) (fun _ => rfl) ys j u hu
    obtain ⟨ad', e, c0, c1, c2⟩ := HR.at i hi
    refine ⟨ad', e, ?_⟩
    match r, hr, hv with
    | 0, _, hv => obtain rfl : Value.string ys[i].1 = u := Option.some.inj hv; exact c0
    | 1, _, hv => obtain rfl : Value.int .i64 ys[i].2.1 = u := Option.some.inj hv; rw [add_field _ _ 1 (by omega)]; exact c1
    | 2, _, hv => obtain rfl : Value.bool ys[i].2.2 = u := Option.some.inj hv; rw [add_field _ _ 2 (by omega)]; exact c2
  · obtain ⟨y, _, hy⟩ := List.mem_flatMap.1 hu
    simp only [List.mem_cons, List.not_mem_nil, or_false] at hy
    rcases hy with rfl | rfl | rfl <;> rfl
  · show World.ownsRow _ _ _ _ _ (xs ++ ys).length _
    rw [show (xs ++ ys).flatMap encR = xs.flatMap encR ++ ys.flatMap encR from List.flatMap_append, List.length_append]
    exact h1
theorem apIf (N : Tmp) {s x : Operand} {A : Option Addr} {c base g n : Nat} {xs ys zs : List Int} (hz : xs ++ ys = zs) (HO : OI W base (.slice (some ⟨g, 0, none⟩) n n) xs) (hn : xs.length = n) (HR : Ints W A c ys) (hbase : base ≤ W.heap.size) (hl : n + ys.length ≤ 10000000000)
    (h : ∀ v1 w1, OI w1 base v1 zs → On W w1 → wpList Try.prog ops Q rest (a.put (some N) v1) w1)
    (hop : o.op = .call { callee := .builtin .append, args := #[s, x], argTypes := #[27, 27] } := by rfl)
    (hd : o.dst = some N := by rfl) (hg : o.guard = none := by rfl) (hs : a.eval s = .slice (some ⟨g, 0, none⟩) n n := by rfl) (hx : a.eval x = .slice A ys.length c := by rfl) : wpList Try.prog ops Q (o :: rest) a W := by
  subst hz hn
  refine apFull N Try.underlying27 infoI rfl (by omega) HO (flat_len (enc := encI) (sz := 1) (fun _ => rfl) ys) (fun j u hu => ?_) (fun u hu => ?_) (by omega) (by omega) hbase (fun v1 w1 h1 h2 => h v1 w1 ?_ h2) hop hd hg hs hx
  · obtain ⟨i, r, hi, hr, rfl, hv⟩ := flat_div (enc := encI) (sz := 1) (by omega) (fun _ => rfl) ys j u hu
    obtain ⟨ad', e, c0⟩ := HR.at i hi
    refine ⟨ad', e, ?_⟩
    obtain rfl : r = 0 := by omega
    obtain rfl : Value.int .i64 ys[i] = u := Option.some.inj hv
    rw [show i * 1 + 0 = i by omega]; exact c0
  · obtain ⟨y, _, hy⟩ := List.mem_flatMap.1 hu
    simp only [List.mem_cons, List.not_mem_nil, or_false] at hy
    rcases hy with rfl; rfl
  · show World.ownsRow _ _ _ _ _ (xs ++ ys).length _
    rw [show (xs ++ ys).flatMap encI = xs.flatMap encI ++ ys.flatMap encI from List.flatMap_append, List.length_append]
    exact h1
end
/-- Literals. -/
theorem lit_own (W : World) (cs : Array Value) (e sz n lo : Nat) (hlo : lo ≤ W.heap.size) (hn : n ≤ 1000000) (hs : cs.size = n * sz) : (W.alloc (.cells cs e (0, 0))).ownsRow lo e sz (.slice (some ⟨W.heap.size, 0, none⟩) n n) n cs.toList :=
  World.ownsRow_lit W cs n hlo (by simp [maxLen]; omega) hs
theorem lit_own' (g : Nat) (W : World) (hg : g = W.heap.size) (cs : Array Value) (e sz n lo : Nat) (hlo : lo ≤ W.heap.size) (hn : n ≤ 1000000) (hs : cs.size = n * sz) : (W.alloc (.cells cs e (0, 0))).ownsRow lo e sz (.slice (some ⟨g, 0, none⟩) n n) n cs.toList := by
  subst hg; exact lit_own W cs e sz n lo hlo hn hs
theorem lit_H (W : World) (r : Int) (A : Option Addr) (n c : Nat) : OH (W.alloc (.cells #[.int .i64 r, .slice A n c] 55 (0, 0))) W.heap.size (.slice (some ⟨W.heap.size, 0, none⟩) 1 1) [(r, A, n, c)] :=
  lit_own W #[.int .i64 r, .slice A n c] 55 2 1 W.heap.size (Nat.le_refl _) (by omega) rfl
theorem lit_RH {W w : World} {r : Int} {A : Option Addr} {n c : Nat} (hb : On (W.alloc (.cells #[.int .i64 r, .slice A n c] 55 (0, 0))) w) : RH w (some ⟨W.heap.size, 0, none⟩) 1 [(r, A, n, c)] :=
  (OH.rh (n := 1) (pw_own_below (lit_H W r A n c) hb)).2
theorem own_grows {w W w1 : World} {lo e sz n : Nat} {v : Value} {cs : List Value} (h : On w W) (hO : W.ownsRow lo e sz v n cs) (hg : W.grownBy w1 v.ownBlock) (hlo : w.heap.size ≤ lo) : On w w1 :=
  on_grown h hg fun k hk => Nat.le_trans hlo (own_base hO k hk)
end Go.Proofs.Ytngjhblbpapjeaa.H
