/- Rows of a call's own, cell by cell: relations, facts' headers, facts whose rows lie apart; worlds that differ in some blocks alone. No condition. -/
import Derived.Test.YtngjhblbpapjeaaHD
import Derived.Test.YtngjhblbpapjeaaHP
namespace Go.Proofs.Ytngjhblbpapjeaa.H
open Go Go.RowKit Go.Proofs.YtngjhblbpapjeaaW.PrintWords Go.Proofs.YtngjhblbpapjeaaW.PrintLast
open Go.Proofs.Ytngjhblbpapjeaa.Reg (On on_draw)
set_option maxHeartbeats 400000
set_option linter.unusedVariables false
set_option linter.unusedSimpArgs false

/-! Worlds that differ in the blocks S alone. -/
structure Ex (S : Nat → Prop) (W w : World) : Prop where
  os : w.os = W.os
  tape : w.tape = W.tape
  output : w.output = W.output
  size : W.heap.size ≤ w.heap.size
  block : ∀ k, k < W.heap.size → ¬ S k → w.heap[k]? = W.heap[k]?
theorem Ex.refl (S : Nat → Prop) (W : World) : Ex S W W := ⟨rfl, rfl, rfl, Nat.le_refl _, fun _ _ _ => rfl⟩
theorem Ex.trans {S S' : Nat → Prop} {a b c : World} (h : Ex S a b) (k : Ex S' b c) (hs : ∀ i, i < a.heap.size → S' i → S i) : Ex S a c :=
  ⟨k.os.trans h.os, k.tape.trans h.tape, k.output.trans h.output, Nat.le_trans h.size k.size, fun i hi hn => (k.block i (Nat.lt_of_lt_of_le hi h.size) (fun h' => hn (hs i hi h'))).trans (h.block i hi hn)⟩
theorem Ex.mono {S S' : Nat → Prop} {W w : World} (h : Ex S W w) (hs : ∀ k, S k → S' k) : Ex S' W w := ⟨h.os, h.tape, h.output, h.size, fun k hk hn => h.block k hk fun h' => hn (hs k h')⟩
theorem Ex.of_on {S : Nat → Prop} {W w : World} (h : On W w) : Ex S W w := ⟨h.os, h.tape, h.output, h.size, fun k hk _ => h.block k hk⟩
theorem Ex.of_grown {W w : World} {row : Option Nat} (h : W.grownBy w row) : Ex (fun k => some k = row) W w := ⟨h.os, h.tape, h.output, h.size, fun k hk hn => h.block k hk hn⟩
theorem Ex.on {S : Nat → Prop} {w0 W w : World} (h : On w0 W) (k : Ex S W w) (hs : ∀ i, S i → w0.heap.size ≤ i) : On w0 w :=
  ⟨k.os.trans h.os, k.tape.trans h.tape, k.output.trans h.output, Nat.le_trans h.size k.size, fun i hi => (k.block i (Nat.lt_of_lt_of_le hi h.size) fun h' => by have := hs i h'; omega).trans (h.block i hi)⟩
theorem Ex.to_on {S : Nat → Prop} {W w : World} (k : Ex S W w) (hs : ∀ i, S i → W.heap.size ≤ i) : On W w := Ex.on (On.refl W) k hs
theorem Ex.then_on {S : Nat → Prop} {a b c : World} (h : Ex S a b) (k : On b c) : Ex S a c := h.trans (Ex.of_on (S := fun _ => False) k) fun _ _ h => h.elim

theorem Ex.set (W : World) (p : Addr) (u : Value) : Ex (fun k => k = p.block) W (W.setCell p u) := ⟨rfl, rfl, rfl, by simp [World.setCell], fun k _ hn => Below.heap_setCell W p u k hn⟩
/-! Own rows. -/
theorem own_ex {S : Nat → Prop} {W w : World} {lo e sz n : Nat} {v : Value} {cs : List Value} (h : W.ownsRow lo e sz v n cs) (k : Ex S W w) (hs : ∀ i, v.ownBlock = some i → ¬ S i) : w.ownsRow lo e sz v n cs :=
  own_move h fun i hi => k.block i (own_lt h i hi) (hs i hi)
theorem own_rd {α : Type} {R : α → List Value → Prop} {w : World} {base n size : Nat} {e : TypeId} {v : Value} {ps : List α} {cs : List Value} (h : w.ownsRow base e size v n cs) (hR : Reps R size ps cs) (hn : ps.length = n) :
    ∃ A c, v = .slice A n c ∧ n ≤ c ∧ ReadsRow R size w A n ps := by
  obtain ⟨A, c, rfl, hr⟩ := own_reads_row h hR hn
  refine ⟨A, c, rfl, ?_, hr⟩
  rcases h.2 with ⟨h1, h2⟩ | ⟨g, cap, cur, h1, _, _, h3, _⟩
  · injection h1 with h1 h3 h4; omega
  · injection h1 with h1 h5 h4; omega
theorem own_lower {w : World} {lo lo' e sz n : Nat} {v : Value} {cs : List Value} (h : w.ownsRow lo e sz v n cs) (hl : lo' ≤ lo) : w.ownsRow lo' e sz v n cs := by
  refine ⟨h.1, ?_⟩
  rcases h.2 with h2 | ⟨g, cap, cur, h1, h2, h3⟩
  · exact .inl h2
  · exact .inr ⟨g, cap, cur, h1, Nat.le_trans hl h2, h3⟩
theorem reps_flat {α : Type} {R : α → List Value → Prop} {enc : α → List Value} {sz : Nat} (hl : ∀ x, (enc x).length = sz) : ∀ (xs : List α), (∀ x ∈ xs, R x (enc x)) → Reps R sz xs (xs.flatMap enc)
  | [], _ => Reps.none _ _
  | x :: xs, h => by
    obtain ⟨h1, h2⟩ := reps_flat hl xs (fun y hy => h y (List.mem_cons_of_mem _ hy))
    have e : (x :: xs).flatMap enc = enc x ++ xs.flatMap enc := rfl
    refine ⟨by rw [e, List.length_append, hl, h1, List.length_cons, Nat.add_mul, Nat.one_mul, Nat.add_comm], fun j p hj => ?_⟩
    rw [e]
    cases j with
    | zero =>
      simp at hj; subst hj
      rw [Nat.zero_mul, List.drop_zero, List.take_append_of_le_length (by rw [hl]; exact Nat.le_refl _), ← hl x, List.take_length]
      exact h x List.mem_cons_self
    | succ j =>
      have : (j + 1) * sz = (enc x).length + j * sz := by rw [hl, Nat.add_mul, Nat.one_mul, Nat.add_comm]
      rw [this, List.drop_append]
      have e2 : (enc x).drop ((enc x).length + j * sz) = [] := List.drop_of_length_le (by omega)
      rw [e2, List.nil_append, show (enc x).length + j * sz - (enc x).length = j * sz by omega]
      exact h2 j p (by simpa using hj)
abbrev encR (r : Rel) : List Value := [.string r.1, .int .i64 r.2.1, .bool r.2.2]
abbrev Hdr := Int × Option Addr × Nat × Nat
abbrev hdV (h : Hdr) : Value := .slice h.2.1 h.2.2.1 h.2.2.2
abbrev encH (h : Hdr) : List Value := [.int .i64 h.1, hdV h]
abbrev encI (x : Int) : List Value := [.int .i64 x]
abbrev OI (w : World) (lo : Nat) (v : Value) (xs : List Int) : Prop := w.ownsRow lo 3 1 v xs.length (xs.flatMap encI)
abbrev OR (w : World) (lo : Nat) (v : Value) (rs : List Rel) : Prop := w.ownsRow lo 87 3 v rs.length (rs.flatMap encR)
abbrev OH (w : World) (lo : Nat) (v : Value) (hs : List Hdr) : Prop := w.ownsRow lo 55 2 v hs.length (hs.flatMap encH)
theorem encs_flat (xs : List Int) : encs (Value.int .i64) xs = xs.flatMap encI := by
  induction xs with
  | nil => rfl
  | cons x xs ih => simp [encs] at ih ⊢; exact ih
theorem OI.of {w : World} {lo : Nat} {v : Value} {xs : List Int} (h : OInts w lo v xs) : OI w lo v xs := by
  have := Kd.own_of_R h
  rwa [encs_flat] at this
theorem OI.to {w : World} {lo : Nat} {v : Value} {xs : List Int} (h : OI w lo v xs) : OInts w lo v xs := by
  refine Kd.R_of_own ?_ (fun _ _ => trivial)
  rw [encs_flat]; exact h
theorem OI.rd {w : World} {lo : Nat} {v : Value} {xs : List Int} (h : OI w lo v xs) (hr : InR xs) : ∃ A c, v = .slice A xs.length c ∧ Ints w A c xs := OInts.slice (OI.to h) hr
theorem OR.rd {w : World} {lo : Nat} {v : Value} {rs : List Rel} (h : OR w lo v rs) : ∃ A c, v = .slice A rs.length c ∧ Rels w A c rs := by
  have hrep : Reps (kRel.K w) 3 rs (rs.flatMap encR) := reps_flat (R := kRel.K w) (enc := encR) (sz := 3) (fun _ => rfl) rs fun r _ => ⟨[.string r.1], [.int .i64 r.2.1, .bool r.2.2], rfl, rfl, [.int .i64 r.2.1], [.bool r.2.2], rfl, rfl, rfl⟩
  obtain ⟨A, c, rfl, hc, hr⟩ := own_rd h hrep rfl
  exact ⟨A, c, rfl, hc, hr⟩
/-- Headers that read as facts. -/
structure Reads (w : World) (hs : List Hdr) (fs : List Fct) : Prop where
  len : hs.length = fs.length
  at_ : ∀ (i : Nat) (h : Hdr) (f : Fct), hs[i]? = some h → fs[i]? = some f → h.1 = f.1 ∧ h.2.2.1 = f.2.length ∧ Ints w h.2.1 h.2.2.2 f.2
theorem Reads.on {W w : World} {hs : List Hdr} {fs : List Fct} (h : Reads W hs fs) (hb : On W w) : Reads w hs fs := ⟨h.len, fun i a f ha hf => ⟨(h.at_ i a f ha hf).1, (h.at_ i a f ha hf).2.1, (h.at_ i a f ha hf).2.2.on hb⟩⟩
theorem Reads.nil (w : World) : Reads w [] [] := ⟨rfl, fun i h f hh _ => by simp at hh⟩
theorem Reads.inF {w : World} {hs : List Hdr} {fs : List Fct} (h : Reads w hs fs) : InF fs := fun f hf => by
  obtain ⟨i, hi, rfl⟩ := List.getElem_of_mem hf
  exact (h.at_ i (hs[i]'(by rw [h.len]; exact hi)) fs[i] (List.getElem?_eq_getElem _) (List.getElem?_eq_getElem _)).2.2.2.2
theorem Reads.snoc {w : World} {hs : List Hdr} {fs : List Fct} {a : Hdr} {f : Fct} (h : Reads w hs fs) (h1 : a.1 = f.1) (h2 : a.2.2.1 = f.2.length) (h3 : Ints w a.2.1 a.2.2.2 f.2) : Reads w (hs ++ [a]) (fs ++ [f]) := by
  refine ⟨by simp [h.len], fun i b g hb hg => ?_⟩
  have hl := h.len
  rcases Nat.lt_or_ge i hs.length with hi | hi
  · rw [List.getElem?_append_left hi] at hb
    rw [List.getElem?_append_left (by omega)] at hg
    exact h.at_ i b g hb hg
  · rw [List.getElem?_append_right hi] at hb
    rw [List.getElem?_append_right (by omega), ← hl] at hg
    have : i - hs.length = 0 := by
      have := (List.getElem?_eq_some_iff.1 hb).1; simp at this; omega
    rw [this] at hb hg
    simp at hb hg
    subst hb hg
    exact ⟨h1, h2, h3⟩
theorem OH.rd {w : World} {lo : Nat} {v : Value} {hs : List Hdr} {fs : List Fct} (h : OH w lo v hs) (hr : Reads w hs fs) : ∃ A c, v = .slice A fs.length c ∧ Fcts w A c fs := by
  have hrep : Reps (kFct.K w) 2 fs (hs.flatMap encH) := by
    obtain ⟨h1, h2⟩ := reps_flat (R := fun (a : Hdr) cs => cs = encH a) (enc := encH) (sz := 2) (fun _ => rfl) hs fun _ _ => rfl
    refine ⟨by rw [h1, hr.len], fun j f hj => ?_⟩
    have hjl : j < hs.length := by rw [hr.len]; exact (List.getElem?_eq_some_iff.1 hj).1
    rw [h2 j hs[j] (List.getElem?_eq_getElem hjl)]
    obtain ⟨e1, e2, e3⟩ := hr.at_ j hs[j] f (List.getElem?_eq_getElem hjl) hj
    refine ⟨[.int .i64 hs[j].1], [hdV hs[j]], rfl, by rw [e1]; rfl, hs[j].2.1, hs[j].2.2.2, by rw [← e2], e3.1, e3.2.1⟩
  obtain ⟨A, c, rfl, hc, hr'⟩ := own_rd h hrep hr.len.symm
  rw [hr.len] at hc hr' ⊢
  exact ⟨A, c, rfl, hc, hr', hr.inF⟩
/-- Facts whose rows are the call's own and lie apart. -/
structure Sep (w : World) (lo : Nat) (hs : List Hdr) (fs : List Fct) : Prop where
  len : hs.length = fs.length
  at_ : ∀ (i : Nat) (h : Hdr) (f : Fct), hs[i]? = some h → fs[i]? = some f → h.1 = f.1 ∧ OI w lo (hdV h) f.2 ∧ InR f.2
  apart : ∀ (i j : Nat) (a b : Hdr) (k : Nat), hs[i]? = some a → hs[j]? = some b → (hdV a).ownBlock = some k → (hdV b).ownBlock = some k → i = j
theorem Sep.nil (w : World) (lo : Nat) : Sep w lo [] [] := ⟨rfl, fun i h f hh _ => by simp at hh, fun i j a b k ha => by simp at ha⟩
theorem Sep.reads {w : World} {lo : Nat} {hs : List Hdr} {fs : List Fct} (h : Sep w lo hs fs) : Reads w hs fs := ⟨h.len, fun i a f ha hf => by
  obtain ⟨h1, h2, h3⟩ := h.at_ i a f ha hf
  obtain ⟨A, c, e, h4⟩ := OI.rd h2 h3
  injection e with e1 e2 e3
  exact ⟨h1, e2, by rw [e1, e3]; exact h4⟩⟩
theorem Sep.ex {S : Nat → Prop} {W w : World} {lo : Nat} {hs : List Hdr} {fs : List Fct} (h : Sep W lo hs fs) (k : Ex S W w) (hS : ∀ (i : Nat) (a : Hdr) (b : Nat), hs[i]? = some a → (hdV a).ownBlock = some b → ¬ S b) : Sep w lo hs fs :=
  ⟨h.len, fun i a f ha hf => ⟨(h.at_ i a f ha hf).1, own_ex (h.at_ i a f ha hf).2.1 k (fun b hb => hS i a b ha hb), (h.at_ i a f ha hf).2.2⟩, h.apart⟩
theorem Sep.on {W w : World} {lo : Nat} {hs : List Hdr} {fs : List Fct} (h : Sep W lo hs fs) (hb : On W w) : Sep w lo hs fs := h.ex (Ex.of_on (S := fun _ => False) hb) (fun _ _ _ _ _ h => h)
theorem Sep.set {W : World} {lo : Nat} {hs : List Hdr} {fs : List Fct} (h : Sep W lo hs fs) {p : Addr} (hp : p.block < lo) (u : Value) : Sep (W.setCell p u) lo hs fs :=
  h.ex (Ex.set W p u) (fun i a b ha hb => fun e => by
    have hi : i < fs.length := by rw [← h.len]; exact (List.getElem?_eq_some_iff.1 ha).1
    have := own_base (h.at_ i a fs[i] ha (List.getElem?_eq_getElem hi)).2.1 b hb
    omega)
theorem Sep.lower {W : World} {lo lo' : Nat} {hs : List Hdr} {fs : List Fct} (h : Sep W lo hs fs) (hl : lo' ≤ lo) : Sep W lo' hs fs :=
  ⟨h.len, fun i a f ha hf => ⟨(h.at_ i a f ha hf).1, own_lower (h.at_ i a f ha hf).2.1 hl, (h.at_ i a f ha hf).2.2⟩, h.apart⟩
theorem Sep.lt {W : World} {lo : Nat} {hs : List Hdr} {fs : List Fct} (h : Sep W lo hs fs) {i : Nat} {a : Hdr} {b : Nat} (ha : hs[i]? = some a) (hb : (hdV a).ownBlock = some b) : lo ≤ b ∧ b < W.heap.size := by
  have hi : i < fs.length := by rw [← h.len]; exact (List.getElem?_eq_some_iff.1 ha).1
  have := (h.at_ i a fs[i] ha (List.getElem?_eq_getElem hi)).2.1
  exact ⟨own_base this b hb, own_lt this b hb⟩
theorem Sep.snoc {W w : World} {lo : Nat} {hs : List Hdr} {fs : List Fct} {a : Hdr} {f : Fct} (h : Sep W lo hs fs) (hb : On W w) (hlo : lo ≤ W.heap.size) (h1 : a.1 = f.1) (h2 : OI w W.heap.size (hdV a) f.2) (h3 : InR f.2) : Sep w lo (hs ++ [a]) (fs ++ [f]) := by
  have hl := h.len
  have hw := h.on hb
  have hat : ∀ i b, (hs ++ [a])[i]? = some b → (i < hs.length ∧ hs[i]? = some b) ∨ (i = hs.length ∧ b = a) := by
    intro i b hb
    rcases Nat.lt_or_ge i hs.length with hi | hi
    · rw [List.getElem?_append_left hi] at hb; exact .inl ⟨hi, hb⟩
    · rw [List.getElem?_append_right hi] at hb
      have : i - hs.length = 0 := by have := (List.getElem?_eq_some_iff.1 hb).1; simp at this; omega
      rw [this] at hb; simp at hb
      exact .inr ⟨by omega, hb.symm⟩
  refine ⟨by simp [hl], fun i b g hb hg => ?_, fun i j b c k hb hc h4 h5 => ?_⟩
  · rcases hat i b hb with ⟨hi, hb⟩ | ⟨hi, rfl⟩
    · rw [List.getElem?_append_left (by omega)] at hg; exact hw.at_ i b g hb hg
    · rw [List.getElem?_append_right (by omega), show i - fs.length = 0 by omega] at hg
      simp at hg; subst hg
      exact ⟨h1, own_lower h2 hlo, h3⟩
  · rcases hat i b hb with ⟨hi, hb'⟩ | ⟨hi, rfl⟩ <;> rcases hat j c hc with ⟨hj, hc'⟩ | ⟨hj, rfl⟩
    · exact h.apart i j b c k hb' hc' h4 h5
    · have := (h.lt hb' h4).2; have := own_base h2 k h5; omega
    · have := (h.lt hc' h5).2; have := own_base h2 k h4; omega
    · omega
/-- A made row. -/
theorem mkRow {ops : Array Oper} {rest : List Oper} {o : Oper} {a : Act} {Q : Exit → Act → World → Prop} {W : World} (N : Tmp) {t e sz bytes m : Nat} {z : Value} {x y : Operand} (ht : Try.prog.underlying t = some (.slice e))
    (hinfo : (Try.prog.info? e).map (fun i => (i.zero, i.size, i.bytes)) = some (some z, sz, bytes)) (hz : z.cells.size = sz) (hm : m * bytes ≤ 281474976710656) (hm2 : m ≤ 281474976710656)
    (h : (W.alloc (.cells (madeCells z.cells (m * sz)) e)).ownsRow W.heap.size e sz (.slice (some ⟨W.heap.size, 0, none⟩) m m) m (madeCells z.cells (m * sz)).toList → wpList Try.prog ops Q rest (a.put (some N) (.slice (some ⟨W.heap.size, 0, none⟩) m m)) (W.alloc (.cells (madeCells z.cells (m * sz)) e)))
    (hop : o.op = .makeSlice t x y := by rfl) (hd : o.dst = some N := by rfl) (hg : o.guard = none := by rfl) (hx : a.eval x = .int .i64 m := by rfl) (hy : a.eval y = .int .i64 m := by rfl) : wpList Try.prog ops Q (o :: rest) a W := by
  obtain ⟨i0, hi, hzz⟩ := Option.map_eq_some_iff.1 hinfo
  simp only [Prod.mk.injEq] at hzz
  obtain ⟨hz0, hz1, hz2⟩ := hzz
  have hr := run_make (P := Try.prog) W t e i0 z ht hi hz0 .i64 .i64 (m : Int) (m : Int) (by omega) (by omega)
    (by have h3 : ((i0.bytes * m : Nat) : Int) ≤ 281474976710656 := by rw [hz2, Nat.mul_comm]; omega
        rwa [Int.natCast_mul] at h3) (by omega)
  simp only [Int.toNat_natCast] at hr
  rw [hz1] at hr
  refine Kd.event_run hg (w1 := W.alloc (.cells (madeCells z.cells (m * sz)) e)) (v := .slice (some ⟨W.heap.size, 0, none⟩) m m) ?_ ?_
  · simp [execOp, hop, hx, hy, hr]
  · rw [hd]
    refine h (World.ownsRow_lit (base := W.heap.size) (e := e) (size := sz) W (madeCells z.cells (m * sz)) m (Nat.le_refl _) (by simp [maxLen]; omega) (by rw [size_madeCells]))
/-- An element stored: cells. -/
theorem set1 {A r : List Value} {z : Value} (i : Nat) (hi : A.length = i) (u : Value) : (A ++ z :: r).set i u = A ++ u :: r := by subst hi; simp
theorem set2 {A r : List Value} {z z' : Value} (i : Nat) (hi : A.length = i) (u u' : Value) : ((A ++ z :: z' :: r).set i u).set (i + 1) u' = A ++ u :: u' :: r := by
  subst hi; rw [set1 _ rfl, show A ++ u :: z' :: r = (A ++ [u]) ++ z' :: r by simp, set1 _ (by simp)]; simp
theorem set3 {A r : List Value} {z z' z'' : Value} (i : Nat) (hi : A.length = i) (u u' u'' : Value) : (((A ++ z :: z' :: z'' :: r).set i u).set (i + 1) u').set (i + 2) u'' = A ++ u :: u' :: u'' :: r := by
  rw [set2 i hi, show A ++ u :: u' :: z'' :: r = (A ++ [u, u']) ++ z'' :: r by simp, set1 _ (by simp; omega)]; simp
theorem split3 {cs : List Value} {i : Nat} (h : i + 3 ≤ cs.length) : ∃ z z' z'', cs = cs.take i ++ z :: z' :: z'' :: cs.drop (i + 3) := by
  refine ⟨cs[i], cs[i + 1], cs[i + 2], ?_⟩
  have e1 := List.drop_eq_getElem_cons (l := cs) (i := i) (by omega)
  have e2 := List.drop_eq_getElem_cons (l := cs) (i := i + 1) (by omega)
  have e3 := List.drop_eq_getElem_cons (l := cs) (i := i + 2) (by omega)
  rw [show i + 1 + 1 = i + 2 from rfl] at e2
  rw [show i + 2 + 1 = i + 3 from rfl] at e3
  rw [← e3, ← e2, ← e1, List.take_append_drop]
theorem split2 {cs : List Value} {i : Nat} (h : i + 2 ≤ cs.length) : ∃ z z', cs = cs.take i ++ z :: z' :: cs.drop (i + 2) := by
  refine ⟨cs[i], cs[i + 1], ?_⟩
  have e1 := List.drop_eq_getElem_cons (l := cs) (i := i) (by omega)
  have e2 := List.drop_eq_getElem_cons (l := cs) (i := i + 1) (by omega)
  rw [show i + 1 + 1 = i + 2 from rfl] at e2
  rw [← e2, ← e1, List.take_append_drop]
theorem flat_len {α : Type} {enc : α → List Value} {sz : Nat} (hl : ∀ x, (enc x).length = sz) (xs : List α) : (xs.flatMap enc).length = xs.length * sz := by
  induction xs with
  | nil => simp
  | cons x xs ih => rw [List.flatMap_cons, List.length_append, hl, ih, List.length_cons, Nat.add_mul, Nat.one_mul, Nat.add_comm]
theorem flat_take_succ {α : Type} {enc : α → List Value} (xs : List α) (k : Nat) (h : k < xs.length) : (xs.take (k + 1)).flatMap enc = (xs.take k).flatMap enc ++ enc xs[k] := by
  rw [List.take_succ_eq_append_getElem h, List.flatMap_append]; simp
theorem own_frozen {w : World} {lo e sz n g c : Nat} {cs : List Value} (h : w.ownsRow lo e sz (.slice (some ⟨g, 0, none⟩) n c) n cs) (j : Nat) : w.frozen? ⟨g, j, none⟩ = false := by
  rcases h.2 with ⟨h', _⟩ | ⟨g', cap', cur, h', _, hh, _⟩
  · cases h'
  · have : g = g' := by injection h' with h'; injection h' with h'; injection h' with h'
    subst this
    simp [World.frozen?, hh]
theorem own_some {w : World} {lo e sz n g c : Nat} {cs : List Value} (h : w.ownsRow lo e sz (.slice (some ⟨g, 0, none⟩) n c) n cs) (j : Nat) (hj : j < n * sz) : ∃ z, w.cell? ⟨g, j, none⟩ = some z := by
  rw [h.cellAt j hj, List.getElem?_eq_getElem (by rw [h.1]; exact hj)]; exact ⟨_, rfl⟩
/-! Results that lie in a box. -/
section
variable {fn : Func} {p : Tmp} {tmps : Array Value} {w : World} {g : Nat} {t : TypeId} {cs : Array Value} {fr : Nat × Nat}
theorem retF (h : fn.results = #[.cell p 55]) (hp : tmps.getD p undef = .pointer (some ⟨g, 0, none⟩)) (hg : w.heap[g]? = some (.cells cs t fr)) (hs : cs.size = 2) : (results fn tmps).run Try.prog w = .ok (.agg cs) w :=
  results_cell_row h tmps w g t cs fr _ hp hg Try.underlying55 rfl (by rw [hs]; kernel_rfl)
theorem retR (h : fn.results = #[.cell p 87]) (hp : tmps.getD p undef = .pointer (some ⟨g, 0, none⟩)) (hg : w.heap[g]? = some (.cells cs t fr)) (hs : cs.size = 3) : (results fn tmps).run Try.prog w = .ok (.agg cs) w :=
  results_cell_row h tmps w g t cs fr _ hp hg Try.underlying87 rfl (by rw [hs]; kernel_rfl)
theorem retI (h : fn.results = #[.cell p 32]) (hp : tmps.getD p undef = .pointer (some ⟨g, 0, none⟩)) (hg : w.heap[g]? = some (.cells cs t fr)) (hs : cs.size = 2) : (results fn tmps).run Try.prog w = .ok (.agg cs) w :=
  results_cell_row h tmps w g t cs fr _ hp hg Try.underlying32 rfl (by rw [hs]; kernel_rfl)
end
end Go.Proofs.Ytngjhblbpapjeaa.H
