/- Walks and plain laws for the law FnExactParseInstance, part 2 of 4: the texts HO, HF2, HL1, HL3, HL2, HL4, HL5, HL6, HL7, HO2, HF3, HF4, HF5, HC2 in one. No condition. -/
import Derived.Test.YtgemaohdlibboaaGreatDoorShelf
import Derived.Maps.AppendAt
import Derived.Lib.SliceRun
import Derived.Test.YtgemaohdlibboaaGreatDoorZFnExactParseInstance1
/- Rows of a call's own, cell by cell: relations, facts' headers, facts whose rows lie apart; worlds that differ in some blocks alone. No condition. -/
namespace Go.Proofs.YtgemaohdlibboaaGreatDoor.H
open Go Go.RowKit Go.Proofs.YtgemaohdlibboaaGreatDoorW.PrintWords Go.Proofs.YtgemaohdlibboaaGreatDoorW.PrintLast
open Go.Proofs.YtgemaohdlibboaaGreatDoor.Reg (On on_draw)
set_option maxHeartbeats 400000
set_option linter.unusedVariables false
set_option linter.unusedSimpArgs false

/-! Worlds that differ in the blocks S alone. -/
structure Ex (S : Nat → Prop) (W w : World) : Prop where
  os : w.os = W.os
  tape : w.tape = W.tape
  output : w.output = W.output
  size : W.heap.size ≤ w.heap.size
  block : ∀ k, k < W.heap.size → ¬ S k → w.heap[k]? = W.heap[k]?
theorem Ex.refl (S : Nat → Prop) (W : World) : Ex S W W := ⟨rfl, rfl, rfl, Nat.le_refl _, fun _ _ _ => rfl⟩
theorem Ex.trans {S S' : Nat → Prop} {a b c : World} (h : Ex S a b) (k : Ex S' b c) (hs : ∀ i, i < a.heap.size → S' i → S i) : Ex S a c :=
  ⟨k.os.trans h.os, k.tape.trans h.tape, k.output.trans h.output, Nat.le_trans h.size k.size, fun i hi hn => (k.block i (Nat.lt_of_lt_of_le hi h.size) (fun h' => hn (hs i hi h'))).trans (h.block i hi hn)⟩
theorem Ex.mono {S S' : Nat → Prop} {W w : World} (h : Ex S W w) (hs : ∀ k, S k → S' k) : Ex S' W w := ⟨h.os, h.tape, h.output, h.size, fun k hk hn => h.block k hk fun h' => hn (hs k h')⟩
theorem Ex.of_on {S : Nat → Prop} {W w : World} (h : On W w) : Ex S W w := ⟨h.os, h.tape, h.output, h.size, fun k hk _ => h.block k hk⟩
theorem Ex.of_grown {W w : World} {row : Option Nat} (h : W.grownBy w row) : Ex (fun k => some k = row) W w := ⟨h.os, h.tape, h.output, h.size, fun k hk hn => h.block k hk hn⟩
theorem Ex.on {S : Nat → Prop} {w0 W w : World} (h : On w0 W) (k : Ex S W w) (hs : ∀ i, S i → w0.heap.size ≤ i) : On w0 w :=
  ⟨k.os.trans h.os, k.tape.trans h.tape, k.output.trans h.output, Nat.le_trans h.size k.size, fun i hi => (k.block i (Nat.lt_of_lt_of_le hi h.size) fun h' => by have := hs i h'; omega).trans (h.block i hi)⟩
theorem Ex.to_on {S : Nat → Prop} {W w : World} (k : Ex S W w) (hs : ∀ i, S i → W.heap.size ≤ i) : On W w := Ex.on (On.refl W) k hs
theorem Ex.then_on {S : Nat → Prop} {a b c : World} (h : Ex S a b) (k : On b c) : Ex S a c := h.trans (Ex.of_on (S := fun _ => False) k) fun _ _ h => h.elim

theorem Ex.set (W : World) (p : Addr) (u : Value) : Ex (fun k => k = p.block) W (W.setCell p u) := ⟨rfl, rfl, rfl, by simp [World.setCell], fun k _ hn => Below.heap_setCell W p u k hn⟩
/-! Own rows. -/
theorem own_ex {S : Nat → Prop} {W w : World} {lo e sz n : Nat} {v : Value} {cs : List Value} (h : W.ownsRow lo e sz v n cs) (k : Ex S W w) (hs : ∀ i, v.ownBlock = some i → ¬ S i) : w.ownsRow lo e sz v n cs :=
  own_move h fun i hi => k.block i (own_lt h i hi) (hs i hi)
theorem own_rd {α : Type} {R : α → List Value → Prop} {w : World} {base n size : Nat} {e : TypeId} {v : Value} {ps : List α} {cs : List Value} (h : w.ownsRow base e size v n cs) (hR : Reps R size ps cs) (hn : ps.length = n) :
    ∃ A c, v = .slice A n c ∧ n ≤ c ∧ ReadsRow R size w A n ps := by
  obtain ⟨A, c, rfl, hr⟩ := own_reads_row h hR hn
  refine ⟨A, c, rfl, ?_, hr⟩
  rcases h.2 with ⟨h1, h2⟩ | ⟨g, cap, cur, h1, _, _, h3, _⟩
  · injection h1 with h1 h3 h4; omega
  · injection h1 with h1 h5 h4; omega
theorem own_lower {w : World} {lo lo' e sz n : Nat} {v : Value} {cs : List Value} (h : w.ownsRow lo e sz v n cs) (hl : lo' ≤ lo) : w.ownsRow lo' e sz v n cs := by
  refine ⟨h.1, ?_⟩
  rcases h.2 with h2 | ⟨g, cap, cur, h1, h2, h3⟩
  · exact .inl h2
  · exact .inr ⟨g, cap, cur, h1, Nat.le_trans hl h2, h3⟩
theorem reps_flat {α : Type} {R : α → List Value → Prop} {enc : α → List Value} {sz : Nat} (hl : ∀ x, (enc x).length = sz) : ∀ (xs : List α), (∀ x ∈ xs, R x (enc x)) → Reps R sz xs (xs.flatMap enc)
  | [], _ => Reps.none _ _
  | x :: xs, h => by
    obtain ⟨h1, h2⟩ := reps_flat hl xs (fun y hy => h y (List.mem_cons_of_mem _ hy))
    have e : (x :: xs).flatMap enc = enc x ++ xs.flatMap enc := rfl
    refine ⟨by rw [e, List.length_append, hl, h1, List.length_cons, Nat.add_mul, Nat.one_mul, Nat.add_comm], fun j p hj => ?_⟩
    rw [e]
    cases j with
    | zero =>
      simp at hj; subst hj
      rw [Nat.zero_mul, List.drop_zero, List.take_append_of_le_length (by rw [hl]; exact Nat.le_refl _), ← hl x, List.take_length]
      exact h x List.mem_cons_self
    | succ j =>
      have : (j + 1) * sz = (enc x).length + j * sz := by rw [hl, Nat.add_mul, Nat.one_mul, Nat.add_comm]
      rw [this, List.drop_append]
      have e2 : (enc x).drop ((enc x).length + j * sz) = [] := List.drop_of_length_le (by omega)
      rw [e2, List.nil_append, show (enc x).length + j * sz - (enc x).length = j * sz by omega]
      exact h2 j p (by simpa using hj)
abbrev encR (r : Rel) : List Value := [.string r.1, .int .i64 r.2.1, .bool r.2.2]
abbrev Hdr := Int × Option Addr × Nat × Nat
abbrev hdV (h : Hdr) : Value := .slice h.2.1 h.2.2.1 h.2.2.2
abbrev encH (h : Hdr) : List Value := [.int .i64 h.1, hdV h]
abbrev encI (x : Int) : List Value := [.int .i64 x]
abbrev OI (w : World) (lo : Nat) (v : Value) (xs : List Int) : Prop := w.ownsRow lo 3 1 v xs.length (xs.flatMap encI)
abbrev OR (w : World) (lo : Nat) (v : Value) (rs : List Rel) : Prop := w.ownsRow lo 95 3 v rs.length (rs.flatMap encR)
abbrev OH (w : World) (lo : Nat) (v : Value) (hs : List Hdr) : Prop := w.ownsRow lo 60 2 v hs.length (hs.flatMap encH)
theorem encs_flat (xs : List Int) : encs (Value.int .i64) xs = xs.flatMap encI := by
  induction xs with
  | nil => rfl
  | cons x xs ih => simp [encs] at ih ⊢; exact ih
theorem OI.of {w : World} {lo : Nat} {v : Value} {xs : List Int} (h : OInts w lo v xs) : OI w lo v xs := by
  have := Kd.own_of_R h
  rwa [encs_flat] at this
theorem OI.to {w : World} {lo : Nat} {v : Value} {xs : List Int} (h : OI w lo v xs) : OInts w lo v xs := by
  refine Kd.R_of_own ?_ (fun _ _ => trivial)
  rw [encs_flat]; exact h
theorem OI.rd {w : World} {lo : Nat} {v : Value} {xs : List Int} (h : OI w lo v xs) (hr : InR xs) : ∃ A c, v = .slice A xs.length c ∧ Ints w A c xs := OInts.slice (OI.to h) hr
theorem OR.rd {w : World} {lo : Nat} {v : Value} {rs : List Rel} (h : OR w lo v rs) : ∃ A c, v = .slice A rs.length c ∧ Rels w A c rs := by
  have hrep : Reps (kRel.K w) 3 rs (rs.flatMap encR) := reps_flat (R := kRel.K w) (enc := encR) (sz := 3) (fun _ => rfl) rs fun r _ => ⟨[.string r.1], [.int .i64 r.2.1, .bool r.2.2], rfl, rfl, [.int .i64 r.2.1], [.bool r.2.2], rfl, rfl, rfl⟩
  obtain ⟨A, c, rfl, hc, hr⟩ := own_rd h hrep rfl
  exact ⟨A, c, rfl, hc, hr⟩
/-- Headers that read as facts. -/
structure Reads (w : World) (hs : List Hdr) (fs : List Fct) : Prop where
  len : hs.length = fs.length
  at_ : ∀ (i : Nat) (h : Hdr) (f : Fct), hs[i]? = some h → fs[i]? = some f → h.1 = f.1 ∧ h.2.2.1 = f.2.length ∧ Ints w h.2.1 h.2.2.2 f.2
theorem Reads.on {W w : World} {hs : List Hdr} {fs : List Fct} (h : Reads W hs fs) (hb : On W w) : Reads w hs fs := ⟨h.len, fun i a f ha hf => ⟨(h.at_ i a f ha hf).1, (h.at_ i a f ha hf).2.1, (h.at_ i a f ha hf).2.2.on hb⟩⟩
theorem Reads.nil (w : World) : Reads w [] [] := ⟨rfl, fun i h f hh _ => by simp at hh⟩
theorem Reads.inF {w : World} {hs : List Hdr} {fs : List Fct} (h : Reads w hs fs) : InF fs := fun f hf => by
  obtain ⟨i, hi, rfl⟩ := List.getElem_of_mem hf
  exact (h.at_ i (hs[i]'(by rw [h.len]; exact hi)) fs[i] (List.getElem?_eq_getElem _) (List.getElem?_eq_getElem _)).2.2.2.2
theorem Reads.snoc {w : World} {hs : List Hdr} {fs : List Fct} {a : Hdr} {f : Fct} (h : Reads w hs fs) (h1 : a.1 = f.1) (h2 : a.2.2.1 = f.2.length) (h3 : Ints w a.2.1 a.2.2.2 f.2) : Reads w (hs ++ [a]) (fs ++ [f]) := by
  refine ⟨by simp [h.len], fun i b g hb hg => ?_⟩
  have hl := h.len
  rcases Nat.lt_or_ge i hs.length with hi | hi
  · rw [List.getElem?_append_left hi] at hb
    rw [List.getElem?_append_left (by omega)] at hg
    exact h.at_ i b g hb hg
  · rw [List.getElem?_append_right hi] at hb
    rw [List.getElem?_append_right (by omega), ← hl] at hg
    have : i - hs.length = 0 := by
      have := (List.getElem?_eq_some_iff.1 hb).1; simp at this; omega
    rw [this] at hb hg
    simp at hb hg
    subst hb hg
    exact ⟨h1, h2, h3⟩
theorem OH.rd {w : World} {lo : Nat} {v : Value} {hs : List Hdr} {fs : List Fct} (h : OH w lo v hs) (hr : Reads w hs fs) : ∃ A c, v = .slice A fs.length c ∧ Fcts w A c fs := by
  have hrep : Reps (kFct.K w) 2 fs (hs.flatMap encH) := by
    obtain ⟨h1, h2⟩ := reps_flat (R := fun (a : Hdr) cs => cs = encH a) (enc := encH) (sz := 2) (fun _ => rfl) hs fun _ _ => rfl
    refine ⟨by rw [h1, hr.len], fun j f hj => ?_⟩
    have hjl : j < hs.length := by rw [hr.len]; exact (List.getElem?_eq_some_iff.1 hj).1
    rw [h2 j hs[j] (List.getElem?_eq_getElem hjl)]
    obtain ⟨e1, e2, e3⟩ := hr.at_ j hs[j] f (List.getElem?_eq_getElem hjl) hj
    refine ⟨[.int .i64 hs[j].1], [hdV hs[j]], rfl, by rw [e1]; rfl, hs[j].2.1, hs[j].2.2.2, by rw [← e2], e3.1, e3.2.1⟩
  obtain ⟨A, c, rfl, hc, hr'⟩ := own_rd h hrep hr.len.symm
  rw [hr.len] at hc hr' ⊢
  exact ⟨A, c, rfl, hc, hr', hr.inF⟩
/-- Facts whose rows are the call's own and lie apart. -/
structure Sep (w : World) (lo : Nat) (hs : List Hdr) (fs : List Fct) : Prop where
  len : hs.length = fs.length
  at_ : ∀ (i : Nat) (h : Hdr) (f : Fct), hs[i]? = some h → fs[i]? = some f → h.1 = f.1 ∧ OI w lo (hdV h) f.2 ∧ InR f.2
  apart : ∀ (i j : Nat) (a b : Hdr) (k : Nat), hs[i]? = some a → hs[j]? = some b → (hdV a).ownBlock = some k → (hdV b).ownBlock = some k → i = j
theorem Sep.nil (w : World) (lo : Nat) : Sep w lo [] [] := ⟨rfl, fun i h f hh _ => by simp at hh, fun i j a b k ha => by simp at ha⟩
theorem Sep.reads {w : World} {lo : Nat} {hs : List Hdr} {fs : List Fct} (h : Sep w lo hs fs) : Reads w hs fs := ⟨h.len, fun i a f ha hf => by
  obtain ⟨h1, h2, h3⟩ := h.at_ i a f ha hf
  obtain ⟨A, c, e, h4⟩ := OI.rd h2 h3
  injection e with e1 e2 e3
  exact ⟨h1, e2, by rw [e1, e3]; exact h4⟩⟩
theorem Sep.ex {S : Nat → Prop} {W w : World} {lo : Nat} {hs : List Hdr} {fs : List Fct} (h : Sep W lo hs fs) (k : Ex S W w) (hS : ∀ (i : Nat) (a : Hdr) (b : Nat), hs[i]? = some a → (hdV a).ownBlock = some b → ¬ S b) : Sep w lo hs fs :=
  ⟨h.len, fun i a f ha hf => ⟨(h.at_ i a f ha hf).1, own_ex (h.at_ i a f ha hf).2.1 k (fun b hb => hS i a b ha hb), (h.at_ i a f ha hf).2.2⟩, h.apart⟩
theorem Sep.on {W w : World} {lo : Nat} {hs : List Hdr} {fs : List Fct} (h : Sep W lo hs fs) (hb : On W w) : Sep w lo hs fs := h.ex (Ex.of_on (S := fun _ => False) hb) (fun _ _ _ _ _ h => h)
theorem Sep.set {W : World} {lo : Nat} {hs : List Hdr} {fs : List Fct} (h : Sep W lo hs fs) {p : Addr} (hp : p.block < lo) (u : Value) : Sep (W.setCell p u) lo hs fs :=
  h.ex (Ex.set W p u) (fun i a b ha hb => fun e => by
    have hi : i < fs.length := by rw [← h.len]; exact (List.getElem?_eq_some_iff.1 ha).1
    have := own_base (h.at_ i a fs[i] ha (List.getElem?_eq_getElem hi)).2.1 b hb
    omega)
theorem Sep.lower {W : World} {lo lo' : Nat} {hs : List Hdr} {fs : List Fct} (h : Sep W lo hs fs) (hl : lo' ≤ lo) : Sep W lo' hs fs :=
  ⟨h.len, fun i a f ha hf => ⟨(h.at_ i a f ha hf).1, own_lower (h.at_ i a f ha hf).2.1 hl, (h.at_ i a f ha hf).2.2⟩, h.apart⟩
theorem Sep.lt {W : World} {lo : Nat} {hs : List Hdr} {fs : List Fct} (h : Sep W lo hs fs) {i : Nat} {a : Hdr} {b : Nat} (ha : hs[i]? = some a) (hb : (hdV a).ownBlock = some b) : lo ≤ b ∧ b < W.heap.size := by
  have hi : i < fs.length := by rw [← h.len]; exact (List.getElem?_eq_some_iff.1 ha).1
  have := (h.at_ i a fs[i] ha (List.getElem?_eq_getElem hi)).2.1
  exact ⟨own_base this b hb, own_lt this b hb⟩
theorem Sep.snoc {W w : World} {lo : Nat} {hs : List Hdr} {fs : List Fct} {a : Hdr} {f : Fct} (h : Sep W lo hs fs) (hb : On W w) (hlo : lo ≤ W.heap.size) (h1 : a.1 = f.1) (h2 : OI w W.heap.size (hdV a) f.2) (h3 : InR f.2) : Sep w lo (hs ++ [a]) (fs ++ [f]) := by
  have hl := h.len
  have hw := h.on hb
  have hat : ∀ i b, (hs ++ [a])[i]? = some b → (i < hs.length ∧ hs[i]? = some b) ∨ (i = hs.length ∧ b = a) := by
    intro i b hb
    rcases Nat.lt_or_ge i hs.length with hi | hi
    · rw [List.getElem?_append_left hi] at hb; exact .inl ⟨hi, hb⟩
    · rw [List.getElem?_append_right hi] at hb
      have : i - hs.length = 0 := by have := (List.getElem?_eq_some_iff.1 hb).1; simp at this; omega
      rw [this] at hb; simp at hb
      exact .inr ⟨by omega, hb.symm⟩
  refine ⟨by simp [hl], fun i b g hb hg => ?_, fun i j b c k hb hc h4 h5 => ?_⟩
  · rcases hat i b hb with ⟨hi, hb⟩ | ⟨hi, rfl⟩
    · rw [List.getElem?_append_left (by omega)] at hg; exact hw.at_ i b g hb hg
    · rw [List.getElem?_append_right (by omega), show i - fs.length = 0 by omega] at hg
      simp at hg; subst hg
      exact ⟨h1, own_lower h2 hlo, h3⟩
  · rcases hat i b hb with ⟨hi, hb'⟩ | ⟨hi, rfl⟩ <;> rcases hat j c hc with ⟨hj, hc'⟩ | ⟨hj, rfl⟩
    · exact h.apart i j b c k hb' hc' h4 h5
    · have := (h.lt hb' h4).2; have := own_base h2 k h5; omega
    · have := (h.lt hc' h5).2; have := own_base h2 k h4; omega
    · omega
/-- An element stored: cells. -/
theorem set1 {A r : List Value} {z : Value} (i : Nat) (hi : A.length = i) (u : Value) : (A ++ z :: r).set i u = A ++ u :: r := by subst hi; simp
theorem set2 {A r : List Value} {z z' : Value} (i : Nat) (hi : A.length = i) (u u' : Value) : ((A ++ z :: z' :: r).set i u).set (i + 1) u' = A ++ u :: u' :: r := by
  subst hi; rw [set1 _ rfl, show A ++ u :: z' :: r = (A ++ [u]) ++ z' :: r by simp, set1 _ (by simp)]; simp
theorem set3 {A r : List Value} {z z' z'' : Value} (i : Nat) (hi : A.length = i) (u u' u'' : Value) : (((A ++ z :: z' :: z'' :: r).set i u).set (i + 1) u').set (i + 2) u'' = A ++ u :: u' :: u'' :: r := by
  rw [set2 i hi, show A ++ u :: u' :: z'' :: r = (A ++ [u, u']) ++ z'' :: r by simp, set1 _ (by simp; omega)]; simp
theorem split3 {cs : List Value} {i : Nat} (h : i + 3 ≤ cs.length) : ∃ z z' z'', cs = cs.take i ++ z :: z' :: z'' :: cs.drop (i + 3) := by
  refine ⟨cs[i], cs[i + 1], cs[i + 2], ?_⟩
  have e1 := List.drop_eq_getElem_cons (l := cs) (i := i) (by omega)
  have e2 := List.drop_eq_getElem_cons (l := cs) (i := i + 1) (by omega)
  have e3 := List.drop_eq_getElem_cons (l := cs) (i := i + 2) (by omega)
  rw [show i + 1 + 1 = i + 2 from rfl] at e2
  rw [show i + 2 + 1 = i + 3 from rfl] at e3
  rw [← e3, ← e2, ← e1, List.take_append_drop]
theorem flat_len {α : Type} {enc : α → List Value} {sz : Nat} (hl : ∀ x, (enc x).length = sz) (xs : List α) : (xs.flatMap enc).length = xs.length * sz := by
  induction xs with
  | nil => simp
  | cons x xs ih => rw [List.flatMap_cons, List.length_append, hl, ih, List.length_cons, Nat.add_mul, Nat.one_mul, Nat.add_comm]
theorem flat_take_succ {α : Type} {enc : α → List Value} (xs : List α) (k : Nat) (h : k < xs.length) : (xs.take (k + 1)).flatMap enc = (xs.take k).flatMap enc ++ enc xs[k] := by
  rw [List.take_succ_eq_append_getElem h, List.flatMap_append]; simp
theorem own_frozen {w : World} {lo e sz n g c : Nat} {cs : List Value} (h : w.ownsRow lo e sz (.slice (some ⟨g, 0, none⟩) n c) n cs) (j : Nat) : w.frozen? ⟨g, j, none⟩ = false := by
  rcases h.2 with ⟨h', _⟩ | ⟨g', cap', cur, h', _, hh, _⟩
  · cases h'
  · have : g = g' := by injection h' with h'; injection h' with h'; injection h' with h'
    subst this
    simp [World.frozen?, hh]
theorem own_some {w : World} {lo e sz n g c : Nat} {cs : List Value} (h : w.ownsRow lo e sz (.slice (some ⟨g, 0, none⟩) n c) n cs) (j : Nat) (hj : j < n * sz) : ∃ z, w.cell? ⟨g, j, none⟩ = some z := by
  rw [h.cellAt j hj, List.getElem?_eq_getElem (by rw [h.1]; exact hj)]; exact ⟨_, rfl⟩
/-! Results that lie in a box. -/
section
variable {fn : Func} {p : Tmp} {tmps : Array Value} {w : World} {g : Nat} {t : TypeId} {cs : Array Value} {fr : Nat × Nat}
end
end Go.Proofs.YtgemaohdlibboaaGreatDoor.H
/- Walks: numbers and values, written and read, on both sides. No condition. -/
namespace Go.Proofs.YtgemaohdlibboaaGreatDoor.H
open Go Go.RowKit Go.Proofs.YtgemaohdlibboaaGreatDoorW.PrintWords Go.Proofs.YtgemaohdlibboaaGreatDoorW.PrintLast
open Go.Proofs.YtgemaohdlibboaaGreatDoor.Reg (On on_draw)
set_option maxHeartbeats 4000000
set_option maxRecDepth 100000
set_option linter.unusedVariables false
set_option linter.unusedSimpArgs false

theorem iFormatInt_calls (w : World) (x : Int) (h0 : 0 ≤ x) (h1 : x < 100) : Calls Tryz.prog 107 #[.int .i64 x] w fun e w' => e = .returned (.string (strB (Lib.itoa x))) ∧ On w w' := by
  obtain ⟨n, rfl⟩ := Int.eq_ofNat_of_zero_le h0
  have e : strB (Lib.itoa (n : Int)) = ⟨(Lib.decDigits n).toArray⟩ := by unfold strB Lib.itoa; rw [if_neg (by omega)]; simp
  rw [e]
  go_enter Tryz.func107, Tryz.ntmps107
  go_wp2_with (go_at_call 166; refine (Tryz.strconv_Itoa_small n (by omega) _).mono ?_; rintro e w1 ⟨rfl, rfl⟩)
  go_ret
  exact ⟨rfl, On.refl _⟩
theorem digits_step (u : Nat) (h : 10 ≤ u) : Lib.decDigits u = Lib.decDigits (u / 10) ++ [UInt8.ofNat (48 + u % 10)] := by rw [Lib.decDigits, dif_neg (by omega)]
theorem digits_one (u : Nat) (h : u < 10) : Lib.decDigits u = [UInt8.ofNat (48 + u)] := by rw [Lib.decDigits, dif_pos h]
theorem str_one (d : Nat) : strOfNums [((48 + d : Nat) : Int) % 256] = strB [UInt8.ofNat (48 + d)] := by
  have e1 : (((48 + d : Nat) : Int) % 256).toNat = (48 + d) % 256 := by omega
  have e2 : UInt8.ofNat ((48 + d) % 256) = UInt8.ofNat (48 + d) := by apply UInt8.toNat_inj.1; simp
  unfold strOfNums strB
  simp only [List.map_cons, List.map_nil, e1, e2]
theorem sFormatInt_calls (w : World) (x : Int) (h0 : 0 ≤ x) (h1 : x < 100) : Calls Tryz.prog 162 #[.int .i64 x] w fun e w' => e = .returned (.string (strB (Lib.itoa x))) ∧ On w w' := by
  obtain ⟨u, rfl⟩ := Int.eq_ofNat_of_zero_le h0
  by_cases c : u = 0
  · subst c
    go_enter Tryz.func162, Tryz.ntmps162
    go_wp2
    go_ret
    exact ⟨by rw [itoa_small (by omega) (by omega)]; rfl, On.refl _⟩
  · have b0 : ((u : Int) == 0) = false := beq_eq_false_iff_ne.mpr (by omega)
    have b1 : ((u : Int) != 0) = true := bne_iff_ne.mpr (by omega)
    have bn : decide ((u : Int) < 0) = false := decide_eq_false (by omega)
    have hit := Aside0.mk (show Lib.itoa (u : Int) = Lib.decDigits u by unfold Lib.itoa; rw [if_neg (by omega)]; simp)
    have hu := Aside0.mk (show u < 100 by omega)
    have hc := Aside0.mk c
    clear h0 h1 c
    go_enter Tryz.func162, Tryz.ntmps162
    go_wp2
    clear b0 b1
    go_loopw [0, 3] (fun v0 v3 wr => ∃ (n : Nat) (o : List UInt8), v0 = .int .i64 n ∧ v3 = .string (strB o) ∧ n < 100 ∧ o.length ≤ 2 ∧ Aside0 ((n = u ∧ o = []) ∨ (10 ≤ u ∧ n = u / 10 ∧ o = [UInt8.ofNat (48 + u % 10)]) ∨ (n = 0 ∧ o = Lib.decDigits u)) ∧ On w wr) (fun v0 _ _ => (intOf v0).toNat)
    case atStart => exact ⟨u, [], rfl, rfl, hu.out, by simp, ⟨.inl ⟨rfl, rfl⟩⟩, On.refl _⟩
    case round =>
      obtain ⟨n, o, rfl, rfl, hn, ho, hd, hB⟩ := hrel
      have hB' := Aside0.mk hB
      have hd' := Aside0.mk hd.out
      have hn' := Aside0.mk hn
      have ho' := Aside0.mk ho
      clear hd hB hn ho
      by_cases c : n = 0
      · subst c
        go_wp2
        go_ret
        refine ⟨by rw [hit.out]; rcases hd'.out with ⟨h, _⟩ | ⟨h, h2, _⟩ | ⟨_, h⟩; (have := hc.out; omega); omega; (rw [h]; rfl), hB'.out⟩
      · have c0 : ((n : Int) == 0) = false := beq_eq_false_iff_ne.mpr (by omega)
        have c1 : ((n : Int) != 0) = true := bne_iff_ne.mpr (by omega)
        have c2 : ((n : Int) = 0) = False := eq_false (by omega)
        have hm : Int.tmod (n : Int) 10 = ((n % 10 : Nat) : Int) := rfl
        have hq : wrap64 ((n : Int) / 10) = ((n / 10 : Nat) : Int) := by rw [IntWalk.wrap64_in _ (by have := hn'.out; omega)]; omega
        have hs : decide (((n % 10 : Nat) : Int) < 0) = false := decide_eq_false (by omega)
        have hcc := Aside0.mk c
        have hw1 : wrap64 (48 + ((n % 10 : Nat) : Int)) = ((48 + n % 10 : Nat) : Int) := by rw [IntWalk.wrap64_in _ (by omega)]; omega
        have h1 := str_one (n % 10)
        obtain ⟨dg, hdg⟩ : ∃ dg, UInt8.ofNat (48 + n % 10) = dg := ⟨_, rfl⟩
        rw [hdg] at h1
        have hdg' := Aside0.mk hdg
        have hsz : decide ((strB [dg]).size + (strB o).size ≤ 9223372036854775807) = true := decide_eq_true (by rw [strB_size, strB_size]; have := ho'.out; simp; omega)
        have hsy := eq_true (of_decide_eq_true hsz)
        have hsn : (9223372036854775807 < (strB [dg]).size + (strB o).size) = False := eq_false (Nat.not_lt.2 (of_decide_eq_true hsz))
        clear c hdg
        have hcv : (convert 31 9 (.slice (some ⟨wr.heap.size, 0, none⟩) 1 1)).run Tryz.prog (wr.alloc (.cells #[.int .u8 (48 + (n : Int) % 10)] 5 (0, 0))) = .ok (.string (strB [dg])) (wr.alloc (.cells #[.int .u8 (48 + (n : Int) % 10)] 5 (0, 0))) := by
          have h := own_string (P := Tryz.prog) (xs := [48 + (n : Int) % 10]) Tryz.underlying31 Tryz.underlying5 Tryz.underlying9 (World.ownsRow_lit (base := wr.heap.size) (e := 5) (size := 1) wr #[.int .u8 (48 + (n : Int) % 10)] 1 (Nat.le_refl _) (by simp [maxLen]) (by simp))
          rw [h, ← h1, show ((48 + n % 10 : Nat) : Int) % 256 = 48 + (n : Int) % 10 by omega]
        have hB9 := Aside0.mk (hB'.out.trans (On.alloc (On.refl _) (.cells #[.int .u8 (48 + (n : Int) % 10)] 5 (0, 0))))
        clear h1
        go_wp2
        have hn1 := hn'.out
        have ho1 := ho'.out
        have hd2 := hdg'.out
        refine ⟨⟨n / 10, dg :: o, by rw [hq], by rw [strB_append]; rfl, by omega, ?_, ⟨?_⟩, hB9.out⟩, by rw [hq]; simp [intOf]; have := hcc.out; omega⟩
        · rcases hd'.out with ⟨h, h2⟩ | ⟨h, h2, h3⟩ | ⟨h, h2⟩
          · rw [h2]; simp
          · rw [h3]; simp
          · exact absurd h hcc.out
        · rcases hd'.out with ⟨h, h2⟩ | ⟨h, h2, h3⟩ | ⟨h, h2⟩
          · subst h2
            by_cases d : u < 10
            · refine .inr (.inr ⟨by omega, ?_⟩)
              rw [digits_one u d, ← hd2, h, Nat.mod_eq_of_lt d]
            · exact .inr (.inl ⟨by omega, by rw [h], by rw [← hd2, h]⟩)
          · refine .inr (.inr ⟨by have := hu.out; omega, ?_⟩)
            rw [h3, digits_step u h, digits_one (u / 10) (by have := hu.out; omega), ← hd2, h2, Nat.mod_eq_of_lt (by have := hu.out; omega)]; rfl
          · exact absurd h hcc.out
theorem fvL_nul {v : Int} (h : isNul v = true) : fvL v = 110 :: Lib.itoa (-1 - v) := by unfold fvL; rw [if_pos h]
theorem fvL_pos {v : Int} (h : isNul v = false) (h1 : 0 ≤ v ∧ v ≤ 9) : fvL v = Lib.itoa v := by unfold fvL; rw [h, if_neg (by simp), if_pos h1]
theorem fvL_not {v : Int} (h : okVal v = false) : fvL v = [] := by
  simp only [okVal, decide_eq_false_iff_not] at h
  unfold fvL
  rw [if_neg (by simp only [isNul, decide_eq_true_eq]; omega), if_neg (by omega)]
theorem cat_n (l : List UInt8) : (⟨#[110]⟩ : ByteArray) ++ strB l = strB (110 :: l) := by rw [show (⟨#[110]⟩ : ByteArray) = strB [110] from rfl, strB_append]; rfl
theorem iIsNull_calls (w : World) (v : Int) : Calls Tryz.prog 161 #[.int .i64 v] w fun e w' => e = .returned (.bool (decide (v < 0))) ∧ On w w' := by
  go_enter Tryz.func161, Tryz.ntmps161
  go_wp2
  go_ret
  exact ⟨rfl, On.refl _⟩
theorem iFormatValue_calls (w : World) (v : Int) (hv : -9223372036854775808 ≤ v ∧ v ≤ 9223372036854775807) : Calls Tryz.prog 95 #[.int .i64 v] w fun e w' => e = .returned (.string (strB (fvL v))) ∧ On w w' := by
  cases ho : okVal v with
  | false =>
    have ho' := Aside0.mk ho
    clear ho
    go_enter Tryz.func95, Tryz.ntmps95
    go_wp2_with (go_at_call 92; refine (iIsValidValue_calls _ _).mono ?_; rintro e w1 ⟨rfl, hb1⟩; rw [ho'.out])
    go_ret
    exact ⟨by rw [fvL_not ho'.out]; rfl, hb1⟩
  | true =>
    have ho' := Aside0.mk ho
    have hbd : -40 ≤ v ∧ v ≤ 9 := by simpa [okVal] using ho
    clear ho
    by_cases c : v < 0
    · have cb : decide (v < 0) = true := decide_eq_true c
      have hn := Aside0.mk (show isNul v = true by simp [isNul]; omega)
      have hbd' := Aside0.mk hbd
      have hwr : IntKind.i64.wrap (-1 - v) = -1 - v := IntWalk.i64_in _ (by omega)
      have hl := (itoa_bytes (u := -1 - v) (by omega) (by omega)).2.2
      have hsz := eq_true (show 1 + (strB (Lib.itoa (-1 - v))).size ≤ 9223372036854775807 by rw [strB_size]; omega)
      have hsn : (9223372036854775807 < 1 + (strB (Lib.itoa (-1 - v))).size) = False := eq_false (by rw [strB_size]; omega)
      have hc' := Aside0.mk c
      clear hbd c hl
      go_enter Tryz.func95, Tryz.ntmps95
      go_wp2_with (first | (go_at_call 92; refine (iIsValidValue_calls _ _).mono ?_; rintro e w1 ⟨rfl, hb1⟩; rw [ho'.out]) | (go_at_call 161; refine (iIsNull_calls _ _).mono ?_; rintro e w2 ⟨rfl, hb2⟩; rw [cb]) | (go_at_call 107; refine (iFormatInt_calls _ (-1 - v) (by have := hbd'.out; have := hc'.out; omega) (by have := hbd'.out; omega)).mono ?_; rintro e w3 ⟨rfl, hb3⟩))
      go_ret
      exact ⟨by rw [fvL_nul hn.out, ← cat_n]; rfl, (hb1.trans hb2).trans hb3⟩
    · have cb : decide (v < 0) = false := decide_eq_false c
      have hn := Aside0.mk (show isNul v = false by simp [isNul]; omega)
      have hbd' := Aside0.mk hbd
      have hc' := Aside0.mk c
      clear hbd c
      go_enter Tryz.func95, Tryz.ntmps95
      go_wp2_with (first | (go_at_call 92; refine (iIsValidValue_calls _ _).mono ?_; rintro e w1 ⟨rfl, hb1⟩; rw [ho'.out]) | (go_at_call 161; refine (iIsNull_calls _ _).mono ?_; rintro e w2 ⟨rfl, hb2⟩; rw [cb]) | (go_at_call 107; refine (iFormatInt_calls _ v (by have := hc'.out; omega) (by have := hbd'.out; omega)).mono ?_; rintro e w3 ⟨rfl, hb3⟩))
      go_ret
      exact ⟨by rw [fvL_pos hn.out (by have := hbd'.out; have := hc'.out; omega)]; rfl, (hb1.trans hb2).trans hb3⟩
theorem sFormatValue_calls (w : World) (v : Int) (hv : -9223372036854775808 ≤ v ∧ v ≤ 9223372036854775807) : Calls Tryz.prog 96 #[.int .i64 v] w fun e w' => e = .returned (.string (strB (fvL v))) ∧ On w w' := by
  cases ho : isNul v with
  | true =>
    have ho' := Aside0.mk ho
    have hbd := Aside0.mk (show -40 ≤ v ∧ v ≤ -1 by simpa [isNul] using ho)
    have hnn := Aside0.mk (show nulNum v = -1 - v by unfold nulNum; rw [if_pos ho])
    have hl := (itoa_bytes (u := -1 - v) (by have := hbd.out; omega) (by have := hbd.out; omega)).2.2
    have hsz := eq_true (show 1 + (strB (Lib.itoa (-1 - v))).size ≤ 9223372036854775807 by rw [strB_size]; omega)
    have hsn : (9223372036854775807 < 1 + (strB (Lib.itoa (-1 - v))).size) = False := eq_false (by rw [strB_size]; omega)
    have hv' := Aside0.mk hv
    clear ho hl hv
    go_enter Tryz.func96, Tryz.ntmps96
    go_wp2_with (first | (go_at_call 146; refine (NullNumber_calls _ _ hv'.out.1).mono ?_; rintro e w1 ⟨rfl, hb1⟩; rw [ho'.out, hnn.out]) | (go_at_call 162; refine (sFormatInt_calls _ (-1 - v) (by have := hbd.out; omega) (by have := hbd.out; omega)).mono ?_; rintro e w3 ⟨rfl, hb3⟩))
    go_ret
    exact ⟨by rw [fvL_nul ho'.out, ← cat_n]; rfl, hb1.trans hb3⟩
  | false =>
    have ho' := Aside0.mk ho
    have hv' := Aside0.mk hv
    have hnn := Aside0.mk (show nulNum v = 0 by unfold nulNum; rw [if_neg (by simp [ho])])
    clear ho hv
    by_cases c : 0 ≤ v ∧ v ≤ 9
    · have hc' := Aside0.mk c
      have hw := Aside0.mk (show within v 0 9 = true from decide_eq_true c)
      clear c
      go_enter Tryz.func96, Tryz.ntmps96
      go_wp2_with (first | (go_at_call 146; refine (NullNumber_calls _ _ hv'.out.1).mono ?_; rintro e w1 ⟨rfl, hb1⟩; rw [ho'.out, hnn.out]) | (go_at_call 93; refine (l1In_calls _ _ _ _).mono ?_; rintro e w2 ⟨rfl, hb2⟩; rw [hw.out]) | (go_at_call 162; refine (sFormatInt_calls _ v (by have := hc'.out; omega) (by have := hc'.out; omega)).mono ?_; rintro e w3 ⟨rfl, hb3⟩))
      go_ret
      exact ⟨by rw [fvL_pos ho'.out hc'.out]; rfl, (hb1.trans hb2).trans hb3⟩
    · have hc' := Aside0.mk c
      have hw := Aside0.mk (show within v 0 9 = false from decide_eq_false c)
      clear c
      go_enter Tryz.func96, Tryz.ntmps96
      go_wp2_with (first | (go_at_call 146; refine (NullNumber_calls _ _ hv'.out.1).mono ?_; rintro e w1 ⟨rfl, hb1⟩; rw [ho'.out, hnn.out]) | (go_at_call 93; refine (l1In_calls _ _ _ _).mono ?_; rintro e w2 ⟨rfl, hb2⟩; rw [hw.out]))
      go_ret
      exact ⟨by rw [fvL_not (by simp only [okVal, decide_eq_false_iff_not]; have h1 := ho'.out; simp only [isNul, decide_eq_false_iff_not] at h1; have := hc'.out; omega)]; rfl, hb1.trans hb2⟩
theorem pvF_step (s : List UInt8) (k : Nat) (hk : k < 50) : pvF s (-40 + (k : Int)) (50 - k) = if fvL (-40 + (k : Int)) = s then (-40 + (k : Int), true) else pvF s (-40 + ((k + 1 : Nat) : Int)) (50 - (k + 1)) := by
  obtain ⟨d, hd⟩ : ∃ d, 50 - k = d + 1 := ⟨50 - k - 1, by omega⟩
  rw [hd, show 50 - (k + 1) = d by omega, show (-40 : Int) + ((k + 1 : Nat) : Int) = -40 + (k : Int) + 1 by omega]; rfl
theorem str_beq (a b : List UInt8) : ((strB a).toList == (strB b).toList) = decide (a = b) := by
  rw [ByteArray.toList_eq, ByteArray.toList_eq, strB_data, strB_data, Bool.eq_iff_iff]; simp
theorem iParseValue_calls (w : World) (s : List UInt8) : Calls Tryz.prog 113 #[.string (strB s)] w fun e w' => e = .returned (.tuple #[.int .i64 (parV s).1, .bool (parV s).2]) ∧ On w w' := by
  go_enter Tryz.func113, Tryz.ntmps113
  go_wp2
  go_loopw [4] (fun v4 wr => ∃ k : Nat, k ≤ 50 ∧ v4 = .int .i64 (-40 + (k : Int)) ∧ Aside0 (pvF s (-40 + (k : Int)) (50 - k) = parV s) ∧ On w wr) (fun v4 _ => 50 - (intOf v4 + 40).toNat)
  case atStart => exact ⟨0, by omega, rfl, ⟨rfl⟩, On.refl _⟩
  case round =>
    obtain ⟨k, hk, rfl, hp, hB⟩ := hrel
    have hB' := Aside0.mk hB
    have hk' := Aside0.mk hk
    clear hB hk
    obtain ⟨x, hx⟩ : ∃ x : Int, -40 + (k : Int) = x := ⟨_, rfl⟩
    have hx' := Aside0.mk hx
    by_cases c : x ≤ 9
    · have hst := Aside0.mk ((pvF_step s k (by omega)).symm.trans hp.out)
      have c' := Aside0.mk c
      have cb : decide (x ≤ 9) = true := decide_eq_true c
      rw [hx]
      clear c hx hp
      by_cases e : fvL x = s
      · have e' := Aside0.mk e
        have hb2 := Aside0.mk (show ((strB (fvL x)).toList == (strB s).toList) = true by rw [str_beq]; exact decide_eq_true e)
        have hb3 := hb2.out
        clear e
        go_wp2_with (go_at_call 95; refine (iFormatValue_calls _ x (by have := c'.out; have := hx'.out; omega)).mono ?_; rintro e w3 ⟨rfl, hb1⟩)
        go_ret2
        exact ⟨by rw [← hst.out, if_pos (by rw [hx'.out]; exact e'.out), hx'.out]; rfl, hB'.out.trans hb1⟩
      · have e' := Aside0.mk e
        have hb2 := Aside0.mk (show ((strB (fvL x)).toList == (strB s).toList) = false by rw [str_beq]; exact decide_eq_false e)
        have hb3 := hb2.out
        have hwx : wrap64 (x + 1) = -40 + ((k + 1 : Nat) : Int) := by rw [IntWalk.wrap64_in _ (by have := c'.out; have := hx'.out; omega)]; have := hx'.out; omega
        clear e
        go_wp2_with (go_at_call 95; refine (iFormatValue_calls _ x (by have := c'.out; have := hx'.out; omega)).mono ?_; rintro e w3 ⟨rfl, hb1⟩)
        go_roundw
        case rel => exact ⟨k + 1, by have := c'.out; have := hx'.out; omega, by rw [hwx], ⟨by have := hst.out; rwa [if_neg (by rw [hx'.out]; exact e'.out)] at this⟩, hB'.out.trans hb1⟩
        case measure => rw [hwx]; simp [intOf]; have := c'.out; have := hx'.out; omega
    · have cb : decide (x ≤ 9) = false := decide_eq_false c
      have c' := Aside0.mk c
      rw [hx]
      clear c hx
      go_wp2
      go_ret2
      exact ⟨by rw [← hp.out, show 50 - k = 0 by have := c'.out; have := hx'.out; have := hk'.out; omega]; rfl, hB'.out⟩
theorem sParseValue_calls (w : World) (s : List UInt8) : Calls Tryz.prog 118 #[.string (strB s)] w fun e w' => e = .returned (.tuple #[.int .i64 (parV s).1, .bool (parV s).2]) ∧ On w w' := by
  go_enter Tryz.func118, Tryz.ntmps118
  go_wp2
  go_loopw [4] (fun v4 wr => ∃ k : Nat, k ≤ 50 ∧ v4 = .int .i64 (-40 + (k : Int)) ∧ Aside0 (pvF s (-40 + (k : Int)) (50 - k) = parV s) ∧ On w wr) (fun v4 _ => 50 - (intOf v4 + 40).toNat)
  case atStart => exact ⟨0, by omega, rfl, ⟨rfl⟩, On.refl _⟩
  case round =>
    obtain ⟨k, hk, rfl, hp, hB⟩ := hrel
    have hB' := Aside0.mk hB
    have hk' := Aside0.mk hk
    clear hB hk
    obtain ⟨x, hx⟩ : ∃ x : Int, -40 + (k : Int) = x := ⟨_, rfl⟩
    have hx' := Aside0.mk hx
    by_cases c : x ≤ 9
    · have hst := Aside0.mk ((pvF_step s k (by omega)).symm.trans hp.out)
      have c' := Aside0.mk c
      have cb : decide (x ≤ 9) = true := decide_eq_true c
      rw [hx]
      clear c hx hp
      by_cases e : fvL x = s
      · have e' := Aside0.mk e
        have hb2 := Aside0.mk (show ((strB (fvL x)).toList == (strB s).toList) = true by rw [str_beq]; exact decide_eq_true e)
        have hb3 := hb2.out
        clear e
        go_wp2_with (go_at_call 96; refine (sFormatValue_calls _ x (by have := c'.out; have := hx'.out; omega)).mono ?_; rintro e w3 ⟨rfl, hb1⟩)
        go_ret2
        exact ⟨by rw [← hst.out, if_pos (by rw [hx'.out]; exact e'.out), hx'.out]; rfl, hB'.out.trans hb1⟩
      · have e' := Aside0.mk e
        have hb2 := Aside0.mk (show ((strB (fvL x)).toList == (strB s).toList) = false by rw [str_beq]; exact decide_eq_false e)
        have hb3 := hb2.out
        have hwx : wrap64 (x + 1) = -40 + ((k + 1 : Nat) : Int) := by rw [IntWalk.wrap64_in _ (by have := c'.out; have := hx'.out; omega)]; have := hx'.out; omega
        clear e
        go_wp2_with (go_at_call 96; refine (sFormatValue_calls _ x (by have := c'.out; have := hx'.out; omega)).mono ?_; rintro e w3 ⟨rfl, hb1⟩)
        go_roundw
        case rel => exact ⟨k + 1, by have := c'.out; have := hx'.out; omega, by rw [hwx], ⟨by have := hst.out; rwa [if_neg (by rw [hx'.out]; exact e'.out)] at this⟩, hB'.out.trans hb1⟩
        case measure => rw [hwx]; simp [intOf]; have := c'.out; have := hx'.out; omega
    · have cb : decide (x ≤ 9) = false := decide_eq_false c
      have c' := Aside0.mk c
      rw [hx]
      clear c hx
      go_wp2
      go_ret2
      exact ⟨by rw [← hp.out, show 50 - k = 0 by have := c'.out; have := hx'.out; have := hk'.out; omega]; rfl, hB'.out⟩
end Go.Proofs.YtgemaohdlibboaaGreatDoor.H
/- Walks: the laws' own helpers: how large, copies. No condition. -/
namespace Go.Proofs.YtgemaohdlibboaaGreatDoor.H
open Go Go.RowKit Go.Proofs.YtgemaohdlibboaaGreatDoorW.PrintWords Go.Proofs.YtgemaohdlibboaaGreatDoorW.PrintLast
open Go.Proofs.YtgemaohdlibboaaGreatDoor.Reg (On on_draw)
set_option maxHeartbeats 1000000
set_option maxRecDepth 100000
set_option linter.unusedVariables false
set_option linter.unusedSimpArgs false

def wF (fs : List Fct) : Nat := (fs.map fun f => f.2.length + 1).sum
end Go.Proofs.YtgemaohdlibboaaGreatDoor.H
/- Walks: the laws' own copies. No condition. -/
namespace Go.Proofs.YtgemaohdlibboaaGreatDoor.H
open Go Go.RowKit Go.Proofs.YtgemaohdlibboaaGreatDoorW.PrintWords Go.Proofs.YtgemaohdlibboaaGreatDoorW.PrintLast
open Go.Proofs.YtgemaohdlibboaaGreatDoor.Reg (On on_draw)
set_option maxHeartbeats 1000000
set_option maxRecDepth 100000
set_option linter.unusedVariables false
set_option linter.unusedSimpArgs false

end Go.Proofs.YtgemaohdlibboaaGreatDoor.H
/- Walks: the laws' own copies. No condition. -/
namespace Go.Proofs.YtgemaohdlibboaaGreatDoor.H
open Go Go.RowKit Go.Proofs.YtgemaohdlibboaaGreatDoorW.PrintWords Go.Proofs.YtgemaohdlibboaaGreatDoorW.PrintLast
open Go.Proofs.YtgemaohdlibboaaGreatDoor.Reg (On on_draw)
set_option maxHeartbeats 1000000
set_option maxRecDepth 100000
set_option linter.unusedVariables false
set_option linter.unusedSimpArgs false

/-- An instance of the call's own, its facts' rows lying apart. -/
structure OIn (w : World) (lo : Nat) (v : Value) (rs : List Rel) (fs : List Fct) : Prop where mk :: (out : ∃ vr vf hs, v = .agg #[vr, vf] ∧ OR w lo vr rs ∧ OH w lo vf hs ∧ Sep w lo hs fs)
end Go.Proofs.YtgemaohdlibboaaGreatDoor.H
/- Walks: the laws' own comparisons, of what is the same. No condition. -/
namespace Go.Proofs.YtgemaohdlibboaaGreatDoor.H
open Go Go.RowKit Go.Proofs.YtgemaohdlibboaaGreatDoorW.PrintWords Go.Proofs.YtgemaohdlibboaaGreatDoorW.PrintLast
open Go.Proofs.YtgemaohdlibboaaGreatDoor.Reg (On on_draw)
set_option maxHeartbeats 1000000
set_option maxRecDepth 100000
set_option linter.unusedVariables false
set_option linter.unusedSimpArgs false

theorem eqIntS_calls (w : World) (A c B d) (xs : List Int) (h1 : Ints w A c xs) (h2 : Ints w B d xs) : Calls Tryz.prog 181 #[.slice A xs.length c, .slice B xs.length d] w fun e w' => e = .returned (.bool true) ∧ On w w' := by
  have hmax := h1.max
  go_enter Tryz.func181, Tryz.ntmps181
  go_wp2
  go_loopw [5] (fun v wr => ∃ k : Nat, k ≤ xs.length ∧ v = .int .i64 k ∧ On w wr) (fun v _ => xs.length - (intOf v).toNat)
  case atStart => exact ⟨0, Nat.zero_le _, rfl, On.refl _⟩
  case round =>
    obtain ⟨k, hk, rfl, hB⟩ := hrel
    by_cases hlt : k < xs.length
    · obtain ⟨ad, rfl, hx⟩ := (h1.on hB).at k hlt
      obtain ⟨bd, rfl, hy⟩ := (h2.on hB).at k hlt
      go_wp2
      refine Reg.region [(0,.L),(1,.L),(2,.L),(3,.L),(4,.L),(5,.L),(6,.L),(7,.L),(8,.L)] [] (by kernel_rfl) (by kernel_rfl) ?_
      repeat first | refine sP ?_ | refine sS ?_ | refine sA ?_ | refine sL ?_ | refine sQ ?_ | refine sO ?_
      refine Reg.nil fun w2 hS => ?_
      go_wp2
      go_roundw
      case rel => exact ⟨k + 1, by omega, by go_num, hB.trans hS⟩
      case measure => simp [intOf]; omega
    · go_wp2
      go_ret
      exact ⟨rfl, hB⟩
theorem eqRelation_calls (w : World) (r : Rel) : Calls Tryz.prog 131 #[.agg #[.string r.1, .int .i64 r.2.1, .bool r.2.2], .agg #[.string r.1, .int .i64 r.2.1, .bool r.2.2]] w fun e w' => e = .returned (.bool true) ∧ On w w' := by
  go_enter Tryz.func131, Tryz.ntmps131
  go_wp2
  go_ret
  exact ⟨rfl, On.alloc (On.alloc (On.refl _) _) _⟩
theorem eqFact_calls (w : World) (A c B d) (f : Fct) (h1 : Ints w A c f.2) (h2 : Ints w B d f.2) : Calls Tryz.prog 132 #[.agg #[.int .i64 f.1, .slice A f.2.length c], .agg #[.int .i64 f.1, .slice B f.2.length d]] w fun e w' => e = .returned (.bool true) ∧ On w w' := by
  have hb := Aside0.mk (On.alloc (On.alloc (On.refl w) (.cells #[.int .i64 f.1, .slice A f.2.length c] 60)) (.cells #[.int .i64 f.1, .slice B f.2.length d] 60))
  go_enter Tryz.func132, Tryz.ntmps132
  go_wp2_with (go_at_call 181; refine (eqIntS_calls _ A c B d f.2 (h1.on hb.out) (h2.on hb.out)).mono ?_; rintro e w1 ⟨rfl, hb1⟩)
  go_ret
  exact ⟨rfl, hb.out.trans hb1⟩
theorem eqRelationS_calls (w : World) (A c B d) (rs : List Rel) (h1 : Rels w A c rs) (h2 : Rels w B d rs) : Calls Tryz.prog 57 #[.slice A rs.length c, .slice B rs.length d] w fun e w' => e = .returned (.bool true) ∧ On w w' := by
  have hmax := h1.max
  go_enter Tryz.func57, Tryz.ntmps57
  go_wp2
  go_loopw [5] (fun v wr => ∃ k : Nat, k ≤ rs.length ∧ v = .int .i64 k ∧ On w wr) (fun v _ => rs.length - (intOf v).toNat)
  case atStart => exact ⟨0, Nat.zero_le _, rfl, On.refl _⟩
  case round =>
    obtain ⟨k, hk, rfl, hB⟩ := hrel
    by_cases hlt : k < rs.length
    · obtain ⟨ad, rfl, hx0, hx1, hx2⟩ := (h1.on hB).at k hlt
      obtain ⟨bd, rfl, hy0, hy1, hy2⟩ := (h2.on hB).at k hlt
      go_wp2
      refine Reg.region [(0,.L),(1,.L),(2,.L),(3,.L),(4,.L),(5,.L),(6,.L),(7,.L),(8,.C),(9,.L)] [] (by kernel_rfl) (by kernel_rfl) ?_
      repeat first | refine sP ?_ | refine sS ?_ | refine sA ?_ | refine sL ?_ | refine sQ ?_ | refine sO ?_
      refine callC (.bool true) Tryz.func131 (fun w' hS => ?_) ?_
      focus exact eqRelation_calls w' rs[k]
      repeat first | refine sP ?_ | refine sS ?_ | refine sA ?_ | refine sL ?_ | refine sQ ?_ | refine sO ?_
      refine Reg.nil fun w2 hS => ?_
      go_wp2
      go_roundw
      case rel => exact ⟨k + 1, by omega, by go_num, hB.trans hS⟩
      case measure => simp [intOf]; omega
    · go_wp2
      go_ret
      exact ⟨rfl, hB⟩
theorem eqFactS_calls (w : World) (A c B d) (fs : List Fct) (h1 : Fcts w A c fs) (h2 : Fcts w B d fs) : Calls Tryz.prog 58 #[.slice A fs.length c, .slice B fs.length d] w fun e w' => e = .returned (.bool true) ∧ On w w' := by
  have hmax := h1.max
  go_enter Tryz.func58, Tryz.ntmps58
  go_wp2
  go_loopw [5] (fun v wr => ∃ k : Nat, k ≤ fs.length ∧ v = .int .i64 k ∧ On w wr) (fun v _ => fs.length - (intOf v).toNat)
  case atStart => exact ⟨0, Nat.zero_le _, rfl, On.refl _⟩
  case round =>
    obtain ⟨k, hk, rfl, hB⟩ := hrel
    by_cases hlt : k < fs.length
    · obtain ⟨ad, A1, c1, rfl, hx0, hx1, hx2⟩ := (h1.on hB).at k hlt
      obtain ⟨bd, B1, d1, rfl, hy0, hy1, hy2⟩ := (h2.on hB).at k hlt
      go_wp2
      refine Reg.region [(0,.L),(1,.L),(2,.L),(3,.L),(4,.L),(5,.L),(6,.L),(7,.L),(8,.C),(9,.L)] [] (by kernel_rfl) (by kernel_rfl) ?_
      repeat first | refine sP ?_ | refine sS ?_ | refine sA ?_ | refine sL ?_ | refine sQ ?_ | refine sO ?_
      refine callC (.bool true) Tryz.func132 (fun w' hS => ?_) ?_
      focus exact eqFact_calls w' A1 c1 B1 d1 fs[k] (hx2.on hS) (hy2.on hS)
      repeat first | refine sP ?_ | refine sS ?_ | refine sA ?_ | refine sL ?_ | refine sQ ?_ | refine sO ?_
      refine Reg.nil fun w2 hS => ?_
      go_wp2
      go_roundw
      case rel => exact ⟨k + 1, by omega, by go_num, hB.trans hS⟩
      case measure => simp [intOf]; omega
    · go_wp2
      go_ret
      exact ⟨rfl, hB⟩
theorem eqInstance_calls (w : World) (A0 c0 A1 c1 B0 d0 B1 d1) (rs : List Rel) (fs : List Fct) (h0 : Rels w A0 c0 rs) (h1 : Fcts w A1 c1 fs) (h2 : Rels w B0 d0 rs) (h3 : Fcts w B1 d1 fs) : Calls Tryz.prog 10 #[.agg #[.slice A0 rs.length c0, .slice A1 fs.length c1], .agg #[.slice B0 rs.length d0, .slice B1 fs.length d1]] w fun e w' => e = .returned (.bool true) ∧ On w w' := by
  have hb := Aside0.mk (On.alloc (On.alloc (On.refl w) (.cells #[.slice A0 rs.length c0, .slice A1 fs.length c1] 25)) (.cells #[.slice B0 rs.length d0, .slice B1 fs.length d1] 25))
  have hL := Aside0.mk (loc2 w #[.slice A0 rs.length c0, .slice A1 fs.length c1] #[.slice B0 rs.length d0, .slice B1 fs.length d1] 25 25)
  go_enter Tryz.func10, Tryz.ntmps10
  go_wp2_with (first | (go_at_call 57; refine (eqRelationS_calls _ A0 c0 B0 d0 rs (h0.on hb.out) (h2.on hb.out)).mono ?_; rintro e w1 ⟨rfl, hb1⟩; have hL1 := Loc.on hb1 hL.out; have hc0 := blk_cell hL1.1; have hc1 := blk_cell hL1.2.1; have hL2 := Aside0.mk hL1; clear hL1) | (go_at_call 58; refine (eqFactS_calls _ A1 c1 B1 d1 fs (h1.on (hb.out.trans hb1)) (h3.on (hb.out.trans hb1))).mono ?_; rintro e w2 ⟨rfl, hb2⟩))
  go_ret
  exact ⟨rfl, (hb.out.trans hb1).trans hb2⟩
end Go.Proofs.YtgemaohdlibboaaGreatDoor.H
/- Walks: the laws' own marks. No condition. -/
namespace Go.Proofs.YtgemaohdlibboaaGreatDoor.H
open Go Go.RowKit Go.Proofs.YtgemaohdlibboaaGreatDoorW.PrintWords Go.Proofs.YtgemaohdlibboaaGreatDoorW.PrintLast
open Go.Proofs.YtgemaohdlibboaaGreatDoor.Reg (On on_draw)
set_option maxHeartbeats 1000000
set_option maxRecDepth 100000
set_option linter.unusedVariables false
set_option linter.unusedSimpArgs false

/-- What a mark writes. -/
def markI (k : Int) : Nat → List Int
  | 0 => []
  | n + 1 => k :: markI (k + 1) n
theorem markI_len (k : Int) (n : Nat) : (markI k n).length = n := by
  induction n generalizing k with
  | zero => rfl
  | succ n ih => simp [markI, ih]
theorem markI_succ (k : Int) (n : Nat) : markI k (n + 1) = markI k n ++ [k + n] := by
  induction n generalizing k with
  | zero => simp [markI]
  | succ n ih =>
    have h := ih (k + 1)
    rw [markI, h, markI, show k + 1 + (n : Int) = k + ((n + 1 : Nat) : Int) by omega]; rfl
theorem markI_at (k : Int) (n i : Nat) (h : i < (markI k n).length) : (markI k n)[i] = k + i := by
  induction n generalizing k i with
  | zero => simp [markI] at h
  | succ n ih =>
    cases i with
    | zero => simp [markI]
    | succ i => simp only [markI, List.getElem_cons_succ]; rw [ih]; omega
theorem markI_inR (k : Int) (n : Nat) (h0 : 0 ≤ k) (h1 : k + n ≤ 10000000) : InR (markI k n) := fun x hx => by
  obtain ⟨i, hi, rfl⟩ := List.getElem_of_mem hx
  rw [markI_at]; rw [markI_len] at hi; omega
theorem markIntS_calls (w : World) (lo : Nat) (v : Value) (xs : List Int) (k0 : Int) (h : OI w lo v xs) (h0 : 0 ≤ k0) (h1 : k0 + xs.length ≤ 10000000) : Calls Tryz.prog 134 #[v, .int .i64 k0] w fun e w' => e = .returned (.int .i64 (k0 + xs.length)) ∧ OI w' lo v (markI k0 xs.length) ∧ Ex (fun b => some b = v.ownBlock) w w' := by
  rcases h.2 with ⟨rfl, hn⟩ | ⟨g, c, cur, rfl, hg⟩
  · obtain rfl : xs = [] := List.eq_nil_of_length_eq_zero hn
    go_enter Tryz.func134, Tryz.ntmps134
    go_wp2
    go_loop [5, 1] (fun v5 v1 => v5 = .int .i64 0 ∧ v1 = .int .i64 k0) (fun v _ => 0)
    case atStart => exact ⟨rfl, rfl⟩
    case round =>
      obtain ⟨rfl, rfl⟩ := hrel
      go_wp2
      go_ret
      exact ⟨by simp, h, Ex.refl _ _⟩
  · clear hg
    have h' := Aside0.mk h
    clear h
    go_enter Tryz.func134, Tryz.ntmps134
    go_wp2
    go_loopw [5, 1] (fun v5 v1 wr => ∃ (k : Nat) (cs : List Value), k ≤ xs.length ∧ v5 = .int .i64 k ∧ v1 = .int .i64 (k0 + k) ∧ Aside0 (wr.ownsRow lo 3 1 (.slice (some ⟨g, 0, none⟩) xs.length c) xs.length ((markI k0 k).flatMap encI ++ cs)) ∧ Ex (fun b => some b = some g) w wr) (fun v5 _ _ => xs.length - (intOf v5).toNat)
    case atStart => exact ⟨0, xs.flatMap encI, Nat.zero_le _, rfl, by simp, h', Ex.refl _ _⟩
    case round =>
      obtain ⟨k, cs, hk, rfl, rfl, hO, hE⟩ := hrel
      have hO2 := hO
      clear hO
      by_cases hlt : k < xs.length
      · have hcl := Aside0.mk (show 0 < cs.length by have := hO2.out.1; rw [List.length_append, flat_len (enc := encI) (sz := 1) (fun _ => rfl), markI_len] at this; omega)
        have hfz : wr.frozen? ⟨g, k, none⟩ = false := own_frozen hO2.out k
        obtain ⟨z, hz⟩ := own_some hO2.out k (by omega)
        have hw : IntKind.i64.wrap (k0 + (k : Int) + 1) = k0 + ((k + 1 : Nat) : Int) := by rw [IntWalk.i64_in _ (by omega)]; omega
        go_wp2
        obtain ⟨z0, cs', rfl⟩ : ∃ z0 cs', cs = z0 :: cs' := by
          cases cs with
          | nil => exact absurd hcl.out (by simp)
          | cons a b => exact ⟨a, b, rfl⟩
        refine ⟨⟨k + 1, cs', by omega, by go_num, by rfl, ⟨?_⟩, hE.trans (Ex.set wr _ _) (fun i _ e => by rw [e])⟩, by simp [intOf]; omega⟩
        have := (hO2.out.stored k (.int .i64 (k0 + k))).1
        rw [set1 k (by rw [flat_len (enc := encI) (sz := 1) (fun _ => rfl), markI_len]; omega)] at this
        rw [markI_succ, List.flatMap_append, List.append_assoc]
        exact this
      · go_wp2
        go_ret
        obtain rfl : k = xs.length := by omega
        have h1 := hO2.out
        have h2 := h1.1
        have h3 : cs = [] := by
          rw [List.length_append, flat_len (enc := encI) (sz := 1) (fun _ => rfl), markI_len] at h2
          exact List.eq_nil_of_length_eq_zero (by omega)
        subst h3
        rw [List.append_nil] at h1
        refine ⟨rfl, ?_, hE⟩
        show World.ownsRow _ _ _ _ _ (markI k0 xs.length).length _
        rw [markI_len]
        exact h1
theorem heldIntS_calls (w : World) (A c) (n : Nat) (k0 : Int) (h : Ints w A c (markI k0 n)) (h0 : 0 ≤ k0) (h1 : k0 + n ≤ 10000000) : Calls Tryz.prog 135 #[.slice A n c, .int .i64 k0] w fun e w' => e = .returned (.int .i64 (k0 + n)) ∧ On w w' := by
  have hl := markI_len k0 n
  go_enter Tryz.func135, Tryz.ntmps135
  go_wp2
  go_loopw [5, 1] (fun v5 v1 wr => ∃ k : Nat, k ≤ n ∧ v5 = .int .i64 k ∧ v1 = .int .i64 (k0 + k) ∧ On w wr) (fun v5 _ _ => n - (intOf v5).toNat)
  case atStart => exact ⟨0, Nat.zero_le _, rfl, by simp, On.refl _⟩
  case round =>
    obtain ⟨k, hk, rfl, rfl, hB⟩ := hrel
    by_cases hlt : k < n
    · obtain ⟨ad, rfl, hx⟩ := (h.on hB).at k (by rw [hl]; exact hlt)
      rw [markI_at] at hx
      have hw : IntKind.i64.wrap (k0 + (k : Int) + 1) = k0 + ((k + 1 : Nat) : Int) := by rw [IntWalk.i64_in _ (by omega)]; omega
      go_wp2
      go_roundw
      case rel => exact ⟨k + 1, by omega, by go_num, rfl, hB⟩
      case measure => simp [intOf]; omega
    · go_wp2
      go_ret
      exact ⟨ret_int (by omega), hB⟩
def mDig (m : Int) (s : ByteArray) : ByteArray := if h : 0 < m then mDig (m / 10) (strOfNums [48 + m % 10] ++ s) else s
termination_by m.toNat
decreasing_by omega
def mText (k : Int) : ByteArray := ⟨#[109]⟩ ++ mDig k ⟨#[]⟩
theorem markText_calls (w : World) (k : Int) (h0 : 1 ≤ k) (h1 : k ≤ 10000000) : Calls Tryz.prog 133 #[.int .i64 k] w fun e w' => e = .returned (.string (mText k)) ∧ On w w' := by
  have hb : decide (k ≤ 0) = false := decide_eq_false (by omega)
  go_enter Tryz.func133, Tryz.ntmps133
  go_wp2
  go_loopw [0, 3] (fun v0 v3 wr => ∃ (m : Int) (s : ByteArray), 0 ≤ m ∧ m ≤ 10000000 ∧ v0 = .int .i64 m ∧ v3 = .string s ∧ Aside0 (mDig m s = mDig k ⟨#[]⟩) ∧ s.size + m ≤ 10000000 ∧ On w wr) (fun v0 _ _ => (intOf v0).toNat)
  case atStart => exact ⟨k, _, by omega, h1, rfl, rfl, ⟨rfl⟩, by show ((0 : Nat) : Int) + k ≤ 10000000; omega, On.refl _⟩
  case round =>
    obtain ⟨m, s, hm0, hm1, rfl, rfl, hp, hsm, hB⟩ := hrel
    by_cases hpos : 0 < m
    · have hcv : (convert 31 9 (.slice (some ⟨wr.heap.size, 0, none⟩) 1 1)).run Tryz.prog (wr.alloc (.cells #[.int .u8 (48 + m % 10)] 5)) = .ok (.string (strOfNums [48 + m % 10])) (wr.alloc (.cells #[.int .u8 (48 + m % 10)] 5)) :=
        own_string (P := Tryz.prog) Tryz.underlying31 Tryz.underlying5 Tryz.underlying9 (own_lit wr 0 5 .u8 [48 + m % 10] (Nat.zero_le _) (by simp))
      have hst := Aside0.mk (show mDig (m / 10) (strOfNums [48 + m % 10] ++ s) = mDig k ⟨#[]⟩ by rw [← hp.out]; conv => rhs; rw [mDig, dif_pos hpos])
      have hs1 : (strOfNums [48 + m % 10]).size = 1 := rfl
      clear hp
      go_wp2
      exact ⟨⟨m / 10, _, by omega, by omega, rfl, rfl, hst, by rw [ByteArray.size_append, hs1]; omega, hB.trans (On.alloc (On.refl _) _)⟩, by simp [intOf]; omega⟩
    · have hst := Aside0.mk (show s = mDig k ⟨#[]⟩ by rw [← hp.out]; conv => rhs; rw [mDig, dif_neg hpos])
      clear hp
      go_wp2
      go_ret
      exact ⟨by show Ending.returned (.string _) = _; rw [hst.out]; rfl, hB⟩
end Go.Proofs.YtgemaohdlibboaaGreatDoor.H
/- Walks: the laws' own marks on relations and facts. No condition. -/
namespace Go.Proofs.YtgemaohdlibboaaGreatDoor.H
open Go Go.RowKit Go.Proofs.YtgemaohdlibboaaGreatDoorW.PrintWords Go.Proofs.YtgemaohdlibboaaGreatDoorW.PrintLast
open Go.Proofs.YtgemaohdlibboaaGreatDoor.Reg (On on_draw)
set_option maxHeartbeats 1000000
set_option maxRecDepth 100000
set_option linter.unusedVariables false
set_option linter.unusedSimpArgs false

def mRel (k : Int) : Rel := (mText k, k + 1, (k + 2) % 3 == 0)
def markR (k : Int) : Nat → List Rel
  | 0 => []
  | n + 1 => mRel k :: markR (k + 3) n
theorem markR_len (k : Int) (n : Nat) : (markR k n).length = n := by
  induction n generalizing k with
  | zero => rfl
  | succ n ih => simp [markR, ih]
theorem markR_succ (k : Int) (n : Nat) : markR k (n + 1) = markR k n ++ [mRel (k + 3 * n)] := by
  induction n generalizing k with
  | zero => simp [markR]
  | succ n ih =>
    have h := ih (k + 3)
    rw [markR, h, markR, show k + 3 + 3 * (n : Int) = k + 3 * ((n + 1 : Nat) : Int) by omega]; rfl
theorem markR_at (k : Int) (n i : Nat) (h : i < (markR k n).length) : (markR k n)[i] = mRel (k + 3 * i) := by
  induction n generalizing k i with
  | zero => simp [markR] at h
  | succ n ih =>
    cases i with
    | zero => simp [markR]
    | succ i => simp only [markR, List.getElem_cons_succ]; rw [ih]; congr 1; omega
theorem own_ne_blk {w : World} {lo lo' e e' sz sz' n n' : Nat} {v v' : Value} {cs cs' : List Value} (h : w.ownsRow lo e sz v n cs) (h' : w.ownsRow lo' e' sz' v' n' cs') (hne : e ≠ e') {b : Nat} (hb : v.ownBlock = some b) : v'.ownBlock ≠ some b := fun hb' => by
  obtain ⟨c, hc⟩ := own_typed h b hb
  obtain ⟨c', hc'⟩ := own_typed h' b hb'
  rw [hc] at hc'
  injection hc' with hc'
  injection hc' with _ h3
  exact hne h3
theorem flatH_at {hs : List Hdr} {i : Nat} (hi : i < hs.length) : (hs.flatMap encH)[i * 2]? = some (.int .i64 hs[i].1) ∧ (hs.flatMap encH)[i * 2 + 1]? = some (hdV hs[i]) := by
  have e : hs.flatMap encH = (hs.take i).flatMap encH ++ encH hs[i] ++ (hs.drop (i + 1)).flatMap encH := by
    rw [← flat_take_succ hs i hi, ← List.flatMap_append, List.take_append_drop]
  have hl : ((hs.take i).flatMap encH).length = i * 2 := by rw [flat_len (enc := encH) (sz := 2) (fun _ => rfl), List.length_take, Nat.min_eq_left (by omega)]
  rw [e, List.append_assoc]
  refine ⟨?_, ?_⟩ <;> rw [List.getElem?_append_right (by omega), hl]
  · simp
  · rw [show i * 2 + 1 - i * 2 = 1 by omega]; rfl
theorem flatH_set0 (hs : List Hdr) (i : Nat) (hi : i < hs.length) (x : Int) : (hs.flatMap encH).set (i * 2) (.int .i64 x) = (hs.set i (x, hs[i].2)).flatMap encH := by
  have e : hs.flatMap encH = (hs.take i).flatMap encH ++ encH hs[i] ++ (hs.drop (i + 1)).flatMap encH := by
    rw [← flat_take_succ hs i hi, ← List.flatMap_append, List.take_append_drop]
  have hl : ((hs.take i).flatMap encH).length = i * 2 := by rw [flat_len (enc := encH) (sz := 2) (fun _ => rfl), List.length_take, Nat.min_eq_left (by omega)]
  rw [e, List.append_assoc, show encH hs[i] ++ (hs.drop (i + 1)).flatMap encH = .int .i64 hs[i].1 :: hdV hs[i] :: (hs.drop (i + 1)).flatMap encH from rfl, set1 _ hl]
  rw [List.set_eq_take_append_cons_drop, if_pos hi, List.flatMap_append, List.flatMap_cons]
  rfl
theorem markRelationS_calls (w : World) (lo : Nat) (v : Value) (rs : List Rel) (k0 : Int) (h : OR w lo v rs) (h0 : 1 ≤ k0) (h1 : k0 + 3 * rs.length ≤ 10000000) : Calls Tryz.prog 59 #[v, .int .i64 k0] w fun e w' => e = .returned (.int .i64 (k0 + 3 * rs.length)) ∧ OR w' lo v (markR k0 rs.length) ∧ Ex (fun b => some b = v.ownBlock) w w' := by
  rcases h.2 with ⟨rfl, hn⟩ | ⟨g, c, cur, rfl, hg⟩
  · obtain rfl : rs = [] := List.eq_nil_of_length_eq_zero hn
    go_enter Tryz.func59, Tryz.ntmps59
    go_wp2
    go_loop [5, 1] (fun v5 v1 => v5 = .int .i64 0 ∧ v1 = .int .i64 k0) (fun v _ => 0)
    case atStart => exact ⟨rfl, rfl⟩
    case round =>
      obtain ⟨rfl, rfl⟩ := hrel
      go_wp2
      go_ret
      exact ⟨by simp, h, Ex.refl _ _⟩
  · clear hg
    have h' := Aside0.mk h
    clear h
    go_enter Tryz.func59, Tryz.ntmps59
    go_wp2
    go_loopw [5, 1] (fun v5 v1 wr => ∃ (k : Nat) (cs : List Value), k ≤ rs.length ∧ v5 = .int .i64 k ∧ v1 = .int .i64 (k0 + 3 * k) ∧ Aside0 (wr.ownsRow lo 95 3 (.slice (some ⟨g, 0, none⟩) rs.length c) rs.length ((markR k0 k).flatMap encR ++ cs)) ∧ Ex (fun b => some b = some g) w wr) (fun v5 _ _ => rs.length - (intOf v5).toNat)
    case atStart => exact ⟨0, rs.flatMap encR, Nat.zero_le _, rfl, by simp, h', Ex.refl _ _⟩
    case round =>
      obtain ⟨k, cs, hk, rfl, rfl, hO, hE⟩ := hrel
      have hO2 := hO
      clear hO
      by_cases hlt : k < rs.length
      · have hcl := Aside0.mk (show 3 ≤ cs.length by have := hO2.out.1; rw [List.length_append, flat_len (enc := encR) (sz := 3) (fun _ => rfl), markR_len] at this; omega)
        have hw1 : IntKind.i64.wrap (k0 + 3 * (k : Int) + 1) = k0 + 3 * k + 1 := by rw [IntWalk.i64_in _ (by omega)]
        have hw2 : IntKind.i64.wrap (k0 + 3 * (k : Int) + 1 + 1) = k0 + 3 * k + 2 := by rw [IntWalk.i64_in _ (by omega)]; omega
        have hw3 : IntKind.i64.wrap (k0 + 3 * (k : Int) + 2 + 1) = k0 + 3 * ((k + 1 : Nat) : Int) := by rw [IntWalk.i64_in _ (by omega)]; omega
        go_wp2_with (go_at_call 133; refine (markText_calls wr (k0 + 3 * k) (by omega) (by omega)).mono ?_; rintro e w2 ⟨rfl, hb2⟩; have hO3 := Aside0.mk (pw_own_below hO2.out hb2); have hfz := own_frozen hO3.out (k * 3); have hfz1 := own_frozen hO3.out (k * 3 + 1); have hfz2 := own_frozen hO3.out (k * 3 + 2); obtain ⟨z, hz⟩ := own_some hO3.out (k * 3) (by omega); obtain ⟨z1, hz1⟩ := own_some hO3.out (k * 3 + 1) (by omega); obtain ⟨z2, hz2⟩ := own_some hO3.out (k * 3 + 2) (by omega))
        obtain ⟨z0, z1, z2, hcs⟩ := split3 (cs := cs) (i := 0) (by have := hcl.out; omega)
        simp only [List.take_zero, List.nil_append, Nat.zero_add] at hcs
        refine ⟨⟨k + 1, cs.drop 3, by omega, by go_num, by rfl, ⟨?_⟩, (((hE.then_on hb2).trans (Ex.set _ _ _) (fun i _ e => by rw [e])).trans (Ex.set _ _ _) (fun i _ e => by rw [e])).trans (Ex.set _ _ _) (fun i _ e => by rw [e])⟩, by simp [intOf]; omega⟩
        have := ((hO3.out.stored (k * 3) (.string (mText (k0 + 3 * k)))).1.stored (k * 3 + 1) (.int .i64 (k0 + 3 * k + 1))).1.stored (k * 3 + 2) (.bool ((k0 + 3 * k + 2) % 3 == 0)) |>.1
        rw [hcs, set3 (k * 3) (by rw [flat_len (enc := encR) (sz := 3) (fun _ => rfl), markR_len])] at this
        rw [markR_succ, List.flatMap_append, List.append_assoc]
        exact this
      · go_wp2
        go_ret
        obtain rfl : k = rs.length := by omega
        have h1 := hO2.out
        have h2 := h1.1
        have h3 : cs = [] := by
          rw [List.length_append, flat_len (enc := encR) (sz := 3) (fun _ => rfl), markR_len] at h2
          exact List.eq_nil_of_length_eq_zero (by omega)
        subst h3
        rw [List.append_nil] at h1
        refine ⟨rfl, ?_, hE⟩
        show World.ownsRow _ _ _ _ _ (markR k0 rs.length).length _
        rw [markR_len]
        exact h1
theorem heldRelationS_calls (w : World) (A c) (n : Nat) (k0 : Int) (h : Rels w A c (markR k0 n)) (h0 : 1 ≤ k0) (h1 : k0 + 3 * n ≤ 10000000) : Calls Tryz.prog 61 #[.slice A n c, .int .i64 k0] w fun e w' => e = .returned (.int .i64 (k0 + 3 * n)) ∧ On w w' := by
  have hl := markR_len k0 n
  go_enter Tryz.func61, Tryz.ntmps61
  go_wp2
  go_loopw [5, 1] (fun v5 v1 wr => ∃ k : Nat, k ≤ n ∧ v5 = .int .i64 k ∧ v1 = .int .i64 (k0 + 3 * k) ∧ On w wr) (fun v5 _ _ => n - (intOf v5).toNat)
  case atStart => exact ⟨0, Nat.zero_le _, rfl, by simp, On.refl _⟩
  case round =>
    obtain ⟨k, hk, rfl, rfl, hB⟩ := hrel
    by_cases hlt : k < n
    · obtain ⟨ad, rfl, hx0, hx1, hx2⟩ := (h.on hB).at k (by rw [hl]; exact hlt)
      rw [markR_at] at hx0 hx1 hx2
      have hw1 : IntKind.i64.wrap (k0 + 3 * (k : Int) + 1) = k0 + 3 * k + 1 := by rw [IntWalk.i64_in _ (by omega)]
      have hw2 : IntKind.i64.wrap (k0 + 3 * (k : Int) + 1 + 1) = k0 + 3 * k + 2 := by rw [IntWalk.i64_in _ (by omega)]; omega
      have hw3 : IntKind.i64.wrap (k0 + 3 * (k : Int) + 2 + 1) = k0 + 3 * ((k + 1 : Nat) : Int) := by rw [IntWalk.i64_in _ (by omega)]; omega
      replace hx0 : wr.cell? (ad.add (k * 3)) = some (.string (mText (k0 + 3 * k))) := hx0
      replace hx1 : wr.cell? ⟨(ad.add (k * 3)).block, (ad.add (k * 3)).off + 1, none⟩ = some (.int .i64 (k0 + 3 * k + 1)) := hx1
      replace hx2 : wr.cell? ⟨(ad.add (k * 3)).block, (ad.add (k * 3)).off + 2, none⟩ = some (.bool ((k0 + 3 * k + 2) % 3 == 0)) := hx2
      go_wp2
      refine Reg.region [(0,.L),(1,.L),(2,.L),(3,.L),(4,.L),(5,.L),(6,.C),(7,.L)] [] (by kernel_rfl) (by kernel_rfl) ?_
      repeat first | refine sP ?_ | refine sS ?_ | refine sA ?_ | refine sL ?_ | refine sQ ?_ | refine sO ?_
      refine callC (.string (mText (k0 + 3 * k))) Tryz.func133 (fun w' hS => ?_) ?_
      focus exact markText_calls w' (k0 + 3 * k) (by omega) (by omega)
      repeat first | refine sP ?_ | refine sS ?_ | refine sA ?_ | refine sL ?_ | refine sQ ?_ | refine sO ?_
      refine Reg.nil fun w2 hS => ?_
      have hx1' := (hS.eq _ (by rw [hx1]; rfl)).trans hx1
      have hx2' := (hS.eq _ (by rw [hx2]; rfl)).trans hx2
      go_wp2
      go_roundw
      case rel => exact ⟨k + 1, by omega, by go_num, rfl, hB.trans hS⟩
      case measure => simp [intOf]; omega
    · go_wp2
      go_ret
      exact ⟨ret_int (by omega), hB⟩
end Go.Proofs.YtgemaohdlibboaaGreatDoor.H
/- Walks: the laws' own marks on facts and instances. No condition. -/
namespace Go.Proofs.YtgemaohdlibboaaGreatDoor.H
open Go Go.RowKit Go.Proofs.YtgemaohdlibboaaGreatDoorW.PrintWords Go.Proofs.YtgemaohdlibboaaGreatDoorW.PrintLast
open Go.Proofs.YtgemaohdlibboaaGreatDoor.Reg (On on_draw)
set_option maxHeartbeats 1000000
set_option maxRecDepth 100000
set_option linter.unusedVariables false
set_option linter.unusedSimpArgs false

def markF (k : Int) : List Nat → List Fct
  | [] => []
  | m :: l => (k, markI (k + 1) m) :: markF (k + 1 + m) l
def cF (l : List Nat) : Nat := (l.map (· + 1)).sum
theorem markF_len (k : Int) (l : List Nat) : (markF k l).length = l.length := by
  induction l generalizing k with
  | nil => rfl
  | cons m l ih => simp [markF, ih]
theorem cF_snoc (l : List Nat) (m : Nat) : cF (l ++ [m]) = cF l + (m + 1) := by simp [cF]
theorem markF_snoc (k : Int) (l : List Nat) (m : Nat) : markF k (l ++ [m]) = markF k l ++ [(k + cF l, markI (k + cF l + 1) m)] := by
  induction l generalizing k with
  | nil => simp [markF, cF]
  | cons a l ih =>
    have h := ih (k + 1 + a)
    have e : k + 1 + (a : Int) + cF l = k + cF (a :: l) := by simp [cF]; omega
    rw [List.cons_append, markF, h, markF, e]; rfl
theorem cF_take_le (l : List Nat) (k : Nat) : cF (l.take k) ≤ cF l := by
  conv => rhs; rw [← List.take_append_drop k l]
  simp only [cF, List.map_append, List.sum_append]; omega
abbrev lens (fs : List Fct) : List Nat := fs.map fun f => f.2.length
theorem cF_lens (fs : List Fct) : cF (lens fs) = wF fs := by simp [cF, lens, wF, Function.comp_def]
theorem wF_len (fs : List Fct) : fs.length ≤ wF fs := by
  unfold wF
  induction fs with
  | nil => simp
  | cons f fs ih => simp at ih ⊢; omega
theorem Sep.ne_row {W : World} {lo lo' : Nat} {hs hs' : List Hdr} {fs : List Fct} {vf : Value} (h : Sep W lo hs fs) (hO : OH W lo' vf hs') {i b : Nat} {a : Hdr} (ha : hs[i]? = some a) (hb : (hdV a).ownBlock = some b) : vf.ownBlock ≠ some b := by
  have hi : i < fs.length := by rw [← h.len]; exact (List.getElem?_eq_some_iff.1 ha).1
  exact own_ne_blk (h.at_ i a fs[i] ha (List.getElem?_eq_getElem hi)).2.1 hO (by decide) hb
theorem set_hdr {hs : List Hdr} {i : Nat} (hi : i < hs.length) {x : Int} {j : Nat} {a : Hdr} (ha : (hs.set i (x, hs[i].2))[j]? = some a) : ∃ a', hs[j]? = some a' ∧ hdV a' = hdV a := by
  by_cases e : i = j
  · subst e
    rw [List.getElem?_set_self hi] at ha
    injection ha with ha; subst ha
    exact ⟨hs[i], List.getElem?_eq_getElem hi, rfl⟩
  · rw [List.getElem?_set_ne e] at ha
    exact ⟨a, ha, rfl⟩
/-- One fact's number and row are written anew. -/
theorem Sep.upd {W w : World} {lo : Nat} {hs : List Hdr} {fs : List Fct} (h : Sep W lo hs fs) {i : Nat} (hi : i < hs.length) {x : Int} {ys : List Int} (hw : ∀ (j : Nat) (a : Hdr) (b : Nat), j ≠ i → hs[j]? = some a → (hdV a).ownBlock = some b → w.heap[b]? = W.heap[b]?) (hO : OI w lo (hdV hs[i]) ys) (hR : InR ys) : Sep w lo (hs.set i (x, hs[i].2)) (fs.set i (x, ys)) := by
  refine ⟨by simp [h.len], fun j a f ha hf => ?_, fun j j' a b k ha hb h1 h2 => ?_⟩
  · by_cases e : i = j
    · subst e
      rw [List.getElem?_set_self hi] at ha
      rw [List.getElem?_set_self (by rw [← h.len]; exact hi)] at hf
      injection ha with ha; injection hf with hf; subst ha hf
      exact ⟨rfl, hO, hR⟩
    · rw [List.getElem?_set_ne e] at ha hf
      obtain ⟨h1, h2, h3⟩ := h.at_ j a f ha hf
      exact ⟨h1, own_move h2 fun b hb => hw j a b (Ne.symm e) ha hb, h3⟩
  · obtain ⟨a', ha', e1⟩ := set_hdr hi ha
    obtain ⟨b', hb', e2⟩ := set_hdr hi hb
    exact h.apart j j' a' b' k ha' hb' (by rw [e1]; exact h1) (by rw [e2]; exact h2)
/-- The blocks that a row of facts owns. -/
def FB (v : Value) (hs : List Hdr) (b : Nat) : Prop := some b = v.ownBlock ∨ ∃ (i : Nat) (a : Hdr), hs[i]? = some a ∧ some b = (hdV a).ownBlock
theorem FB.set {v : Value} {hs : List Hdr} {i : Nat} (hi : i < hs.length) {x : Int} {b : Nat} (h : FB v (hs.set i (x, hs[i].2)) b) : FB v hs b := by
  rcases h with h | ⟨j, a, ha, h⟩
  · exact .inl h
  · obtain ⟨a', ha', e⟩ := set_hdr hi ha
    exact .inr ⟨j, a', ha', by rw [e]; exact h⟩
theorem set_mid {α : Type} (P r : List α) (f y : α) (i : Nat) (hi : P.length = i) : (P ++ f :: r).set i y = P ++ y :: r := by subst hi; simp
theorem markFactS_calls (w : World) (lo lo2 : Nat) (v : Value) (hs : List Hdr) (fs : List Fct) (k0 : Int) (h : OH w lo2 v hs) (hS : Sep w lo hs fs) (h0 : 0 ≤ k0) (h1 : k0 + wF fs ≤ 10000000) : Calls Tryz.prog 60 #[v, .int .i64 k0] w fun e w' => e = .returned (.int .i64 (k0 + wF fs)) ∧ (∃ hs', OH w' lo2 v hs' ∧ Sep w' lo hs' (markF k0 (lens fs)) ∧ ∀ b, FB v hs' b → FB v hs b) ∧ Ex (FB v hs) w w' := by
  have hlen := hS.len
  rcases h.2 with ⟨rfl, hn⟩ | ⟨g, c, cur, rfl, hg⟩
  · obtain rfl : hs = [] := List.eq_nil_of_length_eq_zero hn
    obtain rfl : fs = [] := List.eq_nil_of_length_eq_zero hlen.symm
    go_enter Tryz.func60, Tryz.ntmps60
    go_wp2
    go_loop [5, 1] (fun v5 v1 => v5 = .int .i64 0 ∧ v1 = .int .i64 k0) (fun v _ => 0)
    case atStart => exact ⟨rfl, rfl⟩
    case round =>
      obtain ⟨rfl, rfl⟩ := hrel
      go_wp2
      go_ret
      exact ⟨by simp [wF], ⟨[], h, hS, fun _ h => h⟩, Ex.refl _ _⟩
  · clear hg
    have h' := Aside0.mk h
    have hS' := Aside0.mk hS
    clear h hS
    have hlen' := Aside0.mk hlen
    have hlmax : hs.length ≤ 10000000 := by have : fs.length ≤ wF fs := wF_len fs; omega
    clear hlen
    go_enter Tryz.func60, Tryz.ntmps60
    go_wp2
    go_loopw [5, 1] (fun v5 v1 wr => ∃ (k : Nat) (hs' : List Hdr), k ≤ hs.length ∧ v5 = .int .i64 k ∧ v1 = .int .i64 (k0 + cF ((lens fs).take k)) ∧ Aside0 (hs'.length = hs.length) ∧ Aside0 (OH wr lo2 (.slice (some ⟨g, 0, none⟩) hs.length c) hs') ∧ Aside0 (Sep wr lo hs' (markF k0 ((lens fs).take k) ++ fs.drop k)) ∧ Aside0 (∀ b, FB (.slice (some ⟨g, 0, none⟩) hs.length c) hs' b → FB (.slice (some ⟨g, 0, none⟩) hs.length c) hs b) ∧ Aside0 (Ex (FB (.slice (some ⟨g, 0, none⟩) hs.length c) hs) w wr)) (fun v5 _ _ => hs.length - (intOf v5).toNat)
    case atStart => exact ⟨0, hs, Nat.zero_le _, rfl, by simp [cF], ⟨rfl⟩, h', by simpa [markF] using hS', ⟨fun _ h => h⟩, ⟨Ex.refl _ _⟩⟩
    case round =>
      obtain ⟨k, hs', hk, rfl, rfl, hl, hO, hS, hF, hE⟩ := hrel
      have hO2 := hO
      clear hO
      obtain ⟨m, hm⟩ : ∃ m : Int, k0 + cF ((lens fs).take k) = m := ⟨_, rfl⟩
      by_cases hlt : k < hs.length
      · have hk1 : k < hs'.length := by rw [hl.out]; exact hlt
        have hkf : k < fs.length := by rw [← hlen'.out]; exact hlt
        have hcm := Aside0.mk (show cF ((lens fs).take (k + 1)) = cF ((lens fs).take k) + (fs[k].2.length + 1) by rw [List.take_succ_eq_append_getElem (by simpa using hkf), cF_snoc]; simp)
        have hle := Aside0.mk (show k0 + cF ((lens fs).take (k + 1)) ≤ 10000000 by have := cF_take_le (lens fs) (k + 1); rw [cF_lens] at this; omega)
        have hm0 := Aside0.mk (show 0 ≤ m ∧ m + 1 + fs[k].2.length ≤ 10000000 by have := hle.out; rw [hcm.out] at this; omega)
        have hO3 := Aside0.mk (show wr.ownsRow lo2 60 2 (.slice (some ⟨g, 0, none⟩) hs.length c) hs.length (hs'.flatMap encH) by have := hO2.out; unfold OH at this; rw [hl.out] at this; exact this)
        have hfz := own_frozen hO3.out (k * 2)
        obtain ⟨hz0, hz1⟩ := flatH_at hk1
        have hz2 := (hO3.out.cellAt (k * 2) (by omega)).trans hz0
        have hz3 := (hO3.out.cellAt (k * 2 + 1) (by omega)).trans hz1
        clear hz0 hz1
        obtain ⟨A1, n1, c1, hA⟩ : ∃ A n c, hdV hs'[k] = .slice A n c := ⟨_, _, _, rfl⟩
        rw [hA] at hz3
        have hw1 : IntKind.i64.wrap (m + 1) = m + 1 := by have := hm0.out; rw [IntWalk.i64_in _ (by omega)]
        have hFk : (markF k0 ((lens fs).take k) ++ fs.drop k)[k]? = some fs[k] := by
          rw [List.getElem?_append_right (by rw [markF_len, List.length_take]; omega), markF_len, List.length_take, List.getElem?_drop]
          simp only [lens, List.length_map, Nat.min_eq_left (show k ≤ fs.length by omega), Nat.sub_self, Nat.add_zero]
          exact List.getElem?_eq_getElem hkf
        have hOk := Aside0.mk (own_ex (hS.out.at_ k hs'[k] fs[k] (List.getElem?_eq_getElem hk1) hFk).2.1 (Ex.set wr ⟨g, k * 2, none⟩ (.int .i64 m)) (fun b hb e => hS.out.ne_row hO2.out (List.getElem?_eq_getElem hk1) hb (by rw [e]; rfl)))
        clear hFk
        rw [hA] at hOk
        have hA' := Aside0.mk hA
        clear hA
        rw [hm]
        go_wp2_with (go_at_call 134; refine (markIntS_calls _ lo _ fs[k].2 (m + 1) hOk.out (by have := hm0.out; omega) (by have := hm0.out; omega)).mono ?_; rintro e w2 ⟨rfl, hO5, hE5⟩; have hO6 := Aside0.mk hO5; have hE6 := Aside0.mk hE5; clear hO5 hE5)
        have hne : ∀ b, some b = (hdV hs'[k]).ownBlock → b ≠ g := fun b hb e => hS.out.ne_row hO2.out (List.getElem?_eq_getElem hk1) hb.symm (by rw [e]; rfl)
        have hE7 := hE6.out
        rw [← hA'.out] at hE7
        have hO7 := hO6.out
        rw [← hA'.out] at hO7
        have hS7 := Sep.upd (w := w2) (x := m) (ys := markI (m + 1) fs[k].2.length) hS.out hk1 (fun j a b hj ha hb => by
          have hb1 : b ≠ g := fun e => hS.out.ne_row hO2.out ha hb (by rw [e]; rfl)
          have hb2 : b < wr.heap.size := (hS.out.lt ha hb).2
          rw [hE7.block b (by simpa [World.setCell] using hb2) (fun e => hj (hS.out.apart j k a hs'[k] b ha (List.getElem?_eq_getElem hk1) hb e.symm))]
          exact Below.heap_setCell wr ⟨g, k * 2, none⟩ _ b hb1) hO7 (markI_inR _ _ (by have := hm0.out; omega) (by have := hm0.out; omega))
        refine ⟨⟨k + 1, hs'.set k (m, hs'[k].2), by omega, by go_num, ?_, ⟨by rw [List.length_set]; exact hl.out⟩, ⟨?_⟩, ⟨?_⟩, ⟨fun b hb => hF.out b (FB.set hk1 hb)⟩, ⟨(hE.out.trans (Ex.set wr _ _) (fun i _ e => .inl (by rw [e]; rfl))).trans hE7 (fun i _ e => hF.out i (.inr ⟨k, hs'[k], List.getElem?_eq_getElem hk1, e⟩))⟩⟩, by simp [intOf]; omega⟩
        · have h1 := hcm.out
          congr 1
          rw [h1]; omega
        · have h1 := (hO3.out.stored (k * 2) (.int .i64 m)).1
          rw [flatH_set0 hs' k hk1 m] at h1
          have h2 := own_ex h1 hE7 (fun b hb e => hne b e (by injection hb with hb; exact hb.symm))
          show World.ownsRow _ _ _ _ _ (hs'.set k (m, hs'[k].2)).length _
          rw [List.length_set, hl.out]
          exact h2
        · have e1 : (lens fs).take (k + 1) = (lens fs).take k ++ [fs[k].2.length] := by rw [List.take_succ_eq_append_getElem (by simpa using hkf)]; simp
          rw [List.drop_eq_getElem_cons hkf, set_mid _ _ _ _ k (by rw [markF_len, List.length_take]; simp; omega)] at hS7
          rw [e1, markF_snoc, hm, List.append_assoc]
          exact hS7
      · go_wp2
        go_ret
        obtain rfl : k = hs.length := by omega
        have e1 : (lens fs).take hs.length = lens fs := List.take_of_length_le (by simp [hlen'.out])
        have e2 : fs.drop hs.length = [] := List.drop_of_length_le (by rw [hlen'.out]; exact Nat.le_refl _)
        refine ⟨?_, ⟨hs', hO2.out, ?_, hF.out⟩, hE.out⟩
        · show Ending.returned (.int .i64 _) = _
          rw [e1, cF_lens]
        · have := hS.out
          rw [e1, e2, List.append_nil] at this
          exact this
end Go.Proofs.YtgemaohdlibboaaGreatDoor.H
/- Cells of own rows: appended to, cut, cleared; rows of headers that are read. No condition. -/
namespace Go.Proofs.YtgemaohdlibboaaGreatDoor.H
open Go Go.RowKit Go.Proofs.YtgemaohdlibboaaGreatDoorW.PrintWords Go.Proofs.YtgemaohdlibboaaGreatDoorW.PrintLast
open Go.Proofs.YtgemaohdlibboaaGreatDoor.Reg (On on_draw)
set_option maxHeartbeats 1000000
set_option maxRecDepth 100000
set_option linter.unusedVariables false
set_option linter.unusedSimpArgs false

theorem flat_get {α : Type} {enc : α → List Value} {sz : Nat} (hl : ∀ x, (enc x).length = sz) : ∀ (xs : List α) (i r : Nat) (hi : i < xs.length), r < sz → (xs.flatMap enc)[i * sz + r]? = (enc xs[i])[r]?
  | [], _, _, hi, _ => absurd hi (Nat.not_lt_zero _)
  | x :: xs, 0, r, _, hr => by
    rw [List.flatMap_cons, Nat.zero_mul, Nat.zero_add, List.getElem?_append_left (by rw [hl]; exact hr)]; rfl
  | x :: xs, i + 1, r, hi, hr => by
    rw [List.flatMap_cons, List.getElem?_append_right (by rw [hl, Nat.add_mul]; omega), hl, show (i + 1) * sz + r - sz = i * sz + r by rw [Nat.add_mul]; omega]
    exact flat_get hl xs i r (by simpa using hi) hr
theorem flat_div {α : Type} {enc : α → List Value} {sz : Nat} (hs : 0 < sz) (hl : ∀ x, (enc x).length = sz) (xs : List α) (j : Nat) (u : Value) (h : (xs.flatMap enc)[j]? = some u) : ∃ i r, ∃ hi : i < xs.length, r < sz ∧ j = i * sz + r ∧ (enc xs[i])[r]? = some u := by
  have hj : j < xs.length * sz := by
    have := (List.getElem?_eq_some_iff.1 h).1
    rwa [flat_len hl] at this
  have hi : j / sz < xs.length := (Nat.div_lt_iff_lt_mul hs).2 hj
  have e : j = j / sz * sz + j % sz := by rw [Nat.mul_comm]; exact (Nat.div_add_mod j sz).symm
  refine ⟨j / sz, j % sz, hi, Nat.mod_lt _ hs, e, ?_⟩
  rw [← flat_get hl xs _ _ hi (Nat.mod_lt _ hs), ← e]
  exact h
/-- A row of headers that is read. -/
structure RH (w : World) (A : Option Addr) (c : Nat) (hs : List Hdr) : Prop where
  cap : hs.length ≤ c
  max : hs.length ≤ 9223372036854775807
  cell : ∀ j u, (hs.flatMap encH)[j]? = some u → ∃ ad, A = some ad ∧ w.cell? (ad.add j) = some u
theorem RH.on {W w : World} {A : Option Addr} {c : Nat} {hs : List Hdr} (h : RH W A c hs) (hb : On W w) : RH w A c hs := ⟨h.cap, h.max, fun j u hu => by
  obtain ⟨ad, e, hc⟩ := h.cell j u hu
  exact ⟨ad, e, (hb.eq _ (by rw [hc]; rfl)).trans hc⟩⟩
theorem own_capmax {w : World} {lo e sz n : Nat} {A : Option Addr} {c : Nat} {cs : List Value} (h : w.ownsRow lo e sz (.slice A n c) n cs) : n ≤ c ∧ n ≤ 9223372036854775807 := by
  rcases h.2 with ⟨h1, h2⟩ | ⟨g, cap, cur, h1, _, _, h3, h4, _⟩
  · exact ⟨by omega, by omega⟩
  · injection h1 with h1 h5 h6
    have : maxLen = 9223372036854775807 := rfl
    exact ⟨by omega, by omega⟩
theorem OH.slice {w : World} {lo : Nat} {v : Value} {hs : List Hdr} (h : OH w lo v hs) : ∃ A c, v = .slice A hs.length c ∧ RH w A c hs := by
  obtain ⟨A, c, rfl⟩ := own_slice h
  obtain ⟨h1, h2⟩ := own_capmax h
  refine ⟨A, c, rfl, h1, h2, fun j u hu => ?_⟩
  rcases h.2 with ⟨h1, h3⟩ | ⟨g, cap, cur, h1, _⟩
  · obtain rfl : hs = [] := List.eq_nil_of_length_eq_zero h3
    simp at hu
  · injection h1 with h1 h5 h6
    subst h1
    exact ⟨_, rfl, h.cells rfl j u hu⟩
theorem OH.rh {w : World} {lo c : Nat} {A : Option Addr} {n : Nat} {hs : List Hdr} (h : OH w lo (.slice A n c) hs) : n = hs.length ∧ RH w A c hs := by
  obtain ⟨A', c', e, h'⟩ := OH.slice h
  injection e with e1 e2 e3
  subst e1 e3
  exact ⟨e2, h'⟩
theorem blk_grown {W w1 : World} {row : Option Nat} {g : Nat} {o : Obj} (hg : W.grownBy w1 row) (h : W.heap[g]? = some o) (hne : some g ≠ row) : w1.heap[g]? = some o := (hg.block g (blk_lt h) hne).trans h
theorem OR.slice {w : World} {lo : Nat} {v : Value} {hs : List Rel} (h : OR w lo v hs) : ∃ A c, v = .slice A hs.length c := own_slice h
theorem Reads.take {w : World} {hs : List Hdr} {fs : List Fct} (h : Reads w hs fs) (k : Nat) : Reads w (hs.take k) (fs.take k) := ⟨by rw [List.length_take, List.length_take, h.len], fun i a f ha hf => by
  rw [List.getElem?_take] at ha hf
  split at ha
  · rename_i hk; rw [if_pos hk] at hf; exact h.at_ i a f ha hf
  · cases ha⟩
theorem Reads.drop {w : World} {hs : List Hdr} {fs : List Fct} (h : Reads w hs fs) (k : Nat) : Reads w (hs.drop k) (fs.drop k) := ⟨by rw [List.length_drop, List.length_drop, h.len], fun i a f ha hf => by
  rw [List.getElem?_drop] at ha hf
  exact h.at_ _ a f ha hf⟩
theorem Reads.append {w : World} {hs hs' : List Hdr} {fs fs' : List Fct} (h : Reads w hs fs) (h' : Reads w hs' fs') : Reads w (hs ++ hs') (fs ++ fs') := ⟨by rw [List.length_append, List.length_append, h.len, h'.len], fun i a f ha hf => by
  have hl := h.len
  rcases Nat.lt_or_ge i hs.length with hi | hi
  · rw [List.getElem?_append_left hi] at ha
    rw [List.getElem?_append_left (by omega)] at hf
    exact h.at_ i a f ha hf
  · rw [List.getElem?_append_right hi] at ha
    rw [List.getElem?_append_right (by omega), ← hl] at hf
    exact h'.at_ _ a f ha hf⟩
/-- Some of the facts whose rows lie apart. -/
theorem Sep.sub {w : World} {lo : Nat} {hs : List Hdr} {fs : List Fct} (h : Sep w lo hs fs) {qs : List (Hdr × Fct)} (hq : qs.Sublist (hs.zip fs)) : Sep w lo (qs.map Prod.fst) (qs.map Prod.snd) := by
  have hl := h.len
  have hmem : ∀ p ∈ qs, ∃ i, hs[i]? = some p.1 ∧ fs[i]? = some p.2 := fun p hp => by
    obtain ⟨i, hi, e⟩ := List.getElem_of_mem (hq.subset hp)
    rw [List.getElem_zip] at e
    have hi' : i < hs.length := by rw [List.length_zip] at hi; omega
    exact ⟨i, by rw [List.getElem?_eq_getElem hi', ← e], by rw [List.getElem?_eq_getElem (by omega), ← e]⟩
  have hpw : (hs.zip fs).Pairwise fun p q => ∀ k, (hdV p.1).ownBlock = some k → (hdV q.1).ownBlock ≠ some k := by
    rw [List.pairwise_iff_getElem]
    intro i j hi hj hij k h1 h2
    rw [List.getElem_zip] at h1 h2
    have hi' : i < hs.length := by rw [List.length_zip] at hi; omega
    have hj' : j < hs.length := by rw [List.length_zip] at hj; omega
    have := h.apart i j _ _ k (List.getElem?_eq_getElem hi') (List.getElem?_eq_getElem hj') h1 h2
    omega
  have hpq := hpw.sublist hq
  refine ⟨by simp, fun i a f ha hf => ?_, fun i j a b k ha hb h1 h2 => ?_⟩
  · rw [List.getElem?_map] at ha hf
    obtain ⟨p, hp, rfl⟩ := Option.map_eq_some_iff.1 ha
    rw [hp] at hf
    obtain rfl : p.2 = f := Option.some.inj hf
    obtain ⟨m, e1, e2⟩ := hmem p (List.mem_of_getElem? hp)
    exact h.at_ m _ _ e1 e2
  · rw [List.getElem?_map] at ha hb
    obtain ⟨p, hp, rfl⟩ := Option.map_eq_some_iff.1 ha
    obtain ⟨q, hq', rfl⟩ := Option.map_eq_some_iff.1 hb
    obtain ⟨hi, rfl⟩ := List.getElem?_eq_some_iff.1 hp
    obtain ⟨hj, rfl⟩ := List.getElem?_eq_some_iff.1 hq'
    rcases Nat.lt_trichotomy i j with c | c | c
    · exact absurd h2 (List.pairwise_iff_getElem.1 hpq i j hi hj c k h1)
    · exact c
    · exact absurd h1 (List.pairwise_iff_getElem.1 hpq j i hj hi c k h2)
theorem OIn.on {W w : World} {lo : Nat} {v : Value} {rs : List Rel} {fs : List Fct} (h : OIn W lo v rs fs) (hb : On W w) : OIn w lo v rs fs := by
  obtain ⟨vr, vf, hs, e, hR, hH, hS⟩ := h.out
  exact ⟨vr, vf, hs, e, pw_own_below hR hb, pw_own_below hH hb, hS.on hb⟩
theorem OIn.set {W : World} {lo : Nat} {v : Value} {rs : List Rel} {fs : List Fct} (h : OIn W lo v rs fs) {p : Addr} (hp : p.block < lo) (u : Value) : OIn (W.setCell p u) lo v rs fs := by
  obtain ⟨vr, vf, hs, e, hR, hH, hS⟩ := h.out
  exact ⟨vr, vf, hs, e, ownsRow_setCell_below hR hp u, ownsRow_setCell_below hH hp u, hS.set hp u⟩
theorem OIn.lower {w : World} {lo lo' : Nat} {v : Value} {rs : List Rel} {fs : List Fct} (h : OIn w lo v rs fs) (hl : lo' ≤ lo) : OIn w lo' v rs fs := by
  obtain ⟨vr, vf, hs, e, hR, hH, hS⟩ := h.out
  exact ⟨vr, vf, hs, e, own_lower hR hl, own_lower hH hl, hS.lower hl⟩
/-! Appends, cell by cell. -/
section
variable {ops : Array Oper} {rest : List Oper} {o : Oper} {a : Act} {Q : Exit → Act → World → Prop} {W : World}
theorem ap_none (N : Tmp) {e sz bytes t c base n : Nat} {z v : Value} {xs : List Value} {s x : Operand} (ht : Tryz.prog.underlying t = some (.slice e)) (hinfo : (Tryz.prog.info? e).map (fun i => (i.zero, i.size, i.bytes)) = some (some z, sz, bytes)) (HO : W.ownsRow base e sz v n xs)
    (h : wpList Tryz.prog ops Q rest (a.put (some N) v) W)
    (hop : o.op = .call { callee := .builtin .append, args := #[s, x], argTypes := #[t, t] }) (hd : o.dst = some N) (hg : o.guard = none) (hs : a.eval s = v) (hx : a.eval x = .slice none 0 c) : wpList Tryz.prog ops Q (o :: rest) a W := by
  obtain ⟨i0, hi, hzz⟩ := Option.map_eq_some_iff.1 hinfo
  have hr : (Builtin.append_ #[t, t] o.type #[v, .slice none 0 c]).run Tryz.prog W = .ok v W := by
    rcases HO.2 with ⟨rfl, hn⟩ | ⟨g, cap, cur, rfl, _, _, hnc, _⟩
    · simp [Builtin.append_, run_underlying ht, sizeOf, typeInfo, hi, Builtin.lenOf, Builtin.firstCells]
    · simp [Builtin.append_, run_underlying ht, sizeOf, typeInfo, hi, Builtin.lenOf, Builtin.firstCells, hnc, storeCells]
  refine wpList_plain hg fun K hK => ?_
  unfold Oper.wp execOp
  simp only [hop, resolve, invoke, builtin, Sem.run_bind, Sem.run_pure, Result.andThen_ok, List.map_toArray, List.map_cons, List.map_nil, hs, hx, hr]
  refine hK _ _ ?_
  rw [hd]; exact h
/-- append of headers that are read onto headers of one's own. -/
theorem apH (N : Tmp) {s x : Operand} {v : Value} {A : Option Addr} {c base : Nat} {xs ys zs : List Hdr} (hz : xs ++ ys = zs)
    (HO : OH W base v xs) (HR : RH W A c ys) (hbase : base ≤ W.heap.size) (hl : xs.length + ys.length ≤ 1000000000)
    (h : ∀ v1 w1, OH w1 base v1 zs → W.grownBy w1 v.ownBlock → wpList Tryz.prog ops Q rest (a.put (some N) v1) w1)
    (hop : o.op = .call { callee := .builtin .append, args := #[s, x], argTypes := #[23, 23] } := by rfl)
    (hd : o.dst = some N := by rfl) (hg : o.guard = none := by rfl) (hs : a.eval s = v := by rfl) (hx : a.eval x = .slice A ys.length c := by rfl) : wpList Tryz.prog ops Q (o :: rest) a W := by
  subst hz
  obtain ⟨i0, hi, hzz⟩ := Option.map_eq_some_iff.1 infoF
  simp only [Prod.mk.injEq] at hzz
  obtain ⟨hz0, hz1, hz2⟩ := hzz
  have hnil : ys = [] → wpList Tryz.prog ops Q (o :: rest) a W := by
    rintro rfl
    rw [List.append_nil] at h
    cases A with
    | none => exact ap_none N Tryz.underlying23 infoF HO (h v W HO (World.grownBy.refl W _)) hop hd hg hs hx
    | some ad =>
      refine wpList_append_own_at W hg s x 23 hop base 60 i0 _ 2 32 Tryz.underlying23 hi hz0 hz1 hz2 rfl (by omega) v xs.length _ hs HO ad 0 c [] hx rfl (by simp) (by simp) (by simp at hl; simp [maxLen]; omega) (by simp at hl; omega) hbase fun v1 w1 h1 h2 _ _ => ?_
      rw [hd]
      exact h v1 w1 (by simpa using h1) h2
  cases A with
  | none =>
    refine hnil ?_
    cases ys with
    | nil => rfl
    | cons y ys => obtain ⟨_, e, _⟩ := HR.cell 0 _ rfl; cases e
  | some ad =>
    refine wpList_append_own_at W hg s x 23 hop base 60 i0 _ 2 32 Tryz.underlying23 hi hz0 hz1 hz2 rfl (by omega) v xs.length _ hs HO ad ys.length c (ys.flatMap encH) hx (flat_len (enc := encH) (sz := 2) (fun _ => rfl) ys) (fun j u hu => ?_) (fun u hu => ?_) (by simp [maxLen]; omega) (by omega) hbase fun v1 w1 h1 h2 _ _ => ?_
    · obtain ⟨ad', e, hc⟩ := HR.cell j u hu
      injection e with e; subst e; exact hc
    · obtain ⟨y, _, hy⟩ := List.mem_flatMap.1 hu
      simp only [List.mem_cons, List.not_mem_nil, or_false] at hy
      rcases hy with rfl | rfl <;> rfl
    · rw [hd]
      refine h v1 w1 ?_ h2
      have e : (xs ++ ys).flatMap encH = xs.flatMap encH ++ ys.flatMap encH := List.flatMap_append
      show World.ownsRow _ _ _ _ _ (xs ++ ys).length _
      rw [e, List.length_append]
      exact h1
/-- The same at relations. -/
theorem apR (N : Tmp) {s x : Operand} {v : Value} {A : Option Addr} {c base : Nat} {xs ys zs : List Rel} (hz : xs ++ ys = zs)
    (HO : OR W base v xs) (HR : Rels W A c ys) (hbase : base ≤ W.heap.size) (hl : xs.length + ys.length ≤ 1000000000)
    (h : ∀ v1 w1, OR w1 base v1 zs → W.grownBy w1 v.ownBlock → wpList Tryz.prog ops Q rest (a.put (some N) v1) w1)
    (hop : o.op = .call { callee := .builtin .append, args := #[s, x], argTypes := #[22, 22] } := by rfl)
    (hd : o.dst = some N := by rfl) (hg : o.guard = none := by rfl) (hs : a.eval s = v := by rfl) (hx : a.eval x = .slice A ys.length c := by rfl) : wpList Tryz.prog ops Q (o :: rest) a W := by
  subst hz
  obtain ⟨i0, hi, hzz⟩ := Option.map_eq_some_iff.1 infoR
  simp only [Prod.mk.injEq] at hzz
  obtain ⟨hz0, hz1, hz2⟩ := hzz
  cases A with
  | none =>
    obtain rfl : ys = [] := by
      cases ys with
      | nil => rfl
      | cons y ys => obtain ⟨_, e, _⟩ := HR.at 0 (by simp); cases e
    rw [List.append_nil] at h
    exact ap_none N Tryz.underlying22 infoR HO (h v W HO (World.grownBy.refl W _)) hop hd hg hs hx
  | some ad =>
    refine wpList_append_own_at W hg s x 22 hop base 95 i0 _ 3 32 Tryz.underlying22 hi hz0 hz1 hz2 rfl (by omega) v xs.length _ hs HO ad ys.length c (ys.flatMap encR) hx (flat_len (enc := encR) (sz := 3) (fun _ => rfl) ys) (fun j u hu => ?_) (fun u hu => ?_) (by simp [maxLen]; omega) (by omega) hbase fun v1 w1 h1 h2 _ _ => ?_
    · obtain ⟨i, r, hi, hr, rfl, hv⟩ := flat_div (enc := encR) (sz := 3) (by omega) (fun _ => rfl) ys j u hu
      obtain ⟨ad', e, c0, c1, c2⟩ := HR.at i hi
      injection e with e; subst e
      match r, hr with
      | 0, _ => obtain rfl : Value.string ys[i].1 = u := Option.some.inj hv; exact c0
      | 1, _ => obtain rfl : Value.int .i64 ys[i].2.1 = u := Option.some.inj hv; rw [add_field _ _ 1 (by omega)]; exact c1
      | 2, _ => obtain rfl : Value.bool ys[i].2.2 = u := Option.some.inj hv; rw [add_field _ _ 2 (by omega)]; exact c2
    · obtain ⟨y, _, hy⟩ := List.mem_flatMap.1 hu
      simp only [List.mem_cons, List.not_mem_nil, or_false] at hy
      rcases hy with rfl | rfl | rfl <;> rfl
    · rw [hd]
      refine h v1 w1 ?_ h2
      have e : (xs ++ ys).flatMap encR = xs.flatMap encR ++ ys.flatMap encR := List.flatMap_append
      show World.ownsRow _ _ _ _ _ (xs ++ ys).length _
      rw [e, List.length_append]
      exact h1
end
/-! Appends onto a row that is full (a literal): nothing old is written. -/
section
variable {ops : Array Oper} {rest : List Oper} {o : Oper} {a : Act} {Q : Exit → Act → World → Prop} {W : World}
end
/-- Literals. -/
theorem lit_own (W : World) (cs : Array Value) (e sz n lo : Nat) (hlo : lo ≤ W.heap.size) (hn : n ≤ 1000000) (hs : cs.size = n * sz) : (W.alloc (.cells cs e (0, 0))).ownsRow lo e sz (.slice (some ⟨W.heap.size, 0, none⟩) n n) n cs.toList :=
  World.ownsRow_lit W cs n hlo (by simp [maxLen]; omega) hs
theorem lit_H (W : World) (r : Int) (A : Option Addr) (n c : Nat) : OH (W.alloc (.cells #[.int .i64 r, .slice A n c] 60 (0, 0))) W.heap.size (.slice (some ⟨W.heap.size, 0, none⟩) 1 1) [(r, A, n, c)] :=
  lit_own W #[.int .i64 r, .slice A n c] 60 2 1 W.heap.size (Nat.le_refl _) (by omega) rfl
theorem lit_RH {W w : World} {r : Int} {A : Option Addr} {n c : Nat} (hb : On (W.alloc (.cells #[.int .i64 r, .slice A n c] 60 (0, 0))) w) : RH w (some ⟨W.heap.size, 0, none⟩) 1 [(r, A, n, c)] :=
  (OH.rh (n := 1) (pw_own_below (lit_H W r A n c) hb)).2
end Go.Proofs.YtgemaohdlibboaaGreatDoor.H
/- Rows of strings: read, of one's own, appended to, joined, cut out of a text. No condition. -/
namespace Go.Proofs.YtgemaohdlibboaaGreatDoor.H
open Go Go.RowKit Go.Proofs.YtgemaohdlibboaaGreatDoorW.PrintWords Go.Proofs.YtgemaohdlibboaaGreatDoorW.PrintLast
open Go.Proofs.YtgemaohdlibboaaGreatDoor.Reg (On on_draw)
set_option maxHeartbeats 4000000
set_option maxRecDepth 100000
set_option linter.unusedVariables false
set_option linter.unusedSimpArgs false

abbrev encS (x : List UInt8) : List Value := [.string (strB x)]
/-- A row of strings that is read. -/
structure Strs (w : World) (A : Option Addr) (c : Nat) (ss : List (List UInt8)) : Prop where
  cap : ss.length ≤ c
  max : ss.length ≤ 9223372036854775807
  cell : ∀ j, (hj : j < ss.length) → ∃ ad, A = some ad ∧ w.cell? (ad.add j) = some (.string (strB ss[j]))
theorem Strs.on {W w : World} {A : Option Addr} {c : Nat} {ss : List (List UInt8)} (h : Strs W A c ss) (hb : On W w) : Strs w A c ss := ⟨h.cap, h.max, fun j hj => by
  obtain ⟨ad, e, hc⟩ := h.cell j hj
  exact ⟨ad, e, (hb.eq _ (by rw [hc]; rfl)).trans hc⟩⟩
abbrev OSt (w : World) (lo : Nat) (v : Value) (ss : List (List UInt8)) : Prop := w.ownsRow lo 9 1 v ss.length (ss.flatMap encS)
theorem OSt.slice {w : World} {lo : Nat} {v : Value} {ss : List (List UInt8)} (h : OSt w lo v ss) : ∃ A c, v = .slice A ss.length c ∧ Strs w A c ss := by
  obtain ⟨A, c, rfl⟩ := own_slice h
  obtain ⟨h1, h2⟩ := own_capmax h
  refine ⟨A, c, rfl, h1, h2, fun j hj => ?_⟩
  have hg : (ss.flatMap encS)[j]? = some (.string (strB ss[j])) := by
    have := flat_get (enc := encS) (sz := 1) (fun _ => rfl) ss j 0 hj (by omega)
    rw [Nat.mul_one, Nat.add_zero] at this
    rw [this]; rfl
  rcases h.2 with ⟨h1, h3⟩ | ⟨g, cap, cur, h1, _⟩
  · omega
  · injection h1 with h1 h5 h6
    subst h1
    exact ⟨_, rfl, h.cells rfl j _ hg⟩
theorem OSt.same {w : World} {lo c n : Nat} {A : Option Addr} {ss : List (List UInt8)} (h : OSt w lo (.slice A n c) ss) : n = ss.length ∧ Strs w A c ss := by
  obtain ⟨A', c', e, h'⟩ := OSt.slice h
  injection e with e1 e2 e3
  subst e1 e3
  exact ⟨e2, h'⟩
theorem infoS : (Tryz.prog.info? 9).map (fun i => (i.zero, i.size, i.bytes)) = some (some (.string ⟨#[]⟩), 1, 16) := by kernel_rfl
section
variable {ops : Array Oper} {rest : List Oper} {o : Oper} {a : Act} {Q : Exit → Act → World → Prop} {W : World}
/-- append of a string onto strings of one's own. -/
theorem apS1 (N : Tmp) {s x : Operand} {v : Value} {g base : Nat} {xs zs : List (List UInt8)} {y : List UInt8} (hz : xs ++ [y] = zs)
    (HO : OSt W base v xs) (HR : W.cell? ⟨g, 0, none⟩ = some (.string (strB y))) (hbase : base ≤ W.heap.size) (hl : xs.length ≤ 10000000)
    (h : ∀ v1 w1, OSt w1 base v1 zs → W.grownBy w1 v.ownBlock → wpList Tryz.prog ops Q rest (a.put (some N) v1) w1)
    (hop : o.op = .call { callee := .builtin .append, args := #[s, x], argTypes := #[77, 77] } := by rfl)
    (hd : o.dst = some N := by rfl) (hg : o.guard = none := by rfl) (hs : a.eval s = v := by rfl) (hx : a.eval x = .slice (some ⟨g, 0, none⟩) 1 1 := by rfl) : wpList Tryz.prog ops Q (o :: rest) a W := by
  subst hz
  obtain ⟨i0, hi, hzz⟩ := Option.map_eq_some_iff.1 infoS
  simp only [Prod.mk.injEq] at hzz
  obtain ⟨hz0, hz1, hz2⟩ := hzz
  refine wpList_append_own_at W hg s x 77 hop base 9 i0 _ 1 16 Tryz.underlying77 hi hz0 hz1 hz2 rfl (by omega) v xs.length _ hs HO ⟨g, 0, none⟩ 1 1 (encS y) hx rfl (fun j u hu => ?_) (fun u hu => ?_) (by simp [maxLen]; omega) (by omega) hbase fun v1 w1 h1 h2 _ _ => ?_
  · have hj : j = 0 := by have := (List.getElem?_eq_some_iff.1 hu).1; simp at this; omega
    subst hj
    simp at hu
    subst hu
    exact HR
  · simp only [List.mem_cons, List.not_mem_nil, or_false] at hu
    subst hu
    rfl
  · rw [hd]
    refine h v1 w1 ?_ h2
    show World.ownsRow _ _ _ _ _ (xs ++ [y]).length _
    rw [show (xs ++ [y]).flatMap encS = xs.flatMap encS ++ encS y by simp, List.length_append]
    exact h1
end
section
variable {ops : Array Oper} {rest : List Oper} {o : Oper} {a : Act} {Q : Exit → Act → World → Prop} {W : World}
/-- A literal of one string. -/
theorem litS1 (N : Tmp) {y : List UInt8} (h : wpList Tryz.prog ops Q rest (a.put (some N) (.slice (some ⟨W.heap.size, 0, none⟩) 1 1)) (W.alloc (.cells #[.string (strB y)] 9 (0, 0))))
    (hd : o.dst = some N := by rfl) (hg : o.guard = none := by rfl) (hr : (execOp a.eval o).run Tryz.prog W = .ok (.value (.slice (some ⟨W.heap.size, 0, none⟩) 1 1)) (W.alloc (.cells #[.string (strB y)] 9 (0, 0))) := by first | (go_simp; done) | (go_simp; rfl)) : wpList Tryz.prog ops Q (o :: rest) a W :=
  Kd.event_run hg hr (by rw [hd]; exact h)
end
/-- A string of a text cut out, laid into a row. -/
theorem lit_S (w : World) (y : List UInt8) : (w.alloc (.cells #[.string (strB y)] 9 (0, 0))).cell? ⟨w.heap.size, 0, none⟩ = some (.string (strB y)) := by
  have := blk_cell (loc_new w #[.string (strB y)] 9) 0
  rw [this]; rfl
theorem ownS0 {W : World} {g lo : Nat} (hg : g = W.heap.size) (hlo : lo ≤ W.heap.size) : OSt (W.alloc (.cells #[] 9 (0, 0))) lo (.slice (some ⟨g, 0, none⟩) 0 0) [] := by
  subst hg
  exact own_lower (World.ownsRow_lit (base := W.heap.size) (e := 9) (size := 1) W #[] 0 (Nat.le_refl _) (by simp [maxLen]) (by simp)) hlo
theorem Join_calls (w : World) (A : Option Addr) (c : Nat) (ss : List (List UInt8)) (s : List UInt8) (h : Strs w A c ss) (hl : ss.length ≤ 1000000) (hb : (Lib.join ss s).length ≤ 1000000000) :
    Calls Tryz.prog 65 #[.slice A ss.length c, .string (strB s)] w fun e w' => e = .returned (.string (strB (Lib.join ss s))) ∧ On w w' := by
  by_cases hz : ss.length = 0
  · obtain rfl : ss = [] := List.eq_nil_of_length_eq_zero hz
    exact (Tryz.strings_Join_none A c (strB s) w).mono fun e w' ⟨he, hw⟩ => by subst hw; exact ⟨by rw [he, join_nil']; rfl, On.refl _⟩
  · obtain ⟨ad, rfl, h0⟩ := h.cell 0 (by omega)
    have hs : ad.spot = none := by
      cases hsp : ad.spot with
      | none => rfl
      | some q =>
        exfalso
        have e0 : ad.add 0 = ad := by unfold Addr.add; rw [if_pos rfl]
        rw [e0] at h0
        unfold World.cell? at h0
        split at h0
        · rw [hsp] at h0; simp at h0
        · cases h0
    obtain ⟨b, o, sp⟩ := ad
    obtain rfl : sp = none := hs
    have hbk : b < w.heap.size := by
      have := World.block_lt_of_cell? w _ h0
      unfold Addr.add at this
      simpa using this
    have hm : (ss.map strB).map (fun x : ByteArray => x.data.toList) = ss := by
      rw [List.map_map]
      conv => rhs; rw [← List.map_id ss]
      exact List.map_congr_left (fun x _ => strB_data x)
    have key := Tryz.strings_Join b o c (ss.map strB) (strB s) w (fun j y hj => ?_) hbk (by simp; omega) (by simpa using h.cap) (by rw [hm, strB_data]; omega)
    · rw [hm, strB_data, List.length_map] at key
      exact key
    · rw [List.getElem?_map] at hj
      obtain ⟨x, hx, rfl⟩ := Option.map_eq_some_iff.1 hj
      have hjl := (List.getElem?_eq_some_iff.1 hx).1
      obtain ⟨ad', e, h1⟩ := h.cell j hjl
      injection e with e
      subst e
      have e2 : (⟨b, o, none⟩ : Addr).add j = ⟨b, o + j, none⟩ := by unfold Addr.add; split <;> simp_all
      rw [e2] at h1
      rw [h1, (List.getElem?_eq_some_iff.1 hx).2]
end Go.Proofs.YtgemaohdlibboaaGreatDoor.H
/- Walks: relations written, on both sides. No condition. -/
namespace Go.Proofs.YtgemaohdlibboaaGreatDoor.H
open Go Go.RowKit Go.Proofs.YtgemaohdlibboaaGreatDoorW.PrintWords Go.Proofs.YtgemaohdlibboaaGreatDoorW.PrintLast
open Go.Proofs.YtgemaohdlibboaaGreatDoor.Reg (On on_draw)
set_option maxHeartbeats 4000000
set_option maxRecDepth 100000
set_option linter.unusedVariables false
set_option linter.unusedSimpArgs false

/-- The sum of two lengths is an int. -/
theorem szOk {a b : List UInt8} (h : a.length + b.length ≤ 1000000000000) : (9223372036854775807 < (strB a).size + (strB b).size) = False := eq_false (by rw [strB_size, strB_size]; omega)
theorem szOk1 {a : List UInt8} (h : a.length ≤ 1000000000000) : (9223372036854775807 < (strB a).size + 1) = False := eq_false (by rw [strB_size]; omega)
theorem cat1 (a : List UInt8) (c : UInt8) : strB a ++ (⟨#[c]⟩ : ByteArray) = strB (a ++ [c]) := by rw [show (⟨#[c]⟩ : ByteArray) = strB [c] from rfl, strB_append]
def txtR (rs : List Rel) (k : Nat) : List UInt8 := Lib.join ((rs.take k).map relL) [32]
theorem txtR_succ (rs : List Rel) (k : Nat) (h : k < rs.length) : txtR rs (k + 1) = (if k = 0 then [] else txtR rs k ++ [32]) ++ relL rs[k] := by
  unfold txtR
  rw [List.take_succ_eq_append_getElem h, List.map_append, List.map_cons, List.map_nil, join_snoc, List.length_map, List.length_take, Nat.min_eq_left (by omega)]
  by_cases c : k = 0
  · rw [if_pos c, if_pos c]; rfl
  · rw [if_neg c, if_neg c]
theorem txtR_len {rs : List Rel} (h : okRels rs = true) (k : Nat) : (txtR rs k).length ≤ 100 := by
  have hm := okRels_mem h
  have h6 : rs.length ≤ 6 := by simp only [okRels, Bool.and_eq_true, decide_eq_true_eq] at h; exact h.2
  have := join_len [32] 3 _ ((rs.take k).map relL) rfl (fun x hx => by
    obtain ⟨r, hr, rfl⟩ := List.mem_map.1 hx
    exact (relL_ok (hm r (List.mem_of_mem_take hr))).2.2)
  rw [List.length_map, List.length_take] at this
  unfold txtR
  simp at this ⊢
  omega
theorem txtR_all (rs : List Rel) (k : Nat) (h : rs.length ≤ k) : txtR rs k = Lib.join (rs.map relL) [32] := by unfold txtR; rw [List.take_of_length_le h]
theorem relL_parts {r : Rel} (h : okRel r = true) : ∃ b : UInt8, r.1 = strB [b] ∧ 1 ≤ r.2.1 ∧ r.2.1 ≤ 3 ∧ relL r = (if r.2.2 then [43] else []) ++ ([b] ++ Lib.itoa r.2.1) ∧ (Lib.itoa r.2.1).length ≤ 2 := by
  obtain ⟨b, e, h1, h2, h3, h4⟩ := okRel_bytes h
  refine ⟨b, e, h3, h4, by unfold relL; rw [e, strB_data], (itoa_bytes (by omega) (by omega)).2.2⟩
theorem sFormatRelations_calls (w : World) (A : Option Addr) (c : Nat) (rs : List Rel) (h : Rels w A c rs) : Calls Tryz.prog 108 #[.slice A rs.length c] w fun e w' => e = .returned (.string (strB (fmtR rs))) ∧ On w w' := by
  have hmax := h.max
  have h' := Aside0.mk h
  clear h
  cases ho : okRels rs with
  | false =>
    have ho' := Aside0.mk ho
    clear ho
    go_enter Tryz.func108, Tryz.ntmps108
    go_wp2_with (go_at_call 41; refine (AreValidRelations_calls w A c rs h'.out).mono ?_; rintro e w1 ⟨rfl, hb1⟩; rw [ho'.out])
    go_ret
    exact ⟨by unfold fmtR; rw [if_neg (by rw [ho'.out]; simp)]; rfl, hb1⟩
  | true =>
    have ho' := Aside0.mk ho
    clear ho
    go_enter Tryz.func108, Tryz.ntmps108
    go_wp2_with (go_at_call 41; refine (AreValidRelations_calls w A c rs h'.out).mono ?_; rintro e w1 ⟨rfl, hb1⟩; rw [ho'.out])
    have hb1' := Aside0.mk hb1
    clear hb1
    go_loopw [3, 4] (fun v3 v4 wr => ∃ (k : Nat) (s : List UInt8), k ≤ rs.length ∧ v3 = .string (strB s) ∧ v4 = .int .i64 k ∧ Aside0 (s = txtR rs k) ∧ On w wr) (fun _ v4 _ => rs.length - (intOf v4).toNat)
    case atStart => exact ⟨0, [], Nat.zero_le _, rfl, rfl, ⟨by unfold txtR; simp [join_nil']⟩, hb1'.out⟩
    case round =>
      obtain ⟨k, s, hk, rfl, rfl, hs, hB⟩ := hrel
      have hB' := Aside0.mk hB
      clear hB
      by_cases hlt : k < rs.length
      · obtain ⟨ad, rfl, x0, x1, x2⟩ := (h'.out.on hB'.out).at k hlt
        have hk' := Aside0.mk hlt
        have hstep := Aside0.mk (txtR_succ rs k hlt)
        have hsl := Aside0.mk (show s.length ≤ 100 by rw [hs.out]; exact txtR_len ho'.out k)
        obtain ⟨b, e1, e2, e3, e4, e5⟩ := relL_parts (okRels_mem ho'.out rs[k] (List.getElem_mem hlt))
        rw [e4] at hstep
        obtain ⟨r, hr⟩ : ∃ r : Rel, rs[k] = r := ⟨_, rfl⟩
        rw [hr] at x0 x1 x2 e1 e2 e3 hstep e5
        clear hr e4
        obtain ⟨nm, a, src⟩ := r
        simp only at x0 x1 x2 e1 e2 e3 hstep e5
        subst e1
        have ha' := Aside0.mk (And.intro e2 e3)
        have hia := Aside0.mk e5
        have hs' := Aside0.mk hs.out
        clear hs e2 e3 e5
        by_cases hk0 : 0 < k
        · have hkb : decide ((0 : Int) < (k : Int)) = true := decide_eq_true (by omega)
          have hkn : decide (0 < k) = true := decide_eq_true hk0
          have hst := Aside0.mk (show txtR rs (k + 1) = (s ++ [32]) ++ ((if src then [43] else []) ++ ([b] ++ Lib.itoa a)) by rw [hstep.out, if_neg (by omega), hs'.out])
          have c1 := cat1 s 32
          have z1 := szOk1 (a := s) (by have := hsl.out; omega)
          obtain ⟨t, ht⟩ : ∃ t, s ++ [32] = t := ⟨_, rfl⟩
          have htl := Aside0.mk (show t.length ≤ 101 by rw [← ht]; have := hsl.out; simp; omega)
          rw [ht] at c1 hst
          clear ht hk0
          cases src with
          | true =>
            have c2 := cat1 t 43
            have z2 := szOk1 (a := t) (by have := htl.out; omega)
            obtain ⟨u, hu⟩ : ∃ u, t ++ [43] = u := ⟨_, rfl⟩
            have hul := Aside0.mk (show u.length ≤ 102 by rw [← hu]; have := htl.out; simp; omega)
            rw [hu] at c2
            have hfin := Aside0.mk (show (u ++ [b]) ++ Lib.itoa a = txtR rs (k + 1) by rw [hst.out, ← hu]; simp)
            clear hu
            have c3 := strB_append u [b]
            have z3 := szOk (a := u) (b := [b]) (by have := hul.out; simp; omega)
            obtain ⟨x, hx⟩ : ∃ x, u ++ [b] = x := ⟨_, rfl⟩
            rw [hx] at c3 hfin
            have hxl := Aside0.mk (show x.length ≤ 103 by rw [← hx]; have := hul.out; simp; omega)
            have c4 := strB_append x (Lib.itoa a)
            have z4 := szOk (a := x) (b := Lib.itoa a) (by have := hxl.out; have := hia.out; omega)
            clear hx
            go_wp2
            refine Reg.region [(0,.L),(1,.L),(2,.L),(3,.L),(4,.L),(5,.L),(6,.L),(7,.L),(8,.L),(9,.L),(10,.L),(11,.L),(12,.C),(13,.L)] [14] (by kernel_rfl) (by kernel_rfl) ?_
            repeat first | refine sP ?_ | refine sS ?_ | refine sA ?_ | refine sL ?_ | refine sQ ?_ | refine sO ?_
            refine callC (.string (strB (Lib.itoa a))) Tryz.func162 (fun w' hS => ?_) ?_
            focus exact sFormatInt_calls w' a (by have := ha'.out; omega) (by have := ha'.out; omega)
            repeat first | refine sP ?_ | refine sS ?_ | refine sA ?_ | refine sL ?_ | refine sQ ?_ | refine sO ?_
            refine Reg.tail_ fun w2 hS => ?_
            go_wp2
            refine ⟨⟨k + 1, _, by have := hk'.out; omega, rfl, by go_num, ⟨?_⟩, hB'.out.trans hS⟩, by simp [intOf]; have := hk'.out; omega⟩
            exact hfin.out
          | false =>
            have hfin := Aside0.mk (show (t ++ [b]) ++ Lib.itoa a = txtR rs (k + 1) by rw [hst.out]; simp)
            have c3 := strB_append t [b]
            have z3 := szOk (a := t) (b := [b]) (by have := htl.out; simp; omega)
            obtain ⟨x, hx⟩ : ∃ x, t ++ [b] = x := ⟨_, rfl⟩
            rw [hx] at c3 hfin
            have hxl := Aside0.mk (show x.length ≤ 103 by rw [← hx]; have := htl.out; simp; omega)
            have c4 := strB_append x (Lib.itoa a)
            have z4 := szOk (a := x) (b := Lib.itoa a) (by have := hxl.out; have := hia.out; omega)
            clear hx
            go_wp2
            refine Reg.region [(0,.L),(1,.L),(2,.L),(3,.L),(4,.L),(5,.L),(6,.L),(7,.L),(8,.L),(9,.L),(10,.L),(11,.L),(12,.C),(13,.L)] [14] (by kernel_rfl) (by kernel_rfl) ?_
            repeat first | refine sP ?_ | refine sS ?_ | refine sA ?_ | refine sL ?_ | refine sQ ?_ | refine sO ?_
            refine callC (.string (strB (Lib.itoa a))) Tryz.func162 (fun w' hS => ?_) ?_
            focus exact sFormatInt_calls w' a (by have := ha'.out; omega) (by have := ha'.out; omega)
            repeat first | refine sP ?_ | refine sS ?_ | refine sA ?_ | refine sL ?_ | refine sQ ?_ | refine sO ?_
            refine Reg.tail_ fun w2 hS => ?_
            go_wp2
            refine ⟨⟨k + 1, _, by have := hk'.out; omega, rfl, by go_num, ⟨?_⟩, hB'.out.trans hS⟩, by simp [intOf]; have := hk'.out; omega⟩
            exact hfin.out
        · have hkb : decide ((0 : Int) < (k : Int)) = false := decide_eq_false (by omega)
          have hkn : decide (0 < k) = false := decide_eq_false hk0
          have hst := Aside0.mk (show txtR rs (k + 1) = s ++ ((if src then [43] else []) ++ ([b] ++ Lib.itoa a)) by rw [hstep.out, if_pos (by omega), hs'.out, show k = 0 by omega]; simp [txtR, join_nil'])
          have htl := Aside0.mk (show s.length ≤ 101 by have := hsl.out; omega)
          clear hk0
          cases src with
          | true =>
            have c2 := cat1 s 43
            have z2 := szOk1 (a := s) (by have := htl.out; omega)
            obtain ⟨u, hu⟩ : ∃ u, s ++ [43] = u := ⟨_, rfl⟩
            have hul := Aside0.mk (show u.length ≤ 102 by rw [← hu]; have := htl.out; simp; omega)
            rw [hu] at c2
            have hfin := Aside0.mk (show (u ++ [b]) ++ Lib.itoa a = txtR rs (k + 1) by rw [hst.out, ← hu]; simp)
            clear hu
            have c3 := strB_append u [b]
            have z3 := szOk (a := u) (b := [b]) (by have := hul.out; simp; omega)
            obtain ⟨x, hx⟩ : ∃ x, u ++ [b] = x := ⟨_, rfl⟩
            rw [hx] at c3 hfin
            have hxl := Aside0.mk (show x.length ≤ 103 by rw [← hx]; have := hul.out; simp; omega)
            have c4 := strB_append x (Lib.itoa a)
            have z4 := szOk (a := x) (b := Lib.itoa a) (by have := hxl.out; have := hia.out; omega)
            clear hx
            go_wp2
            refine Reg.region [(0,.L),(1,.L),(2,.L),(3,.L),(4,.L),(5,.L),(6,.L),(7,.L),(8,.L),(9,.L),(10,.L),(11,.L),(12,.C),(13,.L)] [14] (by kernel_rfl) (by kernel_rfl) ?_
            repeat first | refine sP ?_ | refine sS ?_ | refine sA ?_ | refine sL ?_ | refine sQ ?_ | refine sO ?_
            refine callC (.string (strB (Lib.itoa a))) Tryz.func162 (fun w' hS => ?_) ?_
            focus exact sFormatInt_calls w' a (by have := ha'.out; omega) (by have := ha'.out; omega)
            repeat first | refine sP ?_ | refine sS ?_ | refine sA ?_ | refine sL ?_ | refine sQ ?_ | refine sO ?_
            refine Reg.tail_ fun w2 hS => ?_
            go_wp2
            refine ⟨⟨k + 1, _, by have := hk'.out; omega, rfl, by go_num, ⟨?_⟩, hB'.out.trans hS⟩, by simp [intOf]; have := hk'.out; omega⟩
            exact hfin.out
          | false =>
            have hfin := Aside0.mk (show (s ++ [b]) ++ Lib.itoa a = txtR rs (k + 1) by rw [hst.out]; simp)
            have c3 := strB_append s [b]
            have z3 := szOk (a := s) (b := [b]) (by have := htl.out; simp; omega)
            obtain ⟨x, hx⟩ : ∃ x, s ++ [b] = x := ⟨_, rfl⟩
            rw [hx] at c3 hfin
            have hxl := Aside0.mk (show x.length ≤ 103 by rw [← hx]; have := htl.out; simp; omega)
            have c4 := strB_append x (Lib.itoa a)
            have z4 := szOk (a := x) (b := Lib.itoa a) (by have := hxl.out; have := hia.out; omega)
            clear hx
            go_wp2
            refine Reg.region [(0,.L),(1,.L),(2,.L),(3,.L),(4,.L),(5,.L),(6,.L),(7,.L),(8,.L),(9,.L),(10,.L),(11,.L),(12,.C),(13,.L)] [14] (by kernel_rfl) (by kernel_rfl) ?_
            repeat first | refine sP ?_ | refine sS ?_ | refine sA ?_ | refine sL ?_ | refine sQ ?_ | refine sO ?_
            refine callC (.string (strB (Lib.itoa a))) Tryz.func162 (fun w' hS => ?_) ?_
            focus exact sFormatInt_calls w' a (by have := ha'.out; omega) (by have := ha'.out; omega)
            repeat first | refine sP ?_ | refine sS ?_ | refine sA ?_ | refine sL ?_ | refine sQ ?_ | refine sO ?_
            refine Reg.tail_ fun w2 hS => ?_
            go_wp2
            refine ⟨⟨k + 1, _, by have := hk'.out; omega, rfl, by go_num, ⟨?_⟩, hB'.out.trans hS⟩, by simp [intOf]; have := hk'.out; omega⟩
            exact hfin.out
      · go_wp2
        go_ret
        exact ⟨by unfold fmtR; rw [if_pos ho'.out, hs.out, txtR_all rs k (by omega)]; rfl, hB'.out⟩
end Go.Proofs.YtgemaohdlibboaaGreatDoor.H
/- Walks: relations written by the program. No condition. -/
namespace Go.Proofs.YtgemaohdlibboaaGreatDoor.H
open Go Go.RowKit Go.Proofs.YtgemaohdlibboaaGreatDoorW.PrintWords Go.Proofs.YtgemaohdlibboaaGreatDoorW.PrintLast
open Go.Proofs.YtgemaohdlibboaaGreatDoor.Reg (On on_draw)
set_option maxHeartbeats 4000000
set_option maxRecDepth 100000
set_option linter.unusedVariables false
set_option linter.unusedSimpArgs false

theorem relsL_take (rs : List Rel) (k : Nat) (h : k < rs.length) : (rs.take (k + 1)).map relL = (rs.take k).map relL ++ [relL rs[k]] := by
  rw [List.take_succ_eq_append_getElem h, List.map_append]; rfl
theorem iFormatRelations_calls (w : World) (A : Option Addr) (c : Nat) (rs : List Rel) (h : Rels w A c rs) : Calls Tryz.prog 38 #[.slice A rs.length c] w fun e w' => e = .returned (.string (strB (fmtR rs))) ∧ On w w' := by
  have hmax := h.max
  have h' := Aside0.mk h
  clear h
  cases ho : okRels rs with
  | false =>
    have ho' := Aside0.mk ho
    clear ho
    go_enter Tryz.func38, Tryz.ntmps38
    go_wp2_with (go_at_call 49; refine (iAreValidRelations_calls w A c rs h'.out).mono ?_; rintro e w1 ⟨rfl, hb1⟩; rw [ho'.out])
    go_ret
    exact ⟨by unfold fmtR; rw [if_neg (by rw [ho'.out]; simp)]; rfl, hb1⟩
  | true =>
    have ho' := Aside0.mk ho
    have hk6 := Aside0.mk (show rs.length ≤ 6 by simp only [okRels, Bool.and_eq_true, decide_eq_true_eq] at ho; exact ho.2)
    clear ho
    go_enter Tryz.func38, Tryz.ntmps38
    go_wp2_with (go_at_call 49; refine (iAreValidRelations_calls w A c rs h'.out).mono ?_; rintro e w1 ⟨rfl, hb1⟩; rw [ho'.out]; have hb1' := Aside0.mk hb1; clear hb1)
    go_loopw [3, 13] (fun v3 v13 wr => ∃ k : Nat, k ≤ rs.length ∧ v13 = .int .i64 k ∧ OSt wr w.heap.size v3 ((rs.take k).map relL) ∧ On w wr) (fun _ v13 _ => rs.length - (intOf v13).toNat)
    case atStart => exact ⟨0, Nat.zero_le _, rfl, ownS0 rfl hb1'.out.size, hb1'.out.trans (On.alloc (On.refl _) _)⟩
    case round =>
      obtain ⟨k, hk, rfl, hO, hB⟩ := hrel
      have hB' := Aside0.mk hB
      obtain ⟨ls, hls⟩ : ∃ ls, (rs.take k).map relL = ls := ⟨_, rfl⟩
      rw [hls] at hO
      have hls' := Aside0.mk hls
      have hO' := Aside0.mk hO
      clear hB hO hls
      by_cases hlt : k < rs.length
      · obtain ⟨ad, rfl, x0, x1, x2⟩ := (h'.out.on hB'.out).at k hlt
        have hk' := Aside0.mk hlt
        have hstep := Aside0.mk (relsL_take rs k hlt)
        obtain ⟨b, e1, e2, e3, e4, e5⟩ := relL_parts (okRels_mem ho'.out rs[k] (List.getElem_mem hlt))
        obtain ⟨r, hr⟩ : ∃ r : Rel, rs[k] = r := ⟨_, rfl⟩
        rw [hr] at x0 x1 x2 e1 e2 e3 e4 hstep e5
        clear hr
        obtain ⟨nm, a, src⟩ := r
        simp only at x0 x1 x2 e1 e2 e3 e4 hstep e5
        subst e1
        have ha' := Aside0.mk (And.intro e2 e3)
        have hia := Aside0.mk e5
        have hrl := Aside0.mk e4
        clear e2 e3 e4 e5
        have hfill := alloc_fill3 wr
        cases src with
        | true =>
          have c3 : (⟨#[43]⟩ : ByteArray) ++ strB [b] = strB [43, b] := by rw [show (⟨#[43]⟩ : ByteArray) = strB [43] from rfl, strB_append]; rfl
          have z3 : (9223372036854775807 < 1 + (strB [b]).size) = False := eq_false (by rw [strB_size]; simp)
          have c4 := strB_append [43, b] (Lib.itoa a)
          have z4 := szOk (a := [43, b]) (b := Lib.itoa a) (by have := hia.out; simp; omega)
          obtain ⟨y, hy⟩ : ∃ y, [43, b] ++ Lib.itoa a = y := ⟨_, rfl⟩
          have hyr := Aside0.mk (show relL (strB [b], a, true) = y by rw [hrl.out, ← hy]; rfl)
          rw [hy] at c4
          clear hy
          go_wp2
          have hbx := Aside0.mk (show (wr.alloc (.cells #[.string (strB [b]), .int .i64 a, .bool true] 95 (0, 0))).heap[wr.heap.size]? = some _ from loc_new wr _ _)
          have hc0 := blk_cell hbx.out
          have hBx := Aside0.mk (hB'.out.trans (On.alloc (On.refl _) (.cells #[.string (strB [b]), .int .i64 a, .bool true] 95 (0, 0))))
          clear hfill
          refine Reg.region [(0,.P),(1,.L),(2,.L),(3,.L),(4,.L),(5,.L),(6,.L),(7,.C),(8,.L)] [9,10,11] (by kernel_rfl) (by kernel_rfl) ?_
          repeat first | refine sP ?_ | refine sS ?_ | refine sA ?_ | refine sL ?_ | refine sQ ?_ | refine sO ?_
          refine callC (.string (strB (Lib.itoa a))) Tryz.func107 (fun w' hS => ?_) ?_
          focus exact iFormatInt_calls w' a (by have := ha'.out; omega) (by have := ha'.out; omega)
          repeat first | refine sP ?_ | refine sS ?_ | refine sA ?_ | refine sL ?_ | refine sQ ?_ | refine sO ?_
          refine Reg.tail_ fun w2 hS => ?_
          clear hc0
          refine litS1 28 (y := y) ?_
          have hOA := Aside0.mk (own_ex hO'.out (Ex.of_on (S := fun _ => False) ((On.alloc (On.refl _) (.cells #[.string (strB [b]), .int .i64 a, .bool true] 95 (0, 0))).trans (hS.trans (On.alloc (On.refl w2) (.cells #[.string (strB y)] 9 (0, 0)))))) (fun _ _ h => h))
          have hBA := Aside0.mk (hBx.out.trans (hS.trans (On.alloc (On.refl w2) (.cells #[.string (strB y)] 9 (0, 0)))))
          obtain ⟨ys, hys⟩ : ∃ ys, ls ++ [y] = ys := ⟨_, rfl⟩
          have hys' := Aside0.mk hys
          refine apS1 29 hys hOA.out (lit_S w2 y) hBA.out.size (by have := hk6.out; rw [← hls'.out]; simp; omega) fun v3 w3 hO3 hg3 => ?_
          have hO3' := Aside0.mk hO3
          have hB3 := Aside0.mk (Ex.on hBA.out (Ex.of_grown hg3) (fun i e => own_base hO'.out i e.symm))
          clear hys hO3 hg3
          go_wp2
          refine ⟨⟨k + 1, by have := hk'.out; omega, by go_num, ?_, hB3.out⟩, by simp [intOf]; have := hk'.out; omega⟩
          rw [hstep.out, hls'.out, hyr.out, hys'.out]; exact hO3'.out
        | false =>
          have c3 : (⟨#[]⟩ : ByteArray) ++ strB [b] = strB [b] := by rw [show (⟨#[]⟩ : ByteArray) = strB [] from rfl, strB_append]; rfl
          have z3 : (9223372036854775807 < (strB [b]).size) = False := eq_false (by rw [strB_size]; simp)
          have c4 := strB_append [b] (Lib.itoa a)
          have z4 := szOk (a := [b]) (b := Lib.itoa a) (by have := hia.out; simp; omega)
          obtain ⟨y, hy⟩ : ∃ y, [b] ++ Lib.itoa a = y := ⟨_, rfl⟩
          have hyr := Aside0.mk (show relL (strB [b], a, false) = y by rw [hrl.out, ← hy]; rfl)
          rw [hy] at c4
          clear hy
          go_wp2
          have hbx := Aside0.mk (show (wr.alloc (.cells #[.string (strB [b]), .int .i64 a, .bool false] 95 (0, 0))).heap[wr.heap.size]? = some _ from loc_new wr _ _)
          have hc0 := blk_cell hbx.out
          have hBx := Aside0.mk (hB'.out.trans (On.alloc (On.refl _) (.cells #[.string (strB [b]), .int .i64 a, .bool false] 95 (0, 0))))
          clear hfill
          refine Reg.region [(0,.P),(1,.L),(2,.L),(3,.L),(4,.L),(5,.L),(6,.L),(7,.C),(8,.L)] [9,10,11] (by kernel_rfl) (by kernel_rfl) ?_
          repeat first | refine sP ?_ | refine sS ?_ | refine sA ?_ | refine sL ?_ | refine sQ ?_ | refine sO ?_
          refine callC (.string (strB (Lib.itoa a))) Tryz.func107 (fun w' hS => ?_) ?_
          focus exact iFormatInt_calls w' a (by have := ha'.out; omega) (by have := ha'.out; omega)
          repeat first | refine sP ?_ | refine sS ?_ | refine sA ?_ | refine sL ?_ | refine sQ ?_ | refine sO ?_
          refine Reg.tail_ fun w2 hS => ?_
          clear hc0
          refine litS1 28 (y := y) ?_
          have hOA := Aside0.mk (own_ex hO'.out (Ex.of_on (S := fun _ => False) ((On.alloc (On.refl _) (.cells #[.string (strB [b]), .int .i64 a, .bool false] 95 (0, 0))).trans (hS.trans (On.alloc (On.refl w2) (.cells #[.string (strB y)] 9 (0, 0)))))) (fun _ _ h => h))
          have hBA := Aside0.mk (hBx.out.trans (hS.trans (On.alloc (On.refl w2) (.cells #[.string (strB y)] 9 (0, 0)))))
          obtain ⟨ys, hys⟩ : ∃ ys, ls ++ [y] = ys := ⟨_, rfl⟩
          have hys' := Aside0.mk hys
          refine apS1 29 hys hOA.out (lit_S w2 y) hBA.out.size (by have := hk6.out; rw [← hls'.out]; simp; omega) fun v3 w3 hO3 hg3 => ?_
          have hO3' := Aside0.mk hO3
          have hB3 := Aside0.mk (Ex.on hBA.out (Ex.of_grown hg3) (fun i e => own_base hO'.out i e.symm))
          clear hys hO3 hg3
          go_wp2
          refine ⟨⟨k + 1, by have := hk'.out; omega, by go_num, ?_, hB3.out⟩, by simp [intOf]; have := hk'.out; omega⟩
          rw [hstep.out, hls'.out, hyr.out, hys'.out]; exact hO3'.out
      · have e1 : rs.take k = rs := List.take_of_length_le (by omega)
        have hls2 := Aside0.mk (show rs.map relL = ls by rw [← hls'.out, e1])
        clear e1
        obtain ⟨Aq, cq, rfl⟩ := own_slice hO'.out
        have hSt' := Aside0.mk (OSt.same hO'.out).2
        have hjl := Aside0.mk (show (Lib.join ls [32]).length ≤ 100 by rw [← hls2.out]; have := txtR_len ho'.out rs.length; rwa [txtR_all rs _ (Nat.le_refl _)] at this)
        have hll := Aside0.mk (show ls.length ≤ 1000000 by rw [← hls2.out]; have := hk6.out; simp; omega)
        go_wp2_with (go_at_call 65; refine (Join_calls wr Aq cq ls [32] hSt'.out hll.out (by have := hjl.out; omega)).mono ?_; rintro e w2 ⟨rfl, hb2⟩)
        go_ret
        exact ⟨by unfold fmtR; rw [if_pos ho'.out, hls2.out]; rfl, hB'.out.trans hb2⟩
end Go.Proofs.YtgemaohdlibboaaGreatDoor.H
/- Walks: the program's own valid facts and their order. No condition. -/
namespace Go.Proofs.YtgemaohdlibboaaGreatDoor.H
open Go Go.RowKit Go.Proofs.YtgemaohdlibboaaGreatDoorW.PrintWords Go.Proofs.YtgemaohdlibboaaGreatDoorW.PrintLast
open Go.Proofs.YtgemaohdlibboaaGreatDoor.Reg (On on_draw)
set_option maxHeartbeats 1000000
set_option maxRecDepth 100000
set_option linter.unusedVariables false
set_option linter.unusedSimpArgs false

theorem badValue_calls (w : World) (v : Int) : Calls Tryz.prog 124 #[.int .i64 v] w fun e w' => e = .returned (.bool (!okVal v)) ∧ On w w' := by
  go_enter Tryz.func124, Tryz.ntmps124
  go_wp2_with (go_at_call 92; refine (iIsValidValue_calls _ _).mono ?_; rintro e w1 ⟨rfl, hb1⟩)
  go_ret
  exact ⟨rfl, hb1⟩
theorem IndexFuncV_calls (w : World) (A c) (vs : List Int) (h : Ints w A c vs) : Calls Tryz.prog 172 #[.slice A vs.length c, .func (.func 124) #[] #[]] w fun e w' => e = .returned (.int .i64 (idxFrom (fun v => !okVal v) vs 0)) ∧ On w w' := by
  have hmax := h.max
  go_enter Tryz.func172, Tryz.ntmps172
  go_wp2
  go_loopw [8] (fun v wr => ∃ k : Nat, k ≤ vs.length ∧ v = .int .i64 k ∧ Hid (idxFrom (fun v => !okVal v) (vs.drop k) k = idxFrom (fun v => !okVal v) vs 0) ∧ On w wr) (fun v _ => vs.length - (intOf v).toNat)
  case atStart => exact ⟨0, Nat.zero_le _, rfl, rfl, On.refl _⟩
  case round =>
    obtain ⟨k, hk, rfl, hp, hB⟩ := hrel
    by_cases hlt : k < vs.length
    · obtain ⟨ad, rfl, hx⟩ := (h.on hB).at k hlt
      have hst := Aside0.mk ((idxFrom_step (fun v => !okVal v) vs k hlt).symm.trans hp.out)
      clear hp
      cases hv : okVal vs[k] with
      | false =>
        have hv' := Aside0.mk hv
        clear hv
        go_wp2_with (go_at_call 124; refine (badValue_calls _ _).mono ?_; rintro e w3 ⟨rfl, hb3⟩; rw [hv'.out])
        go_ret
        exact ⟨ret_int (by have := hst.out; rw [hv'.out, if_pos (by rfl)] at this; exact this), hB.trans hb3⟩
      | true =>
        have hv' := Aside0.mk hv
        clear hv
        go_wp2_with (go_at_call 124; refine (badValue_calls _ _).mono ?_; rintro e w3 ⟨rfl, hb3⟩; rw [hv'.out])
        go_roundw
        case rel => exact ⟨k + 1, by omega, by go_num, (by have := hst.out; rwa [hv'.out, if_neg (by simp)] at this : _ = _), hB.trans hb3⟩
        case measure => simp [intOf]; omega
    · go_wp2
      go_ret
      exact ⟨ret_int (by rw [← hp.out, List.drop_of_length_le (by omega)]; rfl), hB⟩
theorem ContainsFuncV_calls (w : World) (A c) (vs : List Int) (h : Ints w A c vs) : Calls Tryz.prog 123 #[.slice A vs.length c, .func (.func 124) #[] #[]] w fun e w' => e = .returned (.bool (vs.any fun v => !okVal v)) ∧ On w w' := by
  go_enter Tryz.func123, Tryz.ntmps123
  go_wp2_with (go_at_call 172; refine (IndexFuncV_calls w A c vs h).mono ?_; rintro e w3 ⟨rfl, hb3⟩)
  go_ret
  exact ⟨ret_bool (idxFrom_any _ vs 0), hb3⟩
theorem iIsValidFact_calls (w : World) (A c) (rs : List Rel) (B d) (f : Fct) (h0 : Rels w A c rs) (h1 : Ints w B d f.2) : Calls Tryz.prog 50 #[.slice A rs.length c, .agg #[.int .i64 f.1, .slice B f.2.length d]] w fun e w' => e = .returned (.bool (okFact rs f)) ∧ On w w' := by
  have hm0 := h0.max
  have hm1 := h1.max
  have hw1 : IntKind.i64.wrap ((rs.length : Int) - 1) = (rs.length : Int) - 1 := IntWalk.i64_in _ (by omega)
  cases hr : okRels rs with
  | false =>
    have hr' := Aside0.mk hr
    clear hr
    go_enter Tryz.func50, Tryz.ntmps50
    go_wp2
    refine Reg.region [(0,.L),(1,.C),(2,.L),(3,.L),(4,.L),(5,.L),(6,.L),(7,.L),(8,.L),(9,.C),(10,.L),(11,.L),(12,.L),(13,.L),(14,.L),(15,.L),(16,.L),(17,.L),(18,.L),(19,.L),(20,.L),(21,.L),(22,.L),(23,.L)] [] (by kernel_rfl) (by kernel_rfl) ?_
    repeat first | refine sP ?_ | refine sS ?_ | refine sA ?_ | refine sL ?_ | refine sQ ?_ | refine sO ?_
    refine callC (.bool false) Tryz.func49 (fun w' hS => ?_) ?_
    focus exact (iAreValidRelations_calls w' A c rs (h0.on ((On.alloc (On.refl _) _).trans hS))).mono fun e w'' h => ⟨by rw [h.1, hr'.out], h.2⟩
    repeat first | refine sP ?_ | refine sS ?_ | refine sA ?_ | refine sL ?_ | refine sQ ?_ | refine sO ?_
    refine Reg.nil fun w2 hS => ?_
    go_wp2
    go_ret
    exact ⟨ret_bool (by simp [okFact, hr'.out]), (On.alloc (On.refl _) _).trans hS⟩
  | true =>
    have hr' := Aside0.mk hr
    clear hr
    cases hi : within f.1 0 ((rs.length : Int) - 1) with
    | false =>
      have hi' := Aside0.mk hi
      clear hi
      go_enter Tryz.func50, Tryz.ntmps50
      go_wp2
      refine Reg.region [(0,.L),(1,.C),(2,.L),(3,.L),(4,.L),(5,.L),(6,.L),(7,.L),(8,.L),(9,.C),(10,.L),(11,.L),(12,.L),(13,.L),(14,.L),(15,.L),(16,.L),(17,.L),(18,.L),(19,.L),(20,.L),(21,.L),(22,.L),(23,.L)] [] (by kernel_rfl) (by kernel_rfl) ?_
      repeat first | refine sP ?_ | refine sS ?_ | refine sA ?_ | refine sL ?_ | refine sQ ?_ | refine sO ?_
      refine callC (.bool true) Tryz.func49 (fun w' hS => ?_) ?_
      focus exact (iAreValidRelations_calls w' A c rs (h0.on ((On.alloc (On.refl _) _).trans hS))).mono fun e w'' h => ⟨by rw [h.1, hr'.out], h.2⟩
      repeat first | refine sP ?_ | refine sS ?_ | refine sA ?_ | refine sL ?_ | refine sQ ?_ | refine sO ?_
      refine callC (.bool false) Tryz.func91 (fun w' hS => ?_) ?_
      focus exact (within_calls w' _ _ _).mono fun e w'' h => ⟨by rw [h.1, hi'.out], h.2⟩
      repeat first | refine sP ?_ | refine sS ?_ | refine sA ?_ | refine sL ?_ | refine sQ ?_ | refine sO ?_
      refine Reg.nil fun w2 hS => ?_
      go_wp2
      go_ret
      exact ⟨ret_bool (by have := hi'.out; simp [within] at this; simp [okFact]; intros; omega), (On.alloc (On.refl _) _).trans hS⟩
    | true =>
      have hi' := Aside0.mk hi
      have hi2 : 0 ≤ f.1 ∧ f.1 ≤ (rs.length : Int) - 1 := by simpa [within] using hi
      clear hi
      rcases f with ⟨r, vs⟩
      obtain ⟨m, rfl⟩ : ∃ m : Nat, r = m := ⟨r.toNat, by omega⟩
      have hm : m < rs.length := by omega
      have har : arity rs (m : Int) = rs[m].2.1 := by simp [arity, hm]
      clear hi2
      dsimp only at *
      obtain ⟨ad, rfl, hx0, hx1, hx2⟩ := h0.at m hm
      have hbx := Aside0.mk (On.alloc (On.refl w) (.cells #[.int .i64 m, .slice B vs.length d] 60))
      have hx1' := (hbx.out.eq _ (by rw [hx1]; rfl)).trans hx1
      clear hx0 hx1 hx2
      cases hl : decide ((vs.length : Int) = rs[m].2.1) with
      | false =>
        have hl1 : ((vs.length : Int) == rs[m].2.1) = false := hl
        have hl2 : ((vs.length : Int) != rs[m].2.1) = true := by simp [bne, hl1]
        have hl' := Aside0.mk hl
        clear hl
        go_enter Tryz.func50, Tryz.ntmps50
        go_wp2
        refine Reg.region [(0,.L),(1,.C),(2,.L),(3,.L),(4,.L),(5,.L),(6,.L),(7,.L),(8,.L),(9,.C),(10,.L),(11,.L),(12,.L),(13,.L),(14,.L),(15,.L),(16,.L),(17,.L),(18,.L),(19,.L),(20,.L),(21,.L),(22,.L),(23,.L)] [] (by kernel_rfl) (by kernel_rfl) ?_
        repeat first | refine sP ?_ | refine sS ?_ | refine sA ?_ | refine sL ?_ | refine sQ ?_ | refine sO ?_
        refine callC (.bool true) Tryz.func49 (fun w' hS => ?_) ?_
        focus exact (iAreValidRelations_calls w' (some ad) c rs (h0.on (hbx.out.trans hS))).mono fun e w'' h => ⟨by rw [h.1, hr'.out], h.2⟩
        repeat first | refine sP ?_ | refine sS ?_ | refine sA ?_ | refine sL ?_ | refine sQ ?_ | refine sO ?_
        refine callC (.bool true) Tryz.func91 (fun w' hS => ?_) ?_
        focus exact (within_calls w' _ _ _).mono fun e w'' h => ⟨by rw [h.1, hi'.out], h.2⟩
        repeat first | refine sP ?_ | refine sS ?_ | refine sA ?_ | refine sL ?_ | refine sQ ?_ | refine sO ?_
        refine Reg.nil fun w2 hS => ?_
        go_wp2
        go_ret
        have e1 : decide ((vs.length : Int) = arity rs (m : Int)) = false := by rw [har]; exact hl'.out
        exact ⟨ret_bool (by symm; unfold okFact; dsimp only; rw [e1, Bool.and_false, Bool.false_and]), hbx.out.trans hS⟩
      | true =>
        have hl0 : (vs.length : Int) = rs[m].2.1 := of_decide_eq_true hl
        have hl1 : ((vs.length : Int) == rs[m].2.1) = true := by simpa using hl0
        have hl2 : ((vs.length : Int) != rs[m].2.1) = false := by simp [bne, hl1]
        have hl' := Aside0.mk hl
        clear hl hl0
        go_enter Tryz.func50, Tryz.ntmps50
        go_wp2
        refine Reg.region [(0,.L),(1,.C),(2,.L),(3,.L),(4,.L),(5,.L),(6,.L),(7,.L),(8,.L),(9,.C),(10,.L),(11,.L),(12,.L),(13,.L),(14,.L),(15,.L),(16,.L),(17,.L),(18,.L),(19,.L),(20,.L),(21,.L),(22,.L),(23,.L)] [] (by kernel_rfl) (by kernel_rfl) ?_
        repeat first | refine sP ?_ | refine sS ?_ | refine sA ?_ | refine sL ?_ | refine sQ ?_ | refine sO ?_
        refine callC (.bool true) Tryz.func49 (fun w' hS => ?_) ?_
        focus exact (iAreValidRelations_calls w' (some ad) c rs (h0.on (hbx.out.trans hS))).mono fun e w'' h => ⟨by rw [h.1, hr'.out], h.2⟩
        repeat first | refine sP ?_ | refine sS ?_ | refine sA ?_ | refine sL ?_ | refine sQ ?_ | refine sO ?_
        refine callC (.bool true) Tryz.func91 (fun w' hS => ?_) ?_
        focus exact (within_calls w' _ _ _).mono fun e w'' h => ⟨by rw [h.1, hi'.out], h.2⟩
        repeat first | refine sP ?_ | refine sS ?_ | refine sA ?_ | refine sL ?_ | refine sQ ?_ | refine sO ?_
        refine Reg.nil fun w2 hS => ?_
        clear hx1'
        have hL2 := Loc.on hS (loc1 w #[.int .i64 m, .slice B vs.length d] 60)
        have hc0 := blk_cell hL2.1
        have hB2 := Aside0.mk (hbx.out.trans hS)
        cases hv : vs.any (fun v => !okVal v) with
        | true =>
          have hv' := Aside0.mk hv
          clear hv
          go_wp2_with (go_at_call 123; refine (ContainsFuncV_calls w2 B d vs (h1.on hB2.out)).mono ?_; rintro e w3 ⟨rfl, hb3⟩; rw [hv'.out])
          go_ret
          exact ⟨ret_bool (by have : vs.all okVal = false := by have := hv'.out; rw [List.any_eq_not_all_not] at this; simpa using this
                              simp only [okFact, this, Bool.and_false]), hB2.out.trans hb3⟩
        | false =>
          have hv' := Aside0.mk hv
          clear hv
          go_wp2_with (go_at_call 123; refine (ContainsFuncV_calls w2 B d vs (h1.on hB2.out)).mono ?_; rintro e w3 ⟨rfl, hb3⟩; rw [hv'.out])
          go_ret
          exact ⟨ret_bool (by have : vs.all okVal = true := by have := hv'.out; rw [List.any_eq_not_all_not] at this; simpa using this
                              have hl3 := beq_iff_eq.1 hl1; simp [okFact, this, hr'.out, har, hm, hl3]), hB2.out.trans hb3⟩
theorem isNaN_calls (w : World) (v : Int) : Calls Tryz.prog 171 #[.int .i64 v] w fun e w' => e = .returned (.bool false) ∧ On w w' := by
  go_enter Tryz.func171, Tryz.ntmps171
  go_wp2
  go_ret
  exact ⟨by simp, On.refl _⟩
theorem cmpCompare_calls (w : World) (a b : Int) : Calls Tryz.prog 120 #[.int .i64 a, .int .i64 b] w fun e w' => e = .returned (.int .i64 (cmpI a b)) ∧ On w w' := by
  by_cases h1 : a < b
  · have h1b : decide (a < b) = true := decide_eq_true h1
    go_enter Tryz.func120, Tryz.ntmps120
    go_wp2_with (first | (go_at_call 171; refine (isNaN_calls w _).mono ?_; rintro e w1 ⟨rfl, hb1⟩) | (go_at_call 171; refine (isNaN_calls w1 _).mono ?_; rintro e w2 ⟨rfl, hb2⟩))
    go_ret
    exact ⟨ret_int (by unfold cmpI; rw [if_pos (of_decide_eq_true h1b)]), hb1.trans hb2⟩
  · have h1b : decide (a < b) = false := decide_eq_false h1
    by_cases h2 : b < a
    · have h2b : decide (b < a) = true := decide_eq_true h2
      go_enter Tryz.func120, Tryz.ntmps120
      go_wp2_with (first | (go_at_call 171; refine (isNaN_calls w _).mono ?_; rintro e w1 ⟨rfl, hb1⟩) | (go_at_call 171; refine (isNaN_calls w1 _).mono ?_; rintro e w2 ⟨rfl, hb2⟩))
      go_ret
      exact ⟨ret_int (by unfold cmpI; rw [if_neg (of_decide_eq_false h1b), if_pos (of_decide_eq_true h2b)]), hb1.trans hb2⟩
    · have h2b : decide (b < a) = false := decide_eq_false h2
      go_enter Tryz.func120, Tryz.ntmps120
      go_wp2_with (first | (go_at_call 171; refine (isNaN_calls w _).mono ?_; rintro e w1 ⟨rfl, hb1⟩) | (go_at_call 171; refine (isNaN_calls w1 _).mono ?_; rintro e w2 ⟨rfl, hb2⟩))
      go_ret
      exact ⟨ret_int (by unfold cmpI; rw [if_neg (of_decide_eq_false h1b), if_neg (of_decide_eq_false h2b)]), hb1.trans hb2⟩
theorem cmpI_bd (a b : Int) : -1 ≤ cmpI a b ∧ cmpI a b ≤ 1 := by unfold cmpI; split <;> (try split) <;> omega
theorem ints_stepI (a b : List Int) (k : Nat) (h1 : k < a.length) (h2 : k < b.length) : ints (a.drop k) (b.drop k) = if cmpI a[k] b[k] = 0 then ints (a.drop (k + 1)) (b.drop (k + 1)) else cmpI a[k] b[k] := by
  rw [ints_step a b k h1 h2]; unfold cmpI; split
  · simp
  · split <;> simp
theorem slicesCompare_calls (w : World) (A B : Option Addr) (c d : Nat) (a b : List Int) (ha : Ints w A c a) (hb : Ints w B d b) : Calls Tryz.prog 121 #[.slice A a.length c, .slice B b.length d] w fun e w' => e = .returned (.int .i64 (ints a b)) ∧ On w w' := by
  have hma := ha.max
  have hmb := hb.max
  go_enter Tryz.func121, Tryz.ntmps121
  go_wp2
  go_loopw [11] (fun v wr => ∃ k : Nat, k ≤ a.length ∧ k ≤ b.length ∧ v = .int .i64 k ∧ Hid (ints (a.drop k) (b.drop k) = ints a b) ∧ On w wr) (fun v _ => a.length - (intOf v).toNat)
  case atStart => exact ⟨0, Nat.zero_le _, Nat.zero_le _, rfl, rfl, On.refl _⟩
  case round =>
    obtain ⟨k, hk1, hk2, rfl, hp, hB⟩ := hrel
    by_cases h1 : k < a.length
    · obtain ⟨ad, rfl, hx⟩ := (ha.on hB).at k h1
      by_cases h2 : k < b.length
      · obtain ⟨bd, rfl, hy⟩ := (hb.on hB).at k h2
        have h2n : decide (b.length ≤ k) = false := decide_eq_false (by omega)
        have hst := Aside0.mk ((ints_stepI a b k h1 h2).symm.trans hp.out)
        clear hp
        by_cases h3 : cmpI a[k] b[k] = 0
        · have h3' := Aside0.mk h3
          have h3b : (cmpI a[k] b[k] != 0) = false := by simp [h3]
          clear h3
          go_wp2_with (go_at_call 120; refine (cmpCompare_calls _ _ _).mono ?_; rintro e w3 ⟨rfl, hb3⟩)
          go_roundw
          case rel => exact ⟨k + 1, by omega, by omega, by go_num, (by have := hst.out; rwa [if_pos h3'.out] at this : _ = _), hB.trans hb3⟩
          case measure => simp [intOf]; omega
        · have h3' := Aside0.mk h3
          have h3b : (cmpI a[k] b[k] != 0) = true := by simp [h3]
          clear h3
          go_wp2_with (go_at_call 120; refine (cmpCompare_calls _ _ _).mono ?_; rintro e w3 ⟨rfl, hb3⟩)
          go_ret
          exact ⟨ret_int (by have := hst.out; rwa [if_neg h3'.out] at this), hB.trans hb3⟩
      · have hb0 : b.drop k = [] := List.drop_of_length_le (by omega)
        have h2n : decide (b.length ≤ k) = true := decide_eq_true (by omega)
        have hp' := Aside0.mk hp.out
        clear hp
        go_wp2
        go_ret
        exact ⟨ret_int (by rw [← hp'.out, hb0, List.drop_eq_getElem_cons h1]; rfl), hB⟩
    · have ha0 : a.drop k = [] := List.drop_of_length_le (by omega)
      have hp' := Aside0.mk hp.out
      clear hp
      by_cases h2 : k < b.length
      · have h4 : a.length < b.length := by omega
        go_wp2
        go_ret
        exact ⟨ret_int (by rw [← hp'.out, ha0, List.drop_eq_getElem_cons h2]; rfl), hB⟩
      · have hb0 : b.drop k = [] := List.drop_of_length_le (by omega)
        have h4 : ¬ a.length < b.length := by omega
        go_wp2
        go_ret
        exact ⟨ret_int (by rw [← hp'.out, ha0, hb0]; rfl), hB⟩
/-- The first that is not 0. -/
def orFrom : List Int → Int
  | [] => 0
  | x :: l => if x = 0 then orFrom l else x
theorem orFrom_step (l : List Int) (k : Nat) (h : k < l.length) : orFrom (l.drop k) = if l[k] = 0 then orFrom (l.drop (k + 1)) else l[k] := by
  rw [List.drop_eq_getElem_cons h]; rfl
theorem cmpOr_calls (w : World) (A c) (l : List Int) (h : Ints w A c l) : Calls Tryz.prog 119 #[.slice A l.length c] w fun e w' => e = .returned (.int .i64 (orFrom l)) ∧ On w w' := by
  have hmax := h.max
  go_enter Tryz.func119, Tryz.ntmps119
  go_wp2
  go_loop [8] (fun v => ∃ k : Nat, k ≤ l.length ∧ v = .int .i64 k ∧ Hid (orFrom (l.drop k) = orFrom l)) (fun v => l.length - (intOf v).toNat)
  case atStart => exact ⟨0, Nat.zero_le _, rfl, rfl⟩
  case round =>
    obtain ⟨k, hk, rfl, hp⟩ := hrel
    by_cases hlt : k < l.length
    · obtain ⟨ad, rfl, hx⟩ := h.at k hlt
      have hst := Aside0.mk ((orFrom_step l k hlt).symm.trans hp.out)
      clear hp
      by_cases h3 : l[k] = 0
      · have h3' := Aside0.mk h3
        have h3b : (l[k] != 0) = false := by simp [h3]
        clear h3
        go_wp2
        go_round
        case rel => exact ⟨k + 1, by omega, by go_num, (by have := hst.out; rwa [if_pos h3'.out] at this : _ = _)⟩
        case measure => simp [intOf]; omega
      · have h3' := Aside0.mk h3
        have h3b : (l[k] != 0) = true := by simp [h3]
        clear h3
        go_wp2
        go_ret
        exact ⟨ret_int (by have := hst.out; rwa [if_neg h3'.out] at this), On.refl _⟩
    · go_wp2
      go_ret
      exact ⟨ret_int (by rw [← hp.out, List.drop_of_length_le (by omega)]; rfl), On.refl _⟩
theorem ints2 (w : World) (a b : Int) : Ints (w.alloc (.cells #[.int .i64 a, .int .i64 b] 3)) (some ⟨w.heap.size, 0, none⟩) 2 [a, b] ↔ InR [a, b] := by
  refine ⟨fun h => h.2.2, fun h => ⟨Nat.le_refl _, ⟨rfl, by simp, fun _ => ⟨_, rfl, fun j p hj => ?_⟩⟩, h⟩⟩
  refine ⟨[.int .i64 p], rfl, rfl, fun i u hu => ?_⟩
  have hc := blk_cell (loc_new w #[.int .i64 a, .int .i64 b] 3)
  obtain ⟨rfl, rfl⟩ : i = 0 ∧ u = .int .i64 p := by
    cases i with
    | zero => simp at hu; exact ⟨rfl, hu.symm⟩
    | succ i => simp at hu
  rw [add_plain, show j * kInts.sz + 0 = j from by show j * 1 + 0 = j; omega, hc]
  match j, hj with
  | 0, hj => simp at hj; subst hj; rfl
  | 1, hj => simp at hj; subst hj; rfl
  | j + 2, hj => simp at hj
theorem ints_bd (a b : List Int) : -1 ≤ ints a b ∧ ints a b ≤ 1 := by
  induction a generalizing b with
  | nil => cases b <;> simp [ints]
  | cons x a ih =>
    cases b with
    | nil => simp [ints]
    | cons y b =>
      unfold ints
      split
      · omega
      · split
        · omega
        · exact ih b
theorem iCompareFacts_calls (w : World) (A0 c0 A1 c1) (f g : Fct) (h0 : Ints w A0 c0 f.2) (h1 : Ints w A1 c1 g.2) : Calls Tryz.prog 48 #[.agg #[.int .i64 f.1, .slice A0 f.2.length c0], .agg #[.int .i64 g.1, .slice A1 g.2.length c1]] w fun e w' => e = .returned (.int .i64 (cmpF f g)) ∧ On w w' := by
  have hb0 := Aside0.mk (On.alloc (On.alloc (On.refl w) (.cells #[.int .i64 f.1, .slice A0 f.2.length c0] 60)) (.cells #[.int .i64 g.1, .slice A1 g.2.length c1] 60))
  go_enter Tryz.func48, Tryz.ntmps48
  go_wp2
  refine Reg.region [(0,.L),(1,.L),(2,.L),(3,.L),(4,.C),(5,.L),(6,.L),(7,.L),(8,.L),(9,.C)] [10,11,12] (by kernel_rfl) (by kernel_rfl) ?_
  repeat first | refine sP ?_ | refine sS ?_ | refine sA ?_ | refine sL ?_ | refine sQ ?_ | refine sO ?_
  refine callC (.int .i64 (cmpI f.1 g.1)) Tryz.func120 (fun w' hS => ?_) ?_
  focus exact cmpCompare_calls w' _ _
  repeat first | refine sP ?_ | refine sS ?_ | refine sA ?_ | refine sL ?_ | refine sQ ?_ | refine sO ?_
  refine callC (.int .i64 (ints f.2 g.2)) Tryz.func121 (fun w' hS => ?_) ?_
  focus exact slicesCompare_calls w' _ _ _ _ f.2 g.2 (h0.on (hb0.out.trans hS)) (h1.on (hb0.out.trans hS))
  repeat first | refine sP ?_ | refine sS ?_ | refine sA ?_ | refine sL ?_ | refine sQ ?_ | refine sO ?_
  refine Reg.tail_ fun w2 hS => ?_
  have hc := cmpI_bd f.1 g.1
  have hi := ints_bd f.2 g.2
  have hr := Aside0.mk ((ints2 w2 (cmpI f.1 g.1) (ints f.2 g.2)).2 (fun x hx => by simp at hx; rcases hx with rfl | rfl <;> omega))
  clear hc hi
  go_wp2_with (go_at_call 119; refine (cmpOr_calls _ _ _ _ hr.out).mono ?_; rintro e w3 ⟨rfl, hb3⟩)
  go_ret
  refine ⟨ret_int ?_, (hb0.out.trans hS).trans ((On.alloc (On.refl _) _).trans hb3)⟩
  rw [cmpF_or]
  simp only [orFrom]
  by_cases h3 : cmpI f.1 g.1 = 0
  · simp only [h3, if_pos, ne_eq, not_true, if_false]
    by_cases h4 : ints f.2 g.2 = 0
    · rw [if_pos h4, h4]
    · rw [if_neg h4]
  · simp [h3]
end Go.Proofs.YtgemaohdlibboaaGreatDoor.H
