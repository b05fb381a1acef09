/- Steps of these walks at this program: rows that are appended to, made, cut. No condition. -/
import Derived.Test.YtngjhblbpapjeaaHB1
namespace Go.Proofs.Ytngjhblbpapjeaa.H
open Go Go.RowKit Go.Proofs.YtngjhblbpapjeaaW.PrintWords Go.Proofs.YtngjhblbpapjeaaW.PrintLast
open Go.Proofs.Ytngjhblbpapjeaa.Reg (On on_draw)
set_option linter.unusedVariables false
theorem infoI : (Try.prog.info? 3).map (fun i => (i.zero, i.size, i.bytes)) = some (some (.int .i64 0), 1, 8) := by kernel_rfl
theorem infoF : (Try.prog.info? 55).map (fun i => (i.zero, i.size, i.bytes)) = some (some (.agg #[.int .i64 0, .slice none 0 0]), 2, 32) := by kernel_rfl
theorem infoR : (Try.prog.info? 87).map (fun i => (i.zero, i.size, i.bytes)) = some (some (.agg #[.string ⟨#[]⟩, .int .i64 0, .bool false]), 3, 32) := by kernel_rfl
/-- A call hands back a value of which P holds. -/
structure Got (P : Value → World → Prop) (e : Ending) (w : World) : Prop where mk :: (out : ∃ v, e = .returned v ∧ P v w)
/-- The walk stands still here. -/
structure Stop (p : Prop) : Prop where mk :: (out : p)
/-- Rows of the call's own: from block lo on. -/
abbrev OInts (w : World) (lo : Nat) (v : Value) (xs : List Int) : Prop := kInts.R 3 w lo (fun _ => True) v xs
abbrev ORels (w : World) (lo : Nat) (v : Value) (xs : List Rel) : Prop := kRel.R 87 w lo (fun _ => True) v xs
abbrev OFcts (w : World) (lo : Nat) (v : Value) (xs : List Fct) : Prop := kFct.S 55 w lo (fun _ => True) v xs
theorem OInts.on {W w : World} {lo : Nat} {v : Value} {xs : List Int} (h : OInts W lo v xs) (hb : On W w) : OInts w lo v xs := Kd.R_below h hb
theorem OInts.slice {w : World} {lo : Nat} {v : Value} {xs : List Int} (h : OInts w lo v xs) (hr : InR xs) : ∃ A c, v = .slice A xs.length c ∧ Ints w A c xs := by
  obtain ⟨A, c, e, h1, h2⟩ := Kd.R_reads h
  exact ⟨A, c, e, h1, h2, hr⟩
section
variable {ops : Array Oper} {rest : List Oper} {o : Oper} {a : Act} {Q : Exit → Act → World → Prop} {W : World}
theorem gate (N : Tmp) (h : Stop (wpList Try.prog ops Q (o :: rest) a W)) (hd : o.dst = some N := by rfl) : wpList Try.prog ops Q (o :: rest) a W := h.out
/-- append of a row that is read onto a row of one's own. -/
theorem apI (N : Tmp) {s x : Operand} {v : Value} {A : Option Addr} {m c base : Nat} {xs ys zs : List Int} (hz : xs ++ ys = zs)
    (HO : OInts W base v xs) (HR : kInts.C W A m ys) (hbase : base ≤ W.heap.size) (hl : xs.length + m ≤ 10000000000)
    (h : ∀ v1 w1, OInts w1 base v1 zs → W.grownBy w1 v.ownBlock → (v1.ownBlock = v.ownBlock ∨ ∃ b, v1.ownBlock = some b ∧ W.heap.size ≤ b) → wpList Try.prog ops Q rest (a.put (some N) v1) w1)
    (hop : o.op = .call { callee := .builtin .append, args := #[s, x], argTypes := #[27, 27] } := by rfl)
    (hd : o.dst = some N := by rfl) (hg : o.guard = none := by rfl) (hs : a.eval s = v := by rfl) (hx : a.eval x = .slice A m c := by rfl) : wpList Try.prog ops Q (o :: rest) a W := by
  subst hz
  refine Kd.R_append_row (Value.int .i64) (0 : Int) (h1 := fun _ => rfl) (w0 := W) base hg s x 27 3 (.int .i64 0) 8 hop Try.underlying27 infoI rfl (by omega) v xs ys A m c (fun _ => True) hs hx (fun _ _ => trivial) HO HR (Below.refl _ _) hbase (by omega) ?_
  intro v1 w1 h1 _ h3 h4
  rw [hd]
  exact h v1 w1 h1 h3 h4
/-- Cuts of a row that is read. -/
theorem slF (N : Tmp) {x y : Operand} {A : Option Addr} {c k : Nat} {xs : List Int} (HI : Ints W A c xs) (hk : k ≤ xs.length)
    (h : ∀ A' c', Ints W A' c' (xs.drop k) → wpList Try.prog ops Q rest (a.put (some N) (.slice A' (xs.drop k).length c')) W)
    (hop : o.op = .slice 27 x (some y) none none := by rfl) (hd : o.dst = some N := by rfl) (hg : o.guard = none := by rfl) (hx : a.eval x = .slice A xs.length c := by rfl) (hy : a.eval y = .int .i64 (k : Int) := by rfl) : wpList Try.prog ops Q (o :: rest) a W := by
  obtain ⟨i0, hi0, _, hsz, _⟩ := info_parts infoI
  have hcut := cut_from (P := Try.prog) 27 3 .i64 Try.underlying27 hi0 1 hsz A xs.length c (k : Int) (by omega) (by omega)
  have hr := Kd.C_drop (m := k) (c := c) HI.2.1 hk HI.1
  refine wpList_plain hg fun K hK => ?_
  have hrun : (execOp a.eval o).run Try.prog W = .ok (.value (.slice (if c = k then A else A.map (·.add (k * 1))) (xs.length - k) (c - k))) W := by
    unfold execOp
    simp only [hop, hx, hy, Option.map_some, Option.map_none]
    have := hcut W
    simp only [Int.toNat_natCast] at this
    go_simp
  unfold Oper.wp
  rw [hrun]
  refine hK _ _ ?_
  have h1 := h (if c = k then A else A.map (·.add (k * 1))) (c - k) ⟨by rw [List.length_drop]; have := HI.1; omega, hr, fun z hz => HI.2.2 z (List.mem_of_mem_drop hz)⟩
  rw [List.length_drop] at h1
  rw [hd]
  exact h1
theorem slT (N : Tmp) {x y : Operand} {A : Option Addr} {c k : Nat} {xs : List Int} (HI : Ints W A c xs) (hk : k ≤ xs.length)
    (h : Ints W A c (xs.take k) → wpList Try.prog ops Q rest (a.put (some N) (.slice A (xs.take k).length c)) W)
    (hop : o.op = .slice 27 x none (some y) none := by rfl) (hd : o.dst = some N := by rfl) (hg : o.guard = none := by rfl) (hx : a.eval x = .slice A xs.length c := by rfl) (hy : a.eval y = .int .i64 (k : Int) := by rfl) : wpList Try.prog ops Q (o :: rest) a W := by
  obtain ⟨i0, hi0, _, hsz, _⟩ := info_parts infoI
  have hcut := cut_to (P := Try.prog) 27 3 .i64 Try.underlying27 hi0 A xs.length c (k : Int) (by omega) (by omega) HI.1
  have hr := Kd.C_take (m := k) HI.2.1 hk
  refine wpList_plain hg fun K hK => ?_
  have hrun : (execOp a.eval o).run Try.prog W = .ok (.value (.slice A k c)) W := by
    unfold execOp
    simp only [hop, hx, hy, Option.map_some, Option.map_none]
    have := hcut W
    simp only [Int.toNat_natCast] at this
    go_simp
  unfold Oper.wp
  rw [hrun]
  refine hK _ _ ?_
  have hl : (xs.take k).length = k := by rw [List.length_take]; omega
  have h1 := h ⟨by rw [hl]; have := HI.1; omega, hr, fun z hz => HI.2.2 z (List.mem_of_mem_take hz)⟩
  rw [hl] at h1
  rw [hd]
  exact h1
end
/-- Literals. -/
theorem own0 (W : World) : OInts (W.alloc (.cells #[] 3)) W.heap.size (.slice (some ⟨W.heap.size, 0, none⟩) 0 0) [] := by
  have h := World.ownsRow_lit (base := W.heap.size) (e := 3) (size := 1) W #[] 0 (Nat.le_refl _) (by simp [maxLen]) (by simp)
  exact ⟨fun _ _ => trivial, [], h, Reps.none _ _⟩
theorem own1 (W : World) (x : Int) : OInts (W.alloc (.cells #[.int .i64 x] 3)) W.heap.size (.slice (some ⟨W.heap.size, 0, none⟩) 1 1) [x] := by
  have h := World.ownsRow_lit (base := W.heap.size) (e := 3) (size := 1) W #[.int .i64 x] 1 (Nat.le_refl _) (by simp [maxLen]) (by simp)
  exact ⟨fun _ _ => trivial, [.int .i64 x], h, ⟨rfl, fun j p hj => by
    cases j with
    | zero => simp at hj; subst hj; rfl
    | succ j => simp at hj⟩⟩
theorem on_grown {w W w1 : World} {row : Option Nat} (h : On w W) (hg : W.grownBy w1 row) (hr : ∀ k, row = some k → w.heap.size ≤ k) : On w w1 := h.grown hg h.size hr
theorem own0' {W : World} {g lo : Nat} (hg : g = W.heap.size) (hlo : lo ≤ W.heap.size) : OInts (W.alloc (.cells #[] 3)) lo (.slice (some ⟨g, 0, none⟩) 0 0) [] := by
  subst hg; exact Kd.R_lower (own0 W) hlo
theorem own1' {W : World} {g lo : Nat} (x : Int) (hg : g = W.heap.size) (hlo : lo ≤ W.heap.size) : OInts (W.alloc (.cells #[.int .i64 x] 3)) lo (.slice (some ⟨g, 0, none⟩) 1 1) [x] := by
  subst hg; exact Kd.R_lower (own1 W x) hlo
theorem grown_own {α : Type} {d : Kd α} {e : Nat} {w W w1 : World} {lo : Nat} {ok : Nat → Prop} {v : Value} {xs : List α} (h : On w W) (hO : d.R e W lo ok v xs) (hg : W.grownBy w1 v.ownBlock) (hlo : w.heap.size ≤ lo) : On w w1 :=
  on_grown h hg fun k hk => Nat.le_trans hlo (Kd.R_base hO k hk)
end Go.Proofs.Ytngjhblbpapjeaa.H
