/- Headers stored, cut, cleared. No condition. -/
import Derived.Test.YtngjhblbpapjeaaHO2
namespace Go.Proofs.Ytngjhblbpapjeaa.H
open Go Go.RowKit Go.Proofs.YtngjhblbpapjeaaW.PrintWords Go.Proofs.YtngjhblbpapjeaaW.PrintLast
open Go.Proofs.Ytngjhblbpapjeaa.Reg (On on_draw)
set_option maxHeartbeats 1000000
set_option maxRecDepth 100000
set_option linter.unusedVariables false
set_option linter.unusedSimpArgs false

theorem own_sets {base g n cap sz : Nat} {e : TypeId} : ∀ (ys : List Value) (i : Nat) (xs : List Value) (W : World), W.ownsRow base e sz (.slice (some ⟨g, 0, none⟩) n cap) n xs → i + ys.length ≤ n * sz →
    (W.setCells g i ys).ownsRow base e sz (.slice (some ⟨g, 0, none⟩) n cap) n (xs.take i ++ ys ++ xs.drop (i + ys.length)) ∧ W.grownBy (W.setCells g i ys) (some g)
  | [], i, xs, W, h, _ => ⟨by simpa [World.setCells] using h, World.grownBy.refl W _⟩
  | y :: ys, i, xs, W, h, hl => by
    have hx : xs.length = n * sz := h.1
    simp only [List.length_cons] at hl
    obtain ⟨h1, g1⟩ := h.stored i y
    obtain ⟨h2, g2⟩ := own_sets ys (i + 1) _ _ h1 (by omega)
    refine ⟨?_, World.grownBy.trans g1 g2⟩
    have e : (xs.set i y).take (i + 1) ++ ys ++ (xs.set i y).drop (i + 1 + ys.length) = xs.take i ++ (y :: ys) ++ xs.drop (i + (y :: ys).length) := by
      rw [List.take_succ_eq_append_getElem (by simp; omega), List.take_set_of_le (Nat.le_refl _), List.getElem_set_self, List.drop_set_of_lt (by omega)]
      rw [show i + 1 + ys.length = i + (y :: ys).length by simp; omega]
      simp
    rw [e] at h2
    exact h2
theorem own_cut {base g cap n sz : Nat} {e : TypeId} {w : World} {xs : List Value} (h : w.ownsRow base e sz (.slice (some ⟨g, 0, none⟩) n cap) n xs) (m : Nat) (hm : m ≤ n) : w.ownsRow base e sz (.slice (some ⟨g, 0, none⟩) m cap) m (xs.take (m * sz)) := by
  have hx : xs.length = n * sz := h.1
  have hms : m * sz ≤ n * sz := Nat.mul_le_mul_right _ hm
  rcases h.2 with ⟨h', _⟩ | ⟨g', cap', cur, h', hg, hh, hnc, hcm, hcs, htk⟩
  · cases h'
  · injection h' with h1 h2 h3
    injection h1 with h1
    injection h1 with h1
    subst h1 h3
    refine ⟨by rw [List.length_take]; omega, .inr ⟨g, cap, cur, rfl, hg, hh, by omega, hcm, hcs, ?_⟩⟩
    rw [← htk, List.take_take]
    congr 1
    omega
theorem OH.store {w : World} {lo g n c : Nat} {L : List Hdr} (h : OH w lo (.slice (some ⟨g, 0, none⟩) n c) L) (i : Nat) (hi : i < L.length) (a : Hdr) : OH ((w.setCell ⟨g, i * 2, none⟩ (.int .i64 a.1)).setCell ⟨g, i * 2 + 1, none⟩ (hdV a)) lo (.slice (some ⟨g, 0, none⟩) n c) (L.set i a) := by
  have hn := (OH.rh h).1
  subst hn
  have h2 := ((h.stored (i * 2) (.int .i64 a.1)).1.stored (i * 2 + 1) (hdV a)).1
  have e : L = L.take i ++ L[i] :: L.drop (i + 1) := by rw [← List.drop_eq_getElem_cons hi, List.take_append_drop]
  have hl : (L.take i).length = i := by rw [List.length_take]; omega
  have e2 : L.flatMap encH = (L.take i).flatMap encH ++ .int .i64 L[i].1 :: hdV L[i] :: (L.drop (i + 1)).flatMap encH := by
    conv => lhs; rw [e]
    rw [List.flatMap_append, List.flatMap_cons]; rfl
  have e3 : L.set i a = L.take i ++ a :: L.drop (i + 1) := by
    conv => lhs; rw [e]
    exact set_mid _ _ _ _ _ hl
  rw [e2, set2 (i * 2) (by rw [flat_len (enc := encH) (sz := 2) (fun _ => rfl), hl])] at h2
  show World.ownsRow _ _ _ _ _ (L.set i a).length _
  rw [List.length_set, e3, List.flatMap_append, List.flatMap_cons]
  exact h2
theorem OH.at {w : World} {lo g n c : Nat} {L : List Hdr} (h : OH w lo (.slice (some ⟨g, 0, none⟩) n c) L) (i : Nat) (hi : i < L.length) : w.cell? ⟨g, i * 2, none⟩ = some (.int .i64 L[i].1) ∧ w.cell? ⟨g, i * 2 + 1, none⟩ = some (hdV L[i]) := by
  have hn := (OH.rh h).1
  subst hn
  have h0 := h.cellAt (i * 2) (by omega)
  have h1 := h.cellAt (i * 2 + 1) (by omega)
  have e0 := flat_get (enc := encH) (sz := 2) (fun _ => rfl) L i 0 hi (by omega)
  have e1 := flat_get (enc := encH) (sz := 2) (fun _ => rfl) L i 1 hi (by omega)
  rw [Nat.add_zero] at e0
  rw [e0] at h0
  rw [e1] at h1
  exact ⟨h0, h1⟩
/-- clear of what is left of a row of facts. -/
theorem run_clearF {w : World} {lo g n c : Nat} {L : List Hdr} (h : OH w lo (.slice (some ⟨g, 0, none⟩) n c) L) (i : Nat) (hi : i < n) (cc : Nat) (ty : TypeId) :
    (Builtin.clear_ #[30] ty #[.slice (some ⟨g, i * 2, none⟩) (n - i) cc]).run Try.prog w = .ok (.tuple #[]) (w.setCells g (i * 2) (Builtin.zeroCells #[.int .i64 0, .slice none 0 0] (n - i)).toList) := by
  have hn := (OH.rh h).1
  subst hn
  obtain ⟨i0, hi0, hz0, _, _⟩ := info_parts infoF
  have hv : (zeroValue 55).run Try.prog w = .ok (.agg #[.int .i64 0, .slice none 0 0]) w := by
    unfold zeroValue typeInfo
    simp [hi0, hz0]
  have hlen : (Builtin.zeroCells #[.int .i64 0, .slice none 0 0] (L.length - i)).toList.length = (L.length - i) * 2 := by
    rw [Array.length_toList, size_zeroCells]; rfl
  have hst := run_storeCells_cells (P := Try.prog) g (i * 2) (Builtin.zeroCells #[.int .i64 0, .slice none 0 0] (L.length - i)).toList 0 w
    (fun j hj => by
      have := own_some h (i * 2 + 0 + j) (by omega)
      obtain ⟨z, hz⟩ := this
      rw [hz]; rfl)
    (fun j hj => own_frozen h _)
    (fun v hv => by
      simp only [Builtin.zeroCells, Array.toList_map, List.mem_map] at hv
      obtain ⟨k, _, rfl⟩ := hv
      have : k % 2 = 0 ∨ k % 2 = 1 := by omega
      rcases this with e | e <;> simp [e] <;> rfl)
  simp only [Nat.add_zero] at hst
  obtain ⟨m, hm⟩ : ∃ m, L.length - i = m + 1 := ⟨L.length - i - 1, by omega⟩
  rw [hm] at hst ⊢
  simp [Builtin.clear_, run_underlying Try.underlying30, hv, Value.cells, hst]
section
variable {ops : Array Oper} {rest : List Oper} {o : Oper} {a : Act} {Q : Exit → Act → World → Prop} {W : World}
theorem slFF (N : Tmp) {x y : Operand} {A A' : Option Addr} {n c k m c' : Nat} (hA : (if c = k then A else A.map (·.add (k * 2))) = A') (hm : n - k = m) (hc' : c - k = c') (hk : k ≤ n) (hc : n ≤ c)
    (h : wpList Try.prog ops Q rest (a.put (some N) (.slice A' m c')) W)
    (hop : o.op = .slice 30 x (some y) none none := by rfl) (hd : o.dst = some N := by rfl) (hg : o.guard = none := by rfl) (hx : a.eval x = .slice A n c := by rfl) (hy : a.eval y = .int .i64 (k : Int) := by rfl) : wpList Try.prog ops Q (o :: rest) a W := by
  subst hA hm hc'
  obtain ⟨i0, hi0, _, hsz, _⟩ := info_parts infoF
  have hcut := cut_from (P := Try.prog) 30 55 .i64 Try.underlying30 hi0 2 hsz A n c (k : Int) (by omega) (by omega)
  refine wpList_plain hg fun K hK => ?_
  have hrun : (execOp a.eval o).run Try.prog W = .ok (.value (.slice (if c = k then A else A.map (·.add (k * 2))) (n - k) (c - k))) W := by
    unfold execOp
    simp only [hop, hx, hy, Option.map_some, Option.map_none]
    have := hcut W
    simp only [Int.toNat_natCast] at this
    go_simp
  unfold Oper.wp
  rw [hrun]
  refine hK _ _ ?_
  rw [hd]
  exact h
theorem slTF (N : Tmp) {x y : Operand} {A : Option Addr} {n c k : Nat} (hk : k ≤ n) (hc : n ≤ c)
    (h : wpList Try.prog ops Q rest (a.put (some N) (.slice A k c)) W)
    (hop : o.op = .slice 30 x none (some y) none := by rfl) (hd : o.dst = some N := by rfl) (hg : o.guard = none := by rfl) (hx : a.eval x = .slice A n c := by rfl) (hy : a.eval y = .int .i64 (k : Int) := by rfl) : wpList Try.prog ops Q (o :: rest) a W := by
  obtain ⟨i0, hi0, _, hsz, _⟩ := info_parts infoF
  have hcut := cut_to (P := Try.prog) 30 55 .i64 Try.underlying30 hi0 A n c (k : Int) (by omega) (by omega) hc
  refine wpList_plain hg fun K hK => ?_
  have hrun : (execOp a.eval o).run Try.prog W = .ok (.value (.slice A k c)) W := by
    unfold execOp
    simp only [hop, hx, hy, Option.map_some, Option.map_none]
    have := hcut W
    simp only [Int.toNat_natCast] at this
    go_simp
  unfold Oper.wp
  rw [hrun]
  refine hK _ _ ?_
  rw [hd]
  exact h
end
end Go.Proofs.Ytngjhblbpapjeaa.H
