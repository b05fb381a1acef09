/- Words of these proofs: reading of relations and facts, worlds that go on, calls inside a region that draws. No condition. -/
import Derived.Test.YtngjhblbpapjeaaWWords
import Derived.Test.YtngjhblbpapjeaaWLast
import Derived.Test.YtngjhblbpapjeaaWApart
import Derived.Test.YtngjhblbpapjeaaWMore
import Derived.Test.YtngjhblbpapjeaaHReg
import Derived.Handy
import Derived.KernelRfl
namespace Go.Proofs.Ytngjhblbpapjeaa.Reg
open Go Go.RowKit Go.Proofs.YtngjhblbpapjeaaW.PrintWords
theorem On.refl (W : World) : On W W := Below.refl _ _
theorem On.trans {a b c : World} (h : On a b) (k : On b c) : On a c := below_then h h.size k
theorem On.eq {W w : World} (h : On W w) : ∀ p, (W.cell? p).isSome = true → w.cell? p = W.cell? p := fun p hp => by
  obtain ⟨v, hv⟩ := Option.isSome_iff_exists.1 hp
  exact h.cell (World.block_lt_of_cell? W p hv)
theorem On.drew {W w : World} (h : On W w) : On W { w with drawn := w.drawn + 1 } := below_drew h
theorem On.alloc {W w : World} (h : On W w) (o : Obj) : On W (w.alloc o) := below_alloc h o
theorem on_draw (W : World) : On W { W with drawn := W.drawn + 1 } := On.drew (On.refl W)
end Go.Proofs.Ytngjhblbpapjeaa.Reg
namespace Go.Proofs.Ytngjhblbpapjeaa.H
open Go Go.RowKit Go.Proofs.YtngjhblbpapjeaaW.PrintWords Go.Proofs.YtngjhblbpapjeaaW.PrintLast
open Go.Proofs.Ytngjhblbpapjeaa.Reg (On on_draw)
set_option linter.unusedVariables false

abbrev Rel := ByteArray × Int × Bool
abbrev Fct := Int × List Int
abbrev kInts : Kd Int := Kd.int .i64
abbrev kRel : Kd Rel := Kd.pair Kd.string (Kd.pair (Kd.int .i64) Kd.bool)
abbrev kFct : Kd Fct := Kd.pair (Kd.int .i64) (Kd.slice 3 (Kd.int .i64))


/-- Numbers of int's range. -/
def InR (xs : List Int) : Prop := ∀ x ∈ xs, -9223372036854775808 ≤ x ∧ x ≤ 9223372036854775807
def InF (fs : List Fct) : Prop := ∀ f ∈ fs, InR f.2
abbrev Ints (w : World) (A : Option Addr) (c : Nat) (xs : List Int) : Prop := xs.length ≤ c ∧ kInts.C w A xs.length xs ∧ InR xs
abbrev Rels (w : World) (A : Option Addr) (c : Nat) (xs : List Rel) : Prop := xs.length ≤ c ∧ kRel.C w A xs.length xs
abbrev Fcts (w : World) (A : Option Addr) (c : Nat) (xs : List Fct) : Prop := xs.length ≤ c ∧ kFct.C w A xs.length xs ∧ InF xs
theorem Ints.on {W w : World} {A : Option Addr} {c : Nat} {xs : List Int} (h : Ints W A c xs) (hb : On W w) : Ints w A c xs := ⟨h.1, Kd.C_below h.2.1 hb, h.2.2⟩
theorem Rels.on {W w : World} {A : Option Addr} {c : Nat} {xs : List Rel} (h : Rels W A c xs) (hb : On W w) : Rels w A c xs := ⟨h.1, Kd.C_below h.2 hb⟩
theorem Fcts.on {W w : World} {A : Option Addr} {c : Nat} {xs : List Fct} (h : Fcts W A c xs) (hb : On W w) : Fcts w A c xs := ⟨h.1, Kd.C_below h.2.1 hb, h.2.2⟩
theorem Ints.max {w : World} {A : Option Addr} {c : Nat} {xs : List Int} (h : Ints w A c xs) : xs.length ≤ 9223372036854775807 := h.2.1.2.1
theorem Rels.max {w : World} {A : Option Addr} {c : Nat} {xs : List Rel} (h : Rels w A c xs) : xs.length ≤ 9223372036854775807 := h.2.2.1
theorem Fcts.max {w : World} {A : Option Addr} {c : Nat} {xs : List Fct} (h : Fcts w A c xs) : xs.length ≤ 9223372036854775807 := h.2.1.2.1
theorem Ints.bd {w : World} {A : Option Addr} {c : Nat} {xs : List Int} (h : Ints w A c xs) (i : Nat) (hi : i < xs.length) : -9223372036854775808 ≤ xs[i] ∧ xs[i] ≤ 9223372036854775807 := h.2.2 _ (List.getElem_mem hi)
theorem Ints.at {w : World} {A : Option Addr} {c : Nat} {xs : List Int} (h : Ints w A c xs) (i : Nat) (hi : i < xs.length) : ∃ ad, A = some ad ∧ w.cell? (ad.add i) = some (.int .i64 xs[i]) := by
  obtain ⟨ad, e, hc⟩ := Kd.at_int h.2.1 (i : Int) (by omega) (by omega)
  refine ⟨ad, e, ?_⟩
  simpa [rd, List.getD_eq_getElem?_getD, hi] using hc
theorem Rels.at {w : World} {A : Option Addr} {c : Nat} {xs : List Rel} (h : Rels w A c xs) (i : Nat) (hi : i < xs.length) : ∃ ad, A = some ad ∧ w.cell? (ad.add (i * 3)) = some (.string xs[i].1) ∧ w.cell? ⟨(ad.add (i * 3)).block, (ad.add (i * 3)).off + 1, none⟩ = some (.int .i64 xs[i].2.1) ∧ w.cell? ⟨(ad.add (i * 3)).block, (ad.add (i * 3)).off + 2, none⟩ = some (.bool xs[i].2.2) := by
  obtain ⟨ad, cs, e, _, hK, hc0⟩ := Kd.C_get h.2 xs[i] (i : Int) (by omega) (by omega)
  have hc : ∀ j u, cs[j]? = some u → w.cell? (ad.add (i * 3 + j)) = some u := hc0
  have e1 : xs.getD (i : Int).toNat xs[i] = xs[i] := by simp [List.getD_eq_getElem?_getD, hi]
  rw [e1] at hK
  obtain ⟨_, _, rfl, rfl, ⟨_, _, rfl, rfl, rfl⟩⟩ := hK
  exact ⟨ad, e, hc 0 _ rfl, by rw [← add_field _ _ 1 (by omega)]; exact hc 1 _ rfl, by rw [← add_field _ _ 2 (by omega)]; exact hc 2 _ rfl⟩
theorem Fcts.at {w : World} {A : Option Addr} {c : Nat} {xs : List Fct} (h : Fcts w A c xs) (i : Nat) (hi : i < xs.length) : ∃ ad A1 c1, A = some ad ∧ w.cell? (ad.add (i * 2)) = some (.int .i64 xs[i].1) ∧ w.cell? ⟨(ad.add (i * 2)).block, (ad.add (i * 2)).off + 1, none⟩ = some (.slice A1 xs[i].2.length c1) ∧ Ints w A1 c1 xs[i].2 := by
  obtain ⟨ad, cs, e, _, hK, hc0⟩ := Kd.C_get h.2.1 xs[i] (i : Int) (by omega) (by omega)
  have hc : ∀ j u, cs[j]? = some u → w.cell? (ad.add (i * 2 + j)) = some u := hc0
  have e1 : xs.getD (i : Int).toNat xs[i] = xs[i] := by simp [List.getD_eq_getElem?_getD, hi]
  rw [e1] at hK
  obtain ⟨_, _, rfl, rfl, ⟨A1, c1, rfl, l1, g1⟩⟩ := hK
  exact ⟨ad, A1, c1, e, hc 0 _ rfl, by rw [← add_field _ _ 1 (by omega)]; exact hc 1 _ rfl, l1, g1, h.2.2 _ (List.getElem_mem hi)⟩
/-- The blocks of the call's own: number, content. -/
def Loc (w : World) : List (Nat × Array Value × TypeId) → Prop
  | [] => True
  | (g, cs, t) :: l => w.heap[g]? = some (.cells cs t (0, 0)) ∧ Loc w l
theorem Loc.on {W w : World} (hb : On W w) : ∀ {l : List (Nat × Array Value × TypeId)}, Loc W l → Loc w l
  | [], _ => trivial
  | _ :: _, h => ⟨blk_below h.1 hb, Loc.on hb h.2⟩
theorem loc_new (w : World) (cs : Array Value) (t : TypeId) : (w.alloc (.cells cs t (0, 0))).heap[w.heap.size]? = some (.cells cs t (0, 0)) := blk_new w _
theorem loc1 (w : World) (cs : Array Value) (t : TypeId) : Loc (w.alloc (.cells cs t (0, 0))) [(w.heap.size, cs, t)] := ⟨blk_new w _, trivial⟩
theorem loc2 (w : World) (cs ds : Array Value) (t u : TypeId) : Loc ((w.alloc (.cells cs t (0, 0))).alloc (.cells ds u (0, 0))) [(w.heap.size, cs, t), (w.heap.size + 1, ds, u)] :=
  ⟨blk_below (blk_new w _) (On.alloc (On.refl _) _), by have := blk_new (w.alloc (.cells cs t (0, 0))) (.cells ds u (0, 0)); simpa using this, trivial⟩
theorem loc3 (w : World) (cs ds es : Array Value) (t u v : TypeId) : Loc (((w.alloc (.cells cs t (0, 0))).alloc (.cells ds u (0, 0))).alloc (.cells es v (0, 0))) [(w.heap.size, cs, t), (w.heap.size + 1, ds, u), (w.heap.size + 2, es, v)] := by
  obtain ⟨h1, h2, _⟩ := Loc.on (On.alloc (On.refl _) (.cells es v (0, 0))) (loc2 w cs ds t u)
  have := blk_new ((w.alloc (.cells cs t (0, 0))).alloc (.cells ds u (0, 0))) (.cells es v (0, 0))
  exact ⟨h1, h2, by simpa using this, trivial⟩
theorem ret_bool {a b : Bool} (h : a = b) : Ending.returned (.bool a) = Ending.returned (.bool b) := by rw [h]
theorem ret_int {k : IntKind} {a b : Int} (h : a = b) : Ending.returned (.int k a) = Ending.returned (.int k b) := by rw [h]
theorem bt0 (s : ByteArray) : ∀ h : 0 < s.size, ((s[0]'h).toNat : Int) = bt s 0 := fun h => bt_at s 0 h
theorem _root_.Go.Proofs.Ytngjhblbpapjeaa.Reg.On.set {W w : World} (h : On W w) {p : Addr} (hp : W.heap.size ≤ p.block) (u : Value) : On W (w.setCell p u) := Below.setCell h hp u
theorem modify_push {α : Type} (xs : Array α) (a : α) (f : α → α) : (xs.push a).modify xs.size f = xs.push (f a) := by
  apply Array.ext_getElem?
  intro i
  rw [Array.getElem?_modify, Array.getElem?_push, Array.getElem?_push]
  by_cases h : i = xs.size
  · subst h; simp
  · rw [if_neg (fun e => h e.symm), if_neg h, if_neg h]
theorem alloc_set (w : World) (cs : Array Value) (t : TypeId) (j : Nat) (v : Value) : (w.alloc (.cells cs t (0, 0))).setCell ⟨w.heap.size, j, none⟩ v = w.alloc (.cells (cs.setIfInBounds j v) t (0, 0)) := by
  show ({ (w.alloc (.cells cs t (0, 0))) with heap := (w.heap.push (.cells cs t (0, 0))).modify w.heap.size _ } : World) = _
  rw [modify_push]
  rfl
/-- A struct that is made and filled. -/
theorem alloc_fill (w : World) (a b c d : Value) (t : TypeId) : ((w.alloc (.cells #[a, b] t (0, 0))).setCell ⟨w.heap.size, 0, none⟩ c).setCell ⟨w.heap.size, 1, none⟩ d = w.alloc (.cells #[c, d] t (0, 0)) := by
  rw [alloc_set, alloc_set]; rfl
theorem alloc_fill3 (w : World) (a b c d e f : Value) (t : TypeId) : (((w.alloc (.cells #[a, b, c] t (0, 0))).setCell ⟨w.heap.size, 0, none⟩ d).setCell ⟨w.heap.size, 1, none⟩ e).setCell ⟨w.heap.size, 2, none⟩ f = w.alloc (.cells #[d, e, f] t (0, 0)) := by
  rw [alloc_set, alloc_set, alloc_set]; rfl
/-! Steps inside a region that draws. -/
section
variable {P : Program} {ops : Array Oper} {Q : Exit → Act → World → Prop} {i : Nat} {tail : List Nat} {l : List (Nat × Reg.K)} {a a' : Act} {W : World} {o : Oper} {N : Tmp}
theorem nAt_call {f : FuncId} {fn : Func} {xs : Array Operand} {ts : Array TypeId} {args : Array Value} {w : World} {R : Value → World → Prop} (hf : P.funcs[f]? = some fn) (hname : (fn.name == "runtime.NumGoroutine") = false) (hb : fn.body.isSome = true)
    (hop : o.op = .call { callee := .value (.func f), args := xs, argTypes := ts }) (hargs : xs.map a.eval = args) (h : Calls P f args w fun e w' => ∃ u, e = .returned u ∧ R u w') : Reg.nAt P o a w R := by
  have he := enters_ hf hname hb args w
  have hrun : (execOp a.eval o).run P w = .ok (.enter f args) w := by
    unfold execOp
    simp [hop, resolve, Deferred.ofValue, invoke, Act.eval, hargs, he]
  unfold Reg.nAt
  rw [hrun]
  exact h
/-- A call that hands back one value. -/
theorem callC {f : FuncId} {fn : Func} {xs : Array Operand} {ts : Array TypeId} {args : Array Value} (v : Value) (hf : P.funcs[f]? = some fn)
    (h : ∀ w, On W w → Calls P f args w fun e w' => e = .returned v ∧ On w w') (rest : Reg.Ord P ops Q tail l a' W) (hi : ops[i]? = some o := by rfl) (hN : o.dst = some N := by rfl)
    (hop : o.op = .call { callee := .value (.func f), args := xs, argTypes := ts } := by rfl) (hargs : xs.map a.eval = args := by (try simp only [List.map_toArray, List.map_cons, List.map_nil]); rfl)
    (hname : (fn.name == "runtime.NumGoroutine") = false := by kernel_rfl) (hb : fn.body.isSome = true := by rfl)
    (hw : Region.wanted o (yielded ops a.tmps) = true := by with_unfolding_all rfl) (ha : a.put (some N) v = a' := by simp only [Act.put, List.setIfInBounds_toArray, List.set_cons_zero, List.set_cons_succ]; rfl) : Reg.Ord P ops Q tail ((i, .C) :: l) a W :=
  Reg.stepC (v := v) (fun w hS => nAt_call hf hname hb hop hargs ((h w hS).mono fun e w' ⟨he, hS'⟩ => ⟨v, he, rfl, hS.trans hS'⟩)) (ha ▸ rest) hi hN hw
/-- A call of which more is told: what follows stands behind it. -/
theorem callN {f : FuncId} {fn : Func} {xs : Array Operand} {ts : Array TypeId} {args : Array Value} (hf : P.funcs[f]? = some fn)
    (h : ∀ w, On W w → Calls P f args w fun e w' => ∃ v, e = .returned v ∧ On w w' ∧ ∀ a', a' = a.put (some N) v → Reg.Ord P ops Q tail l a' w') (hi : ops[i]? = some o := by rfl) (hN : o.dst = some N := by rfl)
    (hop : o.op = .call { callee := .value (.func f), args := xs, argTypes := ts } := by rfl) (hargs : xs.map a.eval = args := by (try simp only [List.map_toArray, List.map_cons, List.map_nil]); rfl)
    (hname : (fn.name == "runtime.NumGoroutine") = false := by kernel_rfl) (hb : fn.body.isSome = true := by rfl)
    (hw : Region.wanted o (yielded ops a.tmps) = true := by rfl) : Reg.Ord P ops Q tail ((i, .N) :: l) a W := by
  refine Reg.stepN (fun w hS => ?_) hi hw
  unfold wpList
  rw [if_pos hw]
  refine .inl (Reg.wp_of_nAt (nAt_call hf hname hb hop hargs ((h w hS).mono fun e w' ⟨v, he, hon, hk⟩ => ⟨v, he, ?_⟩)))
  rw [hN]
  exact ⟨hS.trans hon, hk _ rfl⟩
/-- A read, a sum, an address. -/
theorem sL {v : Value} (h : Reg.Ord P ops Q tail l a' W) (hi : ops[i]? = some o := by rfl) (hN : o.dst = some N := by rfl) (hw : Region.wanted o (yielded ops a.tmps) = true := by rfl)
    (hy : ∀ w, On W w → (execOp a.eval o).run P w = .ok (.value v) w := by intro w' hS; have hA := Reg.On.eq hS; clear hS; (go_simp; first | done | rfl))
    (ha : a.put (some N) v = a' := by simp only [Act.put, List.setIfInBounds_toArray, List.set_cons_zero, List.set_cons_succ]; rfl) : Reg.Ord P ops Q tail ((i, .L) :: l) a W := Reg.stepL hy (ha ▸ h) hi hN hw
/-- What asks the world nothing. -/
theorem sQ {v : Value} (h : Reg.Ord P ops Q tail l a' W) (hi : ops[i]? = some o := by rfl) (hN : o.dst = some N := by rfl) (hw : Region.wanted o (yielded ops a.tmps) = true := by rfl)
    (hy : ∀ w, (execOp a.eval o).run P w = .ok (.value v) w := by intro w'; (go_simp; first | done | rfl))
    (ha : a.put (some N) v = a' := by simp only [Act.put, List.setIfInBounds_toArray, List.set_cons_zero, List.set_cons_succ]; rfl) : Reg.Ord P ops Q tail ((i, .P) :: l) a W := Reg.stepP hy (ha ▸ h) hi hN hw
/-- Sums and differences whose bounds are known. -/
theorem sS {x y : Operand} {m n : Int} {t t2 : TypeId} (h : Reg.Ord P ops Q tail l a' W) (hi : ops[i]? = some o := by rfl) (hN : o.dst = some N := by rfl) (hop : o.op = .binOp .sub t x y t2 := by rfl) (hw : Region.wanted o (yielded ops a.tmps) = true := by rfl)
    (hx : a.eval x = .int .i64 m := by rfl) (hy : a.eval y = .int .i64 n := by rfl) {r : Int} (hb : IntKind.i64.wrap (m - n) = r := by first | (with_reducible assumption) | exact IntWalk.i64_in _ (by omega))
    (ha : a.put (some N) (.int .i64 r) = a' := by simp only [Act.put, List.setIfInBounds_toArray, List.set_cons_zero, List.set_cons_succ]; rfl) : Reg.Ord P ops Q tail ((i, .L) :: l) a W :=
  Reg.stepL (fun w _ => by
    subst hb
    unfold execOp
    simp only [hop, hx, hy]
    rfl) (ha ▸ h) hi hN hw
theorem sA {x y : Operand} {m n : Int} {t t2 : TypeId} (h : Reg.Ord P ops Q tail l a' W) (hi : ops[i]? = some o := by rfl) (hN : o.dst = some N := by rfl) (hop : o.op = .binOp .add t x y t2 := by rfl) (hw : Region.wanted o (yielded ops a.tmps) = true := by rfl)
    (hx : a.eval x = .int .i64 m := by rfl) (hy : a.eval y = .int .i64 n := by rfl) {r : Int} (hb : IntKind.i64.wrap (m + n) = r := by first | (with_reducible assumption) | exact IntWalk.i64_in _ (by omega))
    (ha : a.put (some N) (.int .i64 r) = a' := by simp only [Act.put, List.setIfInBounds_toArray, List.set_cons_zero, List.set_cons_succ]; rfl) : Reg.Ord P ops Q tail ((i, .L) :: l) a W :=
  Reg.stepL (fun w _ => by
    subst hb
    unfold execOp
    simp only [hop, hx, hy]
    rfl) (ha ▸ h) hi hN hw
/-- A choice, decided. -/
theorem sP {v : Value} {c x y : Operand} {b : Bool} (h : Reg.Ord P ops Q tail l a' W) (hi : ops[i]? = some o := by rfl) (hN : o.dst = some N := by rfl) (hop : o.op = .pick c x y := by rfl) (hw : Region.wanted o (yielded ops a.tmps) = true := by rfl)
    (hc : a.eval c = .bool b := by rfl) (hv : (if b then a.eval x else a.eval y) = v := by (go_simp; first | done | rfl))
    (ha : a.put (some N) v = a' := by simp only [Act.put, List.setIfInBounds_toArray, List.set_cons_zero, List.set_cons_succ]; rfl) : Reg.Ord P ops Q tail ((i, .L) :: l) a W :=
  Reg.stepL (fun w _ => by unfold execOp; simp only [hop, hc]; subst hv; cases b <;> rfl) (ha ▸ h) hi hN hw
/-- An operation whose guard is off. -/
theorem sO {k : Reg.K} (h : Reg.Ord P ops Q tail l a' W) (hi : ops[i]? = some o := by rfl) (hN : o.dst = some N := by rfl) (hw : Region.wanted o (yielded ops a.tmps) = false := by with_unfolding_all rfl)
    (ha : a.put (some N) undef = a' := by simp only [Act.put, List.setIfInBounds_toArray, List.set_cons_zero, List.set_cons_succ]; rfl) : Reg.Ord P ops Q tail ((i, k) :: l) a W := Reg.skip (ha ▸ h) hi hN hw
end
end Go.Proofs.Ytngjhblbpapjeaa.H
