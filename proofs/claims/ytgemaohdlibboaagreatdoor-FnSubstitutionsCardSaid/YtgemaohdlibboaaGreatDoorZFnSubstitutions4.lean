/- Walks and plain laws for the law FnSubstitutions, part 4 of 7: the texts HC6, HJ3, HJ0, HJ1, HJ2, HJ5, HJ6, HJ7, HG14, HD8, HS4, HS6, HL10, HF1, HF2 in one. No condition. -/
import Derived.Lib.QuietBelow
import Derived.Sort.Grow
import Derived.Shelf.SlSortCmp.WholeK
import Derived.Lib.RowBridge
import Derived.Shelf.SlSortCmp.NoneTotal
import Derived.Lib.SplitLaws
import Derived.Lib.Join
import Derived.Lib.ItoaNum
import Derived.Lib.Strings
import Derived.Test.YtgemaohdlibboaaGreatDoorShelf
import Derived.Test.YtgemaohdlibboaaGreatDoorZFnSubstitutions3
/- Walks: the program takes facts out of an instance. No condition. -/
namespace Go.Proofs.YtgemaohdlibboaaGreatDoor.H
open Go Go.RowKit Go.Proofs.YtgemaohdlibboaaGreatDoorW.PrintWords Go.Proofs.YtgemaohdlibboaaGreatDoorW.PrintLast
open Go.Proofs.YtgemaohdlibboaaGreatDoor.Reg (On on_draw)
set_option maxHeartbeats 4000000
set_option maxRecDepth 100000
set_option linter.unusedVariables false
set_option linter.unusedSimpArgs false

/-- The headers that are kept of the first j. -/
def kept (p : Fct → Bool) (hs : List Hdr) (fs : List Fct) (j : Nat) : List Hdr := (((hs.zip fs).take j).filter fun q => !p q.2).map Prod.fst
theorem kept_succ (p : Fct → Bool) (hs : List Hdr) (fs : List Fct) (j : Nat) (hl : hs.length = fs.length) (h : j < fs.length) : kept p hs fs (j + 1) = kept p hs fs j ++ (if p fs[j] then [] else [hs[j]'(by omega)]) := by
  unfold kept
  rw [List.take_succ_eq_append_getElem (by rw [List.length_zip]; omega), List.filter_append, List.map_append, List.getElem_zip, List.filter_cons]
  cases p fs[j] <;> simp
theorem kept_front (p : Fct → Bool) (hs : List Hdr) (fs : List Fct) (hl : hs.length = fs.length) : ∀ j, j ≤ fs.length → (∀ i, (h : i < j) → (hi : i < fs.length) → p fs[i] = false) → kept p hs fs j = hs.take j
  | 0, _, _ => by simp [kept]
  | j + 1, hj, h => by
    rw [kept_succ p hs fs j hl (by omega), kept_front p hs fs hl j (by omega) (fun i hi hf => h i (by omega) hf), h j (by omega) (by omega), List.take_succ_eq_append_getElem (by omega)]
    rfl
/-- How the row stands when j facts are looked at, of which i are kept. -/
structure KI (p : Fct → Bool) (hs : List Hdr) (fs : List Fct) (j i : Nat) (L : List Hdr) : Prop where
  len : L.length = fs.length
  lt : i < j
  is : i = (kept p hs fs j).length
  row : ∃ M, L = kept p hs fs j ++ M ++ hs.drop j
theorem KI.start (p : Fct → Bool) (hs : List Hdr) (fs : List Fct) (hl : hs.length = fs.length) (k : Nat) (hk : k < fs.length) (ht : p fs[k] = true) (hall : ∀ j, (hj : j < k) → p (fs[j]'(by omega)) = false) : KI p hs fs (k + 1) k hs := by
  have e : kept p hs fs (k + 1) = hs.take k := by
    rw [kept_succ p hs fs k hl hk, ht, if_pos rfl, List.append_nil, kept_front p hs fs hl k (by omega) (fun i hi _ => hall i hi)]
  refine ⟨hl, Nat.lt_succ_self _, by rw [e, List.length_take]; omega, ⟨[hs[k]], ?_⟩⟩
  rw [e, ← List.take_succ_eq_append_getElem (by omega), List.take_append_drop]
theorem KI.mid {p : Fct → Bool} {hs : List Hdr} {fs : List Fct} {j i : Nat} {L : List Hdr} (h : KI p hs fs j i L) (hl : hs.length = fs.length) (hj : j < fs.length) : ∃ m M, L = kept p hs fs j ++ (m :: M) ++ hs.drop j ∧ i + (M.length + 1) = j := by
  obtain ⟨M, e⟩ := h.row
  have h1 := congrArg List.length e
  rw [h.len, List.length_append, List.length_append, List.length_drop, ← h.is] at h1
  cases M with
  | nil => have := h.lt; simp at h1; omega
  | cons m M => exact ⟨m, M, e, by simp at h1; omega⟩
theorem KI.skip {p : Fct → Bool} {hs : List Hdr} {fs : List Fct} {j i : Nat} {L : List Hdr} (h : KI p hs fs j i L) (hl : hs.length = fs.length) (hj : j < fs.length) (hp : p fs[j] = true) : KI p hs fs (j + 1) i L := by
  obtain ⟨M, e⟩ := h.row
  have ek : kept p hs fs (j + 1) = kept p hs fs j := by rw [kept_succ p hs fs j hl hj, hp, if_pos rfl, List.append_nil]
  refine ⟨h.len, Nat.lt_succ_of_lt h.lt, by rw [ek]; exact h.is, ⟨M ++ [hs[j]'(by omega)], ?_⟩⟩
  rw [ek, e, List.drop_eq_getElem_cons (by omega : j < hs.length)]
  simp
theorem KI.keep {p : Fct → Bool} {hs : List Hdr} {fs : List Fct} {j i : Nat} {L : List Hdr} (h : KI p hs fs j i L) (hl : hs.length = fs.length) (hj : j < fs.length) (hp : p fs[j] = false) : KI p hs fs (j + 1) (i + 1) (L.set i (hs[j]'(by omega))) := by
  obtain ⟨m, M, e, hM⟩ := h.mid hl hj
  have ek : kept p hs fs (j + 1) = kept p hs fs j ++ [hs[j]'(by omega)] := by rw [kept_succ p hs fs j hl hj, hp, if_neg (by simp)]
  refine ⟨by rw [List.length_set]; exact h.len, Nat.succ_lt_succ h.lt, by rw [ek, List.length_append, ← h.is]; rfl, ⟨M ++ [hs[j]'(by omega)], ?_⟩⟩
  rw [ek, e, List.append_assoc, List.cons_append, set_mid _ _ _ _ _ h.is.symm, List.drop_eq_getElem_cons (by omega : j < hs.length)]
  simp
theorem KI.done {p : Fct → Bool} {hs : List Hdr} {fs : List Fct} {i : Nat} {L : List Hdr} (h : KI p hs fs fs.length i L) : L.take i = kept p hs fs fs.length := by
  obtain ⟨M, e⟩ := h.row
  rw [e, List.append_assoc, h.is, List.take_left]
end Go.Proofs.YtgemaohdlibboaaGreatDoor.H
/- Walks: the library's CompactFunc at facts. No condition. -/
namespace Go.Proofs.YtgemaohdlibboaaGreatDoor.H
open Go Go.RowKit Go.Proofs.YtgemaohdlibboaaGreatDoorW.PrintWords Go.Proofs.YtgemaohdlibboaaGreatDoorW.PrintLast
open Go.Proofs.YtgemaohdlibboaaGreatDoor.Reg (On on_draw)
set_option maxHeartbeats 4000000
set_option maxRecDepth 100000
set_option linter.unusedVariables false
set_option linter.unusedSimpArgs false

section
variable {P : Program} {ops : Array Oper} {Q : Exit → Act → World → Prop} {i : Nat} {tail : List Nat} {l : List (Nat × Reg.K)} {a a' : Act} {W : World} {o : Oper} {N : Tmp}
/-- A call of a function value, in a region that draws. -/
theorem callV {f : FuncId} {fn : Func} {x : Operand} {xs : Array Operand} {ts : Array TypeId} {caps args : Array Value} (v : Value) (hf : P.funcs[f]? = some fn)
    (h : ∀ w, On W w → Calls P f args w fun e w' => e = .returned v ∧ On w w') (rest : Reg.Ord P ops Q tail l a' W) (hi : ops[i]? = some o := by rfl) (hN : o.dst = some N := by rfl)
    (hop : o.op = .call { callee := .value x, args := xs, argTypes := ts } := by rfl) (hx : a.eval x = .func (.func f) #[] caps := by rfl) (hargs : xs.map a.eval ++ caps = args := by (try simp only [List.map_toArray, List.map_cons, List.map_nil]); rfl)
    (hname : (fn.name == "runtime.NumGoroutine") = false := by kernel_rfl) (hb : fn.body.isSome = true := by rfl)
    (hw : Region.wanted o (yielded ops a.tmps) = true := by with_unfolding_all rfl) (ha : a.put (some N) v = a' := by simp only [Act.put, List.setIfInBounds_toArray, List.set_cons_zero, List.set_cons_succ]; rfl) : Reg.Ord P ops Q tail ((i, .C) :: l) a W := by
  refine Reg.stepC (v := v) (fun w hS => ?_) (ha ▸ rest) hi hN hw
  have he := enters_ hf hname hb args w
  have hrun : (execOp a.eval o).run P w = .ok (.enter f args) w := by
    unfold execOp
    simp [hop, resolve, Deferred.ofValue, invoke, hx, hargs, he]
  unfold Reg.nAt
  rw [hrun]
  exact (h w hS).mono fun e w' ⟨he, hS'⟩ => ⟨v, he, rfl, hS.trans hS'⟩
end
/-- The headers that are keptB of the first j. -/
def keptB (p : Bool → Bool) (hs : List Hdr) (fs : List Bool) (j : Nat) : List Hdr := (((hs.zip fs).take j).filter fun q => !p q.2).map Prod.fst
theorem keptB_succ (p : Bool → Bool) (hs : List Hdr) (fs : List Bool) (j : Nat) (hl : hs.length = fs.length) (h : j < fs.length) : keptB p hs fs (j + 1) = keptB p hs fs j ++ (if p fs[j] then [] else [hs[j]'(by omega)]) := by
  unfold keptB
  rw [List.take_succ_eq_append_getElem (by rw [List.length_zip]; omega), List.filter_append, List.map_append, List.getElem_zip, List.filter_cons]
  cases p fs[j] <;> simp
theorem keptB_front (p : Bool → Bool) (hs : List Hdr) (fs : List Bool) (hl : hs.length = fs.length) : ∀ j, j ≤ fs.length → (∀ i, (h : i < j) → (hi : i < fs.length) → p fs[i] = false) → keptB p hs fs j = hs.take j
  | 0, _, _ => by simp [keptB]
  | j + 1, hj, h => by
    rw [keptB_succ p hs fs j hl (by omega), keptB_front p hs fs hl j (by omega) (fun i hi hf => h i (by omega) hf), h j (by omega) (by omega), List.take_succ_eq_append_getElem (by omega)]
    rfl
/-- How the row stands when j facts are looked at, of which i are keptB. -/
structure KB (p : Bool → Bool) (hs : List Hdr) (fs : List Bool) (j i : Nat) (L : List Hdr) : Prop where
  len : L.length = fs.length
  lt : i < j
  is : i = (keptB p hs fs j).length
  row : ∃ M, L = keptB p hs fs j ++ M ++ hs.drop j
theorem KB.start (p : Bool → Bool) (hs : List Hdr) (fs : List Bool) (hl : hs.length = fs.length) (k : Nat) (hk : k < fs.length) (ht : p fs[k] = true) (hall : ∀ j, (hj : j < k) → p (fs[j]'(by omega)) = false) : KB p hs fs (k + 1) k hs := by
  have e : keptB p hs fs (k + 1) = hs.take k := by
    rw [keptB_succ p hs fs k hl hk, ht, if_pos rfl, List.append_nil, keptB_front p hs fs hl k (by omega) (fun i hi _ => hall i hi)]
  refine ⟨hl, Nat.lt_succ_self _, by rw [e, List.length_take]; omega, ⟨[hs[k]], ?_⟩⟩
  rw [e, ← List.take_succ_eq_append_getElem (by omega), List.take_append_drop]
theorem KB.mid {p : Bool → Bool} {hs : List Hdr} {fs : List Bool} {j i : Nat} {L : List Hdr} (h : KB p hs fs j i L) (hl : hs.length = fs.length) (hj : j < fs.length) : ∃ m M, L = keptB p hs fs j ++ (m :: M) ++ hs.drop j ∧ i + (M.length + 1) = j := by
  obtain ⟨M, e⟩ := h.row
  have h1 := congrArg List.length e
  rw [h.len, List.length_append, List.length_append, List.length_drop, ← h.is] at h1
  cases M with
  | nil => have := h.lt; simp at h1; omega
  | cons m M => exact ⟨m, M, e, by simp at h1; omega⟩
theorem KB.skip {p : Bool → Bool} {hs : List Hdr} {fs : List Bool} {j i : Nat} {L : List Hdr} (h : KB p hs fs j i L) (hl : hs.length = fs.length) (hj : j < fs.length) (hp : p fs[j] = true) : KB p hs fs (j + 1) i L := by
  obtain ⟨M, e⟩ := h.row
  have ek : keptB p hs fs (j + 1) = keptB p hs fs j := by rw [keptB_succ p hs fs j hl hj, hp, if_pos rfl, List.append_nil]
  refine ⟨h.len, Nat.lt_succ_of_lt h.lt, by rw [ek]; exact h.is, ⟨M ++ [hs[j]'(by omega)], ?_⟩⟩
  rw [ek, e, List.drop_eq_getElem_cons (by omega : j < hs.length)]
  simp
theorem KB.keep {p : Bool → Bool} {hs : List Hdr} {fs : List Bool} {j i : Nat} {L : List Hdr} (h : KB p hs fs j i L) (hl : hs.length = fs.length) (hj : j < fs.length) (hp : p fs[j] = false) : KB p hs fs (j + 1) (i + 1) (L.set i (hs[j]'(by omega))) := by
  obtain ⟨m, M, e, hM⟩ := h.mid hl hj
  have ek : keptB p hs fs (j + 1) = keptB p hs fs j ++ [hs[j]'(by omega)] := by rw [keptB_succ p hs fs j hl hj, hp, if_neg (by simp)]
  refine ⟨by rw [List.length_set]; exact h.len, Nat.succ_lt_succ h.lt, by rw [ek, List.length_append, ← h.is]; rfl, ⟨M ++ [hs[j]'(by omega)], ?_⟩⟩
  rw [ek, e, List.append_assoc, List.cons_append, set_mid _ _ _ _ _ h.is.symm, List.drop_eq_getElem_cons (by omega : j < hs.length)]
  simp
theorem KB.done {p : Bool → Bool} {hs : List Hdr} {fs : List Bool} {i : Nat} {L : List Hdr} (h : KB p hs fs fs.length i L) : L.take i = keptB p hs fs fs.length := by
  obtain ⟨M, e⟩ := h.row
  rw [e, List.append_assoc, h.is, List.take_left]
theorem keptB_pairs {w : World} {lo : Nat} {hs : List Hdr} {fs : List Fct} (h : Sep w lo hs fs) : Sep w lo (keptB id hs (flags none fs) fs.length) (runs none fs) := by
  have hfl := flags_len fs none
  have hq : (((hs.zip fs).zip (flags none fs)).filter fun q => !q.2).map Prod.fst |>.Sublist (hs.zip fs) := by
    have h1 : (((hs.zip fs).zip (flags none fs)).filter fun q => !q.2).Sublist ((hs.zip fs).zip (flags none fs)) := List.filter_sublist
    have h2 := h1.map Prod.fst
    rwa [List.map_fst_zip (by rw [List.length_zip, hfl]; omega)] at h2
  have h3 := h.sub hq
  have e1 : ((((hs.zip fs).zip (flags none fs)).filter fun q => !q.2).map Prod.fst).map Prod.snd = runs none fs := by
    rw [List.map_map]; exact runs_flags hs fs none h.len
  have e2 : ((((hs.zip fs).zip (flags none fs)).filter fun q => !q.2).map Prod.fst).map Prod.fst = keptB id hs (flags none fs) fs.length := by
    unfold keptB
    rw [List.take_of_length_le (by rw [List.length_zip, hfl]; omega), List.map_map]
    have key : ∀ (hs : List Hdr) (fs : List Fct) (bs : List Bool), hs.length = fs.length → fs.length = bs.length → ((((hs.zip fs).zip bs).filter fun q => !q.2).map (Prod.fst ∘ Prod.fst)) = ((hs.zip bs).filter fun q => !(id q.2)).map Prod.fst := by
      intro hs
      induction hs with
      | nil => intro fs bs _ _; simp
      | cons a hs ih =>
        intro fs bs h1 h2
        cases fs with
        | nil => simp at h1
        | cons f fs =>
          cases bs with
          | nil => simp at h2
          | cons b bs =>
            have := ih fs bs (by simpa using h1) (by simpa using h2)
            cases b <;> simpa using this
    exact key hs fs _ h.len hfl.symm
  rw [e1, e2] at h3
  exact h3
theorem runs_none {fs : List Fct} (h : ∀ j, (hj : j < (flags none fs).length) → (flags none fs)[j] = false) : runs none fs = fs := by
  have e := runs_flags (fs.map fun f => ((0 : Int), none, 0, 0)) fs none (by simp)
  have hall : flags none fs = List.replicate fs.length false := by
    apply List.ext_getElem
    · rw [flags_len, List.length_replicate]
    · intro i h1 h2; rw [h i h1, List.getElem_replicate]
  rw [← e, hall]
  rw [List.filter_eq_self.2 (fun q hq => by
    have := (List.of_mem_zip hq).2
    rw [List.eq_of_mem_replicate this]; rfl)]
  have e2 : ∀ (l : List Fct), (((l.map fun f => (((0 : Int), none, 0, 0) : Hdr)).zip l).zip (List.replicate l.length false)).map (fun q => q.1.2) = l := by
    intro l
    induction l with
    | nil => rfl
    | cons f l ih => simp [List.replicate_succ, ih]
  exact e2 fs
theorem elemF {w wr : World} {lo g n c : Nat} {hs L : List Hdr} {fs : List Fct} (hO : OH w lo (.slice (some ⟨g, 0, none⟩) n c) hs) (hS : Sep w lo hs fs) (hE : Ex (fun b => some b = Value.ownBlock (.slice (some ⟨g, 0, none⟩) n c)) w wr) (hL : OH wr lo (.slice (some ⟨g, 0, none⟩) n c) L) (j : Nat) (hj : j < fs.length) (hget : L[j]? = hs[j]?) :
    ∃ A c', hs[j]? = some (fs[j].1, A, fs[j].2.length, c') ∧ wr.cell? ⟨g, j * 2, none⟩ = some (.int .i64 fs[j].1) ∧ wr.cell? ⟨g, j * 2 + 1, none⟩ = some (.slice A fs[j].2.length c') ∧ Ints wr A c' fs[j].2 := by
  have hl := hS.len
  have hjh : j < hs.length := by omega
  have hSr := hS.ex hE (fun i a b ha hb e => (hS.ne_row hO ha hb) e.symm)
  obtain ⟨a1, a2, a3⟩ := hSr.reads.at_ j hs[j] fs[j] (List.getElem?_eq_getElem hjh) (List.getElem?_eq_getElem hj)
  rw [List.getElem?_eq_getElem hjh] at hget
  obtain ⟨hjL, e⟩ := List.getElem?_eq_some_iff.1 hget
  obtain ⟨x0, x1⟩ := hL.at j hjL
  rw [e] at x0 x1
  obtain ⟨⟨r, A, m, c'⟩, hhd⟩ : ∃ hd, hd = hs[j] := ⟨_, rfl⟩
  rw [← hhd] at a1 a2 a3 x0 x1
  dsimp only at a1 a2 a3 x0
  subst a1 a2
  exact ⟨A, c', by rw [List.getElem?_eq_getElem hjh, ← hhd], x0, x1, a3⟩
theorem CompactF_calls (w : World) (lo : Nat) (v : Value) (hs : List Hdr) (fs : List Fct) (hO : OH w lo v hs) (hS : Sep w lo hs fs) :
    Calls Tryz.prog 154 #[v, .func (.func 76) #[] #[]] w (Got fun v' w' => ∃ hs', OH w' lo v' hs' ∧ Sep w' lo hs' (runs none fs) ∧ Ex (fun b => some b = v.ownBlock) w w' ∧ ∀ b, FB v' hs' b → FB v hs b) := by
  have hlen := hS.len
  by_cases h2 : fs.length < 2
  · have hr : runs none fs = fs := by
      match fs, h2 with
      | [], _ => rfl
      | [f], _ => simp [runs]
    obtain ⟨A, c, rfl⟩ := own_slice hO
    have hlt : decide ((hs.length : Int) < 2) = true := decide_eq_true (by omega)
    have hlt2 : hs.length < 2 := by omega
    have hO' := Aside0.mk hO
    have hS' := Aside0.mk hS
    clear hO hS hlen h2
    go_enter Tryz.func154, Tryz.ntmps154
    go_wp2
    go_ret
    exact ⟨_, rfl, hs, hO'.out, by rw [hr]; exact hS'.out, Ex.refl _ _, fun _ h => h⟩
  · rcases hO.2 with ⟨hv, hz⟩ | ⟨g, cap, cur, rfl, hg, _⟩
    · omega
    have hcm := own_capmax hO
    have hcap := Aside0.mk hcm.1
    have hmx := hcm.2
    have hfl := Aside0.mk (flags_len fs none)
    have hO' := Aside0.mk hO
    have hS' := Aside0.mk hS
    have hlen' := Aside0.mk hlen
    have hlt : decide ((hs.length : Int) < 2) = false := decide_eq_false (by omega)
    have hn2 : ¬ hs.length < 2 := by omega
    have hn2' := Aside0.mk hn2
    have hfz := Aside0.mk (show (flags none fs)[0]? = some false by rw [List.getElem?_eq_getElem (by rw [flags_len]; omega), flags_zero fs (by omega)])
    clear hcm hO hS h2 hg hlen
    go_enter Tryz.func154, Tryz.ntmps154
    go_wp2
    clear hlt hn2
    go_loopw [5] (fun v5 wr => ∃ (k : Nat), v5 = .int .i64 k ∧ 1 ≤ k ∧ k ≤ hs.length ∧ Aside0 (∀ j, j < k → (flags none fs)[j]? = some false) ∧ Aside0 (On w wr)) (fun v5 _ => hs.length - (intOf v5).toNat)
    case atStart => exact ⟨1, rfl, by omega, by have := hn2'.out; omega, ⟨fun j hj => (show j = 0 by omega) ▸ hfz.out⟩, ⟨On.refl _⟩⟩
    case round =>
      obtain ⟨k, rfl, hk1, hk, hall, hB⟩ := hrel
      by_cases hkl : k < hs.length
      · have hkf : k < fs.length := by have := hlen'.out; omega
        have hkf' : k - 1 < fs.length := by omega
        have hLr := Aside0.mk (pw_own_below hO'.out hB.out)
        obtain ⟨A3, c3, _, x0, x1, x2⟩ := elemF hO'.out hS'.out (Ex.of_on hB.out) hLr.out k hkf rfl
        obtain ⟨A4, c4, _, y0, y1, y2⟩ := elemF hO'.out hS'.out (Ex.of_on hB.out) hLr.out (k - 1) hkf' rfl
        have hws : IntKind.i64.wrap ((k : Int) - 1) = ((k - 1 : Nat) : Int) := by rw [IntWalk.i64_in _ (by omega)]; omega
        have hk1l : k - 1 < hs.length := by omega
        have hfg := Aside0.mk (show (flags none fs)[k]? = some (cmpF fs[k] fs[k - 1] == 0) by
          have h := flags_get fs none (k - 1) (by omega)
          rw [List.getElem?_eq_getElem (by rw [hfl.out]; omega)]
          congr 1
          have e : (flags none fs)[k]'(by rw [hfl.out]; omega) = (flags none fs)[k - 1 + 1]'(by rw [hfl.out]; omega) := by congr 1; omega
          rw [e, h]
          have e2 : fs[k - 1 + 1]'(by omega) = fs[k] := by congr 1; omega
          rw [e2]
          by_cases c : fs[k - 1] = fs[k]
          · rw [decide_eq_true c, c, cmpF_self]; rfl
          · rw [decide_eq_false c]
            symm
            rw [beq_eq_false_iff_ne]
            exact fun h => c ((cmpF_eq _ _).1 h).symm)
        have x2' := Aside0.mk x2
        have y2' := Aside0.mk y2
        clear x2 y2
        obtain ⟨F, hF⟩ : ∃ F, fs[k] = F := ⟨_, rfl⟩
        obtain ⟨G, hG⟩ : ∃ G, fs[k - 1] = G := ⟨_, rfl⟩
        rw [hF] at x0 x1 x2' hfg
        rw [hG] at y0 y1 y2' hfg
        clear hF hG
        cases hq : (cmpF F G == 0) with
        | false =>
          have hq' := Aside0.mk hq
          rw [hq] at hfg
          clear hq
          go_wp2
          refine Reg.region [(0,.L),(1,.L),(2,.L),(3,.L),(4,.L),(5,.L),(6,.L),(7,.L),(8,.L),(9,.L),(10,.C)] [] (by kernel_rfl) (by kernel_rfl) ?_
          repeat first | refine sP ?_ | refine sS ?_ | refine sA ?_ | refine sL ?_ | refine sQ ?_ | refine sO ?_
          refine callV (.bool false) Tryz.func76 (fun w' hS => ?_) ?_
          focus exact (sameFact_calls w' A3 c3 A4 c4 F G (x2'.out.on hS) (y2'.out.on hS)).mono fun e w'' h => ⟨by rw [h.1, hq'.out], h.2⟩
          repeat first | refine sP ?_ | refine sS ?_ | refine sA ?_ | refine sL ?_ | refine sQ ?_ | refine sO ?_
          refine Reg.nil fun w2 hS => ?_
          clear x0 x1 y0 y1
          go_wp2
          refine ⟨⟨k + 1, by go_num, by omega, by omega, ⟨fun j hj => ?_⟩, ⟨hB.out.trans hS⟩⟩, by simp [intOf]; omega⟩
          by_cases e : j = k
          · rw [e]; exact hfg.out
          · exact hall.out j (by omega)
        | true =>
          have hq' := Aside0.mk hq
          rw [hq] at hfg
          clear hq
          go_wp2
          refine Reg.region [(0,.L),(1,.L),(2,.L),(3,.L),(4,.L),(5,.L),(6,.L),(7,.L),(8,.L),(9,.L),(10,.C)] [] (by kernel_rfl) (by kernel_rfl) ?_
          repeat first | refine sP ?_ | refine sS ?_ | refine sA ?_ | refine sL ?_ | refine sQ ?_ | refine sO ?_
          refine callV (.bool true) Tryz.func76 (fun w' hS => ?_) ?_
          focus exact (sameFact_calls w' A3 c3 A4 c4 F G (x2'.out.on hS) (y2'.out.on hS)).mono fun e w'' h => ⟨by rw [h.1, hq'.out], h.2⟩
          repeat first | refine sP ?_ | refine sS ?_ | refine sA ?_ | refine sL ?_ | refine sQ ?_ | refine sO ?_
          refine Reg.nil fun w2 hS => ?_
          clear x0 x1 y0 y1
          have hB2 := Aside0.mk (hB.out.trans hS)
          have hI0 := Aside0.mk (KB.start id hs (flags none fs) (by rw [hfl.out]; exact hlen'.out) k (by rw [hfl.out]; omega) (by
            have h := hfg.out
            obtain ⟨_, e⟩ := List.getElem?_eq_some_iff.1 h
            exact e) (fun j hj => by
            have h := hall.out j hj
            obtain ⟨_, e⟩ := List.getElem?_eq_some_iff.1 h
            exact e))
          go_wp2_with (refine gate 31 ?_)
          refine ⟨slFF 31 (A := some ⟨g, 0, none⟩) (k := k) (n := hs.length) (c := cap) (A' := some ⟨g, k * 2, none⟩) (m := hs.length - k) (c' := cap - k) (by rw [if_neg (by have := hcap.out; omega), Option.map_some, add_plain]) rfl rfl (by omega) hcap.out ?_⟩
          go_wp2
          go_loopw [5, 7] (fun v5 v7 wr => ∃ (i m : Nat) (L : List Hdr), v5 = .int .i64 i ∧ v7 = .int .i64 m ∧ 1 ≤ m ∧ k + m ≤ hs.length ∧ Aside0 (KB id hs (flags none fs) (k + m) i L) ∧ Aside0 (∀ t, i ≤ t → L[t]? = hs[t]?) ∧ Aside0 (OH wr lo (.slice (some ⟨g, 0, none⟩) hs.length cap) L) ∧ Aside0 (Ex (fun b => some b = Value.ownBlock (.slice (some ⟨g, 0, none⟩) hs.length cap)) w wr)) (fun _ v7 _ => hs.length - k - (intOf v7).toNat)
          case atStart => exact ⟨k, 1, hs, rfl, by go_num, by omega, by omega, hI0, ⟨fun t _ => rfl⟩, ⟨pw_own_below hO'.out hB2.out⟩, ⟨Ex.of_on hB2.out⟩⟩
          case round =>
            obtain ⟨i, m, L, rfl, rfl, hm1, hmn, hK, hge, hL, hE⟩ := hrel
            have hij := hK.out.lt
            have hLl := Aside0.mk (show L.length = hs.length by rw [hK.out.len, hfl.out, ← hlen'.out])
            by_cases hml : m < hs.length - k
            · have hjf : k + m < fs.length := by have := hlen'.out; omega
              have hjf' : k + m - 1 < fs.length := by omega
              obtain ⟨A5, c5, hh5, x0, x1, x2⟩ := elemF hO'.out hS'.out hE.out hL.out (k + m) hjf (hge.out _ (by omega))
              obtain ⟨A6, c6, _, y0, y1, y2⟩ := elemF hO'.out hS'.out hE.out hL.out (k + m - 1) hjf' (hge.out _ (by omega))
              rw [show (k + m) * 2 = k * 2 + m * 2 by omega] at x0 x1
              rw [show (k + m - 1) * 2 = k * 2 + (m - 1) * 2 by omega] at y0 y1
              have hws : IntKind.i64.wrap ((m : Int) - 1) = ((m - 1 : Nat) : Int) := by rw [IntWalk.i64_in _ (by omega)]; omega
              have hm1l : m - 1 < hs.length - k := by omega
              have hbl : k + m < (flags none fs).length := by rw [hfl.out]; exact hjf
              have hfg := Aside0.mk (show (flags none fs)[k + m] = (cmpF fs[k + m] fs[k + m - 1] == 0) by
                have h := flags_get fs none (k + m - 1) (by omega)
                have e : (flags none fs)[k + m] = (flags none fs)[k + m - 1 + 1]'(by rw [hfl.out]; omega) := by congr 1; omega
                rw [e, h]
                have e2 : fs[k + m - 1 + 1]'(by omega) = fs[k + m] := by congr 1; omega
                rw [e2]
                by_cases c : fs[k + m - 1] = fs[k + m]
                · rw [decide_eq_true c, c, cmpF_self]; rfl
                · rw [decide_eq_false c]
                  symm
                  rw [beq_eq_false_iff_ne]
                  exact fun h => c ((cmpF_eq _ _).1 h).symm)
              have x2' := Aside0.mk x2
              have y2' := Aside0.mk y2
              have hh5' := Aside0.mk hh5
              have hbl' := Aside0.mk hbl
              clear x2 y2 hh5
              obtain ⟨F, hF⟩ : ∃ F, fs[k + m] = F := ⟨_, rfl⟩
              obtain ⟨G, hG⟩ : ∃ G, fs[k + m - 1] = G := ⟨_, rfl⟩
              rw [hF] at x0 x1 x2' hfg hh5'
              rw [hG] at y0 y1 y2' hfg
              clear hF hG
              cases hq : (cmpF F G == 0) with
              | true =>
                have hq' := Aside0.mk hq
                rw [hq] at hfg
                clear hq
                go_wp2
                refine Reg.region [(0,.L),(1,.L),(2,.L),(3,.L),(4,.L),(5,.L),(6,.L),(7,.L),(8,.L),(9,.L),(10,.C),(11,.L)] [] (by kernel_rfl) (by kernel_rfl) ?_
                repeat first | refine sP ?_ | refine sS ?_ | refine sA ?_ | refine sL ?_ | refine sQ ?_ | refine sO ?_
                refine callV (.bool true) Tryz.func76 (fun w' hS => ?_) ?_
                focus exact (sameFact_calls w' A5 c5 A6 c6 F G (x2'.out.on hS) (y2'.out.on hS)).mono fun e w'' h => ⟨by rw [h.1, hq'.out], h.2⟩
                repeat first | refine sP ?_ | refine sS ?_ | refine sA ?_ | refine sL ?_ | refine sQ ?_ | refine sO ?_
                refine Reg.nil fun w3 hS3 => ?_
                clear x0 x1 y0 y1
                go_wp2
                exact ⟨⟨i, m + 1, L, rfl, by go_num, by omega, by omega, ⟨hK.out.skip (by rw [hfl.out]; exact hlen'.out) hbl'.out hfg.out⟩, hge, ⟨pw_own_below hL.out hS3⟩, ⟨hE.out.then_on hS3⟩⟩, by simp [intOf]; omega⟩
              | false =>
                have hq' := Aside0.mk hq
                rw [hq] at hfg
                clear hq
                go_wp2
                refine Reg.region [(0,.L),(1,.L),(2,.L),(3,.L),(4,.L),(5,.L),(6,.L),(7,.L),(8,.L),(9,.L),(10,.C),(11,.L)] [] (by kernel_rfl) (by kernel_rfl) ?_
                repeat first | refine sP ?_ | refine sS ?_ | refine sA ?_ | refine sL ?_ | refine sQ ?_ | refine sO ?_
                refine callV (.bool false) Tryz.func76 (fun w' hS => ?_) ?_
                focus exact (sameFact_calls w' A5 c5 A6 c6 F G (x2'.out.on hS) (y2'.out.on hS)).mono fun e w'' h => ⟨by rw [h.1, hq'.out], h.2⟩
                repeat first | refine sP ?_ | refine sS ?_ | refine sA ?_ | refine sL ?_ | refine sQ ?_ | refine sO ?_
                refine Reg.nil fun w3 hS3 => ?_
                have x0' := (hS3.eq _ (by rw [x0]; rfl)).trans x0
                have x1' := (hS3.eq _ (by rw [x1]; rfl)).trans x1
                have hL2 := Aside0.mk (pw_own_below hL.out hS3)
                have hiL : i < L.length := by have := hLl.out; omega
                obtain ⟨hi0, hi1⟩ := OH.at hL2.out i hiL
                have hL2n : w3.ownsRow lo 60 2 (.slice (some ⟨g, 0, none⟩) hs.length cap) hs.length (L.flatMap encH) := hLl.out ▸ hL2.out
                have hf0 := own_frozen hL2n (i * 2)
                have hf1 := own_frozen hL2n (i * 2 + 1)
                clear hL2n x0 x1 y0 y1
                go_wp2
                have hst := OH.store hL2.out i hiL (F.1, A5, F.2.length, c5)
                have hkp := hK.out.keep (by rw [hfl.out]; exact hlen'.out) hbl'.out hfg.out
                have e5 : hs[k + m]'(by omega) = (F.1, A5, F.2.length, c5) := by
                  obtain ⟨_, e⟩ := List.getElem?_eq_some_iff.1 hh5'.out
                  exact e
                rw [e5] at hkp
                exact ⟨⟨i + 1, m + 1, _, by go_num, by go_num, by omega, by omega, ⟨hkp⟩, ⟨fun t ht => by rw [List.getElem?_set_ne (by omega)]; exact hge.out t (by omega)⟩, ⟨hst⟩, ⟨((hE.out.then_on hS3).trans' (Ex.mono (Ex.set _ _ _) (fun k e => by subst e; rfl))).trans' (Ex.mono (Ex.set _ _ _) (fun k e => by subst e; rfl))⟩⟩, by simp [intOf]; omega⟩
            · have hkm : k + m = hs.length := by omega
              have hclr := fun ty => run_clearF hL.out i (by omega) (cap - i) ty
              have hin : i < hs.length := by omega
              go_wp2_with (refine gate 61 ?_)
              refine ⟨slFF 61 (A := some ⟨g, 0, none⟩) (k := i) (n := hs.length) (c := cap) (A' := some ⟨g, i * 2, none⟩) (m := hs.length - i) (c' := cap - i) (by rw [if_neg (by have := hcap.out; omega), Option.map_some, add_plain]) rfl rfl (by omega) hcap.out ?_⟩
              go_wp2_with (refine gate 64 ?_)
              refine ⟨slTF 64 (k := i) (n := hs.length) (c := cap) (Nat.le_of_lt hin) hcap.out ?_⟩
              go_wp2
              go_ret
              have hLn : wr.ownsRow lo 60 2 (.slice (some ⟨g, 0, none⟩) hs.length cap) hs.length (L.flatMap encH) := hLl.out ▸ hL.out
              obtain ⟨h1, g1⟩ := own_sets (Builtin.zeroCells #[.int .i64 0, .slice none 0 0] (hs.length - i)).toList (i * 2) _ _ hLn (by rw [Array.length_toList, size_zeroCells]; show i * 2 + (hs.length - i) * 2 ≤ _; omega)
              have h2 := own_cut h1 i (Nat.le_of_lt hin)
              have hKe : KB id hs (flags none fs) (flags none fs).length i L := by
                have h := hK.out
                rwa [show k + m = (flags none fs).length by rw [hfl.out, ← hlen'.out]; omega] at h
              have hkd := hKe.done
              have hki := hKe.is
              rw [hfl.out] at hkd hki
              have e : ((L.flatMap encH).take (i * 2)) = (keptB id hs (flags none fs) fs.length).flatMap encH := by
                rw [← hkd]
                have e2 : L.flatMap encH = (L.take i).flatMap encH ++ (L.drop i).flatMap encH := by rw [← List.flatMap_append, List.take_append_drop]
                have e3 : ((L.take i).flatMap encH).length = i * 2 := by rw [flat_len (enc := encH) (sz := 2) (fun _ => rfl), List.length_take, hLl.out]; congr 1; omega
                rw [e2, List.take_append_of_le_length (by omega), ← e3, List.take_length]
              have hl0 : (L.flatMap encH).length = hs.length * 2 := hLn.1
              rw [List.append_assoc, List.take_append_of_le_length (by rw [List.length_take]; omega), List.take_take, Nat.min_self, e] at h2
              have hE' := hE.out.trans' (Ex.of_grown g1)
              have hkp := keptB_pairs hS'.out
              refine ⟨_, rfl, keptB id hs (flags none fs) fs.length, ?_, hkp.ex hE' (fun i a b ha hb e => ?_), hE', fun b h => ?_⟩
              · show World.ownsRow _ _ _ _ _ (keptB id hs (flags none fs) fs.length).length _
                rw [← hki]; exact h2
              · exact (hkp.ne_row hO'.out ha hb) e.symm
              · rcases h with h | ⟨m', a, ha, h⟩
                · exact .inl h
                · have hmem := List.mem_of_getElem? ha
                  unfold keptB at hmem
                  obtain ⟨q, hq, rfl⟩ := List.mem_map.1 hmem
                  have hq1 := List.mem_of_mem_take (List.mem_filter.1 hq).1
                  have hq2 : q.1 ∈ hs := (List.of_mem_zip hq1).1
                  obtain ⟨m', hm', e⟩ := List.mem_iff_getElem.1 hq2
                  exact .inr ⟨m', q.1, by rw [List.getElem?_eq_getElem hm', e], h⟩
      · go_wp2
        go_ret
        have hr : runs none fs = fs := runs_none fun j hj => by
          rw [hfl.out] at hj
          have h := hall.out j (by have := hlen'.out; omega)
          obtain ⟨_, e⟩ := List.getElem?_eq_some_iff.1 h
          exact e
        exact ⟨_, rfl, hs, pw_own_below hO'.out hB.out, by rw [hr]; exact hS'.out.on hB.out, Ex.of_on hB.out, fun _ h => h⟩
end Go.Proofs.YtgemaohdlibboaaGreatDoor.H
/- The rule for regions that draw once more, over worlds of which it is also told that the count of draws grows. No condition. -/
namespace Go.Proofs.YtgemaohdlibboaaGreatDoor.RegD
open Go Go.RowKit Go.Proofs.YtgemaohdlibboaaGreatDoor.Reg
variable {P : Program} {ops : Array Oper} {Q : Exit → Act → World → Prop} {md : Region.Mode}
/-- The worlds that go on from W, their count of draws too. -/
structure On (W w : World) : Prop where
  low : Below W.heap.size W w
  drawn : W.drawn ≤ w.drawn
theorem On.refl (W : World) : On W W := ⟨Below.refl _ _, Nat.le_refl _⟩
theorem On.trans {a b c : World} (h : On a b) (k : On b c) : On a c := ⟨Reg.On.trans h.low k.low, Nat.le_trans h.drawn k.drawn⟩
theorem On.eq {W w : World} (h : On W w) : ∀ p, (W.cell? p).isSome = true → w.cell? p = W.cell? p := Reg.On.eq h.low
theorem On.alloc {W w : World} (h : On W w) (o : Obj) : On W (w.alloc o) := ⟨Reg.On.alloc h.low o, h.drawn⟩
theorem on_draw (W : World) : On W { W with drawn := W.drawn + 1 } := ⟨Reg.on_draw W, Nat.le_succ _⟩
def wpOrd (P : Program) (ops : Array Oper) (Q : Exit → Act → World → Prop) (tail : List Nat) : List (Nat × K) → Act → World → Prop
  | [], a, W => ∀ w, On W w → wpList P ops Q (tail.filterMap fun i => ops[i]?) a w
  | (i, k) :: l, a, W =>
    match ops[i]? with
    | none => False
    | some o =>
      if Region.wanted o (yielded ops a.tmps) then
        (match k with
          | .L => ∃ v, (∀ w, On W w → (execOp a.eval o).run P w = .ok (.value v) w) ∧ wpOrd P ops Q tail l (a.put o.dst v) W
          | .C => ∃ v, (∀ w, On W w → nAt P o a w fun u w' => u = v ∧ On W w') ∧ wpOrd P ops Q tail l (a.put o.dst v) W
          | .N => ∀ w, On W w → wpList P ops (Exit.then (fun a' w' => On W w' ∧ wpOrd P ops Q tail l a' w') Q) [o] a w
          | .P => ∃ v, (∀ w, (execOp a.eval o).run P w = .ok (.value v) w) ∧ wpOrd P ops Q tail l (a.put o.dst v) W)
      else wpOrd P ops Q tail l (a.put o.dst undef) W
theorem wpOp_of_one {i : Nat} {o : Oper} {T : Act → World → Prop} {a : Act} {w : World} (hi : ops[i]? = some o) (h : wpList P ops (Exit.then T Q) [o] a w) (hl : LetsOut (Exit.then T Q) → LetsOut Q := by exact id) : wpOp P ops Q i T a w := by
  simp only [wpList] at h
  unfold wpOp
  simp only [hi]
  split
  · rename_i hw
    rw [if_pos hw] at h
    rcases h with h | ⟨h1, h2⟩
    · refine .inl ?_
      unfold Oper.wp at *
      generalize (execOp a.eval o).run P w = r at *
      cases r with
      | ok n w' =>
        cases n <;> simp only [Oper.upon] at h ⊢ <;>
          first
            | exact h
            | exact h.mono (fun e w'' he => by cases e <;> first | exact he | exact hl he)
      | halt x w' => cases x <;> simp only [Oper.upon] at h ⊢ <;> exact h
    · exact .inr ⟨h1, hl h2⟩
  · rename_i hw
    rw [if_neg hw] at h
    exact h
theorem wpT_of_tail {cl : Nat → Bool} : ∀ (l : List Nat) (listed : Array Bool) (a : Act) (S : World → Prop), (∀ i ∈ l, cl i = true) → chkTail md ops l listed = true → (∀ w, S w → wpList P ops Q (l.filterMap fun i => ops[i]?) a w) → wpT P md ops Q cl l.length listed a S
  | [], listed, a, S, _, hc, h => ⟨by simpa [chkTail] using hc, h⟩
  | i :: l, listed, a, S, hcl, hc, h => by
    simp only [chkTail, Bool.and_eq_true, beq_iff_eq] at hc
    obtain ⟨⟨hr, hbusy⟩, hl⟩ := hc
    cases hi : ops[i]? with
    | none => simp [hi] at hbusy
    | some o =>
      rw [List.length_cons]
      refine ⟨fun h0 => (by rw [hr] at h0; cases h0), fun j hj => ?_⟩
      rw [hr] at hj
      obtain rfl := List.mem_singleton.1 hj
      have ih := fun a S h => wpT_of_tail l (listed.setIfInBounds j true) a S (fun k hk => hcl k (List.mem_cons_of_mem _ hk)) hl h
      have hlist : ∀ w, S w → wpOp P ops Q j (wpList P ops Q (l.filterMap fun i => ops[i]?)) a w := fun w hS => by
        have h1 := h w hS
        simp only [List.filterMap_cons, hi] at h1
        unfold wpOp
        simp only [hi]
        unfold wpList at h1
        exact h1
      unfold Reg.stepT
      simp only [hi]
      split
      · exact .inr (.inr ⟨.inr (hcl j List.mem_cons_self), fun w hS => wpOp_mono (fun a' w' hh => ⟨fun w => w = w', rfl, fun h0 => (by rw [hcl j List.mem_cons_self] at h0; cases h0), ih a' _ (fun w e => by subst e; exact hh)⟩) (hlist w hS)⟩)
      · rename_i hw
        refine ih _ _ fun w hS => ?_
        have h1 := hlist w hS
        unfold wpOp at h1
        simp only [hi] at h1
        rw [if_neg hw] at h1
        exact h1
theorem wpT_of_ord (hs : Region.noSelect ops = true) (hQ : Plain Q) (tail : List Nat) : ∀ (l : List (Nat × K)) (listed : Array Bool) (a : Act) (W : World), closed md ops listed → chk md ops tail l listed = true → wpOrd P ops Q tail l a W → wpT P md ops Q (fun j => tail.contains j) (l.length + tail.length) listed a (On W)
  | [], listed, a, W, _, hc, h => by
    rw [List.length_nil, Nat.zero_add]
    exact wpT_of_tail tail listed a _ (fun i hi => by simpa using hi) hc h
  | (i, k) :: l, listed, a, W, hclosed, hc, h => by
    simp only [chk, Bool.and_eq_true] at hc
    obtain ⟨hk, hl⟩ := hc
    simp only [wpOrd] at h
    cases hi : ops[i]? with
    | none => simp only [hi] at h
    | some o =>
      simp only [hi] at h
      have hri : i ∈ Region.ready md ops listed := by
        cases k <;> simp only [Bool.and_eq_true, beq_iff_eq] at hk
        · simpa using hk.1.1
        · simpa using hk.1.1
        · rw [hk.1.1]; exact List.mem_singleton.2 rfl
        · simpa using hk.1
      have ih := fun a W h => wpT_of_ord hs hQ tail l (listed.setIfInBounds i true) a W (hclosed.set hri) hl h
      have sel := Region.noSelect_spec hs
      have hlen : (((i, k) :: l).length + tail.length) = (l.length + tail.length) + 1 := by rw [List.length_cons]; omega
      rw [hlen]
      have hreach : k ≠ .N → k ≠ .P → ∀ j, (tail.contains j) = true → reach md ops j i = true := by
        intro hkn hkp j hj
        have hj' : j ∈ tail := by simpa using hj
        cases k <;> simp only [Bool.and_eq_true, List.all_eq_true] at hk
        · exact hk.2 j hj'
        · exact hk.2 j hj'
        · exact absurd rfl hkn
        · exact absurd rfl hkp
      by_cases hw : Region.wanted o (yielded ops a.tmps) = true
      · rw [if_pos hw] at h
        cases k with
        | L =>
          simp only [Bool.and_eq_true] at hk
          obtain ⟨v, h1, h2⟩ := h
          exact wpT_first (c := false) hQ hi sel (hreach (by simp) (by simp)) _ listed a _ hclosed (fun j oj hj hne hun hno => freeC_spec hi hk.1.2 j oj hj hne hun hno) hri (.inl ⟨hw, fun w hS => by simpa using h1 w hS⟩) (ih _ _ h2)
        | C =>
          simp only [Bool.and_eq_true] at hk
          obtain ⟨v, h1, h2⟩ := h
          exact wpT_first (c := true) hQ hi sel (hreach (by simp) (by simp)) _ listed a _ hclosed (fun j oj hj hne hun hno => freeC_spec hi hk.1.2 j oj hj hne hun hno) hri (.inl ⟨hw, fun w hS => by simpa using h1 w hS⟩) (ih _ _ h2)
        | N =>
          simp only [Bool.and_eq_true, beq_iff_eq, busy, hi, Bool.not_eq_true'] at hk
          refine ⟨fun h0 => (by rw [hk.1.1] at h0; cases h0), fun j hj => ?_⟩
          rw [hk.1.1] at hj
          obtain rfl := List.mem_singleton.1 hj
          unfold Reg.stepT
          simp only [hi]
          rw [if_pos hw]
          exact .inr (.inr ⟨.inl hk.1.2, fun w hS => wpOp_mono (fun a' w' ⟨hon, hh⟩ => ⟨On w', On.refl _, fun _ w'' hw'' => hon.trans hw'', ih _ _ hh⟩) (wpOp_of_one hi (h w hS))⟩)
        | P =>
          simp only [Bool.and_eq_true] at hk
          obtain ⟨v, h1, h2⟩ := h
          exact wpT_firstP hQ hi sel _ listed a _ hclosed (fun j oj hj hne hun hno => (freeC_spec hi hk.2 j oj hj hne hun hno).1) hri (.inl ⟨hw, fun w _ => by simpa using h1 w⟩) (ih _ _ h2)
      · rw [if_neg hw] at h
        have hw' : Region.wanted o (yielded ops a.tmps) = false := by simpa using hw
        cases k with
        | P =>
          simp only [Bool.and_eq_true] at hk
          exact wpT_firstP hQ hi sel _ listed a _ hclosed (fun j oj hj hne hun hno => (freeC_spec hi hk.2 j oj hj hne hun hno).1) hri (.inr ⟨hw', rfl⟩) (ih _ _ h)
        | L =>
          simp only [Bool.and_eq_true] at hk
          exact wpT_first (c := false) hQ hi sel (hreach (by simp) (by simp)) _ listed a _ hclosed (fun j oj hj hne hun hno => ⟨(freeC_spec hi hk.1.2 j oj hj hne hun hno).1, fun h => by cases h⟩) hri (.inr ⟨hw', rfl⟩) (ih _ _ h)
        | C =>
          simp only [Bool.and_eq_true] at hk
          exact wpT_first (c := false) hQ hi sel (hreach (by simp) (by simp)) _ listed a _ hclosed (fun j oj hj hne hun hno => ⟨(freeC_spec hi hk.1.2 j oj hj hne hun hno).1, fun h => by cases h⟩) hri (.inr ⟨hw', rfl⟩) (ih _ _ h)
        | N =>
          simp only [Bool.and_eq_true, beq_iff_eq, busy, hi, Bool.not_eq_true'] at hk
          refine ⟨fun h0 => (by rw [hk.1.1] at h0; cases h0), fun j hj => ?_⟩
          rw [hk.1.1] at hj
          obtain rfl := List.mem_singleton.1 hj
          unfold Reg.stepT
          simp only [hi]
          rw [if_neg hw]
          exact ih _ _ h
/-- The same, shut (so that nobody lays it open unasked). -/
structure Ord (P : Program) (ops : Array Oper) (Q : Exit → Act → World → Prop) (tail : List Nat) (l : List (Nat × K)) (a : Act) (W : World) : Prop where mk :: (out : wpOrd P ops Q tail l a W)
/-- The rule: a region that draws its order, its operations taken in the order l, then the tail. -/
theorem region {id : Nat} {a : Act} {w : World} (l : List (Nat × K)) (tail : List Nat) (hm : P.follows .mixedOrders = true) (hc : (Region.noSelect ops && (l.length + tail.length == ops.size) && chk .any ops tail l (Array.replicate ops.size false)) = true)
    (h : Ord P ops Q tail l a w) (hQ : Plain Q := by exact fun c a d v w h => by cases d <;> exact h) : (Code.region id ops true).wp P Q a w := by
  simp only [Bool.and_eq_true, beq_iff_eq] at hc
  refine wp_region_any hm (wpAny_of_wpT (cl := fun j => tail.contains j) _ _ _ (On w) _ (below_drew' w) ?_)
  rw [← hc.1.2]
  exact wpT_of_ord hc.1.1 hQ tail l _ a w (closed.start _) (by rw [hc.1.2]; exact hc.2) h.out
where
  below_drew' (w : World) : On w { w with drawn := w.drawn + 1 } := on_draw w
/-! The moves. -/
section
variable {i : Nat} {tail : List Nat} {l : List (Nat × K)} {a : Act} {W : World} {o : Oper} {N : Tmp}
theorem nil (h : ∀ w, On W w → Q .normal a w) : Ord P ops Q [] [] a W := ⟨h⟩
theorem stepL {v : Value} (hy : ∀ w, On W w → (execOp a.eval o).run P w = .ok (.value v) w) (h : Ord P ops Q tail l (a.put (some N) v) W) (hi : ops[i]? = some o) (hN : o.dst = some N)
    (hw : Region.wanted o (yielded ops a.tmps) = true) : Ord P ops Q tail ((i, .L) :: l) a W := by
  refine ⟨?_⟩
  simp only [wpOrd, hi]
  rw [if_pos hw]
  exact ⟨v, hy, hN ▸ h.out⟩
theorem stepP {v : Value} (hy : ∀ w, (execOp a.eval o).run P w = .ok (.value v) w) (h : Ord P ops Q tail l (a.put (some N) v) W) (hi : ops[i]? = some o) (hN : o.dst = some N)
    (hw : Region.wanted o (yielded ops a.tmps) = true) : Ord P ops Q tail ((i, .P) :: l) a W := by
  refine ⟨?_⟩
  simp only [wpOrd, hi]
  rw [if_pos hw]
  exact ⟨v, hy, hN ▸ h.out⟩
theorem stepC {v : Value} (hy : ∀ w, On W w → nAt P o a w fun u w' => u = v ∧ On W w') (h : Ord P ops Q tail l (a.put (some N) v) W) (hi : ops[i]? = some o) (hN : o.dst = some N)
    (hw : Region.wanted o (yielded ops a.tmps) = true) : Ord P ops Q tail ((i, .C) :: l) a W := by
  refine ⟨?_⟩
  simp only [wpOrd, hi]
  rw [if_pos hw]
  exact ⟨v, hy, hN ▸ h.out⟩
theorem wpList_mono_normal {os : List Oper} {T T' : Act → World → Prop} (hT : ∀ a w, T a w → T' a w) : ∀ {a : Act} {w : World}, wpList P ops (Exit.then T Q) os a w → wpList P ops (Exit.then T' Q) os a w := by
  induction os with
  | nil => intro a w h; exact hT _ _ h
  | cons o os ih =>
    intro a w h
    unfold wpList at h ⊢
    split
    · rename_i hw
      rw [if_pos hw] at h
      rcases h with h | ⟨h1, h2⟩
      · refine .inl ?_
        unfold Oper.wp at *
        generalize (execOp a.eval o).run P w = r at *
        cases r with
        | ok n w' =>
          cases n <;> simp only [Oper.upon] at h ⊢ <;>
            first
              | exact ih h
              | exact h.mono (fun e w'' he => by cases e <;> first | exact ih he | exact he)
              | exact Rows.mono h (fun _ _ he => ih he)
        | halt x w' => cases x <;> simp only [Oper.upon] at h ⊢ <;> exact h
      · exact .inr ⟨h1, h2⟩
    · rename_i hw
      rw [if_neg hw] at h
      exact ih h
theorem stepN (h : ∀ w, On W w → wpList P ops (Exit.then (fun a' w' => On W w' ∧ Ord P ops Q tail l a' w') Q) [o] a w) (hi : ops[i]? = some o)
    (hw : Region.wanted o (yielded ops a.tmps) = true) : Ord P ops Q tail ((i, .N) :: l) a W := by
  refine ⟨?_⟩
  simp only [wpOrd, hi]
  rw [if_pos hw]
  exact fun w hS => wpList_mono_normal (fun a w ⟨h1, h2⟩ => ⟨h1, h2.out⟩) (h w hS)
theorem skip {k : K} (h : Ord P ops Q tail l (a.put (some N) undef) W) (hi : ops[i]? = some o) (hN : o.dst = some N) (hw : Region.wanted o (yielded ops a.tmps) = false) : Ord P ops Q tail ((i, k) :: l) a W := by
  refine ⟨?_⟩
  simp only [wpOrd, hi]
  rw [if_neg (by simp [hw]), hN]
  exact h.out
theorem tail_ {os : List Oper} (h : ∀ w, On W w → wpList P ops Q os a w) (hos : (tail.filterMap fun i => ops[i]?) = os := by simp only [List.filterMap_cons, List.filterMap_nil, List.getElem?_toArray, List.getElem?_cons_zero, List.getElem?_cons_succ]; rfl) : Ord P ops Q tail [] a W := by
  subst hos
  exact ⟨h⟩
end
end Go.Proofs.YtgemaohdlibboaaGreatDoor.RegD
namespace Go.Proofs.YtgemaohdlibboaaGreatDoor.HD
open Go Go.RowKit Go.Proofs.YtgemaohdlibboaaGreatDoorW.PrintWords Go.Proofs.YtgemaohdlibboaaGreatDoorW.PrintLast Go.Proofs.YtgemaohdlibboaaGreatDoor.H
open Go.Proofs.YtgemaohdlibboaaGreatDoor.RegD (On on_draw)
set_option linter.unusedVariables false
/-! Steps inside a region that draws. -/
section
variable {P : Program} {ops : Array Oper} {Q : Exit → Act → World → Prop} {i : Nat} {tail : List Nat} {l : List (Nat × Reg.K)} {a a' : Act} {W : World} {o : Oper} {N : Tmp}
theorem nAt_call {f : FuncId} {fn : Func} {xs : Array Operand} {ts : Array TypeId} {args : Array Value} {w : World} {R : Value → World → Prop} (hf : P.funcs[f]? = some fn) (hname : (fn.name == "runtime.NumGoroutine") = false) (hb : fn.body.isSome = true)
    (hop : o.op = .call { callee := .value (.func f), args := xs, argTypes := ts }) (hargs : xs.map a.eval = args) (h : Calls P f args w fun e w' => ∃ u, e = .returned u ∧ R u w') : Reg.nAt P o a w R := by
  have he := enters_ hf hname hb args w
  have hrun : (execOp a.eval o).run P w = .ok (.enter f args) w := by
    unfold execOp
    simp [hop, resolve, Deferred.ofValue, invoke, Act.eval, hargs, he]
  unfold Reg.nAt
  rw [hrun]
  exact h
/-- A call that hands back one value. -/
theorem callC {f : FuncId} {fn : Func} {xs : Array Operand} {ts : Array TypeId} {args : Array Value} (v : Value) (hf : P.funcs[f]? = some fn)
    (h : ∀ w, On W w → Calls P f args w fun e w' => e = .returned v ∧ On w w') (rest : RegD.Ord P ops Q tail l a' W) (hi : ops[i]? = some o := by rfl) (hN : o.dst = some N := by rfl)
    (hop : o.op = .call { callee := .value (.func f), args := xs, argTypes := ts } := by rfl) (hargs : xs.map a.eval = args := by (try simp only [List.map_toArray, List.map_cons, List.map_nil]); rfl)
    (hname : (fn.name == "runtime.NumGoroutine") = false := by kernel_rfl) (hb : fn.body.isSome = true := by rfl)
    (hw : Region.wanted o (yielded ops a.tmps) = true := by with_unfolding_all rfl) (ha : a.put (some N) v = a' := by simp only [Act.put, List.setIfInBounds_toArray, List.set_cons_zero, List.set_cons_succ]; rfl) : RegD.Ord P ops Q tail ((i, .C) :: l) a W :=
  RegD.stepC (v := v) (fun w hS => nAt_call hf hname hb hop hargs ((h w hS).mono fun e w' ⟨he, hS'⟩ => ⟨v, he, rfl, hS.trans hS'⟩)) (ha ▸ rest) hi hN hw
/-- A call of which more is told: what follows stands behind it. -/
theorem callN {f : FuncId} {fn : Func} {xs : Array Operand} {ts : Array TypeId} {args : Array Value} (hf : P.funcs[f]? = some fn)
    (h : ∀ w, On W w → Calls P f args w fun e w' => ∃ v, e = .returned v ∧ On w w' ∧ ∀ a', a' = a.put (some N) v → RegD.Ord P ops Q tail l a' w') (hi : ops[i]? = some o := by rfl) (hN : o.dst = some N := by rfl)
    (hop : o.op = .call { callee := .value (.func f), args := xs, argTypes := ts } := by rfl) (hargs : xs.map a.eval = args := by (try simp only [List.map_toArray, List.map_cons, List.map_nil]); rfl)
    (hname : (fn.name == "runtime.NumGoroutine") = false := by kernel_rfl) (hb : fn.body.isSome = true := by rfl)
    (hw : Region.wanted o (yielded ops a.tmps) = true := by rfl) : RegD.Ord P ops Q tail ((i, .N) :: l) a W := by
  refine RegD.stepN (fun w hS => ?_) hi hw
  unfold wpList
  rw [if_pos hw]
  refine .inl (Reg.wp_of_nAt (nAt_call hf hname hb hop hargs ((h w hS).mono fun e w' ⟨v, he, hon, hk⟩ => ⟨v, he, ?_⟩)))
  rw [hN]
  exact ⟨hS.trans hon, hk _ rfl⟩
/-- A read, a sum, an address. -/
theorem sL {v : Value} (h : RegD.Ord P ops Q tail l a' W) (hi : ops[i]? = some o := by rfl) (hN : o.dst = some N := by rfl) (hw : Region.wanted o (yielded ops a.tmps) = true := by rfl)
    (hy : ∀ w, On W w → (execOp a.eval o).run P w = .ok (.value v) w := by intro w' hS; have hA := RegD.On.eq hS; clear hS; (go_simp; first | done | rfl))
    (ha : a.put (some N) v = a' := by simp only [Act.put, List.setIfInBounds_toArray, List.set_cons_zero, List.set_cons_succ]; rfl) : RegD.Ord P ops Q tail ((i, .L) :: l) a W := RegD.stepL hy (ha ▸ h) hi hN hw
/-- What asks the world nothing. -/
theorem sQ {v : Value} (h : RegD.Ord P ops Q tail l a' W) (hi : ops[i]? = some o := by rfl) (hN : o.dst = some N := by rfl) (hw : Region.wanted o (yielded ops a.tmps) = true := by rfl)
    (hy : ∀ w, (execOp a.eval o).run P w = .ok (.value v) w := by intro w'; (go_simp; first | done | rfl))
    (ha : a.put (some N) v = a' := by simp only [Act.put, List.setIfInBounds_toArray, List.set_cons_zero, List.set_cons_succ]; rfl) : RegD.Ord P ops Q tail ((i, .P) :: l) a W := RegD.stepP hy (ha ▸ h) hi hN hw
/-- Sums and differences whose bounds are known. -/
theorem sS {x y : Operand} {m n : Int} {t t2 : TypeId} (h : RegD.Ord P ops Q tail l a' W) (hi : ops[i]? = some o := by rfl) (hN : o.dst = some N := by rfl) (hop : o.op = .binOp .sub t x y t2 := by rfl) (hw : Region.wanted o (yielded ops a.tmps) = true := by rfl)
    (hx : a.eval x = .int .i64 m := by rfl) (hy : a.eval y = .int .i64 n := by rfl) {r : Int} (hb : IntKind.i64.wrap (m - n) = r := by first | (with_reducible assumption) | exact IntWalk.i64_in _ (by omega))
    (ha : a.put (some N) (.int .i64 r) = a' := by simp only [Act.put, List.setIfInBounds_toArray, List.set_cons_zero, List.set_cons_succ]; rfl) : RegD.Ord P ops Q tail ((i, .L) :: l) a W :=
  RegD.stepL (fun w _ => by
    subst hb
    unfold execOp
    simp only [hop, hx, hy]
    rfl) (ha ▸ h) hi hN hw
theorem sA {x y : Operand} {m n : Int} {t t2 : TypeId} (h : RegD.Ord P ops Q tail l a' W) (hi : ops[i]? = some o := by rfl) (hN : o.dst = some N := by rfl) (hop : o.op = .binOp .add t x y t2 := by rfl) (hw : Region.wanted o (yielded ops a.tmps) = true := by rfl)
    (hx : a.eval x = .int .i64 m := by rfl) (hy : a.eval y = .int .i64 n := by rfl) {r : Int} (hb : IntKind.i64.wrap (m + n) = r := by first | (with_reducible assumption) | exact IntWalk.i64_in _ (by omega))
    (ha : a.put (some N) (.int .i64 r) = a' := by simp only [Act.put, List.setIfInBounds_toArray, List.set_cons_zero, List.set_cons_succ]; rfl) : RegD.Ord P ops Q tail ((i, .L) :: l) a W :=
  RegD.stepL (fun w _ => by
    subst hb
    unfold execOp
    simp only [hop, hx, hy]
    rfl) (ha ▸ h) hi hN hw
/-- A choice, decided. -/
theorem sP {v : Value} {c x y : Operand} {b : Bool} (h : RegD.Ord P ops Q tail l a' W) (hi : ops[i]? = some o := by rfl) (hN : o.dst = some N := by rfl) (hop : o.op = .pick c x y := by rfl) (hw : Region.wanted o (yielded ops a.tmps) = true := by rfl)
    (hc : a.eval c = .bool b := by rfl) (hv : (if b then a.eval x else a.eval y) = v := by (go_simp; first | done | rfl))
    (ha : a.put (some N) v = a' := by simp only [Act.put, List.setIfInBounds_toArray, List.set_cons_zero, List.set_cons_succ]; rfl) : RegD.Ord P ops Q tail ((i, .L) :: l) a W :=
  RegD.stepL (fun w _ => by unfold execOp; simp only [hop, hc]; subst hv; cases b <;> rfl) (ha ▸ h) hi hN hw
/-- An operation whose guard is off. -/
theorem sO {k : Reg.K} (h : RegD.Ord P ops Q tail l a' W) (hi : ops[i]? = some o := by rfl) (hN : o.dst = some N := by rfl) (hw : Region.wanted o (yielded ops a.tmps) = false := by with_unfolding_all rfl)
    (ha : a.put (some N) undef = a' := by simp only [Act.put, List.setIfInBounds_toArray, List.set_cons_zero, List.set_cons_succ]; rfl) : RegD.Ord P ops Q tail ((i, k) :: l) a W := RegD.skip (ha ▸ h) hi hN hw
end
end Go.Proofs.YtgemaohdlibboaaGreatDoor.HD
/- Walks: the program's order of facts, in the form that SortFunc asks for. No condition. -/
namespace Go.Proofs.YtgemaohdlibboaaGreatDoor.HD
open Go Go.RowKit Go.Proofs.YtgemaohdlibboaaGreatDoorW.PrintWords Go.Proofs.YtgemaohdlibboaaGreatDoorW.PrintLast Go.Proofs.YtgemaohdlibboaaGreatDoor.H
open Go.Proofs.YtgemaohdlibboaaGreatDoor.RegD (On on_draw)
set_option maxHeartbeats 1000000
set_option maxRecDepth 100000
set_option linter.unusedVariables false
set_option linter.unusedSimpArgs false

theorem grown_of_on {W w : World} (h : On W w) : ∃ q os, w = Go.Sort.grow (W.drewN q) os := by
  obtain ⟨p, e⟩ := regrown_of_below h.low
  refine ⟨w.drawn - W.drawn, p.os, ?_⟩
  have hd : p.d = w.drawn := by rw [e]; rfl
  have := h.drawn
  rw [show W.drewN (w.drawn - W.drawn) = redrawn W p.d by unfold World.drewN redrawn; rw [hd, show W.drawn + (w.drawn - W.drawn) = w.drawn by omega]]
  exact e
theorem isNaN_calls (w : World) (v : Int) : Calls Tryz.prog 171 #[.int .i64 v] w fun e w' => e = .returned (.bool false) ∧ On w w' := by
  go_enter Tryz.func171, Tryz.ntmps171
  go_wp2
  go_ret
  exact ⟨by simp, On.refl _⟩
theorem cmpCompare_calls (w : World) (a b : Int) : Calls Tryz.prog 120 #[.int .i64 a, .int .i64 b] w fun e w' => e = .returned (.int .i64 (cmpI a b)) ∧ On w w' := by
  by_cases h1 : a < b
  · have h1b : decide (a < b) = true := decide_eq_true h1
    go_enter Tryz.func120, Tryz.ntmps120
    go_wp2_with (first | (go_at_call 171; refine (isNaN_calls w _).mono ?_; rintro e w1 ⟨rfl, hb1⟩) | (go_at_call 171; refine (isNaN_calls w1 _).mono ?_; rintro e w2 ⟨rfl, hb2⟩))
    go_ret
    exact ⟨ret_int (by unfold cmpI; rw [if_pos (of_decide_eq_true h1b)]), hb1.trans hb2⟩
  · have h1b : decide (a < b) = false := decide_eq_false h1
    by_cases h2 : b < a
    · have h2b : decide (b < a) = true := decide_eq_true h2
      go_enter Tryz.func120, Tryz.ntmps120
      go_wp2_with (first | (go_at_call 171; refine (isNaN_calls w _).mono ?_; rintro e w1 ⟨rfl, hb1⟩) | (go_at_call 171; refine (isNaN_calls w1 _).mono ?_; rintro e w2 ⟨rfl, hb2⟩))
      go_ret
      exact ⟨ret_int (by unfold cmpI; rw [if_neg (of_decide_eq_false h1b), if_pos (of_decide_eq_true h2b)]), hb1.trans hb2⟩
    · have h2b : decide (b < a) = false := decide_eq_false h2
      go_enter Tryz.func120, Tryz.ntmps120
      go_wp2_with (first | (go_at_call 171; refine (isNaN_calls w _).mono ?_; rintro e w1 ⟨rfl, hb1⟩) | (go_at_call 171; refine (isNaN_calls w1 _).mono ?_; rintro e w2 ⟨rfl, hb2⟩))
      go_ret
      exact ⟨ret_int (by unfold cmpI; rw [if_neg (of_decide_eq_false h1b), if_neg (of_decide_eq_false h2b)]), hb1.trans hb2⟩
theorem slicesCompare_calls (w : World) (A B : Option Addr) (c d : Nat) (a b : List Int) (ha : Ints w A c a) (hb : Ints w B d b) : Calls Tryz.prog 121 #[.slice A a.length c, .slice B b.length d] w fun e w' => e = .returned (.int .i64 (ints a b)) ∧ On w w' := by
  have hma := ha.max
  have hmb := hb.max
  go_enter Tryz.func121, Tryz.ntmps121
  go_wp2
  go_loopw [11] (fun v wr => ∃ k : Nat, k ≤ a.length ∧ k ≤ b.length ∧ v = .int .i64 k ∧ Hid (ints (a.drop k) (b.drop k) = ints a b) ∧ On w wr) (fun v _ => a.length - (intOf v).toNat)
  case atStart => exact ⟨0, Nat.zero_le _, Nat.zero_le _, rfl, rfl, On.refl _⟩
  case round =>
    obtain ⟨k, hk1, hk2, rfl, hp, hB⟩ := hrel
    by_cases h1 : k < a.length
    · obtain ⟨ad, rfl, hx⟩ := (ha.on hB.low).at k h1
      by_cases h2 : k < b.length
      · obtain ⟨bd, rfl, hy⟩ := (hb.on hB.low).at k h2
        have h2n : decide (b.length ≤ k) = false := decide_eq_false (by omega)
        have hst := Aside0.mk ((ints_stepI a b k h1 h2).symm.trans hp.out)
        clear hp
        by_cases h3 : cmpI a[k] b[k] = 0
        · have h3' := Aside0.mk h3
          have h3b : (cmpI a[k] b[k] != 0) = false := by simp [h3]
          clear h3
          go_wp2_with (go_at_call 120; refine (cmpCompare_calls _ _ _).mono ?_; rintro e w3 ⟨rfl, hb3⟩)
          go_roundw
          case rel => exact ⟨k + 1, by omega, by omega, by go_num, (by have := hst.out; rwa [if_pos h3'.out] at this : _ = _), hB.trans hb3⟩
          case measure => simp [intOf]; omega
        · have h3' := Aside0.mk h3
          have h3b : (cmpI a[k] b[k] != 0) = true := by simp [h3]
          clear h3
          go_wp2_with (go_at_call 120; refine (cmpCompare_calls _ _ _).mono ?_; rintro e w3 ⟨rfl, hb3⟩)
          go_ret
          exact ⟨ret_int (by have := hst.out; rwa [if_neg h3'.out] at this), hB.trans hb3⟩
      · have hb0 : b.drop k = [] := List.drop_of_length_le (by omega)
        have h2n : decide (b.length ≤ k) = true := decide_eq_true (by omega)
        have hp' := Aside0.mk hp.out
        clear hp
        go_wp2
        go_ret
        exact ⟨ret_int (by rw [← hp'.out, hb0, List.drop_eq_getElem_cons h1]; rfl), hB⟩
    · have ha0 : a.drop k = [] := List.drop_of_length_le (by omega)
      have hp' := Aside0.mk hp.out
      clear hp
      by_cases h2 : k < b.length
      · have h4 : a.length < b.length := by omega
        go_wp2
        go_ret
        exact ⟨ret_int (by rw [← hp'.out, ha0, List.drop_eq_getElem_cons h2]; rfl), hB⟩
      · have hb0 : b.drop k = [] := List.drop_of_length_le (by omega)
        have h4 : ¬ a.length < b.length := by omega
        go_wp2
        go_ret
        exact ⟨ret_int (by rw [← hp'.out, ha0, hb0]; rfl), hB⟩
theorem cmpOr_calls (w : World) (A c) (l : List Int) (h : Ints w A c l) : Calls Tryz.prog 119 #[.slice A l.length c] w fun e w' => e = .returned (.int .i64 (orFrom l)) ∧ On w w' := by
  have hmax := h.max
  go_enter Tryz.func119, Tryz.ntmps119
  go_wp2
  go_loop [8] (fun v => ∃ k : Nat, k ≤ l.length ∧ v = .int .i64 k ∧ Hid (orFrom (l.drop k) = orFrom l)) (fun v => l.length - (intOf v).toNat)
  case atStart => exact ⟨0, Nat.zero_le _, rfl, rfl⟩
  case round =>
    obtain ⟨k, hk, rfl, hp⟩ := hrel
    by_cases hlt : k < l.length
    · obtain ⟨ad, rfl, hx⟩ := h.at k hlt
      have hst := Aside0.mk ((orFrom_step l k hlt).symm.trans hp.out)
      clear hp
      by_cases h3 : l[k] = 0
      · have h3' := Aside0.mk h3
        have h3b : (l[k] != 0) = false := by simp [h3]
        clear h3
        go_wp2
        go_round
        case rel => exact ⟨k + 1, by omega, by go_num, (by have := hst.out; rwa [if_pos h3'.out] at this : _ = _)⟩
        case measure => simp [intOf]; omega
      · have h3' := Aside0.mk h3
        have h3b : (l[k] != 0) = true := by simp [h3]
        clear h3
        go_wp2
        go_ret
        exact ⟨ret_int (by have := hst.out; rwa [if_neg h3'.out] at this), On.refl _⟩
    · go_wp2
      go_ret
      exact ⟨ret_int (by rw [← hp.out, List.drop_of_length_le (by omega)]; rfl), On.refl _⟩
theorem iCompareFacts_calls (w : World) (A0 c0 A1 c1) (f g : Fct) (h0 : Ints w A0 c0 f.2) (h1 : Ints w A1 c1 g.2) : Calls Tryz.prog 48 #[.agg #[.int .i64 f.1, .slice A0 f.2.length c0], .agg #[.int .i64 g.1, .slice A1 g.2.length c1]] w fun e w' => e = .returned (.int .i64 (cmpF f g)) ∧ On w w' := by
  have hb0 := Aside0.mk (On.alloc (On.alloc (On.refl w) (.cells #[.int .i64 f.1, .slice A0 f.2.length c0] 60)) (.cells #[.int .i64 g.1, .slice A1 g.2.length c1] 60))
  go_enter Tryz.func48, Tryz.ntmps48
  go_wp2
  refine RegD.region [(0,.L),(1,.L),(2,.L),(3,.L),(4,.C),(5,.L),(6,.L),(7,.L),(8,.L),(9,.C)] [10,11,12] (by kernel_rfl) (by kernel_rfl) ?_
  repeat first | refine sP ?_ | refine sS ?_ | refine sA ?_ | refine sL ?_ | refine sQ ?_ | refine sO ?_
  refine callC (.int .i64 (cmpI f.1 g.1)) Tryz.func120 (fun w' hS => ?_) ?_
  focus exact cmpCompare_calls w' _ _
  repeat first | refine sP ?_ | refine sS ?_ | refine sA ?_ | refine sL ?_ | refine sQ ?_ | refine sO ?_
  refine callC (.int .i64 (ints f.2 g.2)) Tryz.func121 (fun w' hS => ?_) ?_
  focus exact slicesCompare_calls w' _ _ _ _ f.2 g.2 (h0.on (hb0.out.trans hS).low) (h1.on (hb0.out.trans hS).low)
  repeat first | refine sP ?_ | refine sS ?_ | refine sA ?_ | refine sL ?_ | refine sQ ?_ | refine sO ?_
  refine RegD.tail_ fun w2 hS => ?_
  have hc := cmpI_bd f.1 g.1
  have hi := ints_bd f.2 g.2
  have hr := Aside0.mk ((ints2 w2 (cmpI f.1 g.1) (ints f.2 g.2)).2 (fun x hx => by simp at hx; rcases hx with rfl | rfl <;> omega))
  clear hc hi
  go_wp2_with (go_at_call 119; refine (cmpOr_calls _ _ _ _ hr.out).mono ?_; rintro e w3 ⟨rfl, hb3⟩)
  go_ret
  refine ⟨ret_int ?_, (hb0.out.trans hS).trans ((On.alloc (On.refl _) _).trans hb3)⟩
  rw [cmpF_or]
  simp only [orFrom]
  by_cases h3 : cmpI f.1 g.1 = 0
  · simp only [h3, if_pos, ne_eq, not_true, if_false]
    by_cases h4 : ints f.2 g.2 = 0
    · rw [if_pos h4, h4]
    · rw [if_neg h4]
  · simp [h3]
theorem cmpGrow_calls (w : World) (A0 c0 A1 c1) (f g : Fct) (h0 : Ints w A0 c0 f.2) (h1 : Ints w A1 c1 g.2) : Calls Tryz.prog 48 #[.agg #[.int .i64 f.1, .slice A0 f.2.length c0], .agg #[.int .i64 g.1, .slice A1 g.2.length c1]] w fun e w' => e = .returned (.int .i64 (cmpF f g)) ∧ ∃ q os, w' = Go.Sort.grow (w.drewN q) os :=
  (iCompareFacts_calls w A0 c0 A1 c1 f g h0 h1).mono fun e w' h => ⟨h.1, grown_of_on h.2⟩
end Go.Proofs.YtgemaohdlibboaaGreatDoor.HD
/- Facts that are read, with their headers: what SortFunc's contract takes and gives. No condition. -/
namespace Go.Proofs.YtgemaohdlibboaaGreatDoor.H
open Go Go.RowKit Go.Proofs.YtgemaohdlibboaaGreatDoorW.PrintWords Go.Proofs.YtgemaohdlibboaaGreatDoorW.PrintLast
open Go.Proofs.YtgemaohdlibboaaGreatDoor.Reg (On on_draw)
set_option maxHeartbeats 4000000
set_option maxRecDepth 100000
set_option linter.unusedVariables false
set_option linter.unusedSimpArgs false

/-- A fact of the call's own: its header, what it reads as. -/
structure Fa (w : World) (lo : Nat) where
  h : Hdr
  f : Fct
  n : h.1 = f.1
  o : OI w lo (hdV h) f.2
  r : InR f.2
instance (w : World) (lo : Nat) : Inhabited (Fa w lo) := ⟨⟨((0 : Int), none, 0, 0), ((0 : Int), []), rfl, World.ownsRow_nil _ _ _ _, fun x hx => by cases hx⟩⟩
abbrev encA {w : World} {lo : Nat} (x : Fa w lo) : List Value := encH x.h
abbrev cmpA {w : World} {lo : Nat} (x y : Fa w lo) : Int := cmpF x.f y.f
theorem swoA {w : World} {lo : Nat} : Go.Sort.SWO (Go.Proofs.ltOf (cmpA (w := w) (lo := lo))) := by
  refine ⟨fun x => ?_, fun x y z h1 h2 => ?_, fun x y z h1 h2 => ?_⟩
  · simp [Go.Proofs.ltOf, cmpA, cmpF_self]
  · simp only [Go.Proofs.ltOf, decide_eq_true_eq] at *
    exact cmpF_trans _ _ _ h1 h2
  · simp only [Go.Proofs.ltOf, decide_eq_false_iff_not, cmpA] at *
    intro h3
    have h4 := cmpF_neg y.f z.f
    by_cases h5 : cmpF y.f z.f = 0
    · rw [(cmpF_eq _ _).1 h5] at h1; exact h1 h3
    · exact h1 (cmpF_trans _ _ _ h3 (by omega))
theorem mkFa {w : World} {lo : Nat} : ∀ (hs : List Hdr) (fs : List Fct), hs.length = fs.length → (∀ (i : Nat) (a : Hdr) (f : Fct), hs[i]? = some a → fs[i]? = some f → a.1 = f.1 ∧ OI w lo (hdV a) f.2 ∧ InR f.2) → ∃ d : List (Fa w lo), d.map Fa.h = hs ∧ d.map Fa.f = fs
  | [], [], _, _ => ⟨[], rfl, rfl⟩
  | [], _ :: _, h, _ => by simp at h
  | _ :: _, [], h, _ => by simp at h
  | a :: hs, f :: fs, h, k => by
    obtain ⟨d, e1, e2⟩ := mkFa hs fs (by simpa using h) fun i b g hb hg => k (i + 1) b g hb hg
    obtain ⟨k1, k2, k3⟩ := k 0 a f rfl rfl
    exact ⟨⟨a, f, k1, k2, k3⟩ :: d, by rw [List.map_cons, e1], by rw [List.map_cons, e2]⟩
/-- Rows that own no block in common. -/
def Off (a b : Hdr) : Prop := ∀ k, (hdV a).ownBlock = some k → (hdV b).ownBlock = some k → False
theorem Sep.pair {w : World} {lo : Nat} {hs : List Hdr} {fs : List Fct} (h : Sep w lo hs fs) : hs.Pairwise Off := by
  rw [List.pairwise_iff_getElem]
  intro i j hi hj hij k h1 h2
  have := h.apart i j _ _ k (List.getElem?_eq_getElem hi) (List.getElem?_eq_getElem hj) h1 h2
  omega
theorem sep_of {w : World} {lo : Nat} {d : List (Fa w lo)} (h : (d.map Fa.h).Pairwise Off) : Sep w lo (d.map Fa.h) (d.map Fa.f) := by
  refine ⟨by simp, fun i a f ha hf => ?_, fun i j a b k ha hb h1 h2 => ?_⟩
  · rw [List.getElem?_map] at ha hf
    obtain ⟨x, hx, rfl⟩ := Option.map_eq_some_iff.1 ha
    rw [hx] at hf
    injection hf with hf
    subst hf
    exact ⟨x.n, x.o, x.r⟩
  · rw [List.pairwise_iff_getElem] at h
    obtain ⟨hi, rfl⟩ := List.getElem?_eq_some_iff.1 ha
    obtain ⟨hj, rfl⟩ := List.getElem?_eq_some_iff.1 hb
    rcases Nat.lt_trichotomy i j with h3 | h3 | h3
    · exact (h i j hi hj h3 k h1 h2).elim
    · exact h3
    · exact (h j i hj hi h3 k h2 h1).elim
theorem off_perm {a b : List Hdr} (h : a.Perm b) (k : a.Pairwise Off) : b.Pairwise Off :=
  (h.pairwise_iff (fun {x y} hxy k h1 h2 => hxy k h2 h1)).1 k
theorem flatA_list {w : World} {lo : Nat} (d : List (Fa w lo)) : (Go.Sort.flatK encA 2 d.toArray).toList = (d.map Fa.h).flatMap encH := by
  have hl : ((d.map Fa.h).flatMap encH).length = d.length * 2 := by rw [flat_len (enc := encH) (sz := 2) (fun _ => rfl)]; simp
  apply List.ext_getElem?
  intro j
  by_cases hj : j < d.length * 2
  · have h1 := Go.Sort.get_flatK encA 2 d.toArray j (by simpa using hj)
    have hi : j / 2 < d.length := by omega
    have h2 := flat_get (enc := encH) (sz := 2) (fun _ => rfl) (d.map Fa.h) (j / 2) (j % 2) (by simpa using hi) (by omega)
    rw [show j / 2 * 2 + j % 2 = j by omega] at h2
    rw [h2]
    have hs : j < (Go.Sort.flatK encA 2 d.toArray).size := by simpa using hj
    rw [Array.getElem?_toList, Array.getElem?_eq_getElem hs, List.getElem_map]
    rw [getElem!_pos _ j hs, getElem!_pos _ (j / 2) (by simpa using hi)] at h1
    rw [h1]
    have hm : j % 2 < (encH d[j / 2].h).length := by show _ < 2; omega
    rw [List.getElem?_eq_getElem hm]
    simp only [List.getElem_toArray]
    rw [getElem!_pos (encA d[j / 2]) (j % 2) hm]
  · rw [Array.getElem?_toList, Array.getElem?_eq_none (by simp; omega), List.getElem?_eq_none (by rw [hl]; omega)]
theorem holdsA {w w0 : World} {lo lo2 g c : Nat} (d : List (Fa w0 lo2)) (h : OH w lo (.slice (some ⟨g, 0, none⟩) d.length c) (d.map Fa.h)) : Go.Sort.HoldsK encA 2 w g 0 d.toArray := by
  intro j hj
  have hj' : j < d.length * 2 := by simpa using hj
  have e := flatA_list d
  have h : w.ownsRow lo 60 2 (.slice (some ⟨g, 0, none⟩) d.length c) d.length ((d.map Fa.h).flatMap encH) := by
    have h2 := h
    unfold OH at h2
    rwa [List.length_map] at h2
  constructor
  · have h1 := h.cellAt j hj'
    rw [Nat.zero_add, h1, ← e, Array.getElem?_toList, Array.getElem?_eq_getElem hj, getElem!_pos _ j hj]
    rfl
  · rw [Nat.zero_add]; exact own_frozen h j
theorem ex_sortK {w : World} {α : Type} [Inhabited α] (enc : α → List Value) (g n : Nat) (d : Array α) (os : Array Obj) : Ex (fun b => b = g) w (Go.Proofs.sortWorldK enc 2 w g 0 n d os) := by
  unfold Go.Proofs.sortWorldK
  have hz : (Go.Sort.putRowK enc 2 (Go.Sort.ahead w n) g 0 d).heap.size = w.heap.size := by rw [Go.Sort.size_putRowK]; rfl
  refine ⟨rfl, rfl, rfl, ?_, fun k hk hn => ?_⟩
  · rw [Go.Sort.size_grow, hz]; omega
  · show ((Go.Sort.putRowK enc 2 (Go.Sort.ahead w n) g 0 d).heap ++ os)[k]? = _
    rw [Array.getElem?_append_left (by omega)]
    unfold Go.Sort.putRowK Go.Sort.putRow Go.Sort.mapBlock
    simp only [Array.getElem?_modify]
    rw [if_neg (fun e => hn e.symm)]
    rfl
theorem own_sorted {w w0 : World} {lo lo2 g c : Nat} (d d' : List (Fa w0 lo2)) (hl : d'.length = d.length) (n : Nat) (os : Array Obj) (h : OH w lo (.slice (some ⟨g, 0, none⟩) d.length c) (d.map Fa.h)) : OH (Go.Proofs.sortWorldK encA 2 w g 0 n d'.toArray os) lo (.slice (some ⟨g, 0, none⟩) d.length c) (d'.map Fa.h) := by
  unfold Go.Proofs.sortWorldK Go.Sort.putRowK
  have h0 := holdsA d h
  have e := Go.Lib.putRow_eq_setCells id w g 0 (Go.Sort.flatK encA 2 d.toArray) (Go.Sort.flatK encA 2 d'.toArray).toList n h0 (by simp [hl])
  rw [Array.toArray_toList] at e
  rw [e, List.map_id, flatA_list]
  have h1 : (w.drewN n).ownsRow lo 60 2 (.slice (some ⟨g, 0, none⟩) (d.map Fa.h).length c) (d.map Fa.h).length ((d.map Fa.h).flatMap encH) := by
    have h2 : w.ownsRow lo 60 2 (.slice (some ⟨g, 0, none⟩) (d.map Fa.h).length c) (d.map Fa.h).length ((d.map Fa.h).flatMap encH) := by
      have h3 := h
      rw [show d.length = (d.map Fa.h).length by simp] at h3
      exact h3
    exact own_move h2 (fun _ _ => rfl)
  have hlen : ((d'.map Fa.h).flatMap encH).length = (d.map Fa.h).length * 2 := by rw [flat_len (enc := encH) (sz := 2) (fun _ => rfl)]; simp [hl]
  obtain ⟨h2, _⟩ := own_sets ((d'.map Fa.h).flatMap encH) 0 _ _ h1 (by rw [hlen]; omega)
  rw [List.take_zero, List.nil_append, List.drop_of_length_le (by rw [hlen, flat_len (enc := encH) (sz := 2) (fun _ => rfl)]; omega), List.append_nil] at h2
  have h3 : (Go.Sort.grow ((w.drewN n).setCells g 0 ((d'.map Fa.h).flatMap encH)) os).ownsRow lo 60 2 (.slice (some ⟨g, 0, none⟩) (d.map Fa.h).length c) (d.map Fa.h).length ((d'.map Fa.h).flatMap encH) := by
    refine own_move h2 fun k hk => ?_
    have := own_lt h2 k hk
    show (((w.drewN n).setCells g 0 ((d'.map Fa.h).flatMap encH)).heap ++ os)[k]? = _
    rw [Array.getElem?_append_left this]
  show World.ownsRow _ _ _ _ _ (d'.map Fa.h).length _
  rw [show (d'.map Fa.h).length = (d.map Fa.h).length by simp [hl], show d.length = (d.map Fa.h).length by simp]
  exact h3
theorem cmpLaysA {w : World} {lo g c n : Nat} {hs : List Hdr} (h : OH w lo (.slice (some ⟨g, 0, none⟩) n c) hs) (size : Nat) : Go.Proofs.CmpLays Tryz.prog 48 #[] encA 2 (cmpA (w := w) (lo := lo)) g 0 size w := by
  intro m os dk hs x y
  have hE : Ex (fun b => b = g) w (Go.Proofs.sortWorldK encA 2 w g 0 m dk os) := ex_sortK encA g m dk os
  have hne : ∀ z : Fa w lo, OI (Go.Proofs.sortWorldK encA 2 w g 0 m dk os) lo (hdV z.h) z.f.2 := fun z => own_ex z.o hE (fun i hi e => own_ne_blk z.o h (by decide) hi (by rw [e]; rfl))
  obtain ⟨A0, c0, e0, h0⟩ := OI.rd (hne x) x.r
  obtain ⟨A1, c1, e1, h1⟩ := OI.rd (hne y) y.r
  have k := HD.cmpGrow_calls (Go.Proofs.sortWorldK encA 2 w g 0 m dk os) A0 c0 A1 c1 x.f y.f h0 h1
  have ex : (Value.agg (encA x).toArray) = .agg #[.int .i64 x.f.1, .slice A0 x.f.2.length c0] := by
    show Value.agg #[.int .i64 x.h.1, hdV x.h] = _
    rw [x.n, e0]
  have ey : (Value.agg (encA y).toArray) = .agg #[.int .i64 y.f.1, .slice A1 y.f.2.length c1] := by
    show Value.agg #[.int .i64 y.h.1, hdV y.h] = _
    rw [y.n, e1]
  rw [ex, ey]
  exact k
end Go.Proofs.YtgemaohdlibboaaGreatDoor.H
/- The library's SortFunc at facts: the shelf's contract laid for this program. Printed by a program of this session. No condition. -/
namespace Go.Proofs.YtgemaohdlibboaaGreatDoor.H
open Go Go.RowKit Go.Shelf Go.Proofs.YtgemaohdlibboaaGreatDoorW.PrintWords Go.Proofs.YtgemaohdlibboaaGreatDoorW.PrintLast
open Go.Proofs.YtgemaohdlibboaaGreatDoor.Reg (On on_draw)
set_option maxHeartbeats 4000000
set_option maxRecDepth 100000
set_option linter.unusedVariables false
def sortRen : Go.Shelf.Ren := ⟨fun | 6 => 153 | 14 => 185 | 15 => 158 | 20 => 211 | 21 => 212 | 22 => 213 | 23 => 214 | 24 => 215 | 25 => 216 | 26 => 217 | 27 => 218 | 28 => 195 | 29 => 196 | 46 => 228 | 47 => 220 | 48 => 221 | 49 => 229 | 50 => 230 | 57 => 236 | n => n, fun | 0 => 0 | 3 => 3 | 4 => 4 | 5 => 5 | 9 => 9 | 22 => 23 | 24 => 60 | 25 => 69 | 39 => 164 | 45 => 180 | 46 => 181 | 50 => 123 | 53 => 188 | 55 => 190 | 66 => 204 | 70 => 208 | 76 => 215 | 77 => 216 | n => n, fun | n => n⟩
theorem laysSortF : Go.Proofs.SlLaysF0.n6 Tryz.prog sortRen := {
  mixed := by kernel_rfl
  f6 := ⟨Tryz.f153.name, by decide, Tryz.func153.trans (congrArg some (by kernel_rfl))⟩
  f14 := ⟨Tryz.f185.name, by decide, Tryz.func185.trans (congrArg some (by kernel_rfl))⟩
  f15 := Tryz.func158.trans (congrArg some (by kernel_rfl))
  f20 := ⟨Tryz.f211.name, by decide, Tryz.func211.trans (congrArg some (by kernel_rfl))⟩
  f21 := ⟨Tryz.f212.name, by decide, Tryz.func212.trans (congrArg some (by kernel_rfl))⟩
  f22 := ⟨Tryz.f213.name, by decide, Tryz.func213.trans (congrArg some (by kernel_rfl))⟩
  f23 := ⟨Tryz.f214.name, by decide, Tryz.func214.trans (congrArg some (by kernel_rfl))⟩
  f24 := ⟨Tryz.f215.name, by decide, Tryz.func215.trans (congrArg some (by kernel_rfl))⟩
  f25 := ⟨Tryz.f216.name, by decide, Tryz.func216.trans (congrArg some (by kernel_rfl))⟩
  f26 := ⟨Tryz.f217.name, by decide, Tryz.func217.trans (congrArg some (by kernel_rfl))⟩
  f27 := ⟨Tryz.f218.name, by decide, Tryz.func218.trans (congrArg some (by kernel_rfl))⟩
  f28 := Tryz.func195.trans (congrArg some (by kernel_rfl))
  f29 := Tryz.func196.trans (congrArg some (by kernel_rfl))
  f46 := ⟨Tryz.f228.name, by decide, Tryz.func228.trans (congrArg some (by kernel_rfl))⟩
  f47 := Tryz.func220.trans (congrArg some (by kernel_rfl))
  f48 := Tryz.func221.trans (congrArg some (by kernel_rfl))
  f49 := ⟨Tryz.f229.name, by decide, Tryz.func229.trans (congrArg some (by kernel_rfl))⟩
  f50 := ⟨Tryz.f230.name, by decide, Tryz.func230.trans (congrArg some (by kernel_rfl))⟩
  f57 := ⟨Tryz.f236.name, by decide, Tryz.func236.trans (congrArg some (by kernel_rfl))⟩
  t0 := Tryz.underlying0
  a0 := Tryz.isAgg0
  z0 := Tryz.sizeOf0
  v0 := Tryz.zeroValue0
  t3 := Tryz.underlying3
  a3 := Tryz.isAgg3
  z3 := Tryz.sizeOf3
  v3 := Tryz.zeroValue3
  t4 := Tryz.underlying4
  a4 := Tryz.isAgg4
  z4 := Tryz.sizeOf4
  v4 := Tryz.zeroValue4
  t5 := Tryz.underlying5
  a5 := Tryz.isAgg5
  z5 := Tryz.sizeOf5
  v5 := Tryz.zeroValue5
  t9 := Tryz.underlying9
  a9 := Tryz.isAgg9
  z9 := Tryz.sizeOf9
  v9 := Tryz.zeroValue9
  t22 := Tryz.underlying23
  a22 := Tryz.isAgg23
  z22 := Tryz.sizeOf23
  v22 := Tryz.zeroValue23
  t25 := Tryz.underlying69
  a25 := Tryz.isAgg69
  z25 := Tryz.sizeOf69
  v25 := Tryz.zeroValue69
  t39 := Tryz.underlying164
  a39 := Tryz.isAgg164
  z39 := Tryz.sizeOf164
  v39 := Tryz.zeroValue164
  t45 := Tryz.underlying180
  a45 := Tryz.isAgg180
  z45 := Tryz.sizeOf180
  v45 := Tryz.zeroValue180
  t46 := Tryz.underlying181
  a46 := Tryz.isAgg181
  z46 := Tryz.sizeOf181
  v46 := Tryz.zeroValue181
  t50 := Tryz.underlying123
  a50 := Tryz.isAgg123
  z50 := Tryz.sizeOf123
  v50 := Tryz.zeroValue123
  t53 := Tryz.underlying188
  a53 := Tryz.isAgg188
  z53 := Tryz.sizeOf188
  v53 := Tryz.zeroValue188
  t55 := Tryz.underlying190
  a55 := Tryz.isAgg190
  z55 := Tryz.sizeOf190
  v55 := Tryz.zeroValue190
  t66 := Tryz.underlying204
  a66 := Tryz.isAgg204
  z66 := Tryz.sizeOf204
  v66 := Tryz.zeroValue204
  t70 := Tryz.underlying208
  a70 := Tryz.isAgg208
  z70 := Tryz.sizeOf208
  v70 := Tryz.zeroValue208
  t76 := Tryz.underlying215
  a76 := Tryz.isAgg215
  z76 := Tryz.sizeOf215
  v76 := Tryz.zeroValue215
  t77 := Tryz.underlying216
  a77 := Tryz.isAgg216
  z77 := Tryz.sizeOf216
  v77 := Tryz.zeroValue216 }
theorem SortF_calls (w : World) (lo : Nat) (v : Value) (hs : List Hdr) (fs : List Fct) (hO : OH w lo v hs) (hS : Sep w lo hs fs) (hl : hs.length ≤ 1000000) :
    Calls Tryz.prog 153 #[v, .func (.func 48) #[] #[]] w (Got fun u w' => u = .tuple #[] ∧ ∃ hs' fs', OH w' lo v hs' ∧ Sep w' lo hs' fs' ∧ fs'.Perm fs ∧ fs'.Pairwise (fun f g => ¬ cmpF g f < 0) ∧ Ex (fun b => some b = v.ownBlock) w w' ∧ ∀ b, FB v hs' b → FB v hs b) := by
  rcases hO.2 with ⟨rfl, hn⟩ | ⟨g, cap, cur, rfl, hg, _⟩
  · obtain rfl : hs = [] := List.eq_nil_of_length_eq_zero hn
    obtain rfl : fs = [] := List.eq_nil_of_length_eq_zero hS.len.symm
    refine (Go.Proofs.AnyF.slices_SortFunc_none (ρ := sortRen) laysSortF none 0 (.func (.func 48) #[] #[]) w).mono fun e w' h => ?_
    obtain ⟨rfl, rfl⟩ := h
    exact ⟨_, rfl, rfl, [], [], hO, hS, List.Perm.refl _, List.Pairwise.nil, Ex.refl _ _, fun _ h => h⟩
  · obtain ⟨d, e1, e2⟩ := mkFa hs fs hS.len hS.at_
    have hdl : hs.length = d.length := by rw [← e1]; simp
    have hlt : g < w.heap.size := own_lt hO g rfl
    have hO1 : OH w lo (.slice (some ⟨g, 0, none⟩) d.length cap) (d.map Fa.h) := by rw [e1, ← hdl]; exact hO
    have hc := Go.Proofs.AnyQ.slices_SortFunc (ρ := sortRen) laysSortF 2 Tryz.isAgg60 Tryz.sizeOf60 encA (fun _ => rfl) (fun x u hu => by
      simp only [List.mem_cons, List.not_mem_nil, or_false] at hu
      rcases hu with rfl | rfl <;> rfl) cmpA swoA 48 #[] g 0 cap d.toArray w (enters_of Tryz.func48 (by kernel_rfl) rfl) (cmpLaysA hO _) (holdsA d hO1) hlt (by simp; omega)
    have hz : d.toArray.size = hs.length := by simp [hdl]
    rw [hz] at hc
    refine hc.mono fun e w' h => ?_
    obtain ⟨rfl, d', n, os, hp, hs', rfl⟩ := h
    obtain ⟨hps, _, hpp⟩ := hp
    have hl' : d'.toList.length = d.length := by rw [Array.length_toList, hps]; simp
    have hperm : d'.toList.Perm d := by
      have h1 := hpp
      rw [Array.extract_eq_self_of_le (by omega), Array.extract_eq_self_of_le (by simp; omega)] at h1
      simpa using h1
    have hE := ex_sortK (w := w) (encA (w := w) (lo := lo)) g n d' os
    have hsep : Sep w lo (d'.toList.map Fa.h) (d'.toList.map Fa.f) := sep_of (off_perm (e1 ▸ (hperm.map Fa.h).symm) hS.pair)
    have hO2 := own_sorted d d'.toList hl' n os hO1
    refine ⟨_, rfl, rfl, d'.toList.map Fa.h, d'.toList.map Fa.f, ?_, hsep.ex hE (fun i a b ha hb e => ?_), e2 ▸ hperm.map Fa.f, ?_, Ex.mono hE (fun b e => by rw [e]; rfl), fun b h => ?_⟩
    · rw [hdl]; simpa using hO2
    · exact hsep.ne_row hO ha hb (by rw [show b = g from e]; rfl)
    · rw [List.pairwise_map, List.pairwise_iff_getElem]
      intro i j hi hj hij
      have h1 := hs' i j (Nat.zero_le _) hij (by rw [← hz, ← hps]; simpa using hj)
      rw [getElem!_pos d' j (by simpa using hj), getElem!_pos d' i (by simpa using hi)] at h1
      simp only [Go.Proofs.ltOf, decide_eq_false_iff_not] at h1
      simpa using h1
    · rcases h with h | ⟨i, a, ha, h⟩
      · exact .inl h
      · have hm : a ∈ hs := by
          rw [← e1]
          exact ((hperm.map Fa.h).mem_iff).1 (List.mem_of_getElem? ha)
        obtain ⟨i', hi', e⟩ := List.getElem_of_mem hm
        exact .inr ⟨i', a, by rw [List.getElem?_eq_getElem hi', e], h⟩
end Go.Proofs.YtgemaohdlibboaaGreatDoor.H
/- Walks: the program puts a fact into an instance: facts sorted, each once. No condition. -/
namespace Go.Proofs.YtgemaohdlibboaaGreatDoor.H
open Go Go.RowKit Go.Proofs.YtgemaohdlibboaaGreatDoorW.PrintWords Go.Proofs.YtgemaohdlibboaaGreatDoorW.PrintLast
open Go.Proofs.YtgemaohdlibboaaGreatDoor.Reg (On on_draw)
set_option maxHeartbeats 4000000
set_option maxRecDepth 100000
set_option linter.unusedVariables false
set_option linter.unusedSimpArgs false

theorem row_ne_box {w : World} {lo e sz n b : Nat} {v : Value} {xs : List Value} {cs : Array Value} {t : TypeId} (h : w.ownsRow lo e sz v n xs) (hb : w.heap[b]? = some (.cells cs t (0, 0))) (hne : t ≠ e) : some b ≠ v.ownBlock := fun e1 => by
  obtain ⟨c, hc⟩ := own_typed h b e1.symm
  rw [hb] at hc
  injection hc with hc
  injection hc with _ h3
  exact hne h3
theorem factsSet_calls (w : World) (A n c) (fs : List Fct) (h : Fcts w A c fs) (hn : n = fs.length) (hl : fs.length ≤ 1000000) (hl2 : ∀ f ∈ fs, f.2.length ≤ 2000000) : Calls Tryz.prog 80 #[.slice A n c] w (Got fun v w' => ∃ hs, OH w' w.heap.size v hs ∧ Sep w' w.heap.size hs (setF fs) ∧ On w w') := by
  subst hn
  go_enter Tryz.func80, Tryz.ntmps80
  go_wp2_with (refine gate 5 ?_)
  refine ⟨goesF 5 Tryz.func151 ((factsCopy_calls w A c fs h (by omega) hl2).mono ?_)⟩
  rintro e w1 ⟨v1, rfl, hs, hO, hS, hb1⟩
  refine ⟨_, rfl, ?_⟩
  have hlen := hS.len
  go_wp2_with (refine gate 7 ?_)
  refine ⟨goesF 7 Tryz.func153 ((SortF_calls w1 w.heap.size v1 hs fs hO hS (by omega)).mono ?_)⟩
  rintro e w2 ⟨u2, rfl, rfl, hs2, fs2, hO2, hS2, hp2, hq2, hE2, hF2⟩
  refine ⟨_, rfl, ?_⟩
  go_wp2_with (refine gate 9 ?_)
  refine ⟨goesF 9 Tryz.func154 ((CompactF_calls w2 w.heap.size v1 hs2 fs2 hO2 hS2).mono ?_)⟩
  rintro e w3 ⟨v3, rfl, hs3, hO3, hS3, hE3, hF3⟩
  refine ⟨_, rfl, ?_⟩
  go_wp2
  go_ret
  have hB : On w w3 := Ex.on (Ex.on hb1 hE2 (fun i e => own_base hO i e.symm)) hE3 (fun i e => own_base hO i e.symm)
  refine ⟨_, rfl, hs3, hO3, ?_, hB⟩
  rw [← runs_setF hp2 (hq2.imp fun {a b} h => by omega)]
  exact hS3
end Go.Proofs.YtgemaohdlibboaaGreatDoor.H
/- Walks: the reference puts a fact into an instance, if that is valid. No condition. -/
namespace Go.Proofs.YtgemaohdlibboaaGreatDoor.H
open Go Go.RowKit Go.Proofs.YtgemaohdlibboaaGreatDoorW.PrintWords Go.Proofs.YtgemaohdlibboaaGreatDoorW.PrintLast
open Go.Proofs.YtgemaohdlibboaaGreatDoor.Reg (On on_draw)
set_option maxHeartbeats 4000000
set_option maxRecDepth 100000
set_option linter.unusedVariables false
set_option linter.unusedSimpArgs false

end Go.Proofs.YtgemaohdlibboaaGreatDoor.H
/- Plain: what the law FnInsertDelete asks of insertion and deletion. No condition. -/
namespace Go.Proofs.YtgemaohdlibboaaGreatDoor.H
open Go
set_option maxHeartbeats 1000000
set_option linter.unusedVariables false
set_option linter.unusedSimpArgs false

def srcOk (rs : List Rel) (f : Fct) : Bool := !srcOf rs f.1 || decide ((nuls f.2).length = 0)
theorem factsFrom_src {rs : List Rel} : ∀ {p : Option Fct} {fs : List Fct}, factsFrom rs p fs = true → ∀ f ∈ fs, srcOk rs f = true
  | _, [], _, f, hf => by cases hf
  | p, g :: fs, h, f, hf => by
    simp only [factsFrom, Bool.and_eq_true] at h
    rcases List.mem_cons.1 hf with rfl | hf
    · have := h.1; simp only [okNext, Bool.and_eq_true] at this; exact this.2
    · exact factsFrom_src h.2 f hf
theorem factsFrom_of {rs : List Rel} : ∀ (fs : List Fct) (p : Option Fct), (∀ f ∈ fs, okFact rs f = true) → (∀ f ∈ fs, srcOk rs f = true) → Asc fs → (∀ q, p = some q → ∀ f ∈ fs, cmpF q f < 0) → factsFrom rs p fs = true
  | [], _, _, _, _, _ => by simp [factsFrom]
  | f :: fs, p, h1, hs, h2, h3 => by
    have h4 := List.pairwise_cons.1 h2
    have ih := factsFrom_of (rs := rs) fs (some f) (fun g hg => h1 g (List.mem_cons_of_mem _ hg)) (fun g hg => hs g (List.mem_cons_of_mem _ hg)) h4.2 (fun q hq g hg => by cases hq; exact h4.1 g hg)
    simp only [factsFrom, Bool.and_eq_true]
    refine ⟨?_, ih⟩
    unfold okNext
    rw [h1 f List.mem_cons_self, show (!srcOf rs f.1 || decide ((nuls f.2).length = 0)) = true from hs f List.mem_cons_self]
    cases p with
    | none => rfl
    | some q => show (true && decide (cmpF q f < 0) && true) = true; rw [decide_eq_true (h3 q rfl f List.mem_cons_self)]; rfl
end Go.Proofs.YtgemaohdlibboaaGreatDoor.H
/- Plain: substitutions applied one behind the other. No condition. -/
namespace Go.Proofs.YtgemaohdlibboaaGreatDoor.H
open Go Go.RowKit Go.Proofs.YtgemaohdlibboaaGreatDoorW.PrintWords Go.Proofs.YtgemaohdlibboaaGreatDoorW.PrintLast
set_option linter.unusedVariables false
set_option linter.unusedSimpArgs false

theorem subFrom_of2 : ∀ (ns vs : List Int) (p : Option Int), ns.length = vs.length → (∀ k ∈ ns, 0 ≤ k ∧ k ≤ 39) → (∀ v ∈ vs, okVal v = true) → ns.Pairwise (· < ·) → (∀ q, p = some q → ∀ k ∈ ns, q < k) → subFrom p ns vs = true
  | [], _, _, _, _, _, _, _ => rfl
  | _ :: _, [], _, h, _, _, _, _ => by simp at h
  | k :: ns, v :: vs, p, hl, h1, h2, h3, h4 => by
    rw [List.pairwise_cons] at h3
    have ih := subFrom_of2 ns vs (some k) (by simpa using hl) (fun x hx => h1 x (List.mem_cons_of_mem _ hx)) (fun x hx => h2 x (List.mem_cons_of_mem _ hx)) h3.2 (fun q hq x hx => by cases hq; exact h3.1 x hx)
    simp only [subFrom, Bool.and_eq_true, List.headD_cons, List.tail_cons]
    refine ⟨⟨⟨?_, ?_⟩, h2 v List.mem_cons_self⟩, ih⟩
    · simp only [within, decide_eq_true_eq]; exact h1 k List.mem_cons_self
    · cases p with
      | none => rfl
      | some q => exact decide_eq_true (h4 q rfl k List.mem_cons_self)
theorem okSub_of2 {ns vs : List Int} (hl : ns.length = vs.length) (h1 : ∀ k ∈ ns, 0 ≤ k ∧ k ≤ 39) (h2 : ∀ v ∈ vs, okVal v = true) (h3 : ns.Pairwise (· < ·)) : okSub ns vs = true := by
  unfold okSub
  rw [decide_eq_true hl, subFrom_of2 ns vs none hl h1 h2 h3 (fun q hq => by cases hq)]; rfl
/-- The nulls of either. -/
def cmpN (an bn : List Int) : List Int := ((List.range 40).map fun k : Nat => (k : Int)).filter fun k => decide (k ∈ an) || decide (k ∈ bn)
def cmpV (an av bn bv : List Int) : List Int := (cmpN an bn).map fun k => appV bn bv (appV an av (-1 - k))
theorem mem_cmpN {an bn : List Int} {k : Int} : k ∈ cmpN an bn ↔ (0 ≤ k ∧ k ≤ 39) ∧ (k ∈ an ∨ k ∈ bn) := by
  unfold cmpN
  rw [List.mem_filter, List.mem_map]
  constructor
  · rintro ⟨⟨j, hj, rfl⟩, h⟩
    have := List.mem_range.1 hj
    exact ⟨by omega, by simpa using h⟩
  · rintro ⟨h1, h2⟩
    obtain ⟨j, rfl⟩ := Int.eq_ofNat_of_zero_le h1.1
    exact ⟨⟨j, List.mem_range.2 (by omega), rfl⟩, by simpa using h2⟩
theorem cmpN_up (an bn : List Int) : (cmpN an bn).Pairwise (· < ·) := by
  unfold cmpN
  refine List.Pairwise.filter _ ?_
  rw [List.pairwise_map]
  exact List.Pairwise.imp (fun h => by omega) List.pairwise_lt_range
theorem null_ok {k : Int} (h : 0 ≤ k ∧ k ≤ 39) : okVal (-1 - k) = true := by unfold okVal; exact decide_eq_true (by omega)
theorem cmp_ok (an av bn bv : List Int) : okSub (cmpN an bn) (cmpV an av bn bv) = true := by
  refine okSub_of2 (by simp [cmpV]) (fun k hk => (mem_cmpN.1 hk).1) (fun v hv => ?_) (cmpN_up an bn)
  obtain ⟨k, hk, rfl⟩ := List.mem_map.1 hv
  exact appV_ok (appV_ok (null_ok (mem_cmpN.1 hk).1))
theorem findV_no : ∀ (ns vs : List Int) (x : Int), (∀ n ∈ ns, -1 - n ≠ x) → findV ns vs x = none
  | [], _, _, _ => rfl
  | _ :: _, [], _, _ => rfl
  | n :: ns, v :: vs, x, h => by
    unfold findV
    rw [if_neg (h n List.mem_cons_self)]
    exact findV_no ns vs x fun n hn => h n (List.mem_cons_of_mem _ hn)
theorem findV_map (g : Int → Int) : ∀ (ns : List Int) (x : Int), -1 - x ∈ ns → findV ns (ns.map g) x = some (g (-1 - x))
  | [], _, h => by cases h
  | n :: ns, x, h => by
    rw [List.map_cons]
    unfold findV
    by_cases c : -1 - n = x
    · rw [if_pos c, show -1 - x = n by omega]
    · rw [if_neg c]
      refine findV_map g ns x ?_
      rcases List.mem_cons.1 h with e | h
      · exact absurd (by omega) c
      · exact h
theorem appV_not {ns vs : List Int} {x : Int} (h : isNul x = false) : appV ns vs x = x := by
  unfold appV
  split
  · rename_i hs; rw [findV_not (okSub_spec hs).2.1 h]; rfl
  · rfl
theorem appV_miss {ns vs : List Int} {x : Int} (h : -1 - x ∉ ns) : appV ns vs x = x := by
  unfold appV
  split
  · rw [findV_no ns vs x fun n hn e => h (by rw [← e, show -1 - (-1 - n) = n by omega]; exact hn)]; rfl
  · rfl
theorem appV_cmp {an av bn bv : List Int} {x : Int} : appV (cmpN an bn) (cmpV an av bn bv) x = appV bn bv (appV an av x) := by
  cases hx : isNul x with
  | false => rw [appV_not hx, appV_not hx, appV_not hx]
  | true =>
    simp only [isNul, decide_eq_true_eq] at hx
    by_cases c : -1 - x ∈ cmpN an bn
    · have h1 : appV (cmpN an bn) (cmpV an av bn bv) x = (findV (cmpN an bn) (cmpV an av bn bv) x).getD x := by unfold appV; rw [if_pos (cmp_ok an av bn bv)]
      rw [h1, cmpV, findV_map _ _ _ c, Option.getD_some, show -1 - (-1 - x) = x by omega]
    · have h2 : -1 - x ∉ an ∧ -1 - x ∉ bn := ⟨fun h => c (mem_cmpN.2 ⟨by omega, .inl h⟩), fun h => c (mem_cmpN.2 ⟨by omega, .inr h⟩)⟩
      rw [appV_miss c, appV_miss h2.1, appV_miss h2.2]
theorem appF_cmp (an av bn bv : List Int) (f : Fct) : appF (cmpN an bn) (cmpV an av bn bv) f = appF bn bv (appF an av f) := by
  unfold appF
  simp only [List.map_map]
  congr 1
  exact List.map_congr_left fun v _ => appV_cmp
theorem appF_none {ns vs : List Int} {f : Fct} (h : ∀ v ∈ f.2, isNul v = false) : appF ns vs f = f := by
  have e : f.2.map (appV ns vs) = f.2 := by
    have h1 := List.map_congr_left (f := appV ns vs) (g := id) (l := f.2) (fun v hv => appV_not (h v hv))
    rw [h1, List.map_id]
  unfold appF
  rw [e]
theorem appI_of {rs : List Rel} {fs : List Fct} {ns vs : List Int} (h : appOk rs fs ns vs = true) : appI rs fs ns vs = setF (fs.map (appF ns vs)) := by unfold appI; rw [if_pos h]
theorem nuls_none {vs : List Int} (h : nulSeq vs = []) : ∀ v ∈ vs, isNul v = false := fun v hv => by
  cases c : isNul v with
  | false => rfl
  | true =>
    have : nulNum v ∈ nulSeq vs := List.mem_map.2 ⟨v, List.mem_filter.2 ⟨hv, c⟩, rfl⟩
    rw [h] at this; cases this
theorem nuls_seq {vs : List Int} (h : (nuls vs).length = 0) : nulSeq vs = [] := by
  rw [List.eq_nil_iff_forall_not_mem]
  intro a ha
  have h1 := ((sortU_up (nulSeq vs)).2 a).2 ha
  rw [nuls_sort, List.length_eq_zero_iff.1 h] at h1
  cases h1
theorem nulsI_none {fs : List Fct} (h : nulsI fs = []) : ∀ f ∈ fs, ∀ v ∈ f.2, isNul v = false := by
  have h0 : nulSeq (valsOf fs) = [] := by
    rw [List.eq_nil_iff_forall_not_mem]
    intro a ha
    have h1 := ((nulsIFrom_up fs [] (by simp)).2 a).2 (.inr ha)
    rw [show nulsIFrom [] fs = [] from h] at h1
    cases h1
  exact fun f hf v hv => nuls_none h0 v (List.mem_flatMap.2 ⟨f, hf, hv⟩)
theorem okFact_app {rs : List Rel} {f : Fct} (ns vs : List Int) (h : okFact rs f = true) : okFact rs (appF ns vs f) = true := by
  simp only [okFact, Bool.and_eq_true, decide_eq_true_eq, List.all_eq_true] at h ⊢
  obtain ⟨⟨⟨h1, h2⟩, h3⟩, h4⟩ := h
  refine ⟨⟨⟨h1, h2⟩, ?_⟩, fun v hv => ?_⟩
  · show ((f.2.map (appV ns vs)).length : Int) = arity rs f.1
    rw [List.length_map]; exact h3
  · obtain ⟨x, hx, rfl⟩ := List.mem_map.1 hv
    exact appV_ok (h4 x hx)
theorem srcOk_app {rs : List Rel} {f : Fct} (ns vs : List Int) (h : srcOk rs f = true) : srcOk rs (appF ns vs f) = true := by
  cases hs : srcOf rs f.1 with
  | false =>
    unfold srcOk
    show (!srcOf rs f.1 || _) = true
    rw [hs]; rfl
  | true =>
    have h0 := h
    unfold srcOk at h0
    rw [hs] at h0
    have h1 : (nuls f.2).length = 0 := by simpa using h0
    rw [appF_none (nuls_none (nuls_seq h1))]
    exact h
theorem okInst_app {rs : List Rel} {fs : List Fct} (ns vs : List Int) (h : okInst rs fs = true) : okInst rs (setF (fs.map (appF ns vs))) = true := by
  have hm := okInst_mem h
  have h0 := h
  simp only [okInst, Bool.and_eq_true, decide_eq_true_eq] at h0 ⊢
  have hsp := setF_spec (fs.map (appF ns vs))
  refine ⟨factsFrom_of _ none (fun f hf => ?_) (fun f hf => ?_) hsp.1 (fun q hq => by cases hq), h0.2.1, Nat.le_trans (setF_len _) (by rw [List.length_map]; exact h0.2.2)⟩
  · obtain ⟨g, hg, rfl⟩ := List.mem_map.1 ((hsp.2 f).1 hf)
    exact okFact_app ns vs (hm g hg)
  · obtain ⟨g, hg, rfl⟩ := List.mem_map.1 ((hsp.2 f).1 hf)
    exact srcOk_app ns vs (factsFrom_src h0.1 g hg)
/-- An instance applied to: valid, no greater; itself, told by the empty substitution, where it has no nulls. -/
theorem app_yes {rs : List Rel} {fs : List Fct} {ns vs : List Int} (h : appOk rs fs ns vs = true) : appR rs fs ns vs = rs ∧ okInst rs (appI rs fs ns vs) = true ∧ (appI rs fs ns vs).length ≤ fs.length ∧ (nulsI fs = [] → isHom rs fs rs (appI rs fs ns vs) [] [] = true) := by
  have h0 := h
  simp only [appOk, Bool.and_eq_true] at h0
  have hR : appR rs fs ns vs = rs := by unfold appR; rw [if_pos h]
  have hI : appI rs fs ns vs = setF (fs.map (appF ns vs)) := by unfold appI; rw [if_pos h]
  rw [hR, hI]
  refine ⟨rfl, okInst_app ns vs h0.2, Nat.le_trans (setF_len _) (by rw [List.length_map]; exact Nat.le_refl _), fun hn => ?_⟩
  have hnn := nulsI_none hn
  unfold isHom
  rw [h0.2, okInst_app ns vs h0.2, show okSub [] [] = true from rfl, decide_eq_true rfl, hn, decide_eq_true rfl]
  simp only [Bool.true_and, List.all_eq_true]
  intro f hf
  rw [appF_none (hnn f hf)]
  exact (hasF_mem _ _).2 (((setF_spec _).2 f).2 (List.mem_map.2 ⟨f, hf, appF_none (hnn f hf)⟩))
/-- One behind the other, or at once. -/
theorem app_cmp {rs : List Rel} {fs : List Fct} {an av bn bv : List Int} (ha : okSub an av = true) (hb : okSub bn bv = true) (h : okInst rs fs = true) :
    appR (appR rs fs an av) (appI rs fs an av) bn bv = appR rs fs (cmpN an bn) (cmpV an av bn bv) ∧ appI (appR rs fs an av) (appI rs fs an av) bn bv = appI rs fs (cmpN an bn) (cmpV an av bn bv) := by
  have h1 : appOk rs fs an av = true := by unfold appOk; rw [ha, h]; rfl
  have h2 : appOk rs fs (cmpN an bn) (cmpV an av bn bv) = true := by unfold appOk; rw [cmp_ok, h]; rfl
  obtain ⟨hR, hO, -, -⟩ := app_yes h1
  have h3 : appOk rs (appI rs fs an av) bn bv = true := by unfold appOk; rw [hb, hO]; rfl
  rw [hR, (app_yes h3).1, (app_yes h2).1]
  refine ⟨rfl, ?_⟩
  have e1 := appI_of h3
  have e2 := appI_of h1
  have e3 := appI_of h2
  rw [e1, e2, e3]
  refine asc_ext _ _ (setF_spec _).1 (setF_spec _).1 fun x => ?_
  rw [(setF_spec _).2, (setF_spec _).2, List.mem_map, List.mem_map]
  constructor
  · rintro ⟨y, hy, rfl⟩
    rw [(setF_spec _).2] at hy
    obtain ⟨f, hf, rfl⟩ := List.mem_map.1 hy
    exact ⟨f, hf, appF_cmp an av bn bv f⟩
  · rintro ⟨f, hf, rfl⟩
    exact ⟨appF an av f, ((setF_spec _).2 _).2 (List.mem_map.2 ⟨f, hf, rfl⟩), (appF_cmp an av bn bv f).symm⟩
theorem app_nil {rs : List Rel} {fs : List Fct} (h : okInst rs fs = true) : appR rs fs [] [] = rs ∧ appI rs fs [] [] = fs := by
  have h1 : appOk rs fs [] [] = true := by unfold appOk; rw [h]; rfl
  refine ⟨(app_yes h1).1, ?_⟩
  unfold appI
  rw [if_pos h1]
  have e : fs.map (appF [] []) = fs := by
    have h2 := List.map_congr_left (f := appF [] []) (g := id) (l := fs) (fun f _ => show appF [] [] f = f by
      have e2 : f.2.map (appV [] []) = f.2 := by
        have h1 := List.map_congr_left (f := appV [] []) (g := id) (l := f.2) (fun v _ => appV_miss (by simp))
        rw [h1, List.map_id]
      unfold appF
      rw [e2])
    rw [h2, List.map_id]
  rw [e, setF_asc fs (okInst_asc h)]
end Go.Proofs.YtgemaohdlibboaaGreatDoor.H
/- Walks: the program's own substitutions. No condition. -/
namespace Go.Proofs.YtgemaohdlibboaaGreatDoor.H
open Go Go.RowKit Go.Proofs.YtgemaohdlibboaaGreatDoorW.PrintWords Go.Proofs.YtgemaohdlibboaaGreatDoorW.PrintLast
open Go.Proofs.YtgemaohdlibboaaGreatDoor.Reg (On on_draw)
set_option maxHeartbeats 4000000
set_option maxRecDepth 100000
set_option linter.unusedVariables false
set_option linter.unusedSimpArgs false

theorem iIsValidSub_calls (w : World) (A0 c0 A1 c1) (ns vs : List Int) (h0 : Ints w A0 c0 ns) (h1 : Ints w A1 c1 vs) :
    Calls Tryz.prog 28 #[.agg #[.slice A0 ns.length c0, .slice A1 vs.length c1]] w fun e w' => e = .returned (.bool (okSub ns vs)) ∧ On w w' := by
  have hm0 := h0.max
  have hm1 := h1.max
  have hb := Aside0.mk (On.alloc (On.refl w) (.cells #[.slice A0 ns.length c0, .slice A1 vs.length c1] 41))
  have hL := Aside0.mk (loc1 w #[.slice A0 ns.length c0, .slice A1 vs.length c1] 41)
  by_cases hl : ns.length = vs.length
  · have hlb : ((ns.length : Int) == (vs.length : Int)) = true := by simp [hl]
    have hlc : ((ns.length : Int) != (vs.length : Int)) = false := by simp [bne, hlb]
    have hld : (ns.length == vs.length) = true := by simp [hl]
    have hl' := Aside0.mk hl
    clear hl
    go_enter Tryz.func28, Tryz.ntmps28
    go_wp2
    clear hlb hlc hld
    go_loopw [15] (fun v wr => ∃ k : Nat, k ≤ ns.length ∧ v = .int .i64 k ∧ Aside0 (subFrom (prevI ns k) (ns.drop k) (vs.drop k) = subFrom none ns vs) ∧ On w wr ∧ Loc wr [(w.heap.size, #[.slice A0 ns.length c0, .slice A1 vs.length c1], 41)]) (fun v _ => ns.length - (intOf v).toNat)
    case atStart => exact ⟨0, Nat.zero_le _, rfl, ⟨rfl⟩, hb.out, hL.out⟩
    case round =>
      obtain ⟨k, hk, rfl, hp, hB0, hL0⟩ := hrel
      have hc0 := blk_cell hL0.1
      have hL' := Aside0.mk hL0
      have hB := Aside0.mk hB0
      clear hL0
      by_cases hlt : k < ns.length
      · have hlt2 : k < vs.length := by have := hl'.out; omega
        obtain ⟨ad, rfl, hx⟩ := (h0.on hB0).at k hlt
        obtain ⟨bd, rfl, hy⟩ := (h1.on hB0).at k hlt2
        have hbd := h1.bd k hlt2
        have hst := Aside0.mk ((subFrom_step ns vs k hlt hlt2).symm.trans hp.out)
        clear hp hB0
        cases hi : within ns[k] 0 39 with
        | false =>
          have hi' := Aside0.mk hi
          clear hi
          go_wp2_with (go_at_call 91; refine (within_calls _ _ _ _).mono ?_; rintro e w2 ⟨rfl, hb2⟩; rw [hi'.out])
          go_ret
          exact ⟨ret_bool (by have := hst.out; rw [hi'.out] at this; simp at this; simp [okSub, this]), hB.out.trans hb2⟩
        | true =>
          have hi' := Aside0.mk hi
          clear hi
          by_cases hk0 : 0 < k
          · have hk0' : decide (0 < (k : Int)) = true := decide_eq_true (by omega)
            have hki : IntKind.i64.wrap ((k : Int) - 1) = ((k - 1 : Nat) : Int) := by rw [IntWalk.i64_in _ (by omega)]; omega
            have hk1 : k - 1 < ns.length := by omega
            obtain ⟨ad', e', hz⟩ := (h0.on hB.out).at (k - 1) hk1
            obtain rfl : ad = ad' := by simpa using e'
            have hpn : prevI ns k = some ns[k - 1] := by simp [prevI, show ¬ k = 0 by omega, show k - 1 < ns.length by omega]
            by_cases hc : ns[k] ≤ ns[k - 1]
            · have hcb : decide (ns[k] ≤ ns[k - 1]) = true := decide_eq_true hc
              have hp' := Aside0.mk (show okPrevI (prevI ns k) ns[k] = false by rw [hpn]; exact decide_eq_false (by omega))
              clear hpn
              go_wp2_with (go_at_call 91; refine (within_calls _ _ _ _).mono ?_; rintro e w2 ⟨rfl, hb2⟩; rw [hi'.out]; have hc2 := blk_cell (Loc.on hb2 hL'.out).1; replace hz := (hb2.eq _ (by rw [hz]; rfl)).trans hz)
              go_ret
              exact ⟨ret_bool (by have := hst.out; rw [hi'.out, hp'.out] at this; simp at this; simp [okSub, this]), hB.out.trans hb2⟩
            · have hcb : decide (ns[k] ≤ ns[k - 1]) = false := decide_eq_false hc
              have hp' := Aside0.mk (show okPrevI (prevI ns k) ns[k] = true by rw [hpn]; exact decide_eq_true (by omega))
              clear hpn
              cases hv : okVal vs[k] with
              | true =>
                have hv' := Aside0.mk hv
                clear hv
                go_wp2_with (first
                  | (go_at_call 91; refine (within_calls _ _ _ _).mono ?_; rintro e w2 ⟨rfl, hb2⟩; rw [hi'.out]; have hc2 := blk_cell (Loc.on hb2 hL'.out).1; (try replace hz := (hb2.eq _ (by rw [hz]; rfl)).trans hz); replace hy := (hb2.eq _ (by rw [hy]; rfl)).trans hy)
                  | (go_at_call 92; refine (iIsValidValue_calls _ _).mono ?_; rintro e w3 ⟨rfl, hb3⟩; rw [hv'.out]))
                exact ⟨⟨k + 1, by omega, by go_num, ⟨by have := hst.out; rw [hi'.out, hp'.out, hv'.out] at this; simpa using this⟩, hB.out.trans (hb2.trans hb3), Loc.on (hb2.trans hb3) hL'.out⟩, by simp [intOf]; omega⟩
              | false =>
                have hv' := Aside0.mk hv
                clear hv
                go_wp2_with (first
                  | (go_at_call 91; refine (within_calls _ _ _ _).mono ?_; rintro e w2 ⟨rfl, hb2⟩; rw [hi'.out]; have hc2 := blk_cell (Loc.on hb2 hL'.out).1; (try replace hz := (hb2.eq _ (by rw [hz]; rfl)).trans hz); replace hy := (hb2.eq _ (by rw [hy]; rfl)).trans hy)
                  | (go_at_call 92; refine (iIsValidValue_calls _ _).mono ?_; rintro e w3 ⟨rfl, hb3⟩; rw [hv'.out]))
                go_ret
                exact ⟨ret_bool (by have := hst.out; rw [hi'.out, hp'.out, hv'.out] at this; simp at this; simp [okSub, this]), hB.out.trans (hb2.trans hb3)⟩
          · have hk0' : decide (0 < (k : Int)) = false := decide_eq_false (by omega)
            have hp' := Aside0.mk (show okPrevI (prevI ns k) ns[k] = true by simp [okPrevI, prevI, show k = 0 by omega])
            cases hv : okVal vs[k] with
            | true =>
              have hv' := Aside0.mk hv
              clear hv
              go_wp2_with (first
                | (go_at_call 91; refine (within_calls _ _ _ _).mono ?_; rintro e w2 ⟨rfl, hb2⟩; rw [hi'.out]; have hc2 := blk_cell (Loc.on hb2 hL'.out).1; (try replace hz := (hb2.eq _ (by rw [hz]; rfl)).trans hz); replace hy := (hb2.eq _ (by rw [hy]; rfl)).trans hy)
                | (go_at_call 92; refine (iIsValidValue_calls _ _).mono ?_; rintro e w3 ⟨rfl, hb3⟩; rw [hv'.out]))
              exact ⟨⟨k + 1, by omega, by go_num, ⟨by have := hst.out; rw [hi'.out, hp'.out, hv'.out] at this; simpa using this⟩, hB.out.trans (hb2.trans hb3), Loc.on (hb2.trans hb3) hL'.out⟩, by simp [intOf]; omega⟩
            | false =>
              have hv' := Aside0.mk hv
              clear hv
              go_wp2_with (first
                | (go_at_call 91; refine (within_calls _ _ _ _).mono ?_; rintro e w2 ⟨rfl, hb2⟩; rw [hi'.out]; have hc2 := blk_cell (Loc.on hb2 hL'.out).1; (try replace hz := (hb2.eq _ (by rw [hz]; rfl)).trans hz); replace hy := (hb2.eq _ (by rw [hy]; rfl)).trans hy)
                | (go_at_call 92; refine (iIsValidValue_calls _ _).mono ?_; rintro e w3 ⟨rfl, hb3⟩; rw [hv'.out]))
              go_ret
              exact ⟨ret_bool (by have := hst.out; rw [hi'.out, hp'.out, hv'.out] at this; simp at this; simp [okSub, this]), hB.out.trans (hb2.trans hb3)⟩
      · have hp' := Aside0.mk (show subFrom none ns vs = true by rw [← hp.out, List.drop_of_length_le (by omega)]; cases prevI ns k <;> rfl)
        clear hp hB0
        go_wp2
        go_ret
        exact ⟨ret_bool (by simp [okSub, hp'.out, hl'.out]), hB.out⟩
  · have hlb : ((ns.length : Int) == (vs.length : Int)) = false := by rw [beq_eq_false_iff_ne]; omega
    have hlc : ((ns.length : Int) != (vs.length : Int)) = true := by simp [bne, hlb]
    have hld : (ns.length == vs.length) = false := by simpa using hl
    have hl' := Aside0.mk hl
    clear hl
    go_enter Tryz.func28, Tryz.ntmps28
    go_wp2
    go_ret
    exact ⟨ret_bool (by simp [okSub, hl'.out]), hb.out⟩
theorem indexI_calls (w : World) (A c) (xs : List Int) (y : Int) (h : Ints w A c xs) : Calls Tryz.prog 160 #[.slice A xs.length c, .int .i64 y] w fun e w' => e = .returned (.int .i64 (idxFrom (fun n => n == y) xs 0)) ∧ On w w' := by
  have hmax := h.max
  go_enter Tryz.func160, Tryz.ntmps160
  go_wp2
  go_loopw [8] (fun v wr => ∃ k : Nat, k ≤ xs.length ∧ v = .int .i64 k ∧ Aside0 (idxFrom (fun n => n == y) (xs.drop k) k = idxFrom (fun n => n == y) xs 0) ∧ On w wr) (fun v _ => xs.length - (intOf v).toNat)
  case atStart => exact ⟨0, Nat.zero_le _, rfl, ⟨rfl⟩, On.refl _⟩
  case round =>
    obtain ⟨k, hk, rfl, hp, hB⟩ := hrel
    by_cases hlt : k < xs.length
    · obtain ⟨ad, rfl, hx⟩ := (h.on hB).at k hlt
      have hst := Aside0.mk ((idxFrom_step (fun n => n == y) xs k hlt).symm.trans hp.out)
      clear hp
      by_cases hq : xs[k] = y
      · have hqb : (y == xs[k]) = true := by simp [hq]
        have hq' := Aside0.mk hq
        clear hq
        go_wp2
        go_ret
        exact ⟨ret_int (by have := hst.out; rw [if_pos (by simp [hq'.out])] at this; exact this), hB⟩
      · have hqb : (y == xs[k]) = false := by simp; exact fun e => hq e.symm
        have hq' := Aside0.mk hq
        clear hq
        go_wp2
        exact ⟨⟨k + 1, by omega, by go_num, ⟨by have := hst.out; rwa [if_neg (by simp [hq'.out])] at this⟩, hB⟩, by simp [intOf]; omega⟩
    · go_wp2
      go_ret
      exact ⟨ret_int (by rw [← hp.out, List.drop_of_length_le (by omega)]; rfl), hB⟩
theorem iApplyToValue_calls (w : World) (A0 c0 A1 c1) (ns vs : List Int) (h0 : Ints w A0 c0 ns) (h1 : Ints w A1 c1 vs) (x : Int) (hx : -9223372036854775808 ≤ x ∧ x ≤ 9223372036854775807) :
    Calls Tryz.prog 86 #[.agg #[.slice A0 ns.length c0, .slice A1 vs.length c1], .int .i64 x] w fun e w' => e = .returned (.int .i64 (appV ns vs x)) ∧ On w w' := by
  have hb := Aside0.mk (On.alloc (On.refl w) (.cells #[.slice A0 ns.length c0, .slice A1 vs.length c1] 41))
  have hL := Aside0.mk (loc1 w #[.slice A0 ns.length c0, .slice A1 vs.length c1] 41)
  have hm1 := h1.max
  cases hn : isNul x with
  | false =>
    have hr := Aside0.mk (show appV ns vs x = x by
      unfold appV
      split
      · rename_i ho; rw [findV_not (okSub_spec ho).2.1 hn]; rfl
      · rfl)
    have hn' := Aside0.mk hn
    clear hn
    go_enter Tryz.func86, Tryz.ntmps86
    go_wp2_with (first
      | (go_at_call 159; refine (iNullNumber_calls _ _ hx).mono ?_; rintro e w2 ⟨rfl, hb2⟩; rw [hn'.out]; have hc2 := blk_cell (Loc.on hb2 hL.out).1)
      | (go_at_call 160; refine (indexI_calls _ A0 c0 ns _ (h0.on (hb.out.trans hb2))).mono ?_; rintro e w3 ⟨rfl, hb3⟩))
    go_ret
    exact ⟨ret_int hr.out.symm, hb.out.trans (hb2.trans hb3)⟩
  | true =>
    have hn' := Aside0.mk hn
    cases ho : okSub ns vs with
    | false =>
      have hr := Aside0.mk (show appV ns vs x = x by unfold appV; rw [ho]; rfl)
      have ho' := Aside0.mk ho
      clear hn ho
      by_cases hlt : idxFrom (fun n => n == nulNum x) ns 0 < 0
      · have hltb : decide (idxFrom (fun n => n == nulNum x) ns 0 < 0) = true := decide_eq_true hlt
        go_enter Tryz.func86, Tryz.ntmps86
        go_wp2_with (first
          | (go_at_call 159; refine (iNullNumber_calls _ _ hx).mono ?_; rintro e w2 ⟨rfl, hb2⟩; rw [hn'.out]; have hc2 := blk_cell (Loc.on hb2 hL.out).1)
          | (go_at_call 160; refine (indexI_calls _ A0 c0 ns _ (h0.on (hb.out.trans hb2))).mono ?_; rintro e w3 ⟨rfl, hb3⟩))
        go_ret
        exact ⟨ret_int hr.out.symm, hb.out.trans (hb2.trans hb3)⟩
      · have hltb : decide (idxFrom (fun n => n == nulNum x) ns 0 < 0) = false := decide_eq_false hlt
        go_enter Tryz.func86, Tryz.ntmps86
        go_wp2_with (first
          | (go_at_call 159; refine (iNullNumber_calls _ _ hx).mono ?_; rintro e w2 ⟨rfl, hb2⟩; rw [hn'.out]; have hc2 := blk_cell (Loc.on hb2 hL.out).1)
          | (go_at_call 160; refine (indexI_calls _ A0 c0 ns _ (h0.on (hb.out.trans hb2))).mono ?_; rintro e w3 ⟨rfl, hb3⟩; have hc3 := blk_cell (Loc.on (hb2.trans hb3) hL.out).1)
          | (go_at_call 28; refine (iIsValidSub_calls _ A0 c0 A1 c1 ns vs (h0.on (hb.out.trans (hb2.trans hb3))) (h1.on (hb.out.trans (hb2.trans hb3)))).mono ?_; rintro e w4 ⟨rfl, hb4⟩; rw [ho'.out]))
        go_ret
        exact ⟨ret_int hr.out.symm, hb.out.trans (hb2.trans (hb3.trans hb4))⟩
    | true =>
      have hsp := okSub_spec ho
      have ho' := Aside0.mk ho
      rcases idx_findV ns vs x 0 hsp.1 hsp.2.1 hn with ⟨e1, e2⟩ | ⟨k, hk, e1, e2⟩
      · have hr := Aside0.mk (show appV ns vs x = x by unfold appV; rw [ho, if_pos rfl, e2]; rfl)
        have e1' := Aside0.mk e1
        clear hn ho e1 e2 hsp
        go_enter Tryz.func86, Tryz.ntmps86
        go_wp2_with (first
          | (go_at_call 159; refine (iNullNumber_calls _ _ hx).mono ?_; rintro e w2 ⟨rfl, hb2⟩; rw [hn'.out]; have hc2 := blk_cell (Loc.on hb2 hL.out).1)
          | (go_at_call 160; refine (indexI_calls _ A0 c0 ns _ (h0.on (hb.out.trans hb2))).mono ?_; rintro e w3 ⟨rfl, hb3⟩; rw [e1'.out]))
        go_ret
        exact ⟨ret_int hr.out.symm, hb.out.trans (hb2.trans hb3)⟩
      · have hr := Aside0.mk (show appV ns vs x = vs[k] by unfold appV; rw [ho, if_pos rfl, e2]; rfl)
        rw [Nat.zero_add] at e1
        have e1' := Aside0.mk e1
        clear hn ho e1 e2 hsp
        go_enter Tryz.func86, Tryz.ntmps86
        go_wp2_with (first
          | (go_at_call 159; refine (iNullNumber_calls _ _ hx).mono ?_; rintro e w2 ⟨rfl, hb2⟩; rw [hn'.out]; have hc2 := blk_cell (Loc.on hb2 hL.out).1)
          | (go_at_call 160; refine (indexI_calls _ A0 c0 ns _ (h0.on (hb.out.trans hb2))).mono ?_; rintro e w3 ⟨rfl, hb3⟩; rw [e1'.out]; have hc3 := blk_cell (Loc.on (hb2.trans hb3) hL.out).1)
          | (go_at_call 28; refine (iIsValidSub_calls _ A0 c0 A1 c1 ns vs (h0.on (hb.out.trans (hb2.trans hb3))) (h1.on (hb.out.trans (hb2.trans hb3)))).mono ?_; rintro e w4 ⟨rfl, hb4⟩; rw [ho'.out]; have hc4 := blk_cell (Loc.on (hb2.trans (hb3.trans hb4)) hL.out).1; obtain ⟨bd, rfl, hy⟩ := (h1.on (hb.out.trans (hb2.trans (hb3.trans hb4)))).at k hk))
        go_ret
        exact ⟨ret_int hr.out.symm, hb.out.trans (hb2.trans (hb3.trans hb4))⟩

theorem own_some0 {w : World} {lo e sz n c : Nat} {A : Option Addr} {cs : List Value} (h : w.ownsRow lo e sz (.slice A n c) n cs) (hn : 0 < n) : ∃ g, A = some ⟨g, 0, none⟩ := by
  rcases h.2 with ⟨h', h2⟩ | ⟨g', cap', cur, h', _⟩
  · injection h' with e1 e2 e3
    subst e1
    omega
  · injection h' with e1 e2 e3
    exact ⟨g', e1⟩
theorem own_ltS {w : World} {lo e sz n c g : Nat} {cs : List Value} (h : w.ownsRow lo e sz (.slice (some ⟨g, 0, none⟩) n c) n cs) : g < w.heap.size := by
  rcases h.2 with ⟨h', _⟩ | ⟨g', cap', cur, h', _, hh, _⟩
  · cases h'
  · have : g = g' := by injection h' with h'; injection h' with h'; injection h' with h'
    subst this
    exact (Array.getElem?_eq_some_iff.1 hh).1
theorem iApplyToFact_calls (w : World) (A0 c0 A1 c1 A2 c2) (ns vs : List Int) (f : Fct) (h0 : Ints w A0 c0 ns) (h1 : Ints w A1 c1 vs) (h2 : Ints w A2 c2 f.2) (hl : f.2.length ≤ 2000000) :
    Calls Tryz.prog 79 #[.agg #[.slice A0 ns.length c0, .slice A1 vs.length c1], .agg #[.int .i64 f.1, .slice A2 f.2.length c2]] w (Got fun v w' => ∃ v1, v = .agg #[.int .i64 f.1, v1] ∧ OI w' w.heap.size v1 (f.2.map (appV ns vs)) ∧ On w w') := by
  have hmax := h2.max
  have hb := Aside0.mk (On.alloc (On.alloc (On.alloc (On.refl w) (.cells #[.slice A0 ns.length c0, .slice A1 vs.length c1] 41)) (.cells #[.int .i64 f.1, .slice A2 f.2.length c2] 60)) (.cells #[.int .i64 0, .slice none 0 0] 60))
  have hL := Aside0.mk (loc3 w #[.slice A0 ns.length c0, .slice A1 vs.length c1] #[.int .i64 f.1, .slice A2 f.2.length c2] #[.int .i64 0, .slice none 0 0] 41 60 60)
  have hsz3 := Aside0.mk (show (((w.alloc (.cells #[.slice A0 ns.length c0, .slice A1 vs.length c1] 41)).alloc (.cells #[.int .i64 f.1, .slice A2 f.2.length c2] 60)).alloc (.cells #[.int .i64 0, .slice none 0 0] 60)).heap.size = w.heap.size + 3 by simp)
  go_enter Tryz.func79, Tryz.ntmps79
  go_wp2_with (refine gate 9 ?_)
  obtain ⟨Wx, hWx⟩ : ∃ Wx, ((w.alloc (.cells #[.slice A0 ns.length c0, .slice A1 vs.length c1] 41)).alloc (.cells #[.int .i64 f.1, .slice A2 f.2.length c2] 60)).alloc (.cells #[.int .i64 0, .slice none 0 0] 60) = Wx := ⟨_, rfl⟩
  rw [hWx] at hb hL hsz3 ⊢
  clear hWx
  refine ⟨goesC 9 Tryz.func152 (by kernel_rfl) rfl ((factCopy_calls Wx A2 c2 f (h2.on hb.out) hl).mono fun e w1 hh => ?_)⟩
  obtain ⟨v, rfl, v1, rfl, hO1, hb1⟩ := hh
  refine ⟨_, rfl, ?_⟩
  obtain ⟨A3, c3, rfl⟩ := own_slice hO1
  have hO1' := Aside0.mk hO1
  have hb1' := Aside0.mk hb1
  clear hO1 hb1
  have hfill := alloc_fill w1
  have hL1 := Aside0.mk (Loc.on (hb1'.out.trans (On.alloc (On.refl w1) (.cells #[.int .i64 f.1, .slice A3 f.2.length c3] 60))) hL.out)
  have hcf := blk_cell hL1.out.2.1
  go_wp2
  clear hfill hcf hL1
  have hyb := Aside0.mk (loc_new w1 #[.int .i64 f.1, .slice A3 f.2.length c3] 60)
  have hBy := Aside0.mk (On.alloc (On.refl w1) (.cells #[.int .i64 f.1, .slice A3 f.2.length c3] 60))
  obtain ⟨Wy, hWy⟩ : ∃ Wy, w1.alloc (.cells #[.int .i64 f.1, .slice A3 f.2.length c3] 60) = Wy := ⟨_, rfl⟩
  rw [hWy] at hyb hBy ⊢
  clear hWy
  have hyz := Aside0.mk (show w.heap.size + 3 ≤ w1.heap.size by have := hb1'.out.size; rw [hsz3.out] at this; exact this)
  obtain ⟨y, hy⟩ : ∃ y, w1.heap.size = y := ⟨_, rfl⟩
  rw [hy] at hyb hyz ⊢
  have hyw := Aside0.mk hy
  clear hy
  go_loopw [13] (fun v wr => ∃ k : Nat, k ≤ f.2.length ∧ v = .int .i64 k ∧ Aside0 (wr.ownsRow (w.heap.size + 3) 3 1 (.slice A3 f.2.length c3) f.2.length (((f.2.take k).map (appV ns vs)).flatMap encI ++ (f.2.drop k).flatMap encI)) ∧ Aside0 (On Wx wr) ∧ wr.heap[y]? = some (.cells #[.int .i64 f.1, .slice A3 f.2.length c3] 60 (0, 0))) (fun v _ => f.2.length - (intOf v).toNat)
  case atStart => exact ⟨0, Nat.zero_le _, rfl, ⟨by rw [← hsz3.out]; exact pw_own_below hO1'.out hBy.out⟩, ⟨hb1'.out.trans hBy.out⟩, hyb.out⟩
  case round =>
    obtain ⟨k, hk, rfl, hO, hB, hyr⟩ := hrel
    have hBw := Aside0.mk (hb.out.trans hB.out)
    have hLr := Aside0.mk (Loc.on hB.out hL.out)
    have hcy := blk_cell hyr
    have hyr' := Aside0.mk hyr
    clear hyr
    by_cases hlt : k < f.2.length
    · obtain ⟨ad, rfl, hx⟩ := (h2.on hBw.out).at k hlt
      have hc0 := blk_cell hLr.out.1
      obtain ⟨g, rfl⟩ := own_some0 hO.out (by omega)
      have hbd := h2.bd k hlt
      go_wp2
      refine Reg.region [(0,.L),(1,.L),(2,.L),(3,.L),(4,.L),(5,.C),(6,.L)] [7] (by kernel_rfl) (by kernel_rfl) ?_
      repeat first | refine sP ?_ | refine sS ?_ | refine sA ?_ | refine sL ?_ | refine sQ ?_ | refine sO ?_
      refine callC (.int .i64 (appV ns vs f.2[k])) Tryz.func86 (fun w' hS => ?_) ?_
      focus exact iApplyToValue_calls w' A0 c0 A1 c1 ns vs (h0.on (hBw.out.trans hS)) (h1.on (hBw.out.trans hS)) f.2[k] hbd
      repeat first | refine sP ?_ | refine sS ?_ | refine sA ?_ | refine sL ?_ | refine sQ ?_ | refine sO ?_
      refine Reg.tail_ fun w5 hS5 => ?_
      have hO5 := Aside0.mk (pw_own_below hO.out hS5)
      have hfz : w5.frozen? ⟨g, k, none⟩ = false := own_frozen hO5.out k
      obtain ⟨z, hz⟩ := own_some hO5.out k (by omega)
      have hgl := Aside0.mk (show w.heap.size + 3 ≤ g from own_base hO5.out g rfl)
      have hgy := Aside0.mk (show g ≠ y from fun e => by have h3 := own_ltS hO1'.out; have h4 := hyw.out; omega)
      clear hcy hc0
      go_wp2
      refine ⟨⟨k + 1, by omega, by go_num, ⟨?_⟩, ⟨Reg.On.set (hB.out.trans hS5) (by rw [hsz3.out]; exact hgl.out) _⟩, ?_⟩, by simp [intOf]; omega⟩
      · have h3 := (hO5.out.stored k (.int .i64 (appV ns vs f.2[k]))).1
        rw [List.drop_eq_getElem_cons hlt, List.flatMap_cons] at h3
        rw [List.take_succ_eq_append_getElem hlt, List.map_append, List.flatMap_append, List.append_assoc]
        rw [show encI f.2[k] ++ (f.2.drop (k + 1)).flatMap encI = .int .i64 f.2[k] :: (f.2.drop (k + 1)).flatMap encI from rfl, set1 k (by rw [flat_len (enc := encI) (sz := 1) (fun _ => rfl), List.length_map, List.length_take]; omega)] at h3
        exact h3
      · rw [Below.heap_setCell _ _ _ _ (fun e => hgy.out (by have h : y = g := e; exact h.symm))]
        exact blk_below hyr'.out hS5
    · have e1 : f.2.take k = f.2 := List.take_of_length_le (by omega)
      have e2 : f.2.drop k = [] := List.drop_of_length_le (by omega)
      rw [e1, e2, List.flatMap_nil, List.append_nil] at hO
      have hcr : ∀ i, wr.cell? ⟨w.heap.size + 1 + 1, i, none⟩ = _ := blk_cell hLr.out.2.2.1
      have hfr : ∀ i, wr.frozen? ⟨w.heap.size + 1 + 1, i, none⟩ = _ := blk_frozen hLr.out.2.2.1
      go_wp2
      refine bodyPost_ret (retF rfl rfl (g := w.heap.size + 2) (blk_set (blk_set hLr.out.2.2.1 0 _) 1 _) rfl) rfl ?_
      have hO2 : OI wr (w.heap.size + 3) (.slice A3 f.2.length c3) (f.2.map (appV ns vs)) := by
        have := hO.out
        unfold OI
        rw [List.length_map]
        exact this
      refine ⟨_, rfl, _, rfl, ?_, Reg.On.set (Reg.On.set hBw.out (by first | (simp; done) | (simp; omega)) _) (by first | (simp; done) | (simp; omega)) _⟩
      exact own_lower (ownsRow_setCell_below (ownsRow_setCell_below hO2 (by first | (simp; done) | (simp; omega)) _) (by first | (simp; done) | (simp; omega)) _) (by omega)
end Go.Proofs.YtgemaohdlibboaaGreatDoor.H
/- Walks: homomorphisms told, by both sides. No condition. -/
namespace Go.Proofs.YtgemaohdlibboaaGreatDoor.H
open Go Go.RowKit Go.Proofs.YtgemaohdlibboaaGreatDoorW.PrintWords Go.Proofs.YtgemaohdlibboaaGreatDoorW.PrintLast
open Go.Proofs.YtgemaohdlibboaaGreatDoor.Reg (On on_draw)
set_option maxHeartbeats 4000000
set_option maxRecDepth 100000
set_option linter.unusedVariables false
set_option linter.unusedSimpArgs false

theorem equalI_calls (w : World) (A c B d) (rs qs : List Int) (h0 : Ints w A c rs) (h1 : Ints w B d qs) : Calls Tryz.prog 97 #[.slice A rs.length c, .slice B qs.length d] w fun e w' => e = .returned (.bool (decide (rs = qs))) ∧ On w w' := by
  have hm0 := h0.max
  have hm1 := h1.max
  by_cases hl : rs.length = qs.length
  · have hlb : ((rs.length : Int) == (qs.length : Int)) = true := by simp [hl]
    have hlc : ((rs.length : Int) != (qs.length : Int)) = false := by simp [bne, hlb]
    have hld : (rs.length == qs.length) = true := by simp [hl]
    have hl' := Aside0.mk hl
    clear hl
    go_enter Tryz.func97, Tryz.ntmps97
    go_wp2
    clear hlb hlc hld
    go_loopw [13] (fun v wr => ∃ k : Nat, k ≤ rs.length ∧ v = .int .i64 k ∧ Aside0 (rs.take k = qs.take k) ∧ On w wr) (fun v _ => rs.length - (intOf v).toNat)
    case atStart => exact ⟨0, Nat.zero_le _, rfl, ⟨rfl⟩, On.refl _⟩
    case round =>
      obtain ⟨k, hk, rfl, hp, hB⟩ := hrel
      by_cases hlt : k < rs.length
      · have hlt2 : k < qs.length := by have := hl'.out; omega
        obtain ⟨ad, rfl, hx0⟩ := (h0.on hB).at k hlt
        obtain ⟨bd, rfl, hy0⟩ := (h1.on hB).at k hlt2
        cases hq : (rs[k] == qs[k]) with
        | true =>
          have hq' := Aside0.mk (eq_of_beq hq : rs[k] = qs[k])
          have hq2 : (rs[k] != qs[k]) = false := by simp [bne, hq]
          go_wp2
          refine Reg.region [(0,.L),(1,.L),(2,.L),(3,.L),(4,.L),(5,.L),(6,.L),(7,.L),(8,.L)] [] (by kernel_rfl) (by kernel_rfl) ?_
          repeat first | refine sP ?_ | refine sS ?_ | refine sA ?_ | refine sL ?_ | refine sQ ?_ | refine sO ?_
          refine Reg.nil fun w2 hS => ?_
          clear hq hq2
          go_wp2
          exact ⟨⟨k + 1, by omega, by go_num, ⟨by rw [List.take_succ_eq_append_getElem hlt, List.take_succ_eq_append_getElem hlt2, hp.out, hq'.out]⟩, hB.trans hS⟩, by simp [intOf]; omega⟩
        | false =>
          have hq' := Aside0.mk (by simpa using hq : ¬ rs[k] = qs[k])
          have hq2 : (rs[k] != qs[k]) = true := by simp [bne, hq]
          go_wp2
          refine Reg.region [(0,.L),(1,.L),(2,.L),(3,.L),(4,.L),(5,.L),(6,.L),(7,.L),(8,.L)] [] (by kernel_rfl) (by kernel_rfl) ?_
          repeat first | refine sP ?_ | refine sS ?_ | refine sA ?_ | refine sL ?_ | refine sQ ?_ | refine sO ?_
          refine Reg.nil fun w2 hS => ?_
          clear hq hq2
          go_wp2
          go_ret
          exact ⟨ret_bool (by symm; exact decide_eq_false fun e => hq'.out (by subst e; rfl)), hB.trans hS⟩
      · have e1 : rs.take k = rs := List.take_of_length_le (by omega)
        have e2 : qs.take k = qs := List.take_of_length_le (by have := hl'.out; omega)
        rw [e1, e2] at hp
        go_wp2
        go_ret
        exact ⟨ret_bool (by symm; exact decide_eq_true hp.out), hB⟩
  · have hlb : ((rs.length : Int) == (qs.length : Int)) = false := by rw [beq_eq_false_iff_ne]; omega
    have hlc : ((rs.length : Int) != (qs.length : Int)) = true := by simp [bne, hlb]
    have hld : (rs.length == qs.length) = false := by simpa using hl
    have hl' := Aside0.mk hl
    clear hl
    go_enter Tryz.func97, Tryz.ntmps97
    go_wp2
    go_ret
    exact ⟨ret_bool (by symm; exact decide_eq_false fun e => hl'.out (congrArg _ e)), On.refl _⟩
attribute [local go_sem high] eqRel
theorem equalR_calls (w : World) (A c B d) (rs qs : List Rel) (h0 : Rels w A c rs) (h1 : Rels w B d qs) : Calls Tryz.prog 74 #[.slice A rs.length c, .slice B qs.length d] w fun e w' => e = .returned (.bool (decide (rs = qs))) ∧ On w w' := by
  have hm0 := h0.max
  have hm1 := h1.max
  by_cases hl : rs.length = qs.length
  · have hlb : ((rs.length : Int) == (qs.length : Int)) = true := by simp [hl]
    have hlc : ((rs.length : Int) != (qs.length : Int)) = false := by simp [bne, hlb]
    have hld : (rs.length == qs.length) = true := by simp [hl]
    have hl' := Aside0.mk hl
    clear hl
    go_enter Tryz.func74, Tryz.ntmps74
    go_wp2
    clear hlb hlc hld
    go_loopw [13] (fun v wr => ∃ k : Nat, k ≤ rs.length ∧ v = .int .i64 k ∧ Aside0 (rs.take k = qs.take k) ∧ On w wr) (fun v _ => rs.length - (intOf v).toNat)
    case atStart => exact ⟨0, Nat.zero_le _, rfl, ⟨rfl⟩, On.refl _⟩
    case round =>
      obtain ⟨k, hk, rfl, hp, hB⟩ := hrel
      by_cases hlt : k < rs.length
      · have hlt2 : k < qs.length := by have := hl'.out; omega
        obtain ⟨ad, rfl, hx0, hx1, hx2⟩ := (h0.on hB).at k hlt
        obtain ⟨bd, rfl, hy0, hy1, hy2⟩ := (h1.on hB).at k hlt2
        cases hq : sameR rs[k] qs[k] with
        | true =>
          have hq' := Aside0.mk (of_decide_eq_true hq : rs[k] = qs[k])
          go_wp2
          refine Reg.region [(0,.L),(1,.L),(2,.L),(3,.L),(4,.L),(5,.L),(6,.L),(7,.L),(8,.L)] [] (by kernel_rfl) (by kernel_rfl) ?_
          repeat first | refine sP ?_ | refine sS ?_ | refine sA ?_ | refine sL ?_ | refine sQ ?_ | refine sO ?_
          refine Reg.nil fun w2 hS => ?_
          clear hq
          go_wp2
          exact ⟨⟨k + 1, by omega, by go_num, ⟨by rw [List.take_succ_eq_append_getElem hlt, List.take_succ_eq_append_getElem hlt2, hp.out, hq'.out]⟩, hB.trans hS⟩, by simp [intOf]; omega⟩
        | false =>
          have hq' := Aside0.mk (of_decide_eq_false hq : ¬ rs[k] = qs[k])
          go_wp2
          refine Reg.region [(0,.L),(1,.L),(2,.L),(3,.L),(4,.L),(5,.L),(6,.L),(7,.L),(8,.L)] [] (by kernel_rfl) (by kernel_rfl) ?_
          repeat first | refine sP ?_ | refine sS ?_ | refine sA ?_ | refine sL ?_ | refine sQ ?_ | refine sO ?_
          refine Reg.nil fun w2 hS => ?_
          clear hq
          go_wp2
          go_ret
          exact ⟨ret_bool (by symm; exact decide_eq_false fun e => hq'.out (by subst e; rfl)), hB.trans hS⟩
      · have e1 : rs.take k = rs := List.take_of_length_le (by omega)
        have e2 : qs.take k = qs := List.take_of_length_le (by have := hl'.out; omega)
        rw [e1, e2] at hp
        go_wp2
        go_ret
        exact ⟨ret_bool (by symm; exact decide_eq_true hp.out), hB⟩
  · have hlb : ((rs.length : Int) == (qs.length : Int)) = false := by rw [beq_eq_false_iff_ne]; omega
    have hlc : ((rs.length : Int) != (qs.length : Int)) = true := by simp [bne, hlb]
    have hld : (rs.length == qs.length) = false := by simpa using hl
    have hl' := Aside0.mk hl
    clear hl
    go_enter Tryz.func74, Tryz.ntmps74
    go_wp2
    go_ret
    exact ⟨ret_bool (by symm; exact decide_eq_false fun e => hl'.out (congrArg _ e)), On.refl _⟩

theorem areComparable_calls (w : World) (A0 c0 A1 c1) (rs : List Rel) (fs : List Fct) (h0 : Rels w A0 c0 rs) (h1 : Fcts w A1 c1 fs) (A2 c2 A3 c3) (qs : List Rel) (gs : List Fct) (h2 : Rels w A2 c2 qs) (h3 : Fcts w A3 c3 gs) :
    Calls Tryz.prog 99 #[.agg #[.slice A0 rs.length c0, .slice A1 fs.length c1], .agg #[.slice A2 qs.length c2, .slice A3 gs.length c3]] w fun e w' => e = .returned (.bool (okInst rs fs && (okInst qs gs && decide (rs = qs)))) ∧ On w w' := by
  have hb := Aside0.mk (On.alloc (On.alloc (On.refl w) (.cells #[.slice A0 rs.length c0, .slice A1 fs.length c1] 25)) (.cells #[.slice A2 qs.length c2, .slice A3 gs.length c3] 25))
  have hL := Aside0.mk (loc2 w #[.slice A0 rs.length c0, .slice A1 fs.length c1] #[.slice A2 qs.length c2, .slice A3 gs.length c3] 25 25)
  cases ho : okInst rs fs with
  | false =>
    have ho' := Aside0.mk ho
    clear ho
    go_enter Tryz.func99, Tryz.ntmps99
    go_wp2_with (go_at_call 19; refine (iIsValidInstance_calls _ A0 c0 A1 c1 rs fs (h0.on hb.out) (h1.on hb.out)).mono ?_; rintro e w1 ⟨rfl, hb1⟩; rw [ho'.out])
    go_ret
    exact ⟨by simp, hb.out.trans hb1⟩
  | true =>
    have ho' := Aside0.mk ho
    clear ho
    cases hp : okInst qs gs with
    | false =>
      have hp' := Aside0.mk hp
      clear hp
      go_enter Tryz.func99, Tryz.ntmps99
      go_wp2_with (first
        | (go_at_call 19; refine (iIsValidInstance_calls _ A2 c2 A3 c3 qs gs (h2.on (hb.out.trans hb1)) (h3.on (hb.out.trans hb1))).mono ?_; rintro e w2 ⟨rfl, hb2⟩; rw [hp'.out])
        | (go_at_call 19; refine (iIsValidInstance_calls _ A0 c0 A1 c1 rs fs (h0.on hb.out) (h1.on hb.out)).mono ?_; rintro e w1 ⟨rfl, hb1⟩; rw [ho'.out]; have hL1 := Loc.on hb1 hL.out; have hc0 := blk_cell hL1.1; have hc1 := blk_cell hL1.2.1; clear hL1))
      go_ret
      exact ⟨by simp, hb.out.trans (hb1.trans hb2)⟩
    | true =>
      have hp' := Aside0.mk hp
      clear hp
      go_enter Tryz.func99, Tryz.ntmps99
      go_wp2_with (first
        | (go_at_call 19; refine (iIsValidInstance_calls _ A2 c2 A3 c3 qs gs (h2.on (hb.out.trans hb1)) (h3.on (hb.out.trans hb1))).mono ?_; rintro e w2 ⟨rfl, hb2⟩; rw [hp'.out]; have hL2 := Loc.on (hb1.trans hb2) hL.out; have hd0 := blk_cell hL2.1; have hd1 := blk_cell hL2.2.1; clear hL2)
        | (go_at_call 19; refine (iIsValidInstance_calls _ A0 c0 A1 c1 rs fs (h0.on hb.out) (h1.on hb.out)).mono ?_; rintro e w1 ⟨rfl, hb1⟩; rw [ho'.out]; have hL1 := Loc.on hb1 hL.out; have hc0 := blk_cell hL1.1; have hc1 := blk_cell hL1.2.1; clear hL1)
        | (go_at_call 74; refine (equalR_calls _ A0 c0 A2 c2 rs qs (h0.on (hb.out.trans (hb1.trans hb2))) (h2.on (hb.out.trans (hb1.trans hb2)))).mono ?_; rintro e w3 ⟨rfl, hb3⟩))
      go_ret
      exact ⟨by simp, hb.out.trans (hb1.trans (hb2.trans hb3))⟩
end Go.Proofs.YtgemaohdlibboaaGreatDoor.H
/- Walks: the laws' own substitutions: size, copy, comparison. No condition. -/
namespace Go.Proofs.YtgemaohdlibboaaGreatDoor.H
open Go Go.RowKit Go.Proofs.YtgemaohdlibboaaGreatDoorW.PrintWords Go.Proofs.YtgemaohdlibboaaGreatDoorW.PrintLast
open Go.Proofs.YtgemaohdlibboaaGreatDoor.Reg (On on_draw)
set_option maxHeartbeats 4000000
set_option maxRecDepth 100000
set_option linter.unusedVariables false
set_option linter.unusedSimpArgs false

section
variable {fn : Func} {p : Tmp} {tmps : Array Value} {w : World} {g : Nat} {t : TypeId} {cs : Array Value} {fr : Nat × Nat}
theorem retSu (h : fn.results = #[.cell p 41]) (hp : tmps.getD p undef = .pointer (some ⟨g, 0, none⟩)) (hg : w.heap[g]? = some (.cells cs t fr)) (hs : cs.size = 2) : (results fn tmps).run Tryz.prog w = .ok (.agg cs) w :=
  results_cell_row h tmps w g t cs fr _ hp hg Tryz.underlying41 rfl (by rw [hs]; kernel_rfl)
end
/-! In values. -/
structure RSu (w : World) (v : Value) (ns vs : List Int) : Prop where mk :: (out : ∃ A c B d, v = .agg #[.slice A ns.length c, .slice B vs.length d] ∧ Ints w A c ns ∧ Ints w B d vs)
structure OSb (w : World) (lo hi : Nat) (v : Value) (ns vs : List Int) : Prop where mk :: (out : ∃ v1 v2, v = .agg #[v1, v2] ∧ OI w lo v1 ns ∧ OI w lo v2 vs ∧ InR ns ∧ InR vs ∧ (∀ b, v1.ownBlock = some b → b < hi) ∧ ∀ b, v2.ownBlock = some b → b < hi)
structure OSu (w : World) (lo : Nat) (v : Value) (ns vs : List Int) : Prop where mk :: (out : ∃ v1 v2, v = .agg #[v1, v2] ∧ OI w lo v1 ns ∧ OI w lo v2 vs ∧ InR ns ∧ InR vs)
theorem OSu.b {w : World} {lo : Nat} {v : Value} {ns vs : List Int} (h : OSu w lo v ns vs) : OSb w lo w.heap.size v ns vs := by
  obtain ⟨v1, v2, e, h0, h1, h2, h3⟩ := h.out
  exact ⟨v1, v2, e, h0, h1, h2, h3, fun b hb => own_lt h0 b hb, fun b hb => own_lt h1 b hb⟩
theorem OSb.read {w : World} {lo hi : Nat} {v : Value} {ns vs : List Int} (h : OSb w lo hi v ns vs) : RSu w v ns vs := by
  obtain ⟨v1, v2, e, h0, h1, h2, h3, _⟩ := h.out
  obtain ⟨A, c, rfl, k0⟩ := OI.rd h0 h2
  obtain ⟨B, d, rfl, k1⟩ := OI.rd h1 h3
  exact ⟨A, c, B, d, e, k0, k1⟩
theorem OSu.read {w : World} {lo : Nat} {v : Value} {ns vs : List Int} (h : OSu w lo v ns vs) : RSu w v ns vs := h.b.read
theorem OSb.on {W w : World} {lo hi : Nat} {v : Value} {ns vs : List Int} (h : OSb W lo hi v ns vs) (hb : On W w) : OSb w lo hi v ns vs := by
  obtain ⟨v1, v2, e, h0, h1, h2, h3, h4, h5⟩ := h.out
  exact ⟨v1, v2, e, pw_own_below h0 hb, pw_own_below h1 hb, h2, h3, h4, h5⟩
theorem OSb.ex {S : Nat → Prop} {W w : World} {lo hi : Nat} {v : Value} {ns vs : List Int} (h : OSb W lo hi v ns vs) (k : Ex S W w) (hS : ∀ b, lo ≤ b → b < hi → ¬ S b) : OSb w lo hi v ns vs := by
  obtain ⟨v1, v2, e, h0, h1, h2, h3, h4, h5⟩ := h.out
  exact ⟨v1, v2, e, own_ex h0 k (fun i hi h => hS i (own_base h0 i hi) (h4 i hi) h), own_ex h1 k (fun i hi h => hS i (own_base h1 i hi) (h5 i hi) h), h2, h3, h4, h5⟩
theorem RSu.on {W w : World} {v : Value} {ns vs : List Int} (h : RSu W v ns vs) (hb : On W w) : RSu w v ns vs := by
  obtain ⟨A, c, B, d, e, h0, h1⟩ := h.out
  exact ⟨A, c, B, d, e, h0.on hb, h1.on hb⟩
theorem RSu.shape {w : World} {v : Value} {ns vs : List Int} (h : RSu w v ns vs) : ∃ A n c B m d, v = .agg #[.slice A n c, .slice B m d] := by
  obtain ⟨A, c, B, d, e, _⟩ := h.out
  exact ⟨_, _, _, _, _, _, e⟩
end Go.Proofs.YtgemaohdlibboaaGreatDoor.H
/- Plain: what is written of values, relations, facts and instances, and what is read again. No condition. -/
namespace Go.Proofs.YtgemaohdlibboaaGreatDoor.H
open Go Go.RowKit Go.Proofs.YtgemaohdlibboaaGreatDoorW.PrintWords Go.Proofs.YtgemaohdlibboaaGreatDoorW.PrintLast
set_option linter.unusedVariables false
set_option linter.unusedSimpArgs false

def strB (l : List UInt8) : ByteArray := ⟨l.toArray⟩
theorem strB_size (l : List UInt8) : (strB l).size = l.length := by simp [strB, ByteArray.size]
theorem strB_append (a b : List UInt8) : strB a ++ strB b = strB (a ++ b) := by
  apply ByteArray.ext
  simp [strB, ByteArray.data_append]
theorem strB_data (l : List UInt8) : (strB l).data.toList = l := by simp [strB]
/-! Joined. -/
theorem joinTail_snoc (sep : List UInt8) (r : List (List UInt8)) (y : List UInt8) : Lib.joinTail sep (r ++ [y]) = Lib.joinTail sep r ++ (sep ++ y) := by
  unfold Lib.joinTail
  simp
theorem join_one' (sep x : List UInt8) : Lib.join [x] sep = x := by rw [Lib.join_cons]; simp [Lib.joinTail]
theorem join_snoc (sep : List UInt8) (xs : List (List UInt8)) (y : List UInt8) : Lib.join (xs ++ [y]) sep = if xs.length = 0 then y else Lib.join xs sep ++ sep ++ y := by
  cases xs with
  | nil => rw [List.nil_append, join_one']; rfl
  | cons x r => rw [List.cons_append, Lib.join_cons, Lib.join_cons, joinTail_snoc, if_neg (by simp), List.append_assoc, List.append_assoc]
theorem join_nil' (sep : List UInt8) : Lib.join [] sep = [] := by simp [Lib.join]
theorem join_len (sep : List UInt8) (B : Nat) : ∀ (n : Nat) (xs : List (List UInt8)), xs.length = n → (∀ x ∈ xs, x.length ≤ B) → (Lib.join xs sep).length ≤ n * (B + sep.length) := by
  intro n
  induction n with
  | zero =>
    intro xs h _
    obtain rfl : xs = [] := List.eq_nil_of_length_eq_zero h
    simp [join_nil']
  | succ n ih =>
    intro xs h hb
    rcases List.eq_nil_or_concat xs with rfl | ⟨ys, y, rfl⟩
    · simp at h
    · rw [List.concat_eq_append] at *
      have h1 := ih ys (by simp at h; omega) (fun x hx => hb x (List.mem_append_left _ hx))
      have h2 := hb y (List.mem_append_right _ (by simp))
      rw [join_snoc, Nat.succ_mul]
      split
      · omega
      · rw [List.length_append, List.length_append]; omega
/-! Cut. -/
/-! Written. -/
def fvL (x : Int) : List UInt8 := if isNul x then 110 :: Lib.itoa (-1 - x) else if 0 ≤ x ∧ x ≤ 9 then Lib.itoa x else []
theorem itoa_small {u : Int} (h0 : 0 ≤ u) (h : u < 10) : Lib.itoa u = [UInt8.ofNat (48 + u.toNat)] := by
  unfold Lib.itoa
  rw [if_neg (by omega), Lib.decDigits_one (by omega)]
theorem itoa_two {u : Int} (h0 : 10 ≤ u) (h : u < 100) : Lib.itoa u = [UInt8.ofNat (48 + u.toNat / 10), UInt8.ofNat (48 + u.toNat % 10)] := by
  unfold Lib.itoa
  rw [if_neg (by omega), Lib.decDigits_two (by omega) (by omega)]
theorem itoa_bytes {u : Int} (h0 : 0 ≤ u) (h : u < 100) : (∀ b ∈ Lib.itoa u, 48 ≤ b.toNat ∧ b.toNat ≤ 57) ∧ Lib.itoa u ≠ [] ∧ (Lib.itoa u).length ≤ 2 := by
  by_cases c : u < 10
  · rw [itoa_small h0 c]
    refine ⟨fun b hb => ?_, by simp, by simp⟩
    rw [List.mem_singleton.1 hb]; simp; omega
  · rw [itoa_two (by omega) h]
    refine ⟨fun b hb => ?_, by simp, by simp⟩
    rcases List.mem_cons.1 hb with rfl | hb
    · simp; omega
    · rw [List.mem_singleton.1 hb]; simp; omega
theorem fvL_len (x : Int) : (fvL x).length ≤ 3 := by
  unfold fvL
  by_cases c : isNul x = true
  · have c' := c
    simp only [isNul, decide_eq_true_eq] at c'
    rw [if_pos c]
    have := (itoa_bytes (u := -1 - x) (by omega) (by omega)).2.2
    simp; omega
  · rw [if_neg c]
    split
    · have := (itoa_bytes (u := x) (by omega) (by omega)).2.2
      omega
    · simp
/-! A value, read. -/
/-! Relations, read. -/
/-! A fact, read. -/
/-! An instance, read. -/
end Go.Proofs.YtgemaohdlibboaaGreatDoor.H
/- Walks: numbers and values, written and read, on both sides. No condition. -/
namespace Go.Proofs.YtgemaohdlibboaaGreatDoor.H
open Go Go.RowKit Go.Proofs.YtgemaohdlibboaaGreatDoorW.PrintWords Go.Proofs.YtgemaohdlibboaaGreatDoorW.PrintLast
open Go.Proofs.YtgemaohdlibboaaGreatDoor.Reg (On on_draw)
set_option maxHeartbeats 4000000
set_option maxRecDepth 100000
set_option linter.unusedVariables false
set_option linter.unusedSimpArgs false

theorem iFormatInt_calls (w : World) (x : Int) (h0 : 0 ≤ x) (h1 : x < 100) : Calls Tryz.prog 107 #[.int .i64 x] w fun e w' => e = .returned (.string (strB (Lib.itoa x))) ∧ On w w' := by
  obtain ⟨n, rfl⟩ := Int.eq_ofNat_of_zero_le h0
  have e : strB (Lib.itoa (n : Int)) = ⟨(Lib.decDigits n).toArray⟩ := by unfold strB Lib.itoa; rw [if_neg (by omega)]; simp
  rw [e]
  go_enter Tryz.func107, Tryz.ntmps107
  go_wp2_with (go_at_call 166; refine (Tryz.strconv_Itoa_small n (by omega) _).mono ?_; rintro e w1 ⟨rfl, rfl⟩)
  go_ret
  exact ⟨rfl, On.refl _⟩
theorem digits_step (u : Nat) (h : 10 ≤ u) : Lib.decDigits u = Lib.decDigits (u / 10) ++ [UInt8.ofNat (48 + u % 10)] := by rw [Lib.decDigits, dif_neg (by omega)]
theorem digits_one (u : Nat) (h : u < 10) : Lib.decDigits u = [UInt8.ofNat (48 + u)] := by rw [Lib.decDigits, dif_pos h]
theorem str_one (d : Nat) : strOfNums [((48 + d : Nat) : Int) % 256] = strB [UInt8.ofNat (48 + d)] := by
  have e1 : (((48 + d : Nat) : Int) % 256).toNat = (48 + d) % 256 := by omega
  have e2 : UInt8.ofNat ((48 + d) % 256) = UInt8.ofNat (48 + d) := by apply UInt8.toNat_inj.1; simp
  unfold strOfNums strB
  simp only [List.map_cons, List.map_nil, e1, e2]
theorem sFormatInt_calls (w : World) (x : Int) (h0 : 0 ≤ x) (h1 : x < 100) : Calls Tryz.prog 162 #[.int .i64 x] w fun e w' => e = .returned (.string (strB (Lib.itoa x))) ∧ On w w' := by
  obtain ⟨u, rfl⟩ := Int.eq_ofNat_of_zero_le h0
  by_cases c : u = 0
  · subst c
    go_enter Tryz.func162, Tryz.ntmps162
    go_wp2
    go_ret
    exact ⟨by rw [itoa_small (by omega) (by omega)]; rfl, On.refl _⟩
  · have b0 : ((u : Int) == 0) = false := beq_eq_false_iff_ne.mpr (by omega)
    have b1 : ((u : Int) != 0) = true := bne_iff_ne.mpr (by omega)
    have bn : decide ((u : Int) < 0) = false := decide_eq_false (by omega)
    have hit := Aside0.mk (show Lib.itoa (u : Int) = Lib.decDigits u by unfold Lib.itoa; rw [if_neg (by omega)]; simp)
    have hu := Aside0.mk (show u < 100 by omega)
    have hc := Aside0.mk c
    clear h0 h1 c
    go_enter Tryz.func162, Tryz.ntmps162
    go_wp2
    clear b0 b1
    go_loopw [0, 3] (fun v0 v3 wr => ∃ (n : Nat) (o : List UInt8), v0 = .int .i64 n ∧ v3 = .string (strB o) ∧ n < 100 ∧ o.length ≤ 2 ∧ Aside0 ((n = u ∧ o = []) ∨ (10 ≤ u ∧ n = u / 10 ∧ o = [UInt8.ofNat (48 + u % 10)]) ∨ (n = 0 ∧ o = Lib.decDigits u)) ∧ On w wr) (fun v0 _ _ => (intOf v0).toNat)
    case atStart => exact ⟨u, [], rfl, rfl, hu.out, by simp, ⟨.inl ⟨rfl, rfl⟩⟩, On.refl _⟩
    case round =>
      obtain ⟨n, o, rfl, rfl, hn, ho, hd, hB⟩ := hrel
      have hB' := Aside0.mk hB
      have hd' := Aside0.mk hd.out
      have hn' := Aside0.mk hn
      have ho' := Aside0.mk ho
      clear hd hB hn ho
      by_cases c : n = 0
      · subst c
        go_wp2
        go_ret
        refine ⟨by rw [hit.out]; rcases hd'.out with ⟨h, _⟩ | ⟨h, h2, _⟩ | ⟨_, h⟩; (have := hc.out; omega); omega; (rw [h]; rfl), hB'.out⟩
      · have c0 : ((n : Int) == 0) = false := beq_eq_false_iff_ne.mpr (by omega)
        have c1 : ((n : Int) != 0) = true := bne_iff_ne.mpr (by omega)
        have c2 : ((n : Int) = 0) = False := eq_false (by omega)
        have hm : Int.tmod (n : Int) 10 = ((n % 10 : Nat) : Int) := rfl
        have hq : wrap64 ((n : Int) / 10) = ((n / 10 : Nat) : Int) := by rw [IntWalk.wrap64_in _ (by have := hn'.out; omega)]; omega
        have hs : decide (((n % 10 : Nat) : Int) < 0) = false := decide_eq_false (by omega)
        have hcc := Aside0.mk c
        have hw1 : wrap64 (48 + ((n % 10 : Nat) : Int)) = ((48 + n % 10 : Nat) : Int) := by rw [IntWalk.wrap64_in _ (by omega)]; omega
        have h1 := str_one (n % 10)
        obtain ⟨dg, hdg⟩ : ∃ dg, UInt8.ofNat (48 + n % 10) = dg := ⟨_, rfl⟩
        rw [hdg] at h1
        have hdg' := Aside0.mk hdg
        have hsz : decide ((strB [dg]).size + (strB o).size ≤ 9223372036854775807) = true := decide_eq_true (by rw [strB_size, strB_size]; have := ho'.out; simp; omega)
        have hsy := eq_true (of_decide_eq_true hsz)
        have hsn : (9223372036854775807 < (strB [dg]).size + (strB o).size) = False := eq_false (Nat.not_lt.2 (of_decide_eq_true hsz))
        clear c hdg
        have hcv : (convert 31 9 (.slice (some ⟨wr.heap.size, 0, none⟩) 1 1)).run Tryz.prog (wr.alloc (.cells #[.int .u8 (48 + (n : Int) % 10)] 5 (0, 0))) = .ok (.string (strB [dg])) (wr.alloc (.cells #[.int .u8 (48 + (n : Int) % 10)] 5 (0, 0))) := by
          have h := own_string (P := Tryz.prog) (xs := [48 + (n : Int) % 10]) Tryz.underlying31 Tryz.underlying5 Tryz.underlying9 (World.ownsRow_lit (base := wr.heap.size) (e := 5) (size := 1) wr #[.int .u8 (48 + (n : Int) % 10)] 1 (Nat.le_refl _) (by simp [maxLen]) (by simp))
          rw [h, ← h1, show ((48 + n % 10 : Nat) : Int) % 256 = 48 + (n : Int) % 10 by omega]
        have hB9 := Aside0.mk (hB'.out.trans (On.alloc (On.refl _) (.cells #[.int .u8 (48 + (n : Int) % 10)] 5 (0, 0))))
        clear h1
        go_wp2
        have hn1 := hn'.out
        have ho1 := ho'.out
        have hd2 := hdg'.out
        refine ⟨⟨n / 10, dg :: o, by rw [hq], by rw [strB_append]; rfl, by omega, ?_, ⟨?_⟩, hB9.out⟩, by rw [hq]; simp [intOf]; have := hcc.out; omega⟩
        · rcases hd'.out with ⟨h, h2⟩ | ⟨h, h2, h3⟩ | ⟨h, h2⟩
          · rw [h2]; simp
          · rw [h3]; simp
          · exact absurd h hcc.out
        · rcases hd'.out with ⟨h, h2⟩ | ⟨h, h2, h3⟩ | ⟨h, h2⟩
          · subst h2
            by_cases d : u < 10
            · refine .inr (.inr ⟨by omega, ?_⟩)
              rw [digits_one u d, ← hd2, h, Nat.mod_eq_of_lt d]
            · exact .inr (.inl ⟨by omega, by rw [h], by rw [← hd2, h]⟩)
          · refine .inr (.inr ⟨by have := hu.out; omega, ?_⟩)
            rw [h3, digits_step u h, digits_one (u / 10) (by have := hu.out; omega), ← hd2, h2, Nat.mod_eq_of_lt (by have := hu.out; omega)]; rfl
          · exact absurd h hcc.out
theorem fvL_nul {v : Int} (h : isNul v = true) : fvL v = 110 :: Lib.itoa (-1 - v) := by unfold fvL; rw [if_pos h]
theorem fvL_pos {v : Int} (h : isNul v = false) (h1 : 0 ≤ v ∧ v ≤ 9) : fvL v = Lib.itoa v := by unfold fvL; rw [h, if_neg (by simp), if_pos h1]
theorem fvL_not {v : Int} (h : okVal v = false) : fvL v = [] := by
  simp only [okVal, decide_eq_false_iff_not] at h
  unfold fvL
  rw [if_neg (by simp only [isNul, decide_eq_true_eq]; omega), if_neg (by omega)]
theorem cat_n (l : List UInt8) : (⟨#[110]⟩ : ByteArray) ++ strB l = strB (110 :: l) := by rw [show (⟨#[110]⟩ : ByteArray) = strB [110] from rfl, strB_append]; rfl
theorem iIsNull_calls (w : World) (v : Int) : Calls Tryz.prog 161 #[.int .i64 v] w fun e w' => e = .returned (.bool (decide (v < 0))) ∧ On w w' := by
  go_enter Tryz.func161, Tryz.ntmps161
  go_wp2
  go_ret
  exact ⟨rfl, On.refl _⟩
theorem iFormatValue_calls (w : World) (v : Int) (hv : -9223372036854775808 ≤ v ∧ v ≤ 9223372036854775807) : Calls Tryz.prog 95 #[.int .i64 v] w fun e w' => e = .returned (.string (strB (fvL v))) ∧ On w w' := by
  cases ho : okVal v with
  | false =>
    have ho' := Aside0.mk ho
    clear ho
    go_enter Tryz.func95, Tryz.ntmps95
    go_wp2_with (go_at_call 92; refine (iIsValidValue_calls _ _).mono ?_; rintro e w1 ⟨rfl, hb1⟩; rw [ho'.out])
    go_ret
    exact ⟨by rw [fvL_not ho'.out]; rfl, hb1⟩
  | true =>
    have ho' := Aside0.mk ho
    have hbd : -40 ≤ v ∧ v ≤ 9 := by simpa [okVal] using ho
    clear ho
    by_cases c : v < 0
    · have cb : decide (v < 0) = true := decide_eq_true c
      have hn := Aside0.mk (show isNul v = true by simp [isNul]; omega)
      have hbd' := Aside0.mk hbd
      have hwr : IntKind.i64.wrap (-1 - v) = -1 - v := IntWalk.i64_in _ (by omega)
      have hl := (itoa_bytes (u := -1 - v) (by omega) (by omega)).2.2
      have hsz := eq_true (show 1 + (strB (Lib.itoa (-1 - v))).size ≤ 9223372036854775807 by rw [strB_size]; omega)
      have hsn : (9223372036854775807 < 1 + (strB (Lib.itoa (-1 - v))).size) = False := eq_false (by rw [strB_size]; omega)
      have hc' := Aside0.mk c
      clear hbd c hl
      go_enter Tryz.func95, Tryz.ntmps95
      go_wp2_with (first | (go_at_call 92; refine (iIsValidValue_calls _ _).mono ?_; rintro e w1 ⟨rfl, hb1⟩; rw [ho'.out]) | (go_at_call 161; refine (iIsNull_calls _ _).mono ?_; rintro e w2 ⟨rfl, hb2⟩; rw [cb]) | (go_at_call 107; refine (iFormatInt_calls _ (-1 - v) (by have := hbd'.out; have := hc'.out; omega) (by have := hbd'.out; omega)).mono ?_; rintro e w3 ⟨rfl, hb3⟩))
      go_ret
      exact ⟨by rw [fvL_nul hn.out, ← cat_n]; rfl, (hb1.trans hb2).trans hb3⟩
    · have cb : decide (v < 0) = false := decide_eq_false c
      have hn := Aside0.mk (show isNul v = false by simp [isNul]; omega)
      have hbd' := Aside0.mk hbd
      have hc' := Aside0.mk c
      clear hbd c
      go_enter Tryz.func95, Tryz.ntmps95
      go_wp2_with (first | (go_at_call 92; refine (iIsValidValue_calls _ _).mono ?_; rintro e w1 ⟨rfl, hb1⟩; rw [ho'.out]) | (go_at_call 161; refine (iIsNull_calls _ _).mono ?_; rintro e w2 ⟨rfl, hb2⟩; rw [cb]) | (go_at_call 107; refine (iFormatInt_calls _ v (by have := hc'.out; omega) (by have := hbd'.out; omega)).mono ?_; rintro e w3 ⟨rfl, hb3⟩))
      go_ret
      exact ⟨by rw [fvL_pos hn.out (by have := hbd'.out; have := hc'.out; omega)]; rfl, (hb1.trans hb2).trans hb3⟩
theorem sFormatValue_calls (w : World) (v : Int) (hv : -9223372036854775808 ≤ v ∧ v ≤ 9223372036854775807) : Calls Tryz.prog 96 #[.int .i64 v] w fun e w' => e = .returned (.string (strB (fvL v))) ∧ On w w' := by
  cases ho : isNul v with
  | true =>
    have ho' := Aside0.mk ho
    have hbd := Aside0.mk (show -40 ≤ v ∧ v ≤ -1 by simpa [isNul] using ho)
    have hnn := Aside0.mk (show nulNum v = -1 - v by unfold nulNum; rw [if_pos ho])
    have hl := (itoa_bytes (u := -1 - v) (by have := hbd.out; omega) (by have := hbd.out; omega)).2.2
    have hsz := eq_true (show 1 + (strB (Lib.itoa (-1 - v))).size ≤ 9223372036854775807 by rw [strB_size]; omega)
    have hsn : (9223372036854775807 < 1 + (strB (Lib.itoa (-1 - v))).size) = False := eq_false (by rw [strB_size]; omega)
    have hv' := Aside0.mk hv
    clear ho hl hv
    go_enter Tryz.func96, Tryz.ntmps96
    go_wp2_with (first | (go_at_call 146; refine (NullNumber_calls _ _ hv'.out.1).mono ?_; rintro e w1 ⟨rfl, hb1⟩; rw [ho'.out, hnn.out]) | (go_at_call 162; refine (sFormatInt_calls _ (-1 - v) (by have := hbd.out; omega) (by have := hbd.out; omega)).mono ?_; rintro e w3 ⟨rfl, hb3⟩))
    go_ret
    exact ⟨by rw [fvL_nul ho'.out, ← cat_n]; rfl, hb1.trans hb3⟩
  | false =>
    have ho' := Aside0.mk ho
    have hv' := Aside0.mk hv
    have hnn := Aside0.mk (show nulNum v = 0 by unfold nulNum; rw [if_neg (by simp [ho])])
    clear ho hv
    by_cases c : 0 ≤ v ∧ v ≤ 9
    · have hc' := Aside0.mk c
      have hw := Aside0.mk (show within v 0 9 = true from decide_eq_true c)
      clear c
      go_enter Tryz.func96, Tryz.ntmps96
      go_wp2_with (first | (go_at_call 146; refine (NullNumber_calls _ _ hv'.out.1).mono ?_; rintro e w1 ⟨rfl, hb1⟩; rw [ho'.out, hnn.out]) | (go_at_call 93; refine (l1In_calls _ _ _ _).mono ?_; rintro e w2 ⟨rfl, hb2⟩; rw [hw.out]) | (go_at_call 162; refine (sFormatInt_calls _ v (by have := hc'.out; omega) (by have := hc'.out; omega)).mono ?_; rintro e w3 ⟨rfl, hb3⟩))
      go_ret
      exact ⟨by rw [fvL_pos ho'.out hc'.out]; rfl, (hb1.trans hb2).trans hb3⟩
    · have hc' := Aside0.mk c
      have hw := Aside0.mk (show within v 0 9 = false from decide_eq_false c)
      clear c
      go_enter Tryz.func96, Tryz.ntmps96
      go_wp2_with (first | (go_at_call 146; refine (NullNumber_calls _ _ hv'.out.1).mono ?_; rintro e w1 ⟨rfl, hb1⟩; rw [ho'.out, hnn.out]) | (go_at_call 93; refine (l1In_calls _ _ _ _).mono ?_; rintro e w2 ⟨rfl, hb2⟩; rw [hw.out]))
      go_ret
      exact ⟨by rw [fvL_not (by simp only [okVal, decide_eq_false_iff_not]; have h1 := ho'.out; simp only [isNul, decide_eq_false_iff_not] at h1; have := hc'.out; omega)]; rfl, hb1.trans hb2⟩
theorem str_beq (a b : List UInt8) : ((strB a).toList == (strB b).toList) = decide (a = b) := by
  rw [ByteArray.toList_eq, ByteArray.toList_eq, strB_data, strB_data, Bool.eq_iff_iff]; simp
end Go.Proofs.YtgemaohdlibboaaGreatDoor.H
