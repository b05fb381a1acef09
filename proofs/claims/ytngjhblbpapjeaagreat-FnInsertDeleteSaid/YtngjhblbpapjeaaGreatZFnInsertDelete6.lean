/- Walks and plain laws for the law FnInsertDelete, part 6 of 6: the texts HJ3, HJ0, HJ1, HJ2, HJ5, HJ6, HJ7, HG14, HG15, HQFnInsertDelete in one. No condition. -/
import Derived.Lib.QuietBelow
import Derived.Sort.Grow
import Derived.Shelf.SlSortCmp.WholeK
import Derived.Lib.RowBridge
import Derived.Shelf.SlSortCmp.NoneTotal
import Derived.Test.YtngjhblbpapjeaaGreatZFnInsertDelete5
/- Walks: the library's CompactFunc at facts. No condition. -/
namespace Go.Proofs.YtngjhblbpapjeaaGreat.H
open Go Go.RowKit Go.Proofs.YtngjhblbpapjeaaGreatW.PrintWords Go.Proofs.YtngjhblbpapjeaaGreatW.PrintLast
open Go.Proofs.YtngjhblbpapjeaaGreat.Reg (On on_draw)
set_option maxHeartbeats 4000000
set_option maxRecDepth 100000
set_option linter.unusedVariables false
set_option linter.unusedSimpArgs false

section
variable {P : Program} {ops : Array Oper} {Q : Exit → Act → World → Prop} {i : Nat} {tail : List Nat} {l : List (Nat × Reg.K)} {a a' : Act} {W : World} {o : Oper} {N : Tmp}
/-- A call of a function value, in a region that draws. -/
theorem callV {f : FuncId} {fn : Func} {x : Operand} {xs : Array Operand} {ts : Array TypeId} {caps args : Array Value} (v : Value) (hf : P.funcs[f]? = some fn)
    (h : ∀ w, On W w → Calls P f args w fun e w' => e = .returned v ∧ On w w') (rest : Reg.Ord P ops Q tail l a' W) (hi : ops[i]? = some o := by rfl) (hN : o.dst = some N := by rfl)
    (hop : o.op = .call { callee := .value x, args := xs, argTypes := ts } := by rfl) (hx : a.eval x = .func (.func f) #[] caps := by rfl) (hargs : xs.map a.eval ++ caps = args := by (try simp only [List.map_toArray, List.map_cons, List.map_nil]); rfl)
    (hname : (fn.name == "runtime.NumGoroutine") = false := by kernel_rfl) (hb : fn.body.isSome = true := by rfl)
    (hw : Region.wanted o (yielded ops a.tmps) = true := by with_unfolding_all rfl) (ha : a.put (some N) v = a' := by simp only [Act.put, List.setIfInBounds_toArray, List.set_cons_zero, List.set_cons_succ]; rfl) : Reg.Ord P ops Q tail ((i, .C) :: l) a W := by
  refine Reg.stepC (v := v) (fun w hS => ?_) (ha ▸ rest) hi hN hw
  have he := enters_ hf hname hb args w
  have hrun : (execOp a.eval o).run P w = .ok (.enter f args) w := by
    unfold execOp
    simp [hop, resolve, Deferred.ofValue, invoke, hx, hargs, he]
  unfold Reg.nAt
  rw [hrun]
  exact (h w hS).mono fun e w' ⟨he, hS'⟩ => ⟨v, he, rfl, hS.trans hS'⟩
end
/-- The headers that are keptB of the first j. -/
def keptB (p : Bool → Bool) (hs : List Hdr) (fs : List Bool) (j : Nat) : List Hdr := (((hs.zip fs).take j).filter fun q => !p q.2).map Prod.fst
theorem keptB_succ (p : Bool → Bool) (hs : List Hdr) (fs : List Bool) (j : Nat) (hl : hs.length = fs.length) (h : j < fs.length) : keptB p hs fs (j + 1) = keptB p hs fs j ++ (if p fs[j] then [] else [hs[j]'(by omega)]) := by
  unfold keptB
  rw [List.take_succ_eq_append_getElem (by rw [List.length_zip]; omega), List.filter_append, List.map_append, List.getElem_zip, List.filter_cons]
  cases p fs[j] <;> simp
theorem keptB_len (p : Bool → Bool) (hs : List Hdr) (fs : List Bool) (j : Nat) : (keptB p hs fs j).length ≤ j := by
  unfold keptB
  rw [List.length_map]
  exact Nat.le_trans (List.length_filter_le _ _) (by rw [List.length_take]; omega)
theorem keptB_front (p : Bool → Bool) (hs : List Hdr) (fs : List Bool) (hl : hs.length = fs.length) : ∀ j, j ≤ fs.length → (∀ i, (h : i < j) → (hi : i < fs.length) → p fs[i] = false) → keptB p hs fs j = hs.take j
  | 0, _, _ => by simp [keptB]
  | j + 1, hj, h => by
    rw [keptB_succ p hs fs j hl (by omega), keptB_front p hs fs hl j (by omega) (fun i hi hf => h i (by omega) hf), h j (by omega) (by omega), List.take_succ_eq_append_getElem (by omega)]
    rfl
/-- How the row stands when j facts are looked at, of which i are keptB. -/
structure KB (p : Bool → Bool) (hs : List Hdr) (fs : List Bool) (j i : Nat) (L : List Hdr) : Prop where
  len : L.length = fs.length
  lt : i < j
  is : i = (keptB p hs fs j).length
  row : ∃ M, L = keptB p hs fs j ++ M ++ hs.drop j
theorem KB.start (p : Bool → Bool) (hs : List Hdr) (fs : List Bool) (hl : hs.length = fs.length) (k : Nat) (hk : k < fs.length) (ht : p fs[k] = true) (hall : ∀ j, (hj : j < k) → p (fs[j]'(by omega)) = false) : KB p hs fs (k + 1) k hs := by
  have e : keptB p hs fs (k + 1) = hs.take k := by
    rw [keptB_succ p hs fs k hl hk, ht, if_pos rfl, List.append_nil, keptB_front p hs fs hl k (by omega) (fun i hi _ => hall i hi)]
  refine ⟨hl, Nat.lt_succ_self _, by rw [e, List.length_take]; omega, ⟨[hs[k]], ?_⟩⟩
  rw [e, ← List.take_succ_eq_append_getElem (by omega), List.take_append_drop]
theorem KB.mid {p : Bool → Bool} {hs : List Hdr} {fs : List Bool} {j i : Nat} {L : List Hdr} (h : KB p hs fs j i L) (hl : hs.length = fs.length) (hj : j < fs.length) : ∃ m M, L = keptB p hs fs j ++ (m :: M) ++ hs.drop j ∧ i + (M.length + 1) = j := by
  obtain ⟨M, e⟩ := h.row
  have h1 := congrArg List.length e
  rw [h.len, List.length_append, List.length_append, List.length_drop, ← h.is] at h1
  cases M with
  | nil => have := h.lt; simp at h1; omega
  | cons m M => exact ⟨m, M, e, by simp at h1; omega⟩
theorem KB.get {p : Bool → Bool} {hs : List Hdr} {fs : List Bool} {j i : Nat} {L : List Hdr} (h : KB p hs fs j i L) (hl : hs.length = fs.length) (hj : j < fs.length) : L[j]? = hs[j]? := by
  obtain ⟨m, M, e, hM⟩ := h.mid hl hj
  have h2 := h.is
  rw [e, List.getElem?_append_right (by simp; omega), List.length_append, List.length_cons, ← h2, show j - (i + (M.length + 1)) = 0 by omega, List.getElem?_drop]
  rfl
theorem KB.skip {p : Bool → Bool} {hs : List Hdr} {fs : List Bool} {j i : Nat} {L : List Hdr} (h : KB p hs fs j i L) (hl : hs.length = fs.length) (hj : j < fs.length) (hp : p fs[j] = true) : KB p hs fs (j + 1) i L := by
  obtain ⟨M, e⟩ := h.row
  have ek : keptB p hs fs (j + 1) = keptB p hs fs j := by rw [keptB_succ p hs fs j hl hj, hp, if_pos rfl, List.append_nil]
  refine ⟨h.len, Nat.lt_succ_of_lt h.lt, by rw [ek]; exact h.is, ⟨M ++ [hs[j]'(by omega)], ?_⟩⟩
  rw [ek, e, List.drop_eq_getElem_cons (by omega : j < hs.length)]
  simp
theorem KB.keep {p : Bool → Bool} {hs : List Hdr} {fs : List Bool} {j i : Nat} {L : List Hdr} (h : KB p hs fs j i L) (hl : hs.length = fs.length) (hj : j < fs.length) (hp : p fs[j] = false) : KB p hs fs (j + 1) (i + 1) (L.set i (hs[j]'(by omega))) := by
  obtain ⟨m, M, e, hM⟩ := h.mid hl hj
  have ek : keptB p hs fs (j + 1) = keptB p hs fs j ++ [hs[j]'(by omega)] := by rw [keptB_succ p hs fs j hl hj, hp, if_neg (by simp)]
  refine ⟨by rw [List.length_set]; exact h.len, Nat.succ_lt_succ h.lt, by rw [ek, List.length_append, ← h.is]; rfl, ⟨M ++ [hs[j]'(by omega)], ?_⟩⟩
  rw [ek, e, List.append_assoc, List.cons_append, set_mid _ _ _ _ _ h.is.symm, List.drop_eq_getElem_cons (by omega : j < hs.length)]
  simp
theorem KB.done {p : Bool → Bool} {hs : List Hdr} {fs : List Bool} {i : Nat} {L : List Hdr} (h : KB p hs fs fs.length i L) : L.take i = keptB p hs fs fs.length := by
  obtain ⟨M, e⟩ := h.row
  rw [e, List.append_assoc, h.is, List.take_left]
theorem keptB_pairs {w : World} {lo : Nat} {hs : List Hdr} {fs : List Fct} (h : Sep w lo hs fs) : Sep w lo (keptB id hs (flags none fs) fs.length) (runs none fs) := by
  have hfl := flags_len fs none
  have hq : (((hs.zip fs).zip (flags none fs)).filter fun q => !q.2).map Prod.fst |>.Sublist (hs.zip fs) := by
    have h1 : (((hs.zip fs).zip (flags none fs)).filter fun q => !q.2).Sublist ((hs.zip fs).zip (flags none fs)) := List.filter_sublist
    have h2 := h1.map Prod.fst
    rwa [List.map_fst_zip (by rw [List.length_zip, hfl]; omega)] at h2
  have h3 := h.sub hq
  have e1 : ((((hs.zip fs).zip (flags none fs)).filter fun q => !q.2).map Prod.fst).map Prod.snd = runs none fs := by
    rw [List.map_map]; exact runs_flags hs fs none h.len
  have e2 : ((((hs.zip fs).zip (flags none fs)).filter fun q => !q.2).map Prod.fst).map Prod.fst = keptB id hs (flags none fs) fs.length := by
    unfold keptB
    rw [List.take_of_length_le (by rw [List.length_zip, hfl]; omega), List.map_map]
    have key : ∀ (hs : List Hdr) (fs : List Fct) (bs : List Bool), hs.length = fs.length → fs.length = bs.length → ((((hs.zip fs).zip bs).filter fun q => !q.2).map (Prod.fst ∘ Prod.fst)) = ((hs.zip bs).filter fun q => !(id q.2)).map Prod.fst := by
      intro hs
      induction hs with
      | nil => intro fs bs _ _; simp
      | cons a hs ih =>
        intro fs bs h1 h2
        cases fs with
        | nil => simp at h1
        | cons f fs =>
          cases bs with
          | nil => simp at h2
          | cons b bs =>
            have := ih fs bs (by simpa using h1) (by simpa using h2)
            cases b <;> simpa using this
    exact key hs fs _ h.len hfl.symm
  rw [e1, e2] at h3
  exact h3
theorem runs_none {fs : List Fct} (h : ∀ j, (hj : j < (flags none fs).length) → (flags none fs)[j] = false) : runs none fs = fs := by
  have e := runs_flags (fs.map fun f => ((0 : Int), none, 0, 0)) fs none (by simp)
  have hall : flags none fs = List.replicate fs.length false := by
    apply List.ext_getElem
    · rw [flags_len, List.length_replicate]
    · intro i h1 h2; rw [h i h1, List.getElem_replicate]
  rw [← e, hall]
  rw [List.filter_eq_self.2 (fun q hq => by
    have := (List.of_mem_zip hq).2
    rw [List.eq_of_mem_replicate this]; rfl)]
  have e2 : ∀ (l : List Fct), (((l.map fun f => (((0 : Int), none, 0, 0) : Hdr)).zip l).zip (List.replicate l.length false)).map (fun q => q.1.2) = l := by
    intro l
    induction l with
    | nil => rfl
    | cons f l ih => simp [List.replicate_succ, ih]
  exact e2 fs
theorem elemF {w wr : World} {lo g n c : Nat} {hs L : List Hdr} {fs : List Fct} (hO : OH w lo (.slice (some ⟨g, 0, none⟩) n c) hs) (hS : Sep w lo hs fs) (hE : Ex (fun b => some b = Value.ownBlock (.slice (some ⟨g, 0, none⟩) n c)) w wr) (hL : OH wr lo (.slice (some ⟨g, 0, none⟩) n c) L) (j : Nat) (hj : j < fs.length) (hget : L[j]? = hs[j]?) :
    ∃ A c', hs[j]? = some (fs[j].1, A, fs[j].2.length, c') ∧ wr.cell? ⟨g, j * 2, none⟩ = some (.int .i64 fs[j].1) ∧ wr.cell? ⟨g, j * 2 + 1, none⟩ = some (.slice A fs[j].2.length c') ∧ Ints wr A c' fs[j].2 := by
  have hl := hS.len
  have hjh : j < hs.length := by omega
  have hSr := hS.ex hE (fun i a b ha hb e => (hS.ne_row hO ha hb) e.symm)
  obtain ⟨a1, a2, a3⟩ := hSr.reads.at_ j hs[j] fs[j] (List.getElem?_eq_getElem hjh) (List.getElem?_eq_getElem hj)
  rw [List.getElem?_eq_getElem hjh] at hget
  obtain ⟨hjL, e⟩ := List.getElem?_eq_some_iff.1 hget
  obtain ⟨x0, x1⟩ := hL.at j hjL
  rw [e] at x0 x1
  obtain ⟨⟨r, A, m, c'⟩, hhd⟩ : ∃ hd, hd = hs[j] := ⟨_, rfl⟩
  rw [← hhd] at a1 a2 a3 x0 x1
  dsimp only at a1 a2 a3 x0
  subst a1 a2
  exact ⟨A, c', by rw [List.getElem?_eq_getElem hjh, ← hhd], x0, x1, a3⟩
theorem CompactF_calls (w : World) (lo : Nat) (v : Value) (hs : List Hdr) (fs : List Fct) (hO : OH w lo v hs) (hS : Sep w lo hs fs) :
    Calls Tryz.prog 83 #[v, .func (.func 52) #[] #[]] w (Got fun v' w' => ∃ hs', OH w' lo v' hs' ∧ Sep w' lo hs' (runs none fs) ∧ Ex (fun b => some b = v.ownBlock) w w' ∧ ∀ b, FB v' hs' b → FB v hs b) := by
  have hlen := hS.len
  by_cases h2 : fs.length < 2
  · have hr : runs none fs = fs := by
      match fs, h2 with
      | [], _ => rfl
      | [f], _ => simp [runs]
    obtain ⟨A, c, rfl⟩ := own_slice hO
    have hlt : decide ((hs.length : Int) < 2) = true := decide_eq_true (by omega)
    have hlt2 : hs.length < 2 := by omega
    have hO' := Aside0.mk hO
    have hS' := Aside0.mk hS
    clear hO hS hlen h2
    go_enter Tryz.func83, Tryz.ntmps83
    go_wp2
    go_ret
    exact ⟨_, rfl, hs, hO'.out, by rw [hr]; exact hS'.out, Ex.refl _ _, fun _ h => h⟩
  · rcases hO.2 with ⟨hv, hz⟩ | ⟨g, cap, cur, rfl, hg, _⟩
    · omega
    have hcm := own_capmax hO
    have hcap := Aside0.mk hcm.1
    have hmx := hcm.2
    have hfl := Aside0.mk (flags_len fs none)
    have hO' := Aside0.mk hO
    have hS' := Aside0.mk hS
    have hlen' := Aside0.mk hlen
    have hlt : decide ((hs.length : Int) < 2) = false := decide_eq_false (by omega)
    have hn2 : ¬ hs.length < 2 := by omega
    have hn2' := Aside0.mk hn2
    have hfz := Aside0.mk (show (flags none fs)[0]? = some false by rw [List.getElem?_eq_getElem (by rw [flags_len]; omega), flags_zero fs (by omega)])
    clear hcm hO hS h2 hg hlen
    go_enter Tryz.func83, Tryz.ntmps83
    go_wp2
    clear hlt hn2
    go_loopw [5] (fun v5 wr => ∃ (k : Nat), v5 = .int .i64 k ∧ 1 ≤ k ∧ k ≤ hs.length ∧ Aside0 (∀ j, j < k → (flags none fs)[j]? = some false) ∧ Aside0 (On w wr)) (fun v5 _ => hs.length - (intOf v5).toNat)
    case atStart => exact ⟨1, rfl, by omega, by have := hn2'.out; omega, ⟨fun j hj => (show j = 0 by omega) ▸ hfz.out⟩, ⟨On.refl _⟩⟩
    case round =>
      obtain ⟨k, rfl, hk1, hk, hall, hB⟩ := hrel
      by_cases hkl : k < hs.length
      · have hkf : k < fs.length := by have := hlen'.out; omega
        have hkf' : k - 1 < fs.length := by omega
        have hLr := Aside0.mk (pw_own_below hO'.out hB.out)
        obtain ⟨A3, c3, _, x0, x1, x2⟩ := elemF hO'.out hS'.out (Ex.of_on hB.out) hLr.out k hkf rfl
        obtain ⟨A4, c4, _, y0, y1, y2⟩ := elemF hO'.out hS'.out (Ex.of_on hB.out) hLr.out (k - 1) hkf' rfl
        have hws : IntKind.i64.wrap ((k : Int) - 1) = ((k - 1 : Nat) : Int) := by rw [IntWalk.i64_in _ (by omega)]; omega
        have hk1l : k - 1 < hs.length := by omega
        have hfg := Aside0.mk (show (flags none fs)[k]? = some (cmpF fs[k] fs[k - 1] == 0) by
          have h := flags_get fs none (k - 1) (by omega)
          rw [List.getElem?_eq_getElem (by rw [hfl.out]; omega)]
          congr 1
          have e : (flags none fs)[k]'(by rw [hfl.out]; omega) = (flags none fs)[k - 1 + 1]'(by rw [hfl.out]; omega) := by congr 1; omega
          rw [e, h]
          have e2 : fs[k - 1 + 1]'(by omega) = fs[k] := by congr 1; omega
          rw [e2]
          by_cases c : fs[k - 1] = fs[k]
          · rw [decide_eq_true c, c, cmpF_self]; rfl
          · rw [decide_eq_false c]
            symm
            rw [beq_eq_false_iff_ne]
            exact fun h => c ((cmpF_eq _ _).1 h).symm)
        have x2' := Aside0.mk x2
        have y2' := Aside0.mk y2
        clear x2 y2
        obtain ⟨F, hF⟩ : ∃ F, fs[k] = F := ⟨_, rfl⟩
        obtain ⟨G, hG⟩ : ∃ G, fs[k - 1] = G := ⟨_, rfl⟩
        rw [hF] at x0 x1 x2' hfg
        rw [hG] at y0 y1 y2' hfg
        clear hF hG
        cases hq : (cmpF F G == 0) with
        | false =>
          have hq' := Aside0.mk hq
          rw [hq] at hfg
          clear hq
          go_wp2
          refine Reg.region [(0,.L),(1,.L),(2,.L),(3,.L),(4,.L),(5,.L),(6,.L),(7,.L),(8,.L),(9,.L),(10,.C)] [] (by kernel_rfl) (by kernel_rfl) ?_
          repeat first | refine sP ?_ | refine sS ?_ | refine sA ?_ | refine sL ?_ | refine sQ ?_ | refine sO ?_
          refine callV (.bool false) Tryz.func52 (fun w' hS => ?_) ?_
          focus exact (sameFact_calls w' A3 c3 A4 c4 F G (x2'.out.on hS) (y2'.out.on hS)).mono fun e w'' h => ⟨by rw [h.1, hq'.out], h.2⟩
          repeat first | refine sP ?_ | refine sS ?_ | refine sA ?_ | refine sL ?_ | refine sQ ?_ | refine sO ?_
          refine Reg.nil fun w2 hS => ?_
          clear x0 x1 y0 y1
          go_wp2
          refine ⟨⟨k + 1, by go_num, by omega, by omega, ⟨fun j hj => ?_⟩, ⟨hB.out.trans hS⟩⟩, by simp [intOf]; omega⟩
          by_cases e : j = k
          · rw [e]; exact hfg.out
          · exact hall.out j (by omega)
        | true =>
          have hq' := Aside0.mk hq
          rw [hq] at hfg
          clear hq
          go_wp2
          refine Reg.region [(0,.L),(1,.L),(2,.L),(3,.L),(4,.L),(5,.L),(6,.L),(7,.L),(8,.L),(9,.L),(10,.C)] [] (by kernel_rfl) (by kernel_rfl) ?_
          repeat first | refine sP ?_ | refine sS ?_ | refine sA ?_ | refine sL ?_ | refine sQ ?_ | refine sO ?_
          refine callV (.bool true) Tryz.func52 (fun w' hS => ?_) ?_
          focus exact (sameFact_calls w' A3 c3 A4 c4 F G (x2'.out.on hS) (y2'.out.on hS)).mono fun e w'' h => ⟨by rw [h.1, hq'.out], h.2⟩
          repeat first | refine sP ?_ | refine sS ?_ | refine sA ?_ | refine sL ?_ | refine sQ ?_ | refine sO ?_
          refine Reg.nil fun w2 hS => ?_
          clear x0 x1 y0 y1
          have hB2 := Aside0.mk (hB.out.trans hS)
          have hI0 := Aside0.mk (KB.start id hs (flags none fs) (by rw [hfl.out]; exact hlen'.out) k (by rw [hfl.out]; omega) (by
            have h := hfg.out
            obtain ⟨_, e⟩ := List.getElem?_eq_some_iff.1 h
            exact e) (fun j hj => by
            have h := hall.out j hj
            obtain ⟨_, e⟩ := List.getElem?_eq_some_iff.1 h
            exact e))
          go_wp2_with (refine gate 31 ?_)
          refine ⟨slFF 31 (A := some ⟨g, 0, none⟩) (k := k) (n := hs.length) (c := cap) (A' := some ⟨g, k * 2, none⟩) (m := hs.length - k) (c' := cap - k) (by rw [if_neg (by have := hcap.out; omega), Option.map_some, add_plain]) rfl rfl (by omega) hcap.out ?_⟩
          go_wp2
          go_loopw [5, 7] (fun v5 v7 wr => ∃ (i m : Nat) (L : List Hdr), v5 = .int .i64 i ∧ v7 = .int .i64 m ∧ 1 ≤ m ∧ k + m ≤ hs.length ∧ Aside0 (KB id hs (flags none fs) (k + m) i L) ∧ Aside0 (∀ t, i ≤ t → L[t]? = hs[t]?) ∧ Aside0 (OH wr lo (.slice (some ⟨g, 0, none⟩) hs.length cap) L) ∧ Aside0 (Ex (fun b => some b = Value.ownBlock (.slice (some ⟨g, 0, none⟩) hs.length cap)) w wr)) (fun _ v7 _ => hs.length - k - (intOf v7).toNat)
          case atStart => exact ⟨k, 1, hs, rfl, by go_num, by omega, by omega, hI0, ⟨fun t _ => rfl⟩, ⟨pw_own_below hO'.out hB2.out⟩, ⟨Ex.of_on hB2.out⟩⟩
          case round =>
            obtain ⟨i, m, L, rfl, rfl, hm1, hmn, hK, hge, hL, hE⟩ := hrel
            have hij := hK.out.lt
            have hLl := Aside0.mk (show L.length = hs.length by rw [hK.out.len, hfl.out, ← hlen'.out])
            by_cases hml : m < hs.length - k
            · have hjf : k + m < fs.length := by have := hlen'.out; omega
              have hjf' : k + m - 1 < fs.length := by omega
              obtain ⟨A5, c5, hh5, x0, x1, x2⟩ := elemF hO'.out hS'.out hE.out hL.out (k + m) hjf (hge.out _ (by omega))
              obtain ⟨A6, c6, _, y0, y1, y2⟩ := elemF hO'.out hS'.out hE.out hL.out (k + m - 1) hjf' (hge.out _ (by omega))
              rw [show (k + m) * 2 = k * 2 + m * 2 by omega] at x0 x1
              rw [show (k + m - 1) * 2 = k * 2 + (m - 1) * 2 by omega] at y0 y1
              have hws : IntKind.i64.wrap ((m : Int) - 1) = ((m - 1 : Nat) : Int) := by rw [IntWalk.i64_in _ (by omega)]; omega
              have hm1l : m - 1 < hs.length - k := by omega
              have hbl : k + m < (flags none fs).length := by rw [hfl.out]; exact hjf
              have hfg := Aside0.mk (show (flags none fs)[k + m] = (cmpF fs[k + m] fs[k + m - 1] == 0) by
                have h := flags_get fs none (k + m - 1) (by omega)
                have e : (flags none fs)[k + m] = (flags none fs)[k + m - 1 + 1]'(by rw [hfl.out]; omega) := by congr 1; omega
                rw [e, h]
                have e2 : fs[k + m - 1 + 1]'(by omega) = fs[k + m] := by congr 1; omega
                rw [e2]
                by_cases c : fs[k + m - 1] = fs[k + m]
                · rw [decide_eq_true c, c, cmpF_self]; rfl
                · rw [decide_eq_false c]
                  symm
                  rw [beq_eq_false_iff_ne]
                  exact fun h => c ((cmpF_eq _ _).1 h).symm)
              have x2' := Aside0.mk x2
              have y2' := Aside0.mk y2
              have hh5' := Aside0.mk hh5
              have hbl' := Aside0.mk hbl
              clear x2 y2 hh5
              obtain ⟨F, hF⟩ : ∃ F, fs[k + m] = F := ⟨_, rfl⟩
              obtain ⟨G, hG⟩ : ∃ G, fs[k + m - 1] = G := ⟨_, rfl⟩
              rw [hF] at x0 x1 x2' hfg hh5'
              rw [hG] at y0 y1 y2' hfg
              clear hF hG
              cases hq : (cmpF F G == 0) with
              | true =>
                have hq' := Aside0.mk hq
                rw [hq] at hfg
                clear hq
                go_wp2
                refine Reg.region [(0,.L),(1,.L),(2,.L),(3,.L),(4,.L),(5,.L),(6,.L),(7,.L),(8,.L),(9,.L),(10,.C),(11,.L)] [] (by kernel_rfl) (by kernel_rfl) ?_
                repeat first | refine sP ?_ | refine sS ?_ | refine sA ?_ | refine sL ?_ | refine sQ ?_ | refine sO ?_
                refine callV (.bool true) Tryz.func52 (fun w' hS => ?_) ?_
                focus exact (sameFact_calls w' A5 c5 A6 c6 F G (x2'.out.on hS) (y2'.out.on hS)).mono fun e w'' h => ⟨by rw [h.1, hq'.out], h.2⟩
                repeat first | refine sP ?_ | refine sS ?_ | refine sA ?_ | refine sL ?_ | refine sQ ?_ | refine sO ?_
                refine Reg.nil fun w3 hS3 => ?_
                clear x0 x1 y0 y1
                go_wp2
                exact ⟨⟨i, m + 1, L, rfl, by go_num, by omega, by omega, ⟨hK.out.skip (by rw [hfl.out]; exact hlen'.out) hbl'.out hfg.out⟩, hge, ⟨pw_own_below hL.out hS3⟩, ⟨hE.out.then_on hS3⟩⟩, by simp [intOf]; omega⟩
              | false =>
                have hq' := Aside0.mk hq
                rw [hq] at hfg
                clear hq
                go_wp2
                refine Reg.region [(0,.L),(1,.L),(2,.L),(3,.L),(4,.L),(5,.L),(6,.L),(7,.L),(8,.L),(9,.L),(10,.C),(11,.L)] [] (by kernel_rfl) (by kernel_rfl) ?_
                repeat first | refine sP ?_ | refine sS ?_ | refine sA ?_ | refine sL ?_ | refine sQ ?_ | refine sO ?_
                refine callV (.bool false) Tryz.func52 (fun w' hS => ?_) ?_
                focus exact (sameFact_calls w' A5 c5 A6 c6 F G (x2'.out.on hS) (y2'.out.on hS)).mono fun e w'' h => ⟨by rw [h.1, hq'.out], h.2⟩
                repeat first | refine sP ?_ | refine sS ?_ | refine sA ?_ | refine sL ?_ | refine sQ ?_ | refine sO ?_
                refine Reg.nil fun w3 hS3 => ?_
                have x0' := (hS3.eq _ (by rw [x0]; rfl)).trans x0
                have x1' := (hS3.eq _ (by rw [x1]; rfl)).trans x1
                have hL2 := Aside0.mk (pw_own_below hL.out hS3)
                have hiL : i < L.length := by have := hLl.out; omega
                obtain ⟨hi0, hi1⟩ := OH.at hL2.out i hiL
                have hL2n : w3.ownsRow lo 30 2 (.slice (some ⟨g, 0, none⟩) hs.length cap) hs.length (L.flatMap encH) := hLl.out ▸ hL2.out
                have hf0 := own_frozen hL2n (i * 2)
                have hf1 := own_frozen hL2n (i * 2 + 1)
                clear hL2n x0 x1 y0 y1
                go_wp2
                have hst := OH.store hL2.out i hiL (F.1, A5, F.2.length, c5)
                have hkp := hK.out.keep (by rw [hfl.out]; exact hlen'.out) hbl'.out hfg.out
                have e5 : hs[k + m]'(by omega) = (F.1, A5, F.2.length, c5) := by
                  obtain ⟨_, e⟩ := List.getElem?_eq_some_iff.1 hh5'.out
                  exact e
                rw [e5] at hkp
                exact ⟨⟨i + 1, m + 1, _, by go_num, by go_num, by omega, by omega, ⟨hkp⟩, ⟨fun t ht => by rw [List.getElem?_set_ne (by omega)]; exact hge.out t (by omega)⟩, ⟨hst⟩, ⟨((hE.out.then_on hS3).trans' (Ex.mono (Ex.set _ _ _) (fun k e => by subst e; rfl))).trans' (Ex.mono (Ex.set _ _ _) (fun k e => by subst e; rfl))⟩⟩, by simp [intOf]; omega⟩
            · have hkm : k + m = hs.length := by omega
              have hclr := fun ty => run_clearF hL.out i (by omega) (cap - i) ty
              have hin : i < hs.length := by omega
              go_wp2_with (refine gate 61 ?_)
              refine ⟨slFF 61 (A := some ⟨g, 0, none⟩) (k := i) (n := hs.length) (c := cap) (A' := some ⟨g, i * 2, none⟩) (m := hs.length - i) (c' := cap - i) (by rw [if_neg (by have := hcap.out; omega), Option.map_some, add_plain]) rfl rfl (by omega) hcap.out ?_⟩
              go_wp2_with (refine gate 64 ?_)
              refine ⟨slTF 64 (k := i) (n := hs.length) (c := cap) (Nat.le_of_lt hin) hcap.out ?_⟩
              go_wp2
              go_ret
              have hLn : wr.ownsRow lo 30 2 (.slice (some ⟨g, 0, none⟩) hs.length cap) hs.length (L.flatMap encH) := hLl.out ▸ hL.out
              obtain ⟨h1, g1⟩ := own_sets (Builtin.zeroCells #[.int .i64 0, .slice none 0 0] (hs.length - i)).toList (i * 2) _ _ hLn (by rw [Array.length_toList, size_zeroCells]; show i * 2 + (hs.length - i) * 2 ≤ _; omega)
              have h2 := own_cut h1 i (Nat.le_of_lt hin)
              have hKe : KB id hs (flags none fs) (flags none fs).length i L := by
                have h := hK.out
                rwa [show k + m = (flags none fs).length by rw [hfl.out, ← hlen'.out]; omega] at h
              have hkd := hKe.done
              have hki := hKe.is
              rw [hfl.out] at hkd hki
              have e : ((L.flatMap encH).take (i * 2)) = (keptB id hs (flags none fs) fs.length).flatMap encH := by
                rw [← hkd]
                have e2 : L.flatMap encH = (L.take i).flatMap encH ++ (L.drop i).flatMap encH := by rw [← List.flatMap_append, List.take_append_drop]
                have e3 : ((L.take i).flatMap encH).length = i * 2 := by rw [flat_len (enc := encH) (sz := 2) (fun _ => rfl), List.length_take, hLl.out]; congr 1; omega
                rw [e2, List.take_append_of_le_length (by omega), ← e3, List.take_length]
              have hl0 : (L.flatMap encH).length = hs.length * 2 := hLn.1
              rw [List.append_assoc, List.take_append_of_le_length (by rw [List.length_take]; omega), List.take_take, Nat.min_self, e] at h2
              have hE' := hE.out.trans' (Ex.of_grown g1)
              have hkp := keptB_pairs hS'.out
              refine ⟨_, rfl, keptB id hs (flags none fs) fs.length, ?_, hkp.ex hE' (fun i a b ha hb e => ?_), hE', fun b h => ?_⟩
              · show World.ownsRow _ _ _ _ _ (keptB id hs (flags none fs) fs.length).length _
                rw [← hki]; exact h2
              · exact (hkp.ne_row hO'.out ha hb) e.symm
              · rcases h with h | ⟨m', a, ha, h⟩
                · exact .inl h
                · have hmem := List.mem_of_getElem? ha
                  unfold keptB at hmem
                  obtain ⟨q, hq, rfl⟩ := List.mem_map.1 hmem
                  have hq1 := List.mem_of_mem_take (List.mem_filter.1 hq).1
                  have hq2 : q.1 ∈ hs := (List.of_mem_zip hq1).1
                  obtain ⟨m', hm', e⟩ := List.mem_iff_getElem.1 hq2
                  exact .inr ⟨m', q.1, by rw [List.getElem?_eq_getElem hm', e], h⟩
      · go_wp2
        go_ret
        have hr : runs none fs = fs := runs_none fun j hj => by
          rw [hfl.out] at hj
          have h := hall.out j (by have := hlen'.out; omega)
          obtain ⟨_, e⟩ := List.getElem?_eq_some_iff.1 h
          exact e
        exact ⟨_, rfl, hs, pw_own_below hO'.out hB.out, by rw [hr]; exact hS'.out.on hB.out, Ex.of_on hB.out, fun _ h => h⟩
end Go.Proofs.YtngjhblbpapjeaaGreat.H
/- The rule for regions that draw once more, over worlds of which it is also told that the count of draws grows. No condition. -/
namespace Go.Proofs.YtngjhblbpapjeaaGreat.RegD
open Go Go.RowKit Go.Proofs.YtngjhblbpapjeaaGreat.Reg
variable {P : Program} {ops : Array Oper} {Q : Exit → Act → World → Prop} {md : Region.Mode}
/-- The worlds that go on from W, their count of draws too. -/
structure On (W w : World) : Prop where
  low : Below W.heap.size W w
  drawn : W.drawn ≤ w.drawn
theorem On.refl (W : World) : On W W := ⟨Below.refl _ _, Nat.le_refl _⟩
theorem On.trans {a b c : World} (h : On a b) (k : On b c) : On a c := ⟨Reg.On.trans h.low k.low, Nat.le_trans h.drawn k.drawn⟩
theorem On.eq {W w : World} (h : On W w) : ∀ p, (W.cell? p).isSome = true → w.cell? p = W.cell? p := Reg.On.eq h.low
theorem On.alloc {W w : World} (h : On W w) (o : Obj) : On W (w.alloc o) := ⟨Reg.On.alloc h.low o, h.drawn⟩
theorem on_draw (W : World) : On W { W with drawn := W.drawn + 1 } := ⟨Reg.on_draw W, Nat.le_succ _⟩
def wpOrd (P : Program) (ops : Array Oper) (Q : Exit → Act → World → Prop) (tail : List Nat) : List (Nat × K) → Act → World → Prop
  | [], a, W => ∀ w, On W w → wpList P ops Q (tail.filterMap fun i => ops[i]?) a w
  | (i, k) :: l, a, W =>
    match ops[i]? with
    | none => False
    | some o =>
      if Region.wanted o (yielded ops a.tmps) then
        (match k with
          | .L => ∃ v, (∀ w, On W w → (execOp a.eval o).run P w = .ok (.value v) w) ∧ wpOrd P ops Q tail l (a.put o.dst v) W
          | .C => ∃ v, (∀ w, On W w → nAt P o a w fun u w' => u = v ∧ On W w') ∧ wpOrd P ops Q tail l (a.put o.dst v) W
          | .N => ∀ w, On W w → wpList P ops (Exit.then (fun a' w' => On W w' ∧ wpOrd P ops Q tail l a' w') Q) [o] a w
          | .P => ∃ v, (∀ w, (execOp a.eval o).run P w = .ok (.value v) w) ∧ wpOrd P ops Q tail l (a.put o.dst v) W)
      else wpOrd P ops Q tail l (a.put o.dst undef) W
theorem wpOp_of_one {i : Nat} {o : Oper} {T : Act → World → Prop} {a : Act} {w : World} (hi : ops[i]? = some o) (h : wpList P ops (Exit.then T Q) [o] a w) (hl : LetsOut (Exit.then T Q) → LetsOut Q := by exact id) : wpOp P ops Q i T a w := by
  simp only [wpList] at h
  unfold wpOp
  simp only [hi]
  split
  · rename_i hw
    rw [if_pos hw] at h
    rcases h with h | ⟨h1, h2⟩
    · refine .inl ?_
      unfold Oper.wp at *
      generalize (execOp a.eval o).run P w = r at *
      cases r with
      | ok n w' =>
        cases n <;> simp only [Oper.upon] at h ⊢ <;>
          first
            | exact h
            | exact h.mono (fun e w'' he => by cases e <;> first | exact he | exact hl he)
      | halt x w' => cases x <;> simp only [Oper.upon] at h ⊢ <;> exact h
    · exact .inr ⟨h1, hl h2⟩
  · rename_i hw
    rw [if_neg hw] at h
    exact h
theorem wpT_of_tail {cl : Nat → Bool} : ∀ (l : List Nat) (listed : Array Bool) (a : Act) (S : World → Prop), (∀ i ∈ l, cl i = true) → chkTail md ops l listed = true → (∀ w, S w → wpList P ops Q (l.filterMap fun i => ops[i]?) a w) → wpT P md ops Q cl l.length listed a S
  | [], listed, a, S, _, hc, h => ⟨by simpa [chkTail] using hc, h⟩
  | i :: l, listed, a, S, hcl, hc, h => by
    simp only [chkTail, Bool.and_eq_true, beq_iff_eq] at hc
    obtain ⟨⟨hr, hbusy⟩, hl⟩ := hc
    cases hi : ops[i]? with
    | none => simp [hi] at hbusy
    | some o =>
      rw [List.length_cons]
      refine ⟨fun h0 => (by rw [hr] at h0; cases h0), fun j hj => ?_⟩
      rw [hr] at hj
      obtain rfl := List.mem_singleton.1 hj
      have ih := fun a S h => wpT_of_tail l (listed.setIfInBounds j true) a S (fun k hk => hcl k (List.mem_cons_of_mem _ hk)) hl h
      have hlist : ∀ w, S w → wpOp P ops Q j (wpList P ops Q (l.filterMap fun i => ops[i]?)) a w := fun w hS => by
        have h1 := h w hS
        simp only [List.filterMap_cons, hi] at h1
        unfold wpOp
        simp only [hi]
        unfold wpList at h1
        exact h1
      unfold Reg.stepT
      simp only [hi]
      split
      · exact .inr (.inr ⟨.inr (hcl j List.mem_cons_self), fun w hS => wpOp_mono (fun a' w' hh => ⟨fun w => w = w', rfl, fun h0 => (by rw [hcl j List.mem_cons_self] at h0; cases h0), ih a' _ (fun w e => by subst e; exact hh)⟩) (hlist w hS)⟩)
      · rename_i hw
        refine ih _ _ fun w hS => ?_
        have h1 := hlist w hS
        unfold wpOp at h1
        simp only [hi] at h1
        rw [if_neg hw] at h1
        exact h1
theorem wpT_of_ord (hs : Region.noSelect ops = true) (hQ : Plain Q) (tail : List Nat) : ∀ (l : List (Nat × K)) (listed : Array Bool) (a : Act) (W : World), closed md ops listed → chk md ops tail l listed = true → wpOrd P ops Q tail l a W → wpT P md ops Q (fun j => tail.contains j) (l.length + tail.length) listed a (On W)
  | [], listed, a, W, _, hc, h => by
    rw [List.length_nil, Nat.zero_add]
    exact wpT_of_tail tail listed a _ (fun i hi => by simpa using hi) hc h
  | (i, k) :: l, listed, a, W, hclosed, hc, h => by
    simp only [chk, Bool.and_eq_true] at hc
    obtain ⟨hk, hl⟩ := hc
    simp only [wpOrd] at h
    cases hi : ops[i]? with
    | none => simp only [hi] at h
    | some o =>
      simp only [hi] at h
      have hri : i ∈ Region.ready md ops listed := by
        cases k <;> simp only [Bool.and_eq_true, beq_iff_eq] at hk
        · simpa using hk.1.1
        · simpa using hk.1.1
        · rw [hk.1.1]; exact List.mem_singleton.2 rfl
        · simpa using hk.1
      have ih := fun a W h => wpT_of_ord hs hQ tail l (listed.setIfInBounds i true) a W (hclosed.set hri) hl h
      have sel := Region.noSelect_spec hs
      have hlen : (((i, k) :: l).length + tail.length) = (l.length + tail.length) + 1 := by rw [List.length_cons]; omega
      rw [hlen]
      have hreach : k ≠ .N → k ≠ .P → ∀ j, (tail.contains j) = true → reach md ops j i = true := by
        intro hkn hkp j hj
        have hj' : j ∈ tail := by simpa using hj
        cases k <;> simp only [Bool.and_eq_true, List.all_eq_true] at hk
        · exact hk.2 j hj'
        · exact hk.2 j hj'
        · exact absurd rfl hkn
        · exact absurd rfl hkp
      by_cases hw : Region.wanted o (yielded ops a.tmps) = true
      · rw [if_pos hw] at h
        cases k with
        | L =>
          simp only [Bool.and_eq_true] at hk
          obtain ⟨v, h1, h2⟩ := h
          exact wpT_first (c := false) hQ hi sel (hreach (by simp) (by simp)) _ listed a _ hclosed (fun j oj hj hne hun hno => freeC_spec hi hk.1.2 j oj hj hne hun hno) hri (.inl ⟨hw, fun w hS => by simpa using h1 w hS⟩) (ih _ _ h2)
        | C =>
          simp only [Bool.and_eq_true] at hk
          obtain ⟨v, h1, h2⟩ := h
          exact wpT_first (c := true) hQ hi sel (hreach (by simp) (by simp)) _ listed a _ hclosed (fun j oj hj hne hun hno => freeC_spec hi hk.1.2 j oj hj hne hun hno) hri (.inl ⟨hw, fun w hS => by simpa using h1 w hS⟩) (ih _ _ h2)
        | N =>
          simp only [Bool.and_eq_true, beq_iff_eq, busy, hi, Bool.not_eq_true'] at hk
          refine ⟨fun h0 => (by rw [hk.1.1] at h0; cases h0), fun j hj => ?_⟩
          rw [hk.1.1] at hj
          obtain rfl := List.mem_singleton.1 hj
          unfold Reg.stepT
          simp only [hi]
          rw [if_pos hw]
          exact .inr (.inr ⟨.inl hk.1.2, fun w hS => wpOp_mono (fun a' w' ⟨hon, hh⟩ => ⟨On w', On.refl _, fun _ w'' hw'' => hon.trans hw'', ih _ _ hh⟩) (wpOp_of_one hi (h w hS))⟩)
        | P =>
          simp only [Bool.and_eq_true] at hk
          obtain ⟨v, h1, h2⟩ := h
          exact wpT_firstP hQ hi sel _ listed a _ hclosed (fun j oj hj hne hun hno => (freeC_spec hi hk.2 j oj hj hne hun hno).1) hri (.inl ⟨hw, fun w _ => by simpa using h1 w⟩) (ih _ _ h2)
      · rw [if_neg hw] at h
        have hw' : Region.wanted o (yielded ops a.tmps) = false := by simpa using hw
        cases k with
        | P =>
          simp only [Bool.and_eq_true] at hk
          exact wpT_firstP hQ hi sel _ listed a _ hclosed (fun j oj hj hne hun hno => (freeC_spec hi hk.2 j oj hj hne hun hno).1) hri (.inr ⟨hw', rfl⟩) (ih _ _ h)
        | L =>
          simp only [Bool.and_eq_true] at hk
          exact wpT_first (c := false) hQ hi sel (hreach (by simp) (by simp)) _ listed a _ hclosed (fun j oj hj hne hun hno => ⟨(freeC_spec hi hk.1.2 j oj hj hne hun hno).1, fun h => by cases h⟩) hri (.inr ⟨hw', rfl⟩) (ih _ _ h)
        | C =>
          simp only [Bool.and_eq_true] at hk
          exact wpT_first (c := false) hQ hi sel (hreach (by simp) (by simp)) _ listed a _ hclosed (fun j oj hj hne hun hno => ⟨(freeC_spec hi hk.1.2 j oj hj hne hun hno).1, fun h => by cases h⟩) hri (.inr ⟨hw', rfl⟩) (ih _ _ h)
        | N =>
          simp only [Bool.and_eq_true, beq_iff_eq, busy, hi, Bool.not_eq_true'] at hk
          refine ⟨fun h0 => (by rw [hk.1.1] at h0; cases h0), fun j hj => ?_⟩
          rw [hk.1.1] at hj
          obtain rfl := List.mem_singleton.1 hj
          unfold Reg.stepT
          simp only [hi]
          rw [if_neg hw]
          exact ih _ _ h
/-- The same, shut (so that nobody lays it open unasked). -/
structure Ord (P : Program) (ops : Array Oper) (Q : Exit → Act → World → Prop) (tail : List Nat) (l : List (Nat × K)) (a : Act) (W : World) : Prop where mk :: (out : wpOrd P ops Q tail l a W)
/-- The rule: a region that draws its order, its operations taken in the order l, then the tail. -/
theorem region {id : Nat} {a : Act} {w : World} (l : List (Nat × K)) (tail : List Nat) (hm : P.follows .mixedOrders = true) (hc : (Region.noSelect ops && (l.length + tail.length == ops.size) && chk .any ops tail l (Array.replicate ops.size false)) = true)
    (h : Ord P ops Q tail l a w) (hQ : Plain Q := by exact fun c a d v w h => by cases d <;> exact h) : (Code.region id ops true).wp P Q a w := by
  simp only [Bool.and_eq_true, beq_iff_eq] at hc
  refine wp_region_any hm (wpAny_of_wpT (cl := fun j => tail.contains j) _ _ _ (On w) _ (below_drew' w) ?_)
  rw [← hc.1.2]
  exact wpT_of_ord hc.1.1 hQ tail l _ a w (closed.start _) (by rw [hc.1.2]; exact hc.2) h.out
where
  below_drew' (w : World) : On w { w with drawn := w.drawn + 1 } := on_draw w
/-! The moves. -/
section
variable {i : Nat} {tail : List Nat} {l : List (Nat × K)} {a : Act} {W : World} {o : Oper} {N : Tmp}
theorem nil (h : ∀ w, On W w → Q .normal a w) : Ord P ops Q [] [] a W := ⟨h⟩
theorem stepL {v : Value} (hy : ∀ w, On W w → (execOp a.eval o).run P w = .ok (.value v) w) (h : Ord P ops Q tail l (a.put (some N) v) W) (hi : ops[i]? = some o) (hN : o.dst = some N)
    (hw : Region.wanted o (yielded ops a.tmps) = true) : Ord P ops Q tail ((i, .L) :: l) a W := by
  refine ⟨?_⟩
  simp only [wpOrd, hi]
  rw [if_pos hw]
  exact ⟨v, hy, hN ▸ h.out⟩
theorem stepP {v : Value} (hy : ∀ w, (execOp a.eval o).run P w = .ok (.value v) w) (h : Ord P ops Q tail l (a.put (some N) v) W) (hi : ops[i]? = some o) (hN : o.dst = some N)
    (hw : Region.wanted o (yielded ops a.tmps) = true) : Ord P ops Q tail ((i, .P) :: l) a W := by
  refine ⟨?_⟩
  simp only [wpOrd, hi]
  rw [if_pos hw]
  exact ⟨v, hy, hN ▸ h.out⟩
theorem stepC {v : Value} (hy : ∀ w, On W w → nAt P o a w fun u w' => u = v ∧ On W w') (h : Ord P ops Q tail l (a.put (some N) v) W) (hi : ops[i]? = some o) (hN : o.dst = some N)
    (hw : Region.wanted o (yielded ops a.tmps) = true) : Ord P ops Q tail ((i, .C) :: l) a W := by
  refine ⟨?_⟩
  simp only [wpOrd, hi]
  rw [if_pos hw]
  exact ⟨v, hy, hN ▸ h.out⟩
theorem wpList_mono_normal {os : List Oper} {T T' : Act → World → Prop} (hT : ∀ a w, T a w → T' a w) : ∀ {a : Act} {w : World}, wpList P ops (Exit.then T Q) os a w → wpList P ops (Exit.then T' Q) os a w := by
  induction os with
  | nil => intro a w h; exact hT _ _ h
  | cons o os ih =>
    intro a w h
    unfold wpList at h ⊢
    split
    · rename_i hw
      rw [if_pos hw] at h
      rcases h with h | ⟨h1, h2⟩
      · refine .inl ?_
        unfold Oper.wp at *
        generalize (execOp a.eval o).run P w = r at *
        cases r with
        | ok n w' =>
          cases n <;> simp only [Oper.upon] at h ⊢ <;>
            first
              | exact ih h
              | exact h.mono (fun e w'' he => by cases e <;> first | exact ih he | exact he)
              | exact Rows.mono h (fun _ _ he => ih he)
        | halt x w' => cases x <;> simp only [Oper.upon] at h ⊢ <;> exact h
      · exact .inr ⟨h1, h2⟩
    · rename_i hw
      rw [if_neg hw] at h
      exact ih h
theorem stepN (h : ∀ w, On W w → wpList P ops (Exit.then (fun a' w' => On W w' ∧ Ord P ops Q tail l a' w') Q) [o] a w) (hi : ops[i]? = some o)
    (hw : Region.wanted o (yielded ops a.tmps) = true) : Ord P ops Q tail ((i, .N) :: l) a W := by
  refine ⟨?_⟩
  simp only [wpOrd, hi]
  rw [if_pos hw]
  exact fun w hS => wpList_mono_normal (fun a w ⟨h1, h2⟩ => ⟨h1, h2.out⟩) (h w hS)
theorem skip {k : K} (h : Ord P ops Q tail l (a.put (some N) undef) W) (hi : ops[i]? = some o) (hN : o.dst = some N) (hw : Region.wanted o (yielded ops a.tmps) = false) : Ord P ops Q tail ((i, k) :: l) a W := by
  refine ⟨?_⟩
  simp only [wpOrd, hi]
  rw [if_neg (by simp [hw]), hN]
  exact h.out
theorem tail_ {os : List Oper} (h : ∀ w, On W w → wpList P ops Q os a w) (hos : (tail.filterMap fun i => ops[i]?) = os := by simp only [List.filterMap_cons, List.filterMap_nil, List.getElem?_toArray, List.getElem?_cons_zero, List.getElem?_cons_succ]; rfl) : Ord P ops Q tail [] a W := by
  subst hos
  exact ⟨h⟩
end
end Go.Proofs.YtngjhblbpapjeaaGreat.RegD
namespace Go.Proofs.YtngjhblbpapjeaaGreat.HD
open Go Go.RowKit Go.Proofs.YtngjhblbpapjeaaGreatW.PrintWords Go.Proofs.YtngjhblbpapjeaaGreatW.PrintLast Go.Proofs.YtngjhblbpapjeaaGreat.H
open Go.Proofs.YtngjhblbpapjeaaGreat.RegD (On on_draw)
set_option linter.unusedVariables false
/-! Steps inside a region that draws. -/
section
variable {P : Program} {ops : Array Oper} {Q : Exit → Act → World → Prop} {i : Nat} {tail : List Nat} {l : List (Nat × Reg.K)} {a a' : Act} {W : World} {o : Oper} {N : Tmp}
theorem nAt_call {f : FuncId} {fn : Func} {xs : Array Operand} {ts : Array TypeId} {args : Array Value} {w : World} {R : Value → World → Prop} (hf : P.funcs[f]? = some fn) (hname : (fn.name == "runtime.NumGoroutine") = false) (hb : fn.body.isSome = true)
    (hop : o.op = .call { callee := .value (.func f), args := xs, argTypes := ts }) (hargs : xs.map a.eval = args) (h : Calls P f args w fun e w' => ∃ u, e = .returned u ∧ R u w') : Reg.nAt P o a w R := by
  have he := enters_ hf hname hb args w
  have hrun : (execOp a.eval o).run P w = .ok (.enter f args) w := by
    unfold execOp
    simp [hop, resolve, Deferred.ofValue, invoke, Act.eval, hargs, he]
  unfold Reg.nAt
  rw [hrun]
  exact h
/-- A call that hands back one value. -/
theorem callC {f : FuncId} {fn : Func} {xs : Array Operand} {ts : Array TypeId} {args : Array Value} (v : Value) (hf : P.funcs[f]? = some fn)
    (h : ∀ w, On W w → Calls P f args w fun e w' => e = .returned v ∧ On w w') (rest : RegD.Ord P ops Q tail l a' W) (hi : ops[i]? = some o := by rfl) (hN : o.dst = some N := by rfl)
    (hop : o.op = .call { callee := .value (.func f), args := xs, argTypes := ts } := by rfl) (hargs : xs.map a.eval = args := by (try simp only [List.map_toArray, List.map_cons, List.map_nil]); rfl)
    (hname : (fn.name == "runtime.NumGoroutine") = false := by kernel_rfl) (hb : fn.body.isSome = true := by rfl)
    (hw : Region.wanted o (yielded ops a.tmps) = true := by with_unfolding_all rfl) (ha : a.put (some N) v = a' := by simp only [Act.put, List.setIfInBounds_toArray, List.set_cons_zero, List.set_cons_succ]; rfl) : RegD.Ord P ops Q tail ((i, .C) :: l) a W :=
  RegD.stepC (v := v) (fun w hS => nAt_call hf hname hb hop hargs ((h w hS).mono fun e w' ⟨he, hS'⟩ => ⟨v, he, rfl, hS.trans hS'⟩)) (ha ▸ rest) hi hN hw
/-- A call of which more is told: what follows stands behind it. -/
theorem callN {f : FuncId} {fn : Func} {xs : Array Operand} {ts : Array TypeId} {args : Array Value} (hf : P.funcs[f]? = some fn)
    (h : ∀ w, On W w → Calls P f args w fun e w' => ∃ v, e = .returned v ∧ On w w' ∧ ∀ a', a' = a.put (some N) v → RegD.Ord P ops Q tail l a' w') (hi : ops[i]? = some o := by rfl) (hN : o.dst = some N := by rfl)
    (hop : o.op = .call { callee := .value (.func f), args := xs, argTypes := ts } := by rfl) (hargs : xs.map a.eval = args := by (try simp only [List.map_toArray, List.map_cons, List.map_nil]); rfl)
    (hname : (fn.name == "runtime.NumGoroutine") = false := by kernel_rfl) (hb : fn.body.isSome = true := by rfl)
    (hw : Region.wanted o (yielded ops a.tmps) = true := by rfl) : RegD.Ord P ops Q tail ((i, .N) :: l) a W := by
  refine RegD.stepN (fun w hS => ?_) hi hw
  unfold wpList
  rw [if_pos hw]
  refine .inl (Reg.wp_of_nAt (nAt_call hf hname hb hop hargs ((h w hS).mono fun e w' ⟨v, he, hon, hk⟩ => ⟨v, he, ?_⟩)))
  rw [hN]
  exact ⟨hS.trans hon, hk _ rfl⟩
/-- A read, a sum, an address. -/
theorem sL {v : Value} (h : RegD.Ord P ops Q tail l a' W) (hi : ops[i]? = some o := by rfl) (hN : o.dst = some N := by rfl) (hw : Region.wanted o (yielded ops a.tmps) = true := by rfl)
    (hy : ∀ w, On W w → (execOp a.eval o).run P w = .ok (.value v) w := by intro w' hS; have hA := RegD.On.eq hS; clear hS; (go_simp; first | done | rfl))
    (ha : a.put (some N) v = a' := by simp only [Act.put, List.setIfInBounds_toArray, List.set_cons_zero, List.set_cons_succ]; rfl) : RegD.Ord P ops Q tail ((i, .L) :: l) a W := RegD.stepL hy (ha ▸ h) hi hN hw
/-- What asks the world nothing. -/
theorem sQ {v : Value} (h : RegD.Ord P ops Q tail l a' W) (hi : ops[i]? = some o := by rfl) (hN : o.dst = some N := by rfl) (hw : Region.wanted o (yielded ops a.tmps) = true := by rfl)
    (hy : ∀ w, (execOp a.eval o).run P w = .ok (.value v) w := by intro w'; (go_simp; first | done | rfl))
    (ha : a.put (some N) v = a' := by simp only [Act.put, List.setIfInBounds_toArray, List.set_cons_zero, List.set_cons_succ]; rfl) : RegD.Ord P ops Q tail ((i, .P) :: l) a W := RegD.stepP hy (ha ▸ h) hi hN hw
/-- Sums and differences whose bounds are known. -/
theorem sS {x y : Operand} {m n : Int} {t t2 : TypeId} (h : RegD.Ord P ops Q tail l a' W) (hi : ops[i]? = some o := by rfl) (hN : o.dst = some N := by rfl) (hop : o.op = .binOp .sub t x y t2 := by rfl) (hw : Region.wanted o (yielded ops a.tmps) = true := by rfl)
    (hx : a.eval x = .int .i64 m := by rfl) (hy : a.eval y = .int .i64 n := by rfl) {r : Int} (hb : IntKind.i64.wrap (m - n) = r := by first | (with_reducible assumption) | exact IntWalk.i64_in _ (by omega))
    (ha : a.put (some N) (.int .i64 r) = a' := by simp only [Act.put, List.setIfInBounds_toArray, List.set_cons_zero, List.set_cons_succ]; rfl) : RegD.Ord P ops Q tail ((i, .L) :: l) a W :=
  RegD.stepL (fun w _ => by
    subst hb
    unfold execOp
    simp only [hop, hx, hy]
    rfl) (ha ▸ h) hi hN hw
theorem sA {x y : Operand} {m n : Int} {t t2 : TypeId} (h : RegD.Ord P ops Q tail l a' W) (hi : ops[i]? = some o := by rfl) (hN : o.dst = some N := by rfl) (hop : o.op = .binOp .add t x y t2 := by rfl) (hw : Region.wanted o (yielded ops a.tmps) = true := by rfl)
    (hx : a.eval x = .int .i64 m := by rfl) (hy : a.eval y = .int .i64 n := by rfl) {r : Int} (hb : IntKind.i64.wrap (m + n) = r := by first | (with_reducible assumption) | exact IntWalk.i64_in _ (by omega))
    (ha : a.put (some N) (.int .i64 r) = a' := by simp only [Act.put, List.setIfInBounds_toArray, List.set_cons_zero, List.set_cons_succ]; rfl) : RegD.Ord P ops Q tail ((i, .L) :: l) a W :=
  RegD.stepL (fun w _ => by
    subst hb
    unfold execOp
    simp only [hop, hx, hy]
    rfl) (ha ▸ h) hi hN hw
/-- A choice, decided. -/
theorem sP {v : Value} {c x y : Operand} {b : Bool} (h : RegD.Ord P ops Q tail l a' W) (hi : ops[i]? = some o := by rfl) (hN : o.dst = some N := by rfl) (hop : o.op = .pick c x y := by rfl) (hw : Region.wanted o (yielded ops a.tmps) = true := by rfl)
    (hc : a.eval c = .bool b := by rfl) (hv : (if b then a.eval x else a.eval y) = v := by (go_simp; first | done | rfl))
    (ha : a.put (some N) v = a' := by simp only [Act.put, List.setIfInBounds_toArray, List.set_cons_zero, List.set_cons_succ]; rfl) : RegD.Ord P ops Q tail ((i, .L) :: l) a W :=
  RegD.stepL (fun w _ => by unfold execOp; simp only [hop, hc]; subst hv; cases b <;> rfl) (ha ▸ h) hi hN hw
/-- An operation whose guard is off. -/
theorem sO {k : Reg.K} (h : RegD.Ord P ops Q tail l a' W) (hi : ops[i]? = some o := by rfl) (hN : o.dst = some N := by rfl) (hw : Region.wanted o (yielded ops a.tmps) = false := by with_unfolding_all rfl)
    (ha : a.put (some N) undef = a' := by simp only [Act.put, List.setIfInBounds_toArray, List.set_cons_zero, List.set_cons_succ]; rfl) : RegD.Ord P ops Q tail ((i, k) :: l) a W := RegD.skip (ha ▸ h) hi hN hw
end
end Go.Proofs.YtngjhblbpapjeaaGreat.HD
/- Walks: the program's order of facts, in the form that SortFunc asks for. No condition. -/
namespace Go.Proofs.YtngjhblbpapjeaaGreat.HD
open Go Go.RowKit Go.Proofs.YtngjhblbpapjeaaGreatW.PrintWords Go.Proofs.YtngjhblbpapjeaaGreatW.PrintLast Go.Proofs.YtngjhblbpapjeaaGreat.H
open Go.Proofs.YtngjhblbpapjeaaGreat.RegD (On on_draw)
set_option maxHeartbeats 1000000
set_option maxRecDepth 100000
set_option linter.unusedVariables false
set_option linter.unusedSimpArgs false

theorem grown_of_on {W w : World} (h : On W w) : ∃ q os, w = Go.Sort.grow (W.drewN q) os := by
  obtain ⟨p, e⟩ := regrown_of_below h.low
  refine ⟨w.drawn - W.drawn, p.os, ?_⟩
  have hd : p.d = w.drawn := by rw [e]; rfl
  have := h.drawn
  rw [show W.drewN (w.drawn - W.drawn) = redrawn W p.d by unfold World.drewN redrawn; rw [hd, show W.drawn + (w.drawn - W.drawn) = w.drawn by omega]]
  exact e
theorem isNaN_calls (w : World) (v : Int) : Calls Tryz.prog 91 #[.int .i64 v] w fun e w' => e = .returned (.bool false) ∧ On w w' := by
  go_enter Tryz.func91, Tryz.ntmps91
  go_wp2
  go_ret
  exact ⟨by simp, On.refl _⟩
theorem cmpCompare_calls (w : World) (a b : Int) : Calls Tryz.prog 47 #[.int .i64 a, .int .i64 b] w fun e w' => e = .returned (.int .i64 (cmpI a b)) ∧ On w w' := by
  by_cases h1 : a < b
  · have h1b : decide (a < b) = true := decide_eq_true h1
    go_enter Tryz.func47, Tryz.ntmps47
    go_wp2_with (first | (go_at_call 91; refine (isNaN_calls w _).mono ?_; rintro e w1 ⟨rfl, hb1⟩) | (go_at_call 91; refine (isNaN_calls w1 _).mono ?_; rintro e w2 ⟨rfl, hb2⟩))
    go_ret
    exact ⟨ret_int (by unfold cmpI; rw [if_pos (of_decide_eq_true h1b)]), hb1.trans hb2⟩
  · have h1b : decide (a < b) = false := decide_eq_false h1
    by_cases h2 : b < a
    · have h2b : decide (b < a) = true := decide_eq_true h2
      go_enter Tryz.func47, Tryz.ntmps47
      go_wp2_with (first | (go_at_call 91; refine (isNaN_calls w _).mono ?_; rintro e w1 ⟨rfl, hb1⟩) | (go_at_call 91; refine (isNaN_calls w1 _).mono ?_; rintro e w2 ⟨rfl, hb2⟩))
      go_ret
      exact ⟨ret_int (by unfold cmpI; rw [if_neg (of_decide_eq_false h1b), if_pos (of_decide_eq_true h2b)]), hb1.trans hb2⟩
    · have h2b : decide (b < a) = false := decide_eq_false h2
      go_enter Tryz.func47, Tryz.ntmps47
      go_wp2_with (first | (go_at_call 91; refine (isNaN_calls w _).mono ?_; rintro e w1 ⟨rfl, hb1⟩) | (go_at_call 91; refine (isNaN_calls w1 _).mono ?_; rintro e w2 ⟨rfl, hb2⟩))
      go_ret
      exact ⟨ret_int (by unfold cmpI; rw [if_neg (of_decide_eq_false h1b), if_neg (of_decide_eq_false h2b)]), hb1.trans hb2⟩
theorem slicesCompare_calls (w : World) (A B : Option Addr) (c d : Nat) (a b : List Int) (ha : Ints w A c a) (hb : Ints w B d b) : Calls Tryz.prog 48 #[.slice A a.length c, .slice B b.length d] w fun e w' => e = .returned (.int .i64 (ints a b)) ∧ On w w' := by
  have hma := ha.max
  have hmb := hb.max
  go_enter Tryz.func48, Tryz.ntmps48
  go_wp2
  go_loopw [11] (fun v wr => ∃ k : Nat, k ≤ a.length ∧ k ≤ b.length ∧ v = .int .i64 k ∧ Hid (ints (a.drop k) (b.drop k) = ints a b) ∧ On w wr) (fun v _ => a.length - (intOf v).toNat)
  case atStart => exact ⟨0, Nat.zero_le _, Nat.zero_le _, rfl, rfl, On.refl _⟩
  case round =>
    obtain ⟨k, hk1, hk2, rfl, hp, hB⟩ := hrel
    by_cases h1 : k < a.length
    · obtain ⟨ad, rfl, hx⟩ := (ha.on hB.low).at k h1
      by_cases h2 : k < b.length
      · obtain ⟨bd, rfl, hy⟩ := (hb.on hB.low).at k h2
        have h2n : decide (b.length ≤ k) = false := decide_eq_false (by omega)
        have hst := Aside0.mk ((ints_stepI a b k h1 h2).symm.trans hp.out)
        clear hp
        by_cases h3 : cmpI a[k] b[k] = 0
        · have h3' := Aside0.mk h3
          have h3b : (cmpI a[k] b[k] != 0) = false := by simp [h3]
          clear h3
          go_wp2_with (go_at_call 47; refine (cmpCompare_calls _ _ _).mono ?_; rintro e w3 ⟨rfl, hb3⟩)
          go_roundw
          case rel => exact ⟨k + 1, by omega, by omega, by go_num, (by have := hst.out; rwa [if_pos h3'.out] at this : _ = _), hB.trans hb3⟩
          case measure => simp [intOf]; omega
        · have h3' := Aside0.mk h3
          have h3b : (cmpI a[k] b[k] != 0) = true := by simp [h3]
          clear h3
          go_wp2_with (go_at_call 47; refine (cmpCompare_calls _ _ _).mono ?_; rintro e w3 ⟨rfl, hb3⟩)
          go_ret
          exact ⟨ret_int (by have := hst.out; rwa [if_neg h3'.out] at this), hB.trans hb3⟩
      · have hb0 : b.drop k = [] := List.drop_of_length_le (by omega)
        have h2n : decide (b.length ≤ k) = true := decide_eq_true (by omega)
        have hp' := Aside0.mk hp.out
        clear hp
        go_wp2
        go_ret
        exact ⟨ret_int (by rw [← hp'.out, hb0, List.drop_eq_getElem_cons h1]; rfl), hB⟩
    · have ha0 : a.drop k = [] := List.drop_of_length_le (by omega)
      have hp' := Aside0.mk hp.out
      clear hp
      by_cases h2 : k < b.length
      · have h4 : a.length < b.length := by omega
        go_wp2
        go_ret
        exact ⟨ret_int (by rw [← hp'.out, ha0, List.drop_eq_getElem_cons h2]; rfl), hB⟩
      · have hb0 : b.drop k = [] := List.drop_of_length_le (by omega)
        have h4 : ¬ a.length < b.length := by omega
        go_wp2
        go_ret
        exact ⟨ret_int (by rw [← hp'.out, ha0, hb0]; rfl), hB⟩
theorem cmpOr_calls (w : World) (A c) (l : List Int) (h : Ints w A c l) : Calls Tryz.prog 46 #[.slice A l.length c] w fun e w' => e = .returned (.int .i64 (orFrom l)) ∧ On w w' := by
  have hmax := h.max
  go_enter Tryz.func46, Tryz.ntmps46
  go_wp2
  go_loop [8] (fun v => ∃ k : Nat, k ≤ l.length ∧ v = .int .i64 k ∧ Hid (orFrom (l.drop k) = orFrom l)) (fun v => l.length - (intOf v).toNat)
  case atStart => exact ⟨0, Nat.zero_le _, rfl, rfl⟩
  case round =>
    obtain ⟨k, hk, rfl, hp⟩ := hrel
    by_cases hlt : k < l.length
    · obtain ⟨ad, rfl, hx⟩ := h.at k hlt
      have hst := Aside0.mk ((orFrom_step l k hlt).symm.trans hp.out)
      clear hp
      by_cases h3 : l[k] = 0
      · have h3' := Aside0.mk h3
        have h3b : (l[k] != 0) = false := by simp [h3]
        clear h3
        go_wp2
        go_round
        case rel => exact ⟨k + 1, by omega, by go_num, (by have := hst.out; rwa [if_pos h3'.out] at this : _ = _)⟩
        case measure => simp [intOf]; omega
      · have h3' := Aside0.mk h3
        have h3b : (l[k] != 0) = true := by simp [h3]
        clear h3
        go_wp2
        go_ret
        exact ⟨ret_int (by have := hst.out; rwa [if_neg h3'.out] at this), On.refl _⟩
    · go_wp2
      go_ret
      exact ⟨ret_int (by rw [← hp.out, List.drop_of_length_le (by omega)]; rfl), On.refl _⟩
theorem iCompareFacts_calls (w : World) (A0 c0 A1 c1) (f g : Fct) (h0 : Ints w A0 c0 f.2) (h1 : Ints w A1 c1 g.2) : Calls Tryz.prog 12 #[.agg #[.int .i64 f.1, .slice A0 f.2.length c0], .agg #[.int .i64 g.1, .slice A1 g.2.length c1]] w fun e w' => e = .returned (.int .i64 (cmpF f g)) ∧ On w w' := by
  have hb0 := Aside0.mk (On.alloc (On.alloc (On.refl w) (.cells #[.int .i64 f.1, .slice A0 f.2.length c0] 30)) (.cells #[.int .i64 g.1, .slice A1 g.2.length c1] 30))
  go_enter Tryz.func12, Tryz.ntmps12
  go_wp2
  refine RegD.region [(0,.L),(1,.L),(2,.L),(3,.L),(4,.C),(5,.L),(6,.L),(7,.L),(8,.L),(9,.C)] [10,11,12] (by kernel_rfl) (by kernel_rfl) ?_
  repeat first | refine sP ?_ | refine sS ?_ | refine sA ?_ | refine sL ?_ | refine sQ ?_ | refine sO ?_
  refine callC (.int .i64 (cmpI f.1 g.1)) Tryz.func47 (fun w' hS => ?_) ?_
  focus exact cmpCompare_calls w' _ _
  repeat first | refine sP ?_ | refine sS ?_ | refine sA ?_ | refine sL ?_ | refine sQ ?_ | refine sO ?_
  refine callC (.int .i64 (ints f.2 g.2)) Tryz.func48 (fun w' hS => ?_) ?_
  focus exact slicesCompare_calls w' _ _ _ _ f.2 g.2 (h0.on (hb0.out.trans hS).low) (h1.on (hb0.out.trans hS).low)
  repeat first | refine sP ?_ | refine sS ?_ | refine sA ?_ | refine sL ?_ | refine sQ ?_ | refine sO ?_
  refine RegD.tail_ fun w2 hS => ?_
  have hc := cmpI_bd f.1 g.1
  have hi := ints_bd f.2 g.2
  have hr := Aside0.mk ((ints2 w2 (cmpI f.1 g.1) (ints f.2 g.2)).2 (fun x hx => by simp at hx; rcases hx with rfl | rfl <;> omega))
  clear hc hi
  go_wp2_with (go_at_call 46; refine (cmpOr_calls _ _ _ _ hr.out).mono ?_; rintro e w3 ⟨rfl, hb3⟩)
  go_ret
  refine ⟨ret_int ?_, (hb0.out.trans hS).trans ((On.alloc (On.refl _) _).trans hb3)⟩
  rw [cmpF_or]
  simp only [orFrom]
  by_cases h3 : cmpI f.1 g.1 = 0
  · simp only [h3, if_pos, ne_eq, not_true, if_false]
    by_cases h4 : ints f.2 g.2 = 0
    · rw [if_pos h4, h4]
    · rw [if_neg h4]
  · simp [h3]
theorem cmpGrow_calls (w : World) (A0 c0 A1 c1) (f g : Fct) (h0 : Ints w A0 c0 f.2) (h1 : Ints w A1 c1 g.2) : Calls Tryz.prog 12 #[.agg #[.int .i64 f.1, .slice A0 f.2.length c0], .agg #[.int .i64 g.1, .slice A1 g.2.length c1]] w fun e w' => e = .returned (.int .i64 (cmpF f g)) ∧ ∃ q os, w' = Go.Sort.grow (w.drewN q) os :=
  (iCompareFacts_calls w A0 c0 A1 c1 f g h0 h1).mono fun e w' h => ⟨h.1, grown_of_on h.2⟩
end Go.Proofs.YtngjhblbpapjeaaGreat.HD
/- Facts that are read, with their headers: what SortFunc's contract takes and gives. No condition. -/
namespace Go.Proofs.YtngjhblbpapjeaaGreat.H
open Go Go.RowKit Go.Proofs.YtngjhblbpapjeaaGreatW.PrintWords Go.Proofs.YtngjhblbpapjeaaGreatW.PrintLast
open Go.Proofs.YtngjhblbpapjeaaGreat.Reg (On on_draw)
set_option maxHeartbeats 4000000
set_option maxRecDepth 100000
set_option linter.unusedVariables false
set_option linter.unusedSimpArgs false

/-- A fact of the call's own: its header, what it reads as. -/
structure Fa (w : World) (lo : Nat) where
  h : Hdr
  f : Fct
  n : h.1 = f.1
  o : OI w lo (hdV h) f.2
  r : InR f.2
instance (w : World) (lo : Nat) : Inhabited (Fa w lo) := ⟨⟨((0 : Int), none, 0, 0), ((0 : Int), []), rfl, World.ownsRow_nil _ _ _ _, fun x hx => by cases hx⟩⟩
abbrev encA {w : World} {lo : Nat} (x : Fa w lo) : List Value := encH x.h
abbrev cmpA {w : World} {lo : Nat} (x y : Fa w lo) : Int := cmpF x.f y.f
theorem swoA {w : World} {lo : Nat} : Go.Sort.SWO (Go.Proofs.ltOf (cmpA (w := w) (lo := lo))) := by
  refine ⟨fun x => ?_, fun x y z h1 h2 => ?_, fun x y z h1 h2 => ?_⟩
  · simp [Go.Proofs.ltOf, cmpA, cmpF_self]
  · simp only [Go.Proofs.ltOf, decide_eq_true_eq] at *
    exact cmpF_trans _ _ _ h1 h2
  · simp only [Go.Proofs.ltOf, decide_eq_false_iff_not, cmpA] at *
    intro h3
    have h4 := cmpF_neg y.f z.f
    by_cases h5 : cmpF y.f z.f = 0
    · rw [(cmpF_eq _ _).1 h5] at h1; exact h1 h3
    · exact h1 (cmpF_trans _ _ _ h3 (by omega))
theorem mkFa {w : World} {lo : Nat} : ∀ (hs : List Hdr) (fs : List Fct), hs.length = fs.length → (∀ (i : Nat) (a : Hdr) (f : Fct), hs[i]? = some a → fs[i]? = some f → a.1 = f.1 ∧ OI w lo (hdV a) f.2 ∧ InR f.2) → ∃ d : List (Fa w lo), d.map Fa.h = hs ∧ d.map Fa.f = fs
  | [], [], _, _ => ⟨[], rfl, rfl⟩
  | [], _ :: _, h, _ => by simp at h
  | _ :: _, [], h, _ => by simp at h
  | a :: hs, f :: fs, h, k => by
    obtain ⟨d, e1, e2⟩ := mkFa hs fs (by simpa using h) fun i b g hb hg => k (i + 1) b g hb hg
    obtain ⟨k1, k2, k3⟩ := k 0 a f rfl rfl
    exact ⟨⟨a, f, k1, k2, k3⟩ :: d, by rw [List.map_cons, e1], by rw [List.map_cons, e2]⟩
/-- Rows that own no block in common. -/
def Off (a b : Hdr) : Prop := ∀ k, (hdV a).ownBlock = some k → (hdV b).ownBlock = some k → False
theorem Sep.pair {w : World} {lo : Nat} {hs : List Hdr} {fs : List Fct} (h : Sep w lo hs fs) : hs.Pairwise Off := by
  rw [List.pairwise_iff_getElem]
  intro i j hi hj hij k h1 h2
  have := h.apart i j _ _ k (List.getElem?_eq_getElem hi) (List.getElem?_eq_getElem hj) h1 h2
  omega
theorem sep_of {w : World} {lo : Nat} {d : List (Fa w lo)} (h : (d.map Fa.h).Pairwise Off) : Sep w lo (d.map Fa.h) (d.map Fa.f) := by
  refine ⟨by simp, fun i a f ha hf => ?_, fun i j a b k ha hb h1 h2 => ?_⟩
  · rw [List.getElem?_map] at ha hf
    obtain ⟨x, hx, rfl⟩ := Option.map_eq_some_iff.1 ha
    rw [hx] at hf
    injection hf with hf
    subst hf
    exact ⟨x.n, x.o, x.r⟩
  · rw [List.pairwise_iff_getElem] at h
    obtain ⟨hi, rfl⟩ := List.getElem?_eq_some_iff.1 ha
    obtain ⟨hj, rfl⟩ := List.getElem?_eq_some_iff.1 hb
    rcases Nat.lt_trichotomy i j with h3 | h3 | h3
    · exact (h i j hi hj h3 k h1 h2).elim
    · exact h3
    · exact (h j i hj hi h3 k h2 h1).elim
theorem off_perm {a b : List Hdr} (h : a.Perm b) (k : a.Pairwise Off) : b.Pairwise Off :=
  (h.pairwise_iff (fun {x y} hxy k h1 h2 => hxy k h2 h1)).1 k
theorem flatA_list {w : World} {lo : Nat} (d : List (Fa w lo)) : (Go.Sort.flatK encA 2 d.toArray).toList = (d.map Fa.h).flatMap encH := by
  have hl : ((d.map Fa.h).flatMap encH).length = d.length * 2 := by rw [flat_len (enc := encH) (sz := 2) (fun _ => rfl)]; simp
  apply List.ext_getElem?
  intro j
  by_cases hj : j < d.length * 2
  · have h1 := Go.Sort.get_flatK encA 2 d.toArray j (by simpa using hj)
    have hi : j / 2 < d.length := by omega
    have h2 := flat_get (enc := encH) (sz := 2) (fun _ => rfl) (d.map Fa.h) (j / 2) (j % 2) (by simpa using hi) (by omega)
    rw [show j / 2 * 2 + j % 2 = j by omega] at h2
    rw [h2]
    have hs : j < (Go.Sort.flatK encA 2 d.toArray).size := by simpa using hj
    rw [Array.getElem?_toList, Array.getElem?_eq_getElem hs, List.getElem_map]
    rw [getElem!_pos _ j hs, getElem!_pos _ (j / 2) (by simpa using hi)] at h1
    rw [h1]
    have hm : j % 2 < (encH d[j / 2].h).length := by show _ < 2; omega
    rw [List.getElem?_eq_getElem hm]
    simp only [List.getElem_toArray]
    rw [getElem!_pos (encA d[j / 2]) (j % 2) hm]
  · rw [Array.getElem?_toList, Array.getElem?_eq_none (by simp; omega), List.getElem?_eq_none (by rw [hl]; omega)]
theorem holdsA {w w0 : World} {lo lo2 g c : Nat} (d : List (Fa w0 lo2)) (h : OH w lo (.slice (some ⟨g, 0, none⟩) d.length c) (d.map Fa.h)) : Go.Sort.HoldsK encA 2 w g 0 d.toArray := by
  intro j hj
  have hj' : j < d.length * 2 := by simpa using hj
  have e := flatA_list d
  have h : w.ownsRow lo 30 2 (.slice (some ⟨g, 0, none⟩) d.length c) d.length ((d.map Fa.h).flatMap encH) := by
    have h2 := h
    unfold OH at h2
    rwa [List.length_map] at h2
  constructor
  · have h1 := h.cellAt j hj'
    rw [Nat.zero_add, h1, ← e, Array.getElem?_toList, Array.getElem?_eq_getElem hj, getElem!_pos _ j hj]
    rfl
  · rw [Nat.zero_add]; exact own_frozen h j
theorem ex_sortK {w : World} {α : Type} [Inhabited α] (enc : α → List Value) (g n : Nat) (d : Array α) (os : Array Obj) : Ex (fun b => b = g) w (Go.Proofs.sortWorldK enc 2 w g 0 n d os) := by
  unfold Go.Proofs.sortWorldK
  have hz : (Go.Sort.putRowK enc 2 (Go.Sort.ahead w n) g 0 d).heap.size = w.heap.size := by rw [Go.Sort.size_putRowK]; rfl
  refine ⟨rfl, rfl, rfl, ?_, fun k hk hn => ?_⟩
  · rw [Go.Sort.size_grow, hz]; omega
  · show ((Go.Sort.putRowK enc 2 (Go.Sort.ahead w n) g 0 d).heap ++ os)[k]? = _
    rw [Array.getElem?_append_left (by omega)]
    unfold Go.Sort.putRowK Go.Sort.putRow Go.Sort.mapBlock
    simp only [Array.getElem?_modify]
    rw [if_neg (fun e => hn e.symm)]
    rfl
theorem own_sorted {w w0 : World} {lo lo2 g c : Nat} (d d' : List (Fa w0 lo2)) (hl : d'.length = d.length) (n : Nat) (os : Array Obj) (h : OH w lo (.slice (some ⟨g, 0, none⟩) d.length c) (d.map Fa.h)) : OH (Go.Proofs.sortWorldK encA 2 w g 0 n d'.toArray os) lo (.slice (some ⟨g, 0, none⟩) d.length c) (d'.map Fa.h) := by
  unfold Go.Proofs.sortWorldK Go.Sort.putRowK
  have h0 := holdsA d h
  have e := Go.Lib.putRow_eq_setCells id w g 0 (Go.Sort.flatK encA 2 d.toArray) (Go.Sort.flatK encA 2 d'.toArray).toList n h0 (by simp [hl])
  rw [Array.toArray_toList] at e
  rw [e, List.map_id, flatA_list]
  have h1 : (w.drewN n).ownsRow lo 30 2 (.slice (some ⟨g, 0, none⟩) (d.map Fa.h).length c) (d.map Fa.h).length ((d.map Fa.h).flatMap encH) := by
    have h2 : w.ownsRow lo 30 2 (.slice (some ⟨g, 0, none⟩) (d.map Fa.h).length c) (d.map Fa.h).length ((d.map Fa.h).flatMap encH) := by
      have h3 := h
      rw [show d.length = (d.map Fa.h).length by simp] at h3
      exact h3
    exact own_move h2 (fun _ _ => rfl)
  have hlen : ((d'.map Fa.h).flatMap encH).length = (d.map Fa.h).length * 2 := by rw [flat_len (enc := encH) (sz := 2) (fun _ => rfl)]; simp [hl]
  obtain ⟨h2, _⟩ := own_sets ((d'.map Fa.h).flatMap encH) 0 _ _ h1 (by rw [hlen]; omega)
  rw [List.take_zero, List.nil_append, List.drop_of_length_le (by rw [hlen, flat_len (enc := encH) (sz := 2) (fun _ => rfl)]; omega), List.append_nil] at h2
  have h3 : (Go.Sort.grow ((w.drewN n).setCells g 0 ((d'.map Fa.h).flatMap encH)) os).ownsRow lo 30 2 (.slice (some ⟨g, 0, none⟩) (d.map Fa.h).length c) (d.map Fa.h).length ((d'.map Fa.h).flatMap encH) := by
    refine own_move h2 fun k hk => ?_
    have := own_lt h2 k hk
    show (((w.drewN n).setCells g 0 ((d'.map Fa.h).flatMap encH)).heap ++ os)[k]? = _
    rw [Array.getElem?_append_left this]
  show World.ownsRow _ _ _ _ _ (d'.map Fa.h).length _
  rw [show (d'.map Fa.h).length = (d.map Fa.h).length by simp [hl], show d.length = (d.map Fa.h).length by simp]
  exact h3
theorem cmpLaysA {w : World} {lo g c n : Nat} {hs : List Hdr} (h : OH w lo (.slice (some ⟨g, 0, none⟩) n c) hs) (size : Nat) : Go.Proofs.CmpLays Tryz.prog 12 #[] encA 2 (cmpA (w := w) (lo := lo)) g 0 size w := by
  intro m os dk hs x y
  have hE : Ex (fun b => b = g) w (Go.Proofs.sortWorldK encA 2 w g 0 m dk os) := ex_sortK encA g m dk os
  have hne : ∀ z : Fa w lo, OI (Go.Proofs.sortWorldK encA 2 w g 0 m dk os) lo (hdV z.h) z.f.2 := fun z => own_ex z.o hE (fun i hi e => own_ne_blk z.o h (by decide) hi (by rw [e]; rfl))
  obtain ⟨A0, c0, e0, h0⟩ := OI.rd (hne x) x.r
  obtain ⟨A1, c1, e1, h1⟩ := OI.rd (hne y) y.r
  have k := HD.cmpGrow_calls (Go.Proofs.sortWorldK encA 2 w g 0 m dk os) A0 c0 A1 c1 x.f y.f h0 h1
  have ex : (Value.agg (encA x).toArray) = .agg #[.int .i64 x.f.1, .slice A0 x.f.2.length c0] := by
    show Value.agg #[.int .i64 x.h.1, hdV x.h] = _
    rw [x.n, e0]
  have ey : (Value.agg (encA y).toArray) = .agg #[.int .i64 y.f.1, .slice A1 y.f.2.length c1] := by
    show Value.agg #[.int .i64 y.h.1, hdV y.h] = _
    rw [y.n, e1]
  rw [ex, ey]
  exact k
end Go.Proofs.YtngjhblbpapjeaaGreat.H
/- The library's SortFunc at facts: the shelf's contract laid for this program. Printed by a program of this session. No condition. -/
namespace Go.Proofs.YtngjhblbpapjeaaGreat.H
open Go Go.RowKit Go.Shelf Go.Proofs.YtngjhblbpapjeaaGreatW.PrintWords Go.Proofs.YtngjhblbpapjeaaGreatW.PrintLast
open Go.Proofs.YtngjhblbpapjeaaGreat.Reg (On on_draw)
set_option maxHeartbeats 4000000
set_option maxRecDepth 100000
set_option linter.unusedVariables false
def sortRen : Go.Shelf.Ren := ⟨fun | 6 => 82 | 14 => 114 | 15 => 115 | 20 => 128 | 21 => 129 | 22 => 130 | 23 => 131 | 24 => 132 | 25 => 133 | 26 => 134 | 27 => 135 | 28 => 136 | 29 => 137 | 46 => 139 | 47 => 140 | 48 => 141 | 49 => 142 | 50 => 143 | 57 => 153 | n => n, fun | 0 => 0 | 3 => 3 | 4 => 4 | 5 => 5 | 9 => 9 | 22 => 25 | 24 => 30 | 25 => 38 | 39 => 123 | 45 => 134 | 46 => 135 | 50 => 124 | 53 => 141 | 55 => 143 | 66 => 145 | 70 => 149 | 76 => 157 | 77 => 158 | n => n, fun | n => n⟩
theorem laysSortF : Go.Proofs.SlLaysF0.n6 Tryz.prog sortRen := {
  mixed := by kernel_rfl
  f6 := ⟨Tryz.f82.name, by decide, Tryz.func82.trans (congrArg some (by kernel_rfl))⟩
  f14 := ⟨Tryz.f114.name, by decide, Tryz.func114.trans (congrArg some (by kernel_rfl))⟩
  f15 := Tryz.func115.trans (congrArg some (by kernel_rfl))
  f20 := ⟨Tryz.f128.name, by decide, Tryz.func128.trans (congrArg some (by kernel_rfl))⟩
  f21 := ⟨Tryz.f129.name, by decide, Tryz.func129.trans (congrArg some (by kernel_rfl))⟩
  f22 := ⟨Tryz.f130.name, by decide, Tryz.func130.trans (congrArg some (by kernel_rfl))⟩
  f23 := ⟨Tryz.f131.name, by decide, Tryz.func131.trans (congrArg some (by kernel_rfl))⟩
  f24 := ⟨Tryz.f132.name, by decide, Tryz.func132.trans (congrArg some (by kernel_rfl))⟩
  f25 := ⟨Tryz.f133.name, by decide, Tryz.func133.trans (congrArg some (by kernel_rfl))⟩
  f26 := ⟨Tryz.f134.name, by decide, Tryz.func134.trans (congrArg some (by kernel_rfl))⟩
  f27 := ⟨Tryz.f135.name, by decide, Tryz.func135.trans (congrArg some (by kernel_rfl))⟩
  f28 := Tryz.func136.trans (congrArg some (by kernel_rfl))
  f29 := Tryz.func137.trans (congrArg some (by kernel_rfl))
  f46 := ⟨Tryz.f139.name, by decide, Tryz.func139.trans (congrArg some (by kernel_rfl))⟩
  f47 := Tryz.func140.trans (congrArg some (by kernel_rfl))
  f48 := Tryz.func141.trans (congrArg some (by kernel_rfl))
  f49 := ⟨Tryz.f142.name, by decide, Tryz.func142.trans (congrArg some (by kernel_rfl))⟩
  f50 := ⟨Tryz.f143.name, by decide, Tryz.func143.trans (congrArg some (by kernel_rfl))⟩
  f57 := ⟨Tryz.f153.name, by decide, Tryz.func153.trans (congrArg some (by kernel_rfl))⟩
  t0 := Tryz.underlying0
  a0 := Tryz.isAgg0
  z0 := Tryz.sizeOf0
  v0 := Tryz.zeroValue0
  t3 := Tryz.underlying3
  a3 := Tryz.isAgg3
  z3 := Tryz.sizeOf3
  v3 := Tryz.zeroValue3
  t4 := Tryz.underlying4
  a4 := Tryz.isAgg4
  z4 := Tryz.sizeOf4
  v4 := Tryz.zeroValue4
  t5 := Tryz.underlying5
  a5 := Tryz.isAgg5
  z5 := Tryz.sizeOf5
  v5 := Tryz.zeroValue5
  t9 := Tryz.underlying9
  a9 := Tryz.isAgg9
  z9 := Tryz.sizeOf9
  v9 := Tryz.zeroValue9
  t22 := Tryz.underlying25
  a22 := Tryz.isAgg25
  z22 := Tryz.sizeOf25
  v22 := Tryz.zeroValue25
  t25 := Tryz.underlying38
  a25 := Tryz.isAgg38
  z25 := Tryz.sizeOf38
  v25 := Tryz.zeroValue38
  t39 := Tryz.underlying123
  a39 := Tryz.isAgg123
  z39 := Tryz.sizeOf123
  v39 := Tryz.zeroValue123
  t45 := Tryz.underlying134
  a45 := Tryz.isAgg134
  z45 := Tryz.sizeOf134
  v45 := Tryz.zeroValue134
  t46 := Tryz.underlying135
  a46 := Tryz.isAgg135
  z46 := Tryz.sizeOf135
  v46 := Tryz.zeroValue135
  t50 := Tryz.underlying124
  a50 := Tryz.isAgg124
  z50 := Tryz.sizeOf124
  v50 := Tryz.zeroValue124
  t53 := Tryz.underlying141
  a53 := Tryz.isAgg141
  z53 := Tryz.sizeOf141
  v53 := Tryz.zeroValue141
  t55 := Tryz.underlying143
  a55 := Tryz.isAgg143
  z55 := Tryz.sizeOf143
  v55 := Tryz.zeroValue143
  t66 := Tryz.underlying145
  a66 := Tryz.isAgg145
  z66 := Tryz.sizeOf145
  v66 := Tryz.zeroValue145
  t70 := Tryz.underlying149
  a70 := Tryz.isAgg149
  z70 := Tryz.sizeOf149
  v70 := Tryz.zeroValue149
  t76 := Tryz.underlying157
  a76 := Tryz.isAgg157
  z76 := Tryz.sizeOf157
  v76 := Tryz.zeroValue157
  t77 := Tryz.underlying158
  a77 := Tryz.isAgg158
  z77 := Tryz.sizeOf158
  v77 := Tryz.zeroValue158 }
theorem SortF_calls (w : World) (lo : Nat) (v : Value) (hs : List Hdr) (fs : List Fct) (hO : OH w lo v hs) (hS : Sep w lo hs fs) (hl : hs.length ≤ 1000000) :
    Calls Tryz.prog 82 #[v, .func (.func 12) #[] #[]] w (Got fun u w' => u = .tuple #[] ∧ ∃ hs' fs', OH w' lo v hs' ∧ Sep w' lo hs' fs' ∧ fs'.Perm fs ∧ fs'.Pairwise (fun f g => ¬ cmpF g f < 0) ∧ Ex (fun b => some b = v.ownBlock) w w' ∧ ∀ b, FB v hs' b → FB v hs b) := by
  rcases hO.2 with ⟨rfl, hn⟩ | ⟨g, cap, cur, rfl, hg, _⟩
  · obtain rfl : hs = [] := List.eq_nil_of_length_eq_zero hn
    obtain rfl : fs = [] := List.eq_nil_of_length_eq_zero hS.len.symm
    refine (Go.Proofs.AnyF.slices_SortFunc_none (ρ := sortRen) laysSortF none 0 (.func (.func 12) #[] #[]) w).mono fun e w' h => ?_
    obtain ⟨rfl, rfl⟩ := h
    exact ⟨_, rfl, rfl, [], [], hO, hS, List.Perm.refl _, List.Pairwise.nil, Ex.refl _ _, fun _ h => h⟩
  · obtain ⟨d, e1, e2⟩ := mkFa hs fs hS.len hS.at_
    have hdl : hs.length = d.length := by rw [← e1]; simp
    have hlt : g < w.heap.size := own_lt hO g rfl
    have hO1 : OH w lo (.slice (some ⟨g, 0, none⟩) d.length cap) (d.map Fa.h) := by rw [e1, ← hdl]; exact hO
    have hc := Go.Proofs.AnyQ.slices_SortFunc (ρ := sortRen) laysSortF 2 Tryz.isAgg30 Tryz.sizeOf30 encA (fun _ => rfl) (fun x u hu => by
      simp only [List.mem_cons, List.not_mem_nil, or_false] at hu
      rcases hu with rfl | rfl <;> rfl) cmpA swoA 12 #[] g 0 cap d.toArray w (enters_of Tryz.func12 (by kernel_rfl) rfl) (cmpLaysA hO _) (holdsA d hO1) hlt (by simp; omega)
    have hz : d.toArray.size = hs.length := by simp [hdl]
    rw [hz] at hc
    refine hc.mono fun e w' h => ?_
    obtain ⟨rfl, d', n, os, hp, hs', rfl⟩ := h
    obtain ⟨hps, _, hpp⟩ := hp
    have hl' : d'.toList.length = d.length := by rw [Array.length_toList, hps]; simp
    have hperm : d'.toList.Perm d := by
      have h1 := hpp
      rw [Array.extract_eq_self_of_le (by omega), Array.extract_eq_self_of_le (by simp; omega)] at h1
      simpa using h1
    have hE := ex_sortK (w := w) (encA (w := w) (lo := lo)) g n d' os
    have hsep : Sep w lo (d'.toList.map Fa.h) (d'.toList.map Fa.f) := sep_of (off_perm (e1 ▸ (hperm.map Fa.h).symm) hS.pair)
    have hO2 := own_sorted d d'.toList hl' n os hO1
    refine ⟨_, rfl, rfl, d'.toList.map Fa.h, d'.toList.map Fa.f, ?_, hsep.ex hE (fun i a b ha hb e => ?_), e2 ▸ hperm.map Fa.f, ?_, Ex.mono hE (fun b e => by rw [e]; rfl), fun b h => ?_⟩
    · rw [hdl]; simpa using hO2
    · exact hsep.ne_row hO ha hb (by rw [show b = g from e]; rfl)
    · rw [List.pairwise_map, List.pairwise_iff_getElem]
      intro i j hi hj hij
      have h1 := hs' i j (Nat.zero_le _) hij (by rw [← hz, ← hps]; simpa using hj)
      rw [getElem!_pos d' j (by simpa using hj), getElem!_pos d' i (by simpa using hi)] at h1
      simp only [Go.Proofs.ltOf, decide_eq_false_iff_not] at h1
      simpa using h1
    · rcases h with h | ⟨i, a, ha, h⟩
      · exact .inl h
      · have hm : a ∈ hs := by
          rw [← e1]
          exact ((hperm.map Fa.h).mem_iff).1 (List.mem_of_getElem? ha)
        obtain ⟨i', hi', e⟩ := List.getElem_of_mem hm
        exact .inr ⟨i', a, by rw [List.getElem?_eq_getElem hi', e], h⟩
end Go.Proofs.YtngjhblbpapjeaaGreat.H
/- Walks: the program puts a fact into an instance: facts sorted, each once. No condition. -/
namespace Go.Proofs.YtngjhblbpapjeaaGreat.H
open Go Go.RowKit Go.Proofs.YtngjhblbpapjeaaGreatW.PrintWords Go.Proofs.YtngjhblbpapjeaaGreatW.PrintLast
open Go.Proofs.YtngjhblbpapjeaaGreat.Reg (On on_draw)
set_option maxHeartbeats 4000000
set_option maxRecDepth 100000
set_option linter.unusedVariables false
set_option linter.unusedSimpArgs false

theorem row_ne_box {w : World} {lo e sz n b : Nat} {v : Value} {xs : List Value} {cs : Array Value} {t : TypeId} (h : w.ownsRow lo e sz v n xs) (hb : w.heap[b]? = some (.cells cs t (0, 0))) (hne : t ≠ e) : some b ≠ v.ownBlock := fun e1 => by
  obtain ⟨c, hc⟩ := own_typed h b e1.symm
  rw [hb] at hc
  injection hc with hc
  injection hc with _ h3
  exact hne h3
theorem factsSet_calls (w : World) (A n c) (fs : List Fct) (h : Fcts w A c fs) (hn : n = fs.length) (hl : fs.length ≤ 1000000) (hl2 : ∀ f ∈ fs, f.2.length ≤ 2000000) : Calls Tryz.prog 37 #[.slice A n c] w (Got fun v w' => ∃ hs, OH w' w.heap.size v hs ∧ Sep w' w.heap.size hs (setF fs) ∧ On w w') := by
  subst hn
  go_enter Tryz.func37, Tryz.ntmps37
  go_wp2_with (refine gate 5 ?_)
  refine ⟨goesF 5 Tryz.func81 ((factsCopy_calls w A c fs h (by omega) hl2).mono ?_)⟩
  rintro e w1 ⟨v1, rfl, hs, hO, hS, hb1⟩
  refine ⟨_, rfl, ?_⟩
  have hlen := hS.len
  go_wp2_with (refine gate 7 ?_)
  refine ⟨goesF 7 Tryz.func82 ((SortF_calls w1 w.heap.size v1 hs fs hO hS (by omega)).mono ?_)⟩
  rintro e w2 ⟨u2, rfl, rfl, hs2, fs2, hO2, hS2, hp2, hq2, hE2, hF2⟩
  refine ⟨_, rfl, ?_⟩
  go_wp2_with (refine gate 9 ?_)
  refine ⟨goesF 9 Tryz.func83 ((CompactF_calls w2 w.heap.size v1 hs2 fs2 hO2 hS2).mono ?_)⟩
  rintro e w3 ⟨v3, rfl, hs3, hO3, hS3, hE3, hF3⟩
  refine ⟨_, rfl, ?_⟩
  go_wp2
  go_ret
  have hB : On w w3 := Ex.on (Ex.on hb1 hE2 (fun i e => own_base hO i e.symm)) hE3 (fun i e => own_base hO i e.symm)
  refine ⟨_, rfl, hs3, hO3, ?_, hB⟩
  rw [← runs_setF hp2 (hq2.imp fun {a b} h => by omega)]
  exact hS3
/-- An instance with one fact more, if that is valid. -/
def insB (rs : List Rel) (fs : List Fct) (g : Fct) : Bool := okInst rs fs && (!hasF fs g && okInst rs (putF fs g))
def insI (rs : List Rel) (fs : List Fct) (g : Fct) : List Fct := if insB rs fs g then putF fs g else fs
theorem iInsertFact_calls (w : World) (A0 c0 A1 c1) (rs : List Rel) (fs : List Fct) (h0 : Rels w A0 c0 rs) (h1 : Fcts w A1 c1 fs) (A2 c2) (g : Fct) (h2 : Ints w A2 c2 g.2) (hl0 : rs.length ≤ 2000000) (hl : fs.length ≤ 2000000) (hl2 : ∀ f ∈ fs, f.2.length ≤ 2000000) (hg2 : g.2.length ≤ 2000000) :
    Calls Tryz.prog 8 #[.agg #[.slice A0 rs.length c0, .slice A1 fs.length c1], .agg #[.int .i64 g.1, .slice A2 g.2.length c2]] w (Got fun v w' => ∃ v1, v = .tuple #[v1, .bool (insB rs fs g)] ∧ OIn w' w.heap.size v1 rs (insI rs fs g) ∧ On w w') := by
  have hb := Aside0.mk (On.alloc (On.alloc (On.alloc (On.refl w) (.cells #[.slice A0 rs.length c0, .slice A1 fs.length c1] 27)) (.cells #[.int .i64 g.1, .slice A2 g.2.length c2] 30)) (.cells #[.slice none 0 0, .slice none 0 0] 27))
  have hL := Aside0.mk (loc3 w #[.slice A0 rs.length c0, .slice A1 fs.length c1] #[.int .i64 g.1, .slice A2 g.2.length c2] #[.slice none 0 0, .slice none 0 0] 27 30 27)
  have hsz3 := Aside0.mk (show (((w.alloc (.cells #[.slice A0 rs.length c0, .slice A1 fs.length c1] 27)).alloc (.cells #[.int .i64 g.1, .slice A2 g.2.length c2] 30)).alloc (.cells #[.slice none 0 0, .slice none 0 0] 27)).heap.size = w.heap.size + 3 by simp)
  cases ho : okInst rs fs with
  | false =>
    have hno := Aside0.mk (show insB rs fs g = false by unfold insB; rw [ho]; rfl)
    have ho' := Aside0.mk ho
    clear ho
    go_enter Tryz.func8, Tryz.ntmps8
    go_wp2_with (first
      | (go_at_call 17; refine (iIsValidInstance_calls _ A0 c0 A1 c1 rs fs (h0.on hb.out) (h1.on hb.out)).mono ?_; rintro e w1 ⟨rfl, hb1⟩; rw [ho'.out]; have hBx := Aside0.mk (hb.out.trans hb1); have hRx := Aside0.mk (Loc.on hb1 hL.out).2.2.1; have hd0 := blk_cell (Loc.on hb1 hL.out).1)
      | (refine gate 17 ?_))
    refine ⟨goesF 17 Tryz.func36 ((instanceCopy_calls _ A0 c0 A1 c1 rs fs (h0.on hBx.out) (h1.on hBx.out) hl0 hl hl2).mono ?_)⟩
    rintro e w5 ⟨v5, rfl, hI5, hb5⟩
    refine ⟨_, rfl, ?_⟩
    obtain ⟨a1, a2, a3, a4, a5, a6, rfl⟩ := hI5.read.shape
    have hI5' := Aside0.mk hI5
    have hR5 := Aside0.mk (blk_below hRx.out hb5)
    have hcr : ∀ i, w5.cell? ⟨w.heap.size + 1 + 1, i, none⟩ = _ := blk_cell hR5.out
    have hfr : ∀ i, w5.frozen? ⟨w.heap.size + 1 + 1, i, none⟩ = _ := blk_frozen hR5.out
    clear hI5
    go_wp2
    refine bodyPost_ret (retIB rfl rfl (g := w.heap.size + 2) (blk_set (blk_set hR5.out 0 _) 1 _) rfl) rfl ?_
    have hlt := blk_lt hRx.out
    refine ⟨_, rfl, _, by rw [hno.out]; rfl, ?_, Reg.On.set (Reg.On.set (hBx.out.trans hb5) (by simp; omega) _) (by simp; omega) _⟩
    have e6 : insI rs fs g = fs := by unfold insI; rw [hno.out]; rfl
    rw [e6]
    exact OIn.lower (OIn.set (OIn.set hI5'.out (by simp; omega) _) (by simp; omega) _) hBx.out.size
  | true =>
    have ho' := Aside0.mk ho
    cases hh : hasF fs g with
    | true =>
      have hno := Aside0.mk (show insB rs fs g = false by unfold insB; rw [ho, hh]; rfl)
      have hh' := Aside0.mk (show (fs.any fun f => cmpF f g == 0) = true from hh)
      clear ho hh
      go_enter Tryz.func8, Tryz.ntmps8
      go_wp2_with (first
        | (go_at_call 35; refine (hasFact_calls _ A1 c1 fs (h1.on (hb.out.trans hb1)) A2 c2 g (h2.on (hb.out.trans hb1))).mono ?_; rintro e w2 ⟨rfl, hb2⟩; rw [hh'.out]; have hBx := Aside0.mk ((hb.out.trans hb1).trans hb2); have hRx := Aside0.mk (Loc.on (hb1.trans hb2) hL.out).2.2.1; have hd0 := blk_cell (Loc.on (hb1.trans hb2) hL.out).1)
        | (go_at_call 17; refine (iIsValidInstance_calls _ A0 c0 A1 c1 rs fs (h0.on hb.out) (h1.on hb.out)).mono ?_; rintro e w1 ⟨rfl, hb1⟩; rw [ho'.out]; have hdd0 := blk_cell (Loc.on hb1 hL.out).1; have hdd1 := blk_cell (Loc.on hb1 hL.out).2.1)
        | (refine gate 17 ?_))
      refine ⟨goesF 17 Tryz.func36 ((instanceCopy_calls _ A0 c0 A1 c1 rs fs (h0.on hBx.out) (h1.on hBx.out) hl0 hl hl2).mono ?_)⟩
      rintro e w5 ⟨v5, rfl, hI5, hb5⟩
      refine ⟨_, rfl, ?_⟩
      obtain ⟨a1, a2, a3, a4, a5, a6, rfl⟩ := hI5.read.shape
      have hI5' := Aside0.mk hI5
      have hR5 := Aside0.mk (blk_below hRx.out hb5)
      have hcr : ∀ i, w5.cell? ⟨w.heap.size + 1 + 1, i, none⟩ = _ := blk_cell hR5.out
      have hfr : ∀ i, w5.frozen? ⟨w.heap.size + 1 + 1, i, none⟩ = _ := blk_frozen hR5.out
      clear hI5
      go_wp2
      refine bodyPost_ret (retIB rfl rfl (g := w.heap.size + 2) (blk_set (blk_set hR5.out 0 _) 1 _) rfl) rfl ?_
      have hlt := blk_lt hRx.out
      refine ⟨_, rfl, _, by rw [hno.out]; rfl, ?_, Reg.On.set (Reg.On.set (hBx.out.trans hb5) (by simp; omega) _) (by simp; omega) _⟩
      have e6 : insI rs fs g = fs := by unfold insI; rw [hno.out]; rfl
      rw [e6]
      exact OIn.lower (OIn.set (OIn.set hI5'.out (by simp; omega) _) (by simp; omega) _) hBx.out.size
    | false =>
      have hh' := Aside0.mk (show (fs.any fun f => cmpF f g == 0) = false from hh)
      have hasc := Aside0.mk (okInst_asc ho)
      have hle := Aside0.mk (okInst_len ho)
      have hle3 := Aside0.mk (fun f hf => okFact_len (okInst_mem ho f hf))
      have hhh := Aside0.mk hh
      have hoo := Aside0.mk ho
      clear ho hh
      go_enter Tryz.func8, Tryz.ntmps8
      go_wp2_with (first
        | (go_at_call 35; refine (hasFact_calls _ A1 c1 fs (h1.on (hb.out.trans hb1)) A2 c2 g (h2.on (hb.out.trans hb1))).mono ?_; rintro e w2 ⟨rfl, hb2⟩; rw [hh'.out]; have hB2 := Aside0.mk ((hb.out.trans hb1).trans hb2); have hL2 := Aside0.mk (Loc.on (hb1.trans hb2) hL.out); have hd0 := blk_cell hL2.out.1)
        | (go_at_call 17; refine (iIsValidInstance_calls _ A0 c0 A1 c1 rs fs (h0.on hb.out) (h1.on hb.out)).mono ?_; rintro e w1 ⟨rfl, hb1⟩; rw [ho'.out]; have hdd0 := blk_cell (Loc.on hb1 hL.out).1; have hdd1 := blk_cell (Loc.on hb1 hL.out).2.1)
        | (refine gate 19 ?_))
      clear hdd0 hdd1 hb1 hb2
      refine ⟨goesF 19 Tryz.func36 ((instanceCopy_calls w2 A0 c0 A1 c1 rs fs (h0.on hB2.out) (h1.on hB2.out) hl0 hl hl2).mono ?_)⟩
      rintro e w3 ⟨v3, rfl, ⟨vr, vf, hs, rfl, hR, hH, hS⟩, hb3⟩
      refine ⟨_, rfl, ?_⟩
      obtain ⟨Ar, cr, rfl⟩ := own_slice hR
      obtain ⟨Af, cf, rfl⟩ := own_slice hH
      have hlen := Aside0.mk hS.len
      have hR1 := Aside0.mk hR
      have hH1 := Aside0.mk hH
      have hS1 := Aside0.mk hS
      have hw2 := Aside0.mk (show w.heap.size + 3 ≤ w2.heap.size from blk_lt hL2.out.2.2.1)
      have hB3 := Aside0.mk (hb3.trans (On.alloc (On.refl w3) (.cells #[.slice Ar rs.length cr, .slice Af hs.length cf] 27)))
      have hL3 := Aside0.mk (Loc.on hB3.out hL2.out)
      have hY3 := Aside0.mk (loc_new w3 #[.slice Ar rs.length cr, .slice Af hs.length cf] 27)
      have hd1 := blk_cell hL3.out.2.1
      have hy := blk_cell hY3.out
      have hfill := alloc_fill w3
      have hb3' := Aside0.mk hb3
      clear hR hH hS hd0 hb3
      go_wp2_with (refine gate 24 ?_)
      clear hfill
      obtain ⟨w4, hw4⟩ : ∃ w4, w3.alloc (.cells #[.slice Ar rs.length cr, .slice Af hs.length cf] 27) = w4 := ⟨_, rfl⟩
      have hS34 : On w3 w4 := by rw [← hw4]; exact On.alloc (On.refl _) _
      have hsz4 : w4.heap.size = w3.heap.size + 1 := by rw [← hw4]; simp
      rw [hw4] at hB3 hL3 hY3 hd1 hy ⊢
      clear hw4 hd1 hy
      obtain ⟨zs, hzs⟩ : ∃ zs, hs ++ [((g.1, A2, g.2.length, c2) : Hdr)] = zs := ⟨_, rfl⟩
      have hBl := Aside0.mk (On.alloc (On.refl w4) (.cells #[.int .i64 g.1, .slice A2 g.2.length c2] 30))
      have hH4 := Aside0.mk (pw_own_below hH1.out (hS34.trans hBl.out))
      have hRH4 := lit_RH (On.refl (w4.alloc (.cells #[.int .i64 g.1, .slice A2 g.2.length c2] 30 (0, 0))))
      rw [hsz4] at hRH4
      refine ⟨apH 24 hzs hH4.out hRH4 (hB3.out.trans hBl.out).size (by have := hle.out; have := hlen.out; simp; omega) fun v6 w6 hO6 hg6 => ?_⟩
      obtain ⟨A6, c6, rfl⟩ := own_slice hO6
      have hB6 := Aside0.mk (own_grows (hB3.out.trans hBl.out) hH4.out hg6 (Nat.le_refl _))
      have hS6 : Sep w6 w2.heap.size hs fs := Sep.ex (hS1.out.on (hS34.trans hBl.out)) (Ex.of_grown hg6) (fun i a b ha hbk e => (hS1.out.ne_row hH1.out ha hbk) e.symm)
      have hRd := hS6.reads.snoc (a := (g.1, A2, g.2.length, c2)) (f := g) rfl rfl (h2.on (hB2.out.trans hB6.out))
      rw [hzs] at hRd
      have hF6 := (OH.rh hO6).2.fcts hRd
      have hR6 := Aside0.mk (own_ex (pw_own_below hR1.out (hS34.trans hBl.out)) (Ex.of_grown hg6) (fun i hi e => own_ne_blk hR1.out hH1.out (by decide) hi e.symm))
      have hY6 := Aside0.mk (blk_grown hg6 (blk_below hY3.out hBl.out) (row_ne_box hH4.out (blk_below hY3.out hBl.out) (by decide)))
      refine goesF 25 Tryz.func37 ((factsSet_calls w6 A6 zs.length c6 (fs ++ [g]) hF6 hRd.len (by have := hle.out; simp; omega) (fun f hf => ?_)).mono ?_)
      · rcases List.mem_append.1 hf with hf | hf
        · have := hle3.out f hf; omega
        · rw [List.mem_singleton.1 hf]; exact hg2
      rintro e w7 ⟨v7, rfl, hs7, hO7, hS7, hb7⟩
      rw [setF_put fs g hasc.out] at hS7
      obtain ⟨A7, c7, rfl⟩ := own_slice hO7
      refine ⟨_, rfl, ?_⟩
      have hl7 := hS7.len
      have hO7' := Aside0.mk hO7
      have hS7' := Aside0.mk hS7
      have hl7' := Aside0.mk hl7
      rw [hl7]
      have hY7 := Aside0.mk (blk_below hY6.out hb7)
      have hR7 := Aside0.mk (pw_own_below hR6.out hb7)
      have hB7 := Aside0.mk (hB6.out.trans hb7)
      have hL7 := Aside0.mk (Loc.on hB7.out hL2.out)
      have hw36 := Aside0.mk (show w3.heap.size < w6.heap.size from blk_lt hY6.out)
      have hcy := blk_cell hY7.out
      have hfy := blk_frozen hY7.out
      clear hO6 hg6 hS6 hRd hF6 hO7 hS7 hl7 hb7 hzs
      go_wp2_with (refine gate 28 ?_)
      clear hcy hfy
      have hE8 := Aside0.mk (Ex.set w7 ⟨w3.heap.size, 1, none⟩ (.slice A7 (putF fs g).length c7))
      have hY8 := Aside0.mk (blk_set hY7.out 1 (.slice A7 (putF fs g).length c7))
      have hw23 := Aside0.mk (show w2.heap.size ≤ w3.heap.size from hb3'.out.size)
      have hB8 := Aside0.mk (show On w2 (w7.setCell ⟨w3.heap.size, 1, none⟩ (.slice A7 (putF fs g).length c7)) from Reg.On.set hB7.out hw23.out _)
      obtain ⟨w8, hw8⟩ : ∃ w8, w7.setCell ⟨w3.heap.size, 1, none⟩ (.slice A7 (putF fs g).length c7) = w8 := ⟨_, rfl⟩
      rw [hw8] at hE8 hY8 hB8 ⊢
      clear hw8
      have hO8 := own_ex hO7'.out hE8.out (fun i hi e => by have := own_base hO7'.out i hi; have := hw36.out; have h5 : i = w3.heap.size := e; omega)
      have hS8 := hS7'.out.ex hE8.out (fun i a b ha hbk e => by have := (hS7'.out.lt ha hbk).1; have := hw36.out; have h5 : b = w3.heap.size := e; omega)
      have hR8 := own_ex hR7.out hE8.out (fun i hi e => by have := own_lt hR1.out i hi; have h5 : i = w3.heap.size := e; omega)
      have hF8 := (OH.rh hO8).2.fcts hS8.reads
      obtain ⟨Ar', cr', er, hRl8⟩ := OR.rd hR8
      injection er with er1 er2 er3
      subst er1 er3
      have hw26 : w2.heap.size ≤ w6.heap.size := hB6.out.size
      have hI8 := Aside0.mk (show OIn w8 w2.heap.size (.agg #[.slice Ar rs.length cr, .slice A7 (putF fs g).length c7]) rs (putF fs g) from ⟨_, _, hs7, rfl, hR8, hl7'.out ▸ own_lower hO8 hw26, hS8.lower hw26⟩)
      refine ⟨goesF 28 Tryz.func17 ((iIsValidInstance_calls w8 Ar cr A7 c7 rs (putF fs g) hRl8 hF8).mono ?_)⟩
      rintro e w9 ⟨rfl, hb9⟩
      refine ⟨_, rfl, ?_⟩
      have hI9 := Aside0.mk (hI8.out.on hb9)
      have hY9 := Aside0.mk (blk_below hY8.out hb9)
      have hB9 := Aside0.mk (hB8.out.trans hb9)
      have hL9 := Aside0.mk (Loc.on hB9.out hL2.out)
      have hBx := Aside0.mk (hB2.out.trans hB9.out)
      have hRx := Aside0.mk hL9.out.2.2.1
      have hd0 := blk_cell hL9.out.1
      have hy9 := blk_cell hY9.out
      clear hO8 hS8 hR8 hF8 hRl8 hb9 er2
      cases hv : okInst rs (putF fs g) with
      | false =>
        have hno := Aside0.mk (show insB rs fs g = false by unfold insB; rw [hoo.out, hhh.out, hv]; rfl)
        clear hv
        go_wp2_with (refine gate 31 ?_)
        clear hy9
        refine ⟨goesF 31 Tryz.func36 ((instanceCopy_calls _ A0 c0 A1 c1 rs fs (h0.on hBx.out) (h1.on hBx.out) hl0 hl hl2).mono ?_)⟩
        rintro e w5 ⟨v5, rfl, hI5, hb5⟩
        refine ⟨_, rfl, ?_⟩
        obtain ⟨a1, a2, a3, a4, a5, a6, rfl⟩ := hI5.read.shape
        have hI5' := Aside0.mk hI5
        have hR5 := Aside0.mk (blk_below hRx.out hb5)
        have hcr : ∀ i, w5.cell? ⟨w.heap.size + 1 + 1, i, none⟩ = _ := blk_cell hR5.out
        have hfr : ∀ i, w5.frozen? ⟨w.heap.size + 1 + 1, i, none⟩ = _ := blk_frozen hR5.out
        clear hI5
        go_wp2
        refine bodyPost_ret (retIB rfl rfl (g := w.heap.size + 2) (blk_set (blk_set hR5.out 0 _) 1 _) rfl) rfl ?_
        have hlt := blk_lt hRx.out
        refine ⟨_, rfl, _, by rw [hno.out]; rfl, ?_, Reg.On.set (Reg.On.set (hBx.out.trans hb5) (by simp; omega) _) (by simp; omega) _⟩
        have e6 : insI rs fs g = fs := by unfold insI; rw [hno.out]; rfl
        rw [e6]
        exact OIn.lower (OIn.set (OIn.set hI5'.out (by simp; omega) _) (by simp; omega) _) hBx.out.size
      | true =>
        have hyes := Aside0.mk (show insB rs fs g = true by unfold insB; rw [hoo.out, hhh.out, hv]; rfl)
        have hcr : ∀ i, w9.cell? ⟨w.heap.size + 1 + 1, i, none⟩ = _ := blk_cell hRx.out
        have hfr : ∀ i, w9.frozen? ⟨w.heap.size + 1 + 1, i, none⟩ = _ := blk_frozen hRx.out
        clear hv hd0
        go_wp2
        refine bodyPost_ret (retIB rfl rfl (g := w.heap.size + 2) (blk_set (blk_set hRx.out 0 _) 1 _) rfl) rfl ?_
        refine ⟨_, rfl, _, by rw [hyes.out]; rfl, ?_, Reg.On.set (Reg.On.set hBx.out (by simp; omega) _) (by simp; omega) _⟩
        have e6 : insI rs fs g = putF fs g := by unfold insI; rw [hyes.out]; rfl
        rw [e6]
        have hw2' := hw2.out
        exact OIn.lower (OIn.set (OIn.set hI9.out (by simp; omega) _) (by simp; omega) _) hB2.out.size
end Go.Proofs.YtngjhblbpapjeaaGreat.H
/- Walks: the reference puts a fact into an instance, if that is valid. No condition. -/
namespace Go.Proofs.YtngjhblbpapjeaaGreat.H
open Go Go.RowKit Go.Proofs.YtngjhblbpapjeaaGreatW.PrintWords Go.Proofs.YtngjhblbpapjeaaGreatW.PrintLast
open Go.Proofs.YtngjhblbpapjeaaGreat.Reg (On on_draw)
set_option maxHeartbeats 4000000
set_option maxRecDepth 100000
set_option linter.unusedVariables false
set_option linter.unusedSimpArgs false

theorem putF_len (l : List Fct) (x : Fct) : (putF l x).length ≤ l.length + 1 := by
  induction l with
  | nil => simp [putF]
  | cons y r ih => unfold putF; split <;> (try split) <;> simp <;> omega
theorem sInsertFact_calls (w : World) (A0 c0 A1 c1) (rs : List Rel) (fs : List Fct) (h0 : Rels w A0 c0 rs) (h1 : Fcts w A1 c1 fs) (A2 c2) (g : Fct) (h2 : Ints w A2 c2 g.2) (hl0 : rs.length ≤ 2000000) (hl : fs.length ≤ 2000000) (hl2 : ∀ f ∈ fs, f.2.length ≤ 2000000) (hg2 : g.2.length ≤ 2000000) :
    Calls Tryz.prog 9 #[.agg #[.slice A0 rs.length c0, .slice A1 fs.length c1], .agg #[.int .i64 g.1, .slice A2 g.2.length c2]] w (Got fun v w' => ∃ v1, v = .tuple #[v1, .bool (insB rs fs g)] ∧ OIn w' w.heap.size v1 rs (insI rs fs g) ∧ On w w') := by
  have hb := Aside0.mk (On.alloc (On.alloc (On.alloc (On.refl w) (.cells #[.slice A0 rs.length c0, .slice A1 fs.length c1] 27)) (.cells #[.int .i64 g.1, .slice A2 g.2.length c2] 30)) (.cells #[.slice none 0 0, .slice none 0 0] 27))
  have hL := Aside0.mk (loc3 w #[.slice A0 rs.length c0, .slice A1 fs.length c1] #[.int .i64 g.1, .slice A2 g.2.length c2] #[.slice none 0 0, .slice none 0 0] 27 30 27)
  have hsz3 := Aside0.mk (show (((w.alloc (.cells #[.slice A0 rs.length c0, .slice A1 fs.length c1] 27)).alloc (.cells #[.int .i64 g.1, .slice A2 g.2.length c2] 30)).alloc (.cells #[.slice none 0 0, .slice none 0 0] 27)).heap.size = w.heap.size + 3 by simp)
  cases ho : okInst rs fs with
  | false =>
    have hno := Aside0.mk (show insB rs fs g = false by unfold insB; rw [ho]; rfl)
    have ho' := Aside0.mk ho
    clear ho
    go_enter Tryz.func9, Tryz.ntmps9
    go_wp2_with (first
      |
      (go_at_call 38; refine (l5Copy_calls _ A0 c0 A1 c1 rs fs (h0.on hb.out) (h1.on hb.out) hl0 hl hl2).mono ?_; rintro e w1 ⟨v1, rfl, hI0, hb1⟩; obtain ⟨a1, a2, a3, a4, a5, a6, rfl⟩ := hI0.read.shape; have hfill := alloc_fill w1; have hI := Aside0.mk hI0; clear hI0; have hB1 := Aside0.mk (hb1.trans (On.alloc (On.refl _) (.cells #[.slice a1 a2 a3, .slice a4 a5 a6] 27))); have hL1 := Aside0.mk (Loc.on hB1.out hL.out); have hc0 := blk_cell hL1.out.1; have hc1 := blk_cell hL1.out.2.1; have hY1 := Aside0.mk (loc_new w1 #[.slice a1 a2 a3, .slice a4 a5 a6] 27))
      | (go_at_call 39; refine (IsValidInstance_calls _ A0 c0 A1 c1 rs fs (h0.on (hb.out.trans hB1.out)) (h1.on (hb.out.trans hB1.out))).mono ?_; rintro e wx ⟨rfl, hb2⟩; rw [ho'.out]; refine Stop.out ?_))
    clear hc0 hc1 hfill
    refine ⟨?_⟩
    have hRx := Aside0.mk (Loc.on hb2 hL1.out).2.2.1
    have hYx := Aside0.mk (blk_below hY1.out hb2)
    have hIx := Aside0.mk (hI.out.on ((On.alloc (On.refl _) _).trans hb2))
    have hBx := Aside0.mk (hb.out.trans (hB1.out.trans hb2))
    have hcr : ∀ i, wx.cell? ⟨w.heap.size + 1 + 1, i, none⟩ = _ := blk_cell hRx.out
    have hfr : ∀ i, wx.frozen? ⟨w.heap.size + 1 + 1, i, none⟩ = _ := blk_frozen hRx.out
    have hyx := blk_cell hYx.out
    go_wp2
    refine bodyPost_ret (retIB rfl rfl (g := w.heap.size + 2) (blk_set (blk_set hRx.out 0 _) 1 _) rfl) rfl ?_
    have hlt := blk_lt hRx.out
    have e6 : insI rs fs g = fs := by unfold insI; rw [hno.out]; rfl
    have hI3 := hIx.out
    rw [hsz3.out] at hI3
    refine ⟨_, rfl, _, by rw [hno.out]; rfl, ?_, Reg.On.set (Reg.On.set hBx.out (by simp; omega) _) (by simp; omega) _⟩
    rw [e6]
    exact OIn.lower (OIn.set (OIn.set hI3 (by simp) _) (by simp) _) (by omega)
  | true =>
    have ho' := Aside0.mk ho
    cases hh : hasF fs g with
    | true =>
      have hno := Aside0.mk (show insB rs fs g = false by unfold insB; rw [ho, hh]; rfl)
      have hh' := Aside0.mk (show (okInst rs fs && hasF fs g) = true by rw [ho, hh]; rfl)
      clear ho hh
      go_enter Tryz.func9, Tryz.ntmps9
      go_wp2_with (first
        |
        (go_at_call 38; refine (l5Copy_calls _ A0 c0 A1 c1 rs fs (h0.on hb.out) (h1.on hb.out) hl0 hl hl2).mono ?_; rintro e w1 ⟨v1, rfl, hI0, hb1⟩; obtain ⟨a1, a2, a3, a4, a5, a6, rfl⟩ := hI0.read.shape; have hfill := alloc_fill w1; have hI := Aside0.mk hI0; clear hI0; have hB1 := Aside0.mk (hb1.trans (On.alloc (On.refl _) (.cells #[.slice a1 a2 a3, .slice a4 a5 a6] 27))); have hL1 := Aside0.mk (Loc.on hB1.out hL.out); have hc0 := blk_cell hL1.out.1; have hc1 := blk_cell hL1.out.2.1; have hY1 := Aside0.mk (loc_new w1 #[.slice a1 a2 a3, .slice a4 a5 a6] 27))
        | (go_at_call 40; refine (sContainsFact_calls _ A0 c0 A1 c1 rs fs (h0.on ((hb.out.trans hB1.out).trans hb2)) (h1.on ((hb.out.trans hB1.out).trans hb2)) A2 c2 g (h2.on ((hb.out.trans hB1.out).trans hb2))).mono ?_; rintro e wx ⟨rfl, hb3⟩; rw [hh'.out]; refine Stop.out ?_)
        | (go_at_call 39; refine (IsValidInstance_calls _ A0 c0 A1 c1 rs fs (h0.on (hb.out.trans hB1.out)) (h1.on (hb.out.trans hB1.out))).mono ?_; rintro e w2 ⟨rfl, hb2⟩; rw [ho'.out]; have hL2 := Aside0.mk (Loc.on hb2 hL1.out); have hd0 := blk_cell hL2.out.1; have hd1 := blk_cell hL2.out.2.1; clear hc0 hc1 hfill))
      clear hd0 hd1
      refine ⟨?_⟩
      have hRx := Aside0.mk (Loc.on hb3 hL2.out).2.2.1
      have hYx := Aside0.mk (blk_below hY1.out (hb2.trans hb3))
      have hIx := Aside0.mk (hI.out.on ((On.alloc (On.refl _) _).trans (hb2.trans hb3)))
      have hBx := Aside0.mk (hb.out.trans (hB1.out.trans (hb2.trans hb3)))
      have hcr : ∀ i, wx.cell? ⟨w.heap.size + 1 + 1, i, none⟩ = _ := blk_cell hRx.out
      have hfr : ∀ i, wx.frozen? ⟨w.heap.size + 1 + 1, i, none⟩ = _ := blk_frozen hRx.out
      have hyx := blk_cell hYx.out
      go_wp2
      refine bodyPost_ret (retIB rfl rfl (g := w.heap.size + 2) (blk_set (blk_set hRx.out 0 _) 1 _) rfl) rfl ?_
      have hlt := blk_lt hRx.out
      have e6 : insI rs fs g = fs := by unfold insI; rw [hno.out]; rfl
      have hI3 := hIx.out
      rw [hsz3.out] at hI3
      refine ⟨_, rfl, _, by rw [hno.out]; rfl, ?_, Reg.On.set (Reg.On.set hBx.out (by simp; omega) _) (by simp; omega) _⟩
      rw [e6]
      exact OIn.lower (OIn.set (OIn.set hI3 (by simp) _) (by simp) _) (by omega)
    | false =>
      have hh' := Aside0.mk (show (okInst rs fs && hasF fs g) = false by rw [ho, hh]; rfl)
      have hasc := Aside0.mk (okInst_asc ho)
      have hle := Aside0.mk (okInst_len ho)
      have hle3 := Aside0.mk (fun f hf => okFact_len (okInst_mem ho f hf))
      have hhh := Aside0.mk hh
      have hoo := Aside0.mk ho
      clear ho hh
      go_enter Tryz.func9, Tryz.ntmps9
      go_wp2_with (first
        |
        (go_at_call 38; refine (l5Copy_calls _ A0 c0 A1 c1 rs fs (h0.on hb.out) (h1.on hb.out) hl0 hl hl2).mono ?_; rintro e w1 ⟨v1, rfl, hI0, hb1⟩; obtain ⟨a1, a2, a3, a4, a5, a6, rfl⟩ := hI0.read.shape; have hfill := alloc_fill w1; have hI := Aside0.mk hI0; clear hI0; have hB1 := Aside0.mk (hb1.trans (On.alloc (On.refl _) (.cells #[.slice a1 a2 a3, .slice a4 a5 a6] 27))); have hL1 := Aside0.mk (Loc.on hB1.out hL.out); have hc0 := blk_cell hL1.out.1; have hc1 := blk_cell hL1.out.2.1; have hY1 := Aside0.mk (loc_new w1 #[.slice a1 a2 a3, .slice a4 a5 a6] 27))
        | (go_at_call 40; refine (sContainsFact_calls _ A0 c0 A1 c1 rs fs (h0.on ((hb.out.trans hB1.out).trans hb2)) (h1.on ((hb.out.trans hB1.out).trans hb2)) A2 c2 g (h2.on ((hb.out.trans hB1.out).trans hb2))).mono ?_; rintro e w3 ⟨rfl, hb3⟩; rw [hh'.out]; have hL3 := Aside0.mk (Loc.on hb3 hL2.out); have hY3 := Aside0.mk (blk_below hY1.out (hb2.trans hb3)); have hI3 := Aside0.mk (hI.out.on ((On.alloc (On.refl _) (.cells #[.slice a1 a2 a3, .slice a4 a5 a6] 27)).trans (hb2.trans hb3))); have hB3 := Aside0.mk (hB1.out.trans (hb2.trans hb3)); have hd2 := blk_cell hL3.out.2.1; have hd3 := blk_cell hY3.out; clear hd0 hd1)
        | (go_at_call 39; refine (IsValidInstance_calls _ A0 c0 A1 c1 rs fs (h0.on (hb.out.trans hB1.out)) (h1.on (hb.out.trans hB1.out))).mono ?_; rintro e w2 ⟨rfl, hb2⟩; rw [ho'.out]; have hL2 := Aside0.mk (Loc.on hb2 hL1.out); have hd0 := blk_cell hL2.out.1; have hd1 := blk_cell hL2.out.2.1; clear hc0 hc1 hfill)
        | (refine gate 21 ?_))
      clear hd2 hd3
      obtain ⟨A3, c3, A4, c4, e3, hr3, hf3⟩ := hI3.out.read.out
      injection e3 with e3
      have e31 := congrArg (fun x => x.toList) e3
      simp only [List.cons.injEq, Value.slice.injEq] at e31
      obtain ⟨⟨q1, q2, q3⟩, ⟨q4, q5, q6⟩, _⟩ := e31
      subst q1 q2 q3 q4 q5 q6
      clear e3
      refine ⟨goesF 21 Tryz.func41 ((l5Put_calls w3 a1 a3 a4 a6 rs fs hr3 hf3 A2 c2 g (h2.on (hb.out.trans hB3.out)) hl hg2 hasc.out).mono ?_)⟩
      rintro e w4 ⟨v4, rfl, hP4, hb4⟩
      refine ⟨_, rfl, ?_⟩
      obtain ⟨A5, c5, A6, c6, rfl, hr5, hf5⟩ := hP4.out
      have hpl : (putF fs g).length ≤ fs.length + 1 := putF_len fs g
      refine goesF 22 Tryz.func38 ((l5Copy_calls w4 A5 c5 A6 c6 rs (putF fs g) hr5 hf5 hl0 (by have := hle.out; omega) (fun f hf => ?_)).mono ?_)
      · rcases (mem_putF g f fs).1 hf with e | hf
        · rw [e]; exact hg2
        · have := hle3.out f hf; omega
      rintro e w5 ⟨v5, rfl, hI5, hb5⟩
      refine ⟨_, rfl, ?_⟩
      obtain ⟨b1, b2, b3, b4, b5, b6, rfl⟩ := hI5.read.shape
      have hI5' := Aside0.mk hI5
      have hfill := alloc_fill w5
      have hB5 := Aside0.mk ((hb4.trans hb5).trans (On.alloc (On.refl w5) (.cells #[.slice b1 b2 b3, .slice b4 b5 b6] 27)))
      have hZ5 := Aside0.mk (loc_new w5 #[.slice b1 b2 b3, .slice b4 b5 b6] 27)
      have hI6 := Aside0.mk (hI5.on (On.alloc (On.refl w5) (.cells #[.slice b1 b2 b3, .slice b4 b5 b6] 27)))
      have hw34 := Aside0.mk hb4.size
      clear hI5 hP4 hr5 hf5
      go_wp2_with (refine gate 24 ?_)
      clear hfill
      obtain ⟨A7, c7, A8, c8, e7, hr7, hf7⟩ := hI6.out.read.out
      injection e7 with e7
      have e71 := congrArg (fun x => x.toList) e7
      simp only [List.cons.injEq, Value.slice.injEq] at e71
      obtain ⟨⟨q1, q2, q3⟩, ⟨q4, q5, q6⟩, _⟩ := e71
      subst q1 q2 q3 q4 q5 q6
      clear e7
      refine ⟨goesF 24 Tryz.func39 ((IsValidInstance_calls _ b1 b3 b4 b6 rs (putF fs g) hr7 hf7).mono ?_)⟩
      rintro e wx ⟨rfl, hb6⟩
      refine ⟨_, rfl, ?_⟩
      have hB6 := Aside0.mk (hB5.out.trans hb6)
      have hRx := Aside0.mk (Loc.on hB6.out hL3.out).2.2.1
      have hBx := Aside0.mk (hb.out.trans (hB3.out.trans hB6.out))
      cases hv : okInst rs (putF fs g) with
      | false =>
        have hno := Aside0.mk (show insB rs fs g = false by unfold insB; rw [hoo.out, hhh.out, hv]; rfl)
        have hYx := Aside0.mk (blk_below hY3.out hB6.out)
        have hIx := Aside0.mk (hI3.out.on hB6.out)
        clear hv
        have hcr : ∀ i, wx.cell? ⟨w.heap.size + 1 + 1, i, none⟩ = _ := blk_cell hRx.out
        have hfr : ∀ i, wx.frozen? ⟨w.heap.size + 1 + 1, i, none⟩ = _ := blk_frozen hRx.out
        have hyx := blk_cell hYx.out
        go_wp2
        refine bodyPost_ret (retIB rfl rfl (g := w.heap.size + 2) (blk_set (blk_set hRx.out 0 _) 1 _) rfl) rfl ?_
        have hlt := blk_lt hRx.out
        have e6 : insI rs fs g = fs := by unfold insI; rw [hno.out]; rfl
        have hI3 := hIx.out
        rw [hsz3.out] at hI3
        refine ⟨_, rfl, _, by rw [hno.out]; rfl, ?_, Reg.On.set (Reg.On.set hBx.out (by simp; omega) _) (by simp; omega) _⟩
        rw [e6]
        exact OIn.lower (OIn.set (OIn.set hI3 (by simp) _) (by simp) _) (by omega)
      | true =>
        have hyes := Aside0.mk (show insB rs fs g = true by unfold insB; rw [hoo.out, hhh.out, hv]; rfl)
        have hYx := Aside0.mk (blk_below hZ5.out hb6)
        have hIx := Aside0.mk (hI6.out.on hb6)
        clear hv
        have hcr : ∀ i, wx.cell? ⟨w.heap.size + 1 + 1, i, none⟩ = _ := blk_cell hRx.out
        have hfr : ∀ i, wx.frozen? ⟨w.heap.size + 1 + 1, i, none⟩ = _ := blk_frozen hRx.out
        have hyx := blk_cell hYx.out
        go_wp2
        refine bodyPost_ret (retIB rfl rfl (g := w.heap.size + 2) (blk_set (blk_set hRx.out 0 _) 1 _) rfl) rfl ?_
        have e6 : insI rs fs g = putF fs g := by unfold insI; rw [hyes.out]; rfl
        have hlt := blk_lt hL3.out.2.2.1
        have hlt2 := hw34.out
        refine ⟨_, rfl, _, by rw [hyes.out]; rfl, ?_, Reg.On.set (Reg.On.set hBx.out (by simp; omega) _) (by simp; omega) _⟩
        rw [e6]
        exact OIn.lower (OIn.set (OIn.set hIx.out (by simp; omega) _) (by simp; omega) _) (by omega)
end Go.Proofs.YtngjhblbpapjeaaGreat.H
/- Plain: what the law FnInsertDelete asks of insertion and deletion. No condition. -/
namespace Go.Proofs.YtngjhblbpapjeaaGreat.H
open Go
set_option maxHeartbeats 1000000
set_option linter.unusedVariables false
set_option linter.unusedSimpArgs false

def srcOk (rs : List Rel) (f : Fct) : Bool := !srcOf rs f.1 || decide ((nuls f.2).length = 0)
theorem factsFrom_src {rs : List Rel} : ∀ {p : Option Fct} {fs : List Fct}, factsFrom rs p fs = true → ∀ f ∈ fs, srcOk rs f = true
  | _, [], _, f, hf => by cases hf
  | p, g :: fs, h, f, hf => by
    simp only [factsFrom, Bool.and_eq_true] at h
    rcases List.mem_cons.1 hf with rfl | hf
    · have := h.1; simp only [okNext, Bool.and_eq_true] at this; exact this.2
    · exact factsFrom_src h.2 f hf
theorem factsFrom_of {rs : List Rel} : ∀ (fs : List Fct) (p : Option Fct), (∀ f ∈ fs, okFact rs f = true) → (∀ f ∈ fs, srcOk rs f = true) → Asc fs → (∀ q, p = some q → ∀ f ∈ fs, cmpF q f < 0) → factsFrom rs p fs = true
  | [], _, _, _, _, _ => by simp [factsFrom]
  | f :: fs, p, h1, hs, h2, h3 => by
    have h4 := List.pairwise_cons.1 h2
    have ih := factsFrom_of (rs := rs) fs (some f) (fun g hg => h1 g (List.mem_cons_of_mem _ hg)) (fun g hg => hs g (List.mem_cons_of_mem _ hg)) h4.2 (fun q hq g hg => by cases hq; exact h4.1 g hg)
    simp only [factsFrom, Bool.and_eq_true]
    refine ⟨?_, ih⟩
    unfold okNext
    rw [h1 f List.mem_cons_self, show (!srcOf rs f.1 || decide ((nuls f.2).length = 0)) = true from hs f List.mem_cons_self]
    cases p with
    | none => rfl
    | some q => show (true && decide (cmpF q f < 0) && true) = true; rw [decide_eq_true (h3 q rfl f List.mem_cons_self)]; rfl
theorem okInst_del {rs : List Rel} {fs : List Fct} (g : Fct) (h : okInst rs fs = true) : okInst rs (delF fs g) = true := by
  have ha := okInst_asc h
  have hm := okInst_mem h
  have h0 := h
  simp only [okInst, Bool.and_eq_true, decide_eq_true_eq] at h0 ⊢
  refine ⟨factsFrom_of _ none (fun f hf => hm f (List.mem_filter.1 hf).1) (fun f hf => factsFrom_src h0.1 f (List.mem_filter.1 hf).1) (List.Pairwise.filter _ ha) (fun q hq => by cases hq), h0.2.1, Nat.le_trans (List.length_filter_le _ _) h0.2.2⟩
/-- The insertion took place. -/
theorem ins_yes {rs : List Rel} {fs : List Fct} {f : Fct} (h : insB rs fs f = true) : insI rs fs f = putF fs f ∧ okInst rs fs = true ∧ hasF fs f = false ∧ okInst rs (putF fs f) = true ∧ hasF (putF fs f) f = true ∧ delI rs (putF fs f) f = fs ∧ (!(fs.any fun g => !hasF (putF fs f) g)) = true := by
  have h0 := h
  simp only [insB, Bool.and_eq_true, Bool.not_eq_true'] at h0
  obtain ⟨h1, h2, h3⟩ := h0
  have hn : f ∉ fs := fun hm => by rw [(hasF_mem fs f).2 hm] at h2; cases h2
  have hp : hasF (putF fs f) f = true := (hasF_mem _ _).2 ((mem_putF f f fs).2 (.inl rfl))
  refine ⟨by unfold insI; rw [h]; rfl, h1, h2, h3, hp, ?_, ?_⟩
  · unfold delI
    rw [h3, hp]
    exact delF_put fs f (okInst_asc h1) hn
  · rw [Bool.not_eq_true', List.any_eq_false]
    intro g hg
    rw [(hasF_mem _ _).2 ((mem_putF f g fs).2 (.inr hg))]
    simp
/-- It did not, and the fact was there: deleted and inserted again. -/
theorem ins_back {rs : List Rel} {fs : List Fct} {f : Fct} (h : (okInst rs fs && hasF fs f) = true) : delI rs fs f = delF fs f ∧ insB rs (delF fs f) f = true ∧ insI rs (delF fs f) f = fs := by
  have h0 := h
  simp only [Bool.and_eq_true] at h0
  obtain ⟨h1, h2⟩ := h0
  have hm := (hasF_mem fs f).1 h2
  have hpd := put_delF fs f (okInst_asc h1) hm
  have hno : hasF (delF fs f) f = false := by
    cases hc : hasF (delF fs f) f with
    | false => rfl
    | true =>
      have := (List.mem_filter.1 ((hasF_mem _ _).1 hc)).2
      simp [cmpF_self] at this
  have hb : insB rs (delF fs f) f = true := by
    unfold insB
    rw [okInst_del f h1, hno, hpd, h1]
    rfl
  refine ⟨by unfold delI; rw [h]; rfl, hb, ?_⟩
  unfold insI
  rw [hb]
  exact hpd
end Go.Proofs.YtngjhblbpapjeaaGreat.H
/- Walks: what the law FnInsertDelete calls, in terms of values; its size test. No condition. -/
namespace Go.Proofs.YtngjhblbpapjeaaGreat.H
open Go Go.RowKit Go.Proofs.YtngjhblbpapjeaaGreatW.PrintWords Go.Proofs.YtngjhblbpapjeaaGreatW.PrintLast
open Go.Proofs.YtngjhblbpapjeaaGreat.Reg (On on_draw)
set_option maxHeartbeats 4000000
set_option maxRecDepth 100000
set_option linter.unusedVariables false
set_option linter.unusedSimpArgs false

theorem big_calls (w : World) (A n c) : Calls Tryz.prog 6 #[.slice A n c] w fun e w' => e = .returned (.bool (decide (1048576 < (n : Int)))) ∧ On w w' := by
  go_enter Tryz.func6, Tryz.ntmps6
  go_wp2
  go_ret
  exact ⟨rfl, On.refl _⟩
structure Sm (rs : List Rel) (fs : List Fct) : Prop where
  r : rs.length ≤ 5
  f : fs.length ≤ 1000
  m : ∀ f ∈ fs, f.2.length ≤ 3
theorem Sm.ins {rs : List Rel} {fs : List Fct} {g : Fct} (h : Sm rs fs) (hl : fs.length ≤ 999) (hg : g.2.length ≤ 3) : Sm rs (insI rs fs g) := by
  unfold insI
  split
  · exact ⟨h.r, by have := putF_len fs g; omega, fun f hf => ((mem_putF g f fs).1 hf).elim (fun e => e ▸ hg) (h.m f)⟩
  · exact h
theorem Sm.del {rs : List Rel} {fs : List Fct} {g : Fct} (h : Sm rs fs) : Sm rs (delI rs fs g) ∧ (delI rs fs g).length ≤ fs.length := by
  unfold delI
  split
  · exact ⟨⟨h.r, Nat.le_trans (List.length_filter_le _ _) h.f, fun f hf => h.m f (List.mem_filter.1 hf).1⟩, List.length_filter_le _ _⟩
  · exact ⟨h, Nat.le_refl _⟩
theorem iInsV (w : World) (v u : Value) (rs : List Rel) (fs : List Fct) (g : Fct) (h : RIn w v rs fs) (k : RFa w u g) (hz : Sm rs fs) (hg : g.2.length ≤ 3) : Calls Tryz.prog 8 #[v, u] w (Got fun x w' => ∃ v1, x = .tuple #[v1, .bool (insB rs fs g)] ∧ RIn w' v1 rs (insI rs fs g) ∧ On w w') := by
  obtain ⟨A0, c0, A1, c1, rfl, h0, h1⟩ := h.out
  obtain ⟨A2, c2, rfl, h2⟩ := k.out
  refine (iInsertFact_calls w A0 c0 A1 c1 rs fs h0 h1 A2 c2 g h2 (by have := hz.r; omega) (by have := hz.f; omega) (fun f hf => by have := hz.m f hf; omega) (by omega)).mono fun e w' hh => ?_
  obtain ⟨x, e1, v1, e2, hI, hb⟩ := hh
  exact ⟨x, e1, v1, e2, hI.read, hb⟩
theorem sInsV (w : World) (v u : Value) (rs : List Rel) (fs : List Fct) (g : Fct) (h : RIn w v rs fs) (k : RFa w u g) (hz : Sm rs fs) (hg : g.2.length ≤ 3) : Calls Tryz.prog 9 #[v, u] w (Got fun x w' => ∃ v1, x = .tuple #[v1, .bool (insB rs fs g)] ∧ RIn w' v1 rs (insI rs fs g) ∧ On w w') := by
  obtain ⟨A0, c0, A1, c1, rfl, h0, h1⟩ := h.out
  obtain ⟨A2, c2, rfl, h2⟩ := k.out
  refine (sInsertFact_calls w A0 c0 A1 c1 rs fs h0 h1 A2 c2 g h2 (by have := hz.r; omega) (by have := hz.f; omega) (fun f hf => by have := hz.m f hf; omega) (by omega)).mono fun e w' hh => ?_
  obtain ⟨x, e1, v1, e2, hI, hb⟩ := hh
  exact ⟨x, e1, v1, e2, hI.read, hb⟩
theorem iDelV (w : World) (v u : Value) (rs : List Rel) (fs : List Fct) (g : Fct) (h : RIn w v rs fs) (k : RFa w u g) (hz : Sm rs fs) : Calls Tryz.prog 14 #[v, u] w (Got fun x w' => ∃ v1, x = .tuple #[v1, .bool (okInst rs fs && hasF fs g)] ∧ RIn w' v1 rs (delI rs fs g) ∧ On w w') := by
  obtain ⟨A0, c0, A1, c1, rfl, h0, h1⟩ := h.out
  obtain ⟨A2, c2, rfl, h2⟩ := k.out
  refine (iDeleteFact_calls w A0 c0 A1 c1 rs fs h0 h1 A2 c2 g h2 (by have := hz.r; omega) (by have := hz.f; omega) (fun f hf => by have := hz.m f hf; omega)).mono fun e w' hh => ?_
  obtain ⟨x, e1, v1, e2, hI, hb⟩ := hh
  exact ⟨x, e1, v1, e2, hI.read, hb⟩
theorem sDelV (w : World) (v u : Value) (rs : List Rel) (fs : List Fct) (g : Fct) (h : RIn w v rs fs) (k : RFa w u g) (hz : Sm rs fs) : Calls Tryz.prog 15 #[v, u] w (Got fun x w' => ∃ v1, x = .tuple #[v1, .bool (okInst rs fs && hasF fs g)] ∧ RIn w' v1 rs (delI rs fs g) ∧ On w w') := by
  obtain ⟨A0, c0, A1, c1, rfl, h0, h1⟩ := h.out
  obtain ⟨A2, c2, rfl, h2⟩ := k.out
  refine (sDeleteFact_calls w A0 c0 A1 c1 rs fs h0 h1 A2 c2 g h2 (by have := hz.r; omega) (by have := hz.f; omega) (fun f hf => by have := hz.m f hf; omega)).mono fun e w' hh => ?_
  obtain ⟨x, e1, v1, e2, hI, hb⟩ := hh
  exact ⟨x, e1, v1, e2, hI.read, hb⟩
theorem eqV (w : World) (v u : Value) (rs : List Rel) (fs : List Fct) (qs : List Rel) (gs : List Fct) (h : RIn w v rs fs) (k : RIn w u qs gs) : Calls Tryz.prog 11 #[v, u] w fun e w' => e = .returned (.bool (decide (rs = qs) && decide (fs = gs))) ∧ On w w' := by
  obtain ⟨A0, c0, A1, c1, rfl, h0, h1⟩ := h.out
  obtain ⟨A2, c2, A3, c3, rfl, h2, h3⟩ := k.out
  exact EqualInstances_calls w A0 c0 A1 c1 rs fs h0 h1 A2 c2 A3 c3 qs gs h2 h3
theorem hasV (w : World) (v u : Value) (rs : List Rel) (fs : List Fct) (g : Fct) (h : RIn w v rs fs) (k : RFa w u g) : Calls Tryz.prog 16 #[v, u] w fun e w' => e = .returned (.bool (okInst rs fs && hasF fs g)) ∧ On w w' := by
  obtain ⟨A0, c0, A1, c1, rfl, h0, h1⟩ := h.out
  obtain ⟨A2, c2, rfl, h2⟩ := k.out
  exact iContainsFact_calls w A0 c0 A1 c1 rs fs h0 h1 A2 c2 g h2
theorem okV (w : World) (v : Value) (rs : List Rel) (fs : List Fct) (h : RIn w v rs fs) : Calls Tryz.prog 17 #[v] w fun e w' => e = .returned (.bool (okInst rs fs)) ∧ On w w' := by
  obtain ⟨A0, c0, A1, c1, rfl, h0, h1⟩ := h.out
  exact iIsValidInstance_calls w A0 c0 A1 c1 rs fs h0 h1
theorem subV (w : World) (v u : Value) (rs : List Rel) (fs : List Fct) (qs : List Rel) (gs : List Fct) (h : RIn w v rs fs) (k : RIn w u qs gs) : Calls Tryz.prog 18 #[v, u] w fun e w' => e = .returned (.bool (!(fs.any fun f => !hasF gs f))) ∧ On w w' := by
  obtain ⟨A0, c0, A1, c1, rfl, h0, h1⟩ := h.out
  obtain ⟨A2, c2, A3, c3, rfl, h2, h3⟩ := k.out
  exact IsSubset_calls w A0 rs.length c0 A1 c1 fs h1 A2 qs.length c2 A3 c3 gs h3
theorem iCmpV (w : World) (v u : Value) (f g : Fct) (h : RFa w v f) (k : RFa w u g) : Calls Tryz.prog 12 #[v, u] w fun e w' => e = .returned (.int .i64 (cmpF f g)) ∧ On w w' := by
  obtain ⟨A0, c0, rfl, h0⟩ := h.out
  obtain ⟨A2, c2, rfl, h2⟩ := k.out
  exact iCompareFacts_calls w A0 c0 A2 c2 f g h0 h2
theorem sCmpV (w : World) (v u : Value) (f g : Fct) (h : RFa w v f) (k : RFa w u g) : Calls Tryz.prog 13 #[v, u] w fun e w' => e = .returned (.int .i64 (cmpF f g)) ∧ On w w' := by
  obtain ⟨A0, c0, rfl, h0⟩ := h.out
  obtain ⟨A2, c2, rfl, h2⟩ := k.out
  exact CompareFacts_calls w A0 c0 A2 c2 f g h0 h2
end Go.Proofs.YtngjhblbpapjeaaGreat.H
/- Walk: the law FnInsertDelete. No condition. -/
namespace Go.Proofs.YtngjhblbpapjeaaGreat.H
open Go Go.RowKit Go.Proofs.YtngjhblbpapjeaaGreatW.PrintWords Go.Proofs.YtngjhblbpapjeaaGreatW.PrintLast
open Go.Proofs.YtngjhblbpapjeaaGreat.Reg (On on_draw)
set_option maxHeartbeats 8000000
set_option maxRecDepth 100000
set_option linter.unusedVariables false
set_option linter.unusedSimpArgs false

theorem cmpF_rng (f g : Fct) : -1 ≤ cmpF f g ∧ cmpF f g ≤ 1 := by
  unfold cmpF
  split
  · omega
  · split
    · omega
    · exact ints_bd _ _
theorem FnInsertDelete_calls (w : World) (A c) (xs : List Int) (hc : xs.length ≤ c) (hK : kBytes.C w A xs.length xs) : Calls Tryz.prog 3 #[.slice A xs.length c] w fun e w' => e = .returned (.bool true) ∧ On w w' := by
  have hK' := Aside0.mk hK
  have hc' := Aside0.mk hc
  clear hK hc
  by_cases hbig : 1048576 < (xs.length : Int)
  · have hbb := Aside0.mk (decide_eq_true hbig)
    clear hbig
    go_enter Tryz.func3, Tryz.ntmps3
    go_wp2_with (go_at_call 6; refine (big_calls w A xs.length c).mono ?_; rintro e w1 ⟨rfl, hb1⟩; rw [hbb.out])
    go_ret
    exact ⟨rfl, hb1⟩
  · have hbb := Aside0.mk (decide_eq_false hbig)
    clear hbig
    go_enter Tryz.func3, Tryz.ntmps3
    go_wp2_with (first | (go_at_call 6; refine (big_calls w A xs.length c).mono ?_; rintro e w1 ⟨rfl, hb1⟩; rw [hbb.out]) | (go_at_call 7; refine Stop.out ?_))
    refine ⟨(DrawInsertFact_calls _ A c xs hc'.out (Kd.C_below hK'.out hb1)).mono ?_⟩
    rintro e w2 ⟨v, rfl, v1, v2, rs, fs, f, rfl, hR, hF, hl0, hl, hl2, hl3, hb2⟩
    have hRa := Aside0.mk hR.read
    have hFa := Aside0.mk (hF _ (Ex.refl _ _))
    obtain ⟨A0, n0, c0, A1, n1, c1, rfl⟩ := hRa.out.shape
    obtain ⟨r2, A2, n2, c2, rfl⟩ := hFa.out.shape
    have hSm := Aside0.mk (show Sm rs fs from ⟨hl0, by omega, hl2⟩)
    have hl' := Aside0.mk (And.intro hl hl3)
    have hW2 := Aside0.mk (hb1.trans hb2)
    clear hR hF hl0 hl hl2 hl3 hb1 hb2
    have hL := Aside0.mk (loc2 w2 #[.slice none 0 0, .slice none 0 0] #[.int .i64 0, .slice none 0 0] 27 30)
    have hd0 := blk_cell hL.out.1
    have hd1 := blk_cell hL.out.2.1
    have hf0 := blk_frozen hL.out.1
    have hf1 := blk_frozen hL.out.2.1
    go_wp2_with (go_at_call 8; refine Stop.out ?_)
    obtain ⟨W3, hW3⟩ : ∃ W3, (w2.alloc (.cells #[.slice A0 n0 c0, .slice A1 n1 c1] 27 (0, 0))).alloc (.cells #[.int .i64 r2, .slice A2 n2 c2] 30 (0, 0)) = W3 := ⟨_, rfl⟩
    have hS3 := Aside0.mk (show On w2 W3 from hW3 ▸ On.alloc (On.alloc (On.refl _) _) _)
    have hL3 := Aside0.mk (show Loc W3 [(w2.heap.size, #[.slice A0 n0 c0, .slice A1 n1 c1], 27), (w2.heap.size + 1, #[.int .i64 r2, .slice A2 n2 c2], 30)] from hW3 ▸ loc2 w2 _ _ _ _)
    rw [hW3]
    clear hW3 hL hd0 hd1 hf0 hf1
    obtain ⟨g3, hg3⟩ : ∃ g3, w2.heap.size = g3 := ⟨_, rfl⟩
    rw [hg3] at hL3 ⊢
    clear hg3
    obtain ⟨b, hb⟩ : ∃ b, insB rs fs f = b := ⟨_, rfl⟩
    have hbI := Aside0.mk hb
    have hRx := Aside0.mk (hRa.out.on hS3.out)
    have hFx := Aside0.mk (hFa.out.on hS3.out)
    have hW := Aside0.mk (hW2.out.trans hS3.out)
    clear hS3 hW2 hRa hFa
    refine ⟨(iInsV W3 _ _ rs fs f hRx.out hFx.out hSm.out hl'.out.2).mono ?_⟩
    rintro e w4 ⟨v, rfl, v5, rfl, hR5, hb4⟩
    rw [hb]
    obtain ⟨A5, n5, c5, B5, m5, d5, rfl⟩ := hR5.shape
    have hfill := alloc_fill w4
    have hB4 := Aside0.mk (hb4.trans (On.alloc (On.refl w4) (.cells #[.slice A5 n5 c5, .slice B5 m5 d5] 27 (0, 0))))
    have hl4 := Aside0.mk (loc_new w4 #[.slice A5 n5 c5, .slice B5 m5 d5] 27)
    have q0 := blk_cell (Loc.on hB4.out hL3.out).1
    have q1 := blk_cell (Loc.on hB4.out hL3.out).2.1
    have hR5' := Aside0.mk (hR5.on (On.alloc (On.refl w4) (.cells #[.slice A5 n5 c5, .slice B5 m5 d5] 27 (0, 0))))
    clear hb hb4 hR5
    go_wp2_with (go_at_call 9; refine Stop.out ?_)
    refine ⟨?_⟩
    clear hfill q0 q1
    obtain ⟨W5, hW5⟩ : ∃ W5, w4.alloc (.cells #[.slice A5 n5 c5, .slice B5 m5 d5] 27 (0, 0)) = W5 := ⟨_, rfl⟩
    rw [hW5] at hB4 hl4 hR5' ⊢
    clear hW5
    obtain ⟨g5, hg5⟩ : ∃ g5, w4.heap.size = g5 := ⟨_, rfl⟩
    rw [hg5] at hl4 ⊢
    clear hg5
    have hL5 := Aside0.mk (Loc.on hB4.out hL3.out)
    have hRy := Aside0.mk (hRx.out.on hB4.out)
    have hFy := Aside0.mk (hFx.out.on hB4.out)
    have hWy := Aside0.mk (hW.out.trans hB4.out)
    clear hL3 hRx hFx hW hB4
    refine (sInsV W5 _ _ rs fs f hRy.out hFy.out hSm.out hl'.out.2).mono ?_
    rintro e w6 ⟨v, rfl, v7, rfl, hR7, hb6⟩
    rw [hbI.out]
    obtain ⟨A7, n7, c7, B7, m7, d7, rfl⟩ := hR7.shape
    have hfill := alloc_fill w6
    have hB6 := Aside0.mk (hb6.trans (On.alloc (On.refl w6) (.cells #[.slice A7 n7 c7, .slice B7 m7 d7] 27 (0, 0))))
    clear hb6 hR7
    go_wp2_with (go_at_call 10; refine Stop.out ?_)
    refine ⟨?_⟩
    clear hfill
    obtain ⟨W7, hW7⟩ : ∃ W7, w6.alloc (.cells #[.slice A7 n7 c7, .slice B7 m7 d7] 27 (0, 0)) = W7 := ⟨_, rfl⟩
    rw [hW7] at hB6 ⊢
    clear hW7
    refine (DrawCompareFacts_calls W7 A c xs hc'.out (Kd.C_below hK'.out (hWy.out.trans hB6.out))).mono ?_
    rintro e w8 ⟨v, rfl, va, vb, fa, fb, rfl, hFA, hFB, -, -, hb8⟩
    obtain ⟨r9, A9, n9, c9, rfl⟩ := hFA.shape
    obtain ⟨r10, A10, n10, c10, rfl⟩ := hFB.shape
    have hB8 := Aside0.mk (hB6.out.trans hb8)
    have hFA' := Aside0.mk hFA
    have hFB' := Aside0.mk hFB
    clear hFA hFB hb8 hB6
    have hL := Aside0.mk (loc2 w8 #[.int .i64 0, .slice none 0 0] #[.int .i64 0, .slice none 0 0] 30 30)
    have hd0 := blk_cell hL.out.1
    have hd1 := blk_cell hL.out.2.1
    have hf0 := blk_frozen hL.out.1
    have hf1 := blk_frozen hL.out.2.1
    go_wp2
    clear hd0 hd1 hf0 hf1
    obtain ⟨W9, hW9⟩ : ∃ W9, (w8.alloc (.cells #[.int .i64 r9, .slice A9 n9 c9] 30 (0, 0))).alloc (.cells #[.int .i64 r10, .slice A10 n10 c10] 30 (0, 0)) = W9 := ⟨_, rfl⟩
    have hS9 := Aside0.mk (show On w8 W9 from hW9 ▸ On.alloc (On.alloc (On.refl _) _) _)
    have hL9 := Aside0.mk (show Loc W9 [(w8.heap.size, #[.int .i64 r9, .slice A9 n9 c9], 30), (w8.heap.size + 1, #[.int .i64 r10, .slice A10 n10 c10], 30)] from hW9 ▸ loc2 w8 _ _ _ _)
    rw [hW9]
    clear hW9 hL
    obtain ⟨g9, hg9⟩ : ∃ g9, w8.heap.size = g9 := ⟨_, rfl⟩
    rw [hg9] at hL9 ⊢
    clear hg9
    have hB9 := Aside0.mk (hB8.out.trans hS9.out)
    have hA := Aside0.mk (hFA'.out.on hS9.out)
    have hB := Aside0.mk (hFB'.out.on hS9.out)
    have hLx := Aside0.mk (Loc.on hB9.out hL5.out)
    have hl5 := Aside0.mk (blk_below hl4.out hB9.out)
    have hRx := Aside0.mk (hRy.out.on hB9.out)
    have hFx := Aside0.mk (hFy.out.on hB9.out)
    have hRz := Aside0.mk (hR5'.out.on hB9.out)
    have hWx := Aside0.mk (hWy.out.trans hB9.out)
    clear hL5 hl4 hRy hFy hR5' hWy hB8 hFA' hFB' hS9 hB9
    obtain ⟨m, hm⟩ : ∃ m, cmpF fa fb = m := ⟨_, rfl⟩
    have hm1 := Aside0.mk hm
    have hm2 := Aside0.mk (show cmpF fb fa = -m by rw [cmpF_neg fa fb, hm])
    have hm3 : -1 ≤ m ∧ m ≤ 1 := by rw [← hm]; exact cmpF_rng fa fb
    have hw1 : wrap64 m = m := IntWalk.wrap64_in _ (by omega)
    have hw2 : IntKind.i64.wrap m = m := IntWalk.i64_in _ (by omega)
    have hw3 : wrap64 (- -m) = m := by rw [Int.neg_neg]; exact hw1
    have hw4 : IntKind.i64.wrap (- -m) = m := by rw [Int.neg_neg]; exact hw2
    clear hm hm3
    have e0 := blk_cell hL9.out.1
    have e1 := blk_cell hL9.out.2.1
    have e2 := blk_cell hLx.out.1
    have e3 := blk_cell hl5.out
    cases b with
    | true =>
      refine Reg.region [(0,.L),(1,.L),(2,.L),(3,.L),(4,.L),(5,.L),(6,.L),(7,.L),(8,.L),(9,.C),(10,.L),(11,.L),(12,.L),(13,.L),(14,.L),(15,.L),(16,.C),(17,.L),(18,.L),(19,.C),(20,.L),(21,.L),(22,.L),(23,.L),(24,.L),(25,.C),(26,.L),(27,.L),(28,.C),(29,.L),(30,.L),(31,.L)] [] (by kernel_rfl) (by kernel_rfl) ?_
      repeat first | refine sP ?_ | refine sS ?_ | refine sA ?_ | refine sL ?_ | refine sQ ?_ | refine sO ?_
      refine callC (.int .i64 m) Tryz.func12 (fun w' hS => ?_) ?_
      focus (have h := iCmpV w' _ _ fa fb (hA.out.on hS) (hB.out.on hS); rw [hm1.out] at h; exact h)
      repeat first | refine sP ?_ | refine sS ?_ | refine sA ?_ | refine sL ?_ | refine sQ ?_ | refine sO ?_
      refine callC (.int .i64 m) Tryz.func13 (fun w' hS => ?_) ?_
      focus (have h := sCmpV w' _ _ fa fb (hA.out.on hS) (hB.out.on hS); rw [hm1.out] at h; exact h)
      repeat first | refine sP ?_ | refine sS ?_ | refine sA ?_ | refine sL ?_ | refine sQ ?_ | refine sO ?_
      refine callC (.int .i64 m) Tryz.func12 (fun w' hS => ?_) ?_
      focus (have h := iCmpV w' _ _ fa fb (hA.out.on hS) (hB.out.on hS); rw [hm1.out] at h; exact h)
      repeat first | refine sP ?_ | refine sS ?_ | refine sA ?_ | refine sL ?_ | refine sQ ?_ | refine sO ?_
      refine callC (.int .i64 (-m)) Tryz.func12 (fun w' hS => ?_) ?_
      focus (have h := iCmpV w' _ _ fb fa (hB.out.on hS) (hA.out.on hS); rw [hm2.out] at h; exact h)
      repeat first | refine sP ?_ | refine sS ?_ | refine sA ?_ | refine sL ?_ | refine sQ ?_ | refine sO ?_
      refine Reg.nil fun w10 hS10 => ?_
      obtain ⟨y1, y2, y3, y4, y5, y6, y7⟩ := ins_yes hbI.out
      have hY1 := Aside0.mk y1
      have hY2 := Aside0.mk (show (okInst rs fs && hasF fs f) = false by rw [y2, y3]; rfl)
      have hY3 := Aside0.mk (show (okInst rs (putF fs f) && hasF (putF fs f) f) = true by rw [y4, y5]; rfl)
      have hY4 := Aside0.mk y4
      have hY6 := Aside0.mk y6
      have hY7 := Aside0.mk y7
      clear y1 y2 y3 y4 y5 y6 y7 e0 e1 e2 e3 hw1 hw2 hw3 hw4
      have hS := Aside0.mk hS10
      have hRy := Aside0.mk (show RIn w10 _ rs (putF fs f) from hY1.out ▸ hRz.out.on hS10)
      have hSy := Aside0.mk (show Sm rs (putF fs f) from hY1.out ▸ hSm.out.ins (by have := hl'.out.1; omega) hl'.out.2)
      have hLy := Aside0.mk (Loc.on hS10 hLx.out)
      have hl5y := Aside0.mk (blk_below hl5.out hS10)
      clear hS10
      have q0 := blk_cell hLy.out.1
      have q1 := blk_cell hLy.out.2.1
      have q2 := blk_cell hl5y.out
      go_wp2_with (go_at_call 14; refine Stop.out ?_)
      refine ⟨?_⟩
      clear q0 q1 q2
      refine (iDelV w10 _ _ rs (putF fs f) f hRy.out (hFx.out.on hS.out) hSy.out).mono ?_
      rintro e w11 ⟨v, rfl, v12, rfl, hR12, hb11⟩
      rw [hY3.out]
      rw [hY6.out] at hR12
      obtain ⟨A12, n12, c12, B12, m12, d12, rfl⟩ := hR12.shape
      have hfill := alloc_fill w11
      have hBd := Aside0.mk (hb11.trans (On.alloc (On.refl w11) (.cells #[.slice A12 n12 c12, .slice B12 m12 d12] 27 (0, 0))))
      have hld := Aside0.mk (loc_new w11 #[.slice A12 n12 c12, .slice B12 m12 d12] 27)
      have hRd := Aside0.mk (hR12.on (On.alloc (On.refl w11) (.cells #[.slice A12 n12 c12, .slice B12 m12 d12] 27 (0, 0))))
      clear hb11 hR12
      have q0 := blk_cell (Loc.on (hS.out.trans hBd.out) hLx.out).1
      have q1 := blk_cell (Loc.on (hS.out.trans hBd.out) hLx.out).2.1
      have q2 := blk_cell (blk_below hl5y.out hBd.out)
      go_wp2_with (go_at_call 16; refine Stop.out ?_)
      refine ⟨?_⟩
      clear hfill q0 q1 q2
      obtain ⟨W, hWd⟩ : ∃ W, w11.alloc (.cells #[.slice A12 n12 c12, .slice B12 m12 d12] 27 (0, 0)) = W := ⟨_, rfl⟩
      rw [hWd] at hBd hld hRd ⊢
      clear hWd
      obtain ⟨g12, hg12⟩ : ∃ g12, w11.heap.size = g12 := ⟨_, rfl⟩
      rw [hg12] at hld ⊢
      clear hg12
      have hT20 := Aside0.mk (hS.out.trans hBd.out)
      have hT20d := Aside0.mk (On.refl W)
      refine (hasV _ _ _ rs (putF fs f) f (hRy.out.on (hBd.out.trans hT20d.out)) (hFx.out.on hT20.out)).mono ?_
      rintro e w21 ⟨rfl, hb21⟩
      rw [hY3.out]
      have hT21 := Aside0.mk (hT20.out.trans hb21)
      have hT21d := Aside0.mk (hT20d.out.trans hb21)
      clear hb21
      have q0 := blk_cell (Loc.on hT21.out hLx.out).1
      have q1 := blk_cell (Loc.on hT21.out hLx.out).2.1
      have q2 := blk_cell (blk_below hl5.out hT21.out)
      have q3 := blk_cell (blk_below hld.out hT21d.out)
      go_wp2_with (go_at_call 16; refine Stop.out ?_)
      refine ⟨(hasV _ _ _ rs fs f (hRx.out.on hT21.out) (hFx.out.on hT21.out)).mono ?_⟩
      rintro e w22 ⟨rfl, hb22⟩
      rw [hY2.out]
      have hT22 := Aside0.mk (hT21.out.trans hb22)
      have hT22d := Aside0.mk (hT21d.out.trans hb22)
      clear hb22 q0 q1 q2 q3
      have q0 := blk_cell (Loc.on hT22.out hLx.out).1
      have q1 := blk_cell (Loc.on hT22.out hLx.out).2.1
      have q2 := blk_cell (blk_below hl5.out hT22.out)
      have q3 := blk_cell (blk_below hld.out hT22d.out)
      go_wp2_with (go_at_call 17; refine Stop.out ?_)
      refine ⟨(okV _ _ rs (putF fs f) (hRy.out.on (hBd.out.trans hT22d.out))).mono ?_⟩
      rintro e w23 ⟨rfl, hb23⟩
      rw [hY4.out]
      have hT23 := Aside0.mk (hT22.out.trans hb23)
      have hT23d := Aside0.mk (hT22d.out.trans hb23)
      clear hb23 q0 q1 q2 q3
      have q0 := blk_cell (Loc.on hT23.out hLx.out).1
      have q1 := blk_cell (Loc.on hT23.out hLx.out).2.1
      have q2 := blk_cell (blk_below hl5.out hT23.out)
      have q3 := blk_cell (blk_below hld.out hT23d.out)
      go_wp2_with (go_at_call 18; refine Stop.out ?_)
      refine ⟨(subV _ _ _ rs fs rs (putF fs f) (hRx.out.on hT23.out) (hRy.out.on (hBd.out.trans hT23d.out))).mono ?_⟩
      rintro e w24 ⟨rfl, hb24⟩
      rw [hY7.out]
      have hT24 := Aside0.mk (hT23.out.trans hb24)
      have hT24d := Aside0.mk (hT23d.out.trans hb24)
      clear hb24 q0 q1 q2 q3
      have q0 := blk_cell (Loc.on hT24.out hLx.out).1
      have q1 := blk_cell (Loc.on hT24.out hLx.out).2.1
      have q2 := blk_cell (blk_below hl5.out hT24.out)
      have q3 := blk_cell (blk_below hld.out hT24d.out)
      go_wp2_with (go_at_call 11; refine Stop.out ?_)
      refine ⟨(eqV _ _ _ rs fs rs fs (hRd.out.on hT24d.out) (hRx.out.on hT24.out)).mono ?_⟩
      rintro e w25 ⟨rfl, hb25⟩
      rw [decide_eq_true rfl, decide_eq_true rfl]
      have hT25 := Aside0.mk (hT24.out.trans hb25)
      have hT25d := Aside0.mk (hT24d.out.trans hb25)
      clear hb25 q0 q1 q2 q3
      go_wp2
      go_ret
      exact ⟨rfl, hWx.out.trans hT25.out⟩
    | false =>
      have hyx := Aside0.mk (show insI rs fs f = fs by unfold insI; rw [hbI.out]; rfl)
      refine Reg.region [(0,.L),(1,.L),(2,.L),(3,.L),(4,.L),(5,.L),(6,.L),(7,.L),(8,.L),(9,.C),(10,.L),(11,.L),(12,.L),(13,.L),(14,.L),(15,.L),(16,.C),(17,.L),(18,.L),(19,.C),(20,.L),(21,.L),(22,.L),(23,.L),(24,.L),(25,.C),(26,.L),(27,.L),(28,.C),(29,.L),(30,.L),(31,.L)] [] (by kernel_rfl) (by kernel_rfl) ?_
      repeat first | refine sP ?_ | refine sS ?_ | refine sA ?_ | refine sL ?_ | refine sQ ?_ | refine sO ?_
      refine callC (.bool true) Tryz.func11 (fun w' hS => ?_) ?_
      focus (have h := eqV w' _ _ rs (insI rs fs f) rs fs (hRz.out.on hS) (hRx.out.on hS); rw [hyx.out, decide_eq_true rfl, decide_eq_true rfl] at h; exact h)
      repeat first | refine sP ?_ | refine sS ?_ | refine sA ?_ | refine sL ?_ | refine sQ ?_ | refine sO ?_
      refine callC (.int .i64 m) Tryz.func12 (fun w' hS => ?_) ?_
      focus (have h := iCmpV w' _ _ fa fb (hA.out.on hS) (hB.out.on hS); rw [hm1.out] at h; exact h)
      repeat first | refine sP ?_ | refine sS ?_ | refine sA ?_ | refine sL ?_ | refine sQ ?_ | refine sO ?_
      refine callC (.int .i64 m) Tryz.func13 (fun w' hS => ?_) ?_
      focus (have h := sCmpV w' _ _ fa fb (hA.out.on hS) (hB.out.on hS); rw [hm1.out] at h; exact h)
      repeat first | refine sP ?_ | refine sS ?_ | refine sA ?_ | refine sL ?_ | refine sQ ?_ | refine sO ?_
      refine callC (.int .i64 m) Tryz.func12 (fun w' hS => ?_) ?_
      focus (have h := iCmpV w' _ _ fa fb (hA.out.on hS) (hB.out.on hS); rw [hm1.out] at h; exact h)
      repeat first | refine sP ?_ | refine sS ?_ | refine sA ?_ | refine sL ?_ | refine sQ ?_ | refine sO ?_
      refine callC (.int .i64 (-m)) Tryz.func12 (fun w' hS => ?_) ?_
      focus (have h := iCmpV w' _ _ fb fa (hB.out.on hS) (hA.out.on hS); rw [hm2.out] at h; exact h)
      repeat first | refine sP ?_ | refine sS ?_ | refine sA ?_ | refine sL ?_ | refine sQ ?_ | refine sO ?_
      refine Reg.nil fun w10 hS10 => ?_
      clear e0 e1 e2 e3 hw1 hw2 hw3 hw4
      have hS := Aside0.mk hS10
      have hLy := Aside0.mk (Loc.on hS10 hLx.out)
      clear hS10
      have q0 := blk_cell hLy.out.1
      have q1 := blk_cell hLy.out.2.1
      go_wp2_with (go_at_call 14; refine Stop.out ?_)
      refine ⟨?_⟩
      clear q0 q1
      refine (iDelV w10 _ _ rs fs f (hRx.out.on hS.out) (hFx.out.on hS.out) hSm.out).mono ?_
      rintro e w11 ⟨v, rfl, v12, rfl, hR12, hb11⟩
      obtain ⟨gn, hgn⟩ : ∃ gn, (okInst rs fs && hasF fs f) = gn := ⟨_, rfl⟩
      have hGn := Aside0.mk hgn
      rw [hgn]
      clear hgn
      obtain ⟨A12, n12, c12, B12, m12, d12, rfl⟩ := hR12.shape
      have hfill := alloc_fill w11
      have hBd := Aside0.mk (hS.out.trans (hb11.trans (On.alloc (On.refl w11) (.cells #[.slice A12 n12 c12, .slice B12 m12 d12] 27 (0, 0)))))
      have hld := Aside0.mk (loc_new w11 #[.slice A12 n12 c12, .slice B12 m12 d12] 27)
      have hRd := Aside0.mk (hR12.on (On.alloc (On.refl w11) (.cells #[.slice A12 n12 c12, .slice B12 m12 d12] 27 (0, 0))))
      have q0 := blk_cell (Loc.on hBd.out hLx.out).1
      have q1 := blk_cell (Loc.on hBd.out hLx.out).2.1
      clear hb11 hR12
      go_wp2_with (go_at_call 15; refine Stop.out ?_)
      refine ⟨?_⟩
      clear hfill q0 q1
      obtain ⟨W, hWd⟩ : ∃ W, w11.alloc (.cells #[.slice A12 n12 c12, .slice B12 m12 d12] 27 (0, 0)) = W := ⟨_, rfl⟩
      rw [hWd] at hBd hld hRd ⊢
      clear hWd
      obtain ⟨g12, hg12⟩ : ∃ g12, w11.heap.size = g12 := ⟨_, rfl⟩
      rw [hg12] at hld ⊢
      clear hg12
      refine (sDelV W _ _ rs fs f (hRx.out.on hBd.out) (hFx.out.on hBd.out) hSm.out).mono ?_
      rintro e w13 ⟨v, rfl, v14, rfl, hR14, hb13⟩
      rw [hGn.out]
      obtain ⟨A14, n14, c14, B14, m14, d14, rfl⟩ := hR14.shape
      have hfill := alloc_fill w13
      have hBe := Aside0.mk (hb13.trans (On.alloc (On.refl w13) (.cells #[.slice A14 n14 c14, .slice B14 m14 d14] 27 (0, 0))))
      have q1 := blk_cell (Loc.on (hBd.out.trans hBe.out) hLx.out).2.1
      have q2 := blk_cell (blk_below hld.out hBe.out)
      clear hb13 hR14
      go_wp2_with (go_at_call 8; refine Stop.out ?_)
      refine ⟨?_⟩
      clear hfill q1 q2
      obtain ⟨W14, hWd⟩ : ∃ W14, w13.alloc (.cells #[.slice A14 n14 c14, .slice B14 m14 d14] 27 (0, 0)) = W14 := ⟨_, rfl⟩
      rw [hWd] at hBe ⊢
      clear hWd
      have hBf := Aside0.mk (hBd.out.trans hBe.out)
      refine (iInsV W14 _ _ rs (delI rs fs f) f (hRd.out.on hBe.out) (hFx.out.on hBf.out) (hSm.out.del (g := f)).1 hl'.out.2).mono ?_
      rintro e w15 ⟨v, rfl, v16, rfl, hR16, hb15⟩
      obtain ⟨bk, hbk⟩ : ∃ bk, insB rs (delI rs fs f) f = bk := ⟨_, rfl⟩
      have hBk := Aside0.mk hbk
      rw [hbk]
      clear hbk
      obtain ⟨A16, n16, c16, B16, m16, d16, rfl⟩ := hR16.shape
      have hfill := alloc_fill w15
      have hBg := Aside0.mk (hBf.out.trans (hb15.trans (On.alloc (On.refl w15) (.cells #[.slice A16 n16 c16, .slice B16 m16 d16] 27 (0, 0)))))
      have hlg := Aside0.mk (loc_new w15 #[.slice A16 n16 c16, .slice B16 m16 d16] 27)
      have hRg := Aside0.mk (hR16.on (On.alloc (On.refl w15) (.cells #[.slice A16 n16 c16, .slice B16 m16 d16] 27 (0, 0))))
      clear hb15 hR16
      have q0 := blk_cell (Loc.on hBg.out hLx.out).1
      cases gn with
      | false =>
        go_wp2
        go_ret
        exact ⟨rfl, hWx.out.trans hBg.out⟩
      | true =>
        obtain ⟨z1, z2, z3⟩ := ins_back hGn.out
        obtain rfl : bk = true := by rw [← hBk.out, z1]; exact z2
        have hRh := Aside0.mk (show RIn _ _ rs fs from (show insI rs (delI rs fs f) f = fs by rw [z1]; exact z3) ▸ hRg.out)
        clear z1 z2 z3
        go_wp2_with (go_at_call 11; refine Stop.out ?_)
        refine ⟨(eqV _ _ _ rs fs rs fs hRh.out (hRx.out.on hBg.out)).mono ?_⟩
        rintro e w20 ⟨rfl, hb20⟩
        rw [decide_eq_true rfl, decide_eq_true rfl]
        clear hfill q0
        go_wp2
        go_ret
        exact ⟨rfl, hWx.out.trans (hBg.out.trans hb20)⟩
end Go.Proofs.YtngjhblbpapjeaaGreat.H
