/- Walks and plain laws for the law FnExactApplyToInstance, part 4 of 6: the texts HJ3, HL8, HRegT, HL9, HRegF, HJ4, HJ0, HJ1, HJ2 in one. No condition. -/
import Derived.Lib.QuietBelow
import Derived.Sort.Grow
import Derived.Shelf.SlSortCmp.WholeK
import Derived.Lib.RowBridge
import Derived.Test.YtngjhblbpapjeaaGreatZFnExactApplyToInstance3
/- Walks: the library's CompactFunc at facts. No condition. -/
namespace Go.Proofs.YtngjhblbpapjeaaGreat.H
open Go Go.RowKit Go.Proofs.YtngjhblbpapjeaaGreatW.PrintWords Go.Proofs.YtngjhblbpapjeaaGreatW.PrintLast
open Go.Proofs.YtngjhblbpapjeaaGreat.Reg (On on_draw)
set_option maxHeartbeats 4000000
set_option maxRecDepth 100000
set_option linter.unusedVariables false
set_option linter.unusedSimpArgs false

section
variable {P : Program} {ops : Array Oper} {Q : Exit → Act → World → Prop} {i : Nat} {tail : List Nat} {l : List (Nat × Reg.K)} {a a' : Act} {W : World} {o : Oper} {N : Tmp}
/-- A call of a function value, in a region that draws. -/
theorem callV {f : FuncId} {fn : Func} {x : Operand} {xs : Array Operand} {ts : Array TypeId} {caps args : Array Value} (v : Value) (hf : P.funcs[f]? = some fn)
    (h : ∀ w, On W w → Calls P f args w fun e w' => e = .returned v ∧ On w w') (rest : Reg.Ord P ops Q tail l a' W) (hi : ops[i]? = some o := by rfl) (hN : o.dst = some N := by rfl)
    (hop : o.op = .call { callee := .value x, args := xs, argTypes := ts } := by rfl) (hx : a.eval x = .func (.func f) #[] caps := by rfl) (hargs : xs.map a.eval ++ caps = args := by (try simp only [List.map_toArray, List.map_cons, List.map_nil]); rfl)
    (hname : (fn.name == "runtime.NumGoroutine") = false := by kernel_rfl) (hb : fn.body.isSome = true := by rfl)
    (hw : Region.wanted o (yielded ops a.tmps) = true := by with_unfolding_all rfl) (ha : a.put (some N) v = a' := by simp only [Act.put, List.setIfInBounds_toArray, List.set_cons_zero, List.set_cons_succ]; rfl) : Reg.Ord P ops Q tail ((i, .C) :: l) a W := by
  refine Reg.stepC (v := v) (fun w hS => ?_) (ha ▸ rest) hi hN hw
  have he := enters_ hf hname hb args w
  have hrun : (execOp a.eval o).run P w = .ok (.enter f args) w := by
    unfold execOp
    simp [hop, resolve, Deferred.ofValue, invoke, hx, hargs, he]
  unfold Reg.nAt
  rw [hrun]
  exact (h w hS).mono fun e w' ⟨he, hS'⟩ => ⟨v, he, rfl, hS.trans hS'⟩
end
/-- The headers that are keptB of the first j. -/
def keptB (p : Bool → Bool) (hs : List Hdr) (fs : List Bool) (j : Nat) : List Hdr := (((hs.zip fs).take j).filter fun q => !p q.2).map Prod.fst
theorem keptB_succ (p : Bool → Bool) (hs : List Hdr) (fs : List Bool) (j : Nat) (hl : hs.length = fs.length) (h : j < fs.length) : keptB p hs fs (j + 1) = keptB p hs fs j ++ (if p fs[j] then [] else [hs[j]'(by omega)]) := by
  unfold keptB
  rw [List.take_succ_eq_append_getElem (by rw [List.length_zip]; omega), List.filter_append, List.map_append, List.getElem_zip, List.filter_cons]
  cases p fs[j] <;> simp
theorem keptB_len (p : Bool → Bool) (hs : List Hdr) (fs : List Bool) (j : Nat) : (keptB p hs fs j).length ≤ j := by
  unfold keptB
  rw [List.length_map]
  exact Nat.le_trans (List.length_filter_le _ _) (by rw [List.length_take]; omega)
theorem keptB_front (p : Bool → Bool) (hs : List Hdr) (fs : List Bool) (hl : hs.length = fs.length) : ∀ j, j ≤ fs.length → (∀ i, (h : i < j) → (hi : i < fs.length) → p fs[i] = false) → keptB p hs fs j = hs.take j
  | 0, _, _ => by simp [keptB]
  | j + 1, hj, h => by
    rw [keptB_succ p hs fs j hl (by omega), keptB_front p hs fs hl j (by omega) (fun i hi hf => h i (by omega) hf), h j (by omega) (by omega), List.take_succ_eq_append_getElem (by omega)]
    rfl
/-- How the row stands when j facts are looked at, of which i are keptB. -/
structure KB (p : Bool → Bool) (hs : List Hdr) (fs : List Bool) (j i : Nat) (L : List Hdr) : Prop where
  len : L.length = fs.length
  lt : i < j
  is : i = (keptB p hs fs j).length
  row : ∃ M, L = keptB p hs fs j ++ M ++ hs.drop j
theorem KB.start (p : Bool → Bool) (hs : List Hdr) (fs : List Bool) (hl : hs.length = fs.length) (k : Nat) (hk : k < fs.length) (ht : p fs[k] = true) (hall : ∀ j, (hj : j < k) → p (fs[j]'(by omega)) = false) : KB p hs fs (k + 1) k hs := by
  have e : keptB p hs fs (k + 1) = hs.take k := by
    rw [keptB_succ p hs fs k hl hk, ht, if_pos rfl, List.append_nil, keptB_front p hs fs hl k (by omega) (fun i hi _ => hall i hi)]
  refine ⟨hl, Nat.lt_succ_self _, by rw [e, List.length_take]; omega, ⟨[hs[k]], ?_⟩⟩
  rw [e, ← List.take_succ_eq_append_getElem (by omega), List.take_append_drop]
theorem KB.mid {p : Bool → Bool} {hs : List Hdr} {fs : List Bool} {j i : Nat} {L : List Hdr} (h : KB p hs fs j i L) (hl : hs.length = fs.length) (hj : j < fs.length) : ∃ m M, L = keptB p hs fs j ++ (m :: M) ++ hs.drop j ∧ i + (M.length + 1) = j := by
  obtain ⟨M, e⟩ := h.row
  have h1 := congrArg List.length e
  rw [h.len, List.length_append, List.length_append, List.length_drop, ← h.is] at h1
  cases M with
  | nil => have := h.lt; simp at h1; omega
  | cons m M => exact ⟨m, M, e, by simp at h1; omega⟩
theorem KB.get {p : Bool → Bool} {hs : List Hdr} {fs : List Bool} {j i : Nat} {L : List Hdr} (h : KB p hs fs j i L) (hl : hs.length = fs.length) (hj : j < fs.length) : L[j]? = hs[j]? := by
  obtain ⟨m, M, e, hM⟩ := h.mid hl hj
  have h2 := h.is
  rw [e, List.getElem?_append_right (by simp; omega), List.length_append, List.length_cons, ← h2, show j - (i + (M.length + 1)) = 0 by omega, List.getElem?_drop]
  rfl
theorem KB.skip {p : Bool → Bool} {hs : List Hdr} {fs : List Bool} {j i : Nat} {L : List Hdr} (h : KB p hs fs j i L) (hl : hs.length = fs.length) (hj : j < fs.length) (hp : p fs[j] = true) : KB p hs fs (j + 1) i L := by
  obtain ⟨M, e⟩ := h.row
  have ek : keptB p hs fs (j + 1) = keptB p hs fs j := by rw [keptB_succ p hs fs j hl hj, hp, if_pos rfl, List.append_nil]
  refine ⟨h.len, Nat.lt_succ_of_lt h.lt, by rw [ek]; exact h.is, ⟨M ++ [hs[j]'(by omega)], ?_⟩⟩
  rw [ek, e, List.drop_eq_getElem_cons (by omega : j < hs.length)]
  simp
theorem KB.keep {p : Bool → Bool} {hs : List Hdr} {fs : List Bool} {j i : Nat} {L : List Hdr} (h : KB p hs fs j i L) (hl : hs.length = fs.length) (hj : j < fs.length) (hp : p fs[j] = false) : KB p hs fs (j + 1) (i + 1) (L.set i (hs[j]'(by omega))) := by
  obtain ⟨m, M, e, hM⟩ := h.mid hl hj
  have ek : keptB p hs fs (j + 1) = keptB p hs fs j ++ [hs[j]'(by omega)] := by rw [keptB_succ p hs fs j hl hj, hp, if_neg (by simp)]
  refine ⟨by rw [List.length_set]; exact h.len, Nat.succ_lt_succ h.lt, by rw [ek, List.length_append, ← h.is]; rfl, ⟨M ++ [hs[j]'(by omega)], ?_⟩⟩
  rw [ek, e, List.append_assoc, List.cons_append, set_mid _ _ _ _ _ h.is.symm, List.drop_eq_getElem_cons (by omega : j < hs.length)]
  simp
theorem KB.done {p : Bool → Bool} {hs : List Hdr} {fs : List Bool} {i : Nat} {L : List Hdr} (h : KB p hs fs fs.length i L) : L.take i = keptB p hs fs fs.length := by
  obtain ⟨M, e⟩ := h.row
  rw [e, List.append_assoc, h.is, List.take_left]
theorem keptB_pairs {w : World} {lo : Nat} {hs : List Hdr} {fs : List Fct} (h : Sep w lo hs fs) : Sep w lo (keptB id hs (flags none fs) fs.length) (runs none fs) := by
  have hfl := flags_len fs none
  have hq : (((hs.zip fs).zip (flags none fs)).filter fun q => !q.2).map Prod.fst |>.Sublist (hs.zip fs) := by
    have h1 : (((hs.zip fs).zip (flags none fs)).filter fun q => !q.2).Sublist ((hs.zip fs).zip (flags none fs)) := List.filter_sublist
    have h2 := h1.map Prod.fst
    rwa [List.map_fst_zip (by rw [List.length_zip, hfl]; omega)] at h2
  have h3 := h.sub hq
  have e1 : ((((hs.zip fs).zip (flags none fs)).filter fun q => !q.2).map Prod.fst).map Prod.snd = runs none fs := by
    rw [List.map_map]; exact runs_flags hs fs none h.len
  have e2 : ((((hs.zip fs).zip (flags none fs)).filter fun q => !q.2).map Prod.fst).map Prod.fst = keptB id hs (flags none fs) fs.length := by
    unfold keptB
    rw [List.take_of_length_le (by rw [List.length_zip, hfl]; omega), List.map_map]
    have key : ∀ (hs : List Hdr) (fs : List Fct) (bs : List Bool), hs.length = fs.length → fs.length = bs.length → ((((hs.zip fs).zip bs).filter fun q => !q.2).map (Prod.fst ∘ Prod.fst)) = ((hs.zip bs).filter fun q => !(id q.2)).map Prod.fst := by
      intro hs
      induction hs with
      | nil => intro fs bs _ _; simp
      | cons a hs ih =>
        intro fs bs h1 h2
        cases fs with
        | nil => simp at h1
        | cons f fs =>
          cases bs with
          | nil => simp at h2
          | cons b bs =>
            have := ih fs bs (by simpa using h1) (by simpa using h2)
            cases b <;> simpa using this
    exact key hs fs _ h.len hfl.symm
  rw [e1, e2] at h3
  exact h3
theorem runs_none {fs : List Fct} (h : ∀ j, (hj : j < (flags none fs).length) → (flags none fs)[j] = false) : runs none fs = fs := by
  have e := runs_flags (fs.map fun f => ((0 : Int), none, 0, 0)) fs none (by simp)
  have hall : flags none fs = List.replicate fs.length false := by
    apply List.ext_getElem
    · rw [flags_len, List.length_replicate]
    · intro i h1 h2; rw [h i h1, List.getElem_replicate]
  rw [← e, hall]
  rw [List.filter_eq_self.2 (fun q hq => by
    have := (List.of_mem_zip hq).2
    rw [List.eq_of_mem_replicate this]; rfl)]
  have e2 : ∀ (l : List Fct), (((l.map fun f => (((0 : Int), none, 0, 0) : Hdr)).zip l).zip (List.replicate l.length false)).map (fun q => q.1.2) = l := by
    intro l
    induction l with
    | nil => rfl
    | cons f l ih => simp [List.replicate_succ, ih]
  exact e2 fs
theorem elemF {w wr : World} {lo g n c : Nat} {hs L : List Hdr} {fs : List Fct} (hO : OH w lo (.slice (some ⟨g, 0, none⟩) n c) hs) (hS : Sep w lo hs fs) (hE : Ex (fun b => some b = Value.ownBlock (.slice (some ⟨g, 0, none⟩) n c)) w wr) (hL : OH wr lo (.slice (some ⟨g, 0, none⟩) n c) L) (j : Nat) (hj : j < fs.length) (hget : L[j]? = hs[j]?) :
    ∃ A c', hs[j]? = some (fs[j].1, A, fs[j].2.length, c') ∧ wr.cell? ⟨g, j * 2, none⟩ = some (.int .i64 fs[j].1) ∧ wr.cell? ⟨g, j * 2 + 1, none⟩ = some (.slice A fs[j].2.length c') ∧ Ints wr A c' fs[j].2 := by
  have hl := hS.len
  have hjh : j < hs.length := by omega
  have hSr := hS.ex hE (fun i a b ha hb e => (hS.ne_row hO ha hb) e.symm)
  obtain ⟨a1, a2, a3⟩ := hSr.reads.at_ j hs[j] fs[j] (List.getElem?_eq_getElem hjh) (List.getElem?_eq_getElem hj)
  rw [List.getElem?_eq_getElem hjh] at hget
  obtain ⟨hjL, e⟩ := List.getElem?_eq_some_iff.1 hget
  obtain ⟨x0, x1⟩ := hL.at j hjL
  rw [e] at x0 x1
  obtain ⟨⟨r, A, m, c'⟩, hhd⟩ : ∃ hd, hd = hs[j] := ⟨_, rfl⟩
  rw [← hhd] at a1 a2 a3 x0 x1
  dsimp only at a1 a2 a3 x0
  subst a1 a2
  exact ⟨A, c', by rw [List.getElem?_eq_getElem hjh, ← hhd], x0, x1, a3⟩
theorem CompactF_calls (w : World) (lo : Nat) (v : Value) (hs : List Hdr) (fs : List Fct) (hO : OH w lo v hs) (hS : Sep w lo hs fs) :
    Calls Tryz.prog 83 #[v, .func (.func 52) #[] #[]] w (Got fun v' w' => ∃ hs', OH w' lo v' hs' ∧ Sep w' lo hs' (runs none fs) ∧ Ex (fun b => some b = v.ownBlock) w w' ∧ ∀ b, FB v' hs' b → FB v hs b) := by
  have hlen := hS.len
  by_cases h2 : fs.length < 2
  · have hr : runs none fs = fs := by
      match fs, h2 with
      | [], _ => rfl
      | [f], _ => simp [runs]
    obtain ⟨A, c, rfl⟩ := own_slice hO
    have hlt : decide ((hs.length : Int) < 2) = true := decide_eq_true (by omega)
    have hlt2 : hs.length < 2 := by omega
    have hO' := Aside0.mk hO
    have hS' := Aside0.mk hS
    clear hO hS hlen h2
    go_enter Tryz.func83, Tryz.ntmps83
    go_wp2
    go_ret
    exact ⟨_, rfl, hs, hO'.out, by rw [hr]; exact hS'.out, Ex.refl _ _, fun _ h => h⟩
  · rcases hO.2 with ⟨hv, hz⟩ | ⟨g, cap, cur, rfl, hg, _⟩
    · omega
    have hcm := own_capmax hO
    have hcap := Aside0.mk hcm.1
    have hmx := hcm.2
    have hfl := Aside0.mk (flags_len fs none)
    have hO' := Aside0.mk hO
    have hS' := Aside0.mk hS
    have hlen' := Aside0.mk hlen
    have hlt : decide ((hs.length : Int) < 2) = false := decide_eq_false (by omega)
    have hn2 : ¬ hs.length < 2 := by omega
    have hn2' := Aside0.mk hn2
    have hfz := Aside0.mk (show (flags none fs)[0]? = some false by rw [List.getElem?_eq_getElem (by rw [flags_len]; omega), flags_zero fs (by omega)])
    clear hcm hO hS h2 hg hlen
    go_enter Tryz.func83, Tryz.ntmps83
    go_wp2
    clear hlt hn2
    go_loopw [5] (fun v5 wr => ∃ (k : Nat), v5 = .int .i64 k ∧ 1 ≤ k ∧ k ≤ hs.length ∧ Aside0 (∀ j, j < k → (flags none fs)[j]? = some false) ∧ Aside0 (On w wr)) (fun v5 _ => hs.length - (intOf v5).toNat)
    case atStart => exact ⟨1, rfl, by omega, by have := hn2'.out; omega, ⟨fun j hj => (show j = 0 by omega) ▸ hfz.out⟩, ⟨On.refl _⟩⟩
    case round =>
      obtain ⟨k, rfl, hk1, hk, hall, hB⟩ := hrel
      by_cases hkl : k < hs.length
      · have hkf : k < fs.length := by have := hlen'.out; omega
        have hkf' : k - 1 < fs.length := by omega
        have hLr := Aside0.mk (pw_own_below hO'.out hB.out)
        obtain ⟨A3, c3, _, x0, x1, x2⟩ := elemF hO'.out hS'.out (Ex.of_on hB.out) hLr.out k hkf rfl
        obtain ⟨A4, c4, _, y0, y1, y2⟩ := elemF hO'.out hS'.out (Ex.of_on hB.out) hLr.out (k - 1) hkf' rfl
        have hws : IntKind.i64.wrap ((k : Int) - 1) = ((k - 1 : Nat) : Int) := by rw [IntWalk.i64_in _ (by omega)]; omega
        have hk1l : k - 1 < hs.length := by omega
        have hfg := Aside0.mk (show (flags none fs)[k]? = some (cmpF fs[k] fs[k - 1] == 0) by
          have h := flags_get fs none (k - 1) (by omega)
          rw [List.getElem?_eq_getElem (by rw [hfl.out]; omega)]
          congr 1
          have e : (flags none fs)[k]'(by rw [hfl.out]; omega) = (flags none fs)[k - 1 + 1]'(by rw [hfl.out]; omega) := by congr 1; omega
          rw [e, h]
          have e2 : fs[k - 1 + 1]'(by omega) = fs[k] := by congr 1; omega
          rw [e2]
          by_cases c : fs[k - 1] = fs[k]
          · rw [decide_eq_true c, c, cmpF_self]; rfl
          · rw [decide_eq_false c]
            symm
            rw [beq_eq_false_iff_ne]
            exact fun h => c ((cmpF_eq _ _).1 h).symm)
        have x2' := Aside0.mk x2
        have y2' := Aside0.mk y2
        clear x2 y2
        obtain ⟨F, hF⟩ : ∃ F, fs[k] = F := ⟨_, rfl⟩
        obtain ⟨G, hG⟩ : ∃ G, fs[k - 1] = G := ⟨_, rfl⟩
        rw [hF] at x0 x1 x2' hfg
        rw [hG] at y0 y1 y2' hfg
        clear hF hG
        cases hq : (cmpF F G == 0) with
        | false =>
          have hq' := Aside0.mk hq
          rw [hq] at hfg
          clear hq
          go_wp2
          refine Reg.region [(0,.L),(1,.L),(2,.L),(3,.L),(4,.L),(5,.L),(6,.L),(7,.L),(8,.L),(9,.L),(10,.C)] [] (by kernel_rfl) (by kernel_rfl) ?_
          repeat first | refine sP ?_ | refine sS ?_ | refine sA ?_ | refine sL ?_ | refine sQ ?_ | refine sO ?_
          refine callV (.bool false) Tryz.func52 (fun w' hS => ?_) ?_
          focus exact (sameFact_calls w' A3 c3 A4 c4 F G (x2'.out.on hS) (y2'.out.on hS)).mono fun e w'' h => ⟨by rw [h.1, hq'.out], h.2⟩
          repeat first | refine sP ?_ | refine sS ?_ | refine sA ?_ | refine sL ?_ | refine sQ ?_ | refine sO ?_
          refine Reg.nil fun w2 hS => ?_
          clear x0 x1 y0 y1
          go_wp2
          refine ⟨⟨k + 1, by go_num, by omega, by omega, ⟨fun j hj => ?_⟩, ⟨hB.out.trans hS⟩⟩, by simp [intOf]; omega⟩
          by_cases e : j = k
          · rw [e]; exact hfg.out
          · exact hall.out j (by omega)
        | true =>
          have hq' := Aside0.mk hq
          rw [hq] at hfg
          clear hq
          go_wp2
          refine Reg.region [(0,.L),(1,.L),(2,.L),(3,.L),(4,.L),(5,.L),(6,.L),(7,.L),(8,.L),(9,.L),(10,.C)] [] (by kernel_rfl) (by kernel_rfl) ?_
          repeat first | refine sP ?_ | refine sS ?_ | refine sA ?_ | refine sL ?_ | refine sQ ?_ | refine sO ?_
          refine callV (.bool true) Tryz.func52 (fun w' hS => ?_) ?_
          focus exact (sameFact_calls w' A3 c3 A4 c4 F G (x2'.out.on hS) (y2'.out.on hS)).mono fun e w'' h => ⟨by rw [h.1, hq'.out], h.2⟩
          repeat first | refine sP ?_ | refine sS ?_ | refine sA ?_ | refine sL ?_ | refine sQ ?_ | refine sO ?_
          refine Reg.nil fun w2 hS => ?_
          clear x0 x1 y0 y1
          have hB2 := Aside0.mk (hB.out.trans hS)
          have hI0 := Aside0.mk (KB.start id hs (flags none fs) (by rw [hfl.out]; exact hlen'.out) k (by rw [hfl.out]; omega) (by
            have h := hfg.out
            obtain ⟨_, e⟩ := List.getElem?_eq_some_iff.1 h
            exact e) (fun j hj => by
            have h := hall.out j hj
            obtain ⟨_, e⟩ := List.getElem?_eq_some_iff.1 h
            exact e))
          go_wp2_with (refine gate 31 ?_)
          refine ⟨slFF 31 (A := some ⟨g, 0, none⟩) (k := k) (n := hs.length) (c := cap) (A' := some ⟨g, k * 2, none⟩) (m := hs.length - k) (c' := cap - k) (by rw [if_neg (by have := hcap.out; omega), Option.map_some, add_plain]) rfl rfl (by omega) hcap.out ?_⟩
          go_wp2
          go_loopw [5, 7] (fun v5 v7 wr => ∃ (i m : Nat) (L : List Hdr), v5 = .int .i64 i ∧ v7 = .int .i64 m ∧ 1 ≤ m ∧ k + m ≤ hs.length ∧ Aside0 (KB id hs (flags none fs) (k + m) i L) ∧ Aside0 (∀ t, i ≤ t → L[t]? = hs[t]?) ∧ Aside0 (OH wr lo (.slice (some ⟨g, 0, none⟩) hs.length cap) L) ∧ Aside0 (Ex (fun b => some b = Value.ownBlock (.slice (some ⟨g, 0, none⟩) hs.length cap)) w wr)) (fun _ v7 _ => hs.length - k - (intOf v7).toNat)
          case atStart => exact ⟨k, 1, hs, rfl, by go_num, by omega, by omega, hI0, ⟨fun t _ => rfl⟩, ⟨pw_own_below hO'.out hB2.out⟩, ⟨Ex.of_on hB2.out⟩⟩
          case round =>
            obtain ⟨i, m, L, rfl, rfl, hm1, hmn, hK, hge, hL, hE⟩ := hrel
            have hij := hK.out.lt
            have hLl := Aside0.mk (show L.length = hs.length by rw [hK.out.len, hfl.out, ← hlen'.out])
            by_cases hml : m < hs.length - k
            · have hjf : k + m < fs.length := by have := hlen'.out; omega
              have hjf' : k + m - 1 < fs.length := by omega
              obtain ⟨A5, c5, hh5, x0, x1, x2⟩ := elemF hO'.out hS'.out hE.out hL.out (k + m) hjf (hge.out _ (by omega))
              obtain ⟨A6, c6, _, y0, y1, y2⟩ := elemF hO'.out hS'.out hE.out hL.out (k + m - 1) hjf' (hge.out _ (by omega))
              rw [show (k + m) * 2 = k * 2 + m * 2 by omega] at x0 x1
              rw [show (k + m - 1) * 2 = k * 2 + (m - 1) * 2 by omega] at y0 y1
              have hws : IntKind.i64.wrap ((m : Int) - 1) = ((m - 1 : Nat) : Int) := by rw [IntWalk.i64_in _ (by omega)]; omega
              have hm1l : m - 1 < hs.length - k := by omega
              have hbl : k + m < (flags none fs).length := by rw [hfl.out]; exact hjf
              have hfg := Aside0.mk (show (flags none fs)[k + m] = (cmpF fs[k + m] fs[k + m - 1] == 0) by
                have h := flags_get fs none (k + m - 1) (by omega)
                have e : (flags none fs)[k + m] = (flags none fs)[k + m - 1 + 1]'(by rw [hfl.out]; omega) := by congr 1; omega
                rw [e, h]
                have e2 : fs[k + m - 1 + 1]'(by omega) = fs[k + m] := by congr 1; omega
                rw [e2]
                by_cases c : fs[k + m - 1] = fs[k + m]
                · rw [decide_eq_true c, c, cmpF_self]; rfl
                · rw [decide_eq_false c]
                  symm
                  rw [beq_eq_false_iff_ne]
                  exact fun h => c ((cmpF_eq _ _).1 h).symm)
              have x2' := Aside0.mk x2
              have y2' := Aside0.mk y2
              have hh5' := Aside0.mk hh5
              have hbl' := Aside0.mk hbl
              clear x2 y2 hh5
              obtain ⟨F, hF⟩ : ∃ F, fs[k + m] = F := ⟨_, rfl⟩
              obtain ⟨G, hG⟩ : ∃ G, fs[k + m - 1] = G := ⟨_, rfl⟩
              rw [hF] at x0 x1 x2' hfg hh5'
              rw [hG] at y0 y1 y2' hfg
              clear hF hG
              cases hq : (cmpF F G == 0) with
              | true =>
                have hq' := Aside0.mk hq
                rw [hq] at hfg
                clear hq
                go_wp2
                refine Reg.region [(0,.L),(1,.L),(2,.L),(3,.L),(4,.L),(5,.L),(6,.L),(7,.L),(8,.L),(9,.L),(10,.C),(11,.L)] [] (by kernel_rfl) (by kernel_rfl) ?_
                repeat first | refine sP ?_ | refine sS ?_ | refine sA ?_ | refine sL ?_ | refine sQ ?_ | refine sO ?_
                refine callV (.bool true) Tryz.func52 (fun w' hS => ?_) ?_
                focus exact (sameFact_calls w' A5 c5 A6 c6 F G (x2'.out.on hS) (y2'.out.on hS)).mono fun e w'' h => ⟨by rw [h.1, hq'.out], h.2⟩
                repeat first | refine sP ?_ | refine sS ?_ | refine sA ?_ | refine sL ?_ | refine sQ ?_ | refine sO ?_
                refine Reg.nil fun w3 hS3 => ?_
                clear x0 x1 y0 y1
                go_wp2
                exact ⟨⟨i, m + 1, L, rfl, by go_num, by omega, by omega, ⟨hK.out.skip (by rw [hfl.out]; exact hlen'.out) hbl'.out hfg.out⟩, hge, ⟨pw_own_below hL.out hS3⟩, ⟨hE.out.then_on hS3⟩⟩, by simp [intOf]; omega⟩
              | false =>
                have hq' := Aside0.mk hq
                rw [hq] at hfg
                clear hq
                go_wp2
                refine Reg.region [(0,.L),(1,.L),(2,.L),(3,.L),(4,.L),(5,.L),(6,.L),(7,.L),(8,.L),(9,.L),(10,.C),(11,.L)] [] (by kernel_rfl) (by kernel_rfl) ?_
                repeat first | refine sP ?_ | refine sS ?_ | refine sA ?_ | refine sL ?_ | refine sQ ?_ | refine sO ?_
                refine callV (.bool false) Tryz.func52 (fun w' hS => ?_) ?_
                focus exact (sameFact_calls w' A5 c5 A6 c6 F G (x2'.out.on hS) (y2'.out.on hS)).mono fun e w'' h => ⟨by rw [h.1, hq'.out], h.2⟩
                repeat first | refine sP ?_ | refine sS ?_ | refine sA ?_ | refine sL ?_ | refine sQ ?_ | refine sO ?_
                refine Reg.nil fun w3 hS3 => ?_
                have x0' := (hS3.eq _ (by rw [x0]; rfl)).trans x0
                have x1' := (hS3.eq _ (by rw [x1]; rfl)).trans x1
                have hL2 := Aside0.mk (pw_own_below hL.out hS3)
                have hiL : i < L.length := by have := hLl.out; omega
                obtain ⟨hi0, hi1⟩ := OH.at hL2.out i hiL
                have hL2n : w3.ownsRow lo 30 2 (.slice (some ⟨g, 0, none⟩) hs.length cap) hs.length (L.flatMap encH) := hLl.out ▸ hL2.out
                have hf0 := own_frozen hL2n (i * 2)
                have hf1 := own_frozen hL2n (i * 2 + 1)
                clear hL2n x0 x1 y0 y1
                go_wp2
                have hst := OH.store hL2.out i hiL (F.1, A5, F.2.length, c5)
                have hkp := hK.out.keep (by rw [hfl.out]; exact hlen'.out) hbl'.out hfg.out
                have e5 : hs[k + m]'(by omega) = (F.1, A5, F.2.length, c5) := by
                  obtain ⟨_, e⟩ := List.getElem?_eq_some_iff.1 hh5'.out
                  exact e
                rw [e5] at hkp
                exact ⟨⟨i + 1, m + 1, _, by go_num, by go_num, by omega, by omega, ⟨hkp⟩, ⟨fun t ht => by rw [List.getElem?_set_ne (by omega)]; exact hge.out t (by omega)⟩, ⟨hst⟩, ⟨((hE.out.then_on hS3).trans' (Ex.mono (Ex.set _ _ _) (fun k e => by subst e; rfl))).trans' (Ex.mono (Ex.set _ _ _) (fun k e => by subst e; rfl))⟩⟩, by simp [intOf]; omega⟩
            · have hkm : k + m = hs.length := by omega
              have hclr := fun ty => run_clearF hL.out i (by omega) (cap - i) ty
              have hin : i < hs.length := by omega
              go_wp2_with (refine gate 61 ?_)
              refine ⟨slFF 61 (A := some ⟨g, 0, none⟩) (k := i) (n := hs.length) (c := cap) (A' := some ⟨g, i * 2, none⟩) (m := hs.length - i) (c' := cap - i) (by rw [if_neg (by have := hcap.out; omega), Option.map_some, add_plain]) rfl rfl (by omega) hcap.out ?_⟩
              go_wp2_with (refine gate 64 ?_)
              refine ⟨slTF 64 (k := i) (n := hs.length) (c := cap) (Nat.le_of_lt hin) hcap.out ?_⟩
              go_wp2
              go_ret
              have hLn : wr.ownsRow lo 30 2 (.slice (some ⟨g, 0, none⟩) hs.length cap) hs.length (L.flatMap encH) := hLl.out ▸ hL.out
              obtain ⟨h1, g1⟩ := own_sets (Builtin.zeroCells #[.int .i64 0, .slice none 0 0] (hs.length - i)).toList (i * 2) _ _ hLn (by rw [Array.length_toList, size_zeroCells]; show i * 2 + (hs.length - i) * 2 ≤ _; omega)
              have h2 := own_cut h1 i (Nat.le_of_lt hin)
              have hKe : KB id hs (flags none fs) (flags none fs).length i L := by
                have h := hK.out
                rwa [show k + m = (flags none fs).length by rw [hfl.out, ← hlen'.out]; omega] at h
              have hkd := hKe.done
              have hki := hKe.is
              rw [hfl.out] at hkd hki
              have e : ((L.flatMap encH).take (i * 2)) = (keptB id hs (flags none fs) fs.length).flatMap encH := by
                rw [← hkd]
                have e2 : L.flatMap encH = (L.take i).flatMap encH ++ (L.drop i).flatMap encH := by rw [← List.flatMap_append, List.take_append_drop]
                have e3 : ((L.take i).flatMap encH).length = i * 2 := by rw [flat_len (enc := encH) (sz := 2) (fun _ => rfl), List.length_take, hLl.out]; congr 1; omega
                rw [e2, List.take_append_of_le_length (by omega), ← e3, List.take_length]
              have hl0 : (L.flatMap encH).length = hs.length * 2 := hLn.1
              rw [List.append_assoc, List.take_append_of_le_length (by rw [List.length_take]; omega), List.take_take, Nat.min_self, e] at h2
              have hE' := hE.out.trans' (Ex.of_grown g1)
              have hkp := keptB_pairs hS'.out
              refine ⟨_, rfl, keptB id hs (flags none fs) fs.length, ?_, hkp.ex hE' (fun i a b ha hb e => ?_), hE', fun b h => ?_⟩
              · show World.ownsRow _ _ _ _ _ (keptB id hs (flags none fs) fs.length).length _
                rw [← hki]; exact h2
              · exact (hkp.ne_row hO'.out ha hb) e.symm
              · rcases h with h | ⟨m', a, ha, h⟩
                · exact .inl h
                · have hmem := List.mem_of_getElem? ha
                  unfold keptB at hmem
                  obtain ⟨q, hq, rfl⟩ := List.mem_map.1 hmem
                  have hq1 := List.mem_of_mem_take (List.mem_filter.1 hq).1
                  have hq2 : q.1 ∈ hs := (List.of_mem_zip hq1).1
                  obtain ⟨m', hm', e⟩ := List.mem_iff_getElem.1 hq2
                  exact .inr ⟨m', q.1, by rw [List.getElem?_eq_getElem hm', e], h⟩
      · go_wp2
        go_ret
        have hr : runs none fs = fs := runs_none fun j hj => by
          rw [hfl.out] at hj
          have h := hall.out j (by have := hlen'.out; omega)
          obtain ⟨_, e⟩ := List.getElem?_eq_some_iff.1 h
          exact e
        exact ⟨_, rfl, hs, pw_own_below hO'.out hB.out, by rw [hr]; exact hS'.out.on hB.out, Ex.of_on hB.out, fun _ h => h⟩
end Go.Proofs.YtngjhblbpapjeaaGreat.H
/- Walks: marks of instances, and whether they hold. No condition. -/
namespace Go.Proofs.YtngjhblbpapjeaaGreat.H
open Go Go.RowKit Go.Proofs.YtngjhblbpapjeaaGreatW.PrintWords Go.Proofs.YtngjhblbpapjeaaGreatW.PrintLast
open Go.Proofs.YtngjhblbpapjeaaGreat.Reg (On on_draw)
set_option maxHeartbeats 1000000
set_option maxRecDepth 100000
set_option linter.unusedVariables false
set_option linter.unusedSimpArgs false

theorem markF_at (k : Int) (l : List Nat) (i : Nat) (h : i < l.length) : (markF k l)[i]'(by rw [markF_len]; exact h) = (k + cF (l.take i), markI (k + cF (l.take i) + 1) l[i]) := by
  induction l generalizing k i with
  | nil => simp at h
  | cons m l ih =>
    cases i with
    | zero => simp [markF, cF]
    | succ i =>
      have h' : i < l.length := by simpa using h
      have e : k + 1 + (m : Int) + cF (l.take i) = k + cF ((m :: l).take (i + 1)) := by simp [cF]; omega
      simp only [markF, List.getElem_cons_succ]
      rw [ih (k + 1 + m) i h', e]
theorem cF_take_succ (l : List Nat) (k : Nat) (h : k < l.length) : cF (l.take (k + 1)) = cF (l.take k) + (l[k] + 1) := by
  rw [List.take_succ_eq_append_getElem h, cF_snoc]
theorem cF_len (l : List Nat) : l.length ≤ cF l := by
  unfold cF
  induction l with
  | nil => simp
  | cons m l ih => simp at ih ⊢; omega
theorem heldFactS_calls (w : World) (A c) (l : List Nat) (k0 : Int) (h : Fcts w A c (markF k0 l)) (h0 : 0 ≤ k0) (h1 : k0 + cF l ≤ 10000000) : Calls Tryz.prog 72 #[.slice A l.length c, .int .i64 k0] w fun e w' => e = .returned (.int .i64 (k0 + cF l)) ∧ On w w' := by
  have hl := Aside0.mk (markF_len k0 l)
  have hlmax : l.length ≤ 10000000 := by have := cF_len l; omega
  go_enter Tryz.func72, Tryz.ntmps72
  go_wp2
  go_loopw [5, 1] (fun v5 v1 wr => ∃ k : Nat, k ≤ l.length ∧ v5 = .int .i64 k ∧ v1 = .int .i64 (k0 + cF (l.take k)) ∧ On w wr) (fun v5 _ _ => l.length - (intOf v5).toNat)
  case atStart => exact ⟨0, Nat.zero_le _, rfl, by simp [cF], On.refl _⟩
  case round =>
    obtain ⟨k, hk, rfl, rfl, hB⟩ := hrel
    by_cases hlt : k < l.length
    · obtain ⟨ad, A1, c1, rfl, hx0, hx1, hx2⟩ := (h.on hB).at k (by rw [hl.out]; exact hlt)
      rw [markF_at k0 l k hlt] at hx0 hx1 hx2
      have hcm := Aside0.mk (cF_take_succ l k hlt)
      have hcl := Aside0.mk (cF_take_le l (k + 1))
      obtain ⟨m, hm⟩ : ∃ m : Int, k0 + cF (l.take k) = m := ⟨_, rfl⟩
      have hm' := Aside0.mk hm
      rw [hm] at hx0 hx1 hx2
      have hx2' := Aside0.mk hx2
      replace hx1 : wr.cell? ⟨(ad.add (k * 2)).block, (ad.add (k * 2)).off + 1, none⟩ = some (.slice A1 l[k] c1) := by rw [hx1, markI_len]
      clear hx2 hcl
      have hm0 := Aside0.mk (show 0 ≤ m ∧ m + 1 + l[k] ≤ 10000000 by have := hcm.out; have := cF_take_le l (k + 1); omega)
      have hw1 : IntKind.i64.wrap (m + 1) = m + 1 := by have := hm0.out; rw [IntWalk.i64_in _ (by omega)]
      have hneg : decide (m + 1 + (l[k] : Int) < 0) = false := decide_eq_false (by have := hm0.out; omega)
      rw [hm]
      clear hm
      go_wp2_with (go_at_call 103; refine (heldIntS_calls _ A1 c1 l[k] (m + 1) hx2'.out (by have := hm0.out; omega) (by have := hm0.out; omega)).mono ?_; rintro e w2 ⟨rfl, hb2⟩)
      exact ⟨⟨k + 1, by omega, by go_num, by congr 1; have := hcm.out; have := hm'.out; omega, hB.trans hb2⟩, by simp [intOf]; omega⟩
    · go_wp2
      go_ret
      exact ⟨by show Ending.returned (.int .i64 _) = _; rw [List.take_of_length_le (by omega)], hB⟩
/-- The blocks of an instance. -/
def IB (vr vf : Value) (hs : List Hdr) (b : Nat) : Prop := some b = vr.ownBlock ∨ FB vf hs b
theorem FB.not_rel {w : World} {lo lo2 lo3 : Nat} {vr vf : Value} {hs : List Hdr} {rs : List Rel} {fs : List Fct} (hR : OR w lo3 vr rs) (h : OH w lo2 vf hs) (hS : Sep w lo hs fs) {b : Nat} (hb : vr.ownBlock = some b) : ¬ FB vf hs b := by
  rintro (e | ⟨i, a, ha, e⟩)
  · exact own_ne_blk hR h (by decide) hb e.symm
  · have hi : i < fs.length := by rw [← hS.len]; exact (List.getElem?_eq_some_iff.1 ha).1
    exact own_ne_blk hR (hS.at_ i a fs[i] ha (List.getElem?_eq_getElem hi)).2.1 (by decide) hb e.symm
theorem FB.lt {w : World} {lo lo2 : Nat} {vf : Value} {hs : List Hdr} {fs : List Fct} (h : OH w lo2 vf hs) (hS : Sep w lo hs fs) {b : Nat} (hb : FB vf hs b) : b < w.heap.size := by
  rcases hb with e | ⟨i, a, ha, e⟩
  · exact own_lt h b e.symm
  · exact (hS.lt ha e.symm).2
theorem Sep.ex_row {e lo3 sz n : Nat} {cs : List Value} {W w : World} {lo : Nat} {v : Value} {hs : List Hdr} {fs : List Fct} (h : Sep W lo hs fs) (hv : W.ownsRow lo3 e sz v n cs) (he : 3 ≠ e) (k : Ex (fun b => some b = v.ownBlock) W w) : Sep w lo hs fs :=
  h.ex k fun i a b ha hb e' => by
    have hi : i < fs.length := by rw [← h.len]; exact (List.getElem?_eq_some_iff.1 ha).1
    exact own_ne_blk (h.at_ i a fs[i] ha (List.getElem?_eq_getElem hi)).2.1 hv he hb e'.symm
theorem markInstance_calls (w : World) (lo lo2 lo3 : Nat) (vr vf : Value) (hs : List Hdr) (rs : List Rel) (fs : List Fct) (k0 : Int) (hR : OR w lo3 vr rs) (h : OH w lo2 vf hs) (hS : Sep w lo hs fs) (h0 : 1 ≤ k0) (h1 : k0 + 3 * rs.length + wF fs ≤ 10000000) : Calls Tryz.prog 25 #[.agg #[vr, vf], .int .i64 k0] w fun e w' => e = .returned (.int .i64 (k0 + 3 * rs.length + wF fs)) ∧ (∃ hs', OR w' lo3 vr (markR k0 rs.length) ∧ OH w' lo2 vf hs' ∧ Sep w' lo hs' (markF (k0 + 3 * rs.length) (lens fs)) ∧ ∀ b, FB vf hs' b → FB vf hs b) ∧ Ex (IB vr vf hs) w w' := by
  have hnr : ∀ b, vr.ownBlock = some b → ¬ FB vf hs b := fun b hb => FB.not_rel hR h hS hb
  obtain ⟨A0, c0, rfl⟩ := own_slice hR
  obtain ⟨A1, c1, rfl⟩ := own_slice h
  have hb := Aside0.mk (On.alloc (On.refl w) (.cells #[.slice A0 rs.length c0, .slice A1 hs.length c1] 27))
  have hL := Aside0.mk (loc1 w #[.slice A0 rs.length c0, .slice A1 hs.length c1] 27)
  have hm0 := Aside0.mk h1
  go_enter Tryz.func25, Tryz.ntmps25
  go_wp2_with (first | (go_at_call 68; refine (markRelationS_calls _ lo3 _ rs k0 (pw_own_below hR hb.out) h0 (by omega)).mono ?_; rintro e w1 ⟨rfl, hO, hE⟩; have hO' := Aside0.mk hO; have hE' := Aside0.mk hE; have hc0 := blk_cell ((hE.block w.heap.size (by simp) (fun e => absurd (own_lt hR _ e.symm) (by omega))).trans hL.out.1); clear hO hE) | (go_at_call 69; refine (markFactS_calls w1 lo lo2 _ hs fs (k0 + 3 * rs.length) (own_ex (pw_own_below h hb.out) hE'.out (fun b hb1 e => own_ne_blk h hR (by decide) hb1 e.symm)) (Sep.ex_row (hS.on hb.out) (pw_own_below hR hb.out) (by decide) hE'.out) (by omega) (by omega)).mono ?_; rintro e w2 ⟨rfl, ⟨hs', hO2, hS2, hF2⟩, hE2⟩))
  go_ret
  refine ⟨rfl, ⟨hs', ?_, hO2, hS2, hF2⟩, ((Ex.of_on hb.out).trans hE'.out (fun b _ e => .inl e)).trans hE2 (fun b _ e => .inr e)⟩
  show World.ownsRow _ _ _ _ _ (markR k0 rs.length).length _
  exact own_ex hO'.out hE2 (fun b hb1 => hnr b hb1)
theorem heldInstance_calls (w : World) (A0 c0 A1 c1) (n : Nat) (l : List Nat) (k0 : Int) (h0 : Rels w A0 c0 (markR k0 n)) (h1 : Fcts w A1 c1 (markF (k0 + 3 * n) l)) (hk : 1 ≤ k0) (hm : k0 + 3 * n + cF l ≤ 10000000) : Calls Tryz.prog 27 #[.agg #[.slice A0 n c0, .slice A1 l.length c1], .int .i64 k0] w fun e w' => e = .returned (.int .i64 (k0 + 3 * n + cF l)) ∧ On w w' := by
  have hb := Aside0.mk (On.alloc (On.refl w) (.cells #[.slice A0 n c0, .slice A1 l.length c1] 27))
  have hL := Aside0.mk (loc1 w #[.slice A0 n c0, .slice A1 l.length c1] 27)
  have hn1 : decide (k0 + 3 * (n : Int) < 0) = false := decide_eq_false (by omega)
  have hn2 : decide (k0 + 3 * (n : Int) + (cF l : Int) < 0) = false := decide_eq_false (by omega)
  have hm' := Aside0.mk hm
  clear hm
  go_enter Tryz.func27, Tryz.ntmps27
  go_wp2_with (first | (go_at_call 71; refine (heldRelationS_calls _ A0 c0 n k0 (h0.on hb.out) hk (by have := hm'.out; omega)).mono ?_; rintro e w1 ⟨rfl, hb1⟩; have hc0 := blk_cell (Loc.on hb1 hL.out).1) | (go_at_call 72; refine (heldFactS_calls _ A1 c1 l (k0 + 3 * n) (h1.on (hb.out.trans hb1)) (by omega) hm'.out).mono ?_; rintro e w2 ⟨rfl, hb2⟩))
  go_ret
  exact ⟨rfl, (hb.out.trans hb1).trans hb2⟩
theorem markFact_calls (w : World) (lo : Nat) (v : Value) (f : Fct) (k0 : Int) (h : OI w lo v f.2) (h0 : 0 ≤ k0) (h1 : k0 + f.2.length ≤ 10000000) : Calls Tryz.prog 26 #[.agg #[.int .i64 f.1, v], .int .i64 k0] w fun e w' => e = .returned (.int .i64 (k0 + f.2.length)) ∧ OI w' lo v (markI k0 f.2.length) ∧ Ex (fun b => some b = v.ownBlock) w w' := by
  obtain ⟨A1, c1, rfl⟩ := own_slice h
  have hb := Aside0.mk (On.alloc (On.refl w) (.cells #[.int .i64 f.1, .slice A1 f.2.length c1] 30))
  go_enter Tryz.func26, Tryz.ntmps26
  go_wp2_with (go_at_call 70; refine (markIntS_calls _ lo _ f.2 k0 (pw_own_below h hb.out) h0 h1).mono ?_; rintro e w1 ⟨rfl, hO, hE⟩; have hO' := Aside0.mk hO; have hE' := Aside0.mk hE; clear hO hE)
  go_ret
  exact ⟨rfl, hO'.out, (Ex.of_on hb.out).trans hE'.out (fun _ _ h => h)⟩
end Go.Proofs.YtngjhblbpapjeaaGreat.H
/- The rule for regions that draw their order, where two operations that make memory may come up at once. No condition. -/
namespace Go.Proofs.YtngjhblbpapjeaaGreat.Reg
open Go Go.RowKit
variable {P : Program} {ops : Array Oper} {Q : Exit → Act → World → Prop} {md : Region.Mode}
/-! Two operations that make memory may come up at once: both ways are walked. -/
inductive Tr where
  | leaf (l : List (Nat × K))
  | s (i : Nat) (k : K) (p : Tr)
  | two (i j : Nat) (p q : Tr)
def Tr.len : Tr → Nat
  | .leaf l => l.length
  | .s _ _ p => p.len + 1
  | .two _ _ p _ => p.len + 1
def chkTr (md : Region.Mode) (ops : Array Oper) (tail : List Nat) : Tr → Array Bool → Bool
  | .leaf l, listed => chk md ops tail l listed
  | .s i k p, listed =>
    (match k with
      | .L => (Region.ready md ops listed).contains i && freeC md ops false listed i && tail.all fun j => reach md ops j i
      | .C => (Region.ready md ops listed).contains i && freeC md ops true listed i && tail.all fun j => reach md ops j i
      | .N => Region.ready md ops listed == [i] && busy ops i && !tail.contains i
      | .P => (Region.ready md ops listed).contains i && freeC md ops false listed i)
    && chkTr md ops tail p (listed.setIfInBounds i true)
  | .two i j p q, listed => Region.ready md ops listed == [i, j] && busy ops i && busy ops j && p.len == q.len && chkTr md ops tail p (listed.setIfInBounds i true) && chkTr md ops tail q (listed.setIfInBounds j true)
def wpTr (P : Program) (ops : Array Oper) (Q : Exit → Act → World → Prop) (tail : List Nat) : Tr → Act → World → Prop
  | .leaf l, a, W => wpOrd P ops Q tail l a W
  | .s i k p, a, W =>
    match ops[i]? with
    | none => False
    | some o =>
      if Region.wanted o (yielded ops a.tmps) then
        (match k with
          | .L => ∃ v, (∀ w, On W w → (execOp a.eval o).run P w = .ok (.value v) w) ∧ wpTr P ops Q tail p (a.put o.dst v) W
          | .C => ∃ v, (∀ w, On W w → nAt P o a w fun u w' => u = v ∧ On W w') ∧ wpTr P ops Q tail p (a.put o.dst v) W
          | .N => ∀ w, On W w → wpList P ops (Exit.then (fun a' w' => On W w' ∧ wpTr P ops Q tail p a' w') Q) [o] a w
          | .P => ∃ v, (∀ w, (execOp a.eval o).run P w = .ok (.value v) w) ∧ wpTr P ops Q tail p (a.put o.dst v) W)
      else wpTr P ops Q tail p (a.put o.dst undef) W
  | .two i j p q, a, W =>
    (match ops[i]? with
      | none => False
      | some o => Region.wanted o (yielded ops a.tmps) = true ∧ ∀ w, On W w → wpList P ops (Exit.then (fun a' w' => On W w' ∧ wpTr P ops Q tail p a' w') Q) [o] a w) ∧
    (match ops[j]? with
      | none => False
      | some o => Region.wanted o (yielded ops a.tmps) = true ∧ ∀ w, On W w → wpList P ops (Exit.then (fun a' w' => On W w' ∧ wpTr P ops Q tail q a' w') Q) [o] a w)
theorem wpT_of_tr (hs : Region.noSelect ops = true) (hQ : Plain Q) (tail : List Nat) : ∀ (t : Tr) (listed : Array Bool) (a : Act) (W : World), closed md ops listed → chkTr md ops tail t listed = true → wpTr P ops Q tail t a W → wpT P md ops Q (fun j => tail.contains j) (t.len + tail.length) listed a (On W)
  | .leaf l, listed, a, W, hclosed, hc, h => wpT_of_ord hs hQ tail l listed a W hclosed hc h
  | .two i j p q, listed, a, W, hclosed, hc, h => by
    simp only [chkTr, Bool.and_eq_true, beq_iff_eq] at hc
    obtain ⟨⟨⟨⟨⟨hr, hbi⟩, hbj⟩, hlen⟩, hp⟩, hq⟩ := hc
    simp only [wpTr] at h
    obtain ⟨h1, h2⟩ := h
    have hl : (Tr.two i j p q).len + tail.length = (p.len + tail.length) + 1 := by simp only [Tr.len]; omega
    rw [hl]
    refine ⟨fun h0 => (by rw [hr] at h0; cases h0), fun x hx => ?_⟩
    have hx' := hx
    rw [hr] at hx
    rcases List.mem_cons.1 hx with rfl | hx
    · cases hi : ops[x]? with
      | none => simp only [hi] at h1
      | some o =>
        simp only [hi] at h1
        simp only [busy, hi, Bool.not_eq_true'] at hbi
        unfold stepT
        simp only [hi]
        rw [if_pos h1.1]
        exact .inr (.inr ⟨.inl hbi, fun w hS => wpOp_mono (fun a' w' ⟨hon, hh⟩ => ⟨On w', Below.refl _ _, fun _ w'' hw'' => hon.trans hw'', wpT_of_tr hs hQ tail p _ _ _ (hclosed.set hx') hp hh⟩) (wpOp_of_one hi (h1.2 w hS))⟩)
    · obtain rfl := List.mem_singleton.1 hx
      cases hi : ops[x]? with
      | none => simp only [hi] at h2
      | some o =>
        simp only [hi] at h2
        simp only [busy, hi, Bool.not_eq_true'] at hbj
        unfold stepT
        simp only [hi]
        rw [if_pos h2.1, hlen]
        exact .inr (.inr ⟨.inl hbj, fun w hS => wpOp_mono (fun a' w' ⟨hon, hh⟩ => ⟨On w', Below.refl _ _, fun _ w'' hw'' => hon.trans hw'', wpT_of_tr hs hQ tail q _ _ _ (hclosed.set hx') hq hh⟩) (wpOp_of_one hi (h2.2 w hS))⟩)
  | .s i k p, listed, a, W, hclosed, hc, h => by
    simp only [chkTr, Bool.and_eq_true] at hc
    obtain ⟨hk, hl⟩ := hc
    simp only [wpTr] at h
    cases hi : ops[i]? with
    | none => simp only [hi] at h
    | some o =>
      simp only [hi] at h
      have hri : i ∈ Region.ready md ops listed := by
        cases k <;> simp only [Bool.and_eq_true, beq_iff_eq] at hk
        · simpa using hk.1.1
        · simpa using hk.1.1
        · rw [hk.1.1]; exact List.mem_singleton.2 rfl
        · simpa using hk.1
      have ih := fun a W h => wpT_of_tr hs hQ tail p (listed.setIfInBounds i true) a W (hclosed.set hri) hl h
      have sel := Region.noSelect_spec hs
      have hlen : (Tr.s i k p).len + tail.length = (p.len + tail.length) + 1 := by simp only [Tr.len]; omega
      rw [hlen]
      have hreach : k ≠ .N → k ≠ .P → ∀ j, (tail.contains j) = true → reach md ops j i = true := by
        intro hkn hkp j hj
        have hj' : j ∈ tail := by simpa using hj
        cases k <;> simp only [Bool.and_eq_true, List.all_eq_true] at hk
        · exact hk.2 j hj'
        · exact hk.2 j hj'
        · exact absurd rfl hkn
        · exact absurd rfl hkp
      by_cases hw : Region.wanted o (yielded ops a.tmps) = true
      · rw [if_pos hw] at h
        cases k with
        | L =>
          simp only [Bool.and_eq_true] at hk
          obtain ⟨v, h1, h2⟩ := h
          exact wpT_first (c := false) hQ hi sel (hreach (by simp) (by simp)) _ listed a _ hclosed (fun j oj hj hne hun hno => freeC_spec hi hk.1.2 j oj hj hne hun hno) hri (.inl ⟨hw, fun w hS => by simpa using h1 w hS⟩) (ih _ _ h2)
        | C =>
          simp only [Bool.and_eq_true] at hk
          obtain ⟨v, h1, h2⟩ := h
          exact wpT_first (c := true) hQ hi sel (hreach (by simp) (by simp)) _ listed a _ hclosed (fun j oj hj hne hun hno => freeC_spec hi hk.1.2 j oj hj hne hun hno) hri (.inl ⟨hw, fun w hS => by simpa using h1 w hS⟩) (ih _ _ h2)
        | N =>
          simp only [Bool.and_eq_true, beq_iff_eq, busy, hi, Bool.not_eq_true'] at hk
          refine ⟨fun h0 => (by rw [hk.1.1] at h0; cases h0), fun j hj => ?_⟩
          rw [hk.1.1] at hj
          obtain rfl := List.mem_singleton.1 hj
          unfold stepT
          simp only [hi]
          rw [if_pos hw]
          exact .inr (.inr ⟨.inl hk.1.2, fun w hS => wpOp_mono (fun a' w' ⟨hon, hh⟩ => ⟨On w', Below.refl _ _, fun _ w'' hw'' => hon.trans hw'', ih _ _ hh⟩) (wpOp_of_one hi (h w hS))⟩)
        | P =>
          simp only [Bool.and_eq_true] at hk
          obtain ⟨v, h1, h2⟩ := h
          exact wpT_firstP hQ hi sel _ listed a _ hclosed (fun j oj hj hne hun hno => (freeC_spec hi hk.2 j oj hj hne hun hno).1) hri (.inl ⟨hw, fun w _ => by simpa using h1 w⟩) (ih _ _ h2)
      · rw [if_neg hw] at h
        have hw' : Region.wanted o (yielded ops a.tmps) = false := by simpa using hw
        cases k with
        | P =>
          simp only [Bool.and_eq_true] at hk
          exact wpT_firstP hQ hi sel _ listed a _ hclosed (fun j oj hj hne hun hno => (freeC_spec hi hk.2 j oj hj hne hun hno).1) hri (.inr ⟨hw', rfl⟩) (ih _ _ h)
        | L =>
          simp only [Bool.and_eq_true] at hk
          exact wpT_first (c := false) hQ hi sel (hreach (by simp) (by simp)) _ listed a _ hclosed (fun j oj hj hne hun hno => ⟨(freeC_spec hi hk.1.2 j oj hj hne hun hno).1, fun h => by cases h⟩) hri (.inr ⟨hw', rfl⟩) (ih _ _ h)
        | C =>
          simp only [Bool.and_eq_true] at hk
          exact wpT_first (c := false) hQ hi sel (hreach (by simp) (by simp)) _ listed a _ hclosed (fun j oj hj hne hun hno => ⟨(freeC_spec hi hk.1.2 j oj hj hne hun hno).1, fun h => by cases h⟩) hri (.inr ⟨hw', rfl⟩) (ih _ _ h)
        | N =>
          simp only [Bool.and_eq_true, beq_iff_eq, busy, hi, Bool.not_eq_true'] at hk
          refine ⟨fun h0 => (by rw [hk.1.1] at h0; cases h0), fun j hj => ?_⟩
          rw [hk.1.1] at hj
          obtain rfl := List.mem_singleton.1 hj
          unfold stepT
          simp only [hi]
          rw [if_neg hw]
          exact ih _ _ h
/-- The tree, shut. -/
structure OrdT (P : Program) (ops : Array Oper) (Q : Exit → Act → World → Prop) (tail : List Nat) (t : Tr) (a : Act) (W : World) : Prop where mk :: (out : wpTr P ops Q tail t a W)
/-- The rule with a tree; what follows stands behind what the region comes to (M). -/
theorem regionT {id : Nat} {a : Act} {w : World} (t : Tr) (tail : List Nat) (M : Act → World → Prop) (hm : P.follows .mixedOrders = true) (hc : (Region.noSelect ops && (t.len + tail.length == ops.size) && chkTr .any ops tail t (Array.replicate ops.size false)) = true)
    (h : OrdT P ops (fun x a w => x = .normal ∧ M a w) tail t a w) (k : ∀ a' w', M a' w' → Q .normal a' w') : (Code.region id ops true).wp P Q a w := by
  simp only [Bool.and_eq_true, beq_iff_eq] at hc
  refine Code.wp_mono (Q := fun x a w => x = .normal ∧ M a w) (fun e a w hx => by obtain ⟨rfl, hM⟩ := hx; exact k _ _ hM) ?_
  refine wp_region_any hm (wpAny_of_wpT (cl := fun j => tail.contains j) _ _ _ (On w) _ (region.below_drew' w) ?_)
  rw [← hc.1.2]
  exact wpT_of_tr hc.1.1 (fun c a d v w h => by obtain ⟨h, _⟩ := h; cases h) tail t _ a w (closed.start _) (by rw [hc.1.2]; exact hc.2) h.out
/-- The same; what the region comes to is told with the state ahead of it. -/
theorem regionM {id : Nat} {a : Act} {w : World} (t : Tr) (tail : List Nat) (M : Act → Act → World → Prop) (hm : P.follows .mixedOrders = true) (hc : (Region.noSelect ops && (t.len + tail.length == ops.size) && chkTr .any ops tail t (Array.replicate ops.size false)) = true)
    (h : OrdT P ops (fun x a' w => x = .normal ∧ M a a' w) tail t a w) (k : ∀ a' w', M a a' w' → Q .normal a' w') : (Code.region id ops true).wp P Q a w := regionT t tail (M a) hm hc h k
/-! The moves over a tree. -/
section
variable {i j : Nat} {tail : List Nat} {p q : Tr} {a : Act} {W : World} {o : Oper} {N : Tmp}
theorem tLeaf {l : List (Nat × K)} (h : Ord P ops Q tail l a W) : OrdT P ops Q tail (.leaf l) a W := ⟨h.out⟩
theorem tL {v : Value} (hy : ∀ w, On W w → (execOp a.eval o).run P w = .ok (.value v) w) (h : OrdT P ops Q tail p (a.put (some N) v) W) (hi : ops[i]? = some o) (hN : o.dst = some N)
    (hw : Region.wanted o (yielded ops a.tmps) = true) : OrdT P ops Q tail (.s i .L p) a W := by
  refine ⟨?_⟩
  simp only [wpTr, hi]
  rw [if_pos hw]
  exact ⟨v, hy, hN ▸ h.out⟩
theorem tTwo {o' : Oper} (h : ∀ w, On W w → wpList P ops (Exit.then (fun a' w' => On W w' ∧ OrdT P ops Q tail p a' w') Q) [o] a w) (h' : ∀ w, On W w → wpList P ops (Exit.then (fun a' w' => On W w' ∧ OrdT P ops Q tail q a' w') Q) [o'] a w)
    (hi : ops[i]? = some o) (hj : ops[j]? = some o') (hw : Region.wanted o (yielded ops a.tmps) = true) (hw' : Region.wanted o' (yielded ops a.tmps) = true) : OrdT P ops Q tail (.two i j p q) a W := by
  refine ⟨?_⟩
  simp only [wpTr, hi, hj]
  exact ⟨⟨hw, fun w hS => wpList_mono_normal (fun a w ⟨h1, h2⟩ => ⟨h1, h2.out⟩) (h w hS)⟩, ⟨hw', fun w hS => wpList_mono_normal (fun a w ⟨h1, h2⟩ => ⟨h1, h2.out⟩) (h' w hS)⟩⟩
end
end Go.Proofs.YtngjhblbpapjeaaGreat.Reg
namespace Go.Proofs.YtngjhblbpapjeaaGreat.H
open Go Go.RowKit Go.Proofs.YtngjhblbpapjeaaGreatW.PrintWords Go.Proofs.YtngjhblbpapjeaaGreatW.PrintLast
open Go.Proofs.YtngjhblbpapjeaaGreat.Reg (On on_draw)
section
variable {P : Program} {ops : Array Oper} {Q : Exit → Act → World → Prop} {i j : Nat} {tail : List Nat} {p q : Reg.Tr} {a a' : Act} {W : World} {o o' : Oper} {N : Tmp}
theorem tL {v : Value} (h : Reg.OrdT P ops Q tail p a' W) (hi : ops[i]? = some o := by rfl) (hN : o.dst = some N := by rfl) (hw : Region.wanted o (yielded ops a.tmps) = true := by rfl)
    (hy : ∀ w, On W w → (execOp a.eval o).run P w = .ok (.value v) w := by intro w' hS; have hA := Reg.On.eq hS; clear hS; (go_simp; first | done | rfl))
    (ha : a.put (some N) v = a' := by simp only [Act.put, List.setIfInBounds_toArray, List.set_cons_zero, List.set_cons_succ]; rfl) : Reg.OrdT P ops Q tail (.s i .L p) a W := Reg.tL hy (ha ▸ h) hi hN hw
theorem tTwo (h : ∀ w, On W w → wpList P ops (Exit.then (fun a' w' => On W w' ∧ Reg.OrdT P ops Q tail p a' w') Q) [o] a w) (h' : ∀ w, On W w → wpList P ops (Exit.then (fun a' w' => On W w' ∧ Reg.OrdT P ops Q tail q a' w') Q) [o'] a w)
    (hi : ops[i]? = some o := by rfl) (hj : ops[j]? = some o' := by rfl) (hw : Region.wanted o (yielded ops a.tmps) = true := by rfl) (hw' : Region.wanted o' (yielded ops a.tmps) = true := by rfl) : Reg.OrdT P ops Q tail (.two i j p q) a W := Reg.tTwo h h' hi hj hw hw'
end
end Go.Proofs.YtngjhblbpapjeaaGreat.H
/- The laws' own functions, told alike for each kind of datum. No condition. -/
namespace Go.Proofs.YtngjhblbpapjeaaGreat.H
open Go Go.RowKit Go.Proofs.YtngjhblbpapjeaaGreatW.PrintWords Go.Proofs.YtngjhblbpapjeaaGreatW.PrintLast
open Go.Proofs.YtngjhblbpapjeaaGreat.Reg (On on_draw)
set_option maxHeartbeats 1000000
set_option maxRecDepth 100000
set_option linter.unusedVariables false
set_option linter.unusedSimpArgs false

/-- A call of a plain function, met in line. -/
theorem goesF {ops : Array Oper} {rest : List Oper} {o : Oper} {a : Act} {Q : Exit → Act → World → Prop} {w : World} (N : Tmp) {f : FuncId} {fn : Func} {xs : Array Operand} {ts : Array TypeId} {args : Array Value} (hf : Tryz.prog.funcs[f]? = some fn)
    (h : Calls Tryz.prog f args w fun e w' => ∃ v, e = .returned v ∧ wpList Tryz.prog ops Q rest (a.put (some N) v) w') (hname : (fn.name == "runtime.NumGoroutine") = false := by kernel_rfl) (hb : fn.body.isSome = true := by rfl)
    (hop : o.op = .call { callee := .value (.func f), args := xs, argTypes := ts } := by rfl) (hargs : xs.map a.eval = args := by (try simp only [List.map_toArray, List.map_cons, List.map_nil]); rfl)
    (hd : o.dst = some N := by rfl) (hg : o.guard = none := by rfl) : wpList Tryz.prog ops Q (o :: rest) a w := by
  refine wpList_plain hg fun K hK => ?_
  have he := enters_ hf hname hb args w
  have hrun : (execOp a.eval o).run Tryz.prog w = .ok (.enter f args) w := by
    unfold execOp
    simp [hop, resolve, Deferred.ofValue, invoke, Act.eval, hargs, he]
  unfold Oper.wp
  rw [hrun, Oper.upon_enter]
  refine h.mono fun e w'' hh => ?_
  obtain ⟨v, rfl, hk⟩ := hh
  rw [← hd] at hk
  exact hK _ _ hk
theorem inW {P : Program} {f : FuncId} {args : Array Value} (w : World) {Q : Ending → World → Prop} (h : Calls P f args w Q) : Calls P f args w Q := h
theorem OIn.ex {S : Nat → Prop} {W w : World} {lo : Nat} {v : Value} {rs : List Rel} {fs : List Fct} (h : OIn W lo v rs fs) (k : Ex S W w) (hS : ∀ b, S b → b < lo) : OIn w lo v rs fs := by
  obtain ⟨vr, vf, hs, e, hR, hH, hSp⟩ := h.out
  refine ⟨vr, vf, hs, e, own_ex hR k (fun i hi h => ?_), own_ex hH k (fun i hi h => ?_), hSp.ex k (fun i a b ha hb h => ?_)⟩
  · have := own_base hR i hi; have := hS _ h; omega
  · have := own_base hH i hi; have := hS _ h; omega
  · have := (hSp.lt ha hb).1; have := hS _ h; omega
theorem RIn.shape {w : World} {v : Value} {rs : List Rel} {fs : List Fct} (h : RIn w v rs fs) : ∃ A n c B m d, v = .agg #[.slice A n c, .slice B m d] := by
  obtain ⟨A0, c0, A1, c1, e, _⟩ := h.out
  exact ⟨_, _, _, _, _, _, e⟩
theorem RIn.parts {w : World} {A B : Option Addr} {n c m d : Nat} {rs : List Rel} {fs : List Fct} (h : RIn w (.agg #[.slice A n c, .slice B m d]) rs fs) : n = rs.length ∧ m = fs.length ∧ Rels w A c rs ∧ Fcts w B d fs := by
  obtain ⟨A0, c0, A1, c1, e, h0, h1⟩ := h.out
  injection e with e
  have e' := congrArg Array.toList e
  simp only [List.cons.injEq, Value.slice.injEq, and_true] at e'
  obtain ⟨⟨rfl, rfl, rfl⟩, rfl, rfl, rfl⟩ := e'
  exact ⟨rfl, rfl, h0, h1⟩
/-- What an instance weighs, for the marks. -/
def mkI (rs : List Rel) (fs : List Fct) : Nat := 3 * rs.length + wF fs
theorem mkI_le (rs : List Rel) (fs : List Fct) : mkI rs fs ≤ 3 * (wR rs + wF fs) := by
  have h1 : rs.length ≤ wR rs := by
    unfold wR
    induction rs with
    | nil => simp
    | cons g rs ih => simp at ih ⊢; omega
  unfold mkI; omega
theorem wF_sub {l fs : List Fct} (h : l.Sublist fs) : wF l ≤ wF fs := by
  unfold wF
  induction h with
  | slnil => simp
  | cons a _ ih => simp at ih ⊢; omega
  | cons_cons a _ ih => simp at ih ⊢; omega
theorem wF_small (fs : List Fct) (h : ∀ f ∈ fs, f.2.length ≤ 3) : wF fs ≤ 4 * fs.length := by
  unfold wF
  induction fs with
  | nil => simp
  | cons f fs ih =>
    have h1 := h f List.mem_cons_self
    have h2 := ih (fun g hg => h g (List.mem_cons_of_mem _ hg))
    simp at h2 ⊢; omega
theorem szI_calls (w : World) (v : Value) (rs : List Rel) (fs : List Fct) (n : Int) (h0 : 0 ≤ n) (h1 : n ≤ 2000000) (h : RIn w v rs fs) (hsz : ∀ r ∈ rs, r.1.size ≤ 9223372036854775807) : Calls Tryz.prog 19 #[v, .int .i64 n] w (Sz n (wR rs + wF fs) w) := by
  obtain ⟨A0, c0, A1, c1, rfl, hr, hf⟩ := h.out
  exact szInstance_calls w A0 c0 A1 c1 rs fs n h0 h1 hr hf hsz
theorem toI_calls (w : World) (v : Value) (rs : List Rel) (fs : List Fct) (h : RIn w v rs fs) (hl : wR rs + wF fs ≤ 1048576) : Calls Tryz.prog 21 #[v] w (Got fun v w' => OIn w' w.heap.size v rs fs ∧ On w w') := by
  obtain ⟨A0, c0, A1, c1, rfl, hr, hf⟩ := h.out
  have h1 : rs.length ≤ wR rs := by
    unfold wR
    clear hr h hl
    induction rs with
    | nil => simp
    | cons g rs ih => simp at ih ⊢; omega
  have h2 := wF_len fs
  refine toInstance_calls w A0 c0 A1 c1 rs fs hr hf (by omega) (by omega) (fun f hm => ?_)
  have : f.2.length ≤ wF fs := by
    clear hf h hl h2
    unfold wF
    induction fs with
    | nil => cases hm
    | cons g fs ih =>
      rcases List.mem_cons.1 hm with rfl | hm
      · simp; omega
      · have := ih hm; simp at this ⊢; omega
  omega
theorem eqI_calls (w : World) (v u : Value) (rs : List Rel) (fs : List Fct) (h : RIn w v rs fs) (k : RIn w u rs fs) : Calls Tryz.prog 23 #[v, u] w fun e w' => e = .returned (.bool true) ∧ On w w' := by
  obtain ⟨A0, c0, A1, c1, rfl, h0, h1⟩ := h.out
  obtain ⟨B0, d0, B1, d1, rfl, k0, k1⟩ := k.out
  exact eqInstance_calls w A0 c0 A1 c1 B0 d0 B1 d1 rs fs h0 h1 k0 k1
/-- An instance of one's own whose blocks lie in a range. -/
structure OIb (w : World) (lo hi : Nat) (v : Value) (rs : List Rel) (fs : List Fct) : Prop where mk :: (out : ∃ vr vf hs, v = .agg #[vr, vf] ∧ OR w lo vr rs ∧ OH w lo vf hs ∧ Sep w lo hs fs ∧ ∀ b, IB vr vf hs b → b < hi)
theorem OIn.b {w : World} {lo : Nat} {v : Value} {rs : List Rel} {fs : List Fct} (h : OIn w lo v rs fs) : OIb w lo w.heap.size v rs fs := by
  obtain ⟨vr, vf, hs, e, hR, hH, hS⟩ := h.out
  refine ⟨vr, vf, hs, e, hR, hH, hS, fun b hb => ?_⟩
  rcases hb with e | e | ⟨i, a, ha, e⟩
  · exact own_lt hR b e.symm
  · exact own_lt hH b e.symm
  · exact (hS.lt ha e.symm).2
theorem OIb.n {w : World} {lo hi : Nat} {v : Value} {rs : List Rel} {fs : List Fct} (h : OIb w lo hi v rs fs) : OIn w lo v rs fs := by
  obtain ⟨vr, vf, hs, e, hR, hH, hS, _⟩ := h.out
  exact ⟨vr, vf, hs, e, hR, hH, hS⟩
theorem OIb.read {w : World} {lo hi : Nat} {v : Value} {rs : List Rel} {fs : List Fct} (h : OIb w lo hi v rs fs) : RIn w v rs fs := h.n.read
theorem OIb.on {W w : World} {lo hi : Nat} {v : Value} {rs : List Rel} {fs : List Fct} (h : OIb W lo hi v rs fs) (hb : On W w) : OIb w lo hi v rs fs := by
  obtain ⟨vr, vf, hs, e, hR, hH, hS, hh⟩ := h.out
  exact ⟨vr, vf, hs, e, pw_own_below hR hb, pw_own_below hH hb, hS.on hb, hh⟩
theorem OIb.ex {S : Nat → Prop} {W w : World} {lo hi : Nat} {v : Value} {rs : List Rel} {fs : List Fct} (h : OIb W lo hi v rs fs) (k : Ex S W w) (hS : ∀ b, lo ≤ b → b < hi → ¬ S b) : OIb w lo hi v rs fs := by
  obtain ⟨vr, vf, hs, e, hR, hH, hSp, hh⟩ := h.out
  exact ⟨vr, vf, hs, e, own_ex hR k (fun i hi h => hS i (own_base hR i hi) (hh i (.inl hi.symm)) h), own_ex hH k (fun i hi h => hS i (own_base hH i hi) (hh i (.inr (.inl hi.symm))) h), hSp.ex k (fun i a b ha hb h => hS b (hSp.lt ha hb).1 (hh b (.inr (.inr ⟨i, a, ha, hb.symm⟩))) h), hh⟩
theorem OIb.set {W : World} {lo hi g j : Nat} {v u : Value} {rs : List Rel} {fs : List Fct} (h : OIb W lo hi v rs fs) (hg : g < lo ∨ hi ≤ g) : OIb (W.setCell ⟨g, j, none⟩ u) lo hi v rs fs :=
  h.ex (Ex.set W ⟨g, j, none⟩ u) (fun b h1 h2 h3 => by have h4 : b = g := h3; omega)
theorem mkI_calls (w : World) (lo hi : Nat) (v : Value) (rs : List Rel) (fs : List Fct) (k0 : Int) (h : OIb w lo hi v rs fs) (h0 : 1 ≤ k0) (h1 : k0 + mkI rs fs ≤ 10000000) : Calls Tryz.prog 25 #[v, .int .i64 k0] w fun e w' => e = .returned (.int .i64 (k0 + mkI rs fs)) ∧ OIb w' lo hi v (markR k0 rs.length) (markF (k0 + 3 * rs.length) (lens fs)) ∧ Ex (fun b => lo ≤ b ∧ b < hi) w w' := by
  obtain ⟨vr, vf, hs, rfl, hR, hH, hS, hh⟩ := h.out
  unfold mkI at h1 ⊢
  refine (markInstance_calls w lo lo lo vr vf hs rs fs k0 hR hH hS h0 (by omega)).mono fun e w' hq => ?_
  obtain ⟨he, ⟨hs', hR', hH', hS', hF'⟩, hE⟩ := hq
  refine ⟨by rw [he]; congr 2; omega, ⟨vr, vf, hs', rfl, hR', hH', hS', fun b hb => hh b (hb.imp id (hF' b))⟩, hE.mono fun b hb => ⟨?_, hh b hb⟩⟩
  rcases hb with e | e | ⟨i, a, ha, e⟩
  · exact own_base hR b e.symm
  · exact own_base hH b e.symm
  · exact (hS.lt ha e.symm).1
theorem hdI_calls (w : World) (v : Value) (rs : List Rel) (fs : List Fct) (k0 : Int) (h : RIn w v (markR k0 rs.length) (markF (k0 + 3 * rs.length) (lens fs))) (h0 : 1 ≤ k0) (h1 : k0 + mkI rs fs ≤ 10000000) : Calls Tryz.prog 27 #[v, .int .i64 k0] w fun e w' => e = .returned (.int .i64 (k0 + mkI rs fs)) ∧ On w w' := by
  obtain ⟨A0, c0, A1, c1, rfl, hr, hf⟩ := h.out
  unfold mkI at h1 ⊢
  have hlr : (markR k0 rs.length).length = rs.length := by simp [markR_len]
  have hlf : (markF (k0 + 3 * rs.length) (lens fs)).length = (lens fs).length := markF_len _ _
  rw [hlr, hlf]
  refine (heldInstance_calls w A0 c0 A1 c1 rs.length (lens fs) k0 hr hf h0 (by rw [cF_lens]; omega)).mono fun e w' hh => ?_
  exact ⟨by rw [hh.1, cF_lens]; congr 2; omega, hh.2⟩
/-- One fact. -/
structure RFa (w : World) (v : Value) (f : Fct) : Prop where mk :: (out : ∃ A c, v = .agg #[.int .i64 f.1, .slice A f.2.length c] ∧ Ints w A c f.2)
structure OFa (w : World) (lo : Nat) (v : Value) (f : Fct) : Prop where mk :: (out : ∃ v1, v = .agg #[.int .i64 f.1, v1] ∧ OI w lo v1 f.2 ∧ InR f.2)
theorem RFa.on {W w : World} {v : Value} {f : Fct} (h : RFa W v f) (hb : On W w) : RFa w v f := by
  obtain ⟨A, c, e, h0⟩ := h.out
  exact ⟨A, c, e, h0.on hb⟩
theorem OFa.on {W w : World} {lo : Nat} {v : Value} {f : Fct} (h : OFa W lo v f) (hb : On W w) : OFa w lo v f := by
  obtain ⟨v1, e, h0, h1⟩ := h.out
  exact ⟨v1, e, pw_own_below h0 hb, h1⟩
theorem OFa.read {w : World} {lo : Nat} {v : Value} {f : Fct} (h : OFa w lo v f) : RFa w v f := by
  obtain ⟨v1, e, h0, h1⟩ := h.out
  obtain ⟨A, c, rfl, h2⟩ := OI.rd h0 h1
  exact ⟨A, c, e, h2⟩
theorem OFa.ex {S : Nat → Prop} {W w : World} {lo : Nat} {v : Value} {f : Fct} (h : OFa W lo v f) (k : Ex S W w) (hS : ∀ b, S b → b < lo) : OFa w lo v f := by
  obtain ⟨v1, e, h0, h1⟩ := h.out
  refine ⟨v1, e, own_ex h0 k (fun i hi h => ?_), h1⟩
  have := own_base h0 i hi; have := hS _ h; omega
theorem OFa.ex' {S : Nat → Prop} {W w : World} {lo : Nat} {v : Value} {f : Fct} (h : OFa W lo v f) (k : Ex S W w) (hS : ∀ b, S b → b < lo ∨ W.heap.size ≤ b) : OFa w lo v f := by
  obtain ⟨v1, e, h0, h1⟩ := h.out
  refine ⟨v1, e, own_ex h0 k (fun i hi h => ?_), h1⟩
  have := own_base h0 i hi; have := own_lt h0 i hi; have := hS _ h; omega
theorem RFa.shape {w : World} {v : Value} {f : Fct} (h : RFa w v f) : ∃ r A n c, v = .agg #[.int .i64 r, .slice A n c] := by
  obtain ⟨A, c, e, _⟩ := h.out
  exact ⟨_, _, _, _, e⟩
theorem RFa.parts {w : World} {r : Int} {A : Option Addr} {n c : Nat} {f : Fct} (h : RFa w (.agg #[.int .i64 r, .slice A n c]) f) : r = f.1 ∧ n = f.2.length ∧ Ints w A c f.2 := by
  obtain ⟨A0, c0, e, h0⟩ := h.out
  injection e with e
  have e' := congrArg Array.toList e
  simp only [List.cons.injEq, Value.slice.injEq, Value.int.injEq, and_true, true_and] at e'
  obtain ⟨rfl, rfl, rfl, rfl⟩ := e'
  exact ⟨rfl, rfl, h0⟩
theorem szF_calls (w : World) (v : Value) (f : Fct) (n : Int) (h0 : 0 ≤ n) (h1 : n ≤ 2000000) (h : RFa w v f) : Calls Tryz.prog 20 #[v, .int .i64 n] w (Sz n f.2.length w) := by
  obtain ⟨A, c, rfl, hr⟩ := h.out
  exact szFact_calls w A c f n h0 h1 hr
theorem toF_calls (w : World) (v : Value) (f : Fct) (h : RFa w v f) (hl : f.2.length ≤ 1048576) : Calls Tryz.prog 22 #[v] w (Got fun v w' => OFa w' w.heap.size v f ∧ On w w') := by
  obtain ⟨A, c, rfl, hr⟩ := h.out
  refine (toFact_calls w A c f hr (by omega)).mono fun e w' hh => ?_
  obtain ⟨v, rfl, v1, rfl, hO, hb⟩ := hh
  exact ⟨_, rfl, ⟨v1, rfl, hO, hr.2.2⟩, hb⟩
theorem eqF_calls (w : World) (v u : Value) (f : Fct) (h : RFa w v f) (k : RFa w u f) : Calls Tryz.prog 24 #[v, u] w fun e w' => e = .returned (.bool true) ∧ On w w' := by
  obtain ⟨A, c, rfl, h0⟩ := h.out
  obtain ⟨B, d, rfl, k0⟩ := k.out
  exact eqFact_calls w A c B d f h0 k0
/-- One fact of one's own whose block lies in a range. -/
structure OFb (w : World) (lo hi : Nat) (v : Value) (f : Fct) : Prop where mk :: (out : ∃ v1, v = .agg #[.int .i64 f.1, v1] ∧ OI w lo v1 f.2 ∧ InR f.2 ∧ ∀ b, v1.ownBlock = some b → b < hi)
theorem OFa.b {w : World} {lo : Nat} {v : Value} {f : Fct} (h : OFa w lo v f) : OFb w lo w.heap.size v f := by
  obtain ⟨v1, e, h0, h1⟩ := h.out
  exact ⟨v1, e, h0, h1, fun b hb => own_lt h0 b hb⟩
theorem OFb.read {w : World} {lo hi : Nat} {v : Value} {f : Fct} (h : OFb w lo hi v f) : RFa w v f := by
  obtain ⟨v1, e, h0, h1, _⟩ := h.out
  obtain ⟨A, c, rfl, h2⟩ := OI.rd h0 h1
  exact ⟨A, c, e, h2⟩
theorem OFb.on {W w : World} {lo hi : Nat} {v : Value} {f : Fct} (h : OFb W lo hi v f) (hb : On W w) : OFb w lo hi v f := by
  obtain ⟨v1, e, h0, h1, h2⟩ := h.out
  exact ⟨v1, e, pw_own_below h0 hb, h1, h2⟩
theorem OFb.ex {S : Nat → Prop} {W w : World} {lo hi : Nat} {v : Value} {f : Fct} (h : OFb W lo hi v f) (k : Ex S W w) (hS : ∀ b, lo ≤ b → b < hi → ¬ S b) : OFb w lo hi v f := by
  obtain ⟨v1, e, h0, h1, h2⟩ := h.out
  exact ⟨v1, e, own_ex h0 k (fun i hi h => hS i (own_base h0 i hi) (h2 i hi) h), h1, h2⟩
theorem mkF_calls (w : World) (lo hi : Nat) (v : Value) (f : Fct) (k0 : Int) (h : OFb w lo hi v f) (h0 : 1 ≤ k0) (h1 : k0 + f.2.length ≤ 10000000) : Calls Tryz.prog 26 #[v, .int .i64 k0] w fun e w' => e = .returned (.int .i64 (k0 + f.2.length)) ∧ Ex (fun b => lo ≤ b ∧ b < hi) w w' := by
  obtain ⟨v1, rfl, hO, hR, hh⟩ := h.out
  refine (markFact_calls w lo v1 f k0 hO (by omega) h1).mono fun e w' hq => ⟨hq.1, hq.2.2.mono fun b hb => ?_⟩
  exact ⟨own_base hO b hb.symm, hh b hb.symm⟩
end Go.Proofs.YtngjhblbpapjeaaGreat.H
/- The rule for regions that draw their order, where reads may come up at any time, behind stores too: what they read is told by a predicate G that holds all along. No condition. -/
namespace Go.Proofs.YtngjhblbpapjeaaGreat.Reg
open Go Go.RowKit
variable {P : Program} {ops : Array Oper} {Q : Exit → Act → World → Prop} {md : Region.Mode}
def wpF (P : Program) (md : Region.Mode) (ops : Array Oper) (Q : Exit → Act → World → Prop) (cl : Nat → Bool) (G : World → Prop) : Nat → Array Bool → Act → (World → Prop) → Prop
  | 0, listed, a, S => (∀ w, S w → G w) ∧ Region.ready md ops listed = [] ∧ ∀ w, S w → Q .normal a w
  | fuel + 1, listed, a, S => (∀ w, S w → G w) ∧
    (Region.ready md ops listed = [] → ∀ w, S w → Q .normal a w) ∧
    ∀ i ∈ Region.ready md ops listed, stepT P ops Q cl (wpF P md ops Q cl G fuel (listed.setIfInBounds i true)) i a S
theorem wpF_G {cl : Nat → Bool} {G : World → Prop} {fuel : Nat} {listed : Array Bool} {a : Act} {S : World → Prop} (h : wpF P md ops Q cl G fuel listed a S) : ∀ w, S w → G w := by
  cases fuel <;> exact h.1
theorem wpAny_of_wpF {cl : Nat → Bool} {G : World → Prop} : ∀ (fuel : Nat) (listed : Array Bool) (a : Act) (S : World → Prop) (w : World), S w → wpF P md ops Q cl G fuel listed a S → wpAny P md ops Q fuel listed a w
  | 0, _, _, _, _, hS, h => ⟨h.2.1, h.2.2 _ hS⟩
  | fuel + 1, _, _, _, _, hS, h => ⟨fun h0 => h.2.1 h0 _ hS, fun i hi => wpOp_of_stepT (fun a S w hS hT => wpAny_of_wpF fuel _ a S w hS hT) hS (h.2.2 i hi)⟩
theorem stepT_putG {cl : Nat → Bool} {G : World → Prop} {j : Nat} {oi oj : Oper} {v : Value} (hQ : Plain Q) (hj : ops[j]? = some oj) (hap : oi.apart ops oj = true)
    (hsi : ∀ cs b, oi.op ≠ .select cs b) (hsj : ∀ cs b, oj.op ≠ .select cs b) {T : Act → (World → Prop) → Prop} {a : Act} {S : World → Prop}
    (hy : Y P ops false G oi v a) (h : stepT P ops Q cl T j (a.put oi.dst v) S) :
    stepT P ops Q cl (fun a' S' => Y P ops false G oi v a' ∧ T (a'.put oi.dst v) S') j a S := by
  obtain ⟨h1, h2, h3⟩ := Oper.apart_spec hap
  have keep : ∀ (a : Act), Y P ops false G oi v a → ∀ u, Y P ops false G oi v (a.put oj.dst u) := fun a hy u =>
    hy.of_same (execOp_put oi hsi a oj.dst u h3) (wanted_put oi a oj.dst u h3)
  unfold stepT nAt at *
  simp only [hj] at h ⊢
  rw [wanted_put oj a oi.dst v h1] at h
  split
  · rename_i hw
    rw [if_pos hw] at h
    rw [execOp_put oj hsj a oi.dst v h1] at h
    rcases h with ⟨u, hu, hn⟩ | ⟨u, hu, hn⟩ | ⟨hi, hu⟩
    · exact .inl ⟨u, hu, keep a hy u, by rw [← Act.put_comm a v u h2]; exact hn⟩
    · exact .inr (.inl ⟨u, hu, keep a hy u, by rw [← Act.put_comm a v u h2]; exact hn⟩)
    · refine .inr (.inr ⟨hi, fun w hS => ?_⟩)
      exact wpOp_mono (fun a' w' ⟨y', S', a1, a2, a3⟩ => ⟨S', a1, a2, Y.of_if y', a3⟩) (wpOp_putIf hj hap hsi hsj (fun c a w h => hQ c a _ _ w h) hy.if (hu w hS))
  · rename_i hw
    rw [if_neg hw] at h
    exact ⟨keep a hy _, by rw [← Act.put_comm a v undef h2]; exact h⟩
theorem wpF_first {cl : Nat → Bool} {G : World → Prop} {i : Nat} {oi : Oper} {v : Value} (hQ : Plain Q) (hi : ops[i]? = some oi) (hsel : ∀ (j : Nat) (o : Oper) cs b, ops[j]? = some o → o.op ≠ .select cs b) :
    ∀ (fuel : Nat) (listed : Array Bool) (a : Act) (S : World → Prop), closed md ops listed →
      (∀ j oj, ops[j]? = some oj → j ≠ i → listed.getD j true = false → reach md ops j i = false → oi.apart ops oj = true) →
      i ∈ Region.ready md ops listed → Y P ops false G oi v a →
      wpF P md ops Q cl G fuel (listed.setIfInBounds i true) (a.put oi.dst v) S → wpF P md ops Q cl G (fuel + 1) listed a S := by
  intro fuel
  induction fuel with
  | zero =>
    intro listed a S _ _ hr hy H
    refine ⟨wpF_G H, fun h => (by rw [h] at hr; cases hr), fun j hj => ?_⟩
    by_cases hji : j = i
    · subst hji; exact (hy.sub (wpF_G H)).step hi H
    · have := ready_mono hj hji
      rw [H.2.1] at this
      cases this
  | succ fuel ih =>
    intro listed a S hclosed hfree hr hy H
    refine ⟨wpF_G H, fun h => (by rw [h] at hr; cases hr), fun j hj => ?_⟩
    by_cases hji : j = i
    · subst hji; exact (hy.sub (wpF_G H)).step hi H
    · have h1 := H.2.2 j (ready_mono hj hji)
      obtain ⟨hjun, oj, hoj, hall⟩ := mem_ready.1 hj
      have hif : listed.getD i false = false := by
        have h0 := (mem_ready.1 hr).1
        rcases Nat.lt_or_ge i listed.size with h' | h'
        · simp [h'] at h0 ⊢; exact h0
        · simp [Array.getElem?_eq_none h']
      have hnot : reach md ops j i = false := by
        cases hc : reach md ops j i with
        | false => rfl
        | true =>
          have := closed.reach hclosed hoj hall hc
          rw [hif] at this
          cases this
      have h2 := stepT_putG hQ hoj (hfree j oj hoj hji hjun hnot) (fun cs b => hsel i oi cs b hi) (fun cs b => hsel j oj cs b hoj) hy h1
      have hfree' : ∀ k ok, ops[k]? = some ok → k ≠ i → (listed.setIfInBounds j true).getD k true = false →
          reach md ops k i = false → oi.apart ops ok = true := fun k ok hk hki hun hno => by
        refine hfree k ok hk hki ?_ hno
        by_cases hjk : j = k
        · subst hjk; exact hjun
        · rw [getD_set_ne true hjk] at hun; exact hun
      refine stepT_mono (fun a' S' h3 => ih (listed.setIfInBounds j true) a' S' (hclosed.set hj) hfree' (ready_mono hr (Ne.symm hji)) h3.1 ?_) h2
      rw [Array.setIfInBounds_comm _ _ hji]
      exact h3.2
/-- What stands in line behind the reads: G holds all along. -/
def tailF (P : Program) (ops : Array Oper) (Q : Exit → Act → World → Prop) (G : World → Prop) : List Nat → Act → World → Prop
  | [], a, w => Q .normal a w
  | i :: l, a, w => match ops[i]? with
    | none => False
    | some o => wpOp P ops Q i (fun a' w' => G w' ∧ tailF P ops Q G l a' w') a w
theorem wpF_of_tail {cl : Nat → Bool} {G : World → Prop} : ∀ (l : List Nat) (listed : Array Bool) (a : Act) (S : World → Prop), (∀ i ∈ l, cl i = true) → chkTail md ops l listed = true → (∀ w, S w → G w) → (∀ w, S w → tailF P ops Q G l a w) → wpF P md ops Q cl G l.length listed a S
  | [], listed, a, S, _, hc, hG, h => ⟨hG, by simpa [chkTail] using hc, h⟩
  | i :: l, listed, a, S, hcl, hc, hG, h => by
    simp only [chkTail, Bool.and_eq_true, beq_iff_eq] at hc
    obtain ⟨⟨hr, hbusy⟩, hl⟩ := hc
    cases hi : ops[i]? with
    | none => simp [hi] at hbusy
    | some o =>
      rw [List.length_cons]
      refine ⟨hG, fun h0 => (by rw [hr] at h0; cases h0), fun j hj => ?_⟩
      rw [hr] at hj
      obtain rfl := List.mem_singleton.1 hj
      have ih := fun (a : Act) (S : World → Prop) (hG : ∀ w, S w → G w) (h : ∀ w, S w → tailF P ops Q G l a w) => wpF_of_tail (cl := cl) l (listed.setIfInBounds j true) a S (fun k hk => hcl k (List.mem_cons_of_mem _ hk)) hl hG h
      have hlist : ∀ w, S w → wpOp P ops Q j (fun a' w' => G w' ∧ tailF P ops Q G l a' w') a w := fun w hS => by
        have h1 := h w hS
        simp only [tailF, hi] at h1
        exact h1
      unfold stepT
      simp only [hi]
      split
      · exact .inr (.inr ⟨.inr (hcl j List.mem_cons_self), fun w hS => wpOp_mono (fun a' w' hh => ⟨fun w => w = w', rfl, fun h0 => (by rw [hcl j List.mem_cons_self] at h0; cases h0), ih a' _ (fun w e => by subst e; exact hh.1) (fun w e => by subst e; exact hh.2)⟩) (hlist w hS)⟩)
      · rename_i hw
        refine ih _ _ (fun w hS => ?_) fun w hS => ?_
        · have h1 := hlist w hS
          unfold wpOp at h1
          simp only [hi] at h1
          rw [if_neg hw] at h1
          exact h1.1
        · have h1 := hlist w hS
          unfold wpOp at h1
          simp only [hi] at h1
          rw [if_neg hw] at h1
          exact h1.2
def chkF (md : Region.Mode) (ops : Array Oper) (tail : List Nat) : List Nat → Array Bool → Bool
  | [], listed => chkTail md ops tail listed
  | i :: l, listed => (Region.ready md ops listed).contains i && freeC md ops false listed i && chkF md ops tail l (listed.setIfInBounds i true)
def wpOrdF (P : Program) (ops : Array Oper) (Q : Exit → Act → World → Prop) (G : World → Prop) (tail : List Nat) (W : World) : List Nat → Act → Prop
  | [], a => tailF P ops Q G tail a W
  | i :: l, a => match ops[i]? with
    | none => False
    | some o =>
      if Region.wanted o (yielded ops a.tmps) then ∃ v, (∀ w, G w → (execOp a.eval o).run P w = .ok (.value v) w) ∧ wpOrdF P ops Q G tail W l (a.put o.dst v)
      else wpOrdF P ops Q G tail W l (a.put o.dst undef)
theorem wpF_of_ord {G : World → Prop} {W : World} (hs : Region.noSelect ops = true) (hQ : Plain Q) (hG : G W) (tail : List Nat) : ∀ (l : List Nat) (listed : Array Bool) (a : Act), closed md ops listed → chkF md ops tail l listed = true → wpOrdF P ops Q G tail W l a → wpF P md ops Q (fun j => tail.contains j) G (l.length + tail.length) listed a (fun w => w = W)
  | [], listed, a, _, hc, h => by
    rw [List.length_nil, Nat.zero_add]
    exact wpF_of_tail tail listed a _ (fun i hi => by simpa using hi) hc (fun w e => by subst e; exact hG) (fun w e => by subst e; exact h)
  | i :: l, listed, a, hclosed, hc, h => by
    simp only [chkF, Bool.and_eq_true] at hc
    obtain ⟨⟨hr, hf⟩, hl⟩ := hc
    simp only [wpOrdF] at h
    cases hi : ops[i]? with
    | none => simp only [hi] at h
    | some o =>
      simp only [hi] at h
      have hri : i ∈ Region.ready md ops listed := by simpa using hr
      have ih := fun a h => wpF_of_ord hs hQ hG tail l (listed.setIfInBounds i true) a (hclosed.set hri) hl h
      have sel := Region.noSelect_spec hs
      have hlen : ((i :: l).length + tail.length) = (l.length + tail.length) + 1 := by rw [List.length_cons]; omega
      rw [hlen]
      by_cases hw : Region.wanted o (yielded ops a.tmps) = true
      · rw [if_pos hw] at h
        obtain ⟨v, h1, h2⟩ := h
        exact wpF_first hQ hi sel _ listed a _ hclosed (fun j oj hj hne hun hno => (freeC_spec hi hf j oj hj hne hun hno).1) hri (.inl ⟨hw, fun w hS => by simpa using h1 w hS⟩) (ih _ h2)
      · rw [if_neg hw] at h
        exact wpF_first hQ hi sel _ listed a _ hclosed (fun j oj hj hne hun hno => (freeC_spec hi hf j oj hj hne hun hno).1) hri (.inr ⟨by simpa using hw, rfl⟩) (ih _ h)
structure OrdF (P : Program) (ops : Array Oper) (Q : Exit → Act → World → Prop) (G : World → Prop) (tail : List Nat) (W : World) (l : List Nat) (a : Act) : Prop where mk :: (out : wpOrdF P ops Q G tail W l a)
structure TailF (P : Program) (ops : Array Oper) (Q : Exit → Act → World → Prop) (G : World → Prop) (l : List Nat) (a : Act) (w : World) : Prop where mk :: (out : tailF P ops Q G l a w)
theorem regionF {id : Nat} {a : Act} {w : World} (G : World → Prop) (l tail : List Nat) (hm : P.follows .mixedOrders = true) (hc : (Region.noSelect ops && (l.length + tail.length == ops.size) && chkF .any ops tail l (Array.replicate ops.size false)) = true)
    (hG : G { w with drawn := w.drawn + 1 }) (h : OrdF P ops Q G tail { w with drawn := w.drawn + 1 } l a) (hQ : Plain Q := by exact fun c a d v w h => by cases d <;> exact h) : (Code.region id ops true).wp P Q a w := by
  simp only [Bool.and_eq_true, beq_iff_eq] at hc
  refine wp_region_any hm (wpAny_of_wpF (cl := fun j => tail.contains j) (G := G) _ _ _ (fun w' => w' = { w with drawn := w.drawn + 1 }) _ rfl ?_)
  rw [← hc.1.2]
  exact wpF_of_ord hc.1.1 hQ hG tail l _ a (closed.start _) (by rw [hc.1.2]; exact hc.2) h.out
section
variable {G : World → Prop} {i : Nat} {tail l : List Nat} {a a' : Act} {W : World} {o : Oper} {N : Tmp}
theorem stepF {v : Value} (hy : ∀ w, G w → (execOp a.eval o).run P w = .ok (.value v) w) (h : OrdF P ops Q G tail W l (a.put (some N) v)) (hi : ops[i]? = some o) (hN : o.dst = some N)
    (hw : Region.wanted o (yielded ops a.tmps) = true) : OrdF P ops Q G tail W (i :: l) a := by
  refine ⟨?_⟩
  simp only [wpOrdF, hi]
  rw [if_pos hw]
  exact ⟨v, hy, hN ▸ h.out⟩
theorem startF (h : TailF P ops Q G tail a W) : OrdF P ops Q G tail W [] a := ⟨h.out⟩
/-- A read, an address, whatever G tells. -/
theorem sF {v : Value} (h : OrdF P ops Q G tail W l a') (hi : ops[i]? = some o := by rfl) (hN : o.dst = some N := by rfl) (hw : Region.wanted o (yielded ops a.tmps) = true := by rfl)
    (hy : ∀ w, G w → (execOp a.eval o).run P w = .ok (.value v) w := by intro w' hS; (first | (have hA := blk_cell hS; clear hS; go_simp; first | done | rfl) | (clear hS; go_simp; first | done | rfl)))
    (ha : a.put (some N) v = a' := by simp only [Act.put, List.setIfInBounds_toArray, List.set_cons_zero, List.set_cons_succ]; rfl) : OrdF P ops Q G tail W (i :: l) a := stepF hy (ha ▸ h) hi hN hw
theorem tF {w : World} (h : wpList P ops (Exit.then (fun a' w' => G w' ∧ TailF P ops Q G l a' w') Q) [o] a w) (hi : ops[i]? = some o := by rfl) : TailF P ops Q G (i :: l) a w := by
  refine ⟨?_⟩
  simp only [tailF, hi]
  refine wpOp_mono (fun a' w' hh => ⟨hh.1, hh.2.out⟩) (wpOp_of_one hi h)
theorem endF {w : World} (h : Q .normal a w) : TailF P ops Q G [] a w := ⟨h⟩
end
end Go.Proofs.YtngjhblbpapjeaaGreat.Reg
/- Walks: the reference puts a fact into an instance. No condition. -/
namespace Go.Proofs.YtngjhblbpapjeaaGreat.H
open Go Go.RowKit Go.Proofs.YtngjhblbpapjeaaGreatW.PrintWords Go.Proofs.YtngjhblbpapjeaaGreatW.PrintLast
open Go.Proofs.YtngjhblbpapjeaaGreat.Reg (On on_draw)
set_option maxHeartbeats 4000000
set_option maxRecDepth 100000
set_option linter.unusedVariables false
set_option linter.unusedSimpArgs false

section
variable {ops : Array Oper} {Q : Exit → Act → World → Prop} {G : World → Prop} {i : Nat} {tail l : List Nat} {a : Act} {W : World} {o : Oper} {N : Tmp}
theorem sToF {x y : Operand} {A : Option Addr} {n c k : Nat} (hk : k ≤ n) (hc : n ≤ c) (h : Reg.OrdF Tryz.prog ops Q G tail W l (a.put (some N) (.slice A k c))) (hi : ops[i]? = some o := by rfl) (hN : o.dst = some N := by rfl) (hw : Region.wanted o (yielded ops a.tmps) = true := by rfl)
    (hop : o.op = .slice 25 x none (some y) none := by rfl) (hx : a.eval x = .slice A n c := by rfl) (hy : a.eval y = .int .i64 (k : Int) := by rfl) : Reg.OrdF Tryz.prog ops Q G tail W (i :: l) a := by
  obtain ⟨i0, hi0, _, hsz, _⟩ := info_parts infoF
  have hcut := cut_to (P := Tryz.prog) 25 30 .i64 Tryz.underlying25 hi0 A n c (k : Int) (by omega) (by omega) hc
  refine Reg.stepF (v := .slice A k c) (fun w _ => ?_) h hi hN hw
  unfold execOp
  simp only [hop, hx, hy, Option.map_some, Option.map_none]
  have := hcut w
  simp only [Int.toNat_natCast] at this
  go_simp
end
/-- An instance that is read, whatever happens to the blocks S. -/
structure RS (S : Nat → Prop) (w : World) (v : Value) (rs : List Rel) (fs : List Fct) : Prop where mk :: (out : ∃ A0 c0 A1 c1 hs, v = .agg #[.slice A0 rs.length c0, .slice A1 fs.length c1] ∧ ∀ w', Ex S w w' → Rels w' A0 c0 rs ∧ RH w' A1 c1 hs ∧ Reads w' hs fs)
theorem RS.ex {S : Nat → Prop} {W w : World} {v : Value} {rs : List Rel} {fs : List Fct} (h : RS S W v rs fs) (k : Ex S W w) : RS S w v rs fs := by
  obtain ⟨A0, c0, A1, c1, hs, e, h⟩ := h.out
  exact ⟨A0, c0, A1, c1, hs, e, fun w' h' => h w' (k.trans h' fun _ _ h => h)⟩
theorem RS.on {S : Nat → Prop} {W w : World} {v : Value} {rs : List Rel} {fs : List Fct} (h : RS S W v rs fs) (k : On W w) : RS S w v rs fs := h.ex (Ex.of_on k)
theorem RS.read {S : Nat → Prop} {w : World} {v : Value} {rs : List Rel} {fs : List Fct} (h : RS S w v rs fs) : RIn w v rs fs := by
  obtain ⟨A0, c0, A1, c1, hs, e, h⟩ := h.out
  obtain ⟨h1, h2, h3⟩ := h w (Ex.refl _ _)
  exact ⟨A0, c0, A1, c1, e, h1, h2.fcts h3⟩
theorem Ex.none {W w : World} (h : Ex (fun _ => False) W w) : On W w := h.to_on fun _ h => h.elim
theorem RIn.rs {w : World} {v : Value} {rs : List Rel} {fs : List Fct} (h : RIn w v rs fs) : RS (fun _ => False) w v rs fs := by
  obtain ⟨A0, c0, A1, c1, e, h0, h1⟩ := h.out
  obtain ⟨hs, h2, h3⟩ := h1.hdrs
  exact ⟨A0, c0, A1, c1, hs, e, fun w' k => ⟨h0.on k.none, h2.on k.none, h3.on k.none⟩⟩
theorem OIn.rs {S : Nat → Prop} {w : World} {lo : Nat} {v : Value} {rs : List Rel} {fs : List Fct} (h : OIn w lo v rs fs) (hS : ∀ b, S b → b < lo) : RS S w v rs fs := by
  obtain ⟨vr, vf, hs, rfl, h0, h1, h2⟩ := h.out
  obtain ⟨A0, c0, rfl, _⟩ := OR.rd h0
  obtain ⟨A1, c1, rfl⟩ := own_slice h1
  refine ⟨A0, c0, A1, c1, hs, by rw [h2.len], fun w' k => ?_⟩
  have h3 := own_ex h0 k (fun i hi e => by have := own_base h0 i hi; have := hS i e; omega)
  have h4 := own_ex h1 k (fun i hi e => by have := own_base h1 i hi; have := hS i e; omega)
  have h5 := h2.ex k (fun i a b ha hb e => by have := (h2.lt ha hb).1; have := hS b e; omega)
  obtain ⟨A', c', e, h6⟩ := OR.rd h3
  injection e with e1 e2 e3
  subst e1 e3
  exact ⟨h6, (OH.rh h4).2, h5.reads⟩
theorem l5PutS_calls (S : Nat → Prop) (w : World) (A0 c0 A1 c1) (hs : List Hdr) (rs : List Rel) (fs : List Fct) (hA0 : ∀ w', Ex S w w' → Rels w' A0 c0 rs ∧ RH w' A1 c1 hs ∧ Reads w' hs fs) (hSb : ∀ b, S b → b < w.heap.size) (A2 c2) (f : Fct) (h2 : Ints w A2 c2 f.2) (hl : fs.length ≤ 2000000) (hl2 : f.2.length ≤ 2000000) (ha : Asc fs) :
    Calls Tryz.prog 41 #[.agg #[.slice A0 rs.length c0, .slice A1 fs.length c1], .agg #[.int .i64 f.1, .slice A2 f.2.length c2]] w (Got fun v w' => RS S w' v rs (putF fs f) ∧ On w w') := by
  obtain ⟨h0, hRH0, hRd0⟩ := hA0 w (Ex.refl _ _)
  have h1 := hRH0.fcts hRd0
  have hA := Aside0.mk hA0
  have hSb' := Aside0.mk hSb
  have hRH0' := Aside0.mk hRH0
  have hRd0' := Aside0.mk hRd0
  clear hA0 hSb hRH0 hRd0
  have hb := Aside0.mk (On.alloc (On.alloc (On.alloc (On.refl w) (.cells #[.slice A0 rs.length c0, .slice A1 fs.length c1] 27)) (.cells #[.int .i64 f.1, .slice A2 f.2.length c2] 30)) (.cells #[.slice none 0 0, .slice none 0 0] 27))
  have hL := Aside0.mk (loc3 w #[.slice A0 rs.length c0, .slice A1 fs.length c1] #[.int .i64 f.1, .slice A2 f.2.length c2] #[.slice none 0 0, .slice none 0 0] 27 30 27)
  have hmx := h1.max
  have hl' := Aside0.mk (show fs.length ≤ 2000000 ∧ f.2.length ≤ 2000000 from ⟨hl, hl2⟩)
  clear hl hl2
  by_cases hf : f ∈ fs
  · have hput := Aside0.mk (putF_has fs f ha hf)
    rcases place_spec fs f with ⟨_, hn⟩ | ⟨k, hk, hpl, _, _⟩
    · exact absurd hf hn
    have hk' := Aside0.mk hk
    clear hf ha
    go_enter Tryz.func41, Tryz.ntmps41
    go_wp2_with (go_at_call 53; refine (l5Place_calls _ A0 rs.length c0 A1 c1 A2 c2 fs f (h1.on hb.out) (h2.on hb.out)).mono ?_; rintro e w1 ⟨rfl, hb1⟩; rw [hpl]; have hL1 := Aside0.mk (Loc.on hb1 hL.out); have hc0 := blk_cell hL1.out.1; have hcr : ∀ i, w1.cell? ⟨w.heap.size + 1 + 1, i, none⟩ = _ := blk_cell hL1.out.2.2.1; have hfr : ∀ i, w1.frozen? ⟨w.heap.size + 1 + 1, i, none⟩ = _ := blk_frozen hL1.out.2.2.1)
    refine bodyPost_ret (retI rfl rfl (g := w.heap.size + 2) (blk_set (blk_set hL1.out.2.2.1 0 _) 1 _) rfl) rfl ?_
    have hBe := Reg.On.set (p := ⟨w.heap.size + 1 + 1, 1, none⟩) (Reg.On.set (p := ⟨w.heap.size + 1 + 1, 0, none⟩) (hb.out.trans hb1) (by simp; omega) (.slice A0 rs.length c0)) (by simp; omega) (.slice A1 fs.length c1)
    exact ⟨_, rfl, ⟨A0, c0, A1, c1, hs, by rw [hput.out]; rfl, fun w' k => by rw [hput.out]; exact hA.out w' ((Ex.of_on hBe).trans k fun _ _ h => h)⟩, hBe⟩
  · have hf' := Aside0.mk hf
    have ha' := Aside0.mk ha
    have hpl : place fs f = -1 := by
      rcases place_spec fs f with ⟨e, _⟩ | ⟨k, hk, _, e, _⟩
      · exact e
      · exact absurd (e ▸ List.getElem_mem hk) hf
    clear hf ha
    go_enter Tryz.func41, Tryz.ntmps41
    go_wp2_with (go_at_call 53; refine (l5Place_calls _ A0 rs.length c0 A1 c1 A2 c2 fs f (h1.on hb.out) (h2.on hb.out)).mono ?_; rintro e w1 ⟨rfl, hb1⟩; rw [hpl])
    have hW1 := Aside0.mk (hb.out.trans hb1)
    have hL1 := Aside0.mk (Loc.on hb1 hL.out)
    clear hpl hb1 hb hL
    go_loopw [5] (fun v5 wr => ∃ (k : Nat), v5 = .int .i64 k ∧ k ≤ fs.length ∧ Aside0 (∀ j, (h : j < k) → (hj : j < fs.length) → cmpF fs[j] f < 0) ∧ Aside0 (On w1 wr)) (fun v5 _ => fs.length - (intOf v5).toNat)
    case atStart => exact ⟨0, rfl, Nat.zero_le _, ⟨fun j h => by omega⟩, ⟨On.refl _⟩⟩
    case round =>
      obtain ⟨k, rfl, hk, hall, hB⟩ := hrel
      have hBw := Aside0.mk (hW1.out.trans hB.out)
      have hLr := Aside0.mk (Loc.on hB.out hL1.out)
      have hd0 := blk_cell hLr.out.1
      have hd1 := blk_cell hLr.out.2.1
      by_cases hlt : k < fs.length
      · obtain ⟨ad, A3, c3, hA1, x0, x1, x2⟩ := (h1.on hBw.out).at k hlt
        have hA1' := Aside0.mk hA1
        rw [hA1] at hd0
        clear hA1
        have x2' := Aside0.mk x2
        clear x2
        by_cases hc : cmpF fs[k] f < 0
        · have hc' := Aside0.mk hc
          have hcb : decide (cmpF fs[k] f < 0) = true := decide_eq_true hc
          clear hc
          go_wp2
          refine Reg.region [(0,.L),(1,.L),(2,.L),(3,.L),(4,.L),(5,.L),(6,.L),(7,.L),(8,.L),(9,.L),(10,.L),(11,.L),(12,.C),(13,.L),(14,.L)] [] (by kernel_rfl) (by kernel_rfl) ?_
          repeat first | refine sP ?_ | refine sS ?_ | refine sA ?_ | refine sL ?_ | refine sQ ?_ | refine sO ?_
          refine callC (.int .i64 (cmpF fs[k] f)) Tryz.func13 (fun w' hS => ?_) ?_
          focus exact CompareFacts_calls w' _ _ _ _ fs[k] f (x2'.out.on hS) (h2.on (hBw.out.trans hS))
          repeat first | refine sP ?_ | refine sS ?_ | refine sA ?_ | refine sL ?_ | refine sQ ?_ | refine sO ?_
          refine Reg.nil fun w2 hS => ?_
          clear x0 x1 hd0 hd1
          go_wp2
          exact ⟨⟨k + 1, by go_num, by omega, ⟨fun j hj hjf => by
            by_cases e : j = k
            · subst e; exact hc'.out
            · exact hall.out j (by omega) hjf⟩, ⟨hB.out.trans hS⟩⟩, by simp [intOf]; omega⟩
        · have hcn := Aside0.mk (show ∀ h : k < fs.length, ¬ cmpF fs[k] f < 0 from fun _ => hc)
          have hcb : decide (cmpF fs[k] f < 0) = false := decide_eq_false hc
          clear hc
          go_wp2
          refine Reg.region [(0,.L),(1,.L),(2,.L),(3,.L),(4,.L),(5,.L),(6,.L),(7,.L),(8,.L),(9,.L),(10,.L),(11,.L),(12,.C),(13,.L),(14,.L)] [] (by kernel_rfl) (by kernel_rfl) ?_
          repeat first | refine sP ?_ | refine sS ?_ | refine sA ?_ | refine sL ?_ | refine sQ ?_ | refine sO ?_
          refine callC (.int .i64 (cmpF fs[k] f)) Tryz.func13 (fun w' hS => ?_) ?_
          focus exact CompareFacts_calls w' _ _ _ _ fs[k] f (x2'.out.on hS) (h2.on (hBw.out.trans hS))
          repeat first | refine sP ?_ | refine sS ?_ | refine sA ?_ | refine sL ?_ | refine sQ ?_ | refine sO ?_
          refine Reg.nil fun w2 hS2 => ?_
          clear x0 x1 hd0 hd1 hcb
          have hB2 := Aside0.mk (hBw.out.trans hS2)
          have hL2 := Aside0.mk (Loc.on hS2 hLr.out)
          have hd0 := blk_cell hL2.out.1
          have hd1 := blk_cell hL2.out.2.1
          have hRd := hRd0'.out
          have hRH := hRH0'.out.on hB2.out
          have hlen := Aside0.mk hRd.len
          have hRH' := Aside0.mk hRH
          have hRd' := Aside0.mk hRd
          have hcap := hRH.cap
          clear hRH hRd
          have hkl := Aside0.mk (show k ≤ hs.length by rw [hlen.out]; exact hk)
          go_wp2
          refine Reg.region [(0,.L),(3,.L),(4,.L),(5,.L),(6,.L),(1,.N),(2,.N)] [7,8] (by kernel_rfl) (by kernel_rfl) ?_
          iterate 4 (first | refine sL ?_ | refine sQ ?_)
          obtain ⟨xs, hxs⟩ : ∃ xs, hs.take k = xs := ⟨_, rfl⟩
          obtain ⟨ys, hys⟩ : ∃ ys, hs.drop k = ys := ⟨_, rfl⟩
          obtain ⟨Ad, hAd⟩ : ∃ Ad, (if c1 = k then A1 else (A1).map (·.add (k * 2))) = Ad := ⟨_, rfl⟩
          obtain ⟨cd, hcd⟩ : ∃ cd, c1 - k = cd := ⟨_, rfl⟩
          refine sFrom (k := k) (m := ys.length) hAd (by rw [← hys, List.length_drop, hlen.out]) hcd hk (by rw [← hlen.out]; exact hcap) ?_
          have hRx := Aside0.mk (hxs ▸ hRH'.out.take k hkl.out)
          have hRy := Aside0.mk (show RH w2 Ad cd ys from hAd ▸ hcd ▸ hys ▸ hRH'.out.drop k hkl.out)
          have hxl := Aside0.mk (show xs.length = k by rw [← hxs, List.length_take]; have := hkl.out; omega)
          have hyl := Aside0.mk (show ys.length ≤ 2000000 by rw [← hys, List.length_drop]; have := hl'.out.1; have := hlen.out; omega)
          have hxs' := Aside0.mk hxs
          have hys' := Aside0.mk hys
          clear hxs hys hAd hcd
          simp only [Act.put, List.setIfInBounds_toArray, List.set_cons_zero, List.set_cons_succ]
          refine callN Tryz.func84 (fun w3 hS3 => ?_)
          refine (l5Fact_calls w3 A2 c2 f (h2.on (hB2.out.trans hS3)) hl'.out.2).mono ?_
          rintro e w4 ⟨v4, rfl, vf, rfl, hOf, hb4⟩
          obtain ⟨A4, c4, rfl⟩ := own_slice hOf
          have hOf' := Aside0.mk hOf
          have hB4 := Aside0.mk (hS3.trans hb4)
          clear hOf hd0 hd1
          refine ⟨_, rfl, hb4, fun a' ha' => ?_⟩
          simp only [Act.put, List.setIfInBounds_toArray, List.set_cons_zero, List.set_cons_succ] at ha'
          subst ha'
          refine stepM (fun w5 hS5 => ?_)
          go_wp2
          refine ⟨hS5.trans (On.alloc (On.refl _) _), ?_⟩
          refine Reg.tail_ fun w6 hS6 => ?_
          have hB6 := Aside0.mk ((hS5.trans (On.alloc (On.refl _) (.cells #[.int .i64 f.1, .slice A4 f.2.length c4] 30))).trans hS6)
          obtain ⟨z7, hz7⟩ : ∃ z7, [((f.1, A4, f.2.length, c4) : Hdr)] ++ ys = z7 := ⟨_, rfl⟩
          refine apHf 36 hz7 (pw_own_below (lit_own w5 #[.int .i64 f.1, .slice A4 f.2.length c4] 30 2 1 w5.heap.size (Nat.le_refl _) (by omega) rfl) hS6) rfl (hRy.out.on (hB4.out.trans hB6.out)) (Nat.le_trans (by simp) hS6.size) (by have := hyl.out; omega) fun v7 w7 hO7 hb7 => ?_
          obtain ⟨A7, c7, rfl⟩ := own_slice hO7
          have hz7' := Aside0.mk hz7
          have hz7l := Aside0.mk (show z7.length ≤ 2000001 by rw [← hz7, List.length_append]; have := hyl.out; simp; omega)
          have hRz := Aside0.mk (OH.rh hO7).2
          have hB7 := Aside0.mk (hB6.out.trans hb7)
          have hB47 := Aside0.mk (hB4.out.trans hB7.out)
          have hL7 := Aside0.mk (Loc.on hB47.out hL2.out)
          have hd0 := blk_cell hL7.out.1
          clear hz7 hO7
          go_wp2
          refine Reg.regionF (fun w' => w'.heap[w.heap.size]? = some (.cells #[.slice A0 rs.length c0, .slice A1 fs.length c1] 27 (0, 0))) [0,1,3,4,5,6,8] [2,7,9,10,11] (by kernel_rfl) (by kernel_rfl) hL7.out.1 ?_
          iterate 5 refine Reg.sF ?_
          refine sToF (k := k) (A := A1) (n := fs.length) (c := c1) hk (by have := hcap; have := hlen.out; omega) ?_
          simp only [Act.put, List.setIfInBounds_toArray, List.set_cons_zero, List.set_cons_succ]
          repeat refine Reg.sF ?_
          refine Reg.startF ?_
          obtain ⟨w8, hw8⟩ : ∃ w8, ({ w7 with drawn := w7.drawn + 1 } : World) = w8 := ⟨_, rfl⟩
          have hS8 : On w7 w8 := by rw [← hw8]; exact on_draw w7
          rw [hw8]
          clear hw8
          refine Reg.tF ?_
          go_wp2
          refine ⟨blk_below hL7.out.1 (hS8.trans (On.alloc (On.refl _) _)), ?_⟩
          refine Reg.tF ?_
          have hB79 := Aside0.mk (hS8.trans (On.alloc (On.refl w8) (.cells #[] 30)))
          refine apHf 44 (List.nil_append xs) (lit_own w8 #[] 30 2 0 w8.heap.size (Nat.le_refl _) (by omega) rfl) rfl (hRx.out.on (hB47.out.trans hB79.out)) (by simp) (by have := hxl.out; have := hl'.out.1; omega) (fun v10 w10 hO10 hb10 => ?_) (hx := by rw [hxl.out]; rfl)
          have hB11 := Aside0.mk (hB79.out.trans hb10)
          refine ⟨blk_below hL7.out.1 hB11.out, ?_⟩
          obtain ⟨A10, c10, rfl⟩ := own_slice hO10
          simp only [Act.put, List.setIfInBounds_toArray, List.set_cons_zero, List.set_cons_succ]
          refine Reg.tF ?_
          have hO11 := Aside0.mk hO10
          obtain ⟨zs, hzs⟩ : ∃ zs, xs ++ z7 = zs := ⟨_, rfl⟩
          refine apH 46 hzs hO11.out (hRz.out.on hB11.out) (Nat.le_trans (by simp) hb10.size) (by have := hxl.out; have := hl'.out.1; have := hz7l.out; omega) fun v12 w12 hO12 hg12 => ?_
          obtain ⟨A12, c12, rfl⟩ := own_slice hO12
          have hw8 := hS8.size
          have hB12 := Aside0.mk (own_grows hB11.out hO11.out hg12 hw8)
          have hL12 := Aside0.mk (Loc.on hB12.out hL7.out)
          refine ⟨hL12.out.1, ?_⟩
          have hcr : ∀ i, w12.cell? ⟨w.heap.size + 1 + 1, i, none⟩ = _ := blk_cell hL12.out.2.2.1
          have hfr : ∀ i, w12.frozen? ⟨w.heap.size + 1 + 1, i, none⟩ = _ := blk_frozen hL12.out.2.2.1
          have hzs' := Aside0.mk hzs
          have hO12' := Aside0.mk hO12
          clear hzs hO12 hg12 hd0
          simp only [Act.put, List.setIfInBounds_toArray, List.set_cons_zero, List.set_cons_succ]
          refine Reg.tF ?_
          go_wp2
          refine ⟨hL12.out.1, ?_⟩
          refine Reg.tF ?_
          go_wp2
          refine ⟨blk_far (blk_far hL12.out.1 (by show ¬ _; simp; try omega) _) (by show ¬ _; simp; try omega) _, ?_⟩
          refine Reg.endF ?_
          go_wp2
          refine bodyPost_ret (retI rfl rfl (g := w.heap.size + 2) (blk_set (blk_set hL12.out.2.2.1 0 _) 1 _) rfl) rfl ?_
          have hBz := (hB2.out.trans hB47.out).trans hB12.out
          have hlt2 := hBw.out.size
          have hBe := Reg.On.set (p := ⟨w.heap.size + 1 + 1, 1, none⟩) (Reg.On.set (p := ⟨w.heap.size + 1 + 1, 0, none⟩) hBz (by simp; omega) (.slice A0 rs.length c0)) (by simp; omega) (.slice A12 zs.length c12)
          have hput := putF_at fs f k hk (fun j hj => hall.out j hj (by omega)) (fun h => Int.not_lt.2 (hcn.out h)) hf'.out
          have hpe : On w4 w12 := hB7.out.trans hB12.out
          have hw4 : w.heap.size + 3 ≤ w4.heap.size := by
            have h1 := blk_lt hL1.out.2.2.1
            have h2 := (hB.out.trans (hS2.trans hB4.out)).size
            omega
          have hE : Ex (fun b => b = w.heap.size + 1 + 1) w12 ((w12.setCell ⟨w.heap.size + 1 + 1, 0, none⟩ (.slice A0 rs.length c0)).setCell ⟨w.heap.size + 1 + 1, 1, none⟩ (.slice A12 zs.length c12)) := (Ex.set w12 ⟨w.heap.size + 1 + 1, 0, none⟩ _).trans (Ex.set _ ⟨w.heap.size + 1 + 1, 1, none⟩ _) (fun i _ h => h)
          have hOe := own_ex hO12'.out hE (fun i hi e => by have := own_base hO12'.out i hi; have := (hS8.size); have := hB47.out.size; have := hlt2; have := hS2.size; have := blk_lt hL1.out.2.2.1; have := hB.out.size; omega)
          have hIe := OI.of (OI.to (own_ex (pw_own_below (show OI w4 (w.heap.size + 3) (.slice A4 f.2.length c4) f.2 from own_lower hOf'.out (by have h1 := blk_lt hL1.out.2.2.1; have h2 := (hB.out.trans (hS2.trans hS3)).size; omega)) hpe) hE (fun i hi e => by have := own_base hOf'.out i hi; have h1 := blk_lt hL1.out.2.2.1; have h2 := (hB.out.trans (hS2.trans hS3)).size; omega)))
          have e1 : zs = hs.take k ++ ([((f.1, A4, f.2.length, c4) : Hdr)] ++ hs.drop k) := by rw [hxs'.out, hys'.out, hz7'.out, hzs'.out]
          have hlz : zs.length = (putF fs f).length := by
            rw [hput, e1]
            have := hlen.out
            simp [this]
          refine ⟨_, rfl, ⟨A0, c0, A12, c12, zs, by rw [← hlz]; rfl, fun w' kE => ?_⟩, hBe⟩
          obtain ⟨r0, r1, r2⟩ := hA.out w' ((Ex.of_on hBe).trans kE fun _ _ h => h)
          have hnew : ∀ i, w.heap.size ≤ i → ¬ S i := fun i hi hs => by have := hSb'.out i hs; omega
          obtain ⟨A4', c4', e4, hI5⟩ := OI.rd (own_ex hIe kE (fun i hi => hnew i (by have := own_base hIe i hi; omega))) h2.2.2
          injection e4 with e41 e42 e43
          subst e41 e43
          have hOw := own_ex hOe kE (fun i hi => hnew i (by have := own_base hOe i hi; have := hS8.size; have := hB47.out.size; have := hlt2; have := hS2.size; omega))
          refine ⟨r0, (OH.rh hOw).2, ?_⟩
          rw [hput, e1]
          exact (r2.take k).append (((Reads.nil _).snoc (a := (f.1, A4, f.2.length, c4)) (f := f) rfl rfl hI5).append (r2.drop k))
      · have hcn := Aside0.mk (show ∀ h : k < fs.length, ¬ cmpF fs[k] f < 0 from fun h => absurd h hlt)
        go_wp2
        refine Reg.region [(0,.L),(1,.L),(2,.L),(3,.L),(4,.L),(5,.L),(6,.L),(7,.L),(8,.L),(9,.L),(10,.L),(11,.L),(12,.C),(13,.L),(14,.L)] [] (by kernel_rfl) (by kernel_rfl) ?_
        repeat first | refine sP ?_ | refine sS ?_ | refine sA ?_ | refine sL ?_ | refine sQ ?_ | refine sO ?_
        refine Reg.nil fun w2 hS2 => ?_
        clear hd0 hd1
        have hB2 := Aside0.mk (hBw.out.trans hS2)
        have hL2 := Aside0.mk (Loc.on hS2 hLr.out)
        have hd0 := blk_cell hL2.out.1
        have hd1 := blk_cell hL2.out.2.1
        have hRd := hRd0'.out
        have hRH := hRH0'.out.on hB2.out
        have hlen := Aside0.mk hRd.len
        have hRH' := Aside0.mk hRH
        have hRd' := Aside0.mk hRd
        have hcap := hRH.cap
        clear hRH hRd
        have hkl := Aside0.mk (show k ≤ hs.length by rw [hlen.out]; exact hk)
        go_wp2
        refine Reg.region [(0,.L),(3,.L),(4,.L),(5,.L),(6,.L),(1,.N),(2,.N)] [7,8] (by kernel_rfl) (by kernel_rfl) ?_
        iterate 4 (first | refine sL ?_ | refine sQ ?_)
        obtain ⟨xs, hxs⟩ : ∃ xs, hs.take k = xs := ⟨_, rfl⟩
        obtain ⟨ys, hys⟩ : ∃ ys, hs.drop k = ys := ⟨_, rfl⟩
        obtain ⟨Ad, hAd⟩ : ∃ Ad, (if c1 = k then A1 else (A1).map (·.add (k * 2))) = Ad := ⟨_, rfl⟩
        obtain ⟨cd, hcd⟩ : ∃ cd, c1 - k = cd := ⟨_, rfl⟩
        refine sFrom (k := k) (m := ys.length) hAd (by rw [← hys, List.length_drop, hlen.out]) hcd hk (by rw [← hlen.out]; exact hcap) ?_
        have hRx := Aside0.mk (hxs ▸ hRH'.out.take k hkl.out)
        have hRy := Aside0.mk (show RH w2 Ad cd ys from hAd ▸ hcd ▸ hys ▸ hRH'.out.drop k hkl.out)
        have hxl := Aside0.mk (show xs.length = k by rw [← hxs, List.length_take]; have := hkl.out; omega)
        have hyl := Aside0.mk (show ys.length ≤ 2000000 by rw [← hys, List.length_drop]; have := hl'.out.1; have := hlen.out; omega)
        have hxs' := Aside0.mk hxs
        have hys' := Aside0.mk hys
        clear hxs hys hAd hcd
        simp only [Act.put, List.setIfInBounds_toArray, List.set_cons_zero, List.set_cons_succ]
        refine callN Tryz.func84 (fun w3 hS3 => ?_)
        refine (l5Fact_calls w3 A2 c2 f (h2.on (hB2.out.trans hS3)) hl'.out.2).mono ?_
        rintro e w4 ⟨v4, rfl, vf, rfl, hOf, hb4⟩
        obtain ⟨A4, c4, rfl⟩ := own_slice hOf
        have hOf' := Aside0.mk hOf
        have hB4 := Aside0.mk (hS3.trans hb4)
        clear hOf hd0 hd1
        refine ⟨_, rfl, hb4, fun a' ha' => ?_⟩
        simp only [Act.put, List.setIfInBounds_toArray, List.set_cons_zero, List.set_cons_succ] at ha'
        subst ha'
        refine stepM (fun w5 hS5 => ?_)
        go_wp2
        refine ⟨hS5.trans (On.alloc (On.refl _) _), ?_⟩
        refine Reg.tail_ fun w6 hS6 => ?_
        have hB6 := Aside0.mk ((hS5.trans (On.alloc (On.refl _) (.cells #[.int .i64 f.1, .slice A4 f.2.length c4] 30))).trans hS6)
        obtain ⟨z7, hz7⟩ : ∃ z7, [((f.1, A4, f.2.length, c4) : Hdr)] ++ ys = z7 := ⟨_, rfl⟩
        refine apHf 36 hz7 (pw_own_below (lit_own w5 #[.int .i64 f.1, .slice A4 f.2.length c4] 30 2 1 w5.heap.size (Nat.le_refl _) (by omega) rfl) hS6) rfl (hRy.out.on (hB4.out.trans hB6.out)) (Nat.le_trans (by simp) hS6.size) (by have := hyl.out; omega) fun v7 w7 hO7 hb7 => ?_
        obtain ⟨A7, c7, rfl⟩ := own_slice hO7
        have hz7' := Aside0.mk hz7
        have hz7l := Aside0.mk (show z7.length ≤ 2000001 by rw [← hz7, List.length_append]; have := hyl.out; simp; omega)
        have hRz := Aside0.mk (OH.rh hO7).2
        have hB7 := Aside0.mk (hB6.out.trans hb7)
        have hB47 := Aside0.mk (hB4.out.trans hB7.out)
        have hL7 := Aside0.mk (Loc.on hB47.out hL2.out)
        have hd0 := blk_cell hL7.out.1
        clear hz7 hO7
        go_wp2
        refine Reg.regionF (fun w' => w'.heap[w.heap.size]? = some (.cells #[.slice A0 rs.length c0, .slice A1 fs.length c1] 27 (0, 0))) [0,1,3,4,5,6,8] [2,7,9,10,11] (by kernel_rfl) (by kernel_rfl) hL7.out.1 ?_
        iterate 5 refine Reg.sF ?_
        refine sToF (k := k) (A := A1) (n := fs.length) (c := c1) hk (by have := hcap; have := hlen.out; omega) ?_
        simp only [Act.put, List.setIfInBounds_toArray, List.set_cons_zero, List.set_cons_succ]
        repeat refine Reg.sF ?_
        refine Reg.startF ?_
        obtain ⟨w8, hw8⟩ : ∃ w8, ({ w7 with drawn := w7.drawn + 1 } : World) = w8 := ⟨_, rfl⟩
        have hS8 : On w7 w8 := by rw [← hw8]; exact on_draw w7
        rw [hw8]
        clear hw8
        refine Reg.tF ?_
        go_wp2
        refine ⟨blk_below hL7.out.1 (hS8.trans (On.alloc (On.refl _) _)), ?_⟩
        refine Reg.tF ?_
        have hB79 := Aside0.mk (hS8.trans (On.alloc (On.refl w8) (.cells #[] 30)))
        refine apHf 44 (List.nil_append xs) (lit_own w8 #[] 30 2 0 w8.heap.size (Nat.le_refl _) (by omega) rfl) rfl (hRx.out.on (hB47.out.trans hB79.out)) (by simp) (by have := hxl.out; have := hl'.out.1; omega) (fun v10 w10 hO10 hb10 => ?_) (hx := by rw [hxl.out]; rfl)
        have hB11 := Aside0.mk (hB79.out.trans hb10)
        refine ⟨blk_below hL7.out.1 hB11.out, ?_⟩
        obtain ⟨A10, c10, rfl⟩ := own_slice hO10
        simp only [Act.put, List.setIfInBounds_toArray, List.set_cons_zero, List.set_cons_succ]
        refine Reg.tF ?_
        have hO11 := Aside0.mk hO10
        obtain ⟨zs, hzs⟩ : ∃ zs, xs ++ z7 = zs := ⟨_, rfl⟩
        refine apH 46 hzs hO11.out (hRz.out.on hB11.out) (Nat.le_trans (by simp) hb10.size) (by have := hxl.out; have := hl'.out.1; have := hz7l.out; omega) fun v12 w12 hO12 hg12 => ?_
        obtain ⟨A12, c12, rfl⟩ := own_slice hO12
        have hw8 := hS8.size
        have hB12 := Aside0.mk (own_grows hB11.out hO11.out hg12 hw8)
        have hL12 := Aside0.mk (Loc.on hB12.out hL7.out)
        refine ⟨hL12.out.1, ?_⟩
        have hcr : ∀ i, w12.cell? ⟨w.heap.size + 1 + 1, i, none⟩ = _ := blk_cell hL12.out.2.2.1
        have hfr : ∀ i, w12.frozen? ⟨w.heap.size + 1 + 1, i, none⟩ = _ := blk_frozen hL12.out.2.2.1
        have hzs' := Aside0.mk hzs
        have hO12' := Aside0.mk hO12
        clear hzs hO12 hg12 hd0
        simp only [Act.put, List.setIfInBounds_toArray, List.set_cons_zero, List.set_cons_succ]
        refine Reg.tF ?_
        go_wp2
        refine ⟨hL12.out.1, ?_⟩
        refine Reg.tF ?_
        go_wp2
        refine ⟨blk_far (blk_far hL12.out.1 (by show ¬ _; simp; try omega) _) (by show ¬ _; simp; try omega) _, ?_⟩
        refine Reg.endF ?_
        go_wp2
        refine bodyPost_ret (retI rfl rfl (g := w.heap.size + 2) (blk_set (blk_set hL12.out.2.2.1 0 _) 1 _) rfl) rfl ?_
        have hBz := (hB2.out.trans hB47.out).trans hB12.out
        have hlt2 := hBw.out.size
        have hBe := Reg.On.set (p := ⟨w.heap.size + 1 + 1, 1, none⟩) (Reg.On.set (p := ⟨w.heap.size + 1 + 1, 0, none⟩) hBz (by simp; omega) (.slice A0 rs.length c0)) (by simp; omega) (.slice A12 zs.length c12)
        have hput := putF_at fs f k hk (fun j hj => hall.out j hj (by omega)) (fun h => Int.not_lt.2 (hcn.out h)) hf'.out
        have hpe : On w4 w12 := hB7.out.trans hB12.out
        have hw4 : w.heap.size + 3 ≤ w4.heap.size := by
          have h1 := blk_lt hL1.out.2.2.1
          have h2 := (hB.out.trans (hS2.trans hB4.out)).size
          omega
        have hE : Ex (fun b => b = w.heap.size + 1 + 1) w12 ((w12.setCell ⟨w.heap.size + 1 + 1, 0, none⟩ (.slice A0 rs.length c0)).setCell ⟨w.heap.size + 1 + 1, 1, none⟩ (.slice A12 zs.length c12)) := (Ex.set w12 ⟨w.heap.size + 1 + 1, 0, none⟩ _).trans (Ex.set _ ⟨w.heap.size + 1 + 1, 1, none⟩ _) (fun i _ h => h)
        have hOe := own_ex hO12'.out hE (fun i hi e => by have := own_base hO12'.out i hi; have := (hS8.size); have := hB47.out.size; have := hlt2; have := hS2.size; have := blk_lt hL1.out.2.2.1; have := hB.out.size; omega)
        have hIe := OI.of (OI.to (own_ex (pw_own_below (show OI w4 (w.heap.size + 3) (.slice A4 f.2.length c4) f.2 from own_lower hOf'.out (by have h1 := blk_lt hL1.out.2.2.1; have h2 := (hB.out.trans (hS2.trans hS3)).size; omega)) hpe) hE (fun i hi e => by have := own_base hOf'.out i hi; have h1 := blk_lt hL1.out.2.2.1; have h2 := (hB.out.trans (hS2.trans hS3)).size; omega)))
        have e1 : zs = hs.take k ++ ([((f.1, A4, f.2.length, c4) : Hdr)] ++ hs.drop k) := by rw [hxs'.out, hys'.out, hz7'.out, hzs'.out]
        have hlz : zs.length = (putF fs f).length := by
          rw [hput, e1]
          have := hlen.out
          simp [this]
        refine ⟨_, rfl, ⟨A0, c0, A12, c12, zs, by rw [← hlz]; rfl, fun w' kE => ?_⟩, hBe⟩
        obtain ⟨r0, r1, r2⟩ := hA.out w' ((Ex.of_on hBe).trans kE fun _ _ h => h)
        have hnew : ∀ i, w.heap.size ≤ i → ¬ S i := fun i hi hs => by have := hSb'.out i hs; omega
        obtain ⟨A4', c4', e4, hI5⟩ := OI.rd (own_ex hIe kE (fun i hi => hnew i (by have := own_base hIe i hi; omega))) h2.2.2
        injection e4 with e41 e42 e43
        subst e41 e43
        have hOw := own_ex hOe kE (fun i hi => hnew i (by have := own_base hOe i hi; have := hS8.size; have := hB47.out.size; have := hlt2; have := hS2.size; omega))
        refine ⟨r0, (OH.rh hOw).2, ?_⟩
        rw [hput, e1]
        exact (r2.take k).append (((Reads.nil _).snoc (a := (f.1, A4, f.2.length, c4)) (f := f) rfl rfl hI5).append (r2.drop k))
theorem l5Put_calls (w : World) (A0 c0 A1 c1) (rs : List Rel) (fs : List Fct) (h0 : Rels w A0 c0 rs) (h1 : Fcts w A1 c1 fs) (A2 c2) (f : Fct) (h2 : Ints w A2 c2 f.2) (hl : fs.length ≤ 2000000) (hl2 : f.2.length ≤ 2000000) (ha : Asc fs) :
    Calls Tryz.prog 41 #[.agg #[.slice A0 rs.length c0, .slice A1 fs.length c1], .agg #[.int .i64 f.1, .slice A2 f.2.length c2]] w (Got fun v w' => RIn w' v rs (putF fs f) ∧ On w w') := by
  obtain ⟨hs, h3, h4⟩ := h1.hdrs
  refine (l5PutS_calls (fun _ => False) w A0 c0 A1 c1 hs rs fs (fun w' k => ⟨h0.on k.none, h3.on k.none, h4.on k.none⟩) (fun _ h => h.elim) A2 c2 f h2 hl hl2 ha).mono fun e w' h => ?_
  obtain ⟨v, rfl, hR, hb⟩ := h
  exact ⟨_, rfl, hR.read, hb⟩
end Go.Proofs.YtngjhblbpapjeaaGreat.H
/- The rule for regions that draw once more, over worlds of which it is also told that the count of draws grows. No condition. -/
namespace Go.Proofs.YtngjhblbpapjeaaGreat.RegD
open Go Go.RowKit Go.Proofs.YtngjhblbpapjeaaGreat.Reg
variable {P : Program} {ops : Array Oper} {Q : Exit → Act → World → Prop} {md : Region.Mode}
/-- The worlds that go on from W, their count of draws too. -/
structure On (W w : World) : Prop where
  low : Below W.heap.size W w
  drawn : W.drawn ≤ w.drawn
theorem On.refl (W : World) : On W W := ⟨Below.refl _ _, Nat.le_refl _⟩
theorem On.trans {a b c : World} (h : On a b) (k : On b c) : On a c := ⟨Reg.On.trans h.low k.low, Nat.le_trans h.drawn k.drawn⟩
theorem On.eq {W w : World} (h : On W w) : ∀ p, (W.cell? p).isSome = true → w.cell? p = W.cell? p := Reg.On.eq h.low
theorem On.alloc {W w : World} (h : On W w) (o : Obj) : On W (w.alloc o) := ⟨Reg.On.alloc h.low o, h.drawn⟩
theorem on_draw (W : World) : On W { W with drawn := W.drawn + 1 } := ⟨Reg.on_draw W, Nat.le_succ _⟩
def wpOrd (P : Program) (ops : Array Oper) (Q : Exit → Act → World → Prop) (tail : List Nat) : List (Nat × K) → Act → World → Prop
  | [], a, W => ∀ w, On W w → wpList P ops Q (tail.filterMap fun i => ops[i]?) a w
  | (i, k) :: l, a, W =>
    match ops[i]? with
    | none => False
    | some o =>
      if Region.wanted o (yielded ops a.tmps) then
        (match k with
          | .L => ∃ v, (∀ w, On W w → (execOp a.eval o).run P w = .ok (.value v) w) ∧ wpOrd P ops Q tail l (a.put o.dst v) W
          | .C => ∃ v, (∀ w, On W w → nAt P o a w fun u w' => u = v ∧ On W w') ∧ wpOrd P ops Q tail l (a.put o.dst v) W
          | .N => ∀ w, On W w → wpList P ops (Exit.then (fun a' w' => On W w' ∧ wpOrd P ops Q tail l a' w') Q) [o] a w
          | .P => ∃ v, (∀ w, (execOp a.eval o).run P w = .ok (.value v) w) ∧ wpOrd P ops Q tail l (a.put o.dst v) W)
      else wpOrd P ops Q tail l (a.put o.dst undef) W
theorem wpOp_of_one {i : Nat} {o : Oper} {T : Act → World → Prop} {a : Act} {w : World} (hi : ops[i]? = some o) (h : wpList P ops (Exit.then T Q) [o] a w) (hl : LetsOut (Exit.then T Q) → LetsOut Q := by exact id) : wpOp P ops Q i T a w := by
  simp only [wpList] at h
  unfold wpOp
  simp only [hi]
  split
  · rename_i hw
    rw [if_pos hw] at h
    rcases h with h | ⟨h1, h2⟩
    · refine .inl ?_
      unfold Oper.wp at *
      generalize (execOp a.eval o).run P w = r at *
      cases r with
      | ok n w' =>
        cases n <;> simp only [Oper.upon] at h ⊢ <;>
          first
            | exact h
            | exact h.mono (fun e w'' he => by cases e <;> first | exact he | exact hl he)
      | halt x w' => cases x <;> simp only [Oper.upon] at h ⊢ <;> exact h
    · exact .inr ⟨h1, hl h2⟩
  · rename_i hw
    rw [if_neg hw] at h
    exact h
theorem wpT_of_tail {cl : Nat → Bool} : ∀ (l : List Nat) (listed : Array Bool) (a : Act) (S : World → Prop), (∀ i ∈ l, cl i = true) → chkTail md ops l listed = true → (∀ w, S w → wpList P ops Q (l.filterMap fun i => ops[i]?) a w) → wpT P md ops Q cl l.length listed a S
  | [], listed, a, S, _, hc, h => ⟨by simpa [chkTail] using hc, h⟩
  | i :: l, listed, a, S, hcl, hc, h => by
    simp only [chkTail, Bool.and_eq_true, beq_iff_eq] at hc
    obtain ⟨⟨hr, hbusy⟩, hl⟩ := hc
    cases hi : ops[i]? with
    | none => simp [hi] at hbusy
    | some o =>
      rw [List.length_cons]
      refine ⟨fun h0 => (by rw [hr] at h0; cases h0), fun j hj => ?_⟩
      rw [hr] at hj
      obtain rfl := List.mem_singleton.1 hj
      have ih := fun a S h => wpT_of_tail l (listed.setIfInBounds j true) a S (fun k hk => hcl k (List.mem_cons_of_mem _ hk)) hl h
      have hlist : ∀ w, S w → wpOp P ops Q j (wpList P ops Q (l.filterMap fun i => ops[i]?)) a w := fun w hS => by
        have h1 := h w hS
        simp only [List.filterMap_cons, hi] at h1
        unfold wpOp
        simp only [hi]
        unfold wpList at h1
        exact h1
      unfold Reg.stepT
      simp only [hi]
      split
      · exact .inr (.inr ⟨.inr (hcl j List.mem_cons_self), fun w hS => wpOp_mono (fun a' w' hh => ⟨fun w => w = w', rfl, fun h0 => (by rw [hcl j List.mem_cons_self] at h0; cases h0), ih a' _ (fun w e => by subst e; exact hh)⟩) (hlist w hS)⟩)
      · rename_i hw
        refine ih _ _ fun w hS => ?_
        have h1 := hlist w hS
        unfold wpOp at h1
        simp only [hi] at h1
        rw [if_neg hw] at h1
        exact h1
theorem wpT_of_ord (hs : Region.noSelect ops = true) (hQ : Plain Q) (tail : List Nat) : ∀ (l : List (Nat × K)) (listed : Array Bool) (a : Act) (W : World), closed md ops listed → chk md ops tail l listed = true → wpOrd P ops Q tail l a W → wpT P md ops Q (fun j => tail.contains j) (l.length + tail.length) listed a (On W)
  | [], listed, a, W, _, hc, h => by
    rw [List.length_nil, Nat.zero_add]
    exact wpT_of_tail tail listed a _ (fun i hi => by simpa using hi) hc h
  | (i, k) :: l, listed, a, W, hclosed, hc, h => by
    simp only [chk, Bool.and_eq_true] at hc
    obtain ⟨hk, hl⟩ := hc
    simp only [wpOrd] at h
    cases hi : ops[i]? with
    | none => simp only [hi] at h
    | some o =>
      simp only [hi] at h
      have hri : i ∈ Region.ready md ops listed := by
        cases k <;> simp only [Bool.and_eq_true, beq_iff_eq] at hk
        · simpa using hk.1.1
        · simpa using hk.1.1
        · rw [hk.1.1]; exact List.mem_singleton.2 rfl
        · simpa using hk.1
      have ih := fun a W h => wpT_of_ord hs hQ tail l (listed.setIfInBounds i true) a W (hclosed.set hri) hl h
      have sel := Region.noSelect_spec hs
      have hlen : (((i, k) :: l).length + tail.length) = (l.length + tail.length) + 1 := by rw [List.length_cons]; omega
      rw [hlen]
      have hreach : k ≠ .N → k ≠ .P → ∀ j, (tail.contains j) = true → reach md ops j i = true := by
        intro hkn hkp j hj
        have hj' : j ∈ tail := by simpa using hj
        cases k <;> simp only [Bool.and_eq_true, List.all_eq_true] at hk
        · exact hk.2 j hj'
        · exact hk.2 j hj'
        · exact absurd rfl hkn
        · exact absurd rfl hkp
      by_cases hw : Region.wanted o (yielded ops a.tmps) = true
      · rw [if_pos hw] at h
        cases k with
        | L =>
          simp only [Bool.and_eq_true] at hk
          obtain ⟨v, h1, h2⟩ := h
          exact wpT_first (c := false) hQ hi sel (hreach (by simp) (by simp)) _ listed a _ hclosed (fun j oj hj hne hun hno => freeC_spec hi hk.1.2 j oj hj hne hun hno) hri (.inl ⟨hw, fun w hS => by simpa using h1 w hS⟩) (ih _ _ h2)
        | C =>
          simp only [Bool.and_eq_true] at hk
          obtain ⟨v, h1, h2⟩ := h
          exact wpT_first (c := true) hQ hi sel (hreach (by simp) (by simp)) _ listed a _ hclosed (fun j oj hj hne hun hno => freeC_spec hi hk.1.2 j oj hj hne hun hno) hri (.inl ⟨hw, fun w hS => by simpa using h1 w hS⟩) (ih _ _ h2)
        | N =>
          simp only [Bool.and_eq_true, beq_iff_eq, busy, hi, Bool.not_eq_true'] at hk
          refine ⟨fun h0 => (by rw [hk.1.1] at h0; cases h0), fun j hj => ?_⟩
          rw [hk.1.1] at hj
          obtain rfl := List.mem_singleton.1 hj
          unfold Reg.stepT
          simp only [hi]
          rw [if_pos hw]
          exact .inr (.inr ⟨.inl hk.1.2, fun w hS => wpOp_mono (fun a' w' ⟨hon, hh⟩ => ⟨On w', On.refl _, fun _ w'' hw'' => hon.trans hw'', ih _ _ hh⟩) (wpOp_of_one hi (h w hS))⟩)
        | P =>
          simp only [Bool.and_eq_true] at hk
          obtain ⟨v, h1, h2⟩ := h
          exact wpT_firstP hQ hi sel _ listed a _ hclosed (fun j oj hj hne hun hno => (freeC_spec hi hk.2 j oj hj hne hun hno).1) hri (.inl ⟨hw, fun w _ => by simpa using h1 w⟩) (ih _ _ h2)
      · rw [if_neg hw] at h
        have hw' : Region.wanted o (yielded ops a.tmps) = false := by simpa using hw
        cases k with
        | P =>
          simp only [Bool.and_eq_true] at hk
          exact wpT_firstP hQ hi sel _ listed a _ hclosed (fun j oj hj hne hun hno => (freeC_spec hi hk.2 j oj hj hne hun hno).1) hri (.inr ⟨hw', rfl⟩) (ih _ _ h)
        | L =>
          simp only [Bool.and_eq_true] at hk
          exact wpT_first (c := false) hQ hi sel (hreach (by simp) (by simp)) _ listed a _ hclosed (fun j oj hj hne hun hno => ⟨(freeC_spec hi hk.1.2 j oj hj hne hun hno).1, fun h => by cases h⟩) hri (.inr ⟨hw', rfl⟩) (ih _ _ h)
        | C =>
          simp only [Bool.and_eq_true] at hk
          exact wpT_first (c := false) hQ hi sel (hreach (by simp) (by simp)) _ listed a _ hclosed (fun j oj hj hne hun hno => ⟨(freeC_spec hi hk.1.2 j oj hj hne hun hno).1, fun h => by cases h⟩) hri (.inr ⟨hw', rfl⟩) (ih _ _ h)
        | N =>
          simp only [Bool.and_eq_true, beq_iff_eq, busy, hi, Bool.not_eq_true'] at hk
          refine ⟨fun h0 => (by rw [hk.1.1] at h0; cases h0), fun j hj => ?_⟩
          rw [hk.1.1] at hj
          obtain rfl := List.mem_singleton.1 hj
          unfold Reg.stepT
          simp only [hi]
          rw [if_neg hw]
          exact ih _ _ h
/-- The same, shut (so that nobody lays it open unasked). -/
structure Ord (P : Program) (ops : Array Oper) (Q : Exit → Act → World → Prop) (tail : List Nat) (l : List (Nat × K)) (a : Act) (W : World) : Prop where mk :: (out : wpOrd P ops Q tail l a W)
/-- The rule: a region that draws its order, its operations taken in the order l, then the tail. -/
theorem region {id : Nat} {a : Act} {w : World} (l : List (Nat × K)) (tail : List Nat) (hm : P.follows .mixedOrders = true) (hc : (Region.noSelect ops && (l.length + tail.length == ops.size) && chk .any ops tail l (Array.replicate ops.size false)) = true)
    (h : Ord P ops Q tail l a w) (hQ : Plain Q := by exact fun c a d v w h => by cases d <;> exact h) : (Code.region id ops true).wp P Q a w := by
  simp only [Bool.and_eq_true, beq_iff_eq] at hc
  refine wp_region_any hm (wpAny_of_wpT (cl := fun j => tail.contains j) _ _ _ (On w) _ (below_drew' w) ?_)
  rw [← hc.1.2]
  exact wpT_of_ord hc.1.1 hQ tail l _ a w (closed.start _) (by rw [hc.1.2]; exact hc.2) h.out
where
  below_drew' (w : World) : On w { w with drawn := w.drawn + 1 } := on_draw w
/-! The moves. -/
section
variable {i : Nat} {tail : List Nat} {l : List (Nat × K)} {a : Act} {W : World} {o : Oper} {N : Tmp}
theorem nil (h : ∀ w, On W w → Q .normal a w) : Ord P ops Q [] [] a W := ⟨h⟩
theorem stepL {v : Value} (hy : ∀ w, On W w → (execOp a.eval o).run P w = .ok (.value v) w) (h : Ord P ops Q tail l (a.put (some N) v) W) (hi : ops[i]? = some o) (hN : o.dst = some N)
    (hw : Region.wanted o (yielded ops a.tmps) = true) : Ord P ops Q tail ((i, .L) :: l) a W := by
  refine ⟨?_⟩
  simp only [wpOrd, hi]
  rw [if_pos hw]
  exact ⟨v, hy, hN ▸ h.out⟩
theorem stepP {v : Value} (hy : ∀ w, (execOp a.eval o).run P w = .ok (.value v) w) (h : Ord P ops Q tail l (a.put (some N) v) W) (hi : ops[i]? = some o) (hN : o.dst = some N)
    (hw : Region.wanted o (yielded ops a.tmps) = true) : Ord P ops Q tail ((i, .P) :: l) a W := by
  refine ⟨?_⟩
  simp only [wpOrd, hi]
  rw [if_pos hw]
  exact ⟨v, hy, hN ▸ h.out⟩
theorem stepC {v : Value} (hy : ∀ w, On W w → nAt P o a w fun u w' => u = v ∧ On W w') (h : Ord P ops Q tail l (a.put (some N) v) W) (hi : ops[i]? = some o) (hN : o.dst = some N)
    (hw : Region.wanted o (yielded ops a.tmps) = true) : Ord P ops Q tail ((i, .C) :: l) a W := by
  refine ⟨?_⟩
  simp only [wpOrd, hi]
  rw [if_pos hw]
  exact ⟨v, hy, hN ▸ h.out⟩
theorem wpList_mono_normal {os : List Oper} {T T' : Act → World → Prop} (hT : ∀ a w, T a w → T' a w) : ∀ {a : Act} {w : World}, wpList P ops (Exit.then T Q) os a w → wpList P ops (Exit.then T' Q) os a w := by
  induction os with
  | nil => intro a w h; exact hT _ _ h
  | cons o os ih =>
    intro a w h
    unfold wpList at h ⊢
    split
    · rename_i hw
      rw [if_pos hw] at h
      rcases h with h | ⟨h1, h2⟩
      · refine .inl ?_
        unfold Oper.wp at *
        generalize (execOp a.eval o).run P w = r at *
        cases r with
        | ok n w' =>
          cases n <;> simp only [Oper.upon] at h ⊢ <;>
            first
              | exact ih h
              | exact h.mono (fun e w'' he => by cases e <;> first | exact ih he | exact he)
              | exact Rows.mono h (fun _ _ he => ih he)
        | halt x w' => cases x <;> simp only [Oper.upon] at h ⊢ <;> exact h
      · exact .inr ⟨h1, h2⟩
    · rename_i hw
      rw [if_neg hw] at h
      exact ih h
theorem stepN (h : ∀ w, On W w → wpList P ops (Exit.then (fun a' w' => On W w' ∧ Ord P ops Q tail l a' w') Q) [o] a w) (hi : ops[i]? = some o)
    (hw : Region.wanted o (yielded ops a.tmps) = true) : Ord P ops Q tail ((i, .N) :: l) a W := by
  refine ⟨?_⟩
  simp only [wpOrd, hi]
  rw [if_pos hw]
  exact fun w hS => wpList_mono_normal (fun a w ⟨h1, h2⟩ => ⟨h1, h2.out⟩) (h w hS)
theorem skip {k : K} (h : Ord P ops Q tail l (a.put (some N) undef) W) (hi : ops[i]? = some o) (hN : o.dst = some N) (hw : Region.wanted o (yielded ops a.tmps) = false) : Ord P ops Q tail ((i, k) :: l) a W := by
  refine ⟨?_⟩
  simp only [wpOrd, hi]
  rw [if_neg (by simp [hw]), hN]
  exact h.out
theorem tail_ {os : List Oper} (h : ∀ w, On W w → wpList P ops Q os a w) (hos : (tail.filterMap fun i => ops[i]?) = os := by simp only [List.filterMap_cons, List.filterMap_nil, List.getElem?_toArray, List.getElem?_cons_zero, List.getElem?_cons_succ]; rfl) : Ord P ops Q tail [] a W := by
  subst hos
  exact ⟨h⟩
end
end Go.Proofs.YtngjhblbpapjeaaGreat.RegD
namespace Go.Proofs.YtngjhblbpapjeaaGreat.HD
open Go Go.RowKit Go.Proofs.YtngjhblbpapjeaaGreatW.PrintWords Go.Proofs.YtngjhblbpapjeaaGreatW.PrintLast Go.Proofs.YtngjhblbpapjeaaGreat.H
open Go.Proofs.YtngjhblbpapjeaaGreat.RegD (On on_draw)
set_option linter.unusedVariables false
/-! Steps inside a region that draws. -/
section
variable {P : Program} {ops : Array Oper} {Q : Exit → Act → World → Prop} {i : Nat} {tail : List Nat} {l : List (Nat × Reg.K)} {a a' : Act} {W : World} {o : Oper} {N : Tmp}
theorem nAt_call {f : FuncId} {fn : Func} {xs : Array Operand} {ts : Array TypeId} {args : Array Value} {w : World} {R : Value → World → Prop} (hf : P.funcs[f]? = some fn) (hname : (fn.name == "runtime.NumGoroutine") = false) (hb : fn.body.isSome = true)
    (hop : o.op = .call { callee := .value (.func f), args := xs, argTypes := ts }) (hargs : xs.map a.eval = args) (h : Calls P f args w fun e w' => ∃ u, e = .returned u ∧ R u w') : Reg.nAt P o a w R := by
  have he := enters_ hf hname hb args w
  have hrun : (execOp a.eval o).run P w = .ok (.enter f args) w := by
    unfold execOp
    simp [hop, resolve, Deferred.ofValue, invoke, Act.eval, hargs, he]
  unfold Reg.nAt
  rw [hrun]
  exact h
/-- A call that hands back one value. -/
theorem callC {f : FuncId} {fn : Func} {xs : Array Operand} {ts : Array TypeId} {args : Array Value} (v : Value) (hf : P.funcs[f]? = some fn)
    (h : ∀ w, On W w → Calls P f args w fun e w' => e = .returned v ∧ On w w') (rest : RegD.Ord P ops Q tail l a' W) (hi : ops[i]? = some o := by rfl) (hN : o.dst = some N := by rfl)
    (hop : o.op = .call { callee := .value (.func f), args := xs, argTypes := ts } := by rfl) (hargs : xs.map a.eval = args := by (try simp only [List.map_toArray, List.map_cons, List.map_nil]); rfl)
    (hname : (fn.name == "runtime.NumGoroutine") = false := by kernel_rfl) (hb : fn.body.isSome = true := by rfl)
    (hw : Region.wanted o (yielded ops a.tmps) = true := by with_unfolding_all rfl) (ha : a.put (some N) v = a' := by simp only [Act.put, List.setIfInBounds_toArray, List.set_cons_zero, List.set_cons_succ]; rfl) : RegD.Ord P ops Q tail ((i, .C) :: l) a W :=
  RegD.stepC (v := v) (fun w hS => nAt_call hf hname hb hop hargs ((h w hS).mono fun e w' ⟨he, hS'⟩ => ⟨v, he, rfl, hS.trans hS'⟩)) (ha ▸ rest) hi hN hw
/-- A call of which more is told: what follows stands behind it. -/
theorem callN {f : FuncId} {fn : Func} {xs : Array Operand} {ts : Array TypeId} {args : Array Value} (hf : P.funcs[f]? = some fn)
    (h : ∀ w, On W w → Calls P f args w fun e w' => ∃ v, e = .returned v ∧ On w w' ∧ ∀ a', a' = a.put (some N) v → RegD.Ord P ops Q tail l a' w') (hi : ops[i]? = some o := by rfl) (hN : o.dst = some N := by rfl)
    (hop : o.op = .call { callee := .value (.func f), args := xs, argTypes := ts } := by rfl) (hargs : xs.map a.eval = args := by (try simp only [List.map_toArray, List.map_cons, List.map_nil]); rfl)
    (hname : (fn.name == "runtime.NumGoroutine") = false := by kernel_rfl) (hb : fn.body.isSome = true := by rfl)
    (hw : Region.wanted o (yielded ops a.tmps) = true := by rfl) : RegD.Ord P ops Q tail ((i, .N) :: l) a W := by
  refine RegD.stepN (fun w hS => ?_) hi hw
  unfold wpList
  rw [if_pos hw]
  refine .inl (Reg.wp_of_nAt (nAt_call hf hname hb hop hargs ((h w hS).mono fun e w' ⟨v, he, hon, hk⟩ => ⟨v, he, ?_⟩)))
  rw [hN]
  exact ⟨hS.trans hon, hk _ rfl⟩
/-- A read, a sum, an address. -/
theorem sL {v : Value} (h : RegD.Ord P ops Q tail l a' W) (hi : ops[i]? = some o := by rfl) (hN : o.dst = some N := by rfl) (hw : Region.wanted o (yielded ops a.tmps) = true := by rfl)
    (hy : ∀ w, On W w → (execOp a.eval o).run P w = .ok (.value v) w := by intro w' hS; have hA := RegD.On.eq hS; clear hS; (go_simp; first | done | rfl))
    (ha : a.put (some N) v = a' := by simp only [Act.put, List.setIfInBounds_toArray, List.set_cons_zero, List.set_cons_succ]; rfl) : RegD.Ord P ops Q tail ((i, .L) :: l) a W := RegD.stepL hy (ha ▸ h) hi hN hw
/-- What asks the world nothing. -/
theorem sQ {v : Value} (h : RegD.Ord P ops Q tail l a' W) (hi : ops[i]? = some o := by rfl) (hN : o.dst = some N := by rfl) (hw : Region.wanted o (yielded ops a.tmps) = true := by rfl)
    (hy : ∀ w, (execOp a.eval o).run P w = .ok (.value v) w := by intro w'; (go_simp; first | done | rfl))
    (ha : a.put (some N) v = a' := by simp only [Act.put, List.setIfInBounds_toArray, List.set_cons_zero, List.set_cons_succ]; rfl) : RegD.Ord P ops Q tail ((i, .P) :: l) a W := RegD.stepP hy (ha ▸ h) hi hN hw
/-- Sums and differences whose bounds are known. -/
theorem sS {x y : Operand} {m n : Int} {t t2 : TypeId} (h : RegD.Ord P ops Q tail l a' W) (hi : ops[i]? = some o := by rfl) (hN : o.dst = some N := by rfl) (hop : o.op = .binOp .sub t x y t2 := by rfl) (hw : Region.wanted o (yielded ops a.tmps) = true := by rfl)
    (hx : a.eval x = .int .i64 m := by rfl) (hy : a.eval y = .int .i64 n := by rfl) {r : Int} (hb : IntKind.i64.wrap (m - n) = r := by first | (with_reducible assumption) | exact IntWalk.i64_in _ (by omega))
    (ha : a.put (some N) (.int .i64 r) = a' := by simp only [Act.put, List.setIfInBounds_toArray, List.set_cons_zero, List.set_cons_succ]; rfl) : RegD.Ord P ops Q tail ((i, .L) :: l) a W :=
  RegD.stepL (fun w _ => by
    subst hb
    unfold execOp
    simp only [hop, hx, hy]
    rfl) (ha ▸ h) hi hN hw
theorem sA {x y : Operand} {m n : Int} {t t2 : TypeId} (h : RegD.Ord P ops Q tail l a' W) (hi : ops[i]? = some o := by rfl) (hN : o.dst = some N := by rfl) (hop : o.op = .binOp .add t x y t2 := by rfl) (hw : Region.wanted o (yielded ops a.tmps) = true := by rfl)
    (hx : a.eval x = .int .i64 m := by rfl) (hy : a.eval y = .int .i64 n := by rfl) {r : Int} (hb : IntKind.i64.wrap (m + n) = r := by first | (with_reducible assumption) | exact IntWalk.i64_in _ (by omega))
    (ha : a.put (some N) (.int .i64 r) = a' := by simp only [Act.put, List.setIfInBounds_toArray, List.set_cons_zero, List.set_cons_succ]; rfl) : RegD.Ord P ops Q tail ((i, .L) :: l) a W :=
  RegD.stepL (fun w _ => by
    subst hb
    unfold execOp
    simp only [hop, hx, hy]
    rfl) (ha ▸ h) hi hN hw
/-- A choice, decided. -/
theorem sP {v : Value} {c x y : Operand} {b : Bool} (h : RegD.Ord P ops Q tail l a' W) (hi : ops[i]? = some o := by rfl) (hN : o.dst = some N := by rfl) (hop : o.op = .pick c x y := by rfl) (hw : Region.wanted o (yielded ops a.tmps) = true := by rfl)
    (hc : a.eval c = .bool b := by rfl) (hv : (if b then a.eval x else a.eval y) = v := by (go_simp; first | done | rfl))
    (ha : a.put (some N) v = a' := by simp only [Act.put, List.setIfInBounds_toArray, List.set_cons_zero, List.set_cons_succ]; rfl) : RegD.Ord P ops Q tail ((i, .L) :: l) a W :=
  RegD.stepL (fun w _ => by unfold execOp; simp only [hop, hc]; subst hv; cases b <;> rfl) (ha ▸ h) hi hN hw
/-- An operation whose guard is off. -/
theorem sO {k : Reg.K} (h : RegD.Ord P ops Q tail l a' W) (hi : ops[i]? = some o := by rfl) (hN : o.dst = some N := by rfl) (hw : Region.wanted o (yielded ops a.tmps) = false := by with_unfolding_all rfl)
    (ha : a.put (some N) undef = a' := by simp only [Act.put, List.setIfInBounds_toArray, List.set_cons_zero, List.set_cons_succ]; rfl) : RegD.Ord P ops Q tail ((i, k) :: l) a W := RegD.skip (ha ▸ h) hi hN hw
end
end Go.Proofs.YtngjhblbpapjeaaGreat.HD
/- Walks: the program's order of facts, in the form that SortFunc asks for. No condition. -/
namespace Go.Proofs.YtngjhblbpapjeaaGreat.HD
open Go Go.RowKit Go.Proofs.YtngjhblbpapjeaaGreatW.PrintWords Go.Proofs.YtngjhblbpapjeaaGreatW.PrintLast Go.Proofs.YtngjhblbpapjeaaGreat.H
open Go.Proofs.YtngjhblbpapjeaaGreat.RegD (On on_draw)
set_option maxHeartbeats 1000000
set_option maxRecDepth 100000
set_option linter.unusedVariables false
set_option linter.unusedSimpArgs false

theorem grown_of_on {W w : World} (h : On W w) : ∃ q os, w = Go.Sort.grow (W.drewN q) os := by
  obtain ⟨p, e⟩ := regrown_of_below h.low
  refine ⟨w.drawn - W.drawn, p.os, ?_⟩
  have hd : p.d = w.drawn := by rw [e]; rfl
  have := h.drawn
  rw [show W.drewN (w.drawn - W.drawn) = redrawn W p.d by unfold World.drewN redrawn; rw [hd, show W.drawn + (w.drawn - W.drawn) = w.drawn by omega]]
  exact e
theorem isNaN_calls (w : World) (v : Int) : Calls Tryz.prog 91 #[.int .i64 v] w fun e w' => e = .returned (.bool false) ∧ On w w' := by
  go_enter Tryz.func91, Tryz.ntmps91
  go_wp2
  go_ret
  exact ⟨by simp, On.refl _⟩
theorem cmpCompare_calls (w : World) (a b : Int) : Calls Tryz.prog 47 #[.int .i64 a, .int .i64 b] w fun e w' => e = .returned (.int .i64 (cmpI a b)) ∧ On w w' := by
  by_cases h1 : a < b
  · have h1b : decide (a < b) = true := decide_eq_true h1
    go_enter Tryz.func47, Tryz.ntmps47
    go_wp2_with (first | (go_at_call 91; refine (isNaN_calls w _).mono ?_; rintro e w1 ⟨rfl, hb1⟩) | (go_at_call 91; refine (isNaN_calls w1 _).mono ?_; rintro e w2 ⟨rfl, hb2⟩))
    go_ret
    exact ⟨ret_int (by unfold cmpI; rw [if_pos (of_decide_eq_true h1b)]), hb1.trans hb2⟩
  · have h1b : decide (a < b) = false := decide_eq_false h1
    by_cases h2 : b < a
    · have h2b : decide (b < a) = true := decide_eq_true h2
      go_enter Tryz.func47, Tryz.ntmps47
      go_wp2_with (first | (go_at_call 91; refine (isNaN_calls w _).mono ?_; rintro e w1 ⟨rfl, hb1⟩) | (go_at_call 91; refine (isNaN_calls w1 _).mono ?_; rintro e w2 ⟨rfl, hb2⟩))
      go_ret
      exact ⟨ret_int (by unfold cmpI; rw [if_neg (of_decide_eq_false h1b), if_pos (of_decide_eq_true h2b)]), hb1.trans hb2⟩
    · have h2b : decide (b < a) = false := decide_eq_false h2
      go_enter Tryz.func47, Tryz.ntmps47
      go_wp2_with (first | (go_at_call 91; refine (isNaN_calls w _).mono ?_; rintro e w1 ⟨rfl, hb1⟩) | (go_at_call 91; refine (isNaN_calls w1 _).mono ?_; rintro e w2 ⟨rfl, hb2⟩))
      go_ret
      exact ⟨ret_int (by unfold cmpI; rw [if_neg (of_decide_eq_false h1b), if_neg (of_decide_eq_false h2b)]), hb1.trans hb2⟩
theorem slicesCompare_calls (w : World) (A B : Option Addr) (c d : Nat) (a b : List Int) (ha : Ints w A c a) (hb : Ints w B d b) : Calls Tryz.prog 48 #[.slice A a.length c, .slice B b.length d] w fun e w' => e = .returned (.int .i64 (ints a b)) ∧ On w w' := by
  have hma := ha.max
  have hmb := hb.max
  go_enter Tryz.func48, Tryz.ntmps48
  go_wp2
  go_loopw [11] (fun v wr => ∃ k : Nat, k ≤ a.length ∧ k ≤ b.length ∧ v = .int .i64 k ∧ Hid (ints (a.drop k) (b.drop k) = ints a b) ∧ On w wr) (fun v _ => a.length - (intOf v).toNat)
  case atStart => exact ⟨0, Nat.zero_le _, Nat.zero_le _, rfl, rfl, On.refl _⟩
  case round =>
    obtain ⟨k, hk1, hk2, rfl, hp, hB⟩ := hrel
    by_cases h1 : k < a.length
    · obtain ⟨ad, rfl, hx⟩ := (ha.on hB.low).at k h1
      by_cases h2 : k < b.length
      · obtain ⟨bd, rfl, hy⟩ := (hb.on hB.low).at k h2
        have h2n : decide (b.length ≤ k) = false := decide_eq_false (by omega)
        have hst := Aside0.mk ((ints_stepI a b k h1 h2).symm.trans hp.out)
        clear hp
        by_cases h3 : cmpI a[k] b[k] = 0
        · have h3' := Aside0.mk h3
          have h3b : (cmpI a[k] b[k] != 0) = false := by simp [h3]
          clear h3
          go_wp2_with (go_at_call 47; refine (cmpCompare_calls _ _ _).mono ?_; rintro e w3 ⟨rfl, hb3⟩)
          go_roundw
          case rel => exact ⟨k + 1, by omega, by omega, by go_num, (by have := hst.out; rwa [if_pos h3'.out] at this : _ = _), hB.trans hb3⟩
          case measure => simp [intOf]; omega
        · have h3' := Aside0.mk h3
          have h3b : (cmpI a[k] b[k] != 0) = true := by simp [h3]
          clear h3
          go_wp2_with (go_at_call 47; refine (cmpCompare_calls _ _ _).mono ?_; rintro e w3 ⟨rfl, hb3⟩)
          go_ret
          exact ⟨ret_int (by have := hst.out; rwa [if_neg h3'.out] at this), hB.trans hb3⟩
      · have hb0 : b.drop k = [] := List.drop_of_length_le (by omega)
        have h2n : decide (b.length ≤ k) = true := decide_eq_true (by omega)
        have hp' := Aside0.mk hp.out
        clear hp
        go_wp2
        go_ret
        exact ⟨ret_int (by rw [← hp'.out, hb0, List.drop_eq_getElem_cons h1]; rfl), hB⟩
    · have ha0 : a.drop k = [] := List.drop_of_length_le (by omega)
      have hp' := Aside0.mk hp.out
      clear hp
      by_cases h2 : k < b.length
      · have h4 : a.length < b.length := by omega
        go_wp2
        go_ret
        exact ⟨ret_int (by rw [← hp'.out, ha0, List.drop_eq_getElem_cons h2]; rfl), hB⟩
      · have hb0 : b.drop k = [] := List.drop_of_length_le (by omega)
        have h4 : ¬ a.length < b.length := by omega
        go_wp2
        go_ret
        exact ⟨ret_int (by rw [← hp'.out, ha0, hb0]; rfl), hB⟩
theorem cmpOr_calls (w : World) (A c) (l : List Int) (h : Ints w A c l) : Calls Tryz.prog 46 #[.slice A l.length c] w fun e w' => e = .returned (.int .i64 (orFrom l)) ∧ On w w' := by
  have hmax := h.max
  go_enter Tryz.func46, Tryz.ntmps46
  go_wp2
  go_loop [8] (fun v => ∃ k : Nat, k ≤ l.length ∧ v = .int .i64 k ∧ Hid (orFrom (l.drop k) = orFrom l)) (fun v => l.length - (intOf v).toNat)
  case atStart => exact ⟨0, Nat.zero_le _, rfl, rfl⟩
  case round =>
    obtain ⟨k, hk, rfl, hp⟩ := hrel
    by_cases hlt : k < l.length
    · obtain ⟨ad, rfl, hx⟩ := h.at k hlt
      have hst := Aside0.mk ((orFrom_step l k hlt).symm.trans hp.out)
      clear hp
      by_cases h3 : l[k] = 0
      · have h3' := Aside0.mk h3
        have h3b : (l[k] != 0) = false := by simp [h3]
        clear h3
        go_wp2
        go_round
        case rel => exact ⟨k + 1, by omega, by go_num, (by have := hst.out; rwa [if_pos h3'.out] at this : _ = _)⟩
        case measure => simp [intOf]; omega
      · have h3' := Aside0.mk h3
        have h3b : (l[k] != 0) = true := by simp [h3]
        clear h3
        go_wp2
        go_ret
        exact ⟨ret_int (by have := hst.out; rwa [if_neg h3'.out] at this), On.refl _⟩
    · go_wp2
      go_ret
      exact ⟨ret_int (by rw [← hp.out, List.drop_of_length_le (by omega)]; rfl), On.refl _⟩
theorem iCompareFacts_calls (w : World) (A0 c0 A1 c1) (f g : Fct) (h0 : Ints w A0 c0 f.2) (h1 : Ints w A1 c1 g.2) : Calls Tryz.prog 12 #[.agg #[.int .i64 f.1, .slice A0 f.2.length c0], .agg #[.int .i64 g.1, .slice A1 g.2.length c1]] w fun e w' => e = .returned (.int .i64 (cmpF f g)) ∧ On w w' := by
  have hb0 := Aside0.mk (On.alloc (On.alloc (On.refl w) (.cells #[.int .i64 f.1, .slice A0 f.2.length c0] 30)) (.cells #[.int .i64 g.1, .slice A1 g.2.length c1] 30))
  go_enter Tryz.func12, Tryz.ntmps12
  go_wp2
  refine RegD.region [(0,.L),(1,.L),(2,.L),(3,.L),(4,.C),(5,.L),(6,.L),(7,.L),(8,.L),(9,.C)] [10,11,12] (by kernel_rfl) (by kernel_rfl) ?_
  repeat first | refine sP ?_ | refine sS ?_ | refine sA ?_ | refine sL ?_ | refine sQ ?_ | refine sO ?_
  refine callC (.int .i64 (cmpI f.1 g.1)) Tryz.func47 (fun w' hS => ?_) ?_
  focus exact cmpCompare_calls w' _ _
  repeat first | refine sP ?_ | refine sS ?_ | refine sA ?_ | refine sL ?_ | refine sQ ?_ | refine sO ?_
  refine callC (.int .i64 (ints f.2 g.2)) Tryz.func48 (fun w' hS => ?_) ?_
  focus exact slicesCompare_calls w' _ _ _ _ f.2 g.2 (h0.on (hb0.out.trans hS).low) (h1.on (hb0.out.trans hS).low)
  repeat first | refine sP ?_ | refine sS ?_ | refine sA ?_ | refine sL ?_ | refine sQ ?_ | refine sO ?_
  refine RegD.tail_ fun w2 hS => ?_
  have hc := cmpI_bd f.1 g.1
  have hi := ints_bd f.2 g.2
  have hr := Aside0.mk ((ints2 w2 (cmpI f.1 g.1) (ints f.2 g.2)).2 (fun x hx => by simp at hx; rcases hx with rfl | rfl <;> omega))
  clear hc hi
  go_wp2_with (go_at_call 46; refine (cmpOr_calls _ _ _ _ hr.out).mono ?_; rintro e w3 ⟨rfl, hb3⟩)
  go_ret
  refine ⟨ret_int ?_, (hb0.out.trans hS).trans ((On.alloc (On.refl _) _).trans hb3)⟩
  rw [cmpF_or]
  simp only [orFrom]
  by_cases h3 : cmpI f.1 g.1 = 0
  · simp only [h3, if_pos, ne_eq, not_true, if_false]
    by_cases h4 : ints f.2 g.2 = 0
    · rw [if_pos h4, h4]
    · rw [if_neg h4]
  · simp [h3]
theorem cmpGrow_calls (w : World) (A0 c0 A1 c1) (f g : Fct) (h0 : Ints w A0 c0 f.2) (h1 : Ints w A1 c1 g.2) : Calls Tryz.prog 12 #[.agg #[.int .i64 f.1, .slice A0 f.2.length c0], .agg #[.int .i64 g.1, .slice A1 g.2.length c1]] w fun e w' => e = .returned (.int .i64 (cmpF f g)) ∧ ∃ q os, w' = Go.Sort.grow (w.drewN q) os :=
  (iCompareFacts_calls w A0 c0 A1 c1 f g h0 h1).mono fun e w' h => ⟨h.1, grown_of_on h.2⟩
end Go.Proofs.YtngjhblbpapjeaaGreat.HD
/- Facts that are read, with their headers: what SortFunc's contract takes and gives. No condition. -/
namespace Go.Proofs.YtngjhblbpapjeaaGreat.H
open Go Go.RowKit Go.Proofs.YtngjhblbpapjeaaGreatW.PrintWords Go.Proofs.YtngjhblbpapjeaaGreatW.PrintLast
open Go.Proofs.YtngjhblbpapjeaaGreat.Reg (On on_draw)
set_option maxHeartbeats 4000000
set_option maxRecDepth 100000
set_option linter.unusedVariables false
set_option linter.unusedSimpArgs false

/-- A fact of the call's own: its header, what it reads as. -/
structure Fa (w : World) (lo : Nat) where
  h : Hdr
  f : Fct
  n : h.1 = f.1
  o : OI w lo (hdV h) f.2
  r : InR f.2
instance (w : World) (lo : Nat) : Inhabited (Fa w lo) := ⟨⟨((0 : Int), none, 0, 0), ((0 : Int), []), rfl, World.ownsRow_nil _ _ _ _, fun x hx => by cases hx⟩⟩
abbrev encA {w : World} {lo : Nat} (x : Fa w lo) : List Value := encH x.h
abbrev cmpA {w : World} {lo : Nat} (x y : Fa w lo) : Int := cmpF x.f y.f
theorem swoA {w : World} {lo : Nat} : Go.Sort.SWO (Go.Proofs.ltOf (cmpA (w := w) (lo := lo))) := by
  refine ⟨fun x => ?_, fun x y z h1 h2 => ?_, fun x y z h1 h2 => ?_⟩
  · simp [Go.Proofs.ltOf, cmpA, cmpF_self]
  · simp only [Go.Proofs.ltOf, decide_eq_true_eq] at *
    exact cmpF_trans _ _ _ h1 h2
  · simp only [Go.Proofs.ltOf, decide_eq_false_iff_not, cmpA] at *
    intro h3
    have h4 := cmpF_neg y.f z.f
    by_cases h5 : cmpF y.f z.f = 0
    · rw [(cmpF_eq _ _).1 h5] at h1; exact h1 h3
    · exact h1 (cmpF_trans _ _ _ h3 (by omega))
theorem mkFa {w : World} {lo : Nat} : ∀ (hs : List Hdr) (fs : List Fct), hs.length = fs.length → (∀ (i : Nat) (a : Hdr) (f : Fct), hs[i]? = some a → fs[i]? = some f → a.1 = f.1 ∧ OI w lo (hdV a) f.2 ∧ InR f.2) → ∃ d : List (Fa w lo), d.map Fa.h = hs ∧ d.map Fa.f = fs
  | [], [], _, _ => ⟨[], rfl, rfl⟩
  | [], _ :: _, h, _ => by simp at h
  | _ :: _, [], h, _ => by simp at h
  | a :: hs, f :: fs, h, k => by
    obtain ⟨d, e1, e2⟩ := mkFa hs fs (by simpa using h) fun i b g hb hg => k (i + 1) b g hb hg
    obtain ⟨k1, k2, k3⟩ := k 0 a f rfl rfl
    exact ⟨⟨a, f, k1, k2, k3⟩ :: d, by rw [List.map_cons, e1], by rw [List.map_cons, e2]⟩
/-- Rows that own no block in common. -/
def Off (a b : Hdr) : Prop := ∀ k, (hdV a).ownBlock = some k → (hdV b).ownBlock = some k → False
theorem Sep.pair {w : World} {lo : Nat} {hs : List Hdr} {fs : List Fct} (h : Sep w lo hs fs) : hs.Pairwise Off := by
  rw [List.pairwise_iff_getElem]
  intro i j hi hj hij k h1 h2
  have := h.apart i j _ _ k (List.getElem?_eq_getElem hi) (List.getElem?_eq_getElem hj) h1 h2
  omega
theorem sep_of {w : World} {lo : Nat} {d : List (Fa w lo)} (h : (d.map Fa.h).Pairwise Off) : Sep w lo (d.map Fa.h) (d.map Fa.f) := by
  refine ⟨by simp, fun i a f ha hf => ?_, fun i j a b k ha hb h1 h2 => ?_⟩
  · rw [List.getElem?_map] at ha hf
    obtain ⟨x, hx, rfl⟩ := Option.map_eq_some_iff.1 ha
    rw [hx] at hf
    injection hf with hf
    subst hf
    exact ⟨x.n, x.o, x.r⟩
  · rw [List.pairwise_iff_getElem] at h
    obtain ⟨hi, rfl⟩ := List.getElem?_eq_some_iff.1 ha
    obtain ⟨hj, rfl⟩ := List.getElem?_eq_some_iff.1 hb
    rcases Nat.lt_trichotomy i j with h3 | h3 | h3
    · exact (h i j hi hj h3 k h1 h2).elim
    · exact h3
    · exact (h j i hj hi h3 k h2 h1).elim
theorem off_perm {a b : List Hdr} (h : a.Perm b) (k : a.Pairwise Off) : b.Pairwise Off :=
  (h.pairwise_iff (fun {x y} hxy k h1 h2 => hxy k h2 h1)).1 k
theorem flatA_list {w : World} {lo : Nat} (d : List (Fa w lo)) : (Go.Sort.flatK encA 2 d.toArray).toList = (d.map Fa.h).flatMap encH := by
  have hl : ((d.map Fa.h).flatMap encH).length = d.length * 2 := by rw [flat_len (enc := encH) (sz := 2) (fun _ => rfl)]; simp
  apply List.ext_getElem?
  intro j
  by_cases hj : j < d.length * 2
  · have h1 := Go.Sort.get_flatK encA 2 d.toArray j (by simpa using hj)
    have hi : j / 2 < d.length := by omega
    have h2 := flat_get (enc := encH) (sz := 2) (fun _ => rfl) (d.map Fa.h) (j / 2) (j % 2) (by simpa using hi) (by omega)
    rw [show j / 2 * 2 + j % 2 = j by omega] at h2
    rw [h2]
    have hs : j < (Go.Sort.flatK encA 2 d.toArray).size := by simpa using hj
    rw [Array.getElem?_toList, Array.getElem?_eq_getElem hs, List.getElem_map]
    rw [getElem!_pos _ j hs, getElem!_pos _ (j / 2) (by simpa using hi)] at h1
    rw [h1]
    have hm : j % 2 < (encH d[j / 2].h).length := by show _ < 2; omega
    rw [List.getElem?_eq_getElem hm]
    simp only [List.getElem_toArray]
    rw [getElem!_pos (encA d[j / 2]) (j % 2) hm]
  · rw [Array.getElem?_toList, Array.getElem?_eq_none (by simp; omega), List.getElem?_eq_none (by rw [hl]; omega)]
theorem holdsA {w w0 : World} {lo lo2 g c : Nat} (d : List (Fa w0 lo2)) (h : OH w lo (.slice (some ⟨g, 0, none⟩) d.length c) (d.map Fa.h)) : Go.Sort.HoldsK encA 2 w g 0 d.toArray := by
  intro j hj
  have hj' : j < d.length * 2 := by simpa using hj
  have e := flatA_list d
  have h : w.ownsRow lo 30 2 (.slice (some ⟨g, 0, none⟩) d.length c) d.length ((d.map Fa.h).flatMap encH) := by
    have h2 := h
    unfold OH at h2
    rwa [List.length_map] at h2
  constructor
  · have h1 := h.cellAt j hj'
    rw [Nat.zero_add, h1, ← e, Array.getElem?_toList, Array.getElem?_eq_getElem hj, getElem!_pos _ j hj]
    rfl
  · rw [Nat.zero_add]; exact own_frozen h j
theorem ex_sortK {w : World} {α : Type} [Inhabited α] (enc : α → List Value) (g n : Nat) (d : Array α) (os : Array Obj) : Ex (fun b => b = g) w (Go.Proofs.sortWorldK enc 2 w g 0 n d os) := by
  unfold Go.Proofs.sortWorldK
  have hz : (Go.Sort.putRowK enc 2 (Go.Sort.ahead w n) g 0 d).heap.size = w.heap.size := by rw [Go.Sort.size_putRowK]; rfl
  refine ⟨rfl, rfl, rfl, ?_, fun k hk hn => ?_⟩
  · rw [Go.Sort.size_grow, hz]; omega
  · show ((Go.Sort.putRowK enc 2 (Go.Sort.ahead w n) g 0 d).heap ++ os)[k]? = _
    rw [Array.getElem?_append_left (by omega)]
    unfold Go.Sort.putRowK Go.Sort.putRow Go.Sort.mapBlock
    simp only [Array.getElem?_modify]
    rw [if_neg (fun e => hn e.symm)]
    rfl
theorem own_sorted {w w0 : World} {lo lo2 g c : Nat} (d d' : List (Fa w0 lo2)) (hl : d'.length = d.length) (n : Nat) (os : Array Obj) (h : OH w lo (.slice (some ⟨g, 0, none⟩) d.length c) (d.map Fa.h)) : OH (Go.Proofs.sortWorldK encA 2 w g 0 n d'.toArray os) lo (.slice (some ⟨g, 0, none⟩) d.length c) (d'.map Fa.h) := by
  unfold Go.Proofs.sortWorldK Go.Sort.putRowK
  have h0 := holdsA d h
  have e := Go.Lib.putRow_eq_setCells id w g 0 (Go.Sort.flatK encA 2 d.toArray) (Go.Sort.flatK encA 2 d'.toArray).toList n h0 (by simp [hl])
  rw [Array.toArray_toList] at e
  rw [e, List.map_id, flatA_list]
  have h1 : (w.drewN n).ownsRow lo 30 2 (.slice (some ⟨g, 0, none⟩) (d.map Fa.h).length c) (d.map Fa.h).length ((d.map Fa.h).flatMap encH) := by
    have h2 : w.ownsRow lo 30 2 (.slice (some ⟨g, 0, none⟩) (d.map Fa.h).length c) (d.map Fa.h).length ((d.map Fa.h).flatMap encH) := by
      have h3 := h
      rw [show d.length = (d.map Fa.h).length by simp] at h3
      exact h3
    exact own_move h2 (fun _ _ => rfl)
  have hlen : ((d'.map Fa.h).flatMap encH).length = (d.map Fa.h).length * 2 := by rw [flat_len (enc := encH) (sz := 2) (fun _ => rfl)]; simp [hl]
  obtain ⟨h2, _⟩ := own_sets ((d'.map Fa.h).flatMap encH) 0 _ _ h1 (by rw [hlen]; omega)
  rw [List.take_zero, List.nil_append, List.drop_of_length_le (by rw [hlen, flat_len (enc := encH) (sz := 2) (fun _ => rfl)]; omega), List.append_nil] at h2
  have h3 : (Go.Sort.grow ((w.drewN n).setCells g 0 ((d'.map Fa.h).flatMap encH)) os).ownsRow lo 30 2 (.slice (some ⟨g, 0, none⟩) (d.map Fa.h).length c) (d.map Fa.h).length ((d'.map Fa.h).flatMap encH) := by
    refine own_move h2 fun k hk => ?_
    have := own_lt h2 k hk
    show (((w.drewN n).setCells g 0 ((d'.map Fa.h).flatMap encH)).heap ++ os)[k]? = _
    rw [Array.getElem?_append_left this]
  show World.ownsRow _ _ _ _ _ (d'.map Fa.h).length _
  rw [show (d'.map Fa.h).length = (d.map Fa.h).length by simp [hl], show d.length = (d.map Fa.h).length by simp]
  exact h3
theorem cmpLaysA {w : World} {lo g c n : Nat} {hs : List Hdr} (h : OH w lo (.slice (some ⟨g, 0, none⟩) n c) hs) (size : Nat) : Go.Proofs.CmpLays Tryz.prog 12 #[] encA 2 (cmpA (w := w) (lo := lo)) g 0 size w := by
  intro m os dk hs x y
  have hE : Ex (fun b => b = g) w (Go.Proofs.sortWorldK encA 2 w g 0 m dk os) := ex_sortK encA g m dk os
  have hne : ∀ z : Fa w lo, OI (Go.Proofs.sortWorldK encA 2 w g 0 m dk os) lo (hdV z.h) z.f.2 := fun z => own_ex z.o hE (fun i hi e => own_ne_blk z.o h (by decide) hi (by rw [e]; rfl))
  obtain ⟨A0, c0, e0, h0⟩ := OI.rd (hne x) x.r
  obtain ⟨A1, c1, e1, h1⟩ := OI.rd (hne y) y.r
  have k := HD.cmpGrow_calls (Go.Proofs.sortWorldK encA 2 w g 0 m dk os) A0 c0 A1 c1 x.f y.f h0 h1
  have ex : (Value.agg (encA x).toArray) = .agg #[.int .i64 x.f.1, .slice A0 x.f.2.length c0] := by
    show Value.agg #[.int .i64 x.h.1, hdV x.h] = _
    rw [x.n, e0]
  have ey : (Value.agg (encA y).toArray) = .agg #[.int .i64 y.f.1, .slice A1 y.f.2.length c1] := by
    show Value.agg #[.int .i64 y.h.1, hdV y.h] = _
    rw [y.n, e1]
  rw [ex, ey]
  exact k
end Go.Proofs.YtngjhblbpapjeaaGreat.H
