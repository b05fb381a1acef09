/- Walks and plain laws for the law FnExactApplyToInstance, part 2 of 6: the texts HC3, HB4, HL1, HL3, HL2, HL4, HL5, HL6, HL7, HB6, HE, HK1, HC4, HB5 in one. No condition. -/
import Derived.Test.YtngjhblbpapjeaaGreatShelf
import Derived.Test.YtngjhblbpapjeaaGreatZFnExactApplyToInstance1
/- Walks: the program's own search for facts. No condition. -/
namespace Go.Proofs.YtngjhblbpapjeaaGreat.H
open Go Go.RowKit Go.Proofs.YtngjhblbpapjeaaGreatW.PrintWords Go.Proofs.YtngjhblbpapjeaaGreatW.PrintLast
open Go.Proofs.YtngjhblbpapjeaaGreat.Reg (On on_draw)
set_option maxHeartbeats 1000000
set_option maxRecDepth 100000
set_option linter.unusedVariables false
set_option linter.unusedSimpArgs false

theorem sameFact_calls (w : World) (A0 c0 A1 c1) (f g : Fct) (h0 : Ints w A0 c0 f.2) (h1 : Ints w A1 c1 g.2) : Calls Tryz.prog 52 #[.agg #[.int .i64 f.1, .slice A0 f.2.length c0], .agg #[.int .i64 g.1, .slice A1 g.2.length c1]] w fun e w' => e = .returned (.bool (cmpF f g == 0)) ∧ On w w' := by
  have hb := Aside0.mk (On.alloc (On.alloc (On.refl w) (.cells #[.int .i64 f.1, .slice A0 f.2.length c0] 30)) (.cells #[.int .i64 g.1, .slice A1 g.2.length c1] 30))
  go_enter Tryz.func52, Tryz.ntmps52
  go_wp2_with (go_at_call 12; refine (iCompareFacts_calls _ A0 c0 A1 c1 f g (h0.on hb.out) (h1.on hb.out)).mono ?_; rintro e w1 ⟨rfl, hb1⟩)
  go_ret
  exact ⟨rfl, hb.out.trans hb1⟩
theorem hasFact1_calls (w : World) (A0 c0 A1 c1) (f g : Fct) (b : Nat) (h0 : Ints w A0 c0 f.2) (h1 : Ints w A1 c1 g.2) (hb0 : w.heap[b]? = some (.cells #[.int .i64 g.1, .slice A1 g.2.length c1] 30 (0, 0))) : Calls Tryz.prog 79 #[.agg #[.int .i64 f.1, .slice A0 f.2.length c0], .pointer (some ⟨b, 0, none⟩)] w fun e w' => e = .returned (.bool (cmpF f g == 0)) ∧ On w w' := by
  have hb := Aside0.mk (On.alloc (On.refl w) (.cells #[.int .i64 f.1, .slice A0 f.2.length c0] 30))
  have hc := blk_cell (blk_below hb0 hb.out)
  have hlt := Aside0.mk (blk_lt hb0)
  clear hb0
  go_enter Tryz.func79, Tryz.ntmps79
  go_wp2_with (go_at_call 52; refine (sameFact_calls _ A0 c0 A1 c1 f g (h0.on hb.out) (h1.on hb.out)).mono ?_; rintro e w1 ⟨rfl, hb1⟩)
  go_ret
  exact ⟨rfl, hb.out.trans hb1⟩
/-- A call of a closure. -/
theorem goesC {ops : Array Oper} {rest : List Oper} {o : Oper} {a : Act} {Q : Exit → Act → World → Prop} {w : World} (N : Tmp) {x : Operand} {f : FuncId} {fn : Func} {xs : Array Operand} {ts : Array TypeId} {caps args : Array Value} (hf : Tryz.prog.funcs[f]? = some fn) (hname : (fn.name == "runtime.NumGoroutine") = false) (hb : fn.body.isSome = true)
    (h : Calls Tryz.prog f args w fun e w' => ∃ v, e = .returned v ∧ wpList Tryz.prog ops Q rest (a.put (some N) v) w')
    (hop : o.op = .call { callee := .value x, args := xs, argTypes := ts } := by rfl) (hx : a.eval x = .func (.func f) #[] caps := by rfl) (hargs : xs.map a.eval ++ caps = args := by (try simp only [List.map_toArray, List.map_cons, List.map_nil]); rfl)
    (hd : o.dst = some N := by rfl) (hg : o.guard = none := by rfl) : wpList Tryz.prog ops Q (o :: rest) a w := by
  refine wpList_plain hg fun K hK => ?_
  have he := enters_ hf hname hb args w
  have hrun : (execOp a.eval o).run Tryz.prog w = .ok (.enter f args) w := by
    unfold execOp
    simp [hop, resolve, Deferred.ofValue, invoke, hx, hargs, he]
  unfold Oper.wp
  rw [hrun, Oper.upon_enter]
  refine h.mono fun e w'' hh => ?_
  obtain ⟨v, rfl, hk⟩ := hh
  rw [← hd] at hk
  exact hK _ _ hk
theorem IndexFuncF_calls (w : World) (A c) (fs : List Fct) (h : Fcts w A c fs) {fn : FuncId} {F : Func} (caps : Array Value) (p : Fct → Bool) (hf : Tryz.prog.funcs[fn]? = some F) (hname : (F.name == "runtime.NumGoroutine") = false) (hbd : F.body.isSome = true)
    (hcl : ∀ (w' : World), On w w' → ∀ (f : Fct), f ∈ fs → ∀ (A1 : Option Addr) (c1 : Nat), Ints w' A1 c1 f.2 → Calls Tryz.prog fn (#[.agg #[.int .i64 f.1, .slice A1 f.2.length c1]] ++ caps) w' fun e w'' => e = .returned (.bool (p f)) ∧ On w' w'') :
    Calls Tryz.prog 92 #[.slice A fs.length c, .func (.func fn) #[] caps] w fun e w' => e = .returned (.int .i64 (idxFrom p fs 0)) ∧ On w w' := by
  have hmax := h.max
  go_enter Tryz.func92, Tryz.ntmps92
  go_wp2
  go_loopw [8] (fun v wr => ∃ k : Nat, k ≤ fs.length ∧ v = .int .i64 k ∧ Hid (idxFrom p (fs.drop k) k = idxFrom p fs 0) ∧ On w wr) (fun v _ => fs.length - (intOf v).toNat)
  case atStart => exact ⟨0, Nat.zero_le _, rfl, rfl, On.refl _⟩
  case round =>
    obtain ⟨k, hk, rfl, hp, hB⟩ := hrel
    by_cases hlt : k < fs.length
    · obtain ⟨ad, A1, c1, rfl, hx0, hx1, hx2⟩ := (h.on hB).at k hlt
      have hst := Aside0.mk ((idxFrom_step p fs k hlt).symm.trans hp.out)
      clear hp
      have hc2 := Aside0.mk (hcl wr hB fs[k] (List.getElem_mem hlt) A1 c1 hx2)
      cases hv : p fs[k] with
      | true =>
        rw [hv] at hc2
        have hv' := Aside0.mk hv
        clear hv
        go_wp2_with (refine gate 16 ?_)
        refine ⟨goesC 16 hf hname hbd (hc2.out.mono fun e w2 h2 => ⟨_, h2.1, ?_⟩)⟩
        have hb2 := Aside0.mk h2.2
        clear h2
        go_wp2
        go_ret
        exact ⟨ret_int (by have := hst.out; rw [hv'.out, if_pos rfl] at this; exact this), hB.trans hb2.out⟩
      | false =>
        rw [hv] at hc2
        have hv' := Aside0.mk hv
        clear hv
        go_wp2_with (refine gate 16 ?_)
        refine ⟨goesC 16 hf hname hbd (hc2.out.mono fun e w2 h2 => ⟨_, h2.1, ?_⟩)⟩
        have hb2 := Aside0.mk h2.2
        clear h2
        go_wp2
        exact ⟨⟨k + 1, by omega, by go_num, (by have := hst.out; rwa [hv'.out, if_neg (by simp)] at this : _ = _), hB.trans hb2.out⟩, by simp [intOf]; omega⟩
    · go_wp2
      go_ret
      exact ⟨ret_int (by rw [← hp.out, List.drop_of_length_le (by omega)]; rfl), hB⟩
theorem ContainsFuncF_calls (w : World) (A c) (fs : List Fct) (h : Fcts w A c fs) {fn : FuncId} {F : Func} (caps : Array Value) (p : Fct → Bool) (hf : Tryz.prog.funcs[fn]? = some F) (hname : (F.name == "runtime.NumGoroutine") = false) (hbd : F.body.isSome = true)
    (hcl : ∀ (w' : World), On w w' → ∀ (f : Fct), f ∈ fs → ∀ (A1 : Option Addr) (c1 : Nat), Ints w' A1 c1 f.2 → Calls Tryz.prog fn (#[.agg #[.int .i64 f.1, .slice A1 f.2.length c1]] ++ caps) w' fun e w'' => e = .returned (.bool (p f)) ∧ On w' w'') :
    Calls Tryz.prog 57 #[.slice A fs.length c, .func (.func fn) #[] caps] w fun e w' => e = .returned (.bool (fs.any p)) ∧ On w w' := by
  go_enter Tryz.func57, Tryz.ntmps57
  go_wp2_with (go_at_call 92; refine (IndexFuncF_calls w A c fs h caps p hf hname hbd hcl).mono ?_; rintro e w3 ⟨rfl, hb3⟩)
  go_ret
  exact ⟨ret_bool (idxFrom_any _ fs 0), hb3⟩
theorem hasFact_calls (w : World) (A c) (fs : List Fct) (h : Fcts w A c fs) (A1 c1) (g : Fct) (hg : Ints w A1 c1 g.2) : Calls Tryz.prog 35 #[.slice A fs.length c, .agg #[.int .i64 g.1, .slice A1 g.2.length c1]] w fun e w' => e = .returned (.bool (fs.any fun f => cmpF f g == 0)) ∧ On w w' := by
  have hb := Aside0.mk (On.alloc (On.refl w) (.cells #[.int .i64 g.1, .slice A1 g.2.length c1] 30))
  have hL := Aside0.mk (loc_new w #[.int .i64 g.1, .slice A1 g.2.length c1] 30)
  go_enter Tryz.func35, Tryz.ntmps35
  go_wp2_with (go_at_call 57; refine (ContainsFuncF_calls _ A c fs (h.on hb.out) (fn := 79) #[.pointer (some ⟨w.heap.size, 0, none⟩)] (fun f => cmpF f g == 0) Tryz.func79 (by kernel_rfl) rfl (fun w' hw f hf B d hB => hasFact1_calls w' B d A1 c1 f g w.heap.size hB (hg.on (hb.out.trans hw)) (blk_below hL.out hw))).mono ?_; rintro e w3 ⟨rfl, hb3⟩)
  go_ret
  exact ⟨rfl, hb.out.trans hb3⟩
end Go.Proofs.YtngjhblbpapjeaaGreat.H
/- Walks: nulls. No condition. -/
namespace Go.Proofs.YtngjhblbpapjeaaGreat.H
open Go Go.RowKit Go.Proofs.YtngjhblbpapjeaaGreatW.PrintWords Go.Proofs.YtngjhblbpapjeaaGreatW.PrintLast
open Go.Proofs.YtngjhblbpapjeaaGreat.Reg (On on_draw)
set_option maxHeartbeats 1000000
set_option maxRecDepth 100000
set_option linter.unusedVariables false
set_option linter.unusedSimpArgs false

theorem l4Put_calls (w : World) (lo : Nat) (hlo : lo ≤ w.heap.size) (v : Value) (l : List Int) (x : Int) (hO : OInts w lo v l) (hr : InR l) (hl : l.length ≤ 5000000000) :
    Calls Tryz.prog 117 #[v, .int .i64 x] w (Got fun v' w' => OInts w' lo v' (put l x) ∧ On w w') := by
  obtain ⟨A, c, rfl, hI⟩ := OInts.slice hO hr
  go_enter Tryz.func117, Tryz.ntmps117
  go_wp2
  go_loop [5] (fun v => ∃ k : Nat, k ≤ l.length ∧ v = .int .i64 k ∧ Hid (∀ j, (h : j < l.length) → j < k → l[j] < x)) (fun v => l.length - (intOf v).toNat)
  case atStart => exact ⟨0, Nat.zero_le _, rfl, fun j _ h => by omega⟩
  case round =>
    obtain ⟨k, hk, rfl, hp⟩ := hrel
    by_cases hlt : k < l.length
    · obtain ⟨ad, rfl, hx⟩ := hI.at k hlt
      by_cases h1 : l[k] < x
      · have h1b : decide (l[k] < x) = true := decide_eq_true h1
        have hp2 := Aside0.mk hp.out
        clear hp
        go_wp2
        go_round
        case rel => exact ⟨k + 1, by omega, by go_num, fun j hj h => by
          rcases Nat.lt_or_ge j k with h2 | h2
          · exact hp2.out j hj h2
          · obtain rfl : j = k := by omega
            exact of_decide_eq_true h1b⟩
        case measure => simp [intOf]; omega
      · have h1b : decide (l[k] < x) = false := decide_eq_false h1
        have hm := Aside0.mk (put_mid l x k hlt (fun j h => hp.out j (by omega) h) h1)
        clear hp
        by_cases h2 : l[k] = x
        · have h2b : (l[k] == x) = true := beq_iff_eq.mpr h2
          go_wp2
          go_ret
          exact ⟨_, rfl, by rw [hm.out, if_pos (beq_iff_eq.1 h2b)]; exact hO, On.refl _⟩
        · have h2b : (l[k] == x) = false := beq_eq_false_iff_ne.mpr h2
          go_wp2_with (refine gate 38 ?_)
          refine ⟨slF 38 (hI.on (On.alloc (On.refl _) _)) hk fun A1 c1 hI1 => ?_⟩
          obtain ⟨ys, hys⟩ : ∃ ys, [x] ++ l.drop k = ys := ⟨_, rfl⟩
          have hys' := Aside0.mk hys
          refine apI 39 hys (own1 w x) hI1.2.1 (by simp) (by simp; omega) fun v2 w2 hO2 hg2 hat2 => ?_
          clear hys
          have hB2 : On w w2 := grown_own (On.alloc (On.refl _) _) (own1 w x) hg2 (Nat.le_refl _)
          go_wp2_with (refine gate 43 ?_)
          refine ⟨slT 43 (hI.on (hB2.trans (On.alloc (On.refl _) _))) hk fun hI3 => ?_⟩
          refine apI 44 (List.nil_append _) (own0 w2) hI3.2.1 (by simp) (by simp; omega) fun v4 w4 hO4 hg4 hat4 => ?_
          have hB4 : On w2 w4 := grown_own (On.alloc (On.refl _) _) (own0 w2) hg4 (Nat.le_refl _)
          obtain ⟨A2, c2, rfl, _, hC2⟩ := Kd.R_reads (OInts.on hO2 hB4)
          go_wp2_with (refine gate 46 ?_)
          obtain ⟨zs, hzs⟩ : ∃ zs, l.take k ++ ys = zs := ⟨_, rfl⟩
          have hzs' := Aside0.mk hzs
          refine ⟨apI 46 hzs hO4 hC2 hB4.size (by have := congrArg List.length hys'.out; simp at this ⊢; omega) fun v6 w6 hO6 hg6 hat6 => ?_⟩
          clear hzs
          have hB6 : On w w6 := hB2.trans (grown_own hB4 hO4 hg6 (Nat.le_refl _))
          go_wp2
          go_ret
          exact ⟨_, rfl, by rw [hm.out, if_neg (beq_eq_false_iff_ne.1 h2b)]; have h9 := Kd.R_lower hO6 (base' := lo) (by have := hB2.size; omega); rw [← hzs'.out, ← hys'.out] at h9; simpa using h9, hB6⟩
    · obtain rfl : k = l.length := by omega
      have hm := Aside0.mk (put_end l x (fun j h => hp.out j h h))
      clear hp
      go_wp2_with (refine gate 38 ?_)
      refine ⟨slF 38 (hI.on (On.alloc (On.refl _) _)) hk fun A1 c1 hI1 => ?_⟩
      obtain ⟨ys, hys⟩ : ∃ ys, [x] ++ l.drop l.length = ys := ⟨_, rfl⟩
      have hys' := Aside0.mk hys
      refine apI 39 hys (own1 w x) hI1.2.1 (by simp) (by simp) fun v2 w2 hO2 hg2 hat2 => ?_
      clear hys
      have hB2 : On w w2 := grown_own (On.alloc (On.refl _) _) (own1 w x) hg2 (Nat.le_refl _)
      go_wp2_with (refine gate 43 ?_)
      refine ⟨slT 43 (hI.on (hB2.trans (On.alloc (On.refl _) _))) hk fun hI3 => ?_⟩
      refine apI 44 (List.nil_append _) (own0 w2) hI3.2.1 (by simp) (by simp; omega) fun v4 w4 hO4 hg4 hat4 => ?_
      have hB4 : On w2 w4 := grown_own (On.alloc (On.refl _) _) (own0 w2) hg4 (Nat.le_refl _)
      obtain ⟨A2, c2, rfl, _, hC2⟩ := Kd.R_reads (OInts.on hO2 hB4)
      go_wp2_with (refine gate 46 ?_)
      obtain ⟨zs, hzs⟩ : ∃ zs, l.take l.length ++ ys = zs := ⟨_, rfl⟩
      have hzs' := Aside0.mk hzs
      refine ⟨apI 46 hzs hO4 hC2 hB4.size (by have := congrArg List.length hys'.out; simp at this ⊢; omega) fun v6 w6 hO6 hg6 hat6 => ?_⟩
      clear hzs
      have hB6 : On w w6 := hB2.trans (grown_own hB4 hO4 hg6 (Nat.le_refl _))
      go_wp2
      go_ret
      exact ⟨_, rfl, by rw [hm.out]; have h9 := Kd.R_lower hO6 (base' := lo) (by have := hB2.size; omega); rw [← hzs'.out, ← hys'.out] at h9; simpa using h9, hB6⟩
theorem NullsOfFact_calls (w : World) (A : Option Addr) (c : Nat) (r : Int) (vs : List Int) (hI : Ints w A c vs) (hl : vs.length ≤ 1000000000) :
    Calls Tryz.prog 86 #[.agg #[.int .i64 r, .slice A vs.length c]] w (Got fun v' w' => OInts w' w.heap.size v' (nuls vs) ∧ On w w') := by
  go_enter Tryz.func86, Tryz.ntmps86
  go_wp2
  go_loopw [3, 4] (fun v3 v4 wr => ∃ (k : Nat) (out : List Int), k ≤ vs.length ∧ v4 = .int .i64 k ∧ Aside0 (OInts wr w.heap.size v3 out) ∧ Aside0 (nulsFrom out (vs.drop k) = nuls vs) ∧ out.length ≤ k ∧ Aside0 (InR out) ∧ On w wr ∧ Loc wr [(w.heap.size, #[.int .i64 r, .slice A vs.length c], 30)]) (fun _ v4 _ => vs.length - (intOf v4).toNat)
  case atStart => exact ⟨0, [], Nat.zero_le _, rfl, ⟨own0' (by simp) (by simp)⟩, ⟨rfl⟩, Nat.zero_le _, ⟨fun x hx => by cases hx⟩, On.alloc (On.alloc (On.refl _) _) _, Loc.on (On.alloc (On.refl _) _) (loc1 _ _ _)⟩
  case round =>
    obtain ⟨k, out, hk, rfl, hO, hp, hlen, hR, hB, hL⟩ := hrel
    have hc0 := blk_cell hL.1
    have hL' := Aside0.mk hL
    clear hL
    by_cases hlt : k < vs.length
    · obtain ⟨ad, rfl, hx⟩ := (hI.on hB).at k hlt
      have hbd := hI.bd k hlt
      have hst := Aside0.mk ((nulsFrom_step out vs k hlt).symm.trans hp.out)
      clear hp
      cases hn : isNul vs[k] with
      | false =>
        have hn' := Aside0.mk hn
        clear hn
        go_wp2_with (go_at_call 116; refine (NullNumber_calls _ _ hbd.1).mono ?_; rintro e w2 ⟨rfl, hb2⟩; rw [hn'.out])
        go_roundw
        case rel => exact ⟨k + 1, out, by omega, by go_num, ⟨OInts.on hO.out hb2⟩, ⟨by have := hst.out; rwa [hn'.out, if_neg (by simp)] at this⟩, by omega, hR, hB.trans hb2, Loc.on hb2 hL'.out⟩
        case measure => simp [intOf]; omega
      | true =>
        have hn' := Aside0.mk hn
        clear hn
        have hnb := nulNum_bd vs[k]
        go_wp2_with (first | (go_at_call 116; refine (NullNumber_calls _ _ hbd.1).mono ?_; rintro e w2 ⟨rfl, hb2⟩; rw [hn'.out]) | (go_at_call 117; refine (l4Put_calls w2 w.heap.size (hB.trans hb2).size _ out (nulNum vs[k]) (OInts.on hO.out hb2) hR.out (by omega)).mono ?_; rintro e w3 ⟨v3, rfl, hO3, hb3⟩))
        go_roundw
        case rel => exact ⟨k + 1, put out (nulNum vs[k]), by omega, by go_num, ⟨hO3⟩, ⟨by have := hst.out; rwa [hn'.out, if_pos rfl] at this⟩, by have := put_length out (nulNum vs[k]); omega, ⟨put_inR hR.out (by omega) (by omega)⟩, (hB.trans hb2).trans hb3, Loc.on (hb2.trans hb3) hL'.out⟩
        case measure => simp [intOf]; omega
    · have hp' := Aside0.mk hp.out
      clear hp
      go_wp2
      go_ret
      exact ⟨_, rfl, by have := hp'.out; rw [List.drop_of_length_le (by omega)] at this; rw [← this]; exact hO.out, hB⟩
end Go.Proofs.YtngjhblbpapjeaaGreat.H
/- Walks: the laws' own helpers: how large, copies. No condition. -/
namespace Go.Proofs.YtngjhblbpapjeaaGreat.H
open Go Go.RowKit Go.Proofs.YtngjhblbpapjeaaGreatW.PrintWords Go.Proofs.YtngjhblbpapjeaaGreatW.PrintLast
open Go.Proofs.YtngjhblbpapjeaaGreat.Reg (On on_draw)
set_option maxHeartbeats 1000000
set_option maxRecDepth 100000
set_option linter.unusedVariables false
set_option linter.unusedSimpArgs false

/-- How much relations and facts weigh. -/
def wR (rs : List Rel) : Nat := (rs.map fun r => r.1.size + 1).sum
def wF (fs : List Fct) : Nat := (fs.map fun f => f.2.length + 1).sum
theorem wR_take (rs : List Rel) (k : Nat) (h : k < rs.length) : wR (rs.take (k + 1)) = wR (rs.take k) + (rs[k].1.size + 1) := by
  unfold wR; rw [List.take_succ_eq_append_getElem h, List.map_append, List.sum_append]; simp only [List.map_cons, List.map_nil, List.sum_cons, List.sum_nil, Nat.add_zero]
theorem wF_take (fs : List Fct) (k : Nat) (h : k < fs.length) : wF (fs.take (k + 1)) = wF (fs.take k) + (fs[k].2.length + 1) := by
  unfold wF; rw [List.take_succ_eq_append_getElem h, List.map_append, List.sum_append]; simp only [List.map_cons, List.map_nil, List.sum_cons, List.sum_nil, Nat.add_zero]
/-- A measure was taken: what is left, if anything. -/
structure Sz (n : Int) (m : Nat) (w : World) (e : Ending) (w' : World) : Prop where mk :: (out : ∃ q : Int, e = .returned (.int .i64 q) ∧ (0 ≤ q → q + m ≤ n) ∧ On w w')
theorem szRelation_calls (w : World) (r : Rel) (n : Int) (h0 : 0 ≤ n) (h1 : n ≤ 2000000) (hs : r.1.size ≤ 9223372036854775807) : Calls Tryz.prog 99 #[.agg #[.string r.1, .int .i64 r.2.1, .bool r.2.2], .int .i64 n] w (Sz n r.1.size w) := by
  have hw : IntKind.i64.wrap (n - (r.1.size : Int)) = n - r.1.size := IntWalk.i64_in _ (by omega)
  by_cases h : n - (r.1.size : Int) < 0
  · have hb : decide (n - (r.1.size : Int) < 0) = true := decide_eq_true h
    have hb2 : decide (n < (r.1.size : Int)) = true := decide_eq_true (by omega)
    go_enter Tryz.func99, Tryz.ntmps99
    go_wp2
    go_ret
    exact ⟨_, rfl, fun h => by omega, On.alloc (On.refl _) _⟩
  · have hb : decide (n - (r.1.size : Int) < 0) = false := decide_eq_false h
    have hb2 : decide (n < (r.1.size : Int)) = false := decide_eq_false (by omega)
    go_enter Tryz.func99, Tryz.ntmps99
    go_wp2
    go_ret
    exact ⟨_, rfl, fun h => by omega, On.alloc (On.refl _) _⟩
theorem szIntS_calls (w : World) (A c) (xs : List Int) (n : Int) (h0 : 0 ≤ n) (h1 : n ≤ 2000000) (h : Ints w A c xs) : Calls Tryz.prog 61 #[.slice A xs.length c, .int .i64 n] w (Sz n xs.length w) := by
  have hmax := h.max
  have hw : IntKind.i64.wrap (n - (xs.length : Int)) = n - xs.length := IntWalk.i64_in _ (by omega)
  by_cases h : n - (xs.length : Int) < 0
  · have hb : decide (n - (xs.length : Int) < 0) = true := decide_eq_true h
    have hb2 : decide (n < (xs.length : Int)) = true := decide_eq_true (by omega)
    go_enter Tryz.func61, Tryz.ntmps61
    go_wp2
    go_ret
    exact ⟨_, rfl, fun h => by omega, On.refl _⟩
  · have hb : decide (n - (xs.length : Int) < 0) = false := decide_eq_false h
    have hb2 : decide (n < (xs.length : Int)) = false := decide_eq_false (by omega)
    go_enter Tryz.func61, Tryz.ntmps61
    go_wp2
    go_ret
    exact ⟨_, rfl, fun h => by omega, On.refl _⟩
theorem szFact_calls (w : World) (A c) (f : Fct) (n : Int) (h0 : 0 ≤ n) (h1 : n ≤ 2000000) (h : Ints w A c f.2) : Calls Tryz.prog 20 #[.agg #[.int .i64 f.1, .slice A f.2.length c], .int .i64 n] w (Sz n f.2.length w) := by
  have hb := Aside0.mk (On.alloc (On.refl w) (.cells #[.int .i64 f.1, .slice A f.2.length c] 45))
  go_enter Tryz.func20, Tryz.ntmps20
  go_wp2_with (go_at_call 61; refine (szIntS_calls _ _ _ f.2 _ h0 h1 (h.on hb.out)).mono ?_; rintro e w1 ⟨q, rfl, hq, hb1⟩)
  all_goals
    go_ret
    exact ⟨_, rfl, fun h => by first | exact hq (by omega) | omega, hb.out.trans hb1⟩
theorem szRelationS_calls (w : World) (A c) (rs : List Rel) (n : Int) (h0 : 0 ≤ n) (h1 : n ≤ 2000000) (h : Rels w A c rs) (hsz : ∀ r ∈ rs, r.1.size ≤ 9223372036854775807) : Calls Tryz.prog 59 #[.slice A rs.length c, .int .i64 n] w (Sz n (wR rs) w) := by
  have hmax := h.max
  have hw : IntKind.i64.wrap (n - (rs.length : Int)) = n - rs.length := IntWalk.i64_in _ (by omega)
  by_cases hn : n - (rs.length : Int) < 0
  · have hb : decide (n - (rs.length : Int) < 0) = true := decide_eq_true hn
    have hb2 : decide (n < (rs.length : Int)) = true := decide_eq_true (by omega)
    go_enter Tryz.func59, Tryz.ntmps59
    go_wp2
    go_ret
    exact ⟨_, rfl, fun h => by omega, On.refl _⟩
  · have hb : decide (n - (rs.length : Int) < 0) = false := decide_eq_false hn
    have hb2 : decide (n < (rs.length : Int)) = false := decide_eq_false (by omega)
    go_enter Tryz.func59, Tryz.ntmps59
    go_wp2
    go_loopw [5, 1] (fun v5 v1 wr => ∃ (k : Nat) (m : Int), k ≤ rs.length ∧ v5 = .int .i64 k ∧ v1 = .int .i64 m ∧ 0 ≤ m ∧ Aside0 (m + wR (rs.take k) + (rs.length - k) ≤ n) ∧ On w wr) (fun v5 _ _ => rs.length - (intOf v5).toNat)
    case atStart => exact ⟨0, _, Nat.zero_le _, rfl, rfl, by omega, ⟨by simp [wR]⟩, On.refl _⟩
    case round =>
      obtain ⟨k, m, hk, rfl, rfl, hm, hp, hB⟩ := hrel
      by_cases hlt : k < rs.length
      · obtain ⟨ad, rfl, hx0, hx1, hx2⟩ := (h.on hB).at k hlt
        have hst := Aside0.mk (wR_take rs k hlt)
        have hmn := Aside0.mk (show m ≤ n by have := hp.out; omega)
        have hsr := hsz _ (List.getElem_mem hlt)
        have hrest := Aside0.mk (show m + wR (rs.take (k + 1)) + (rs.length - (k + 1 : Nat)) ≤ n + rs[k].1.size by have := hp.out; have := hst.out; omega)
        clear hp
        go_wp2_with (go_at_call 99; refine (szRelation_calls wr rs[k] m hm (by have := hmn.out; omega) hsr).mono ?_; rintro e w3 ⟨q, rfl, hq0, hb3⟩; have hq := Aside0.mk hq0; clear hq0; by_cases hneg : q < 0)
        · go_ret
          exact ⟨_, rfl, fun h => by omega, hB.trans hb3⟩
        · go_roundw
          case rel => exact ⟨k + 1, q, by omega, by go_num, rfl, by omega, ⟨by have := hrest.out; have := hq.out (by omega); omega⟩, hB.trans hb3⟩
          case measure => simp [intOf]; omega
      · go_wp2
        go_ret
        refine ⟨_, rfl, fun h => ?_, hB⟩
        have h1 := hp.out
        rw [List.take_of_length_le (by omega)] at h1
        omega
theorem toRelation_calls (w : World) (r : Rel) : Calls Tryz.prog 100 #[.agg #[.string r.1, .int .i64 r.2.1, .bool r.2.2]] w fun e w' => e = .returned (.agg #[.string r.1, .int .i64 r.2.1, .bool r.2.2]) ∧ On w w' := by
  go_enter Tryz.func100, Tryz.ntmps100
  go_wp2
  refine bodyPost_ret (retR rfl rfl (g := w.heap.size + 1) (by have := heap_alloc2_old (w.alloc (.cells #[.string r.1, .int .i64 r.2.1, .bool r.2.2] 112)) (.cells #[.string r.1, .int .i64 r.2.1, .bool r.2.2] 81) (.cells #[.string r.1, .int .i64 r.2.1, .bool r.2.2] 81); simpa using this) rfl) rfl ?_
  exact ⟨rfl, On.alloc (On.alloc (On.alloc (On.refl _) _) _) _⟩
theorem toIntS_calls (w : World) (A c) (xs : List Int) (h : Ints w A c xs) (hl : xs.length ≤ 2000000) : Calls Tryz.prog 64 #[.slice A xs.length c] w (Got fun v w' => OI w' w.heap.size v xs ∧ On w w') := by
  go_enter Tryz.func64, Tryz.ntmps64
  go_wp2_with (refine gate 7 ?_)
  refine ⟨mkRow 7 (m := xs.length) Tryz.underlying28 infoI rfl (by omega) (by omega) fun hO => ?_⟩
  have hB := On.alloc (On.refl w) (.cells (madeCells (Value.int .i64 0).cells (xs.length * 1)) 3)
  obtain ⟨w1, hw1⟩ : ∃ w1, w.alloc (.cells (madeCells (Value.int .i64 0).cells (xs.length * 1)) 3) = w1 := ⟨_, rfl⟩
  rw [hw1] at hO hB ⊢
  clear hw1
  have hO' := Aside0.mk hO
  clear hO
  go_wp2
  go_loopw [4] (fun v wr => ∃ (k : Nat) (cs : List Value), k ≤ xs.length ∧ v = .int .i64 k ∧ Aside0 (wr.ownsRow w.heap.size 3 1 (.slice (some ⟨w.heap.size, 0, none⟩) xs.length xs.length) xs.length ((xs.take k).flatMap encI ++ cs)) ∧ On w wr) (fun v _ => xs.length - (intOf v).toNat)
  case atStart => exact ⟨0, _, Nat.zero_le _, rfl, by simpa using hO', hB⟩
  case round =>
    obtain ⟨k, cs, hk, rfl, hO, hB⟩ := hrel
    by_cases hlt : k < xs.length
    · obtain ⟨ad, rfl, hx⟩ := (h.on hB).at k hlt
      have hcl := Aside0.mk (show 0 < cs.length by have := hO.out.1; simp [flat_len (enc := encI) (sz := 1) (fun _ => rfl)] at this; omega)
      have hfz : wr.frozen? ⟨w.heap.size, k, none⟩ = false := own_frozen hO.out k
      obtain ⟨z, hz⟩ := own_some hO.out k (by omega)
      have hO2 := hO
      clear hO
      go_wp2
      obtain ⟨z0, cs', rfl⟩ : ∃ z0 cs', cs = z0 :: cs' := by
        cases cs with
        | nil => exact absurd hcl.out (by simp)
        | cons a b => exact ⟨a, b, rfl⟩
      refine ⟨⟨k + 1, cs', by omega, by go_num, ⟨?_⟩, Reg.On.set hB (Nat.le_refl _) _⟩, by simp [intOf]; omega⟩
      have := (hO2.out.stored k (.int .i64 xs[k])).1
      rw [set1 k (by simp [flat_len (enc := encI) (sz := 1) (fun _ => rfl)]; omega)] at this
      rw [flat_take_succ xs k hlt, List.append_assoc]
      exact this
    · have hO2 := hO
      clear hO
      go_wp2
      go_ret
      refine ⟨_, rfl, ?_, hB⟩
      have h1 := hO2.out
      have h2 := h1.1
      rw [List.take_of_length_le (by omega)] at h1 h2
      have h3 : cs = [] := by
        rw [List.length_append, flat_len (enc := encI) (sz := 1) (fun _ => rfl)] at h2
        exact List.eq_nil_of_length_eq_zero (by omega)
      subst h3
      rw [List.append_nil] at h1
      exact h1
theorem szFactS_calls (w : World) (A c) (fs : List Fct) (n : Int) (h0 : 0 ≤ n) (h1 : n ≤ 2000000) (h : Fcts w A c fs) : Calls Tryz.prog 60 #[.slice A fs.length c, .int .i64 n] w (Sz n (wF fs) w) := by
  have hmax := h.max
  have hw : IntKind.i64.wrap (n - (fs.length : Int)) = n - fs.length := IntWalk.i64_in _ (by omega)
  by_cases hn : n - (fs.length : Int) < 0
  · have hb : decide (n - (fs.length : Int) < 0) = true := decide_eq_true hn
    have hb2 : decide (n < (fs.length : Int)) = true := decide_eq_true (by omega)
    go_enter Tryz.func60, Tryz.ntmps60
    go_wp2
    go_ret
    exact ⟨_, rfl, fun h => by omega, On.refl _⟩
  · have hb : decide (n - (fs.length : Int) < 0) = false := decide_eq_false hn
    have hb2 : decide (n < (fs.length : Int)) = false := decide_eq_false (by omega)
    go_enter Tryz.func60, Tryz.ntmps60
    go_wp2
    go_loopw [5, 1] (fun v5 v1 wr => ∃ (k : Nat) (m : Int), k ≤ fs.length ∧ v5 = .int .i64 k ∧ v1 = .int .i64 m ∧ 0 ≤ m ∧ Aside0 (m + wF (fs.take k) + (fs.length - k) ≤ n) ∧ On w wr) (fun v5 _ _ => fs.length - (intOf v5).toNat)
    case atStart => exact ⟨0, _, Nat.zero_le _, rfl, rfl, by omega, ⟨by simp [wF]⟩, On.refl _⟩
    case round =>
      obtain ⟨k, m, hk, rfl, rfl, hm, hp, hB⟩ := hrel
      by_cases hlt : k < fs.length
      · obtain ⟨ad, A1, c1, rfl, hx0, hx1, hx2⟩ := (h.on hB).at k hlt
        have hst := Aside0.mk (wF_take fs k hlt)
        have hmn := Aside0.mk (show m ≤ n by have := hp.out; omega)
        have hrest := Aside0.mk (show m + wF (fs.take (k + 1)) + (fs.length - (k + 1 : Nat)) ≤ n + fs[k].2.length by have := hp.out; have := hst.out; omega)
        clear hp
        go_wp2_with (go_at_call 20; refine (szFact_calls wr A1 c1 fs[k] m hm (by have := hmn.out; omega) hx2).mono ?_; rintro e w3 ⟨q, rfl, hq0, hb3⟩; have hq := Aside0.mk hq0; clear hq0; by_cases hneg : q < 0)
        · go_ret
          exact ⟨_, rfl, fun h => by omega, hB.trans hb3⟩
        · go_roundw
          case rel => exact ⟨k + 1, q, by omega, by go_num, rfl, by omega, ⟨by have := hrest.out; have := hq.out (by omega); omega⟩, hB.trans hb3⟩
          case measure => simp [intOf]; omega
      · go_wp2
        go_ret
        refine ⟨_, rfl, fun h => ?_, hB⟩
        have h1 := hp.out
        rw [List.take_of_length_le (by omega)] at h1
        omega
end Go.Proofs.YtngjhblbpapjeaaGreat.H
/- Walks: the laws' own copies. No condition. -/
namespace Go.Proofs.YtngjhblbpapjeaaGreat.H
open Go Go.RowKit Go.Proofs.YtngjhblbpapjeaaGreatW.PrintWords Go.Proofs.YtngjhblbpapjeaaGreatW.PrintLast
open Go.Proofs.YtngjhblbpapjeaaGreat.Reg (On on_draw)
set_option maxHeartbeats 1000000
set_option maxRecDepth 100000
set_option linter.unusedVariables false
set_option linter.unusedSimpArgs false

theorem toRelationS_calls (w : World) (A c) (rs : List Rel) (h : Rels w A c rs) (hl : rs.length ≤ 2000000) : Calls Tryz.prog 62 #[.slice A rs.length c] w (Got fun v w' => OR w' w.heap.size v rs ∧ On w w') := by
  go_enter Tryz.func62, Tryz.ntmps62
  go_wp2_with (refine gate 7 ?_)
  refine ⟨mkRow 7 (m := rs.length) Tryz.underlying24 infoR rfl (by omega) (by omega) fun hO => ?_⟩
  obtain ⟨cs0, hcs0⟩ : ∃ cs0, madeCells (Value.agg #[.string ⟨#[]⟩, .int .i64 0, .bool false]).cells (rs.length * 3) = cs0 := ⟨_, rfl⟩
  rw [hcs0] at hO ⊢
  clear hcs0
  have hB := On.alloc (On.refl w) (.cells cs0 81)
  obtain ⟨w1, hw1⟩ : ∃ w1, w.alloc (.cells cs0 81) = w1 := ⟨_, rfl⟩
  rw [hw1] at hO hB ⊢
  clear hw1
  have hO' := Aside0.mk hO
  clear hO
  go_wp2
  go_loopw [4] (fun v wr => ∃ (k : Nat) (cs : List Value), k ≤ rs.length ∧ v = .int .i64 k ∧ Aside0 (wr.ownsRow w.heap.size 81 3 (.slice (some ⟨w.heap.size, 0, none⟩) rs.length rs.length) rs.length ((rs.take k).flatMap encR ++ cs)) ∧ On w wr) (fun v _ => rs.length - (intOf v).toNat)
  case atStart => exact ⟨0, _, Nat.zero_le _, rfl, by simpa using hO', hB⟩
  case round =>
    obtain ⟨k, cs, hk, rfl, hO, hB⟩ := hrel
    by_cases hlt : k < rs.length
    · obtain ⟨ad, rfl, hx0, hx1, hx2⟩ := (h.on hB).at k hlt
      have hcl := Aside0.mk (show 3 ≤ cs.length by have := hO.out.1; simp [flat_len (enc := encR) (sz := 3) (fun _ => rfl)] at this; omega)
      have hO2 := hO
      clear hO
      go_wp2_with (go_at_call 100; refine (toRelation_calls wr rs[k]).mono ?_; rintro e w2 ⟨rfl, hb2⟩; have hO3 := Aside0.mk (pw_own_below hO2.out hb2); have hfz := own_frozen hO3.out (k * 3); have hfz1 := own_frozen hO3.out (k * 3 + 1); have hfz2 := own_frozen hO3.out (k * 3 + 2); obtain ⟨z, hz⟩ := own_some hO3.out (k * 3) (by omega); obtain ⟨z1, hz1⟩ := own_some hO3.out (k * 3 + 1) (by omega); obtain ⟨z2, hz2⟩ := own_some hO3.out (k * 3 + 2) (by omega))
      obtain ⟨z0, z1, z2, hcs⟩ := split3 (cs := cs) (i := 0) (by have := hcl.out; omega)
      simp only [List.take_zero, List.nil_append, Nat.zero_add] at hcs
      refine ⟨⟨k + 1, cs.drop 3, by omega, by go_num, ⟨?_⟩, Reg.On.set (Reg.On.set (Reg.On.set (hB.trans hb2) (Nat.le_refl _) _) (Nat.le_refl _) _) (Nat.le_refl _) _⟩, by simp [intOf]; omega⟩
      have := ((hO3.out.stored (k * 3) (.string rs[k].1)).1.stored (k * 3 + 1) (.int .i64 rs[k].2.1)).1.stored (k * 3 + 2) (.bool rs[k].2.2) |>.1
      rw [hcs, set3 (k * 3) (by rw [flat_len (enc := encR) (sz := 3) (fun _ => rfl), List.length_take]; omega)] at this
      rw [flat_take_succ rs k hlt, List.append_assoc]
      exact this
    · have hO2 := hO
      clear hO
      go_wp2
      go_ret
      refine ⟨_, rfl, ?_, hB⟩
      have h1 := hO2.out
      have h2 := h1.1
      rw [List.take_of_length_le (by omega)] at h1 h2
      have h3 : cs = [] := by
        rw [List.length_append, flat_len (enc := encR) (sz := 3) (fun _ => rfl)] at h2
        exact List.eq_nil_of_length_eq_zero (by omega)
      subst h3
      rw [List.append_nil] at h1
      exact h1
end Go.Proofs.YtngjhblbpapjeaaGreat.H
/- Walks: the laws' own copies. No condition. -/
namespace Go.Proofs.YtngjhblbpapjeaaGreat.H
open Go Go.RowKit Go.Proofs.YtngjhblbpapjeaaGreatW.PrintWords Go.Proofs.YtngjhblbpapjeaaGreatW.PrintLast
open Go.Proofs.YtngjhblbpapjeaaGreat.Reg (On on_draw)
set_option maxHeartbeats 1000000
set_option maxRecDepth 100000
set_option linter.unusedVariables false
set_option linter.unusedSimpArgs false

theorem toFact_calls (w : World) (A c) (f : Fct) (h : Ints w A c f.2) (hl : f.2.length ≤ 2000000) : Calls Tryz.prog 22 #[.agg #[.int .i64 f.1, .slice A f.2.length c]] w (Got fun v w' => ∃ v1, v = .agg #[.int .i64 f.1, v1] ∧ OI w' w.heap.size v1 f.2 ∧ On w w') := by
  have hb := Aside0.mk (On.alloc (On.alloc (On.alloc (On.refl w) (.cells #[.int .i64 f.1, .slice A f.2.length c] 45)) (.cells #[.int .i64 0, .slice none 0 0] 30)) (.cells #[.int .i64 f.1, .slice none 0 0] 30))
  have hL := Aside0.mk (loc3 w #[.int .i64 f.1, .slice A f.2.length c] #[.int .i64 0, .slice none 0 0] #[.int .i64 f.1, .slice none 0 0] 45 30 30)
  go_enter Tryz.func22, Tryz.ntmps22
  go_wp2_with (go_at_call 64; refine (toIntS_calls _ A c f.2 (h.on hb.out) hl).mono ?_; rintro e w1 ⟨v1, rfl, hO, hb1⟩; obtain ⟨A1, c1, rfl⟩ := own_slice hO; have hL1 := Aside0.mk (Loc.on hb1 hL.out); have hc1 := blk_cell hL1.out.2.1; have hc2 : ∀ i, w1.cell? ⟨w.heap.size + 1 + 1, i, none⟩ = _ := blk_cell hL1.out.2.2.1; have hf1 := blk_frozen hL1.out.2.1; have hf2 : ∀ i, w1.frozen? ⟨w.heap.size + 1 + 1, i, none⟩ = false := blk_frozen hL1.out.2.2.1; have hO' := Aside0.mk hO; clear hO)
  refine bodyPost_ret (retF rfl rfl (g := w.heap.size + 1) (blk_set (blk_set (blk_far hL1.out.2.1 (p := ⟨w.heap.size + 1 + 1, 1, none⟩) (by simp) _) 0 _) 1 _) rfl) rfl ?_
  have hsz : (((w.alloc (.cells #[.int .i64 f.1, .slice A f.2.length c] 45)).alloc (.cells #[.int .i64 0, .slice none 0 0] 30)).alloc (.cells #[.int .i64 f.1, .slice none 0 0] 30)).heap.size = w.heap.size + 3 := by simp
  have hO := hO'.out
  rw [hsz] at hO
  exact ⟨_, rfl, _, rfl, own_lower (ownsRow_setCell_below (ownsRow_setCell_below (ownsRow_setCell_below hO (by simp) _) (by simp) _) (by simp) _) (by omega), Reg.On.set (Reg.On.set (Reg.On.set (hb.out.trans hb1) (by simp; omega) _) (by simp) _) (by simp) _⟩
theorem toFactS_calls (w : World) (A c) (fs : List Fct) (h : Fcts w A c fs) (hl : fs.length ≤ 2000000) (hl2 : ∀ f ∈ fs, f.2.length ≤ 2000000) : Calls Tryz.prog 63 #[.slice A fs.length c] w (Got fun v w' => ∃ hs, OH w' w.heap.size v hs ∧ Sep w' (w.heap.size + 1) hs fs ∧ (∃ n c, v = .slice (some ⟨w.heap.size, 0, none⟩) n c) ∧ On w w') := by
  go_enter Tryz.func63, Tryz.ntmps63
  go_wp2_with (refine gate 7 ?_)
  refine ⟨mkRow 7 (m := fs.length) Tryz.underlying25 infoF rfl (by omega) (by omega) fun hO => ?_⟩
  obtain ⟨cs0, hcs0⟩ : ∃ cs0, madeCells (Value.agg #[.int .i64 0, .slice none 0 0]).cells (fs.length * 2) = cs0 := ⟨_, rfl⟩
  rw [hcs0] at hO ⊢
  clear hcs0
  have hB := On.alloc (On.refl w) (.cells cs0 30)
  have hsz : (w.alloc (.cells cs0 30)).heap.size = w.heap.size + 1 := by simp
  obtain ⟨w1, hw1⟩ : ∃ w1, w.alloc (.cells cs0 30) = w1 := ⟨_, rfl⟩
  rw [hw1] at hO hB hsz ⊢
  clear hw1
  have hO' := Aside0.mk hO
  have hsz' := Aside0.mk hsz
  clear hO hsz
  go_wp2
  go_loopw [4] (fun v wr => ∃ (k : Nat) (hs : List Hdr) (cs : List Value), k ≤ fs.length ∧ v = .int .i64 k ∧ Aside0 (wr.ownsRow w.heap.size 30 2 (.slice (some ⟨w.heap.size, 0, none⟩) fs.length fs.length) fs.length (hs.flatMap encH ++ cs)) ∧ Aside0 (Sep wr (w.heap.size + 1) hs (fs.take k)) ∧ Aside0 (w.heap.size + 1 ≤ wr.heap.size) ∧ On w wr) (fun v _ => fs.length - (intOf v).toNat)
  case atStart => exact ⟨0, [], _, Nat.zero_le _, rfl, by simpa using hO', ⟨Sep.nil _ _⟩, ⟨by rw [hsz'.out]; exact Nat.le_refl _⟩, hB⟩
  case round =>
    obtain ⟨k, hs, cs, hk, rfl, hO, hS, hwr, hB⟩ := hrel
    have hlen := Aside0.mk (show hs.length = k by have := hS.out.len; rw [List.length_take] at this; omega)
    by_cases hlt : k < fs.length
    · obtain ⟨ad, A1, c1, rfl, hx0, hx1, hx2⟩ := (h.on hB).at k hlt
      have hcl := Aside0.mk (show 2 ≤ cs.length by have h1 := hO.out.1; have h2 := hlen.out; rw [List.length_append, flat_len (enc := encH) (sz := 2) (fun _ => rfl)] at h1; omega)
      have hO2 := hO
      have hl3 := hl2 _ (List.getElem_mem hlt)
      clear hO
      go_wp2_with (go_at_call 22; refine (toFact_calls wr A1 c1 fs[k] hx2 hl3).mono ?_; rintro e w2 ⟨v0, rfl, v1, rfl, hO1, hb2⟩; obtain ⟨A2, c2, rfl⟩ := own_slice hO1; have hO4 := Aside0.mk hO1; clear hO1; have hO3 := Aside0.mk (pw_own_below hO2.out hb2); have hfz := own_frozen hO3.out (k * 2); have hfz1 := own_frozen hO3.out (k * 2 + 1); obtain ⟨z, hz⟩ := own_some hO3.out (k * 2) (by omega); obtain ⟨z1, hz1⟩ := own_some hO3.out (k * 2 + 1) (by omega))
      obtain ⟨z0, z1, hcs⟩ := split2 (cs := cs) (i := 0) (by have := hcl.out; omega)
      simp only [List.take_zero, List.nil_append, Nat.zero_add] at hcs
      have hS2 := Sep.snoc (a := (fs[k].1, A2, fs[k].2.length, c2)) hS.out hb2 hwr.out rfl hO4.out hx2.2.2
      refine ⟨⟨k + 1, hs ++ [(fs[k].1, A2, fs[k].2.length, c2)], cs.drop 2, by omega, by go_num, ⟨?_⟩, ⟨?_⟩, ⟨?_⟩, Reg.On.set (Reg.On.set (hB.trans hb2) (Nat.le_refl _) _) (Nat.le_refl _) _⟩, by simp [intOf]; omega⟩
      · have := ((hO3.out.stored (k * 2) (.int .i64 fs[k].1)).1.stored (k * 2 + 1) (.slice A2 fs[k].2.length c2)).1
        rw [hcs, set2 (k * 2) (by rw [flat_len (enc := encH) (sz := 2) (fun _ => rfl), hlen.out])] at this
        rw [List.flatMap_append, List.append_assoc]
        exact this
      · rw [List.take_succ_eq_append_getElem hlt]
        exact Sep.set (Sep.set hS2 (Nat.lt_succ_self _) _) (Nat.lt_succ_self _) _
      · have := hb2.size; have := hwr.out; simp [World.setCell]; omega
    · have hO2 := hO
      clear hO
      go_wp2
      go_ret
      have h1 := hO2.out
      have h2 := h1.1
      have h4 := hlen.out
      have h5 := hS.out
      rw [List.take_of_length_le (by omega)] at h5
      have h3 : cs = [] := by
        rw [List.length_append, flat_len (enc := encH) (sz := 2) (fun _ => rfl)] at h2
        exact List.eq_nil_of_length_eq_zero (by omega)
      subst h3
      rw [List.append_nil] at h1
      refine ⟨_, rfl, hs, ?_, h5, ⟨_, _, rfl⟩, hB⟩
      show World.ownsRow _ _ _ _ _ hs.length _
      rw [show hs.length = fs.length by omega]
      exact h1
/-- An instance of the call's own, its facts' rows lying apart. -/
structure OIn (w : World) (lo : Nat) (v : Value) (rs : List Rel) (fs : List Fct) : Prop where mk :: (out : ∃ vr vf hs, v = .agg #[vr, vf] ∧ OR w lo vr rs ∧ OH w lo vf hs ∧ Sep w lo hs fs)
theorem toInstance_calls (w : World) (A0 c0 A1 c1) (rs : List Rel) (fs : List Fct) (h0 : Rels w A0 c0 rs) (h1 : Fcts w A1 c1 fs) (hl0 : rs.length ≤ 2000000) (hl : fs.length ≤ 2000000) (hl2 : ∀ f ∈ fs, f.2.length ≤ 2000000) : Calls Tryz.prog 21 #[.agg #[.slice A0 rs.length c0, .slice A1 fs.length c1]] w (Got fun v w' => OIn w' w.heap.size v rs fs ∧ On w w') := by
  have hb := Aside0.mk (On.alloc (On.alloc (On.alloc (On.refl w) (.cells #[.slice A0 rs.length c0, .slice A1 fs.length c1] 44)) (.cells #[.slice none 0 0, .slice none 0 0] 27)) (.cells #[.slice none 0 0, .slice none 0 0] 27))
  have hL := Aside0.mk (loc3 w #[.slice A0 rs.length c0, .slice A1 fs.length c1] #[.slice none 0 0, .slice none 0 0] #[.slice none 0 0, .slice none 0 0] 44 27 27)
  go_enter Tryz.func21, Tryz.ntmps21
  go_wp2_with (first | (go_at_call 62; refine (toRelationS_calls _ A0 c0 rs (h0.on hb.out) hl0).mono ?_; rintro e w1 ⟨v1, rfl, hO, hb1⟩; obtain ⟨A2, c2, rfl⟩ := own_slice hO; have hL1 := Aside0.mk (Loc.on hb1 hL.out); have hc0 := blk_cell hL1.out.1; have hc1 := blk_cell hL1.out.2.1; have hc2 : ∀ i, w1.cell? ⟨w.heap.size + 1 + 1, i, none⟩ = _ := blk_cell hL1.out.2.2.1; have hf1 := blk_frozen hL1.out.2.1; have hf2 : ∀ i, w1.frozen? ⟨w.heap.size + 1 + 1, i, none⟩ = false := blk_frozen hL1.out.2.2.1; have hO' := Aside0.mk hO; clear hO) | (go_at_call 63; have hB2 := Aside0.mk (Reg.On.set (hb.out.trans hb1) (p := ⟨w.heap.size + 1 + 1, 0, none⟩) (by simp; omega) (.slice A2 rs.length c2)); refine (toFactS_calls _ A1 c1 fs (h1.on hB2.out) hl hl2).mono ?_; rintro e w3 ⟨v3, rfl, hs, hO3, hS3, ⟨n3, c3, rfl⟩, hb3⟩; clear hc0 hc1 hc2 hf1 hf2; have hk1 := blk_below (blk_far hL1.out.2.1 (p := ⟨w.heap.size + 1 + 1, 0, none⟩) (by simp) (.slice A2 rs.length c2)) hb3; have hk2 : w3.heap[w.heap.size + 1 + 1]? = some (.cells #[.slice A2 rs.length c2, .slice none 0 0] 27 (0, 0)) := blk_below (blk_set hL1.out.2.2.1 0 (.slice A2 rs.length c2)) hb3; have hc1 := blk_cell hk1; have hc2 := blk_cell hk2; have hf1 := blk_frozen hk1; have hf2 := blk_frozen hk2; have hk1' := Aside0.mk hk1; clear hk1 hk2; have hO3' := Aside0.mk hO3; clear hO3; have hb3' := Aside0.mk hb3; clear hb3))
  have hsz : (((w.alloc (.cells #[.slice A0 rs.length c0, .slice A1 fs.length c1] 44)).alloc (.cells #[.slice none 0 0, .slice none 0 0] 27)).alloc (.cells #[.slice none 0 0, .slice none 0 0] 27)).heap.size = w.heap.size + 3 := by simp
  have hO := hO'.out
  rw [hsz] at hO
  have hsz1 := hb1.size
  rw [hsz] at hsz1
  have hsz2 : (w1.setCell ⟨w.heap.size + 1 + 1, 0, none⟩ (.slice A2 rs.length c2)).heap.size = w1.heap.size := by simp [World.setCell]
  have hO4 := hO3'.out
  rw [hsz2] at hO4 hS3
  refine bodyPost_ret (retI rfl rfl (g := w.heap.size + 1) (blk_set (blk_set (blk_far hk1'.out (p := ⟨w.heap.size + 1 + 1, 1, none⟩) (by simp) _) 0 _) 1 _) rfl) rfl ?_
  refine ⟨_, rfl, ⟨_, _, hs, rfl, ?_, ?_, ?_⟩, ?_⟩
  · have h5 := pw_own_below (ownsRow_setCell_below hO (a := ⟨w.heap.size + 1 + 1, 0, none⟩) (by simp) (.slice A2 rs.length c2)) hb3'.out
    exact own_lower (ownsRow_setCell_below (ownsRow_setCell_below (ownsRow_setCell_below h5 (by simp) _) (by simp) _) (by simp) _) (by omega)
  · exact own_lower (ownsRow_setCell_below (ownsRow_setCell_below (ownsRow_setCell_below hO4 (by simp; omega) _) (by simp; omega) _) (by simp; omega) _) (by omega)
  · exact Sep.lower (Sep.set (Sep.set (Sep.set hS3 (by simp; omega) _) (by simp; omega) _) (by simp; omega) _) (by omega)
  · exact Reg.On.set (Reg.On.set (Reg.On.set (hB2.out.trans hb3'.out) (by simp; omega) _) (by simp) _) (by simp) _
theorem szInstance_calls (w : World) (A0 c0 A1 c1) (rs : List Rel) (fs : List Fct) (n : Int) (h0 : 0 ≤ n) (h1 : n ≤ 2000000) (hr : Rels w A0 c0 rs) (hf : Fcts w A1 c1 fs) (hsz : ∀ r ∈ rs, r.1.size ≤ 9223372036854775807) : Calls Tryz.prog 19 #[.agg #[.slice A0 rs.length c0, .slice A1 fs.length c1], .int .i64 n] w (Sz n (wR rs + wF fs) w) := by
  have hb := Aside0.mk (On.alloc (On.refl w) (.cells #[.slice A0 rs.length c0, .slice A1 fs.length c1] 44))
  go_enter Tryz.func19, Tryz.ntmps19
  go_wp2_with (first | (go_at_call 59; refine (szRelationS_calls _ A0 c0 rs n h0 h1 (hr.on hb.out) hsz).mono ?_; rintro e w1 ⟨q, rfl, hq0, hb1⟩; have hq := Aside0.mk hq0; clear hq0; have hc0 := blk_cell (Loc.on hb1 (loc1 w #[.slice A0 rs.length c0, .slice A1 fs.length c1] 44)).1; by_cases hneg : q < 0) | (go_at_call 60; refine (szFactS_calls _ A1 c1 fs q (by omega) (by have := hq.out (by omega); omega) (hf.on (hb.out.trans hb1))).mono ?_; rintro e w2 ⟨q2, rfl, hq0, hb2⟩; have hq2 := Aside0.mk hq0; clear hq0; by_cases hneg2 : q2 < 0))
  all_goals
    go_ret
    first | exact ⟨_, rfl, fun h => by omega, (hb.out.trans hb1).trans hb2⟩ | exact ⟨_, rfl, fun h => by omega, hb.out.trans hb1⟩ | exact ⟨_, rfl, fun h => by have := hq.out (by omega); have := hq2.out (by omega); omega, (hb.out.trans hb1).trans hb2⟩
end Go.Proofs.YtngjhblbpapjeaaGreat.H
/- Walks: the laws' own comparisons, of what is the same. No condition. -/
namespace Go.Proofs.YtngjhblbpapjeaaGreat.H
open Go Go.RowKit Go.Proofs.YtngjhblbpapjeaaGreatW.PrintWords Go.Proofs.YtngjhblbpapjeaaGreatW.PrintLast
open Go.Proofs.YtngjhblbpapjeaaGreat.Reg (On on_draw)
set_option maxHeartbeats 1000000
set_option maxRecDepth 100000
set_option linter.unusedVariables false
set_option linter.unusedSimpArgs false

theorem eqIntS_calls (w : World) (A c B d) (xs : List Int) (h1 : Ints w A c xs) (h2 : Ints w B d xs) : Calls Tryz.prog 67 #[.slice A xs.length c, .slice B xs.length d] w fun e w' => e = .returned (.bool true) ∧ On w w' := by
  have hmax := h1.max
  go_enter Tryz.func67, Tryz.ntmps67
  go_wp2
  go_loopw [5] (fun v wr => ∃ k : Nat, k ≤ xs.length ∧ v = .int .i64 k ∧ On w wr) (fun v _ => xs.length - (intOf v).toNat)
  case atStart => exact ⟨0, Nat.zero_le _, rfl, On.refl _⟩
  case round =>
    obtain ⟨k, hk, rfl, hB⟩ := hrel
    by_cases hlt : k < xs.length
    · obtain ⟨ad, rfl, hx⟩ := (h1.on hB).at k hlt
      obtain ⟨bd, rfl, hy⟩ := (h2.on hB).at k hlt
      go_wp2
      refine Reg.region [(0,.L),(1,.L),(2,.L),(3,.L),(4,.L),(5,.L),(6,.L),(7,.L),(8,.L)] [] (by kernel_rfl) (by kernel_rfl) ?_
      repeat first | refine sP ?_ | refine sS ?_ | refine sA ?_ | refine sL ?_ | refine sQ ?_ | refine sO ?_
      refine Reg.nil fun w2 hS => ?_
      go_wp2
      go_roundw
      case rel => exact ⟨k + 1, by omega, by go_num, hB.trans hS⟩
      case measure => simp [intOf]; omega
    · go_wp2
      go_ret
      exact ⟨rfl, hB⟩
theorem eqRelation_calls (w : World) (r : Rel) : Calls Tryz.prog 101 #[.agg #[.string r.1, .int .i64 r.2.1, .bool r.2.2], .agg #[.string r.1, .int .i64 r.2.1, .bool r.2.2]] w fun e w' => e = .returned (.bool true) ∧ On w w' := by
  go_enter Tryz.func101, Tryz.ntmps101
  go_wp2
  go_ret
  exact ⟨rfl, On.alloc (On.alloc (On.refl _) _) _⟩
theorem eqFact_calls (w : World) (A c B d) (f : Fct) (h1 : Ints w A c f.2) (h2 : Ints w B d f.2) : Calls Tryz.prog 24 #[.agg #[.int .i64 f.1, .slice A f.2.length c], .agg #[.int .i64 f.1, .slice B f.2.length d]] w fun e w' => e = .returned (.bool true) ∧ On w w' := by
  have hb := Aside0.mk (On.alloc (On.alloc (On.refl w) (.cells #[.int .i64 f.1, .slice A f.2.length c] 30)) (.cells #[.int .i64 f.1, .slice B f.2.length d] 30))
  go_enter Tryz.func24, Tryz.ntmps24
  go_wp2_with (go_at_call 67; refine (eqIntS_calls _ A c B d f.2 (h1.on hb.out) (h2.on hb.out)).mono ?_; rintro e w1 ⟨rfl, hb1⟩)
  go_ret
  exact ⟨rfl, hb.out.trans hb1⟩
theorem eqRelationS_calls (w : World) (A c B d) (rs : List Rel) (h1 : Rels w A c rs) (h2 : Rels w B d rs) : Calls Tryz.prog 65 #[.slice A rs.length c, .slice B rs.length d] w fun e w' => e = .returned (.bool true) ∧ On w w' := by
  have hmax := h1.max
  go_enter Tryz.func65, Tryz.ntmps65
  go_wp2
  go_loopw [5] (fun v wr => ∃ k : Nat, k ≤ rs.length ∧ v = .int .i64 k ∧ On w wr) (fun v _ => rs.length - (intOf v).toNat)
  case atStart => exact ⟨0, Nat.zero_le _, rfl, On.refl _⟩
  case round =>
    obtain ⟨k, hk, rfl, hB⟩ := hrel
    by_cases hlt : k < rs.length
    · obtain ⟨ad, rfl, hx0, hx1, hx2⟩ := (h1.on hB).at k hlt
      obtain ⟨bd, rfl, hy0, hy1, hy2⟩ := (h2.on hB).at k hlt
      go_wp2
      refine Reg.region [(0,.L),(1,.L),(2,.L),(3,.L),(4,.L),(5,.L),(6,.L),(7,.L),(8,.C),(9,.L)] [] (by kernel_rfl) (by kernel_rfl) ?_
      repeat first | refine sP ?_ | refine sS ?_ | refine sA ?_ | refine sL ?_ | refine sQ ?_ | refine sO ?_
      refine callC (.bool true) Tryz.func101 (fun w' hS => ?_) ?_
      focus exact eqRelation_calls w' rs[k]
      repeat first | refine sP ?_ | refine sS ?_ | refine sA ?_ | refine sL ?_ | refine sQ ?_ | refine sO ?_
      refine Reg.nil fun w2 hS => ?_
      go_wp2
      go_roundw
      case rel => exact ⟨k + 1, by omega, by go_num, hB.trans hS⟩
      case measure => simp [intOf]; omega
    · go_wp2
      go_ret
      exact ⟨rfl, hB⟩
theorem eqFactS_calls (w : World) (A c B d) (fs : List Fct) (h1 : Fcts w A c fs) (h2 : Fcts w B d fs) : Calls Tryz.prog 66 #[.slice A fs.length c, .slice B fs.length d] w fun e w' => e = .returned (.bool true) ∧ On w w' := by
  have hmax := h1.max
  go_enter Tryz.func66, Tryz.ntmps66
  go_wp2
  go_loopw [5] (fun v wr => ∃ k : Nat, k ≤ fs.length ∧ v = .int .i64 k ∧ On w wr) (fun v _ => fs.length - (intOf v).toNat)
  case atStart => exact ⟨0, Nat.zero_le _, rfl, On.refl _⟩
  case round =>
    obtain ⟨k, hk, rfl, hB⟩ := hrel
    by_cases hlt : k < fs.length
    · obtain ⟨ad, A1, c1, rfl, hx0, hx1, hx2⟩ := (h1.on hB).at k hlt
      obtain ⟨bd, B1, d1, rfl, hy0, hy1, hy2⟩ := (h2.on hB).at k hlt
      go_wp2
      refine Reg.region [(0,.L),(1,.L),(2,.L),(3,.L),(4,.L),(5,.L),(6,.L),(7,.L),(8,.C),(9,.L)] [] (by kernel_rfl) (by kernel_rfl) ?_
      repeat first | refine sP ?_ | refine sS ?_ | refine sA ?_ | refine sL ?_ | refine sQ ?_ | refine sO ?_
      refine callC (.bool true) Tryz.func24 (fun w' hS => ?_) ?_
      focus exact eqFact_calls w' A1 c1 B1 d1 fs[k] (hx2.on hS) (hy2.on hS)
      repeat first | refine sP ?_ | refine sS ?_ | refine sA ?_ | refine sL ?_ | refine sQ ?_ | refine sO ?_
      refine Reg.nil fun w2 hS => ?_
      go_wp2
      go_roundw
      case rel => exact ⟨k + 1, by omega, by go_num, hB.trans hS⟩
      case measure => simp [intOf]; omega
    · go_wp2
      go_ret
      exact ⟨rfl, hB⟩
theorem eqInstance_calls (w : World) (A0 c0 A1 c1 B0 d0 B1 d1) (rs : List Rel) (fs : List Fct) (h0 : Rels w A0 c0 rs) (h1 : Fcts w A1 c1 fs) (h2 : Rels w B0 d0 rs) (h3 : Fcts w B1 d1 fs) : Calls Tryz.prog 23 #[.agg #[.slice A0 rs.length c0, .slice A1 fs.length c1], .agg #[.slice B0 rs.length d0, .slice B1 fs.length d1]] w fun e w' => e = .returned (.bool true) ∧ On w w' := by
  have hb := Aside0.mk (On.alloc (On.alloc (On.refl w) (.cells #[.slice A0 rs.length c0, .slice A1 fs.length c1] 27)) (.cells #[.slice B0 rs.length d0, .slice B1 fs.length d1] 27))
  have hL := Aside0.mk (loc2 w #[.slice A0 rs.length c0, .slice A1 fs.length c1] #[.slice B0 rs.length d0, .slice B1 fs.length d1] 27 27)
  go_enter Tryz.func23, Tryz.ntmps23
  go_wp2_with (first | (go_at_call 65; refine (eqRelationS_calls _ A0 c0 B0 d0 rs (h0.on hb.out) (h2.on hb.out)).mono ?_; rintro e w1 ⟨rfl, hb1⟩; have hL1 := Loc.on hb1 hL.out; have hc0 := blk_cell hL1.1; have hc1 := blk_cell hL1.2.1; have hL2 := Aside0.mk hL1; clear hL1) | (go_at_call 66; refine (eqFactS_calls _ A1 c1 B1 d1 fs (h1.on (hb.out.trans hb1)) (h3.on (hb.out.trans hb1))).mono ?_; rintro e w2 ⟨rfl, hb2⟩))
  go_ret
  exact ⟨rfl, (hb.out.trans hb1).trans hb2⟩
end Go.Proofs.YtngjhblbpapjeaaGreat.H
/- Walks: the laws' own marks. No condition. -/
namespace Go.Proofs.YtngjhblbpapjeaaGreat.H
open Go Go.RowKit Go.Proofs.YtngjhblbpapjeaaGreatW.PrintWords Go.Proofs.YtngjhblbpapjeaaGreatW.PrintLast
open Go.Proofs.YtngjhblbpapjeaaGreat.Reg (On on_draw)
set_option maxHeartbeats 1000000
set_option maxRecDepth 100000
set_option linter.unusedVariables false
set_option linter.unusedSimpArgs false

/-- What a mark writes. -/
def markI (k : Int) : Nat → List Int
  | 0 => []
  | n + 1 => k :: markI (k + 1) n
theorem markI_len (k : Int) (n : Nat) : (markI k n).length = n := by
  induction n generalizing k with
  | zero => rfl
  | succ n ih => simp [markI, ih]
theorem markI_succ (k : Int) (n : Nat) : markI k (n + 1) = markI k n ++ [k + n] := by
  induction n generalizing k with
  | zero => simp [markI]
  | succ n ih =>
    have h := ih (k + 1)
    rw [markI, h, markI, show k + 1 + (n : Int) = k + ((n + 1 : Nat) : Int) by omega]; rfl
theorem markI_at (k : Int) (n i : Nat) (h : i < (markI k n).length) : (markI k n)[i] = k + i := by
  induction n generalizing k i with
  | zero => simp [markI] at h
  | succ n ih =>
    cases i with
    | zero => simp [markI]
    | succ i => simp only [markI, List.getElem_cons_succ]; rw [ih]; omega
theorem markI_inR (k : Int) (n : Nat) (h0 : 0 ≤ k) (h1 : k + n ≤ 10000000) : InR (markI k n) := fun x hx => by
  obtain ⟨i, hi, rfl⟩ := List.getElem_of_mem hx
  rw [markI_at]; rw [markI_len] at hi; omega
theorem markIntS_calls (w : World) (lo : Nat) (v : Value) (xs : List Int) (k0 : Int) (h : OI w lo v xs) (h0 : 0 ≤ k0) (h1 : k0 + xs.length ≤ 10000000) : Calls Tryz.prog 70 #[v, .int .i64 k0] w fun e w' => e = .returned (.int .i64 (k0 + xs.length)) ∧ OI w' lo v (markI k0 xs.length) ∧ Ex (fun b => some b = v.ownBlock) w w' := by
  rcases h.2 with ⟨rfl, hn⟩ | ⟨g, c, cur, rfl, hg⟩
  · obtain rfl : xs = [] := List.eq_nil_of_length_eq_zero hn
    go_enter Tryz.func70, Tryz.ntmps70
    go_wp2
    go_loop [5, 1] (fun v5 v1 => v5 = .int .i64 0 ∧ v1 = .int .i64 k0) (fun v _ => 0)
    case atStart => exact ⟨rfl, rfl⟩
    case round =>
      obtain ⟨rfl, rfl⟩ := hrel
      go_wp2
      go_ret
      exact ⟨by simp, h, Ex.refl _ _⟩
  · clear hg
    have h' := Aside0.mk h
    clear h
    go_enter Tryz.func70, Tryz.ntmps70
    go_wp2
    go_loopw [5, 1] (fun v5 v1 wr => ∃ (k : Nat) (cs : List Value), k ≤ xs.length ∧ v5 = .int .i64 k ∧ v1 = .int .i64 (k0 + k) ∧ Aside0 (wr.ownsRow lo 3 1 (.slice (some ⟨g, 0, none⟩) xs.length c) xs.length ((markI k0 k).flatMap encI ++ cs)) ∧ Ex (fun b => some b = some g) w wr) (fun v5 _ _ => xs.length - (intOf v5).toNat)
    case atStart => exact ⟨0, xs.flatMap encI, Nat.zero_le _, rfl, by simp, h', Ex.refl _ _⟩
    case round =>
      obtain ⟨k, cs, hk, rfl, rfl, hO, hE⟩ := hrel
      have hO2 := hO
      clear hO
      by_cases hlt : k < xs.length
      · have hcl := Aside0.mk (show 0 < cs.length by have := hO2.out.1; rw [List.length_append, flat_len (enc := encI) (sz := 1) (fun _ => rfl), markI_len] at this; omega)
        have hfz : wr.frozen? ⟨g, k, none⟩ = false := own_frozen hO2.out k
        obtain ⟨z, hz⟩ := own_some hO2.out k (by omega)
        have hw : IntKind.i64.wrap (k0 + (k : Int) + 1) = k0 + ((k + 1 : Nat) : Int) := by rw [IntWalk.i64_in _ (by omega)]; omega
        go_wp2
        obtain ⟨z0, cs', rfl⟩ : ∃ z0 cs', cs = z0 :: cs' := by
          cases cs with
          | nil => exact absurd hcl.out (by simp)
          | cons a b => exact ⟨a, b, rfl⟩
        refine ⟨⟨k + 1, cs', by omega, by go_num, by rfl, ⟨?_⟩, hE.trans (Ex.set wr _ _) (fun i _ e => by rw [e])⟩, by simp [intOf]; omega⟩
        have := (hO2.out.stored k (.int .i64 (k0 + k))).1
        rw [set1 k (by rw [flat_len (enc := encI) (sz := 1) (fun _ => rfl), markI_len]; omega)] at this
        rw [markI_succ, List.flatMap_append, List.append_assoc]
        exact this
      · go_wp2
        go_ret
        obtain rfl : k = xs.length := by omega
        have h1 := hO2.out
        have h2 := h1.1
        have h3 : cs = [] := by
          rw [List.length_append, flat_len (enc := encI) (sz := 1) (fun _ => rfl), markI_len] at h2
          exact List.eq_nil_of_length_eq_zero (by omega)
        subst h3
        rw [List.append_nil] at h1
        refine ⟨rfl, ?_, hE⟩
        show World.ownsRow _ _ _ _ _ (markI k0 xs.length).length _
        rw [markI_len]
        exact h1
theorem heldIntS_calls (w : World) (A c) (n : Nat) (k0 : Int) (h : Ints w A c (markI k0 n)) (h0 : 0 ≤ k0) (h1 : k0 + n ≤ 10000000) : Calls Tryz.prog 103 #[.slice A n c, .int .i64 k0] w fun e w' => e = .returned (.int .i64 (k0 + n)) ∧ On w w' := by
  have hl := markI_len k0 n
  go_enter Tryz.func103, Tryz.ntmps103
  go_wp2
  go_loopw [5, 1] (fun v5 v1 wr => ∃ k : Nat, k ≤ n ∧ v5 = .int .i64 k ∧ v1 = .int .i64 (k0 + k) ∧ On w wr) (fun v5 _ _ => n - (intOf v5).toNat)
  case atStart => exact ⟨0, Nat.zero_le _, rfl, by simp, On.refl _⟩
  case round =>
    obtain ⟨k, hk, rfl, rfl, hB⟩ := hrel
    by_cases hlt : k < n
    · obtain ⟨ad, rfl, hx⟩ := (h.on hB).at k (by rw [hl]; exact hlt)
      rw [markI_at] at hx
      have hw : IntKind.i64.wrap (k0 + (k : Int) + 1) = k0 + ((k + 1 : Nat) : Int) := by rw [IntWalk.i64_in _ (by omega)]; omega
      go_wp2
      go_roundw
      case rel => exact ⟨k + 1, by omega, by go_num, rfl, hB⟩
      case measure => simp [intOf]; omega
    · go_wp2
      go_ret
      exact ⟨ret_int (by omega), hB⟩
def mDig (m : Int) (s : ByteArray) : ByteArray := if h : 0 < m then mDig (m / 10) (strOfNums [48 + m % 10] ++ s) else s
termination_by m.toNat
decreasing_by omega
def mText (k : Int) : ByteArray := ⟨#[109]⟩ ++ mDig k ⟨#[]⟩
theorem markText_calls (w : World) (k : Int) (h0 : 1 ≤ k) (h1 : k ≤ 10000000) : Calls Tryz.prog 102 #[.int .i64 k] w fun e w' => e = .returned (.string (mText k)) ∧ On w w' := by
  have hb : decide (k ≤ 0) = false := decide_eq_false (by omega)
  go_enter Tryz.func102, Tryz.ntmps102
  go_wp2
  go_loopw [0, 3] (fun v0 v3 wr => ∃ (m : Int) (s : ByteArray), 0 ≤ m ∧ m ≤ 10000000 ∧ v0 = .int .i64 m ∧ v3 = .string s ∧ Aside0 (mDig m s = mDig k ⟨#[]⟩) ∧ s.size + m ≤ 10000000 ∧ On w wr) (fun v0 _ _ => (intOf v0).toNat)
  case atStart => exact ⟨k, _, by omega, h1, rfl, rfl, ⟨rfl⟩, by show ((0 : Nat) : Int) + k ≤ 10000000; omega, On.refl _⟩
  case round =>
    obtain ⟨m, s, hm0, hm1, rfl, rfl, hp, hsm, hB⟩ := hrel
    by_cases hpos : 0 < m
    · have hcv : (convert 22 9 (.slice (some ⟨wr.heap.size, 0, none⟩) 1 1)).run Tryz.prog (wr.alloc (.cells #[.int .u8 (48 + m % 10)] 5)) = .ok (.string (strOfNums [48 + m % 10])) (wr.alloc (.cells #[.int .u8 (48 + m % 10)] 5)) :=
        own_string (P := Tryz.prog) Tryz.underlying22 Tryz.underlying5 Tryz.underlying9 (own_lit wr 0 5 .u8 [48 + m % 10] (Nat.zero_le _) (by simp))
      have hst := Aside0.mk (show mDig (m / 10) (strOfNums [48 + m % 10] ++ s) = mDig k ⟨#[]⟩ by rw [← hp.out]; conv => rhs; rw [mDig, dif_pos hpos])
      have hs1 : (strOfNums [48 + m % 10]).size = 1 := rfl
      clear hp
      go_wp2
      exact ⟨⟨m / 10, _, by omega, by omega, rfl, rfl, hst, by rw [ByteArray.size_append, hs1]; omega, hB.trans (On.alloc (On.refl _) _)⟩, by simp [intOf]; omega⟩
    · have hst := Aside0.mk (show s = mDig k ⟨#[]⟩ by rw [← hp.out]; conv => rhs; rw [mDig, dif_neg hpos])
      clear hp
      go_wp2
      go_ret
      exact ⟨by show Ending.returned (.string _) = _; rw [hst.out]; rfl, hB⟩
end Go.Proofs.YtngjhblbpapjeaaGreat.H
/- Walks: the laws' own marks on relations and facts. No condition. -/
namespace Go.Proofs.YtngjhblbpapjeaaGreat.H
open Go Go.RowKit Go.Proofs.YtngjhblbpapjeaaGreatW.PrintWords Go.Proofs.YtngjhblbpapjeaaGreatW.PrintLast
open Go.Proofs.YtngjhblbpapjeaaGreat.Reg (On on_draw)
set_option maxHeartbeats 1000000
set_option maxRecDepth 100000
set_option linter.unusedVariables false
set_option linter.unusedSimpArgs false

def mRel (k : Int) : Rel := (mText k, k + 1, (k + 2) % 3 == 0)
def markR (k : Int) : Nat → List Rel
  | 0 => []
  | n + 1 => mRel k :: markR (k + 3) n
theorem markR_len (k : Int) (n : Nat) : (markR k n).length = n := by
  induction n generalizing k with
  | zero => rfl
  | succ n ih => simp [markR, ih]
theorem markR_succ (k : Int) (n : Nat) : markR k (n + 1) = markR k n ++ [mRel (k + 3 * n)] := by
  induction n generalizing k with
  | zero => simp [markR]
  | succ n ih =>
    have h := ih (k + 3)
    rw [markR, h, markR, show k + 3 + 3 * (n : Int) = k + 3 * ((n + 1 : Nat) : Int) by omega]; rfl
theorem markR_at (k : Int) (n i : Nat) (h : i < (markR k n).length) : (markR k n)[i] = mRel (k + 3 * i) := by
  induction n generalizing k i with
  | zero => simp [markR] at h
  | succ n ih =>
    cases i with
    | zero => simp [markR]
    | succ i => simp only [markR, List.getElem_cons_succ]; rw [ih]; congr 1; omega
theorem own_ne_blk {w : World} {lo lo' e e' sz sz' n n' : Nat} {v v' : Value} {cs cs' : List Value} (h : w.ownsRow lo e sz v n cs) (h' : w.ownsRow lo' e' sz' v' n' cs') (hne : e ≠ e') {b : Nat} (hb : v.ownBlock = some b) : v'.ownBlock ≠ some b := fun hb' => by
  obtain ⟨c, hc⟩ := own_typed h b hb
  obtain ⟨c', hc'⟩ := own_typed h' b hb'
  rw [hc] at hc'
  injection hc' with hc'
  injection hc' with _ h3
  exact hne h3
theorem flatR_at {rs : List Rel} {i : Nat} (hi : i < rs.length) : (rs.flatMap encR)[i * 3]? = some (.string rs[i].1) ∧ (rs.flatMap encR)[i * 3 + 1]? = some (.int .i64 rs[i].2.1) ∧ (rs.flatMap encR)[i * 3 + 2]? = some (.bool rs[i].2.2) := by
  have e : rs.flatMap encR = (rs.take i).flatMap encR ++ encR rs[i] ++ (rs.drop (i + 1)).flatMap encR := by
    rw [← flat_take_succ rs i hi, ← List.flatMap_append, List.take_append_drop]
  have hl : ((rs.take i).flatMap encR).length = i * 3 := by rw [flat_len (enc := encR) (sz := 3) (fun _ => rfl), List.length_take, Nat.min_eq_left (by omega)]
  rw [e, List.append_assoc]
  refine ⟨?_, ?_, ?_⟩ <;> rw [List.getElem?_append_right (by omega), hl]
  · simp
  · rw [show i * 3 + 1 - i * 3 = 1 by omega]; rfl
  · rw [show i * 3 + 2 - i * 3 = 2 by omega]; rfl
theorem flatH_at {hs : List Hdr} {i : Nat} (hi : i < hs.length) : (hs.flatMap encH)[i * 2]? = some (.int .i64 hs[i].1) ∧ (hs.flatMap encH)[i * 2 + 1]? = some (hdV hs[i]) := by
  have e : hs.flatMap encH = (hs.take i).flatMap encH ++ encH hs[i] ++ (hs.drop (i + 1)).flatMap encH := by
    rw [← flat_take_succ hs i hi, ← List.flatMap_append, List.take_append_drop]
  have hl : ((hs.take i).flatMap encH).length = i * 2 := by rw [flat_len (enc := encH) (sz := 2) (fun _ => rfl), List.length_take, Nat.min_eq_left (by omega)]
  rw [e, List.append_assoc]
  refine ⟨?_, ?_⟩ <;> rw [List.getElem?_append_right (by omega), hl]
  · simp
  · rw [show i * 2 + 1 - i * 2 = 1 by omega]; rfl
theorem flatH_set0 (hs : List Hdr) (i : Nat) (hi : i < hs.length) (x : Int) : (hs.flatMap encH).set (i * 2) (.int .i64 x) = (hs.set i (x, hs[i].2)).flatMap encH := by
  have e : hs.flatMap encH = (hs.take i).flatMap encH ++ encH hs[i] ++ (hs.drop (i + 1)).flatMap encH := by
    rw [← flat_take_succ hs i hi, ← List.flatMap_append, List.take_append_drop]
  have hl : ((hs.take i).flatMap encH).length = i * 2 := by rw [flat_len (enc := encH) (sz := 2) (fun _ => rfl), List.length_take, Nat.min_eq_left (by omega)]
  rw [e, List.append_assoc, show encH hs[i] ++ (hs.drop (i + 1)).flatMap encH = .int .i64 hs[i].1 :: hdV hs[i] :: (hs.drop (i + 1)).flatMap encH from rfl, set1 _ hl]
  rw [List.set_eq_take_append_cons_drop, if_pos hi, List.flatMap_append, List.flatMap_cons]
  rfl
theorem markRelationS_calls (w : World) (lo : Nat) (v : Value) (rs : List Rel) (k0 : Int) (h : OR w lo v rs) (h0 : 1 ≤ k0) (h1 : k0 + 3 * rs.length ≤ 10000000) : Calls Tryz.prog 68 #[v, .int .i64 k0] w fun e w' => e = .returned (.int .i64 (k0 + 3 * rs.length)) ∧ OR w' lo v (markR k0 rs.length) ∧ Ex (fun b => some b = v.ownBlock) w w' := by
  rcases h.2 with ⟨rfl, hn⟩ | ⟨g, c, cur, rfl, hg⟩
  · obtain rfl : rs = [] := List.eq_nil_of_length_eq_zero hn
    go_enter Tryz.func68, Tryz.ntmps68
    go_wp2
    go_loop [5, 1] (fun v5 v1 => v5 = .int .i64 0 ∧ v1 = .int .i64 k0) (fun v _ => 0)
    case atStart => exact ⟨rfl, rfl⟩
    case round =>
      obtain ⟨rfl, rfl⟩ := hrel
      go_wp2
      go_ret
      exact ⟨by simp, h, Ex.refl _ _⟩
  · clear hg
    have h' := Aside0.mk h
    clear h
    go_enter Tryz.func68, Tryz.ntmps68
    go_wp2
    go_loopw [5, 1] (fun v5 v1 wr => ∃ (k : Nat) (cs : List Value), k ≤ rs.length ∧ v5 = .int .i64 k ∧ v1 = .int .i64 (k0 + 3 * k) ∧ Aside0 (wr.ownsRow lo 81 3 (.slice (some ⟨g, 0, none⟩) rs.length c) rs.length ((markR k0 k).flatMap encR ++ cs)) ∧ Ex (fun b => some b = some g) w wr) (fun v5 _ _ => rs.length - (intOf v5).toNat)
    case atStart => exact ⟨0, rs.flatMap encR, Nat.zero_le _, rfl, by simp, h', Ex.refl _ _⟩
    case round =>
      obtain ⟨k, cs, hk, rfl, rfl, hO, hE⟩ := hrel
      have hO2 := hO
      clear hO
      by_cases hlt : k < rs.length
      · have hcl := Aside0.mk (show 3 ≤ cs.length by have := hO2.out.1; rw [List.length_append, flat_len (enc := encR) (sz := 3) (fun _ => rfl), markR_len] at this; omega)
        have hw1 : IntKind.i64.wrap (k0 + 3 * (k : Int) + 1) = k0 + 3 * k + 1 := by rw [IntWalk.i64_in _ (by omega)]
        have hw2 : IntKind.i64.wrap (k0 + 3 * (k : Int) + 1 + 1) = k0 + 3 * k + 2 := by rw [IntWalk.i64_in _ (by omega)]; omega
        have hw3 : IntKind.i64.wrap (k0 + 3 * (k : Int) + 2 + 1) = k0 + 3 * ((k + 1 : Nat) : Int) := by rw [IntWalk.i64_in _ (by omega)]; omega
        go_wp2_with (go_at_call 102; refine (markText_calls wr (k0 + 3 * k) (by omega) (by omega)).mono ?_; rintro e w2 ⟨rfl, hb2⟩; have hO3 := Aside0.mk (pw_own_below hO2.out hb2); have hfz := own_frozen hO3.out (k * 3); have hfz1 := own_frozen hO3.out (k * 3 + 1); have hfz2 := own_frozen hO3.out (k * 3 + 2); obtain ⟨z, hz⟩ := own_some hO3.out (k * 3) (by omega); obtain ⟨z1, hz1⟩ := own_some hO3.out (k * 3 + 1) (by omega); obtain ⟨z2, hz2⟩ := own_some hO3.out (k * 3 + 2) (by omega))
        obtain ⟨z0, z1, z2, hcs⟩ := split3 (cs := cs) (i := 0) (by have := hcl.out; omega)
        simp only [List.take_zero, List.nil_append, Nat.zero_add] at hcs
        refine ⟨⟨k + 1, cs.drop 3, by omega, by go_num, by rfl, ⟨?_⟩, (((hE.then_on hb2).trans (Ex.set _ _ _) (fun i _ e => by rw [e])).trans (Ex.set _ _ _) (fun i _ e => by rw [e])).trans (Ex.set _ _ _) (fun i _ e => by rw [e])⟩, by simp [intOf]; omega⟩
        have := ((hO3.out.stored (k * 3) (.string (mText (k0 + 3 * k)))).1.stored (k * 3 + 1) (.int .i64 (k0 + 3 * k + 1))).1.stored (k * 3 + 2) (.bool ((k0 + 3 * k + 2) % 3 == 0)) |>.1
        rw [hcs, set3 (k * 3) (by rw [flat_len (enc := encR) (sz := 3) (fun _ => rfl), markR_len])] at this
        rw [markR_succ, List.flatMap_append, List.append_assoc]
        exact this
      · go_wp2
        go_ret
        obtain rfl : k = rs.length := by omega
        have h1 := hO2.out
        have h2 := h1.1
        have h3 : cs = [] := by
          rw [List.length_append, flat_len (enc := encR) (sz := 3) (fun _ => rfl), markR_len] at h2
          exact List.eq_nil_of_length_eq_zero (by omega)
        subst h3
        rw [List.append_nil] at h1
        refine ⟨rfl, ?_, hE⟩
        show World.ownsRow _ _ _ _ _ (markR k0 rs.length).length _
        rw [markR_len]
        exact h1
theorem heldRelationS_calls (w : World) (A c) (n : Nat) (k0 : Int) (h : Rels w A c (markR k0 n)) (h0 : 1 ≤ k0) (h1 : k0 + 3 * n ≤ 10000000) : Calls Tryz.prog 71 #[.slice A n c, .int .i64 k0] w fun e w' => e = .returned (.int .i64 (k0 + 3 * n)) ∧ On w w' := by
  have hl := markR_len k0 n
  go_enter Tryz.func71, Tryz.ntmps71
  go_wp2
  go_loopw [5, 1] (fun v5 v1 wr => ∃ k : Nat, k ≤ n ∧ v5 = .int .i64 k ∧ v1 = .int .i64 (k0 + 3 * k) ∧ On w wr) (fun v5 _ _ => n - (intOf v5).toNat)
  case atStart => exact ⟨0, Nat.zero_le _, rfl, by simp, On.refl _⟩
  case round =>
    obtain ⟨k, hk, rfl, rfl, hB⟩ := hrel
    by_cases hlt : k < n
    · obtain ⟨ad, rfl, hx0, hx1, hx2⟩ := (h.on hB).at k (by rw [hl]; exact hlt)
      rw [markR_at] at hx0 hx1 hx2
      have hw1 : IntKind.i64.wrap (k0 + 3 * (k : Int) + 1) = k0 + 3 * k + 1 := by rw [IntWalk.i64_in _ (by omega)]
      have hw2 : IntKind.i64.wrap (k0 + 3 * (k : Int) + 1 + 1) = k0 + 3 * k + 2 := by rw [IntWalk.i64_in _ (by omega)]; omega
      have hw3 : IntKind.i64.wrap (k0 + 3 * (k : Int) + 2 + 1) = k0 + 3 * ((k + 1 : Nat) : Int) := by rw [IntWalk.i64_in _ (by omega)]; omega
      replace hx0 : wr.cell? (ad.add (k * 3)) = some (.string (mText (k0 + 3 * k))) := hx0
      replace hx1 : wr.cell? ⟨(ad.add (k * 3)).block, (ad.add (k * 3)).off + 1, none⟩ = some (.int .i64 (k0 + 3 * k + 1)) := hx1
      replace hx2 : wr.cell? ⟨(ad.add (k * 3)).block, (ad.add (k * 3)).off + 2, none⟩ = some (.bool ((k0 + 3 * k + 2) % 3 == 0)) := hx2
      go_wp2
      refine Reg.region [(0,.L),(1,.L),(2,.L),(3,.L),(4,.L),(5,.L),(6,.C),(7,.L)] [] (by kernel_rfl) (by kernel_rfl) ?_
      repeat first | refine sP ?_ | refine sS ?_ | refine sA ?_ | refine sL ?_ | refine sQ ?_ | refine sO ?_
      refine callC (.string (mText (k0 + 3 * k))) Tryz.func102 (fun w' hS => ?_) ?_
      focus exact markText_calls w' (k0 + 3 * k) (by omega) (by omega)
      repeat first | refine sP ?_ | refine sS ?_ | refine sA ?_ | refine sL ?_ | refine sQ ?_ | refine sO ?_
      refine Reg.nil fun w2 hS => ?_
      have hx1' := (hS.eq _ (by rw [hx1]; rfl)).trans hx1
      have hx2' := (hS.eq _ (by rw [hx2]; rfl)).trans hx2
      go_wp2
      go_roundw
      case rel => exact ⟨k + 1, by omega, by go_num, rfl, hB.trans hS⟩
      case measure => simp [intOf]; omega
    · go_wp2
      go_ret
      exact ⟨ret_int (by omega), hB⟩
end Go.Proofs.YtngjhblbpapjeaaGreat.H
/- Walks: the laws' own marks on facts and instances. No condition. -/
namespace Go.Proofs.YtngjhblbpapjeaaGreat.H
open Go Go.RowKit Go.Proofs.YtngjhblbpapjeaaGreatW.PrintWords Go.Proofs.YtngjhblbpapjeaaGreatW.PrintLast
open Go.Proofs.YtngjhblbpapjeaaGreat.Reg (On on_draw)
set_option maxHeartbeats 1000000
set_option maxRecDepth 100000
set_option linter.unusedVariables false
set_option linter.unusedSimpArgs false

def markF (k : Int) : List Nat → List Fct
  | [] => []
  | m :: l => (k, markI (k + 1) m) :: markF (k + 1 + m) l
def cF (l : List Nat) : Nat := (l.map (· + 1)).sum
theorem markF_len (k : Int) (l : List Nat) : (markF k l).length = l.length := by
  induction l generalizing k with
  | nil => rfl
  | cons m l ih => simp [markF, ih]
theorem cF_snoc (l : List Nat) (m : Nat) : cF (l ++ [m]) = cF l + (m + 1) := by simp [cF]
theorem markF_snoc (k : Int) (l : List Nat) (m : Nat) : markF k (l ++ [m]) = markF k l ++ [(k + cF l, markI (k + cF l + 1) m)] := by
  induction l generalizing k with
  | nil => simp [markF, cF]
  | cons a l ih =>
    have h := ih (k + 1 + a)
    have e : k + 1 + (a : Int) + cF l = k + cF (a :: l) := by simp [cF]; omega
    rw [List.cons_append, markF, h, markF, e]; rfl
theorem cF_take_le (l : List Nat) (k : Nat) : cF (l.take k) ≤ cF l := by
  conv => rhs; rw [← List.take_append_drop k l]
  simp only [cF, List.map_append, List.sum_append]; omega
abbrev lens (fs : List Fct) : List Nat := fs.map fun f => f.2.length
theorem cF_lens (fs : List Fct) : cF (lens fs) = wF fs := by simp [cF, lens, wF, Function.comp_def]
theorem wF_len (fs : List Fct) : fs.length ≤ wF fs := by
  unfold wF
  induction fs with
  | nil => simp
  | cons f fs ih => simp at ih ⊢; omega
theorem Sep.ne_row {W : World} {lo lo' : Nat} {hs hs' : List Hdr} {fs : List Fct} {vf : Value} (h : Sep W lo hs fs) (hO : OH W lo' vf hs') {i b : Nat} {a : Hdr} (ha : hs[i]? = some a) (hb : (hdV a).ownBlock = some b) : vf.ownBlock ≠ some b := by
  have hi : i < fs.length := by rw [← h.len]; exact (List.getElem?_eq_some_iff.1 ha).1
  exact own_ne_blk (h.at_ i a fs[i] ha (List.getElem?_eq_getElem hi)).2.1 hO (by decide) hb
theorem set_hdr {hs : List Hdr} {i : Nat} (hi : i < hs.length) {x : Int} {j : Nat} {a : Hdr} (ha : (hs.set i (x, hs[i].2))[j]? = some a) : ∃ a', hs[j]? = some a' ∧ hdV a' = hdV a := by
  by_cases e : i = j
  · subst e
    rw [List.getElem?_set_self hi] at ha
    injection ha with ha; subst ha
    exact ⟨hs[i], List.getElem?_eq_getElem hi, rfl⟩
  · rw [List.getElem?_set_ne e] at ha
    exact ⟨a, ha, rfl⟩
/-- One fact's number and row are written anew. -/
theorem Sep.upd {W w : World} {lo : Nat} {hs : List Hdr} {fs : List Fct} (h : Sep W lo hs fs) {i : Nat} (hi : i < hs.length) {x : Int} {ys : List Int} (hw : ∀ (j : Nat) (a : Hdr) (b : Nat), j ≠ i → hs[j]? = some a → (hdV a).ownBlock = some b → w.heap[b]? = W.heap[b]?) (hO : OI w lo (hdV hs[i]) ys) (hR : InR ys) : Sep w lo (hs.set i (x, hs[i].2)) (fs.set i (x, ys)) := by
  refine ⟨by simp [h.len], fun j a f ha hf => ?_, fun j j' a b k ha hb h1 h2 => ?_⟩
  · by_cases e : i = j
    · subst e
      rw [List.getElem?_set_self hi] at ha
      rw [List.getElem?_set_self (by rw [← h.len]; exact hi)] at hf
      injection ha with ha; injection hf with hf; subst ha hf
      exact ⟨rfl, hO, hR⟩
    · rw [List.getElem?_set_ne e] at ha hf
      obtain ⟨h1, h2, h3⟩ := h.at_ j a f ha hf
      exact ⟨h1, own_move h2 fun b hb => hw j a b (Ne.symm e) ha hb, h3⟩
  · obtain ⟨a', ha', e1⟩ := set_hdr hi ha
    obtain ⟨b', hb', e2⟩ := set_hdr hi hb
    exact h.apart j j' a' b' k ha' hb' (by rw [e1]; exact h1) (by rw [e2]; exact h2)
/-- The blocks that a row of facts owns. -/
def FB (v : Value) (hs : List Hdr) (b : Nat) : Prop := some b = v.ownBlock ∨ ∃ (i : Nat) (a : Hdr), hs[i]? = some a ∧ some b = (hdV a).ownBlock
theorem FB.set {v : Value} {hs : List Hdr} {i : Nat} (hi : i < hs.length) {x : Int} {b : Nat} (h : FB v (hs.set i (x, hs[i].2)) b) : FB v hs b := by
  rcases h with h | ⟨j, a, ha, h⟩
  · exact .inl h
  · obtain ⟨a', ha', e⟩ := set_hdr hi ha
    exact .inr ⟨j, a', ha', by rw [e]; exact h⟩
theorem set_mid {α : Type} (P r : List α) (f y : α) (i : Nat) (hi : P.length = i) : (P ++ f :: r).set i y = P ++ y :: r := by subst hi; simp
theorem markFactS_calls (w : World) (lo lo2 : Nat) (v : Value) (hs : List Hdr) (fs : List Fct) (k0 : Int) (h : OH w lo2 v hs) (hS : Sep w lo hs fs) (h0 : 0 ≤ k0) (h1 : k0 + wF fs ≤ 10000000) : Calls Tryz.prog 69 #[v, .int .i64 k0] w fun e w' => e = .returned (.int .i64 (k0 + wF fs)) ∧ (∃ hs', OH w' lo2 v hs' ∧ Sep w' lo hs' (markF k0 (lens fs)) ∧ ∀ b, FB v hs' b → FB v hs b) ∧ Ex (FB v hs) w w' := by
  have hlen := hS.len
  rcases h.2 with ⟨rfl, hn⟩ | ⟨g, c, cur, rfl, hg⟩
  · obtain rfl : hs = [] := List.eq_nil_of_length_eq_zero hn
    obtain rfl : fs = [] := List.eq_nil_of_length_eq_zero hlen.symm
    go_enter Tryz.func69, Tryz.ntmps69
    go_wp2
    go_loop [5, 1] (fun v5 v1 => v5 = .int .i64 0 ∧ v1 = .int .i64 k0) (fun v _ => 0)
    case atStart => exact ⟨rfl, rfl⟩
    case round =>
      obtain ⟨rfl, rfl⟩ := hrel
      go_wp2
      go_ret
      exact ⟨by simp [wF], ⟨[], h, hS, fun _ h => h⟩, Ex.refl _ _⟩
  · clear hg
    have h' := Aside0.mk h
    have hS' := Aside0.mk hS
    clear h hS
    have hlen' := Aside0.mk hlen
    have hlmax : hs.length ≤ 10000000 := by have : fs.length ≤ wF fs := wF_len fs; omega
    clear hlen
    go_enter Tryz.func69, Tryz.ntmps69
    go_wp2
    go_loopw [5, 1] (fun v5 v1 wr => ∃ (k : Nat) (hs' : List Hdr), k ≤ hs.length ∧ v5 = .int .i64 k ∧ v1 = .int .i64 (k0 + cF ((lens fs).take k)) ∧ Aside0 (hs'.length = hs.length) ∧ Aside0 (OH wr lo2 (.slice (some ⟨g, 0, none⟩) hs.length c) hs') ∧ Aside0 (Sep wr lo hs' (markF k0 ((lens fs).take k) ++ fs.drop k)) ∧ Aside0 (∀ b, FB (.slice (some ⟨g, 0, none⟩) hs.length c) hs' b → FB (.slice (some ⟨g, 0, none⟩) hs.length c) hs b) ∧ Aside0 (Ex (FB (.slice (some ⟨g, 0, none⟩) hs.length c) hs) w wr)) (fun v5 _ _ => hs.length - (intOf v5).toNat)
    case atStart => exact ⟨0, hs, Nat.zero_le _, rfl, by simp [cF], ⟨rfl⟩, h', by simpa [markF] using hS', ⟨fun _ h => h⟩, ⟨Ex.refl _ _⟩⟩
    case round =>
      obtain ⟨k, hs', hk, rfl, rfl, hl, hO, hS, hF, hE⟩ := hrel
      have hO2 := hO
      clear hO
      obtain ⟨m, hm⟩ : ∃ m : Int, k0 + cF ((lens fs).take k) = m := ⟨_, rfl⟩
      by_cases hlt : k < hs.length
      · have hk1 : k < hs'.length := by rw [hl.out]; exact hlt
        have hkf : k < fs.length := by rw [← hlen'.out]; exact hlt
        have hcm := Aside0.mk (show cF ((lens fs).take (k + 1)) = cF ((lens fs).take k) + (fs[k].2.length + 1) by rw [List.take_succ_eq_append_getElem (by simpa using hkf), cF_snoc]; simp)
        have hle := Aside0.mk (show k0 + cF ((lens fs).take (k + 1)) ≤ 10000000 by have := cF_take_le (lens fs) (k + 1); rw [cF_lens] at this; omega)
        have hm0 := Aside0.mk (show 0 ≤ m ∧ m + 1 + fs[k].2.length ≤ 10000000 by have := hle.out; rw [hcm.out] at this; omega)
        have hO3 := Aside0.mk (show wr.ownsRow lo2 30 2 (.slice (some ⟨g, 0, none⟩) hs.length c) hs.length (hs'.flatMap encH) by have := hO2.out; unfold OH at this; rw [hl.out] at this; exact this)
        have hfz := own_frozen hO3.out (k * 2)
        obtain ⟨hz0, hz1⟩ := flatH_at hk1
        have hz2 := (hO3.out.cellAt (k * 2) (by omega)).trans hz0
        have hz3 := (hO3.out.cellAt (k * 2 + 1) (by omega)).trans hz1
        clear hz0 hz1
        obtain ⟨A1, n1, c1, hA⟩ : ∃ A n c, hdV hs'[k] = .slice A n c := ⟨_, _, _, rfl⟩
        rw [hA] at hz3
        have hw1 : IntKind.i64.wrap (m + 1) = m + 1 := by have := hm0.out; rw [IntWalk.i64_in _ (by omega)]
        have hFk : (markF k0 ((lens fs).take k) ++ fs.drop k)[k]? = some fs[k] := by
          rw [List.getElem?_append_right (by rw [markF_len, List.length_take]; omega), markF_len, List.length_take, List.getElem?_drop]
          simp only [lens, List.length_map, Nat.min_eq_left (show k ≤ fs.length by omega), Nat.sub_self, Nat.add_zero]
          exact List.getElem?_eq_getElem hkf
        have hOk := Aside0.mk (own_ex (hS.out.at_ k hs'[k] fs[k] (List.getElem?_eq_getElem hk1) hFk).2.1 (Ex.set wr ⟨g, k * 2, none⟩ (.int .i64 m)) (fun b hb e => hS.out.ne_row hO2.out (List.getElem?_eq_getElem hk1) hb (by rw [e]; rfl)))
        clear hFk
        rw [hA] at hOk
        have hA' := Aside0.mk hA
        clear hA
        rw [hm]
        go_wp2_with (go_at_call 70; refine (markIntS_calls _ lo _ fs[k].2 (m + 1) hOk.out (by have := hm0.out; omega) (by have := hm0.out; omega)).mono ?_; rintro e w2 ⟨rfl, hO5, hE5⟩; have hO6 := Aside0.mk hO5; have hE6 := Aside0.mk hE5; clear hO5 hE5)
        have hne : ∀ b, some b = (hdV hs'[k]).ownBlock → b ≠ g := fun b hb e => hS.out.ne_row hO2.out (List.getElem?_eq_getElem hk1) hb.symm (by rw [e]; rfl)
        have hE7 := hE6.out
        rw [← hA'.out] at hE7
        have hO7 := hO6.out
        rw [← hA'.out] at hO7
        have hS7 := Sep.upd (w := w2) (x := m) (ys := markI (m + 1) fs[k].2.length) hS.out hk1 (fun j a b hj ha hb => by
          have hb1 : b ≠ g := fun e => hS.out.ne_row hO2.out ha hb (by rw [e]; rfl)
          have hb2 : b < wr.heap.size := (hS.out.lt ha hb).2
          rw [hE7.block b (by simpa [World.setCell] using hb2) (fun e => hj (hS.out.apart j k a hs'[k] b ha (List.getElem?_eq_getElem hk1) hb e.symm))]
          exact Below.heap_setCell wr ⟨g, k * 2, none⟩ _ b hb1) hO7 (markI_inR _ _ (by have := hm0.out; omega) (by have := hm0.out; omega))
        refine ⟨⟨k + 1, hs'.set k (m, hs'[k].2), by omega, by go_num, ?_, ⟨by rw [List.length_set]; exact hl.out⟩, ⟨?_⟩, ⟨?_⟩, ⟨fun b hb => hF.out b (FB.set hk1 hb)⟩, ⟨(hE.out.trans (Ex.set wr _ _) (fun i _ e => .inl (by rw [e]; rfl))).trans hE7 (fun i _ e => hF.out i (.inr ⟨k, hs'[k], List.getElem?_eq_getElem hk1, e⟩))⟩⟩, by simp [intOf]; omega⟩
        · have h1 := hcm.out
          congr 1
          rw [h1]; omega
        · have h1 := (hO3.out.stored (k * 2) (.int .i64 m)).1
          rw [flatH_set0 hs' k hk1 m] at h1
          have h2 := own_ex h1 hE7 (fun b hb e => hne b e (by injection hb with hb; exact hb.symm))
          show World.ownsRow _ _ _ _ _ (hs'.set k (m, hs'[k].2)).length _
          rw [List.length_set, hl.out]
          exact h2
        · have e1 : (lens fs).take (k + 1) = (lens fs).take k ++ [fs[k].2.length] := by rw [List.take_succ_eq_append_getElem (by simpa using hkf)]; simp
          rw [List.drop_eq_getElem_cons hkf, set_mid _ _ _ _ k (by rw [markF_len, List.length_take]; simp; omega)] at hS7
          rw [e1, markF_snoc, hm, List.append_assoc]
          exact hS7
      · go_wp2
        go_ret
        obtain rfl : k = hs.length := by omega
        have e1 : (lens fs).take hs.length = lens fs := List.take_of_length_le (by simp [hlen'.out])
        have e2 : fs.drop hs.length = [] := List.drop_of_length_le (by rw [hlen'.out]; exact Nat.le_refl _)
        refine ⟨?_, ⟨hs', hO2.out, ?_, hF.out⟩, hE.out⟩
        · show Ending.returned (.int .i64 _) = _
          rw [e1, cF_lens]
        · have := hS.out
          rw [e1, e2, List.append_nil] at this
          exact this
end Go.Proofs.YtngjhblbpapjeaaGreat.H
/- Walks: nulls of instances. No condition. -/
namespace Go.Proofs.YtngjhblbpapjeaaGreat.H
open Go Go.RowKit Go.Proofs.YtngjhblbpapjeaaGreatW.PrintWords Go.Proofs.YtngjhblbpapjeaaGreatW.PrintLast
open Go.Proofs.YtngjhblbpapjeaaGreat.Reg (On on_draw)
set_option maxHeartbeats 1000000
set_option maxRecDepth 100000
set_option linter.unusedVariables false
set_option linter.unusedSimpArgs false

def putAll : List Int → List Int → List Int
  | out, [] => out
  | out, x :: l => putAll (put out x) l
def nulsIFrom : List Int → List Fct → List Int
  | out, [] => out
  | out, f :: l => nulsIFrom (putAll out (nuls f.2)) l
def nulsI (fs : List Fct) : List Int := nulsIFrom [] fs
theorem putAll_step (out l : List Int) (k : Nat) (h : k < l.length) : putAll out (l.drop k) = putAll (put out l[k]) (l.drop (k + 1)) := by
  rw [List.drop_eq_getElem_cons h]; rfl
theorem nulsIFrom_step (out : List Int) (fs : List Fct) (k : Nat) (h : k < fs.length) : nulsIFrom out (fs.drop k) = nulsIFrom (putAll out (nuls fs[k].2)) (fs.drop (k + 1)) := by
  rw [List.drop_eq_getElem_cons h]; rfl
theorem nulsFrom_ok (out vs : List Int) (h : ∀ x ∈ out, 0 ≤ x ∧ x ≤ 39) : (∀ x ∈ nulsFrom out vs, 0 ≤ x ∧ x ≤ 39) ∧ (nulsFrom out vs).length ≤ out.length + vs.length := by
  induction vs generalizing out with
  | nil => exact ⟨h, by simp [nulsFrom]⟩
  | cons v vs ih =>
    unfold nulsFrom
    split
    · have h2 := ih (put out (nulNum v)) (fun x hx => by
        rcases put_mem hx with hx | rfl
        · exact h x hx
        · exact nulNum_bd v)
      have := put_length out (nulNum v)
      exact ⟨h2.1, by simp only [List.length_cons]; omega⟩
    · have h2 := ih out h
      exact ⟨h2.1, by simp only [List.length_cons]; omega⟩
theorem nuls_ok (vs : List Int) : (∀ x ∈ nuls vs, 0 ≤ x ∧ x ≤ 39) ∧ (nuls vs).length ≤ vs.length := by
  have := nulsFrom_ok [] vs (fun x hx => by cases hx)
  exact ⟨this.1, Nat.le_trans this.2 (by simp)⟩
theorem inR_of {xs : List Int} (h : ∀ x ∈ xs, 0 ≤ x ∧ x ≤ 39) : InR xs := fun x hx => by have := h x hx; omega
end Go.Proofs.YtngjhblbpapjeaaGreat.H
/- Sorted, each once: plain. No condition. -/
namespace Go.Proofs.YtngjhblbpapjeaaGreat.H
open Go Go.RowKit Go.Proofs.YtngjhblbpapjeaaGreatW.PrintWords Go.Proofs.YtngjhblbpapjeaaGreatW.PrintLast
open Go.Proofs.YtngjhblbpapjeaaGreat.Reg (On on_draw)
set_option maxHeartbeats 1000000
set_option linter.unusedVariables false
set_option linter.unusedSimpArgs false

theorem mem_put (x z : Int) : ∀ l : List Int, z ∈ put l x ↔ z = x ∨ z ∈ l
  | [] => by simp [put]
  | y :: l => by
    unfold put
    by_cases c : y < x
    · rw [if_pos c, List.mem_cons, List.mem_cons, mem_put x z l]
      constructor <;> rintro (h | h | h) <;> simp [h]
    · rw [if_neg c]
      by_cases c2 : y = x
      · rw [if_pos c2]; subst c2; simp
      · rw [if_neg c2]; simp
theorem put_up (x : Int) : ∀ l : List Int, l.Pairwise (· < ·) → (put l x).Pairwise (· < ·)
  | [], _ => by simp [put]
  | y :: l, h => by
    rw [List.pairwise_cons] at h
    unfold put
    by_cases c : y < x
    · rw [if_pos c, List.pairwise_cons]
      refine ⟨fun z hz => ?_, put_up x l h.2⟩
      rcases (mem_put x z l).1 hz with rfl | hz
      · exact c
      · exact h.1 z hz
    · rw [if_neg c]
      by_cases c2 : y = x
      · rw [if_pos c2, List.pairwise_cons]; exact h
      · rw [if_neg c2, List.pairwise_cons, List.pairwise_cons]
        refine ⟨fun z hz => ?_, h⟩
        rcases List.mem_cons.1 hz with rfl | hz
        · omega
        · have := h.1 z hz; omega
/-- Two ascending lists with the same elements are one. -/
theorem up_ext : ∀ a b : List Int, a.Pairwise (· < ·) → b.Pairwise (· < ·) → (∀ x, x ∈ a ↔ x ∈ b) → a = b
  | [], [], _, _, _ => rfl
  | [], y :: b, _, _, h => absurd ((h y).2 (by simp)) (by simp)
  | x :: a, [], _, _, h => absurd ((h x).1 (by simp)) (by simp)
  | x :: a, y :: b, ha, hb, h => by
    rw [List.pairwise_cons] at ha hb
    have e : x = y := by
      rcases List.mem_cons.1 ((h x).1 (by simp)) with e | hx
      · exact e
      · rcases List.mem_cons.1 ((h y).2 (by simp)) with e | hy
        · exact e.symm
        · have h1 := hb.1 x hx
          have h2 := ha.1 y hy
          omega
    subst e
    rw [up_ext a b ha.2 hb.2 (fun z => ?_)]
    constructor
    · intro hz
      rcases List.mem_cons.1 ((h z).1 (List.mem_cons_of_mem _ hz)) with e | hz'
      · have := ha.1 z hz; omega
      · exact hz'
    · intro hz
      rcases List.mem_cons.1 ((h z).2 (List.mem_cons_of_mem _ hz)) with e | hz'
      · have := hb.1 z hz; omega
      · exact hz'
/-- An array in order, of which neighbours that are equal go: ascending, each once. -/
theorem compactUpTo_up (d : Array Int) (hs : ∀ i j, i < j → j < d.size → d[i]! ≤ d[j]!) : ∀ m, m ≤ d.size → (Go.Lib.compactUpTo d m).Pairwise (· < ·) ∧ (∀ x, x ∈ Go.Lib.compactUpTo d m ↔ ∃ j, j < m ∧ d[j]! = x) := by
  intro m
  induction m with
  | zero => intro _; simp [Go.Lib.compactUpTo]
  | succ m ih =>
    intro hm
    obtain ⟨h1, h2⟩ := ih (by omega)
    rw [Go.Lib.compactUpTo_succ]
    by_cases c : Go.Lib.keeps d m = true
    · rw [if_pos c]
      have hk : m = 0 ∨ d[m]! ≠ d[m - 1]! := by simpa [Go.Lib.keeps] using c
      refine ⟨?_, fun x => ?_⟩
      · rw [List.pairwise_append]
        refine ⟨h1, by simp, fun x hx y hy => ?_⟩
        obtain rfl : y = d[m]! := by simpa using hy
        obtain ⟨j, hj, rfl⟩ := (h2 x).1 hx
        rcases hk with hk | hk
        · omega
        · have a1 : d[m - 1]! ≤ d[m]! := hs (m - 1) m (by omega) (by omega)
          have a2 : d[j]! ≤ d[m - 1]! := by
            by_cases e : j = m - 1
            · rw [e]; exact Int.le_refl _
            · exact hs j (m - 1) (by omega) (by omega)
          omega
      · rw [List.mem_append, h2]
        constructor
        · rintro (⟨j, hj, e⟩ | h)
          · exact ⟨j, by omega, e⟩
          · exact ⟨m, by omega, (List.mem_singleton.1 h).symm⟩
        · rintro ⟨j, hj, e⟩
          by_cases c2 : j = m
          · subst c2; exact .inr (by simp [e])
          · exact .inl ⟨j, by omega, e⟩
    · rw [if_neg c, List.append_nil]
      refine ⟨h1, fun x => ?_⟩
      have hk : ¬ (m = 0 ∨ d[m]! ≠ d[m - 1]!) := by simpa [Go.Lib.keeps] using c
      have hm0 : m ≠ 0 := fun e => hk (.inl e)
      have he : d[m]! = d[m - 1]! := by
        by_cases e : d[m]! = d[m - 1]!
        · exact e
        · exact absurd (.inr e) hk
      rw [h2]
      constructor
      · rintro ⟨j, hj, e⟩; exact ⟨j, by omega, e⟩
      · rintro ⟨j, hj, e⟩
        by_cases c2 : j = m
        · subst c2; exact ⟨j - 1, by omega, by rw [← he]; exact e⟩
        · exact ⟨j, by omega, e⟩
/-- Sorted, then made sparse: what the two library calls come to. -/
def sortU (l : List Int) : List Int := Go.Lib.compact (l.mergeSort fun x y => decide (x ≤ y))
theorem sortU_up (l : List Int) : (sortU l).Pairwise (· < ·) ∧ ∀ x, x ∈ sortU l ↔ x ∈ l := by
  have hp := List.mergeSort_perm l (fun x y : Int => decide (x ≤ y))
  have ho : (l.mergeSort fun x y : Int => decide (x ≤ y)).Pairwise (fun x y => decide (x ≤ y) = true) := List.pairwise_mergeSort (fun a b c h1 h2 => by simp at *; omega) (fun a b => by simp; omega) l
  unfold sortU
  generalize hs : (l.mergeSort fun x y : Int => decide (x ≤ y)) = s at hp ho
  have hg : ∀ j, (h : j < s.length) → (s.toArray)[j]! = s[j] := fun j h => by simp [h]
  have h := compactUpTo_up s.toArray (fun i j hij hj => by
    have hj' : j < s.length := by simpa using hj
    rw [hg i (by omega), hg j hj']
    have := (List.pairwise_iff_getElem.1 ho) i j (by omega) hj' hij
    simpa using this) s.length (by simp)
  refine ⟨h.1, fun x => ?_⟩
  unfold Go.Lib.compact
  rw [h.2]
  rw [← hp.mem_iff]
  constructor
  · rintro ⟨j, hj, e⟩
    rw [hg j hj] at e
    exact e ▸ List.getElem_mem hj
  · intro hx
    obtain ⟨j, hj, e⟩ := List.mem_iff_getElem.1 hx
    exact ⟨j, hj, by rw [hg j hj]; exact e⟩
theorem up_len : ∀ (l : List Int) (a : Int) (b : Nat), l.Pairwise (· < ·) → (∀ x ∈ l, a ≤ x ∧ x < a + b) → l.length ≤ b
  | [], _, _, _, _ => Nat.zero_le _
  | x :: l, a, b, h, hb => by
    rw [List.pairwise_cons] at h
    have hx := hb x (by simp)
    have := up_len l (x + 1) ((a + b - (x + 1)).toNat) h.2 (fun y hy => by
      have h1 := h.1 y hy
      have h2 := hb y (List.mem_cons_of_mem _ hy)
      omega)
    simp only [List.length_cons]
    omega
/-- The numbers of the nulls, as they come. -/
def nulSeq (vs : List Int) : List Int := (vs.filter isNul).map nulNum
theorem nulSeq_cons (v : Int) (vs : List Int) : nulSeq (v :: vs) = (if isNul v then nulNum v :: nulSeq vs else nulSeq vs) := by
  unfold nulSeq; rw [List.filter_cons]; split <;> simp
theorem nulsFrom_up (vs out : List Int) (h : out.Pairwise (· < ·)) : (nulsFrom out vs).Pairwise (· < ·) ∧ ∀ x, x ∈ nulsFrom out vs ↔ x ∈ out ∨ x ∈ nulSeq vs := by
  induction vs generalizing out with
  | nil => exact ⟨h, fun x => by simp [nulsFrom, nulSeq]⟩
  | cons v vs ih =>
    rw [nulSeq_cons]
    unfold nulsFrom
    by_cases c : isNul v = true
    · rw [if_pos c, if_pos c]
      obtain ⟨h1, h2⟩ := ih _ (put_up (nulNum v) out h)
      refine ⟨h1, fun x => ?_⟩
      rw [h2, mem_put, List.mem_cons]
      constructor
      · rintro ((h | h) | h)
        · exact .inr (.inl h)
        · exact .inl h
        · exact .inr (.inr h)
      · rintro (h | h | h)
        · exact .inl (.inr h)
        · exact .inl (.inl h)
        · exact .inr h
    · rw [if_neg c, if_neg c]
      exact ih out h
theorem nuls_sort (vs : List Int) : sortU (nulSeq vs) = nuls vs := by
  obtain ⟨h1, h2⟩ := nulsFrom_up vs [] (by simp)
  obtain ⟨h3, h4⟩ := sortU_up (nulSeq vs)
  exact up_ext _ _ h3 h1 fun x => by rw [h4]; unfold nuls; rw [h2]; simp
theorem putAll_up (l out : List Int) (h : out.Pairwise (· < ·)) : (putAll out l).Pairwise (· < ·) ∧ ∀ x, x ∈ putAll out l ↔ x ∈ out ∨ x ∈ l := by
  induction l generalizing out with
  | nil => exact ⟨h, fun x => by simp [putAll]⟩
  | cons y l ih =>
    unfold putAll
    obtain ⟨h1, h2⟩ := ih _ (put_up y out h)
    refine ⟨h1, fun x => ?_⟩
    rw [h2, mem_put, List.mem_cons]
    constructor
    · rintro ((h | h) | h)
      · exact .inr (.inl h)
      · exact .inl h
      · exact .inr (.inr h)
    · rintro (h | h | h)
      · exact .inl (.inr h)
      · exact .inl (.inl h)
      · exact .inr h
/-- All values of some facts. -/
def valsOf (fs : List Fct) : List Int := fs.flatMap fun f => f.2
theorem nulSeq_append (a b : List Int) : nulSeq (a ++ b) = nulSeq a ++ nulSeq b := by simp [nulSeq]
theorem nulsIFrom_up (fs : List Fct) (out : List Int) (h : out.Pairwise (· < ·)) : (nulsIFrom out fs).Pairwise (· < ·) ∧ ∀ x, x ∈ nulsIFrom out fs ↔ x ∈ out ∨ x ∈ nulSeq (valsOf fs) := by
  induction fs generalizing out with
  | nil => exact ⟨h, fun x => by simp [nulsIFrom, valsOf, nulSeq]⟩
  | cons f fs ih =>
    unfold nulsIFrom
    obtain ⟨p1, p2⟩ := putAll_up (nuls f.2) out h
    obtain ⟨h1, h2⟩ := ih _ p1
    obtain ⟨_, q2⟩ := nulsFrom_up f.2 [] (by simp)
    refine ⟨h1, fun x => ?_⟩
    have e : valsOf (f :: fs) = f.2 ++ valsOf fs := rfl
    rw [h2, p2, e, nulSeq_append, List.mem_append]
    have q3 := q2 x
    simp only [List.not_mem_nil, false_or] at q3
    unfold nuls
    rw [q3]
    exact or_assoc
theorem nulsI_sort (fs : List Fct) : sortU (nulSeq (valsOf fs)) = nulsI fs := by
  obtain ⟨h1, h2⟩ := nulsIFrom_up fs [] (by simp)
  obtain ⟨h3, h4⟩ := sortU_up (nulSeq (valsOf fs))
  exact up_ext _ _ h3 h1 fun x => by rw [h4]; unfold nulsI; rw [h2]; simp
theorem nulSeq_ok (vs : List Int) : (∀ x ∈ nulSeq vs, 0 ≤ x ∧ x ≤ 39) ∧ (nulSeq vs).length ≤ vs.length := by
  refine ⟨fun x hx => ?_, ?_⟩
  · obtain ⟨v, _, rfl⟩ := List.mem_map.1 hx
    exact nulNum_bd v
  · unfold nulSeq; rw [List.length_map]; exact List.length_filter_le _ _
end Go.Proofs.YtngjhblbpapjeaaGreat.H
/- Walks: the program's own nulls; the library's sorting over its shelf. No condition. -/
namespace Go.Proofs.YtngjhblbpapjeaaGreat.H
open Go Go.RowKit Go.Proofs.YtngjhblbpapjeaaGreatW.PrintWords Go.Proofs.YtngjhblbpapjeaaGreatW.PrintLast
open Go.Proofs.YtngjhblbpapjeaaGreat.Reg (On on_draw)
set_option maxHeartbeats 1000000
set_option maxRecDepth 100000
set_option linter.unusedVariables false
set_option linter.unusedSimpArgs false

theorem own_setCells {base g n cap : Nat} {e : TypeId} : ∀ (ys : List Value) (i : Nat) (xs : List Value) (W : World), W.ownsRow base e 1 (.slice (some ⟨g, 0, none⟩) n cap) n xs → i + ys.length ≤ n →
    (W.setCells g i ys).ownsRow base e 1 (.slice (some ⟨g, 0, none⟩) n cap) n (xs.take i ++ ys ++ xs.drop (i + ys.length)) ∧ W.grownBy (W.setCells g i ys) (some g)
  | [], i, xs, W, h, _ => ⟨by simpa [World.setCells] using h, World.grownBy.refl W _⟩
  | y :: ys, i, xs, W, h, hl => by
    have hx : xs.length = n := by have := h.1; omega
    simp only [List.length_cons] at hl
    obtain ⟨h1, g1⟩ := h.stored i y
    obtain ⟨h2, g2⟩ := own_setCells ys (i + 1) _ _ h1 (by omega)
    refine ⟨?_, World.grownBy.trans g1 g2⟩
    have e : (xs.set i y).take (i + 1) ++ ys ++ (xs.set i y).drop (i + 1 + ys.length) = xs.take i ++ (y :: ys) ++ xs.drop (i + (y :: ys).length) := by
      rw [List.take_succ_eq_append_getElem (by simp; omega), List.take_set_of_le (Nat.le_refl _), List.getElem_set_self, List.drop_set_of_lt (by omega)]
      rw [show i + 1 + ys.length = i + (y :: ys).length by simp; omega]
      simp
    rw [e] at h2
    exact h2
theorem own_holds {base g cap : Nat} {e : TypeId} {w : World} {zs : List Int} (h : w.ownsRow base e 1 (.slice (some ⟨g, 0, none⟩) zs.length cap) zs.length (encs (Value.int .i64) zs)) : Go.Sort.Holds (Value.int .i64) w g 0 zs.toArray := by
  intro j hj
  have hj' : j < zs.length := by simpa using hj
  constructor
  · have hc := h.cells (g := g) rfl j (.int .i64 zs[j]) (by simp [encs, List.getElem?_eq_getElem hj'])
    rw [add_plain] at hc
    rw [Nat.zero_add, hc]
    simp [hj']
  · rcases h.2 with ⟨h', _⟩ | ⟨g', cap', cur, h', _, hh, _⟩
    · cases h'
    · have : g = g' := by injection h' with h'; injection h' with h'; injection h' with h'
      subst this
      simp [World.frozen?, hh]
theorem own_row {base g cap : Nat} {e : TypeId} {w : World} {zs ys : List Int} (q : Nat) (h : w.ownsRow base e 1 (.slice (some ⟨g, 0, none⟩) zs.length cap) zs.length (encs (Value.int .i64) zs)) (hl : ys.length = zs.length) :
    (Go.Sort.putRow (Value.int .i64) (Go.Sort.ahead w q) g 0 ys.toArray).ownsRow base e 1 (.slice (some ⟨g, 0, none⟩) zs.length cap) zs.length (encs (Value.int .i64) ys) ∧ w.grownBy (Go.Sort.putRow (Value.int .i64) (Go.Sort.ahead w q) g 0 ys.toArray) (some g) := by
  rw [Go.Lib.putRow_eq_setCells _ w g 0 zs.toArray ys q (own_holds h) (by simpa using hl)]
  have h1 : (w.drewN q).ownsRow base e 1 (.slice (some ⟨g, 0, none⟩) zs.length cap) zs.length (encs (Value.int .i64) zs) := own_move h (fun _ _ => rfl)
  obtain ⟨h2, g2⟩ := own_setCells (ys.map (Value.int .i64)) 0 _ _ h1 (by simp; omega)
  have e : (encs (Value.int .i64) zs).take 0 ++ ys.map (Value.int .i64) ++ (encs (Value.int .i64) zs).drop (0 + (ys.map (Value.int .i64)).length) = encs (Value.int .i64) ys := by
    rw [List.drop_of_length_le (by simp [encs]; omega)]
    simp [encs]
  rw [e] at h2
  exact ⟨h2, ⟨g2.os, g2.tape, g2.output, g2.size, g2.block⟩⟩
theorem grownBy_grow {w w1 : World} {row : Option Nat} (h : w.grownBy w1 row) (os : Array Obj) : w.grownBy (Go.Sort.grow w1 os) row := by
  refine ⟨h.os, h.tape, h.output, by have := h.size; simp [Go.Sort.grow]; omega, fun k hk hr => ?_⟩
  have hs := h.size
  show (w1.heap ++ os)[k]? = _
  rw [Array.getElem?_append_left (by omega)]
  exact h.block k hk hr
theorem own_grow {w : World} {base : Nat} {e : TypeId} {size n : Nat} {v : Value} {xs : List Value} (h : w.ownsRow base e size v n xs) (os : Array Obj) : (Go.Sort.grow w os).ownsRow base e size v n xs := by
  refine own_move h fun k hk => ?_
  have := own_lt h k hk
  show (w.heap ++ os)[k]? = _
  rw [Array.getElem?_append_left (by omega)]
theorem own_cut1 {base g cap n : Nat} {e : TypeId} {w : World} {xs : List Value} (h : w.ownsRow base e 1 (.slice (some ⟨g, 0, none⟩) n cap) n xs) (m : Nat) (hm : m ≤ n) : w.ownsRow base e 1 (.slice (some ⟨g, 0, none⟩) m cap) m (xs.take m) := by
  have hx : xs.length = n := by have := h.1; omega
  rcases h.2 with ⟨h', _⟩ | ⟨g', cap', cur, h', hg, hh, hnc, hcm, hcs, htk⟩
  · cases h'
  · injection h' with h1 h2 h3
    injection h1 with h1
    injection h1 with h1
    subst h1 h3
    refine ⟨by rw [List.length_take]; omega, .inr ⟨g, cap, cur, rfl, hg, hh, by omega, hcm, hcs, ?_⟩⟩
    rw [← htk, List.take_take]
    congr 1
    omega
theorem Ex.trans' {S : Nat → Prop} {a b c : World} (h : Ex S a b) (k : Ex S b c) : Ex S a c := h.trans k fun _ _ h => h
theorem sortI_calls (w : World) (lo : Nat) (v : Value) (xs : List Int) (h : OI w lo v xs) (hl : xs.length < 1099511627776) : Calls Tryz.prog 122 #[v] w fun e w' => e = .returned (.tuple #[]) ∧ OI w' lo v (xs.mergeSort fun x y => decide (x ≤ y)) ∧ Ex (fun b => some b = v.ownBlock) w w' := by
  have hown : w.ownsRow lo 3 1 v xs.length (encs (Value.int .i64) xs) := by rw [encs_flat]; exact h
  rcases hown.2 with ⟨rfl, hn⟩ | ⟨g, cap, cur, rfl, hg, hh, hr⟩
  · obtain rfl : xs = [] := List.eq_nil_of_length_eq_zero hn
    refine (Tryz.slices_Sort_int_none none 0 w).mono fun e w' ⟨he, hw⟩ => ?_
    subst hw
    exact ⟨he, by simpa using h, Ex.refl _ _⟩
  · have hlt : g < w.heap.size := own_lt hown g rfl
    refine (Tryz.slices_Sort_int g 0 cap xs w (own_holds hown) hlt (by omega)).mono fun e w' ⟨he, n, os, hw⟩ => ?_
    obtain ⟨h1, g1⟩ := own_row (ys := xs.mergeSort fun x y => decide (x ≤ y)) n hown (by simp)
    have h2 := own_grow h1 os
    have g2 := grownBy_grow g1 os
    rw [← hw] at h2 g2
    refine ⟨he, ?_, Ex.of_grown g2⟩
    show World.ownsRow _ _ _ _ _ (xs.mergeSort fun x y => decide (x ≤ y)).length _
    rw [← encs_flat, List.length_mergeSort]
    exact h2
theorem compactI_calls (w : World) (lo : Nat) (v : Value) (xs : List Int) (h : OI w lo v xs) (hl : xs.length < 1099511627776) : Calls Tryz.prog 123 #[v] w (Got fun v1 w' => OI w' lo v1 (Go.Lib.compact xs) ∧ Ex (fun b => some b = v.ownBlock) w w') := by
  have hown : w.ownsRow lo 3 1 v xs.length (encs (Value.int .i64) xs) := by rw [encs_flat]; exact h
  rcases hown.2 with ⟨rfl, hn⟩ | ⟨g, cap, cur, rfl, hg, hh, hnc, hr⟩
  · obtain rfl : xs = [] := List.eq_nil_of_length_eq_zero hn
    refine (Tryz.slices_Compact_int_empty none 0 w).mono fun e w' ⟨he, hw⟩ => ?_
    subst hw
    exact ⟨_, he, by simpa [Go.Lib.compact, Go.Lib.compactUpTo] using h, Ex.refl _ _⟩
  · have hle := Go.Lib.compact_length_le xs
    refine (Tryz.slices_Compact_int g 0 cap xs w (own_holds hown) (by omega) hnc).mono fun e w' ⟨he, n, hw⟩ => ?_
    obtain ⟨h1, g1⟩ := own_row (ys := Go.Lib.compact xs ++ List.replicate (xs.length - (Go.Lib.compact xs).length) 0) n hown (by simp; omega)
    have h2 := own_cut1 h1 (Go.Lib.compact xs).length hle
    have e2 : (encs (Value.int .i64) (Go.Lib.compact xs ++ List.replicate (xs.length - (Go.Lib.compact xs).length) 0)).take (Go.Lib.compact xs).length = encs (Value.int .i64) (Go.Lib.compact xs) := by
      simp [encs]
    rw [e2] at h2
    rw [← hw] at h2 g1
    rw [encs_flat] at h2
    exact ⟨_, he, h2, Ex.of_grown g1⟩
theorem nullsOf_calls (w : World) (A c) (vs : List Int) (h : Ints w A c vs) (hl : vs.length ≤ 1000000000) : Calls Tryz.prog 98 #[.slice A vs.length c] w (Got fun v' w' => OI w' w.heap.size v' (sortU (nulSeq vs)) ∧ On w w') := by
  go_enter Tryz.func98, Tryz.ntmps98
  go_wp2
  go_loopw [3, 11] (fun v3 v11 wr => ∃ k : Nat, k ≤ vs.length ∧ v11 = .int .i64 k ∧ Aside0 (OInts wr w.heap.size v3 (nulSeq (vs.take k))) ∧ On w wr) (fun _ v11 _ => vs.length - (intOf v11).toNat)
  case atStart => exact ⟨0, Nat.zero_le _, rfl, ⟨own0' (by simp) (by simp)⟩, On.alloc (On.refl _) _⟩
  case round =>
    obtain ⟨k, hk, rfl, hO, hB⟩ := hrel
    by_cases hlt : k < vs.length
    · obtain ⟨ad, rfl, hx⟩ := (h.on hB).at k hlt
      have hbd := h.bd k hlt
      have hseq := Aside0.mk (show nulSeq (vs.take (k + 1)) = nulSeq (vs.take k) ++ (if isNul vs[k] then [nulNum vs[k]] else []) by rw [List.take_succ_eq_append_getElem hlt, nulSeq_append, nulSeq_cons]; split <;> rfl)
      have hlq := Aside0.mk (show (nulSeq (vs.take k)).length ≤ k by have := (nulSeq_ok (vs.take k)).2; rw [List.length_take] at this; omega)
      cases hn : isNul vs[k] with
      | false =>
        have hn' := Aside0.mk hn
        clear hn
        go_wp2_with (go_at_call 121; refine (iNullNumber_calls _ _ hbd).mono ?_; rintro e w2 ⟨rfl, hb2⟩; rw [hn'.out])
        exact ⟨⟨k + 1, by omega, by go_num, ⟨by rw [hseq.out, hn'.out]; simpa using OInts.on hO.out hb2⟩, hB.trans hb2⟩, by simp [intOf]; omega⟩
      | true =>
        have hn' := Aside0.mk hn
        clear hn
        go_wp2_with (first | (go_at_call 121; refine (iNullNumber_calls _ _ hbd).mono ?_; rintro e w2 ⟨rfl, hb2⟩; rw [hn'.out]) | (refine gate 24 ?_))
        have hBA := (hB.trans hb2).trans (On.alloc (On.refl w2) (.cells #[.int .i64 (nulNum vs[k])] 3))
        have hOA := OInts.on hO.out (hb2.trans (On.alloc (On.refl w2) (.cells #[.int .i64 (nulNum vs[k])] 3)))
        obtain ⟨ys, hys⟩ : ∃ ys, nulSeq (vs.take k) ++ [nulNum vs[k]] = ys := ⟨_, rfl⟩
        have hys' := Aside0.mk hys
        have hl2 : (nulSeq (vs.take k)).length + 1 ≤ 10000000000 := by have := hlq.out; omega
        refine ⟨apI 24 hys hOA (Kd.R_reads' (own1 w2 (nulNum vs[k]))).2.2 hBA.size hl2 fun v3 w3 hO3 hg3 hat3 => ?_⟩
        clear hys
        have hB3 := grown_own hBA hOA hg3 (Nat.le_refl _)
        clear hl2 hat3
        go_wp2
        exact ⟨⟨k + 1, by omega, by go_num, ⟨by rw [hseq.out, hn'.out, if_pos rfl, hys'.out]; exact hO3⟩, hB3⟩, by simp [intOf]; omega⟩
    · have e1 : vs.take k = vs := List.take_of_length_le (by omega)
      rw [e1] at hO
      have hlq := (nulSeq_ok vs).2
      go_wp2_with (first | (go_at_call 122; refine (sortI_calls wr w.heap.size _ (nulSeq vs) (OI.of hO.out) (by omega)).mono ?_; rintro e w2 ⟨rfl, hO2, hE2⟩; have hO3 := Aside0.mk hO2; clear hO2) | (go_at_call 123; refine (compactI_calls w2 w.heap.size _ _ hO3.out (by rw [List.length_mergeSort]; omega)).mono ?_; rintro e w3 ⟨v3, rfl, hO4, hE4⟩))
      go_ret
      exact ⟨_, rfl, hO4, Ex.on (Ex.on hB hE2 (fun i e => own_base (OI.of hO.out) i e.symm)) hE4 (fun i e => own_base (OI.of hO.out) i e.symm)⟩
theorem iNullsOfFact_calls (w : World) (A c) (r : Int) (vs : List Int) (h : Ints w A c vs) (hl : vs.length ≤ 1000000000) : Calls Tryz.prog 56 #[.agg #[.int .i64 r, .slice A vs.length c]] w (Got fun v' w' => OI w' w.heap.size v' (nuls vs) ∧ On w w') := by
  have hb := Aside0.mk (On.alloc (On.refl w) (.cells #[.int .i64 r, .slice A vs.length c] 30))
  go_enter Tryz.func56, Tryz.ntmps56
  go_wp2_with (go_at_call 98; refine (nullsOf_calls _ A c vs (h.on hb.out) hl).mono ?_; rintro e w2 ⟨v, rfl, hO, hb2⟩; have hO' := Aside0.mk hO; clear hO)
  go_ret
  exact ⟨_, rfl, by rw [← nuls_sort]; exact own_lower hO'.out hb.out.size, hb.out.trans hb2⟩
theorem valsOf_take (fs : List Fct) (k : Nat) (h : k < fs.length) : valsOf (fs.take (k + 1)) = valsOf (fs.take k) ++ fs[k].2 := by
  unfold valsOf; rw [List.take_succ_eq_append_getElem h, List.flatMap_append]; simp
theorem valsOf_inR {fs : List Fct} (h : InF fs) : InR (valsOf fs) := fun x hx => by
  obtain ⟨f, hf, hx⟩ := List.mem_flatMap.1 hx
  exact h f hf x hx
theorem valsOf_len (fs : List Fct) : (valsOf fs).length ≤ wF fs := by
  unfold valsOf wF
  induction fs with
  | nil => simp
  | cons f fs ih => simp at ih ⊢; omega
end Go.Proofs.YtngjhblbpapjeaaGreat.H
/- Walk: the program's own valid instances. No condition. -/
namespace Go.Proofs.YtngjhblbpapjeaaGreat.H
open Go Go.RowKit Go.Proofs.YtngjhblbpapjeaaGreatW.PrintWords Go.Proofs.YtngjhblbpapjeaaGreatW.PrintLast
open Go.Proofs.YtngjhblbpapjeaaGreat.Reg (On on_draw)
set_option maxHeartbeats 8000000
set_option maxRecDepth 100000
set_option linter.unusedVariables false
set_option linter.unusedSimpArgs false

theorem iIsValidInstance_calls (w : World) (A0 c0 A1 c1) (rs : List Rel) (fs : List Fct) (h0 : Rels w A0 c0 rs) (h1 : Fcts w A1 c1 fs) :
    Calls Tryz.prog 17 #[.agg #[.slice A0 rs.length c0, .slice A1 fs.length c1]] w fun e w' => e = .returned (.bool (okInst rs fs)) ∧ On w w' := by
  have hm0 := h0.max
  have hm1 := h1.max
  have hbI := Aside0.mk (On.alloc (On.refl w) (.cells #[.slice A0 rs.length c0, .slice A1 fs.length c1] 27))
  have hLI := Aside0.mk (loc1 w #[.slice A0 rs.length c0, .slice A1 fs.length c1] 27)
  cases hr : okRels rs with
  | false =>
    have hr' := Aside0.mk hr
    clear hr
    go_enter Tryz.func17, Tryz.ntmps17
    go_wp2_with (go_at_call 54; refine (iAreValidRelations_calls _ A0 c0 rs (h0.on hbI.out)).mono ?_; rintro e w3 ⟨rfl, hb3⟩; rw [hr'.out]; have hc3 := blk_cell (Loc.on hb3 hLI.out).1)
    go_ret
    exact ⟨ret_bool (by simp [okInst, hr'.out]), hbI.out.trans hb3⟩
  | true =>
    have hr' := Aside0.mk hr
    clear hr
    by_cases h30 : (fs.length : Int) ≤ 30
    · have h30b : decide ((fs.length : Int) ≤ 30) = true := decide_eq_true h30
      have h30c : decide (fs.length ≤ 30) = true := decide_eq_true (by omega)
      have h30d : decide (30 < fs.length) = false := decide_eq_false (by omega)
      have h30e : decide (30 < (fs.length : Int)) = false := decide_eq_false (by omega)
      go_enter Tryz.func17, Tryz.ntmps17
      go_wp2_with (go_at_call 54; refine (iAreValidRelations_calls _ A0 c0 rs (h0.on hbI.out)).mono ?_; rintro e w3 ⟨rfl, hb3⟩; rw [hr'.out]; have hL3 := Aside0.mk (Loc.on hb3 hLI.out); have hc3 := blk_cell hL3.out.1; have hb3' := Aside0.mk hb3; clear hb3)
      clear hc3
      go_loopw [18] (fun v wr => ∃ k : Nat, k ≤ fs.length ∧ v = .int .i64 k ∧ Hid (factsFrom rs (prevFct fs k) (fs.drop k) = factsFrom rs none fs) ∧ On w wr ∧ Loc wr [(w.heap.size, #[.slice A0 rs.length c0, .slice A1 fs.length c1], 27)]) (fun v _ => fs.length - (intOf v).toNat)
      case atStart => exact ⟨0, Nat.zero_le _, rfl, rfl, hbI.out.trans hb3'.out, hL3.out⟩
      case round =>
        obtain ⟨k, hk, rfl, hp, hB, hL⟩ := hrel
        clear hb3' hL3
        have hc0 := blk_cell hL.1
        have hL' := Aside0.mk hL
        clear hL
        by_cases hlt : k < fs.length
        · obtain ⟨ad, A3, c3, rfl, hx0, hx1, hx2'⟩ := (h1.on hB).at k hlt
          have hfill := alloc_fill wr
          have hst := Aside0.mk ((factsFrom_step rs fs k hlt).symm.trans hp.out)
          have hbx := Aside0.mk (On.alloc (On.refl wr) (.cells #[.int .i64 fs[k].1, .slice A3 fs[k].2.length c3] 30))
          have hB2 := Aside0.mk (hB.trans hbx.out)
          have hcn := blk_cell (loc_new wr #[.int .i64 fs[k].1, .slice A3 fs[k].2.length c3] 30)
          have hcm := blk_cell (Loc.on hbx.out hL'.out).1
          clear hp
          cases hok0 : okFact rs fs[k] with
          | false =>
            have hok := Aside0.mk hok0
            clear hok0
            go_wp2
            refine Reg.region [(0,.L),(1,.L),(2,.L),(3,.C),(4,.L),(5,.L),(6,.L),(7,.L),(8,.L),(9,.L),(10,.L),(11,.L),(12,.L),(13,.L),(14,.L),(15,.L),(16,.C),(17,.L),(18,.L),(19,.L)] [] (by kernel_rfl) (by kernel_rfl) ?_
            repeat first | refine sP ?_ | refine sS ?_ | refine sA ?_ | refine sL ?_ | refine sQ ?_ | refine sO ?_
            refine callC (.bool false) Tryz.func55 (fun w' hS => ?_) ?_
            focus exact (iIsValidFact_calls w' _ c0 rs _ c3 fs[k] (h0.on (hB2.out.trans hS)) (hx2'.on (hbx.out.trans hS))).mono fun e w'' h => ⟨by rw [h.1, hok.out], h.2⟩
            repeat first | refine sP ?_ | refine sS ?_ | refine sA ?_ | refine sL ?_ | refine sQ ?_ | refine sO ?_
            refine Reg.nil fun w2 hS => ?_
            go_wp2
            go_ret
            exact ⟨ret_bool (by have := hst.out; unfold okNext at this; rw [hok.out] at this; simp at this; simp [okInst, this]), hB2.out.trans hS⟩
          | true =>
            have hok := Aside0.mk hok0
            have hat := okFact_at hok0
            clear hok0
            have hat1 : fs[k].1.toNat < rs.length := by omega
            have hat2 : 0 ≤ fs[k].1 := hat.1
            have hat3 : fs[k].1 < rs.length := hat.2
            obtain ⟨ad0, rfl, _, _, _⟩ := (h0.on hB2.out).at fs[k].1.toNat hat1
            clear hat
            by_cases hk0 : 0 < k
            · have hk0' : decide (0 < (k : Int)) = true := decide_eq_true (by omega)
              have hki : IntKind.i64.wrap ((k : Int) - 1) = ((k - 1 : Nat) : Int) := by rw [IntWalk.i64_in _ (by omega)]; omega
              have hk1 : k - 1 < fs.length := by omega
              obtain ⟨ad', A4, c4, e', hy0, hy1, hy2⟩ := (h1.on hB2.out).at (k - 1) hk1
              obtain rfl : ad = ad' := by simpa using e'
              have hpn : prevFct fs k = some fs[k - 1] := by simp [prevFct, show ¬ k = 0 by omega, show k - 1 < fs.length by omega]
              by_cases hc : cmpF fs[k - 1] fs[k] < 0
              · have hcb : decide (0 ≤ cmpF fs[k - 1] fs[k]) = false := decide_eq_false (by omega)
                have hpv := Aside0.mk (show okPrev (prevFct fs k) fs[k] = true by rw [hpn]; exact decide_eq_true hc)
                clear hc hpn
                go_wp2
                refine Reg.region [(0,.L),(1,.L),(2,.L),(3,.C),(4,.L),(5,.L),(6,.L),(7,.L),(8,.L),(9,.L),(10,.L),(11,.L),(12,.L),(13,.L),(14,.L),(15,.L),(16,.C),(17,.L),(18,.L),(19,.L)] [] (by kernel_rfl) (by kernel_rfl) ?_
                repeat first | refine sP ?_ | refine sS ?_ | refine sA ?_ | refine sL ?_ | refine sQ ?_ | refine sO ?_
                refine callC (.bool true) Tryz.func55 (fun w' hS => ?_) ?_
                focus exact (iIsValidFact_calls w' _ c0 rs _ c3 fs[k] (h0.on (hB2.out.trans hS)) (hx2'.on (hbx.out.trans hS))).mono fun e w'' h => ⟨by rw [h.1, hok.out], h.2⟩
                repeat first | refine sP ?_ | refine sS ?_ | refine sA ?_ | refine sL ?_ | refine sQ ?_ | refine sO ?_
                refine callC (.int .i64 (cmpF fs[k - 1] fs[k])) Tryz.func12 (fun w' hS => ?_) ?_
                focus exact iCompareFacts_calls w' A4 c4 A3 c3 fs[k - 1] fs[k] (hy2.on hS) (hx2'.on (hbx.out.trans hS))
                repeat first | refine sP ?_ | refine sS ?_ | refine sA ?_ | refine sL ?_ | refine sQ ?_ | refine sO ?_
                clear hy0 hy1 hy2 hki hcb
                refine Reg.nil fun w2 hS => ?_
                clear hcn hcm hfill
                have hc5 := blk_cell (Loc.on (hbx.out.trans hS) hL'.out).1
                have hc6 := blk_cell (blk_below (loc_new wr #[.int .i64 fs[k].1, .slice A3 fs[k].2.length c3] 30) hS)
                obtain ⟨ad1, e9, _, _, hxs1⟩ := (h0.on (hB2.out.trans hS)).at fs[k].1.toNat hat1
                obtain rfl : ad0 = ad1 := by simpa using e9
                have hsr : rs[fs[k].1.toNat].2.2 = srcOf rs fs[k].1 := by simp [srcOf, hat1]
                rw [hsr] at hxs1
                clear hsr e9
                have hB3 := Aside0.mk (hB2.out.trans hS)
                have hL3 := Aside0.mk (Loc.on (hbx.out.trans hS) hL'.out)
                have hx3 := Aside0.mk (hx2'.on (hbx.out.trans hS))
                clear hS
                cases hs : srcOf rs fs[k].1 with
                | false =>
                  rw [hs] at hxs1
                  have hs' := Aside0.mk hs
                  clear hs
                  go_wp2
                  go_roundw
                  case rel => exact ⟨k + 1, by omega, by go_num, (by have := hst.out; unfold okNext at this; rw [hok.out, hpv.out, hs'.out] at this; simpa using this : _ = _), hB3.out, hL3.out⟩
                  case measure => simp [intOf]; omega
                | true =>
                  rw [hs] at hxs1
                  have hs' := Aside0.mk hs
                  clear hs
                  have hnn := Aside0.mk (nuls_ok fs[k].2)
                  by_cases hz : (nuls fs[k].2).length = 0
                  · have hzb : decide (0 < ((nuls fs[k].2).length : Int)) = false := decide_eq_false (by omega)
                    have hzc : decide (0 < (nuls fs[k].2).length) = false := decide_eq_false (by omega)
                    have hz' := Aside0.mk hz
                    clear hz
                    go_wp2_with (go_at_call 56; refine (iNullsOfFact_calls _ A3 c3 fs[k].1 fs[k].2 hx3.out (Nat.le_trans (okFact_len hok.out) (by omega))).mono ?_; rintro e w4 ⟨v4, rfl, hO4, hb4⟩; obtain ⟨A5, c5, rfl⟩ := own_slice hO4; clear hO4)
                    exact ⟨⟨k + 1, by omega, by go_num, (by have := hst.out; unfold okNext at this; rw [hok.out, hpv.out, hs'.out, hz'.out] at this; simpa using this : _ = _), hB3.out.trans hb4, Loc.on hb4 hL3.out⟩, by simp [intOf]; omega⟩
                  · have hzb : decide (0 < ((nuls fs[k].2).length : Int)) = true := decide_eq_true (by omega)
                    have hzc : decide (0 < (nuls fs[k].2).length) = true := decide_eq_true (by omega)
                    have hz' := Aside0.mk (decide_eq_false hz)
                    clear hz
                    go_wp2_with (go_at_call 56; refine (iNullsOfFact_calls _ A3 c3 fs[k].1 fs[k].2 hx3.out (Nat.le_trans (okFact_len hok.out) (by omega))).mono ?_; rintro e w4 ⟨v4, rfl, hO4, hb4⟩; obtain ⟨A5, c5, rfl⟩ := own_slice hO4; clear hO4)
                    go_ret
                    exact ⟨ret_bool (by have := hst.out; unfold okNext at this; rw [hok.out, hpv.out, hs'.out, hz'.out] at this; simp at this; simp [okInst, this]), hB3.out.trans hb4⟩
              · have hcb : decide (0 ≤ cmpF fs[k - 1] fs[k]) = true := decide_eq_true (by omega)
                have hpv := Aside0.mk (show okPrev (prevFct fs k) fs[k] = false by rw [hpn]; exact decide_eq_false hc)
                clear hc hpn
                go_wp2
                refine Reg.region [(0,.L),(1,.L),(2,.L),(3,.C),(4,.L),(5,.L),(6,.L),(7,.L),(8,.L),(9,.L),(10,.L),(11,.L),(12,.L),(13,.L),(14,.L),(15,.L),(16,.C),(17,.L),(18,.L),(19,.L)] [] (by kernel_rfl) (by kernel_rfl) ?_
                repeat first | refine sP ?_ | refine sS ?_ | refine sA ?_ | refine sL ?_ | refine sQ ?_ | refine sO ?_
                refine callC (.bool true) Tryz.func55 (fun w' hS => ?_) ?_
                focus exact (iIsValidFact_calls w' _ c0 rs _ c3 fs[k] (h0.on (hB2.out.trans hS)) (hx2'.on (hbx.out.trans hS))).mono fun e w'' h => ⟨by rw [h.1, hok.out], h.2⟩
                repeat first | refine sP ?_ | refine sS ?_ | refine sA ?_ | refine sL ?_ | refine sQ ?_ | refine sO ?_
                refine callC (.int .i64 (cmpF fs[k - 1] fs[k])) Tryz.func12 (fun w' hS => ?_) ?_
                focus exact iCompareFacts_calls w' A4 c4 A3 c3 fs[k - 1] fs[k] (hy2.on hS) (hx2'.on (hbx.out.trans hS))
                repeat first | refine sP ?_ | refine sS ?_ | refine sA ?_ | refine sL ?_ | refine sQ ?_ | refine sO ?_
                refine Reg.nil fun w2 hS => ?_
                go_wp2
                go_ret
                exact ⟨ret_bool (by have := hst.out; unfold okNext at this; rw [hok.out, hpv.out] at this; simp at this; simp [okInst, this]), hB2.out.trans hS⟩
            · have hk0' : decide (0 < (k : Int)) = false := decide_eq_false (by omega)
              have hpv := Aside0.mk (show okPrev (prevFct fs k) fs[k] = true by simp [okPrev, prevFct, show k = 0 by omega])
              go_wp2
              refine Reg.region [(0,.L),(1,.L),(2,.L),(3,.C),(4,.L),(5,.L),(6,.L),(7,.L),(8,.L),(9,.L),(10,.L),(11,.L),(12,.L),(13,.L),(14,.L),(15,.L),(16,.C),(17,.L),(18,.L),(19,.L)] [] (by kernel_rfl) (by kernel_rfl) ?_
              repeat first | refine sP ?_ | refine sS ?_ | refine sA ?_ | refine sL ?_ | refine sQ ?_ | refine sO ?_
              refine callC (.bool true) Tryz.func55 (fun w' hS => ?_) ?_
              focus exact (iIsValidFact_calls w' _ c0 rs _ c3 fs[k] (h0.on (hB2.out.trans hS)) (hx2'.on (hbx.out.trans hS))).mono fun e w'' h => ⟨by rw [h.1, hok.out], h.2⟩
              repeat first | refine sP ?_ | refine sS ?_ | refine sA ?_ | refine sL ?_ | refine sQ ?_ | refine sO ?_
              refine Reg.nil fun w2 hS => ?_
              clear hcn hcm hfill
              have hc5 := blk_cell (Loc.on (hbx.out.trans hS) hL'.out).1
              have hc6 := blk_cell (blk_below (loc_new wr #[.int .i64 fs[k].1, .slice A3 fs[k].2.length c3] 30) hS)
              obtain ⟨ad1, e9, _, _, hxs1⟩ := (h0.on (hB2.out.trans hS)).at fs[k].1.toNat hat1
              obtain rfl : ad0 = ad1 := by simpa using e9
              have hsr : rs[fs[k].1.toNat].2.2 = srcOf rs fs[k].1 := by simp [srcOf, hat1]
              rw [hsr] at hxs1
              clear hsr e9
              have hB3 := Aside0.mk (hB2.out.trans hS)
              have hL3 := Aside0.mk (Loc.on (hbx.out.trans hS) hL'.out)
              have hx3 := Aside0.mk (hx2'.on (hbx.out.trans hS))
              clear hS
              cases hs : srcOf rs fs[k].1 with
              | false =>
                rw [hs] at hxs1
                have hs' := Aside0.mk hs
                clear hs
                go_wp2
                go_roundw
                case rel => exact ⟨k + 1, by omega, by go_num, (by have := hst.out; unfold okNext at this; rw [hok.out, hpv.out, hs'.out] at this; simpa using this : _ = _), hB3.out, hL3.out⟩
                case measure => simp [intOf]; omega
              | true =>
                rw [hs] at hxs1
                have hs' := Aside0.mk hs
                clear hs
                have hnn := Aside0.mk (nuls_ok fs[k].2)
                by_cases hz : (nuls fs[k].2).length = 0
                · have hzb : decide (0 < ((nuls fs[k].2).length : Int)) = false := decide_eq_false (by omega)
                  have hzc : decide (0 < (nuls fs[k].2).length) = false := decide_eq_false (by omega)
                  have hz' := Aside0.mk hz
                  clear hz
                  go_wp2_with (go_at_call 56; refine (iNullsOfFact_calls _ A3 c3 fs[k].1 fs[k].2 hx3.out (Nat.le_trans (okFact_len hok.out) (by omega))).mono ?_; rintro e w4 ⟨v4, rfl, hO4, hb4⟩; obtain ⟨A5, c5, rfl⟩ := own_slice hO4; clear hO4)
                  exact ⟨⟨k + 1, by omega, by go_num, (by have := hst.out; unfold okNext at this; rw [hok.out, hpv.out, hs'.out, hz'.out] at this; simpa using this : _ = _), hB3.out.trans hb4, Loc.on hb4 hL3.out⟩, by simp [intOf]; omega⟩
                · have hzb : decide (0 < ((nuls fs[k].2).length : Int)) = true := decide_eq_true (by omega)
                  have hzc : decide (0 < (nuls fs[k].2).length) = true := decide_eq_true (by omega)
                  have hz' := Aside0.mk (decide_eq_false hz)
                  clear hz
                  go_wp2_with (go_at_call 56; refine (iNullsOfFact_calls _ A3 c3 fs[k].1 fs[k].2 hx3.out (Nat.le_trans (okFact_len hok.out) (by omega))).mono ?_; rintro e w4 ⟨v4, rfl, hO4, hb4⟩; obtain ⟨A5, c5, rfl⟩ := own_slice hO4; clear hO4)
                  go_ret
                  exact ⟨ret_bool (by have := hst.out; unfold okNext at this; rw [hok.out, hpv.out, hs'.out, hz'.out] at this; simp at this; simp [okInst, this]), hB3.out.trans hb4⟩
        · have hfl : factsFrom rs none fs = true := by rw [← hp.out, List.drop_of_length_le (by omega)]; cases prevFct fs k <;> rfl
          have hfl' := Aside0.mk hfl
          clear hp hfl
          go_wp2
          go_ret
          exact ⟨ret_bool (by simp [okInst, hfl'.out, hr'.out]; omega), hB⟩
    · have h30b : decide ((fs.length : Int) ≤ 30) = false := decide_eq_false h30
      have h30c : decide (fs.length ≤ 30) = false := decide_eq_false (by omega)
      have h30d : decide (30 < fs.length) = true := decide_eq_true (by omega)
      have h30e : decide (30 < (fs.length : Int)) = true := decide_eq_true (by omega)
      go_enter Tryz.func17, Tryz.ntmps17
      go_wp2_with (go_at_call 54; refine (iAreValidRelations_calls _ A0 c0 rs (h0.on hbI.out)).mono ?_; rintro e w3 ⟨rfl, hb3⟩; rw [hr'.out]; have hc3 := blk_cell (Loc.on hb3 hLI.out).1)
      go_ret
      exact ⟨ret_bool (by simp [okInst]; intros; omega), hbI.out.trans hb3⟩
end Go.Proofs.YtngjhblbpapjeaaGreat.H
/- Walks: valid instances. No condition. -/
namespace Go.Proofs.YtngjhblbpapjeaaGreat.H
open Go Go.RowKit Go.Proofs.YtngjhblbpapjeaaGreatW.PrintWords Go.Proofs.YtngjhblbpapjeaaGreatW.PrintLast
open Go.Proofs.YtngjhblbpapjeaaGreat.Reg (On on_draw)
set_option maxHeartbeats 8000000
set_option maxRecDepth 100000
set_option linter.unusedVariables false
set_option linter.unusedSimpArgs false

theorem IsValidInstance_calls (w : World) (A0 c0 A1 c1) (rs : List Rel) (fs : List Fct) (h0 : Rels w A0 c0 rs) (h1 : Fcts w A1 c1 fs) :
    Calls Tryz.prog 39 #[.agg #[.slice A0 rs.length c0, .slice A1 fs.length c1]] w fun e w' => e = .returned (.bool (okInst rs fs)) ∧ On w w' := by
  have hm0 := h0.max
  have hm1 := h1.max
  go_enter Tryz.func39, Tryz.ntmps39
  go_wp2
  go_loopw [3] (fun v wr => ∃ k : Nat, k ≤ fs.length ∧ v = .int .i64 k ∧ Hid (factsFrom rs (prevFct fs k) (fs.drop k) = factsFrom rs none fs) ∧ On w wr ∧ Loc wr [(w.heap.size, #[.slice A0 rs.length c0, .slice A1 fs.length c1], 27)]) (fun v _ => fs.length - (intOf v).toNat)
  case atStart => exact ⟨0, Nat.zero_le _, rfl, rfl, On.alloc (On.refl _) _, loc1 _ _ _⟩
  case round =>
    obtain ⟨k, hk, rfl, hp, hB, hL⟩ := hrel
    have hc0 := blk_cell hL.1
    have hL' := Aside0.mk hL
    clear hL
    by_cases hlt : k < fs.length
    · obtain ⟨ad, A3, c3, rfl, hx0, hx1, hx2'⟩ := (h1.on hB).at k hlt
      have hfill := alloc_fill wr
      have hst := Aside0.mk ((factsFrom_step rs fs k hlt).symm.trans hp.out)
      have hbx := Aside0.mk (On.alloc (On.refl wr) (.cells #[.int .i64 fs[k].1, .slice A3 fs[k].2.length c3] 30))
      have hB2 := Aside0.mk (hB.trans hbx.out)
      have hcn := blk_cell (loc_new wr #[.int .i64 fs[k].1, .slice A3 fs[k].2.length c3] 30)
      have hcm := blk_cell (Loc.on hbx.out hL'.out).1
      clear hp
      cases hok0 : okFact rs fs[k] with
      | false =>
        have hok := Aside0.mk hok0
        clear hok0
        go_wp2
        refine Reg.region [(0,.L),(1,.L),(2,.L),(3,.C),(4,.L),(5,.L),(6,.L),(7,.L),(8,.L),(9,.L),(10,.L),(11,.L),(12,.L),(13,.L),(14,.L),(15,.L),(16,.C),(17,.L),(18,.L),(19,.L),(20,.L),(21,.L),(22,.L),(23,.L),(24,.L),(25,.L),(26,.L),(27,.L),(28,.L),(29,.L),(30,.N),(31,.L),(32,.L),(33,.L),(34,.L)] [] (by kernel_rfl) (by kernel_rfl) ?_
        repeat first | refine sP ?_ | refine sS ?_ | refine sA ?_ | refine sL ?_ | refine sQ ?_ | refine sO ?_
        refine callC (.bool false) Tryz.func85 (fun w' hS => ?_) ?_
        focus exact (IsValidFact_calls w' _ c0 rs _ c3 fs[k] (h0.on (hB2.out.trans hS)) (hx2'.on (hbx.out.trans hS))).mono fun e w'' h => ⟨by rw [h.1, hok.out], h.2⟩
        repeat first | refine sP ?_ | refine sS ?_ | refine sA ?_ | refine sL ?_ | refine sQ ?_ | refine sO ?_
        refine Reg.nil fun w2 hS => ?_
        go_wp2
        go_ret
        exact ⟨ret_bool (by have := hst.out; unfold okNext at this; rw [hok.out] at this; simp at this; simp [okInst, this]), hB2.out.trans hS⟩
      | true =>
        have hok := Aside0.mk hok0
        have hat := okFact_at hok0
        clear hok0
        have hat1 : fs[k].1.toNat < rs.length := by omega
        have hat2 : 0 ≤ fs[k].1 := hat.1
        have hat3 : fs[k].1 < rs.length := hat.2
        obtain ⟨ad0, rfl, _, _, hxs0⟩ := (h0.on hB2.out).at fs[k].1.toNat hat1
        have hxs : (wr.alloc (.cells #[.int .i64 fs[k].1, .slice A3 fs[k].2.length c3] 30)).cell? ⟨(ad0.add (fs[k].1.toNat * 3)).block, (ad0.add (fs[k].1.toNat * 3)).off + 2, none⟩ = some (.bool (srcOf rs fs[k].1)) := by rw [hxs0]; simp [srcOf, hat1]
        clear hxs0 hat
        by_cases hk0 : 0 < k
        · have hk0' : decide (0 < (k : Int)) = true := decide_eq_true (by omega)
          have hki : IntKind.i64.wrap ((k : Int) - 1) = ((k - 1 : Nat) : Int) := by rw [IntWalk.i64_in _ (by omega)]; omega
          have hk1 : k - 1 < fs.length := by omega
          obtain ⟨ad', A4, c4, e', hy0, hy1, hy2⟩ := (h1.on hB2.out).at (k - 1) hk1
          obtain rfl : ad = ad' := by simpa using e'
          have hpn : prevFct fs k = some fs[k - 1] := by simp [prevFct, show ¬ k = 0 by omega, show k - 1 < fs.length by omega]
          by_cases hc : cmpF fs[k - 1] fs[k] < 0
          · have hcb : decide (0 ≤ cmpF fs[k - 1] fs[k]) = false := decide_eq_false (by omega)
            have hpv := Aside0.mk (show okPrev (prevFct fs k) fs[k] = true by rw [hpn]; exact decide_eq_true hc)
            clear hc hpn
            cases hs : srcOf rs fs[k].1 with
            | false =>
              rw [hs] at hxs
              have hs' := Aside0.mk hs
              clear hs
              go_wp2
              refine Reg.region [(0,.L),(1,.L),(2,.L),(3,.C),(4,.L),(5,.L),(6,.L),(7,.L),(8,.L),(9,.L),(10,.L),(11,.L),(12,.L),(13,.L),(14,.L),(15,.L),(16,.C),(17,.L),(18,.L),(19,.L),(20,.L),(21,.L),(22,.L),(23,.L),(24,.L),(25,.L),(26,.L),(27,.L),(28,.L),(29,.L),(30,.N),(31,.L),(32,.L),(33,.L),(34,.L)] [] (by kernel_rfl) (by kernel_rfl) ?_
              repeat first | refine sP ?_ | refine sS ?_ | refine sA ?_ | refine sL ?_ | refine sQ ?_ | refine sO ?_
              refine callC (.bool true) Tryz.func85 (fun w' hS => ?_) ?_
              focus exact (IsValidFact_calls w' _ c0 rs _ c3 fs[k] (h0.on (hB2.out.trans hS)) (hx2'.on (hbx.out.trans hS))).mono fun e w'' h => ⟨by rw [h.1, hok.out], h.2⟩
              repeat first | refine sP ?_ | refine sS ?_ | refine sA ?_ | refine sL ?_ | refine sQ ?_ | refine sO ?_
              refine callC (.int .i64 (cmpF fs[k - 1] fs[k])) Tryz.func13 (fun w' hS => ?_) ?_
              focus exact CompareFacts_calls w' A4 c4 A3 c3 fs[k - 1] fs[k] (hy2.on hS) (hx2'.on (hbx.out.trans hS))
              repeat first | refine sP ?_ | refine sS ?_ | refine sA ?_ | refine sL ?_ | refine sQ ?_ | refine sO ?_
              refine Reg.nil fun w2 hS => ?_
              go_wp2
              go_roundw
              case rel => exact ⟨k + 1, by omega, by go_num, (by have := hst.out; unfold okNext at this; rw [hok.out, hpv.out, hs'.out] at this; simpa using this : _ = _), hB2.out.trans hS, Loc.on (hbx.out.trans hS) hL'.out⟩
              case measure => simp [intOf]; omega
            | true =>
              rw [hs] at hxs
              have hs' := Aside0.mk hs
              clear hs
              by_cases hz : (nuls fs[k].2).length = 0
              · have hzb : decide (0 < ((nuls fs[k].2).length : Int)) = false := decide_eq_false (by omega)
                have hzc : decide (0 < (nuls fs[k].2).length) = false := decide_eq_false (by omega)
                have hz' := Aside0.mk hz
                clear hz
                go_wp2
                refine Reg.region [(0,.L),(1,.L),(2,.L),(3,.C),(4,.L),(5,.L),(6,.L),(7,.L),(8,.L),(9,.L),(10,.L),(11,.L),(12,.L),(13,.L),(14,.L),(15,.L),(16,.C),(17,.L),(18,.L),(19,.L),(20,.L),(21,.L),(22,.L),(23,.L),(24,.L),(25,.L),(26,.L),(27,.L),(28,.L),(29,.L),(30,.N),(31,.L),(32,.L),(33,.L),(34,.L)] [] (by kernel_rfl) (by kernel_rfl) ?_
                repeat first | refine sP ?_ | refine sS ?_ | refine sA ?_ | refine sL ?_ | refine sQ ?_ | refine sO ?_
                refine callC (.bool true) Tryz.func85 (fun w' hS => ?_) ?_
                focus exact (IsValidFact_calls w' _ c0 rs _ c3 fs[k] (h0.on (hB2.out.trans hS)) (hx2'.on (hbx.out.trans hS))).mono fun e w'' h => ⟨by rw [h.1, hok.out], h.2⟩
                repeat first | refine sP ?_ | refine sS ?_ | refine sA ?_ | refine sL ?_ | refine sQ ?_ | refine sO ?_
                refine callC (.int .i64 (cmpF fs[k - 1] fs[k])) Tryz.func13 (fun w' hS => ?_) ?_
                focus exact CompareFacts_calls w' A4 c4 A3 c3 fs[k - 1] fs[k] (hy2.on hS) (hx2'.on (hbx.out.trans hS))
                repeat first | refine sP ?_ | refine sS ?_ | refine sA ?_ | refine sL ?_ | refine sQ ?_ | refine sO ?_
                refine callN Tryz.func86 (fun w' hS => ?_)
                focus
                  refine (NullsOfFact_calls w' A3 c3 fs[k].1 fs[k].2 (hx2'.on (hbx.out.trans hS)) (Nat.le_trans (okFact_len hok.out) (by omega))).mono ?_
                  rintro e w2 ⟨v, rfl, hO, hb⟩
                  refine ⟨v, rfl, hb, fun a' ha => ?_⟩
                  simp only [Act.put, List.setIfInBounds_toArray, List.set_cons_zero, List.set_cons_succ] at ha
                  subst ha
                  obtain ⟨A5, c5, rfl⟩ := Kd.R_slice hO
                  have hS2 := Aside0.mk (hS.trans hb)
                  clear hO hb hS
                repeat first | refine sP ?_ | refine sS ?_ | refine sA ?_ | refine sL ?_ | refine sQ ?_ | refine sO ?_
                refine Reg.nil fun w3 hS3 => ?_
                go_wp2
                exact ⟨⟨k + 1, by omega, by go_num, (by have := hst.out; unfold okNext at this; rw [hok.out, hpv.out, hs'.out, hz'.out] at this; simpa using this : _ = _), (hB2.out.trans hS2.out).trans hS3, Loc.on ((hbx.out.trans hS2.out).trans hS3) hL'.out⟩, by simp [intOf]; omega⟩
              · have hzb : decide (0 < ((nuls fs[k].2).length : Int)) = true := decide_eq_true (by omega)
                have hzc : decide (0 < (nuls fs[k].2).length) = true := decide_eq_true (by omega)
                have hz' := Aside0.mk (decide_eq_false hz)
                clear hz
                go_wp2
                refine Reg.region [(0,.L),(1,.L),(2,.L),(3,.C),(4,.L),(5,.L),(6,.L),(7,.L),(8,.L),(9,.L),(10,.L),(11,.L),(12,.L),(13,.L),(14,.L),(15,.L),(16,.C),(17,.L),(18,.L),(19,.L),(20,.L),(21,.L),(22,.L),(23,.L),(24,.L),(25,.L),(26,.L),(27,.L),(28,.L),(29,.L),(30,.N),(31,.L),(32,.L),(33,.L),(34,.L)] [] (by kernel_rfl) (by kernel_rfl) ?_
                repeat first | refine sP ?_ | refine sS ?_ | refine sA ?_ | refine sL ?_ | refine sQ ?_ | refine sO ?_
                refine callC (.bool true) Tryz.func85 (fun w' hS => ?_) ?_
                focus exact (IsValidFact_calls w' _ c0 rs _ c3 fs[k] (h0.on (hB2.out.trans hS)) (hx2'.on (hbx.out.trans hS))).mono fun e w'' h => ⟨by rw [h.1, hok.out], h.2⟩
                repeat first | refine sP ?_ | refine sS ?_ | refine sA ?_ | refine sL ?_ | refine sQ ?_ | refine sO ?_
                refine callC (.int .i64 (cmpF fs[k - 1] fs[k])) Tryz.func13 (fun w' hS => ?_) ?_
                focus exact CompareFacts_calls w' A4 c4 A3 c3 fs[k - 1] fs[k] (hy2.on hS) (hx2'.on (hbx.out.trans hS))
                repeat first | refine sP ?_ | refine sS ?_ | refine sA ?_ | refine sL ?_ | refine sQ ?_ | refine sO ?_
                refine callN Tryz.func86 (fun w' hS => ?_)
                focus
                  refine (NullsOfFact_calls w' A3 c3 fs[k].1 fs[k].2 (hx2'.on (hbx.out.trans hS)) (Nat.le_trans (okFact_len hok.out) (by omega))).mono ?_
                  rintro e w2 ⟨v, rfl, hO, hb⟩
                  refine ⟨v, rfl, hb, fun a' ha => ?_⟩
                  simp only [Act.put, List.setIfInBounds_toArray, List.set_cons_zero, List.set_cons_succ] at ha
                  subst ha
                  obtain ⟨A5, c5, rfl⟩ := Kd.R_slice hO
                  have hS2 := Aside0.mk (hS.trans hb)
                  clear hO hb hS
                repeat first | refine sP ?_ | refine sS ?_ | refine sA ?_ | refine sL ?_ | refine sQ ?_ | refine sO ?_
                refine Reg.nil fun w3 hS3 => ?_
                go_wp2
                go_ret
                exact ⟨ret_bool (by have := hst.out; unfold okNext at this; rw [hok.out, hpv.out, hs'.out, hz'.out] at this; simp at this; simp [okInst, this]), (hB2.out.trans hS2.out).trans hS3⟩
          · have hcb : decide (0 ≤ cmpF fs[k - 1] fs[k]) = true := decide_eq_true (by omega)
            have hpv := Aside0.mk (show okPrev (prevFct fs k) fs[k] = false by rw [hpn]; exact decide_eq_false hc)
            clear hc hpn
            go_wp2
            refine Reg.region [(0,.L),(1,.L),(2,.L),(3,.C),(4,.L),(5,.L),(6,.L),(7,.L),(8,.L),(9,.L),(10,.L),(11,.L),(12,.L),(13,.L),(14,.L),(15,.L),(16,.C),(17,.L),(18,.L),(19,.L),(20,.L),(21,.L),(22,.L),(23,.L),(24,.L),(25,.L),(26,.L),(27,.L),(28,.L),(29,.L),(30,.N),(31,.L),(32,.L),(33,.L),(34,.L)] [] (by kernel_rfl) (by kernel_rfl) ?_
            repeat first | refine sP ?_ | refine sS ?_ | refine sA ?_ | refine sL ?_ | refine sQ ?_ | refine sO ?_
            refine callC (.bool true) Tryz.func85 (fun w' hS => ?_) ?_
            focus exact (IsValidFact_calls w' _ c0 rs _ c3 fs[k] (h0.on (hB2.out.trans hS)) (hx2'.on (hbx.out.trans hS))).mono fun e w'' h => ⟨by rw [h.1, hok.out], h.2⟩
            repeat first | refine sP ?_ | refine sS ?_ | refine sA ?_ | refine sL ?_ | refine sQ ?_ | refine sO ?_
            refine callC (.int .i64 (cmpF fs[k - 1] fs[k])) Tryz.func13 (fun w' hS => ?_) ?_
            focus exact CompareFacts_calls w' A4 c4 A3 c3 fs[k - 1] fs[k] (hy2.on hS) (hx2'.on (hbx.out.trans hS))
            repeat first | refine sP ?_ | refine sS ?_ | refine sA ?_ | refine sL ?_ | refine sQ ?_ | refine sO ?_
            refine Reg.nil fun w2 hS => ?_
            go_wp2
            go_ret
            exact ⟨ret_bool (by have := hst.out; unfold okNext at this; rw [hok.out, hpv.out] at this; simp at this; simp [okInst, this]), hB2.out.trans hS⟩
        · have hk0' : decide (0 < (k : Int)) = false := decide_eq_false (by omega)
          have hpv := Aside0.mk (show okPrev (prevFct fs k) fs[k] = true by simp [okPrev, prevFct, show k = 0 by omega])
          cases hs : srcOf rs fs[k].1 with
          | false =>
            rw [hs] at hxs
            have hs' := Aside0.mk hs
            clear hs
            go_wp2
            refine Reg.region [(0,.L),(1,.L),(2,.L),(3,.C),(4,.L),(5,.L),(6,.L),(7,.L),(8,.L),(9,.L),(10,.L),(11,.L),(12,.L),(13,.L),(14,.L),(15,.L),(16,.C),(17,.L),(18,.L),(19,.L),(20,.L),(21,.L),(22,.L),(23,.L),(24,.L),(25,.L),(26,.L),(27,.L),(28,.L),(29,.L),(30,.N),(31,.L),(32,.L),(33,.L),(34,.L)] [] (by kernel_rfl) (by kernel_rfl) ?_
            repeat first | refine sP ?_ | refine sS ?_ | refine sA ?_ | refine sL ?_ | refine sQ ?_ | refine sO ?_
            refine callC (.bool true) Tryz.func85 (fun w' hS => ?_) ?_
            focus exact (IsValidFact_calls w' _ c0 rs _ c3 fs[k] (h0.on (hB2.out.trans hS)) (hx2'.on (hbx.out.trans hS))).mono fun e w'' h => ⟨by rw [h.1, hok.out], h.2⟩
            repeat first | refine sP ?_ | refine sS ?_ | refine sA ?_ | refine sL ?_ | refine sQ ?_ | refine sO ?_
            refine Reg.nil fun w2 hS => ?_
            go_wp2
            go_roundw
            case rel => exact ⟨k + 1, by omega, by go_num, (by have := hst.out; unfold okNext at this; rw [hok.out, hpv.out, hs'.out] at this; simpa using this : _ = _), hB2.out.trans hS, Loc.on (hbx.out.trans hS) hL'.out⟩
            case measure => simp [intOf]; omega
          | true =>
            rw [hs] at hxs
            have hs' := Aside0.mk hs
            clear hs
            by_cases hz : (nuls fs[k].2).length = 0
            · have hzb : decide (0 < ((nuls fs[k].2).length : Int)) = false := decide_eq_false (by omega)
              have hzc : decide (0 < (nuls fs[k].2).length) = false := decide_eq_false (by omega)
              have hz' := Aside0.mk hz
              clear hz
              go_wp2
              refine Reg.region [(0,.L),(1,.L),(2,.L),(3,.C),(4,.L),(5,.L),(6,.L),(7,.L),(8,.L),(9,.L),(10,.L),(11,.L),(12,.L),(13,.L),(14,.L),(15,.L),(16,.C),(17,.L),(18,.L),(19,.L),(20,.L),(21,.L),(22,.L),(23,.L),(24,.L),(25,.L),(26,.L),(27,.L),(28,.L),(29,.L),(30,.N),(31,.L),(32,.L),(33,.L),(34,.L)] [] (by kernel_rfl) (by kernel_rfl) ?_
              repeat first | refine sP ?_ | refine sS ?_ | refine sA ?_ | refine sL ?_ | refine sQ ?_ | refine sO ?_
              refine callC (.bool true) Tryz.func85 (fun w' hS => ?_) ?_
              focus exact (IsValidFact_calls w' _ c0 rs _ c3 fs[k] (h0.on (hB2.out.trans hS)) (hx2'.on (hbx.out.trans hS))).mono fun e w'' h => ⟨by rw [h.1, hok.out], h.2⟩
              repeat first | refine sP ?_ | refine sS ?_ | refine sA ?_ | refine sL ?_ | refine sQ ?_ | refine sO ?_
              refine callN Tryz.func86 (fun w' hS => ?_)
              focus
                refine (NullsOfFact_calls w' A3 c3 fs[k].1 fs[k].2 (hx2'.on (hbx.out.trans hS)) (Nat.le_trans (okFact_len hok.out) (by omega))).mono ?_
                rintro e w2 ⟨v, rfl, hO, hb⟩
                refine ⟨v, rfl, hb, fun a' ha => ?_⟩
                simp only [Act.put, List.setIfInBounds_toArray, List.set_cons_zero, List.set_cons_succ] at ha
                subst ha
                obtain ⟨A5, c5, rfl⟩ := Kd.R_slice hO
                have hS2 := Aside0.mk (hS.trans hb)
                clear hO hb hS
              repeat first | refine sP ?_ | refine sS ?_ | refine sA ?_ | refine sL ?_ | refine sQ ?_ | refine sO ?_
              refine Reg.nil fun w3 hS3 => ?_
              go_wp2
              exact ⟨⟨k + 1, by omega, by go_num, (by have := hst.out; unfold okNext at this; rw [hok.out, hpv.out, hs'.out, hz'.out] at this; simpa using this : _ = _), (hB2.out.trans hS2.out).trans hS3, Loc.on ((hbx.out.trans hS2.out).trans hS3) hL'.out⟩, by simp [intOf]; omega⟩
            · have hzb : decide (0 < ((nuls fs[k].2).length : Int)) = true := decide_eq_true (by omega)
              have hzc : decide (0 < (nuls fs[k].2).length) = true := decide_eq_true (by omega)
              have hz' := Aside0.mk (decide_eq_false hz)
              clear hz
              go_wp2
              refine Reg.region [(0,.L),(1,.L),(2,.L),(3,.C),(4,.L),(5,.L),(6,.L),(7,.L),(8,.L),(9,.L),(10,.L),(11,.L),(12,.L),(13,.L),(14,.L),(15,.L),(16,.C),(17,.L),(18,.L),(19,.L),(20,.L),(21,.L),(22,.L),(23,.L),(24,.L),(25,.L),(26,.L),(27,.L),(28,.L),(29,.L),(30,.N),(31,.L),(32,.L),(33,.L),(34,.L)] [] (by kernel_rfl) (by kernel_rfl) ?_
              repeat first | refine sP ?_ | refine sS ?_ | refine sA ?_ | refine sL ?_ | refine sQ ?_ | refine sO ?_
              refine callC (.bool true) Tryz.func85 (fun w' hS => ?_) ?_
              focus exact (IsValidFact_calls w' _ c0 rs _ c3 fs[k] (h0.on (hB2.out.trans hS)) (hx2'.on (hbx.out.trans hS))).mono fun e w'' h => ⟨by rw [h.1, hok.out], h.2⟩
              repeat first | refine sP ?_ | refine sS ?_ | refine sA ?_ | refine sL ?_ | refine sQ ?_ | refine sO ?_
              refine callN Tryz.func86 (fun w' hS => ?_)
              focus
                refine (NullsOfFact_calls w' A3 c3 fs[k].1 fs[k].2 (hx2'.on (hbx.out.trans hS)) (Nat.le_trans (okFact_len hok.out) (by omega))).mono ?_
                rintro e w2 ⟨v, rfl, hO, hb⟩
                refine ⟨v, rfl, hb, fun a' ha => ?_⟩
                simp only [Act.put, List.setIfInBounds_toArray, List.set_cons_zero, List.set_cons_succ] at ha
                subst ha
                obtain ⟨A5, c5, rfl⟩ := Kd.R_slice hO
                have hS2 := Aside0.mk (hS.trans hb)
                clear hO hb hS
              repeat first | refine sP ?_ | refine sS ?_ | refine sA ?_ | refine sL ?_ | refine sQ ?_ | refine sO ?_
              refine Reg.nil fun w3 hS3 => ?_
              go_wp2
              go_ret
              exact ⟨ret_bool (by have := hst.out; unfold okNext at this; rw [hok.out, hpv.out, hs'.out, hz'.out] at this; simp at this; simp [okInst, this]), (hB2.out.trans hS2.out).trans hS3⟩
    · have hfl : factsFrom rs none fs = true := by rw [← hp.out, List.drop_of_length_le (by omega)]; cases prevFct fs k <;> rfl
      have hfl' := Aside0.mk hfl
      clear hp hfl
      cases hr : okRels rs with
      | false =>
        have hr' := Aside0.mk hr
        clear hr
        go_wp2_with (go_at_call 87; refine (AreValidRelations_calls wr A0 c0 rs (h0.on hB)).mono ?_; rintro e w3 ⟨rfl, hb3⟩; rw [hr'.out]; have hc3 := blk_cell (Loc.on hb3 hL'.out).1)
        go_ret
        exact ⟨ret_bool (by simp [okInst, hfl'.out, hr'.out]), hB.trans hb3⟩
      | true =>
        have hr' := Aside0.mk hr
        clear hr
        by_cases h30 : (fs.length : Int) ≤ 30
        · have h30b : decide ((fs.length : Int) ≤ 30) = true := decide_eq_true h30
          have h30c : decide (fs.length ≤ 30) = true := decide_eq_true (by omega)
          go_wp2_with (go_at_call 87; refine (AreValidRelations_calls wr A0 c0 rs (h0.on hB)).mono ?_; rintro e w3 ⟨rfl, hb3⟩; rw [hr'.out]; have hc3 := blk_cell (Loc.on hb3 hL'.out).1)
          go_ret
          exact ⟨ret_bool (by simp [okInst, hfl'.out, hr'.out]; omega), hB.trans hb3⟩
        · have h30b : decide ((fs.length : Int) ≤ 30) = false := decide_eq_false h30
          have h30c : decide (fs.length ≤ 30) = false := decide_eq_false (by omega)
          go_wp2_with (go_at_call 87; refine (AreValidRelations_calls wr A0 c0 rs (h0.on hB)).mono ?_; rintro e w3 ⟨rfl, hb3⟩; rw [hr'.out]; have hc3 := blk_cell (Loc.on hb3 hL'.out).1)
          go_ret
          exact ⟨ret_bool (by simp [okInst, hfl'.out, hr'.out]; omega), hB.trans hb3⟩
end Go.Proofs.YtngjhblbpapjeaaGreat.H
