/- The laws' own functions, told alike for each kind of datum. No condition. -/
import Derived.Test.YtngjhblbpapjeaaHL8
import Derived.Test.YtngjhblbpapjeaaHB8
import Derived.Test.YtngjhblbpapjeaaHRegT
namespace Go.Proofs.Ytngjhblbpapjeaa.H
open Go Go.RowKit Go.Proofs.YtngjhblbpapjeaaW.PrintWords Go.Proofs.YtngjhblbpapjeaaW.PrintLast
open Go.Proofs.Ytngjhblbpapjeaa.Reg (On on_draw)
set_option maxHeartbeats 1000000
set_option maxRecDepth 100000
set_option linter.unusedVariables false
set_option linter.unusedSimpArgs false

/-- A call of a plain function, met in line. -/
theorem goesF {ops : Array Oper} {rest : List Oper} {o : Oper} {a : Act} {Q : Exit → Act → World → Prop} {w : World} (N : Tmp) {f : FuncId} {fn : Func} {xs : Array Operand} {ts : Array TypeId} {args : Array Value} (hf : Try.prog.funcs[f]? = some fn)
    (h : Calls Try.prog f args w fun e w' => ∃ v, e = .returned v ∧ wpList Try.prog ops Q rest (a.put (some N) v) w') (hname : (fn.name == "runtime.NumGoroutine") = false := by kernel_rfl) (hb : fn.body.isSome = true := by rfl)
    (hop : o.op = .call { callee := .value (.func f), args := xs, argTypes := ts } := by rfl) (hargs : xs.map a.eval = args := by (try simp only [List.map_toArray, List.map_cons, List.map_nil]); rfl)
    (hd : o.dst = some N := by rfl) (hg : o.guard = none := by rfl) : wpList Try.prog ops Q (o :: rest) a w := by
  refine wpList_plain hg fun K hK => ?_
  have he := enters_ hf hname hb args w
  have hrun : (execOp a.eval o).run Try.prog w = .ok (.enter f args) w := by
    unfold execOp
    simp [hop, resolve, Deferred.ofValue, invoke, Act.eval, hargs, he]
  unfold Oper.wp
  rw [hrun, Oper.upon_enter]
  refine h.mono fun e w'' hh => ?_
  obtain ⟨v, rfl, hk⟩ := hh
  rw [← hd] at hk
  exact hK _ _ hk
theorem inW {P : Program} {f : FuncId} {args : Array Value} (w : World) {Q : Ending → World → Prop} (h : Calls P f args w Q) : Calls P f args w Q := h
theorem OIn.ex {S : Nat → Prop} {W w : World} {lo : Nat} {v : Value} {rs : List Rel} {fs : List Fct} (h : OIn W lo v rs fs) (k : Ex S W w) (hS : ∀ b, S b → b < lo) : OIn w lo v rs fs := by
  obtain ⟨vr, vf, hs, e, hR, hH, hSp⟩ := h.out
  refine ⟨vr, vf, hs, e, own_ex hR k (fun i hi h => ?_), own_ex hH k (fun i hi h => ?_), hSp.ex k (fun i a b ha hb h => ?_)⟩
  · have := own_base hR i hi; have := hS _ h; omega
  · have := own_base hH i hi; have := hS _ h; omega
  · have := (hSp.lt ha hb).1; have := hS _ h; omega
theorem RIn.shape {w : World} {v : Value} {rs : List Rel} {fs : List Fct} (h : RIn w v rs fs) : ∃ A n c B m d, v = .agg #[.slice A n c, .slice B m d] := by
  obtain ⟨A0, c0, A1, c1, e, _⟩ := h.out
  exact ⟨_, _, _, _, _, _, e⟩
theorem RIn.parts {w : World} {A B : Option Addr} {n c m d : Nat} {rs : List Rel} {fs : List Fct} (h : RIn w (.agg #[.slice A n c, .slice B m d]) rs fs) : n = rs.length ∧ m = fs.length ∧ Rels w A c rs ∧ Fcts w B d fs := by
  obtain ⟨A0, c0, A1, c1, e, h0, h1⟩ := h.out
  injection e with e
  have e' := congrArg Array.toList e
  simp only [List.cons.injEq, Value.slice.injEq, and_true] at e'
  obtain ⟨⟨rfl, rfl, rfl⟩, rfl, rfl, rfl⟩ := e'
  exact ⟨rfl, rfl, h0, h1⟩
/-- What an instance weighs, for the marks. -/
def mkI (rs : List Rel) (fs : List Fct) : Nat := 3 * rs.length + wF fs
theorem mkI_le (rs : List Rel) (fs : List Fct) : mkI rs fs ≤ 3 * (wR rs + wF fs) := by
  have h1 : rs.length ≤ wR rs := by
    unfold wR
    induction rs with
    | nil => simp
    | cons g rs ih => simp at ih ⊢; omega
  unfold mkI; omega
theorem wF_sub {l fs : List Fct} (h : l.Sublist fs) : wF l ≤ wF fs := by
  unfold wF
  induction h with
  | slnil => simp
  | cons a _ ih => simp at ih ⊢; omega
  | cons_cons a _ ih => simp at ih ⊢; omega
theorem wF_small (fs : List Fct) (h : ∀ f ∈ fs, f.2.length ≤ 3) : wF fs ≤ 4 * fs.length := by
  unfold wF
  induction fs with
  | nil => simp
  | cons f fs ih =>
    have h1 := h f List.mem_cons_self
    have h2 := ih (fun g hg => h g (List.mem_cons_of_mem _ hg))
    simp at h2 ⊢; omega
theorem szI_calls (w : World) (v : Value) (rs : List Rel) (fs : List Fct) (n : Int) (h0 : 0 ≤ n) (h1 : n ≤ 2000000) (h : RIn w v rs fs) (hsz : ∀ r ∈ rs, r.1.size ≤ 9223372036854775807) : Calls Try.prog 12 #[v, .int .i64 n] w (Sz n (wR rs + wF fs) w) := by
  obtain ⟨A0, c0, A1, c1, rfl, hr, hf⟩ := h.out
  exact szInstance_calls w A0 c0 A1 c1 rs fs n h0 h1 hr hf hsz
theorem toI_calls (w : World) (v : Value) (rs : List Rel) (fs : List Fct) (h : RIn w v rs fs) (hl : wR rs + wF fs ≤ 1048576) : Calls Try.prog 14 #[v] w (Got fun v w' => OIn w' w.heap.size v rs fs ∧ On w w') := by
  obtain ⟨A0, c0, A1, c1, rfl, hr, hf⟩ := h.out
  have h1 : rs.length ≤ wR rs := by
    unfold wR
    clear hr h hl
    induction rs with
    | nil => simp
    | cons g rs ih => simp at ih ⊢; omega
  have h2 := wF_len fs
  refine toInstance_calls w A0 c0 A1 c1 rs fs hr hf (by omega) (by omega) (fun f hm => ?_)
  have : f.2.length ≤ wF fs := by
    clear hf h hl h2
    unfold wF
    induction fs with
    | nil => cases hm
    | cons g fs ih =>
      rcases List.mem_cons.1 hm with rfl | hm
      · simp; omega
      · have := ih hm; simp at this ⊢; omega
  omega
theorem eqI_calls (w : World) (v u : Value) (rs : List Rel) (fs : List Fct) (h : RIn w v rs fs) (k : RIn w u rs fs) : Calls Try.prog 17 #[v, u] w fun e w' => e = .returned (.bool true) ∧ On w w' := by
  obtain ⟨A0, c0, A1, c1, rfl, h0, h1⟩ := h.out
  obtain ⟨B0, d0, B1, d1, rfl, k0, k1⟩ := k.out
  exact eqInstance_calls w A0 c0 A1 c1 B0 d0 B1 d1 rs fs h0 h1 k0 k1
/-- An instance of one's own whose blocks lie in a range. -/
structure OIb (w : World) (lo hi : Nat) (v : Value) (rs : List Rel) (fs : List Fct) : Prop where mk :: (out : ∃ vr vf hs, v = .agg #[vr, vf] ∧ OR w lo vr rs ∧ OH w lo vf hs ∧ Sep w lo hs fs ∧ ∀ b, IB vr vf hs b → b < hi)
theorem OIn.b {w : World} {lo : Nat} {v : Value} {rs : List Rel} {fs : List Fct} (h : OIn w lo v rs fs) : OIb w lo w.heap.size v rs fs := by
  obtain ⟨vr, vf, hs, e, hR, hH, hS⟩ := h.out
  refine ⟨vr, vf, hs, e, hR, hH, hS, fun b hb => ?_⟩
  rcases hb with e | e | ⟨i, a, ha, e⟩
  · exact own_lt hR b e.symm
  · exact own_lt hH b e.symm
  · exact (hS.lt ha e.symm).2
theorem OIb.n {w : World} {lo hi : Nat} {v : Value} {rs : List Rel} {fs : List Fct} (h : OIb w lo hi v rs fs) : OIn w lo v rs fs := by
  obtain ⟨vr, vf, hs, e, hR, hH, hS, _⟩ := h.out
  exact ⟨vr, vf, hs, e, hR, hH, hS⟩
theorem OIb.read {w : World} {lo hi : Nat} {v : Value} {rs : List Rel} {fs : List Fct} (h : OIb w lo hi v rs fs) : RIn w v rs fs := h.n.read
theorem OIb.on {W w : World} {lo hi : Nat} {v : Value} {rs : List Rel} {fs : List Fct} (h : OIb W lo hi v rs fs) (hb : On W w) : OIb w lo hi v rs fs := by
  obtain ⟨vr, vf, hs, e, hR, hH, hS, hh⟩ := h.out
  exact ⟨vr, vf, hs, e, pw_own_below hR hb, pw_own_below hH hb, hS.on hb, hh⟩
theorem OIb.ex {S : Nat → Prop} {W w : World} {lo hi : Nat} {v : Value} {rs : List Rel} {fs : List Fct} (h : OIb W lo hi v rs fs) (k : Ex S W w) (hS : ∀ b, lo ≤ b → b < hi → ¬ S b) : OIb w lo hi v rs fs := by
  obtain ⟨vr, vf, hs, e, hR, hH, hSp, hh⟩ := h.out
  exact ⟨vr, vf, hs, e, own_ex hR k (fun i hi h => hS i (own_base hR i hi) (hh i (.inl hi.symm)) h), own_ex hH k (fun i hi h => hS i (own_base hH i hi) (hh i (.inr (.inl hi.symm))) h), hSp.ex k (fun i a b ha hb h => hS b (hSp.lt ha hb).1 (hh b (.inr (.inr ⟨i, a, ha, hb.symm⟩))) h), hh⟩
theorem OIb.set {W : World} {lo hi g j : Nat} {v u : Value} {rs : List Rel} {fs : List Fct} (h : OIb W lo hi v rs fs) (hg : g < lo ∨ hi ≤ g) : OIb (W.setCell ⟨g, j, none⟩ u) lo hi v rs fs :=
  h.ex (Ex.set W ⟨g, j, none⟩ u) (fun b h1 h2 h3 => by have h4 : b = g := h3; omega)
theorem mkI_calls (w : World) (lo hi : Nat) (v : Value) (rs : List Rel) (fs : List Fct) (k0 : Int) (h : OIb w lo hi v rs fs) (h0 : 1 ≤ k0) (h1 : k0 + mkI rs fs ≤ 10000000) : Calls Try.prog 18 #[v, .int .i64 k0] w fun e w' => e = .returned (.int .i64 (k0 + mkI rs fs)) ∧ OIb w' lo hi v (markR k0 rs.length) (markF (k0 + 3 * rs.length) (lens fs)) ∧ Ex (fun b => lo ≤ b ∧ b < hi) w w' := by
  obtain ⟨vr, vf, hs, rfl, hR, hH, hS, hh⟩ := h.out
  unfold mkI at h1 ⊢
  refine (markInstance_calls w lo lo lo vr vf hs rs fs k0 hR hH hS h0 (by omega)).mono fun e w' hq => ?_
  obtain ⟨he, ⟨hs', hR', hH', hS', hF'⟩, hE⟩ := hq
  refine ⟨by rw [he]; congr 2; omega, ⟨vr, vf, hs', rfl, hR', hH', hS', fun b hb => hh b (hb.imp id (hF' b))⟩, hE.mono fun b hb => ⟨?_, hh b hb⟩⟩
  rcases hb with e | e | ⟨i, a, ha, e⟩
  · exact own_base hR b e.symm
  · exact own_base hH b e.symm
  · exact (hS.lt ha e.symm).1
theorem hdI_calls (w : World) (v : Value) (rs : List Rel) (fs : List Fct) (k0 : Int) (h : RIn w v (markR k0 rs.length) (markF (k0 + 3 * rs.length) (lens fs))) (h0 : 1 ≤ k0) (h1 : k0 + mkI rs fs ≤ 10000000) : Calls Try.prog 23 #[v, .int .i64 k0] w fun e w' => e = .returned (.int .i64 (k0 + mkI rs fs)) ∧ On w w' := by
  obtain ⟨A0, c0, A1, c1, rfl, hr, hf⟩ := h.out
  unfold mkI at h1 ⊢
  have hlr : (markR k0 rs.length).length = rs.length := by simp [markR_len]
  have hlf : (markF (k0 + 3 * rs.length) (lens fs)).length = (lens fs).length := markF_len _ _
  rw [hlr, hlf]
  refine (heldInstance_calls w A0 c0 A1 c1 rs.length (lens fs) k0 hr hf h0 (by rw [cF_lens]; omega)).mono fun e w' hh => ?_
  exact ⟨by rw [hh.1, cF_lens]; congr 2; omega, hh.2⟩
/-- One fact. -/
structure RFa (w : World) (v : Value) (f : Fct) : Prop where mk :: (out : ∃ A c, v = .agg #[.int .i64 f.1, .slice A f.2.length c] ∧ Ints w A c f.2)
structure OFa (w : World) (lo : Nat) (v : Value) (f : Fct) : Prop where mk :: (out : ∃ v1, v = .agg #[.int .i64 f.1, v1] ∧ OI w lo v1 f.2 ∧ InR f.2)
theorem RFa.on {W w : World} {v : Value} {f : Fct} (h : RFa W v f) (hb : On W w) : RFa w v f := by
  obtain ⟨A, c, e, h0⟩ := h.out
  exact ⟨A, c, e, h0.on hb⟩
theorem OFa.on {W w : World} {lo : Nat} {v : Value} {f : Fct} (h : OFa W lo v f) (hb : On W w) : OFa w lo v f := by
  obtain ⟨v1, e, h0, h1⟩ := h.out
  exact ⟨v1, e, pw_own_below h0 hb, h1⟩
theorem OFa.read {w : World} {lo : Nat} {v : Value} {f : Fct} (h : OFa w lo v f) : RFa w v f := by
  obtain ⟨v1, e, h0, h1⟩ := h.out
  obtain ⟨A, c, rfl, h2⟩ := OI.rd h0 h1
  exact ⟨A, c, e, h2⟩
theorem OFa.ex {S : Nat → Prop} {W w : World} {lo : Nat} {v : Value} {f : Fct} (h : OFa W lo v f) (k : Ex S W w) (hS : ∀ b, S b → b < lo) : OFa w lo v f := by
  obtain ⟨v1, e, h0, h1⟩ := h.out
  refine ⟨v1, e, own_ex h0 k (fun i hi h => ?_), h1⟩
  have := own_base h0 i hi; have := hS _ h; omega
theorem OFa.ex' {S : Nat → Prop} {W w : World} {lo : Nat} {v : Value} {f : Fct} (h : OFa W lo v f) (k : Ex S W w) (hS : ∀ b, S b → b < lo ∨ W.heap.size ≤ b) : OFa w lo v f := by
  obtain ⟨v1, e, h0, h1⟩ := h.out
  refine ⟨v1, e, own_ex h0 k (fun i hi h => ?_), h1⟩
  have := own_base h0 i hi; have := own_lt h0 i hi; have := hS _ h; omega
theorem RFa.shape {w : World} {v : Value} {f : Fct} (h : RFa w v f) : ∃ r A n c, v = .agg #[.int .i64 r, .slice A n c] := by
  obtain ⟨A, c, e, _⟩ := h.out
  exact ⟨_, _, _, _, e⟩
theorem RFa.parts {w : World} {r : Int} {A : Option Addr} {n c : Nat} {f : Fct} (h : RFa w (.agg #[.int .i64 r, .slice A n c]) f) : r = f.1 ∧ n = f.2.length ∧ Ints w A c f.2 := by
  obtain ⟨A0, c0, e, h0⟩ := h.out
  injection e with e
  have e' := congrArg Array.toList e
  simp only [List.cons.injEq, Value.slice.injEq, Value.int.injEq, and_true, true_and] at e'
  obtain ⟨rfl, rfl, rfl, rfl⟩ := e'
  exact ⟨rfl, rfl, h0⟩
theorem szF_calls (w : World) (v : Value) (f : Fct) (n : Int) (h0 : 0 ≤ n) (h1 : n ≤ 2000000) (h : RFa w v f) : Calls Try.prog 31 #[v, .int .i64 n] w (Sz n f.2.length w) := by
  obtain ⟨A, c, rfl, hr⟩ := h.out
  exact szFact_calls w A c f n h0 h1 hr
theorem toF_calls (w : World) (v : Value) (f : Fct) (h : RFa w v f) (hl : f.2.length ≤ 1048576) : Calls Try.prog 33 #[v] w (Got fun v w' => OFa w' w.heap.size v f ∧ On w w') := by
  obtain ⟨A, c, rfl, hr⟩ := h.out
  refine (toFact_calls w A c f hr (by omega)).mono fun e w' hh => ?_
  obtain ⟨v, rfl, v1, rfl, hO, hb⟩ := hh
  exact ⟨_, rfl, ⟨v1, rfl, hO, hr.2.2⟩, hb⟩
theorem eqF_calls (w : World) (v u : Value) (f : Fct) (h : RFa w v f) (k : RFa w u f) : Calls Try.prog 35 #[v, u] w fun e w' => e = .returned (.bool true) ∧ On w w' := by
  obtain ⟨A, c, rfl, h0⟩ := h.out
  obtain ⟨B, d, rfl, k0⟩ := k.out
  exact eqFact_calls w A c B d f h0 k0
/-- One fact of one's own whose block lies in a range. -/
structure OFb (w : World) (lo hi : Nat) (v : Value) (f : Fct) : Prop where mk :: (out : ∃ v1, v = .agg #[.int .i64 f.1, v1] ∧ OI w lo v1 f.2 ∧ InR f.2 ∧ ∀ b, v1.ownBlock = some b → b < hi)
theorem OFa.b {w : World} {lo : Nat} {v : Value} {f : Fct} (h : OFa w lo v f) : OFb w lo w.heap.size v f := by
  obtain ⟨v1, e, h0, h1⟩ := h.out
  exact ⟨v1, e, h0, h1, fun b hb => own_lt h0 b hb⟩
theorem OFb.read {w : World} {lo hi : Nat} {v : Value} {f : Fct} (h : OFb w lo hi v f) : RFa w v f := by
  obtain ⟨v1, e, h0, h1, _⟩ := h.out
  obtain ⟨A, c, rfl, h2⟩ := OI.rd h0 h1
  exact ⟨A, c, e, h2⟩
theorem OFb.on {W w : World} {lo hi : Nat} {v : Value} {f : Fct} (h : OFb W lo hi v f) (hb : On W w) : OFb w lo hi v f := by
  obtain ⟨v1, e, h0, h1, h2⟩ := h.out
  exact ⟨v1, e, pw_own_below h0 hb, h1, h2⟩
theorem OFb.ex {S : Nat → Prop} {W w : World} {lo hi : Nat} {v : Value} {f : Fct} (h : OFb W lo hi v f) (k : Ex S W w) (hS : ∀ b, lo ≤ b → b < hi → ¬ S b) : OFb w lo hi v f := by
  obtain ⟨v1, e, h0, h1, h2⟩ := h.out
  exact ⟨v1, e, own_ex h0 k (fun i hi h => hS i (own_base h0 i hi) (h2 i hi) h), h1, h2⟩
theorem mkF_calls (w : World) (lo hi : Nat) (v : Value) (f : Fct) (k0 : Int) (h : OFb w lo hi v f) (h0 : 1 ≤ k0) (h1 : k0 + f.2.length ≤ 10000000) : Calls Try.prog 36 #[v, .int .i64 k0] w fun e w' => e = .returned (.int .i64 (k0 + f.2.length)) ∧ Ex (fun b => lo ≤ b ∧ b < hi) w w' := by
  obtain ⟨v1, rfl, hO, hR, hh⟩ := h.out
  refine (markFact_calls w lo v1 f k0 hO (by omega) h1).mono fun e w' hq => ⟨hq.1, hq.2.2.mono fun b hb => ?_⟩
  exact ⟨own_base hO b hb.symm, hh b hb.symm⟩
end Go.Proofs.Ytngjhblbpapjeaa.H
