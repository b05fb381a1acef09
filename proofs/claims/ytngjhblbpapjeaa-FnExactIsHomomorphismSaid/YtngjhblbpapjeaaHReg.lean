/- A rule for regions that draw their order: the operations are taken in an order of the prover's choice. Kinds of a step: L (reads: the world stays), C (a call that hands back one value and makes memory at most), N (whatever makes memory at most, where nothing else may come up); at the end a tail: operations that wait for all the others, in line. No condition. -/
import Derived.Deep.Quiet
import Derived.OrdersHeld
import Derived.Below
namespace Go.Proofs.Ytngjhblbpapjeaa.Reg
open Go Go.RowKit
variable {P : Program} {ops : Array Oper} {Q : Exit → Act → World → Prop} {md : Region.Mode}
inductive K where
  | L | C | N | P
  deriving DecidableEq
/-- Operations that make no call and no block (a mark alone: nothing leans on what it says). -/
def idle : Op → Bool
  | .move _ | .pick .. | .load .. | .binOp .. | .unOp .. | .convert .. | .makeInterface .. | .slice .. | .fieldAddr .. | .field .. | .indexAddr .. | .index .. | .extract .. | .nilCheck .. => true
  | .call { callee := .builtin b, .. } => (match b with | .len | .cap | .max | .min => true | _ => false)
  | _ => false
/-- One operation, carried out in the world w, hands on a value and a world. -/
def upTo (P : Program) (R : Value → World → Prop) : Result Next → Prop
  | .ok (.value u) w' => R u w'
  | .ok .skip w' => R undef w'
  | .ok (.enter f args) w' => Calls P f args w' fun e w'' => ∃ u, e = .returned u ∧ R u w''
  | _ => False
def nAt (P : Program) (o : Oper) (a : Act) (w : World) (R : Value → World → Prop) : Prop := upTo P R ((execOp a.eval o).run P w)
theorem upTo_mono {R R' : Value → World → Prop} (hR : ∀ u w, R u w → R' u w) : ∀ {r : Result Next}, upTo P R r → upTo P R' r := by
  intro r h
  cases r with
  | ok n w' =>
    cases n <;> simp only [upTo] at h ⊢
    case value u => exact hR _ _ h
    case skip => exact hR _ _ h
    case enter f args => exact h.mono fun e w'' ⟨u, he, hu⟩ => ⟨u, he, hR _ _ hu⟩
  | halt x w' => simp only [upTo] at h
theorem nAt_mono {o : Oper} {a : Act} {w : World} {R R' : Value → World → Prop} (hR : ∀ u w, R u w → R' u w) (h : nAt P o a w R) : nAt P o a w R' := upTo_mono hR h
theorem wp_of_nAt {o : Oper} {a : Act} {w : World} {T : Act → World → Prop} (h : nAt P o a w fun u w' => T (a.put o.dst u) w') : o.wp P a w T Q := by
  unfold nAt at h
  unfold Oper.wp
  generalize (execOp a.eval o).run P w = r at *
  cases r with
  | ok n w' =>
    cases n <;> simp only [upTo] at h <;> simp only [Oper.upon]
    case value u => exact h
    case skip => exact h
    case enter f args => exact h.mono fun e w'' ⟨u, he, hu⟩ => by subst he; exact hu
  | halt x w' => simp only [upTo] at h
/-- The steps that an operation may make (the class of worlds S, what follows T; cl: operations that wait for all that was taken first). -/
def stepT (P : Program) (ops : Array Oper) (Q : Exit → Act → World → Prop) (cl : Nat → Bool) (T : Act → (World → Prop) → Prop) (j : Nat) (a : Act) (S : World → Prop) : Prop :=
  match ops[j]? with
  | none => T a S
  | some o =>
    if Region.wanted o (yielded ops a.tmps) then
      (∃ v, (∀ w, S w → (execOp a.eval o).run P w = .ok (.value v) w) ∧ T (a.put o.dst v) S) ∨
      (∃ v, (∀ w, S w → nAt P o a w fun u w' => u = v ∧ S w') ∧ T (a.put o.dst v) S) ∨
      ((idle o.op = false ∨ cl j = true) ∧ ∀ w, S w → wpOp P ops Q j (fun a' w' => ∃ S' : World → Prop, S' w' ∧ (cl j = false → ∀ w, S' w → S w) ∧ T a' S') a w)
    else T (a.put o.dst undef) S
def wpT (P : Program) (md : Region.Mode) (ops : Array Oper) (Q : Exit → Act → World → Prop) (cl : Nat → Bool) : Nat → Array Bool → Act → (World → Prop) → Prop
  | 0, listed, a, S => Region.ready md ops listed = [] ∧ ∀ w, S w → Q .normal a w
  | fuel + 1, listed, a, S =>
    (Region.ready md ops listed = [] → ∀ w, S w → Q .normal a w) ∧
    ∀ i ∈ Region.ready md ops listed, stepT P ops Q cl (wpT P md ops Q cl fuel (listed.setIfInBounds i true)) i a S
theorem stepT_mono {cl : Nat → Bool} {T T' : Act → (World → Prop) → Prop} {j : Nat} {a : Act} {S : World → Prop} (h : ∀ a S, T a S → T' a S) (hh : stepT P ops Q cl T j a S) : stepT P ops Q cl T' j a S := by
  unfold stepT at *
  split
  · rename_i ho; simp only [ho] at hh; exact h _ _ hh
  · rename_i o ho
    simp only [ho] at hh
    split
    · rename_i hw
      rw [if_pos hw] at hh
      rcases hh with ⟨v, h1, h2⟩ | ⟨v, h1, h2⟩ | ⟨hi, h1⟩
      · exact .inl ⟨v, h1, h _ _ h2⟩
      · exact .inr (.inl ⟨v, h1, h _ _ h2⟩)
      · exact .inr (.inr ⟨hi, fun w hw => wpOp_mono (fun a' w' ⟨S', a1, a2, a3⟩ => ⟨S', a1, a2, h _ _ a3⟩) (h1 w hw)⟩)
    · rename_i hw
      rw [if_neg hw] at hh
      exact h _ _ hh
theorem wpOp_of_stepT {cl : Nat → Bool} {T : Act → (World → Prop) → Prop} {T' : Act → World → Prop} {j : Nat} {a : Act} {S : World → Prop} {w : World} (h : ∀ a S w, S w → T a S → T' a w) (hS : S w) (hh : stepT P ops Q cl T j a S) : wpOp P ops Q j T' a w := by
  unfold stepT at hh
  cases ho : ops[j]? with
  | none => simp only [ho] at hh; simp only [wpOp, ho]; exact h _ _ _ hS hh
  | some o =>
    simp only [ho] at hh
    by_cases hw : Region.wanted o (yielded ops a.tmps) = true
    · rw [if_pos hw] at hh
      rcases hh with ⟨v, h1, h2⟩ | ⟨v, h1, h2⟩ | ⟨_, h1⟩
      · simp only [wpOp, ho, hw, if_true]; exact .inl (wp_of_nAt (by unfold nAt; rw [h1 w hS]; exact h _ _ _ hS h2))
      · simp only [wpOp, ho, hw, if_true]; exact .inl (wp_of_nAt (nAt_mono (fun u w' ⟨e, hS'⟩ => by subst e; exact h _ _ _ hS' h2) (h1 w hS)))
      · exact wpOp_mono (fun a' w' ⟨S', a1, _, a3⟩ => h _ _ _ a1 a3) (h1 w hS)
    · rw [if_neg hw] at hh
      simp only [wpOp, ho, hw]
      exact h _ _ _ hS hh
theorem wpAny_of_wpT {cl : Nat → Bool} : ∀ (fuel : Nat) (listed : Array Bool) (a : Act) (S : World → Prop) (w : World), S w → wpT P md ops Q cl fuel listed a S → wpAny P md ops Q fuel listed a w
  | 0, _, _, _, _, hS, h => ⟨h.1, h.2 _ hS⟩
  | fuel + 1, _, _, _, _, hS, h => ⟨fun h0 => h.1 h0 _ hS, fun i hi => wpOp_of_stepT (fun a S w hS hT => wpAny_of_wpT fuel _ a S w hS hT) hS (h.2 i hi)⟩
/-- What is taken first: L (c = false) or C (c = true). -/
def Y (P : Program) (ops : Array Oper) (c : Bool) (S : World → Prop) (o : Oper) (v : Value) (a : Act) : Prop :=
  (Region.wanted o (yielded ops a.tmps) = true ∧ ∀ w, S w → if c then nAt P o a w fun u w' => u = v ∧ S w' else (execOp a.eval o).run P w = .ok (.value v) w) ∨
  (Region.wanted o (yielded ops a.tmps) = false ∧ v = undef)
theorem Y.of_same {c : Bool} {S : World → Prop} {o : Oper} {v : Value} {a a' : Act} (hy : Y P ops c S o v a) (he : execOp a'.eval o = execOp a.eval o)
    (hw : Region.wanted o (yielded ops a'.tmps) = Region.wanted o (yielded ops a.tmps)) : Y P ops c S o v a' := by
  unfold Y nAt at *
  rw [he, hw]
  exact hy
theorem Y.step {cl : Nat → Bool} {c : Bool} {S : World → Prop} {i : Nat} {o : Oper} {v : Value} {a : Act} (hi : ops[i]? = some o) (hy : Y P ops c S o v a) {T : Act → (World → Prop) → Prop} (h : T (a.put o.dst v) S) : stepT P ops Q cl T i a S := by
  unfold stepT
  simp only [hi]
  rcases hy with ⟨hw, hv⟩ | ⟨hw, rfl⟩
  · rw [if_pos hw]
    cases c with
    | false => exact .inl ⟨v, fun w hS => by simpa using hv w hS, h⟩
    | true => exact .inr (.inl ⟨v, fun w hS => by simpa using hv w hS, h⟩)
  · rw [if_neg (by simp [hw])]; exact h
theorem Y.sub {S S' : World → Prop} {o : Oper} {v : Value} {a : Act} (h : ∀ w, S' w → S w) (hy : Y P ops false S o v a) : Y P ops false S' o v a :=
  hy.imp (fun ⟨h1, h2⟩ => ⟨h1, fun w hw => h2 w (h w hw)⟩) id
theorem Y.if {S : World → Prop} {o : Oper} {v : Value} {a : Act} (hy : Y P ops false S o v a) : YieldsIf P ops S o v a :=
  hy.imp (fun ⟨h1, h2⟩ => ⟨h1, fun w hw => by simpa using h2 w hw⟩) id
theorem Y.of_if {S : World → Prop} {o : Oper} {v : Value} {a : Act} (hy : YieldsIf P ops S o v a) : Y P ops false S o v a :=
  hy.imp (fun ⟨h1, h2⟩ => ⟨h1, fun w hw => by simpa using h2 w hw⟩) id
/-- That a panic is asked no temporary. -/
def Plain (Q : Exit → Act → World → Prop) : Prop := ∀ c a d v w, Q (.panic c) (Act.put a d v) w → Q (.panic c) a w
theorem stepT_put {cl : Nat → Bool} {c : Bool} {j : Nat} {oi oj : Oper} {v : Value} (hQ : Plain Q) (hj : ops[j]? = some oj) (hap : oi.apart ops oj = true) (hidle : c = true → idle oj.op = true) (hcl : cl j = false)
    (hsi : ∀ cs b, oi.op ≠ .select cs b) (hsj : ∀ cs b, oj.op ≠ .select cs b) {T : Act → (World → Prop) → Prop} {a : Act} {S : World → Prop}
    (hy : Y P ops c S oi v a) (h : stepT P ops Q cl T j (a.put oi.dst v) S) :
    stepT P ops Q cl (fun a' S' => Y P ops c S' oi v a' ∧ T (a'.put oi.dst v) S') j a S := by
  obtain ⟨h1, h2, h3⟩ := Oper.apart_spec hap
  have keep : ∀ (a : Act) (S : World → Prop), Y P ops c S oi v a → ∀ u, Y P ops c S oi v (a.put oj.dst u) := fun a S hy u =>
    hy.of_same (execOp_put oi hsi a oj.dst u h3) (wanted_put oi a oj.dst u h3)
  unfold stepT nAt at *
  simp only [hj] at h ⊢
  rw [wanted_put oj a oi.dst v h1] at h
  split
  · rename_i hw
    rw [if_pos hw] at h
    rw [execOp_put oj hsj a oi.dst v h1] at h
    rcases h with ⟨u, hu, hn⟩ | ⟨u, hu, hn⟩ | ⟨hi, hu⟩
    · exact .inl ⟨u, hu, keep a S hy u, by rw [← Act.put_comm a v u h2]; exact hn⟩
    · exact .inr (.inl ⟨u, hu, keep a S hy u, by rw [← Act.put_comm a v u h2]; exact hn⟩)
    · cases c with
      | true => rcases hi with hi | hi
                · rw [hidle rfl] at hi; cases hi
                · rw [hcl] at hi; cases hi
      | false =>
        refine .inr (.inr ⟨hi, fun w hS => ?_⟩)
        refine wpOp_mono (fun a' w' ⟨y', S', a1, a2, a3⟩ => ⟨S', a1, a2, (Y.of_if y').sub (a2 hcl), a3⟩) (wpOp_putIf hj hap hsi hsj (fun c a w h => hQ c a _ _ w h) hy.if (hu w hS))
  · rename_i hw
    rw [if_neg hw] at h
    exact ⟨keep a S hy _, by rw [← Act.put_comm a v undef h2]; exact h⟩
/-- The same for an operation that asks the world nothing: it may be drawn ahead of whatever writes, too. -/
theorem stepT_putP {cl : Nat → Bool} {j : Nat} {oi oj : Oper} {v : Value} (hQ : Plain Q) (hj : ops[j]? = some oj) (hap : oi.apart ops oj = true)
    (hsi : ∀ cs b, oi.op ≠ .select cs b) (hsj : ∀ cs b, oj.op ≠ .select cs b) {T : Act → (World → Prop) → Prop} {a : Act} {S : World → Prop}
    (hy : Y P ops false (fun _ => True) oi v a) (h : stepT P ops Q cl T j (a.put oi.dst v) S) :
    stepT P ops Q cl (fun a' S' => Y P ops false (fun _ => True) oi v a' ∧ T (a'.put oi.dst v) S') j a S := by
  obtain ⟨h1, h2, h3⟩ := Oper.apart_spec hap
  have keep : ∀ (a : Act), Y P ops false (fun _ => True) oi v a → ∀ u, Y P ops false (fun _ => True) oi v (a.put oj.dst u) := fun a hy u =>
    hy.of_same (execOp_put oi hsi a oj.dst u h3) (wanted_put oi a oj.dst u h3)
  unfold stepT nAt at *
  simp only [hj] at h ⊢
  rw [wanted_put oj a oi.dst v h1] at h
  split
  · rename_i hw
    rw [if_pos hw] at h
    rw [execOp_put oj hsj a oi.dst v h1] at h
    rcases h with ⟨u, hu, hn⟩ | ⟨u, hu, hn⟩ | ⟨hi, hu⟩
    · exact .inl ⟨u, hu, keep a hy u, by rw [← Act.put_comm a v u h2]; exact hn⟩
    · exact .inr (.inl ⟨u, hu, keep a hy u, by rw [← Act.put_comm a v u h2]; exact hn⟩)
    · refine .inr (.inr ⟨hi, fun w hS => ?_⟩)
      exact wpOp_mono (fun a' w' ⟨y', S', a1, a2, a3⟩ => ⟨S', a1, a2, Y.of_if y', a3⟩) (wpOp_putIf hj hap hsi hsj (fun c a w h => hQ c a _ _ w h) hy.if (hu w hS))
  · rename_i hw
    rw [if_neg hw] at h
    exact ⟨keep a hy _, by rw [← Act.put_comm a v undef h2]; exact h⟩
/-! Who waits for whom. -/
def closed (md : Region.Mode) (ops : Array Oper) (listed : Array Bool) : Prop := ∀ j o, ops[j]? = some o → listed.getD j false = true → ∀ e ∈ o.after, Region.binds md e = true → listed.getD e.on false = true
/-- Behind j stands i: told by bits, each operation's once. -/
def befs (md : Region.Mode) : List Oper → Array Nat → Array Nat
  | [], acc => acc
  | o :: l, acc => befs md l (acc.push (o.after.toList.foldl (fun s e => if Region.binds md e then s ||| 2 ^ e.on ||| acc.getD e.on 0 else s) 0))
inductive Anc (md : Region.Mode) (ops : Array Oper) : Nat → Nat → Prop where
  | one {j i : Nat} {o : Oper} {e : Edge} (ho : ops[j]? = some o) (he : e ∈ o.after) (hb : Region.binds md e = true) (hi : e.on = i) : Anc md ops j i
  | more {j i : Nat} {o : Oper} {e : Edge} (ho : ops[j]? = some o) (he : e ∈ o.after) (hb : Region.binds md e = true) (h : Anc md ops e.on i) : Anc md ops j i
theorem bits_fold {md : Region.Mode} {acc : Array Nat} {i : Nat} : ∀ (es : List Edge) (s : Nat), (es.foldl (fun s e => if Region.binds md e then s ||| 2 ^ e.on ||| acc.getD e.on 0 else s) s).testBit i = true →
    s.testBit i = true ∨ ∃ e ∈ es, Region.binds md e = true ∧ (e.on = i ∨ (acc.getD e.on 0).testBit i = true)
  | [], s, h => .inl h
  | e :: es, s, h => by
    rw [List.foldl_cons] at h
    rcases bits_fold es _ h with h1 | ⟨e', he', hb'⟩
    · by_cases hb : Region.binds md e = true
      · rw [if_pos hb, Nat.testBit_or, Nat.testBit_or, Bool.or_eq_true, Bool.or_eq_true] at h1
        rcases h1 with (h1 | h1) | h1
        · exact .inl h1
        · refine .inr ⟨e, List.mem_cons_self, hb, .inl ?_⟩
          rw [Nat.testBit_two_pow] at h1
          exact of_decide_eq_true h1
        · exact .inr ⟨e, List.mem_cons_self, hb, .inr h1⟩
      · rw [if_neg hb] at h1; exact .inl h1
    · exact .inr ⟨e', List.mem_cons_of_mem _ he', hb'⟩
theorem befs_anc : ∀ (l : List Oper) (acc : Array Nat), (∀ j, l[j]? = ops[acc.size + j]?) → (∀ j i, (acc.getD j 0).testBit i = true → Anc md ops j i) → ∀ j i, ((befs md l acc).getD j 0).testBit i = true → Anc md ops j i
  | [], _, _, h, j, i, hj => h j i hj
  | o :: l, acc, hl, h, j, i, hj => by
    refine befs_anc l _ (fun j => ?_) ?_ j i hj
    · have := hl (j + 1)
      rw [List.getElem?_cons_succ] at this
      rw [this, Array.size_push]
      congr 1
      omega
    · intro j i hj
      rcases Nat.lt_trichotomy j acc.size with h1 | h1 | h1
      · refine h j i ?_
        simpa [Array.getElem?_push, Nat.ne_of_lt h1] using hj
      · subst h1
        have h0 : ops[acc.size]? = some o := by simpa using (hl 0).symm
        simp only [Array.getD_eq_getD_getElem?, Array.getElem?_push, if_pos, Option.getD_some] at hj
        have hz : (0 : Nat).testBit i = false := by simp
        rcases bits_fold (acc := acc) o.after.toList 0 (by simpa using hj) with h2 | ⟨e, he, hb, h2⟩
        · rw [hz] at h2; cases h2
        · have he' : e ∈ o.after := Array.mem_toList_iff.1 he
          rcases h2 with h2 | h2
          · exact .one h0 he' hb h2
          · exact .more h0 he' hb (h _ _ h2)
      · have hlen : ¬ j < (acc.push (o.after.toList.foldl (fun s e => if Region.binds md e then s ||| 2 ^ e.on ||| acc.getD e.on 0 else s) 0)).size := by rw [Array.size_push]; omega
        rw [Array.getD_eq_getD_getElem?, Array.getElem?_eq_none (Nat.not_lt.1 hlen)] at hj
        simp at hj
def reach (md : Region.Mode) (ops : Array Oper) (j i : Nat) : Bool := ((befs md ops.toList #[]).getD j 0).testBit i
theorem reach_anc {j i : Nat} (h : reach md ops j i = true) : Anc md ops j i := befs_anc ops.toList #[] (fun j => by simp) (fun j i h => by simp at h) j i h
theorem closed.set {listed : Array Bool} {i : Nat} (h : closed md ops listed) (hr : i ∈ Region.ready md ops listed) : closed md ops (listed.setIfInBounds i true) := by
  intro j o ho hl e he hb
  obtain ⟨_, oi, hoi, hall⟩ := mem_ready.1 hr
  by_cases hji : j = i
  · subst hji
    rw [hoi] at ho
    injection ho with ho
    subst ho
    exact getD_set_true (hall e he hb)
  · refine getD_set_true (h j o ho ?_ e he hb)
    rw [getD_set_ne false (Ne.symm hji)] at hl
    exact hl
theorem closed.start (n : Nat) : closed md ops (Array.replicate n false) := by
  intro j o _ hl
  rcases Nat.lt_or_ge j n with h | h
  · simp [h] at hl
  · simp [Nat.not_lt.2 h] at hl
theorem closed.anc {listed : Array Bool} (h : closed md ops listed) {j i : Nat} (ha : Anc md ops j i) : ∀ (o : Oper), ops[j]? = some o → (∀ e ∈ o.after, Region.binds md e = true → listed.getD e.on false = true) → listed.getD i false = true := by
  induction ha with
  | one ho he hb hi =>
    intro o ho' hall
    rw [ho] at ho'
    injection ho' with ho'
    subst ho'
    exact hi ▸ hall _ he hb
  | @more j i o e ho he hb ha ih =>
    intro o' ho' hall
    rw [ho] at ho'
    injection ho' with ho'
    subst ho'
    have hl := hall e he hb
    cases hoe : ops[e.on]? with
    | none => cases ha with | one h1 => rw [hoe] at h1; cases h1 | more h1 => rw [hoe] at h1; cases h1
    | some oe => exact ih oe hoe (fun e' he' hb' => h e.on oe hoe hl e' he' hb')
theorem closed.reach {listed : Array Bool} (h : closed md ops listed) {i j : Nat} {o : Oper} (ho : ops[j]? = some o) (hall : ∀ e ∈ o.after, Region.binds md e = true → listed.getD e.on false = true) (hr : reach md ops j i = true) : listed.getD i false = true := h.anc (reach_anc hr) o ho hall
theorem wpT_first {cl : Nat → Bool} {c : Bool} {i : Nat} {oi : Oper} {v : Value} (hQ : Plain Q) (hi : ops[i]? = some oi) (hsel : ∀ (j : Nat) (o : Oper) cs b, ops[j]? = some o → o.op ≠ .select cs b) (hcl : ∀ j, cl j = true → reach md ops j i = true) :
    ∀ (fuel : Nat) (listed : Array Bool) (a : Act) (S : World → Prop), closed md ops listed →
      (∀ j oj, ops[j]? = some oj → j ≠ i → listed.getD j true = false → reach md ops j i = false → oi.apart ops oj = true ∧ (c = true → idle oj.op = true)) →
      i ∈ Region.ready md ops listed → Y P ops c S oi v a →
      wpT P md ops Q cl fuel (listed.setIfInBounds i true) (a.put oi.dst v) S → wpT P md ops Q cl (fuel + 1) listed a S := by
  intro fuel
  induction fuel with
  | zero =>
    intro listed a S _ _ hr hy H
    refine ⟨fun h => (by rw [h] at hr; cases hr), fun j hj => ?_⟩
    by_cases hji : j = i
    · subst hji; exact hy.step hi H
    · have := ready_mono hj hji
      rw [H.1] at this
      cases this
  | succ fuel ih =>
    intro listed a S hclosed hfree hr hy H
    refine ⟨fun h => (by rw [h] at hr; cases hr), fun j hj => ?_⟩
    by_cases hji : j = i
    · subst hji; exact hy.step hi H
    · have h1 := H.2 j (ready_mono hj hji)
      obtain ⟨hjun, oj, hoj, hall⟩ := mem_ready.1 hj
      have hif : listed.getD i false = false := by
        have h0 := (mem_ready.1 hr).1
        rcases Nat.lt_or_ge i listed.size with h' | h'
        · simp [h'] at h0 ⊢; exact h0
        · simp [Array.getElem?_eq_none h']
      have hnot : reach md ops j i = false := by
        cases hc : reach md ops j i with
        | false => rfl
        | true =>
          have := closed.reach hclosed hoj hall hc
          rw [hif] at this
          cases this
      have hclj : cl j = false := by
        cases hc : cl j with
        | false => rfl
        | true =>
          have := closed.reach hclosed hoj hall (hcl j hc)
          rw [hif] at this
          cases this
      have hfj := hfree j oj hoj hji hjun hnot
      have h2 := stepT_put hQ hoj hfj.1 hfj.2 hclj (fun cs b => hsel i oi cs b hi) (fun cs b => hsel j oj cs b hoj) hy h1
      have hfree' : ∀ k ok, ops[k]? = some ok → k ≠ i → (listed.setIfInBounds j true).getD k true = false →
          reach md ops k i = false → oi.apart ops ok = true ∧ (c = true → idle ok.op = true) := fun k ok hk hki hun hno => by
        refine hfree k ok hk hki ?_ hno
        by_cases hjk : j = k
        · subst hjk; exact hjun
        · rw [getD_set_ne true hjk] at hun; exact hun
      refine stepT_mono (fun a' S' h3 => ih (listed.setIfInBounds j true) a' S' (hclosed.set hj) hfree' (ready_mono hr (Ne.symm hji)) h3.1 ?_) h2
      rw [Array.setIfInBounds_comm _ _ hji]
      exact h3.2
theorem wpT_firstP {cl : Nat → Bool} {i : Nat} {oi : Oper} {v : Value} (hQ : Plain Q) (hi : ops[i]? = some oi) (hsel : ∀ (j : Nat) (o : Oper) cs b, ops[j]? = some o → o.op ≠ .select cs b) :
    ∀ (fuel : Nat) (listed : Array Bool) (a : Act) (S : World → Prop), closed md ops listed →
      (∀ j oj, ops[j]? = some oj → j ≠ i → listed.getD j true = false → reach md ops j i = false → oi.apart ops oj = true) →
      i ∈ Region.ready md ops listed → Y P ops false (fun _ => True) oi v a →
      wpT P md ops Q cl fuel (listed.setIfInBounds i true) (a.put oi.dst v) S → wpT P md ops Q cl (fuel + 1) listed a S := by
  intro fuel
  induction fuel with
  | zero =>
    intro listed a S _ _ hr hy H
    refine ⟨fun h => (by rw [h] at hr; cases hr), fun j hj => ?_⟩
    by_cases hji : j = i
    · subst hji; exact (hy.sub (S' := S) (fun _ _ => trivial)).step hi H
    · have := ready_mono hj hji
      rw [H.1] at this
      cases this
  | succ fuel ih =>
    intro listed a S hclosed hfree hr hy H
    refine ⟨fun h => (by rw [h] at hr; cases hr), fun j hj => ?_⟩
    by_cases hji : j = i
    · subst hji; exact (hy.sub (S' := S) (fun _ _ => trivial)).step hi H
    · have h1 := H.2 j (ready_mono hj hji)
      obtain ⟨hjun, oj, hoj, hall⟩ := mem_ready.1 hj
      have hif : listed.getD i false = false := by
        have h0 := (mem_ready.1 hr).1
        rcases Nat.lt_or_ge i listed.size with h' | h'
        · simp [h'] at h0 ⊢; exact h0
        · simp [Array.getElem?_eq_none h']
      have hnot : reach md ops j i = false := by
        cases hc : reach md ops j i with
        | false => rfl
        | true =>
          have := closed.reach hclosed hoj hall hc
          rw [hif] at this
          cases this
      have h2 := stepT_putP hQ hoj (hfree j oj hoj hji hjun hnot) (fun cs b => hsel i oi cs b hi) (fun cs b => hsel j oj cs b hoj) hy h1
      have hfree' : ∀ k ok, ops[k]? = some ok → k ≠ i → (listed.setIfInBounds j true).getD k true = false →
          reach md ops k i = false → oi.apart ops ok = true := fun k ok hk hki hun hno => by
        refine hfree k ok hk hki ?_ hno
        by_cases hjk : j = k
        · subst hjk; exact hjun
        · rw [getD_set_ne true hjk] at hun; exact hun
      refine stepT_mono (fun a' S' h3 => ih (listed.setIfInBounds j true) a' S' (hclosed.set hj) hfree' (ready_mono hr (Ne.symm hji)) h3.1 ?_) h2
      rw [Array.setIfInBounds_comm _ _ hji]
      exact h3.2
/-! The prover's order, checked by a Bool. -/
def freeC (md : Region.Mode) (ops : Array Oper) (c : Bool) (listed : Array Bool) (i : Nat) : Bool :=
  match ops[i]? with
  | none => false
  | some oi => (List.range ops.size).all fun j => j == i || listed.getD j true || match ops[j]? with
      | some oj => reach md ops j i || (oi.apart ops oj && (!c || idle oj.op))
      | none => true
theorem freeC_spec {c : Bool} {i : Nat} {oi : Oper} {listed : Array Bool} (hi : ops[i]? = some oi) (h : freeC md ops c listed i = true) (j : Nat) (oj : Oper)
    (hj : ops[j]? = some oj) (hne : j ≠ i) (hun : listed.getD j true = false) (hno : reach md ops j i = false) : oi.apart ops oj = true ∧ (c = true → idle oj.op = true) := by
  simp only [freeC, hi, List.all_eq_true, List.mem_range] at h
  have h1 := h j (Array.getElem?_eq_some_iff.1 hj).1
  simp only [hj, Bool.or_eq_true, beq_iff_eq, hne, false_or, hun, hno, Bool.false_eq_true, Bool.and_eq_true, Bool.not_eq_true'] at h1
  exact ⟨h1.1, fun hc => h1.2.resolve_left (by simp [hc])⟩
def busy (ops : Array Oper) (i : Nat) : Bool := match ops[i]? with | some o => !idle o.op | none => false
def chkTail (md : Region.Mode) (ops : Array Oper) : List Nat → Array Bool → Bool
  | [], listed => Region.ready md ops listed == []
  | i :: l, listed => Region.ready md ops listed == [i] && (ops[i]?).isSome && chkTail md ops l (listed.setIfInBounds i true)
def chk (md : Region.Mode) (ops : Array Oper) (tail : List Nat) : List (Nat × K) → Array Bool → Bool
  | [], listed => chkTail md ops tail listed
  | (i, k) :: l, listed =>
    (match k with
      | .L => (Region.ready md ops listed).contains i && freeC md ops false listed i && tail.all fun j => reach md ops j i
      | .C => (Region.ready md ops listed).contains i && freeC md ops true listed i && tail.all fun j => reach md ops j i
      | .N => Region.ready md ops listed == [i] && busy ops i && !tail.contains i
      | .P => (Region.ready md ops listed).contains i && freeC md ops false listed i)
    && chk md ops tail l (listed.setIfInBounds i true)
/-- The worlds that go on from W. -/
abbrev On (W w : World) : Prop := Below W.heap.size W w
def wpOrd (P : Program) (ops : Array Oper) (Q : Exit → Act → World → Prop) (tail : List Nat) : List (Nat × K) → Act → World → Prop
  | [], a, W => ∀ w, On W w → wpList P ops Q (tail.filterMap fun i => ops[i]?) a w
  | (i, k) :: l, a, W =>
    match ops[i]? with
    | none => False
    | some o =>
      if Region.wanted o (yielded ops a.tmps) then
        (match k with
          | .L => ∃ v, (∀ w, On W w → (execOp a.eval o).run P w = .ok (.value v) w) ∧ wpOrd P ops Q tail l (a.put o.dst v) W
          | .C => ∃ v, (∀ w, On W w → nAt P o a w fun u w' => u = v ∧ On W w') ∧ wpOrd P ops Q tail l (a.put o.dst v) W
          | .N => ∀ w, On W w → wpList P ops (Exit.then (fun a' w' => On W w' ∧ wpOrd P ops Q tail l a' w') Q) [o] a w
          | .P => ∃ v, (∀ w, (execOp a.eval o).run P w = .ok (.value v) w) ∧ wpOrd P ops Q tail l (a.put o.dst v) W)
      else wpOrd P ops Q tail l (a.put o.dst undef) W
theorem wpOp_of_one {i : Nat} {o : Oper} {T : Act → World → Prop} {a : Act} {w : World} (hi : ops[i]? = some o) (h : wpList P ops (Exit.then T Q) [o] a w) (hl : LetsOut (Exit.then T Q) → LetsOut Q := by exact id) : wpOp P ops Q i T a w := by
  simp only [wpList] at h
  unfold wpOp
  simp only [hi]
  split
  · rename_i hw
    rw [if_pos hw] at h
    rcases h with h | ⟨h1, h2⟩
    · refine .inl ?_
      unfold Oper.wp at *
      generalize (execOp a.eval o).run P w = r at *
      cases r with
      | ok n w' =>
        cases n <;> simp only [Oper.upon] at h ⊢ <;>
          first
            | exact h
            | exact h.mono (fun e w'' he => by cases e <;> first | exact he | exact hl he)
      | halt x w' => cases x <;> simp only [Oper.upon] at h ⊢ <;> exact h
    · exact .inr ⟨h1, hl h2⟩
  · rename_i hw
    rw [if_neg hw] at h
    exact h
theorem wpT_of_tail {cl : Nat → Bool} : ∀ (l : List Nat) (listed : Array Bool) (a : Act) (S : World → Prop), (∀ i ∈ l, cl i = true) → chkTail md ops l listed = true → (∀ w, S w → wpList P ops Q (l.filterMap fun i => ops[i]?) a w) → wpT P md ops Q cl l.length listed a S
  | [], listed, a, S, _, hc, h => ⟨by simpa [chkTail] using hc, h⟩
  | i :: l, listed, a, S, hcl, hc, h => by
    simp only [chkTail, Bool.and_eq_true, beq_iff_eq] at hc
    obtain ⟨⟨hr, hbusy⟩, hl⟩ := hc
    cases hi : ops[i]? with
    | none => simp [hi] at hbusy
    | some o =>
      rw [List.length_cons]
      refine ⟨fun h0 => (by rw [hr] at h0; cases h0), fun j hj => ?_⟩
      rw [hr] at hj
      obtain rfl := List.mem_singleton.1 hj
      have ih := fun a S h => wpT_of_tail l (listed.setIfInBounds j true) a S (fun k hk => hcl k (List.mem_cons_of_mem _ hk)) hl h
      have hlist : ∀ w, S w → wpOp P ops Q j (wpList P ops Q (l.filterMap fun i => ops[i]?)) a w := fun w hS => by
        have h1 := h w hS
        simp only [List.filterMap_cons, hi] at h1
        unfold wpOp
        simp only [hi]
        unfold wpList at h1
        exact h1
      unfold stepT
      simp only [hi]
      split
      · exact .inr (.inr ⟨.inr (hcl j List.mem_cons_self), fun w hS => wpOp_mono (fun a' w' hh => ⟨fun w => w = w', rfl, fun h0 => (by rw [hcl j List.mem_cons_self] at h0; cases h0), ih a' _ (fun w e => by subst e; exact hh)⟩) (hlist w hS)⟩)
      · rename_i hw
        refine ih _ _ fun w hS => ?_
        have h1 := hlist w hS
        unfold wpOp at h1
        simp only [hi] at h1
        rw [if_neg hw] at h1
        exact h1
theorem wpT_of_ord (hs : Region.noSelect ops = true) (hQ : Plain Q) (tail : List Nat) : ∀ (l : List (Nat × K)) (listed : Array Bool) (a : Act) (W : World), closed md ops listed → chk md ops tail l listed = true → wpOrd P ops Q tail l a W → wpT P md ops Q (fun j => tail.contains j) (l.length + tail.length) listed a (On W)
  | [], listed, a, W, _, hc, h => by
    rw [List.length_nil, Nat.zero_add]
    exact wpT_of_tail tail listed a _ (fun i hi => by simpa using hi) hc h
  | (i, k) :: l, listed, a, W, hclosed, hc, h => by
    simp only [chk, Bool.and_eq_true] at hc
    obtain ⟨hk, hl⟩ := hc
    simp only [wpOrd] at h
    cases hi : ops[i]? with
    | none => simp only [hi] at h
    | some o =>
      simp only [hi] at h
      have hri : i ∈ Region.ready md ops listed := by
        cases k <;> simp only [Bool.and_eq_true, beq_iff_eq] at hk
        · simpa using hk.1.1
        · simpa using hk.1.1
        · rw [hk.1.1]; exact List.mem_singleton.2 rfl
        · simpa using hk.1
      have ih := fun a W h => wpT_of_ord hs hQ tail l (listed.setIfInBounds i true) a W (hclosed.set hri) hl h
      have sel := Region.noSelect_spec hs
      have hlen : (((i, k) :: l).length + tail.length) = (l.length + tail.length) + 1 := by rw [List.length_cons]; omega
      rw [hlen]
      have hreach : k ≠ .N → k ≠ .P → ∀ j, (tail.contains j) = true → reach md ops j i = true := by
        intro hkn hkp j hj
        have hj' : j ∈ tail := by simpa using hj
        cases k <;> simp only [Bool.and_eq_true, List.all_eq_true] at hk
        · exact hk.2 j hj'
        · exact hk.2 j hj'
        · exact absurd rfl hkn
        · exact absurd rfl hkp
      by_cases hw : Region.wanted o (yielded ops a.tmps) = true
      · rw [if_pos hw] at h
        cases k with
        | L =>
          simp only [Bool.and_eq_true] at hk
          obtain ⟨v, h1, h2⟩ := h
          exact wpT_first (c := false) hQ hi sel (hreach (by simp) (by simp)) _ listed a _ hclosed (fun j oj hj hne hun hno => freeC_spec hi hk.1.2 j oj hj hne hun hno) hri (.inl ⟨hw, fun w hS => by simpa using h1 w hS⟩) (ih _ _ h2)
        | C =>
          simp only [Bool.and_eq_true] at hk
          obtain ⟨v, h1, h2⟩ := h
          exact wpT_first (c := true) hQ hi sel (hreach (by simp) (by simp)) _ listed a _ hclosed (fun j oj hj hne hun hno => freeC_spec hi hk.1.2 j oj hj hne hun hno) hri (.inl ⟨hw, fun w hS => by simpa using h1 w hS⟩) (ih _ _ h2)
        | N =>
          simp only [Bool.and_eq_true, beq_iff_eq, busy, hi, Bool.not_eq_true'] at hk
          refine ⟨fun h0 => (by rw [hk.1.1] at h0; cases h0), fun j hj => ?_⟩
          rw [hk.1.1] at hj
          obtain rfl := List.mem_singleton.1 hj
          unfold stepT
          simp only [hi]
          rw [if_pos hw]
          exact .inr (.inr ⟨.inl hk.1.2, fun w hS => wpOp_mono (fun a' w' ⟨hon, hh⟩ => ⟨On w', Below.refl _ _, fun _ w'' hw'' => hon.trans (hw''.mono hon.size), ih _ _ hh⟩) (wpOp_of_one hi (h w hS))⟩)
        | P =>
          simp only [Bool.and_eq_true] at hk
          obtain ⟨v, h1, h2⟩ := h
          exact wpT_firstP hQ hi sel _ listed a _ hclosed (fun j oj hj hne hun hno => (freeC_spec hi hk.2 j oj hj hne hun hno).1) hri (.inl ⟨hw, fun w _ => by simpa using h1 w⟩) (ih _ _ h2)
      · rw [if_neg hw] at h
        have hw' : Region.wanted o (yielded ops a.tmps) = false := by simpa using hw
        cases k with
        | P =>
          simp only [Bool.and_eq_true] at hk
          exact wpT_firstP hQ hi sel _ listed a _ hclosed (fun j oj hj hne hun hno => (freeC_spec hi hk.2 j oj hj hne hun hno).1) hri (.inr ⟨hw', rfl⟩) (ih _ _ h)
        | L =>
          simp only [Bool.and_eq_true] at hk
          exact wpT_first (c := false) hQ hi sel (hreach (by simp) (by simp)) _ listed a _ hclosed (fun j oj hj hne hun hno => ⟨(freeC_spec hi hk.1.2 j oj hj hne hun hno).1, fun h => by cases h⟩) hri (.inr ⟨hw', rfl⟩) (ih _ _ h)
        | C =>
          simp only [Bool.and_eq_true] at hk
          exact wpT_first (c := false) hQ hi sel (hreach (by simp) (by simp)) _ listed a _ hclosed (fun j oj hj hne hun hno => ⟨(freeC_spec hi hk.1.2 j oj hj hne hun hno).1, fun h => by cases h⟩) hri (.inr ⟨hw', rfl⟩) (ih _ _ h)
        | N =>
          simp only [Bool.and_eq_true, beq_iff_eq, busy, hi, Bool.not_eq_true'] at hk
          refine ⟨fun h0 => (by rw [hk.1.1] at h0; cases h0), fun j hj => ?_⟩
          rw [hk.1.1] at hj
          obtain rfl := List.mem_singleton.1 hj
          unfold stepT
          simp only [hi]
          rw [if_neg hw]
          exact ih _ _ h
/-- The same, shut (so that nobody lays it open unasked). -/
structure Ord (P : Program) (ops : Array Oper) (Q : Exit → Act → World → Prop) (tail : List Nat) (l : List (Nat × K)) (a : Act) (W : World) : Prop where mk :: (out : wpOrd P ops Q tail l a W)
/-- The rule: a region that draws its order, its operations taken in the order l, then the tail. -/
theorem region {id : Nat} {a : Act} {w : World} (l : List (Nat × K)) (tail : List Nat) (hm : P.follows .mixedOrders = true) (hc : (Region.noSelect ops && (l.length + tail.length == ops.size) && chk .any ops tail l (Array.replicate ops.size false)) = true)
    (h : Ord P ops Q tail l a w) (hQ : Plain Q := by exact fun c a d v w h => by cases d <;> exact h) : (Code.region id ops true).wp P Q a w := by
  simp only [Bool.and_eq_true, beq_iff_eq] at hc
  refine wp_region_any hm (wpAny_of_wpT (cl := fun j => tail.contains j) _ _ _ (On w) _ (below_drew' w) ?_)
  rw [← hc.1.2]
  exact wpT_of_ord hc.1.1 hQ tail l _ a w (closed.start _) (by rw [hc.1.2]; exact hc.2) h.out
where
  below_drew' (w : World) : On w { w with drawn := w.drawn + 1 } := Below.drew (Below.refl _ _)
/-! The moves. -/
section
variable {i : Nat} {tail : List Nat} {l : List (Nat × K)} {a : Act} {W : World} {o : Oper} {N : Tmp}
theorem nil (h : ∀ w, On W w → Q .normal a w) : Ord P ops Q [] [] a W := ⟨h⟩
theorem stepL {v : Value} (hy : ∀ w, On W w → (execOp a.eval o).run P w = .ok (.value v) w) (h : Ord P ops Q tail l (a.put (some N) v) W) (hi : ops[i]? = some o) (hN : o.dst = some N)
    (hw : Region.wanted o (yielded ops a.tmps) = true) : Ord P ops Q tail ((i, .L) :: l) a W := by
  refine ⟨?_⟩
  simp only [wpOrd, hi]
  rw [if_pos hw]
  exact ⟨v, hy, hN ▸ h.out⟩
theorem stepP {v : Value} (hy : ∀ w, (execOp a.eval o).run P w = .ok (.value v) w) (h : Ord P ops Q tail l (a.put (some N) v) W) (hi : ops[i]? = some o) (hN : o.dst = some N)
    (hw : Region.wanted o (yielded ops a.tmps) = true) : Ord P ops Q tail ((i, .P) :: l) a W := by
  refine ⟨?_⟩
  simp only [wpOrd, hi]
  rw [if_pos hw]
  exact ⟨v, hy, hN ▸ h.out⟩
theorem stepC {v : Value} (hy : ∀ w, On W w → nAt P o a w fun u w' => u = v ∧ On W w') (h : Ord P ops Q tail l (a.put (some N) v) W) (hi : ops[i]? = some o) (hN : o.dst = some N)
    (hw : Region.wanted o (yielded ops a.tmps) = true) : Ord P ops Q tail ((i, .C) :: l) a W := by
  refine ⟨?_⟩
  simp only [wpOrd, hi]
  rw [if_pos hw]
  exact ⟨v, hy, hN ▸ h.out⟩
theorem wpList_mono_normal {os : List Oper} {T T' : Act → World → Prop} (hT : ∀ a w, T a w → T' a w) : ∀ {a : Act} {w : World}, wpList P ops (Exit.then T Q) os a w → wpList P ops (Exit.then T' Q) os a w := by
  induction os with
  | nil => intro a w h; exact hT _ _ h
  | cons o os ih =>
    intro a w h
    unfold wpList at h ⊢
    split
    · rename_i hw
      rw [if_pos hw] at h
      rcases h with h | ⟨h1, h2⟩
      · refine .inl ?_
        unfold Oper.wp at *
        generalize (execOp a.eval o).run P w = r at *
        cases r with
        | ok n w' =>
          cases n <;> simp only [Oper.upon] at h ⊢ <;>
            first
              | exact ih h
              | exact h.mono (fun e w'' he => by cases e <;> first | exact ih he | exact he)
              | exact Rows.mono h (fun _ _ he => ih he)
        | halt x w' => cases x <;> simp only [Oper.upon] at h ⊢ <;> exact h
      · exact .inr ⟨h1, h2⟩
    · rename_i hw
      rw [if_neg hw] at h
      exact ih h
theorem stepN (h : ∀ w, On W w → wpList P ops (Exit.then (fun a' w' => On W w' ∧ Ord P ops Q tail l a' w') Q) [o] a w) (hi : ops[i]? = some o)
    (hw : Region.wanted o (yielded ops a.tmps) = true) : Ord P ops Q tail ((i, .N) :: l) a W := by
  refine ⟨?_⟩
  simp only [wpOrd, hi]
  rw [if_pos hw]
  exact fun w hS => wpList_mono_normal (fun a w ⟨h1, h2⟩ => ⟨h1, h2.out⟩) (h w hS)
theorem skip {k : K} (h : Ord P ops Q tail l (a.put (some N) undef) W) (hi : ops[i]? = some o) (hN : o.dst = some N) (hw : Region.wanted o (yielded ops a.tmps) = false) : Ord P ops Q tail ((i, k) :: l) a W := by
  refine ⟨?_⟩
  simp only [wpOrd, hi]
  rw [if_neg (by simp [hw]), hN]
  exact h.out
theorem tail_ {os : List Oper} (h : ∀ w, On W w → wpList P ops Q os a w) (hos : (tail.filterMap fun i => ops[i]?) = os := by simp only [List.filterMap_cons, List.filterMap_nil, List.getElem?_toArray, List.getElem?_cons_zero, List.getElem?_cons_succ]; rfl) : Ord P ops Q tail [] a W := by
  subst hos
  exact ⟨h⟩
end
end Go.Proofs.Ytngjhblbpapjeaa.Reg
