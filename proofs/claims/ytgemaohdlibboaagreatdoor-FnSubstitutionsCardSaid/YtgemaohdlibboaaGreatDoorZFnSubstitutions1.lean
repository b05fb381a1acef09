/- Walks and plain laws for the law FnSubstitutions, part 1 of 7: the texts HReg, HW, HD, HB1, HB2, HB3, HP, HB4, HB5, HO, HL1, HL3, HL2, HL4, HL5, HL6, HL7 in one. No condition. -/
import Derived.Deep.Quiet
import Derived.OrdersHeld
import Derived.Below
import Derived.Test.YtgemaohdlibboaaGreatDoorWWords
import Derived.Test.YtgemaohdlibboaaGreatDoorWLast
import Derived.Test.YtgemaohdlibboaaGreatDoorWApart
import Derived.Test.YtgemaohdlibboaaGreatDoorWMore
import Derived.Handy
import Derived.KernelRfl
import Derived.Test.YtgemaohdlibboaaGreatDoorProg
import Derived.WalkLawsBesides
/- A rule for regions that draw their order: the operations are taken in an order of the prover's choice. Kinds of a step: L (reads: the world stays), C (a call that hands back one value and makes memory at most), N (whatever makes memory at most, where nothing else may come up); at the end a tail: operations that wait for all the others, in line. No condition. -/
namespace Go.Proofs.YtgemaohdlibboaaGreatDoor.Reg
open Go Go.RowKit
variable {P : Program} {ops : Array Oper} {Q : Exit → Act → World → Prop} {md : Region.Mode}
inductive K where
  | L | C | N | P
  deriving DecidableEq
/-- Operations that make no call and no block (a mark alone: nothing leans on what it says). -/
def idle : Op → Bool
  | .move _ | .pick .. | .load .. | .binOp .. | .unOp .. | .convert .. | .makeInterface .. | .slice .. | .fieldAddr .. | .field .. | .indexAddr .. | .index .. | .extract .. | .nilCheck .. => true
  | .call { callee := .builtin b, .. } => (match b with | .len | .cap | .max | .min => true | _ => false)
  | _ => false
/-- One operation, carried out in the world w, hands on a value and a world. -/
def upTo (P : Program) (R : Value → World → Prop) : Result Next → Prop
  | .ok (.value u) w' => R u w'
  | .ok .skip w' => R undef w'
  | .ok (.enter f args) w' => Calls P f args w' fun e w'' => ∃ u, e = .returned u ∧ R u w''
  | _ => False
def nAt (P : Program) (o : Oper) (a : Act) (w : World) (R : Value → World → Prop) : Prop := upTo P R ((execOp a.eval o).run P w)
theorem upTo_mono {R R' : Value → World → Prop} (hR : ∀ u w, R u w → R' u w) : ∀ {r : Result Next}, upTo P R r → upTo P R' r := by
  intro r h
  cases r with
  | ok n w' =>
    cases n <;> simp only [upTo] at h ⊢
    case value u => exact hR _ _ h
    case skip => exact hR _ _ h
    case enter f args => exact h.mono fun e w'' ⟨u, he, hu⟩ => ⟨u, he, hR _ _ hu⟩
  | halt x w' => simp only [upTo] at h
theorem nAt_mono {o : Oper} {a : Act} {w : World} {R R' : Value → World → Prop} (hR : ∀ u w, R u w → R' u w) (h : nAt P o a w R) : nAt P o a w R' := upTo_mono hR h
theorem wp_of_nAt {o : Oper} {a : Act} {w : World} {T : Act → World → Prop} (h : nAt P o a w fun u w' => T (a.put o.dst u) w') : o.wp P a w T Q := by
  unfold nAt at h
  unfold Oper.wp
  generalize (execOp a.eval o).run P w = r at *
  cases r with
  | ok n w' =>
    cases n <;> simp only [upTo] at h <;> simp only [Oper.upon]
    case value u => exact h
    case skip => exact h
    case enter f args => exact h.mono fun e w'' ⟨u, he, hu⟩ => by subst he; exact hu
  | halt x w' => simp only [upTo] at h
/-- The steps that an operation may make (the class of worlds S, what follows T; cl: operations that wait for all that was taken first). -/
def stepT (P : Program) (ops : Array Oper) (Q : Exit → Act → World → Prop) (cl : Nat → Bool) (T : Act → (World → Prop) → Prop) (j : Nat) (a : Act) (S : World → Prop) : Prop :=
  match ops[j]? with
  | none => T a S
  | some o =>
    if Region.wanted o (yielded ops a.tmps) then
      (∃ v, (∀ w, S w → (execOp a.eval o).run P w = .ok (.value v) w) ∧ T (a.put o.dst v) S) ∨
      (∃ v, (∀ w, S w → nAt P o a w fun u w' => u = v ∧ S w') ∧ T (a.put o.dst v) S) ∨
      ((idle o.op = false ∨ cl j = true) ∧ ∀ w, S w → wpOp P ops Q j (fun a' w' => ∃ S' : World → Prop, S' w' ∧ (cl j = false → ∀ w, S' w → S w) ∧ T a' S') a w)
    else T (a.put o.dst undef) S
def wpT (P : Program) (md : Region.Mode) (ops : Array Oper) (Q : Exit → Act → World → Prop) (cl : Nat → Bool) : Nat → Array Bool → Act → (World → Prop) → Prop
  | 0, listed, a, S => Region.ready md ops listed = [] ∧ ∀ w, S w → Q .normal a w
  | fuel + 1, listed, a, S =>
    (Region.ready md ops listed = [] → ∀ w, S w → Q .normal a w) ∧
    ∀ i ∈ Region.ready md ops listed, stepT P ops Q cl (wpT P md ops Q cl fuel (listed.setIfInBounds i true)) i a S
theorem stepT_mono {cl : Nat → Bool} {T T' : Act → (World → Prop) → Prop} {j : Nat} {a : Act} {S : World → Prop} (h : ∀ a S, T a S → T' a S) (hh : stepT P ops Q cl T j a S) : stepT P ops Q cl T' j a S := by
  unfold stepT at *
  split
  · rename_i ho; simp only [ho] at hh; exact h _ _ hh
  · rename_i o ho
    simp only [ho] at hh
    split
    · rename_i hw
      rw [if_pos hw] at hh
      rcases hh with ⟨v, h1, h2⟩ | ⟨v, h1, h2⟩ | ⟨hi, h1⟩
      · exact .inl ⟨v, h1, h _ _ h2⟩
      · exact .inr (.inl ⟨v, h1, h _ _ h2⟩)
      · exact .inr (.inr ⟨hi, fun w hw => wpOp_mono (fun a' w' ⟨S', a1, a2, a3⟩ => ⟨S', a1, a2, h _ _ a3⟩) (h1 w hw)⟩)
    · rename_i hw
      rw [if_neg hw] at hh
      exact h _ _ hh
theorem wpOp_of_stepT {cl : Nat → Bool} {T : Act → (World → Prop) → Prop} {T' : Act → World → Prop} {j : Nat} {a : Act} {S : World → Prop} {w : World} (h : ∀ a S w, S w → T a S → T' a w) (hS : S w) (hh : stepT P ops Q cl T j a S) : wpOp P ops Q j T' a w := by
  unfold stepT at hh
  cases ho : ops[j]? with
  | none => simp only [ho] at hh; simp only [wpOp, ho]; exact h _ _ _ hS hh
  | some o =>
    simp only [ho] at hh
    by_cases hw : Region.wanted o (yielded ops a.tmps) = true
    · rw [if_pos hw] at hh
      rcases hh with ⟨v, h1, h2⟩ | ⟨v, h1, h2⟩ | ⟨_, h1⟩
      · simp only [wpOp, ho, hw, if_true]; exact .inl (wp_of_nAt (by unfold nAt; rw [h1 w hS]; exact h _ _ _ hS h2))
      · simp only [wpOp, ho, hw, if_true]; exact .inl (wp_of_nAt (nAt_mono (fun u w' ⟨e, hS'⟩ => by subst e; exact h _ _ _ hS' h2) (h1 w hS)))
      · exact wpOp_mono (fun a' w' ⟨S', a1, _, a3⟩ => h _ _ _ a1 a3) (h1 w hS)
    · rw [if_neg hw] at hh
      simp only [wpOp, ho, hw]
      exact h _ _ _ hS hh
theorem wpAny_of_wpT {cl : Nat → Bool} : ∀ (fuel : Nat) (listed : Array Bool) (a : Act) (S : World → Prop) (w : World), S w → wpT P md ops Q cl fuel listed a S → wpAny P md ops Q fuel listed a w
  | 0, _, _, _, _, hS, h => ⟨h.1, h.2 _ hS⟩
  | fuel + 1, _, _, _, _, hS, h => ⟨fun h0 => h.1 h0 _ hS, fun i hi => wpOp_of_stepT (fun a S w hS hT => wpAny_of_wpT fuel _ a S w hS hT) hS (h.2 i hi)⟩
/-- What is taken first: L (c = false) or C (c = true). -/
def Y (P : Program) (ops : Array Oper) (c : Bool) (S : World → Prop) (o : Oper) (v : Value) (a : Act) : Prop :=
  (Region.wanted o (yielded ops a.tmps) = true ∧ ∀ w, S w → if c then nAt P o a w fun u w' => u = v ∧ S w' else (execOp a.eval o).run P w = .ok (.value v) w) ∨
  (Region.wanted o (yielded ops a.tmps) = false ∧ v = undef)
theorem Y.of_same {c : Bool} {S : World → Prop} {o : Oper} {v : Value} {a a' : Act} (hy : Y P ops c S o v a) (he : execOp a'.eval o = execOp a.eval o)
    (hw : Region.wanted o (yielded ops a'.tmps) = Region.wanted o (yielded ops a.tmps)) : Y P ops c S o v a' := by
  unfold Y nAt at *
  rw [he, hw]
  exact hy
theorem Y.step {cl : Nat → Bool} {c : Bool} {S : World → Prop} {i : Nat} {o : Oper} {v : Value} {a : Act} (hi : ops[i]? = some o) (hy : Y P ops c S o v a) {T : Act → (World → Prop) → Prop} (h : T (a.put o.dst v) S) : stepT P ops Q cl T i a S := by
  unfold stepT
  simp only [hi]
  rcases hy with ⟨hw, hv⟩ | ⟨hw, rfl⟩
  · rw [if_pos hw]
    cases c with
    | false => exact .inl ⟨v, fun w hS => by simpa using hv w hS, h⟩
    | true => exact .inr (.inl ⟨v, fun w hS => by simpa using hv w hS, h⟩)
  · rw [if_neg (by simp [hw])]; exact h
theorem Y.sub {S S' : World → Prop} {o : Oper} {v : Value} {a : Act} (h : ∀ w, S' w → S w) (hy : Y P ops false S o v a) : Y P ops false S' o v a :=
  hy.imp (fun ⟨h1, h2⟩ => ⟨h1, fun w hw => h2 w (h w hw)⟩) id
theorem Y.if {S : World → Prop} {o : Oper} {v : Value} {a : Act} (hy : Y P ops false S o v a) : YieldsIf P ops S o v a :=
  hy.imp (fun ⟨h1, h2⟩ => ⟨h1, fun w hw => by simpa using h2 w hw⟩) id
theorem Y.of_if {S : World → Prop} {o : Oper} {v : Value} {a : Act} (hy : YieldsIf P ops S o v a) : Y P ops false S o v a :=
  hy.imp (fun ⟨h1, h2⟩ => ⟨h1, fun w hw => by simpa using h2 w hw⟩) id
/-- That a panic is asked no temporary. -/
def Plain (Q : Exit → Act → World → Prop) : Prop := ∀ c a d v w, Q (.panic c) (Act.put a d v) w → Q (.panic c) a w
theorem stepT_put {cl : Nat → Bool} {c : Bool} {j : Nat} {oi oj : Oper} {v : Value} (hQ : Plain Q) (hj : ops[j]? = some oj) (hap : oi.apart ops oj = true) (hidle : c = true → idle oj.op = true) (hcl : cl j = false)
    (hsi : ∀ cs b, oi.op ≠ .select cs b) (hsj : ∀ cs b, oj.op ≠ .select cs b) {T : Act → (World → Prop) → Prop} {a : Act} {S : World → Prop}
    (hy : Y P ops c S oi v a) (h : stepT P ops Q cl T j (a.put oi.dst v) S) :
    stepT P ops Q cl (fun a' S' => Y P ops c S' oi v a' ∧ T (a'.put oi.dst v) S') j a S := by
  obtain ⟨h1, h2, h3⟩ := Oper.apart_spec hap
  have keep : ∀ (a : Act) (S : World → Prop), Y P ops c S oi v a → ∀ u, Y P ops c S oi v (a.put oj.dst u) := fun a S hy u =>
    hy.of_same (execOp_put oi hsi a oj.dst u h3) (wanted_put oi a oj.dst u h3)
  unfold stepT nAt at *
  simp only [hj] at h ⊢
  rw [wanted_put oj a oi.dst v h1] at h
  split
  · rename_i hw
    rw [if_pos hw] at h
    rw [execOp_put oj hsj a oi.dst v h1] at h
    rcases h with ⟨u, hu, hn⟩ | ⟨u, hu, hn⟩ | ⟨hi, hu⟩
    · exact .inl ⟨u, hu, keep a S hy u, by rw [← Act.put_comm a v u h2]; exact hn⟩
    · exact .inr (.inl ⟨u, hu, keep a S hy u, by rw [← Act.put_comm a v u h2]; exact hn⟩)
    · cases c with
      | true => rcases hi with hi | hi
                · rw [hidle rfl] at hi; cases hi
                · rw [hcl] at hi; cases hi
      | false =>
        refine .inr (.inr ⟨hi, fun w hS => ?_⟩)
        refine wpOp_mono (fun a' w' ⟨y', S', a1, a2, a3⟩ => ⟨S', a1, a2, (Y.of_if y').sub (a2 hcl), a3⟩) (wpOp_putIf hj hap hsi hsj (fun c a w h => hQ c a _ _ w h) hy.if (hu w hS))
  · rename_i hw
    rw [if_neg hw] at h
    exact ⟨keep a S hy _, by rw [← Act.put_comm a v undef h2]; exact h⟩
/-- The same for an operation that asks the world nothing: it may be drawn ahead of whatever writes, too. -/
theorem stepT_putP {cl : Nat → Bool} {j : Nat} {oi oj : Oper} {v : Value} (hQ : Plain Q) (hj : ops[j]? = some oj) (hap : oi.apart ops oj = true)
    (hsi : ∀ cs b, oi.op ≠ .select cs b) (hsj : ∀ cs b, oj.op ≠ .select cs b) {T : Act → (World → Prop) → Prop} {a : Act} {S : World → Prop}
    (hy : Y P ops false (fun _ => True) oi v a) (h : stepT P ops Q cl T j (a.put oi.dst v) S) :
    stepT P ops Q cl (fun a' S' => Y P ops false (fun _ => True) oi v a' ∧ T (a'.put oi.dst v) S') j a S := by
  obtain ⟨h1, h2, h3⟩ := Oper.apart_spec hap
  have keep : ∀ (a : Act), Y P ops false (fun _ => True) oi v a → ∀ u, Y P ops false (fun _ => True) oi v (a.put oj.dst u) := fun a hy u =>
    hy.of_same (execOp_put oi hsi a oj.dst u h3) (wanted_put oi a oj.dst u h3)
  unfold stepT nAt at *
  simp only [hj] at h ⊢
  rw [wanted_put oj a oi.dst v h1] at h
  split
  · rename_i hw
    rw [if_pos hw] at h
    rw [execOp_put oj hsj a oi.dst v h1] at h
    rcases h with ⟨u, hu, hn⟩ | ⟨u, hu, hn⟩ | ⟨hi, hu⟩
    · exact .inl ⟨u, hu, keep a hy u, by rw [← Act.put_comm a v u h2]; exact hn⟩
    · exact .inr (.inl ⟨u, hu, keep a hy u, by rw [← Act.put_comm a v u h2]; exact hn⟩)
    · refine .inr (.inr ⟨hi, fun w hS => ?_⟩)
      exact wpOp_mono (fun a' w' ⟨y', S', a1, a2, a3⟩ => ⟨S', a1, a2, Y.of_if y', a3⟩) (wpOp_putIf hj hap hsi hsj (fun c a w h => hQ c a _ _ w h) hy.if (hu w hS))
  · rename_i hw
    rw [if_neg hw] at h
    exact ⟨keep a hy _, by rw [← Act.put_comm a v undef h2]; exact h⟩
/-! Who waits for whom. -/
def closed (md : Region.Mode) (ops : Array Oper) (listed : Array Bool) : Prop := ∀ j o, ops[j]? = some o → listed.getD j false = true → ∀ e ∈ o.after, Region.binds md e = true → listed.getD e.on false = true
/-- Behind j stands i: told by bits, each operation's once. -/
def befs (md : Region.Mode) : List Oper → Array Nat → Array Nat
  | [], acc => acc
  | o :: l, acc => befs md l (acc.push (o.after.toList.foldl (fun s e => if Region.binds md e then s ||| 2 ^ e.on ||| acc.getD e.on 0 else s) 0))
inductive Anc (md : Region.Mode) (ops : Array Oper) : Nat → Nat → Prop where
  | one {j i : Nat} {o : Oper} {e : Edge} (ho : ops[j]? = some o) (he : e ∈ o.after) (hb : Region.binds md e = true) (hi : e.on = i) : Anc md ops j i
  | more {j i : Nat} {o : Oper} {e : Edge} (ho : ops[j]? = some o) (he : e ∈ o.after) (hb : Region.binds md e = true) (h : Anc md ops e.on i) : Anc md ops j i
theorem bits_fold {md : Region.Mode} {acc : Array Nat} {i : Nat} : ∀ (es : List Edge) (s : Nat), (es.foldl (fun s e => if Region.binds md e then s ||| 2 ^ e.on ||| acc.getD e.on 0 else s) s).testBit i = true →
    s.testBit i = true ∨ ∃ e ∈ es, Region.binds md e = true ∧ (e.on = i ∨ (acc.getD e.on 0).testBit i = true)
  | [], s, h => .inl h
  | e :: es, s, h => by
    rw [List.foldl_cons] at h
    rcases bits_fold es _ h with h1 | ⟨e', he', hb'⟩
    · by_cases hb : Region.binds md e = true
      · rw [if_pos hb, Nat.testBit_or, Nat.testBit_or, Bool.or_eq_true, Bool.or_eq_true] at h1
        rcases h1 with (h1 | h1) | h1
        · exact .inl h1
        · refine .inr ⟨e, List.mem_cons_self, hb, .inl ?_⟩
          rw [Nat.testBit_two_pow] at h1
          exact of_decide_eq_true h1
        · exact .inr ⟨e, List.mem_cons_self, hb, .inr h1⟩
      · rw [if_neg hb] at h1; exact .inl h1
    · exact .inr ⟨e', List.mem_cons_of_mem _ he', hb'⟩
theorem befs_anc : ∀ (l : List Oper) (acc : Array Nat), (∀ j, l[j]? = ops[acc.size + j]?) → (∀ j i, (acc.getD j 0).testBit i = true → Anc md ops j i) → ∀ j i, ((befs md l acc).getD j 0).testBit i = true → Anc md ops j i
  | [], _, _, h, j, i, hj => h j i hj
  | o :: l, acc, hl, h, j, i, hj => by
    refine befs_anc l _ (fun j => ?_) ?_ j i hj
    · have := hl (j + 1)
      rw [List.getElem?_cons_succ] at this
      rw [this, Array.size_push]
      congr 1
      omega
    · intro j i hj
      rcases Nat.lt_trichotomy j acc.size with h1 | h1 | h1
      · refine h j i ?_
        simpa [Array.getElem?_push, Nat.ne_of_lt h1] using hj
      · subst h1
        have h0 : ops[acc.size]? = some o := by simpa using (hl 0).symm
        simp only [Array.getD_eq_getD_getElem?, Array.getElem?_push, if_pos, Option.getD_some] at hj
        have hz : (0 : Nat).testBit i = false := by simp
        rcases bits_fold (acc := acc) o.after.toList 0 (by simpa using hj) with h2 | ⟨e, he, hb, h2⟩
        · rw [hz] at h2; cases h2
        · have he' : e ∈ o.after := Array.mem_toList_iff.1 he
          rcases h2 with h2 | h2
          · exact .one h0 he' hb h2
          · exact .more h0 he' hb (h _ _ h2)
      · have hlen : ¬ j < (acc.push (o.after.toList.foldl (fun s e => if Region.binds md e then s ||| 2 ^ e.on ||| acc.getD e.on 0 else s) 0)).size := by rw [Array.size_push]; omega
        rw [Array.getD_eq_getD_getElem?, Array.getElem?_eq_none (Nat.not_lt.1 hlen)] at hj
        simp at hj
def reach (md : Region.Mode) (ops : Array Oper) (j i : Nat) : Bool := ((befs md ops.toList #[]).getD j 0).testBit i
theorem reach_anc {j i : Nat} (h : reach md ops j i = true) : Anc md ops j i := befs_anc ops.toList #[] (fun j => by simp) (fun j i h => by simp at h) j i h
theorem closed.set {listed : Array Bool} {i : Nat} (h : closed md ops listed) (hr : i ∈ Region.ready md ops listed) : closed md ops (listed.setIfInBounds i true) := by
  intro j o ho hl e he hb
  obtain ⟨_, oi, hoi, hall⟩ := mem_ready.1 hr
  by_cases hji : j = i
  · subst hji
    rw [hoi] at ho
    injection ho with ho
    subst ho
    exact getD_set_true (hall e he hb)
  · refine getD_set_true (h j o ho ?_ e he hb)
    rw [getD_set_ne false (Ne.symm hji)] at hl
    exact hl
theorem closed.start (n : Nat) : closed md ops (Array.replicate n false) := by
  intro j o _ hl
  rcases Nat.lt_or_ge j n with h | h
  · simp [h] at hl
  · simp [Nat.not_lt.2 h] at hl
theorem closed.anc {listed : Array Bool} (h : closed md ops listed) {j i : Nat} (ha : Anc md ops j i) : ∀ (o : Oper), ops[j]? = some o → (∀ e ∈ o.after, Region.binds md e = true → listed.getD e.on false = true) → listed.getD i false = true := by
  induction ha with
  | one ho he hb hi =>
    intro o ho' hall
    rw [ho] at ho'
    injection ho' with ho'
    subst ho'
    exact hi ▸ hall _ he hb
  | @more j i o e ho he hb ha ih =>
    intro o' ho' hall
    rw [ho] at ho'
    injection ho' with ho'
    subst ho'
    have hl := hall e he hb
    cases hoe : ops[e.on]? with
    | none => cases ha with | one h1 => rw [hoe] at h1; cases h1 | more h1 => rw [hoe] at h1; cases h1
    | some oe => exact ih oe hoe (fun e' he' hb' => h e.on oe hoe hl e' he' hb')
theorem closed.reach {listed : Array Bool} (h : closed md ops listed) {i j : Nat} {o : Oper} (ho : ops[j]? = some o) (hall : ∀ e ∈ o.after, Region.binds md e = true → listed.getD e.on false = true) (hr : reach md ops j i = true) : listed.getD i false = true := h.anc (reach_anc hr) o ho hall
theorem wpT_first {cl : Nat → Bool} {c : Bool} {i : Nat} {oi : Oper} {v : Value} (hQ : Plain Q) (hi : ops[i]? = some oi) (hsel : ∀ (j : Nat) (o : Oper) cs b, ops[j]? = some o → o.op ≠ .select cs b) (hcl : ∀ j, cl j = true → reach md ops j i = true) :
    ∀ (fuel : Nat) (listed : Array Bool) (a : Act) (S : World → Prop), closed md ops listed →
      (∀ j oj, ops[j]? = some oj → j ≠ i → listed.getD j true = false → reach md ops j i = false → oi.apart ops oj = true ∧ (c = true → idle oj.op = true)) →
      i ∈ Region.ready md ops listed → Y P ops c S oi v a →
      wpT P md ops Q cl fuel (listed.setIfInBounds i true) (a.put oi.dst v) S → wpT P md ops Q cl (fuel + 1) listed a S := by
  intro fuel
  induction fuel with
  | zero =>
    intro listed a S _ _ hr hy H
    refine ⟨fun h => (by rw [h] at hr; cases hr), fun j hj => ?_⟩
    by_cases hji : j = i
    · subst hji; exact hy.step hi H
    · have := ready_mono hj hji
      rw [H.1] at this
      cases this
  | succ fuel ih =>
    intro listed a S hclosed hfree hr hy H
    refine ⟨fun h => (by rw [h] at hr; cases hr), fun j hj => ?_⟩
    by_cases hji : j = i
    · subst hji; exact hy.step hi H
    · have h1 := H.2 j (ready_mono hj hji)
      obtain ⟨hjun, oj, hoj, hall⟩ := mem_ready.1 hj
      have hif : listed.getD i false = false := by
        have h0 := (mem_ready.1 hr).1
        rcases Nat.lt_or_ge i listed.size with h' | h'
        · simp [h'] at h0 ⊢; exact h0
        · simp [Array.getElem?_eq_none h']
      have hnot : reach md ops j i = false := by
        cases hc : reach md ops j i with
        | false => rfl
        | true =>
          have := closed.reach hclosed hoj hall hc
          rw [hif] at this
          cases this
      have hclj : cl j = false := by
        cases hc : cl j with
        | false => rfl
        | true =>
          have := closed.reach hclosed hoj hall (hcl j hc)
          rw [hif] at this
          cases this
      have hfj := hfree j oj hoj hji hjun hnot
      have h2 := stepT_put hQ hoj hfj.1 hfj.2 hclj (fun cs b => hsel i oi cs b hi) (fun cs b => hsel j oj cs b hoj) hy h1
      have hfree' : ∀ k ok, ops[k]? = some ok → k ≠ i → (listed.setIfInBounds j true).getD k true = false →
          reach md ops k i = false → oi.apart ops ok = true ∧ (c = true → idle ok.op = true) := fun k ok hk hki hun hno => by
        refine hfree k ok hk hki ?_ hno
        by_cases hjk : j = k
        · subst hjk; exact hjun
        · rw [getD_set_ne true hjk] at hun; exact hun
      refine stepT_mono (fun a' S' h3 => ih (listed.setIfInBounds j true) a' S' (hclosed.set hj) hfree' (ready_mono hr (Ne.symm hji)) h3.1 ?_) h2
      rw [Array.setIfInBounds_comm _ _ hji]
      exact h3.2
theorem wpT_firstP {cl : Nat → Bool} {i : Nat} {oi : Oper} {v : Value} (hQ : Plain Q) (hi : ops[i]? = some oi) (hsel : ∀ (j : Nat) (o : Oper) cs b, ops[j]? = some o → o.op ≠ .select cs b) :
    ∀ (fuel : Nat) (listed : Array Bool) (a : Act) (S : World → Prop), closed md ops listed →
      (∀ j oj, ops[j]? = some oj → j ≠ i → listed.getD j true = false → reach md ops j i = false → oi.apart ops oj = true) →
      i ∈ Region.ready md ops listed → Y P ops false (fun _ => True) oi v a →
      wpT P md ops Q cl fuel (listed.setIfInBounds i true) (a.put oi.dst v) S → wpT P md ops Q cl (fuel + 1) listed a S := by
  intro fuel
  induction fuel with
  | zero =>
    intro listed a S _ _ hr hy H
    refine ⟨fun h => (by rw [h] at hr; cases hr), fun j hj => ?_⟩
    by_cases hji : j = i
    · subst hji; exact (hy.sub (S' := S) (fun _ _ => trivial)).step hi H
    · have := ready_mono hj hji
      rw [H.1] at this
      cases this
  | succ fuel ih =>
    intro listed a S hclosed hfree hr hy H
    refine ⟨fun h => (by rw [h] at hr; cases hr), fun j hj => ?_⟩
    by_cases hji : j = i
    · subst hji; exact (hy.sub (S' := S) (fun _ _ => trivial)).step hi H
    · have h1 := H.2 j (ready_mono hj hji)
      obtain ⟨hjun, oj, hoj, hall⟩ := mem_ready.1 hj
      have hif : listed.getD i false = false := by
        have h0 := (mem_ready.1 hr).1
        rcases Nat.lt_or_ge i listed.size with h' | h'
        · simp [h'] at h0 ⊢; exact h0
        · simp [Array.getElem?_eq_none h']
      have hnot : reach md ops j i = false := by
        cases hc : reach md ops j i with
        | false => rfl
        | true =>
          have := closed.reach hclosed hoj hall hc
          rw [hif] at this
          cases this
      have h2 := stepT_putP hQ hoj (hfree j oj hoj hji hjun hnot) (fun cs b => hsel i oi cs b hi) (fun cs b => hsel j oj cs b hoj) hy h1
      have hfree' : ∀ k ok, ops[k]? = some ok → k ≠ i → (listed.setIfInBounds j true).getD k true = false →
          reach md ops k i = false → oi.apart ops ok = true := fun k ok hk hki hun hno => by
        refine hfree k ok hk hki ?_ hno
        by_cases hjk : j = k
        · subst hjk; exact hjun
        · rw [getD_set_ne true hjk] at hun; exact hun
      refine stepT_mono (fun a' S' h3 => ih (listed.setIfInBounds j true) a' S' (hclosed.set hj) hfree' (ready_mono hr (Ne.symm hji)) h3.1 ?_) h2
      rw [Array.setIfInBounds_comm _ _ hji]
      exact h3.2
/-! The prover's order, checked by a Bool. -/
def freeC (md : Region.Mode) (ops : Array Oper) (c : Bool) (listed : Array Bool) (i : Nat) : Bool :=
  match ops[i]? with
  | none => false
  | some oi => (List.range ops.size).all fun j => j == i || listed.getD j true || match ops[j]? with
      | some oj => reach md ops j i || (oi.apart ops oj && (!c || idle oj.op))
      | none => true
theorem freeC_spec {c : Bool} {i : Nat} {oi : Oper} {listed : Array Bool} (hi : ops[i]? = some oi) (h : freeC md ops c listed i = true) (j : Nat) (oj : Oper)
    (hj : ops[j]? = some oj) (hne : j ≠ i) (hun : listed.getD j true = false) (hno : reach md ops j i = false) : oi.apart ops oj = true ∧ (c = true → idle oj.op = true) := by
  simp only [freeC, hi, List.all_eq_true, List.mem_range] at h
  have h1 := h j (Array.getElem?_eq_some_iff.1 hj).1
  simp only [hj, Bool.or_eq_true, beq_iff_eq, hne, false_or, hun, hno, Bool.false_eq_true, Bool.and_eq_true, Bool.not_eq_true'] at h1
  exact ⟨h1.1, fun hc => h1.2.resolve_left (by simp [hc])⟩
def busy (ops : Array Oper) (i : Nat) : Bool := match ops[i]? with | some o => !idle o.op | none => false
def chkTail (md : Region.Mode) (ops : Array Oper) : List Nat → Array Bool → Bool
  | [], listed => Region.ready md ops listed == []
  | i :: l, listed => Region.ready md ops listed == [i] && (ops[i]?).isSome && chkTail md ops l (listed.setIfInBounds i true)
def chk (md : Region.Mode) (ops : Array Oper) (tail : List Nat) : List (Nat × K) → Array Bool → Bool
  | [], listed => chkTail md ops tail listed
  | (i, k) :: l, listed =>
    (match k with
      | .L => (Region.ready md ops listed).contains i && freeC md ops false listed i && tail.all fun j => reach md ops j i
      | .C => (Region.ready md ops listed).contains i && freeC md ops true listed i && tail.all fun j => reach md ops j i
      | .N => Region.ready md ops listed == [i] && busy ops i && !tail.contains i
      | .P => (Region.ready md ops listed).contains i && freeC md ops false listed i)
    && chk md ops tail l (listed.setIfInBounds i true)
/-- The worlds that go on from W. -/
abbrev On (W w : World) : Prop := Below W.heap.size W w
def wpOrd (P : Program) (ops : Array Oper) (Q : Exit → Act → World → Prop) (tail : List Nat) : List (Nat × K) → Act → World → Prop
  | [], a, W => ∀ w, On W w → wpList P ops Q (tail.filterMap fun i => ops[i]?) a w
  | (i, k) :: l, a, W =>
    match ops[i]? with
    | none => False
    | some o =>
      if Region.wanted o (yielded ops a.tmps) then
        (match k with
          | .L => ∃ v, (∀ w, On W w → (execOp a.eval o).run P w = .ok (.value v) w) ∧ wpOrd P ops Q tail l (a.put o.dst v) W
          | .C => ∃ v, (∀ w, On W w → nAt P o a w fun u w' => u = v ∧ On W w') ∧ wpOrd P ops Q tail l (a.put o.dst v) W
          | .N => ∀ w, On W w → wpList P ops (Exit.then (fun a' w' => On W w' ∧ wpOrd P ops Q tail l a' w') Q) [o] a w
          | .P => ∃ v, (∀ w, (execOp a.eval o).run P w = .ok (.value v) w) ∧ wpOrd P ops Q tail l (a.put o.dst v) W)
      else wpOrd P ops Q tail l (a.put o.dst undef) W
theorem wpOp_of_one {i : Nat} {o : Oper} {T : Act → World → Prop} {a : Act} {w : World} (hi : ops[i]? = some o) (h : wpList P ops (Exit.then T Q) [o] a w) (hl : LetsOut (Exit.then T Q) → LetsOut Q := by exact id) : wpOp P ops Q i T a w := by
  simp only [wpList] at h
  unfold wpOp
  simp only [hi]
  split
  · rename_i hw
    rw [if_pos hw] at h
    rcases h with h | ⟨h1, h2⟩
    · refine .inl ?_
      unfold Oper.wp at *
      generalize (execOp a.eval o).run P w = r at *
      cases r with
      | ok n w' =>
        cases n <;> simp only [Oper.upon] at h ⊢ <;>
          first
            | exact h
            | exact h.mono (fun e w'' he => by cases e <;> first | exact he | exact hl he)
      | halt x w' => cases x <;> simp only [Oper.upon] at h ⊢ <;> exact h
    · exact .inr ⟨h1, hl h2⟩
  · rename_i hw
    rw [if_neg hw] at h
    exact h
theorem wpT_of_tail {cl : Nat → Bool} : ∀ (l : List Nat) (listed : Array Bool) (a : Act) (S : World → Prop), (∀ i ∈ l, cl i = true) → chkTail md ops l listed = true → (∀ w, S w → wpList P ops Q (l.filterMap fun i => ops[i]?) a w) → wpT P md ops Q cl l.length listed a S
  | [], listed, a, S, _, hc, h => ⟨by simpa [chkTail] using hc, h⟩
  | i :: l, listed, a, S, hcl, hc, h => by
    simp only [chkTail, Bool.and_eq_true, beq_iff_eq] at hc
    obtain ⟨⟨hr, hbusy⟩, hl⟩ := hc
    cases hi : ops[i]? with
    | none => simp [hi] at hbusy
    | some o =>
      rw [List.length_cons]
      refine ⟨fun h0 => (by rw [hr] at h0; cases h0), fun j hj => ?_⟩
      rw [hr] at hj
      obtain rfl := List.mem_singleton.1 hj
      have ih := fun a S h => wpT_of_tail l (listed.setIfInBounds j true) a S (fun k hk => hcl k (List.mem_cons_of_mem _ hk)) hl h
      have hlist : ∀ w, S w → wpOp P ops Q j (wpList P ops Q (l.filterMap fun i => ops[i]?)) a w := fun w hS => by
        have h1 := h w hS
        simp only [List.filterMap_cons, hi] at h1
        unfold wpOp
        simp only [hi]
        unfold wpList at h1
        exact h1
      unfold stepT
      simp only [hi]
      split
      · exact .inr (.inr ⟨.inr (hcl j List.mem_cons_self), fun w hS => wpOp_mono (fun a' w' hh => ⟨fun w => w = w', rfl, fun h0 => (by rw [hcl j List.mem_cons_self] at h0; cases h0), ih a' _ (fun w e => by subst e; exact hh)⟩) (hlist w hS)⟩)
      · rename_i hw
        refine ih _ _ fun w hS => ?_
        have h1 := hlist w hS
        unfold wpOp at h1
        simp only [hi] at h1
        rw [if_neg hw] at h1
        exact h1
theorem wpT_of_ord (hs : Region.noSelect ops = true) (hQ : Plain Q) (tail : List Nat) : ∀ (l : List (Nat × K)) (listed : Array Bool) (a : Act) (W : World), closed md ops listed → chk md ops tail l listed = true → wpOrd P ops Q tail l a W → wpT P md ops Q (fun j => tail.contains j) (l.length + tail.length) listed a (On W)
  | [], listed, a, W, _, hc, h => by
    rw [List.length_nil, Nat.zero_add]
    exact wpT_of_tail tail listed a _ (fun i hi => by simpa using hi) hc h
  | (i, k) :: l, listed, a, W, hclosed, hc, h => by
    simp only [chk, Bool.and_eq_true] at hc
    obtain ⟨hk, hl⟩ := hc
    simp only [wpOrd] at h
    cases hi : ops[i]? with
    | none => simp only [hi] at h
    | some o =>
      simp only [hi] at h
      have hri : i ∈ Region.ready md ops listed := by
        cases k <;> simp only [Bool.and_eq_true, beq_iff_eq] at hk
        · simpa using hk.1.1
        · simpa using hk.1.1
        · rw [hk.1.1]; exact List.mem_singleton.2 rfl
        · simpa using hk.1
      have ih := fun a W h => wpT_of_ord hs hQ tail l (listed.setIfInBounds i true) a W (hclosed.set hri) hl h
      have sel := Region.noSelect_spec hs
      have hlen : (((i, k) :: l).length + tail.length) = (l.length + tail.length) + 1 := by rw [List.length_cons]; omega
      rw [hlen]
      have hreach : k ≠ .N → k ≠ .P → ∀ j, (tail.contains j) = true → reach md ops j i = true := by
        intro hkn hkp j hj
        have hj' : j ∈ tail := by simpa using hj
        cases k <;> simp only [Bool.and_eq_true, List.all_eq_true] at hk
        · exact hk.2 j hj'
        · exact hk.2 j hj'
        · exact absurd rfl hkn
        · exact absurd rfl hkp
      by_cases hw : Region.wanted o (yielded ops a.tmps) = true
      · rw [if_pos hw] at h
        cases k with
        | L =>
          simp only [Bool.and_eq_true] at hk
          obtain ⟨v, h1, h2⟩ := h
          exact wpT_first (c := false) hQ hi sel (hreach (by simp) (by simp)) _ listed a _ hclosed (fun j oj hj hne hun hno => freeC_spec hi hk.1.2 j oj hj hne hun hno) hri (.inl ⟨hw, fun w hS => by simpa using h1 w hS⟩) (ih _ _ h2)
        | C =>
          simp only [Bool.and_eq_true] at hk
          obtain ⟨v, h1, h2⟩ := h
          exact wpT_first (c := true) hQ hi sel (hreach (by simp) (by simp)) _ listed a _ hclosed (fun j oj hj hne hun hno => freeC_spec hi hk.1.2 j oj hj hne hun hno) hri (.inl ⟨hw, fun w hS => by simpa using h1 w hS⟩) (ih _ _ h2)
        | N =>
          simp only [Bool.and_eq_true, beq_iff_eq, busy, hi, Bool.not_eq_true'] at hk
          refine ⟨fun h0 => (by rw [hk.1.1] at h0; cases h0), fun j hj => ?_⟩
          rw [hk.1.1] at hj
          obtain rfl := List.mem_singleton.1 hj
          unfold stepT
          simp only [hi]
          rw [if_pos hw]
          exact .inr (.inr ⟨.inl hk.1.2, fun w hS => wpOp_mono (fun a' w' ⟨hon, hh⟩ => ⟨On w', Below.refl _ _, fun _ w'' hw'' => hon.trans (hw''.mono hon.size), ih _ _ hh⟩) (wpOp_of_one hi (h w hS))⟩)
        | P =>
          simp only [Bool.and_eq_true] at hk
          obtain ⟨v, h1, h2⟩ := h
          exact wpT_firstP hQ hi sel _ listed a _ hclosed (fun j oj hj hne hun hno => (freeC_spec hi hk.2 j oj hj hne hun hno).1) hri (.inl ⟨hw, fun w _ => by simpa using h1 w⟩) (ih _ _ h2)
      · rw [if_neg hw] at h
        have hw' : Region.wanted o (yielded ops a.tmps) = false := by simpa using hw
        cases k with
        | P =>
          simp only [Bool.and_eq_true] at hk
          exact wpT_firstP hQ hi sel _ listed a _ hclosed (fun j oj hj hne hun hno => (freeC_spec hi hk.2 j oj hj hne hun hno).1) hri (.inr ⟨hw', rfl⟩) (ih _ _ h)
        | L =>
          simp only [Bool.and_eq_true] at hk
          exact wpT_first (c := false) hQ hi sel (hreach (by simp) (by simp)) _ listed a _ hclosed (fun j oj hj hne hun hno => ⟨(freeC_spec hi hk.1.2 j oj hj hne hun hno).1, fun h => by cases h⟩) hri (.inr ⟨hw', rfl⟩) (ih _ _ h)
        | C =>
          simp only [Bool.and_eq_true] at hk
          exact wpT_first (c := false) hQ hi sel (hreach (by simp) (by simp)) _ listed a _ hclosed (fun j oj hj hne hun hno => ⟨(freeC_spec hi hk.1.2 j oj hj hne hun hno).1, fun h => by cases h⟩) hri (.inr ⟨hw', rfl⟩) (ih _ _ h)
        | N =>
          simp only [Bool.and_eq_true, beq_iff_eq, busy, hi, Bool.not_eq_true'] at hk
          refine ⟨fun h0 => (by rw [hk.1.1] at h0; cases h0), fun j hj => ?_⟩
          rw [hk.1.1] at hj
          obtain rfl := List.mem_singleton.1 hj
          unfold stepT
          simp only [hi]
          rw [if_neg hw]
          exact ih _ _ h
/-- The same, shut (so that nobody lays it open unasked). -/
structure Ord (P : Program) (ops : Array Oper) (Q : Exit → Act → World → Prop) (tail : List Nat) (l : List (Nat × K)) (a : Act) (W : World) : Prop where mk :: (out : wpOrd P ops Q tail l a W)
/-- The rule: a region that draws its order, its operations taken in the order l, then the tail. -/
theorem region {id : Nat} {a : Act} {w : World} (l : List (Nat × K)) (tail : List Nat) (hm : P.follows .mixedOrders = true) (hc : (Region.noSelect ops && (l.length + tail.length == ops.size) && chk .any ops tail l (Array.replicate ops.size false)) = true)
    (h : Ord P ops Q tail l a w) (hQ : Plain Q := by exact fun c a d v w h => by cases d <;> exact h) : (Code.region id ops true).wp P Q a w := by
  simp only [Bool.and_eq_true, beq_iff_eq] at hc
  refine wp_region_any hm (wpAny_of_wpT (cl := fun j => tail.contains j) _ _ _ (On w) _ (below_drew' w) ?_)
  rw [← hc.1.2]
  exact wpT_of_ord hc.1.1 hQ tail l _ a w (closed.start _) (by rw [hc.1.2]; exact hc.2) h.out
where
  below_drew' (w : World) : On w { w with drawn := w.drawn + 1 } := Below.drew (Below.refl _ _)
/-! The moves. -/
section
variable {i : Nat} {tail : List Nat} {l : List (Nat × K)} {a : Act} {W : World} {o : Oper} {N : Tmp}
theorem nil (h : ∀ w, On W w → Q .normal a w) : Ord P ops Q [] [] a W := ⟨h⟩
theorem stepL {v : Value} (hy : ∀ w, On W w → (execOp a.eval o).run P w = .ok (.value v) w) (h : Ord P ops Q tail l (a.put (some N) v) W) (hi : ops[i]? = some o) (hN : o.dst = some N)
    (hw : Region.wanted o (yielded ops a.tmps) = true) : Ord P ops Q tail ((i, .L) :: l) a W := by
  refine ⟨?_⟩
  simp only [wpOrd, hi]
  rw [if_pos hw]
  exact ⟨v, hy, hN ▸ h.out⟩
theorem stepP {v : Value} (hy : ∀ w, (execOp a.eval o).run P w = .ok (.value v) w) (h : Ord P ops Q tail l (a.put (some N) v) W) (hi : ops[i]? = some o) (hN : o.dst = some N)
    (hw : Region.wanted o (yielded ops a.tmps) = true) : Ord P ops Q tail ((i, .P) :: l) a W := by
  refine ⟨?_⟩
  simp only [wpOrd, hi]
  rw [if_pos hw]
  exact ⟨v, hy, hN ▸ h.out⟩
theorem stepC {v : Value} (hy : ∀ w, On W w → nAt P o a w fun u w' => u = v ∧ On W w') (h : Ord P ops Q tail l (a.put (some N) v) W) (hi : ops[i]? = some o) (hN : o.dst = some N)
    (hw : Region.wanted o (yielded ops a.tmps) = true) : Ord P ops Q tail ((i, .C) :: l) a W := by
  refine ⟨?_⟩
  simp only [wpOrd, hi]
  rw [if_pos hw]
  exact ⟨v, hy, hN ▸ h.out⟩
theorem wpList_mono_normal {os : List Oper} {T T' : Act → World → Prop} (hT : ∀ a w, T a w → T' a w) : ∀ {a : Act} {w : World}, wpList P ops (Exit.then T Q) os a w → wpList P ops (Exit.then T' Q) os a w := by
  induction os with
  | nil => intro a w h; exact hT _ _ h
  | cons o os ih =>
    intro a w h
    unfold wpList at h ⊢
    split
    · rename_i hw
      rw [if_pos hw] at h
      rcases h with h | ⟨h1, h2⟩
      · refine .inl ?_
        unfold Oper.wp at *
        generalize (execOp a.eval o).run P w = r at *
        cases r with
        | ok n w' =>
          cases n <;> simp only [Oper.upon] at h ⊢ <;>
            first
              | exact ih h
              | exact h.mono (fun e w'' he => by cases e <;> first | exact ih he | exact he)
              | exact Rows.mono h (fun _ _ he => ih he)
        | halt x w' => cases x <;> simp only [Oper.upon] at h ⊢ <;> exact h
      · exact .inr ⟨h1, h2⟩
    · rename_i hw
      rw [if_neg hw] at h
      exact ih h
theorem stepN (h : ∀ w, On W w → wpList P ops (Exit.then (fun a' w' => On W w' ∧ Ord P ops Q tail l a' w') Q) [o] a w) (hi : ops[i]? = some o)
    (hw : Region.wanted o (yielded ops a.tmps) = true) : Ord P ops Q tail ((i, .N) :: l) a W := by
  refine ⟨?_⟩
  simp only [wpOrd, hi]
  rw [if_pos hw]
  exact fun w hS => wpList_mono_normal (fun a w ⟨h1, h2⟩ => ⟨h1, h2.out⟩) (h w hS)
theorem skip {k : K} (h : Ord P ops Q tail l (a.put (some N) undef) W) (hi : ops[i]? = some o) (hN : o.dst = some N) (hw : Region.wanted o (yielded ops a.tmps) = false) : Ord P ops Q tail ((i, k) :: l) a W := by
  refine ⟨?_⟩
  simp only [wpOrd, hi]
  rw [if_neg (by simp [hw]), hN]
  exact h.out
theorem tail_ {os : List Oper} (h : ∀ w, On W w → wpList P ops Q os a w) (hos : (tail.filterMap fun i => ops[i]?) = os := by simp only [List.filterMap_cons, List.filterMap_nil, List.getElem?_toArray, List.getElem?_cons_zero, List.getElem?_cons_succ]; rfl) : Ord P ops Q tail [] a W := by
  subst hos
  exact ⟨h⟩
end
end Go.Proofs.YtgemaohdlibboaaGreatDoor.Reg
/- Words of these proofs: reading of relations and facts, worlds that go on, calls inside a region that draws. No condition. -/
namespace Go.Proofs.YtgemaohdlibboaaGreatDoor.Reg
open Go Go.RowKit Go.Proofs.YtgemaohdlibboaaGreatDoorW.PrintWords
theorem On.refl (W : World) : On W W := Below.refl _ _
theorem On.trans {a b c : World} (h : On a b) (k : On b c) : On a c := below_then h h.size k
theorem On.eq {W w : World} (h : On W w) : ∀ p, (W.cell? p).isSome = true → w.cell? p = W.cell? p := fun p hp => by
  obtain ⟨v, hv⟩ := Option.isSome_iff_exists.1 hp
  exact h.cell (World.block_lt_of_cell? W p hv)
theorem On.drew {W w : World} (h : On W w) : On W { w with drawn := w.drawn + 1 } := below_drew h
theorem On.alloc {W w : World} (h : On W w) (o : Obj) : On W (w.alloc o) := below_alloc h o
theorem on_draw (W : World) : On W { W with drawn := W.drawn + 1 } := On.drew (On.refl W)
end Go.Proofs.YtgemaohdlibboaaGreatDoor.Reg
namespace Go.Proofs.YtgemaohdlibboaaGreatDoor.H
open Go Go.RowKit Go.Proofs.YtgemaohdlibboaaGreatDoorW.PrintWords Go.Proofs.YtgemaohdlibboaaGreatDoorW.PrintLast
open Go.Proofs.YtgemaohdlibboaaGreatDoor.Reg (On on_draw)
set_option linter.unusedVariables false

abbrev Rel := ByteArray × Int × Bool
abbrev Fct := Int × List Int
abbrev kInts : Kd Int := Kd.int .i64
abbrev kRel : Kd Rel := Kd.pair Kd.string (Kd.pair (Kd.int .i64) Kd.bool)
abbrev kFct : Kd Fct := Kd.pair (Kd.int .i64) (Kd.slice 3 (Kd.int .i64))


/-- Numbers of int's range. -/
def InR (xs : List Int) : Prop := ∀ x ∈ xs, -9223372036854775808 ≤ x ∧ x ≤ 9223372036854775807
def InF (fs : List Fct) : Prop := ∀ f ∈ fs, InR f.2
abbrev Ints (w : World) (A : Option Addr) (c : Nat) (xs : List Int) : Prop := xs.length ≤ c ∧ kInts.C w A xs.length xs ∧ InR xs
abbrev Rels (w : World) (A : Option Addr) (c : Nat) (xs : List Rel) : Prop := xs.length ≤ c ∧ kRel.C w A xs.length xs
abbrev Fcts (w : World) (A : Option Addr) (c : Nat) (xs : List Fct) : Prop := xs.length ≤ c ∧ kFct.C w A xs.length xs ∧ InF xs
theorem Ints.on {W w : World} {A : Option Addr} {c : Nat} {xs : List Int} (h : Ints W A c xs) (hb : On W w) : Ints w A c xs := ⟨h.1, Kd.C_below h.2.1 hb, h.2.2⟩
theorem Rels.on {W w : World} {A : Option Addr} {c : Nat} {xs : List Rel} (h : Rels W A c xs) (hb : On W w) : Rels w A c xs := ⟨h.1, Kd.C_below h.2 hb⟩
theorem Fcts.on {W w : World} {A : Option Addr} {c : Nat} {xs : List Fct} (h : Fcts W A c xs) (hb : On W w) : Fcts w A c xs := ⟨h.1, Kd.C_below h.2.1 hb, h.2.2⟩
theorem Ints.max {w : World} {A : Option Addr} {c : Nat} {xs : List Int} (h : Ints w A c xs) : xs.length ≤ 9223372036854775807 := h.2.1.2.1
theorem Rels.max {w : World} {A : Option Addr} {c : Nat} {xs : List Rel} (h : Rels w A c xs) : xs.length ≤ 9223372036854775807 := h.2.2.1
theorem Fcts.max {w : World} {A : Option Addr} {c : Nat} {xs : List Fct} (h : Fcts w A c xs) : xs.length ≤ 9223372036854775807 := h.2.1.2.1
theorem Ints.bd {w : World} {A : Option Addr} {c : Nat} {xs : List Int} (h : Ints w A c xs) (i : Nat) (hi : i < xs.length) : -9223372036854775808 ≤ xs[i] ∧ xs[i] ≤ 9223372036854775807 := h.2.2 _ (List.getElem_mem hi)
theorem Ints.at {w : World} {A : Option Addr} {c : Nat} {xs : List Int} (h : Ints w A c xs) (i : Nat) (hi : i < xs.length) : ∃ ad, A = some ad ∧ w.cell? (ad.add i) = some (.int .i64 xs[i]) := by
  obtain ⟨ad, e, hc⟩ := Kd.at_int h.2.1 (i : Int) (by omega) (by omega)
  refine ⟨ad, e, ?_⟩
  simpa [rd, List.getD_eq_getElem?_getD, hi] using hc
theorem Rels.at {w : World} {A : Option Addr} {c : Nat} {xs : List Rel} (h : Rels w A c xs) (i : Nat) (hi : i < xs.length) : ∃ ad, A = some ad ∧ w.cell? (ad.add (i * 3)) = some (.string xs[i].1) ∧ w.cell? ⟨(ad.add (i * 3)).block, (ad.add (i * 3)).off + 1, none⟩ = some (.int .i64 xs[i].2.1) ∧ w.cell? ⟨(ad.add (i * 3)).block, (ad.add (i * 3)).off + 2, none⟩ = some (.bool xs[i].2.2) := by
  obtain ⟨ad, cs, e, _, hK, hc0⟩ := Kd.C_get h.2 xs[i] (i : Int) (by omega) (by omega)
  have hc : ∀ j u, cs[j]? = some u → w.cell? (ad.add (i * 3 + j)) = some u := hc0
  have e1 : xs.getD (i : Int).toNat xs[i] = xs[i] := by simp [List.getD_eq_getElem?_getD, hi]
  rw [e1] at hK
  obtain ⟨_, _, rfl, rfl, ⟨_, _, rfl, rfl, rfl⟩⟩ := hK
  exact ⟨ad, e, hc 0 _ rfl, by rw [← add_field _ _ 1 (by omega)]; exact hc 1 _ rfl, by rw [← add_field _ _ 2 (by omega)]; exact hc 2 _ rfl⟩
theorem Fcts.at {w : World} {A : Option Addr} {c : Nat} {xs : List Fct} (h : Fcts w A c xs) (i : Nat) (hi : i < xs.length) : ∃ ad A1 c1, A = some ad ∧ w.cell? (ad.add (i * 2)) = some (.int .i64 xs[i].1) ∧ w.cell? ⟨(ad.add (i * 2)).block, (ad.add (i * 2)).off + 1, none⟩ = some (.slice A1 xs[i].2.length c1) ∧ Ints w A1 c1 xs[i].2 := by
  obtain ⟨ad, cs, e, _, hK, hc0⟩ := Kd.C_get h.2.1 xs[i] (i : Int) (by omega) (by omega)
  have hc : ∀ j u, cs[j]? = some u → w.cell? (ad.add (i * 2 + j)) = some u := hc0
  have e1 : xs.getD (i : Int).toNat xs[i] = xs[i] := by simp [List.getD_eq_getElem?_getD, hi]
  rw [e1] at hK
  obtain ⟨_, _, rfl, rfl, ⟨A1, c1, rfl, l1, g1⟩⟩ := hK
  exact ⟨ad, A1, c1, e, hc 0 _ rfl, by rw [← add_field _ _ 1 (by omega)]; exact hc 1 _ rfl, l1, g1, h.2.2 _ (List.getElem_mem hi)⟩
/-- The blocks of the call's own: number, content. -/
def Loc (w : World) : List (Nat × Array Value × TypeId) → Prop
  | [] => True
  | (g, cs, t) :: l => w.heap[g]? = some (.cells cs t (0, 0)) ∧ Loc w l
theorem Loc.on {W w : World} (hb : On W w) : ∀ {l : List (Nat × Array Value × TypeId)}, Loc W l → Loc w l
  | [], _ => trivial
  | _ :: _, h => ⟨blk_below h.1 hb, Loc.on hb h.2⟩
theorem loc_new (w : World) (cs : Array Value) (t : TypeId) : (w.alloc (.cells cs t (0, 0))).heap[w.heap.size]? = some (.cells cs t (0, 0)) := blk_new w _
theorem loc1 (w : World) (cs : Array Value) (t : TypeId) : Loc (w.alloc (.cells cs t (0, 0))) [(w.heap.size, cs, t)] := ⟨blk_new w _, trivial⟩
theorem loc2 (w : World) (cs ds : Array Value) (t u : TypeId) : Loc ((w.alloc (.cells cs t (0, 0))).alloc (.cells ds u (0, 0))) [(w.heap.size, cs, t), (w.heap.size + 1, ds, u)] :=
  ⟨blk_below (blk_new w _) (On.alloc (On.refl _) _), by have := blk_new (w.alloc (.cells cs t (0, 0))) (.cells ds u (0, 0)); simpa using this, trivial⟩
theorem loc3 (w : World) (cs ds es : Array Value) (t u v : TypeId) : Loc (((w.alloc (.cells cs t (0, 0))).alloc (.cells ds u (0, 0))).alloc (.cells es v (0, 0))) [(w.heap.size, cs, t), (w.heap.size + 1, ds, u), (w.heap.size + 2, es, v)] := by
  obtain ⟨h1, h2, _⟩ := Loc.on (On.alloc (On.refl _) (.cells es v (0, 0))) (loc2 w cs ds t u)
  have := blk_new ((w.alloc (.cells cs t (0, 0))).alloc (.cells ds u (0, 0))) (.cells es v (0, 0))
  exact ⟨h1, h2, by simpa using this, trivial⟩
theorem ret_bool {a b : Bool} (h : a = b) : Ending.returned (.bool a) = Ending.returned (.bool b) := by rw [h]
theorem ret_int {k : IntKind} {a b : Int} (h : a = b) : Ending.returned (.int k a) = Ending.returned (.int k b) := by rw [h]
theorem bt0 (s : ByteArray) : ∀ h : 0 < s.size, ((s[0]'h).toNat : Int) = bt s 0 := fun h => bt_at s 0 h
theorem _root_.Go.Proofs.YtgemaohdlibboaaGreatDoor.Reg.On.set {W w : World} (h : On W w) {p : Addr} (hp : W.heap.size ≤ p.block) (u : Value) : On W (w.setCell p u) := Below.setCell h hp u
theorem modify_push {α : Type} (xs : Array α) (a : α) (f : α → α) : (xs.push a).modify xs.size f = xs.push (f a) := by
  apply Array.ext_getElem?
  intro i
  rw [Array.getElem?_modify, Array.getElem?_push, Array.getElem?_push]
  by_cases h : i = xs.size
  · subst h; simp
  · rw [if_neg (fun e => h e.symm), if_neg h, if_neg h]
theorem alloc_set (w : World) (cs : Array Value) (t : TypeId) (j : Nat) (v : Value) : (w.alloc (.cells cs t (0, 0))).setCell ⟨w.heap.size, j, none⟩ v = w.alloc (.cells (cs.setIfInBounds j v) t (0, 0)) := by
  show ({ (w.alloc (.cells cs t (0, 0))) with heap := (w.heap.push (.cells cs t (0, 0))).modify w.heap.size _ } : World) = _
  rw [modify_push]
  rfl
/-- A struct that is made and filled. -/
theorem alloc_fill (w : World) (a b c d : Value) (t : TypeId) : ((w.alloc (.cells #[a, b] t (0, 0))).setCell ⟨w.heap.size, 0, none⟩ c).setCell ⟨w.heap.size, 1, none⟩ d = w.alloc (.cells #[c, d] t (0, 0)) := by
  rw [alloc_set, alloc_set]; rfl
theorem alloc_fill3 (w : World) (a b c d e f : Value) (t : TypeId) : (((w.alloc (.cells #[a, b, c] t (0, 0))).setCell ⟨w.heap.size, 0, none⟩ d).setCell ⟨w.heap.size, 1, none⟩ e).setCell ⟨w.heap.size, 2, none⟩ f = w.alloc (.cells #[d, e, f] t (0, 0)) := by
  rw [alloc_set, alloc_set, alloc_set]; rfl
/-! Steps inside a region that draws. -/
section
variable {P : Program} {ops : Array Oper} {Q : Exit → Act → World → Prop} {i : Nat} {tail : List Nat} {l : List (Nat × Reg.K)} {a a' : Act} {W : World} {o : Oper} {N : Tmp}
theorem nAt_call {f : FuncId} {fn : Func} {xs : Array Operand} {ts : Array TypeId} {args : Array Value} {w : World} {R : Value → World → Prop} (hf : P.funcs[f]? = some fn) (hname : (fn.name == "runtime.NumGoroutine") = false) (hb : fn.body.isSome = true)
    (hop : o.op = .call { callee := .value (.func f), args := xs, argTypes := ts }) (hargs : xs.map a.eval = args) (h : Calls P f args w fun e w' => ∃ u, e = .returned u ∧ R u w') : Reg.nAt P o a w R := by
  have he := enters_ hf hname hb args w
  have hrun : (execOp a.eval o).run P w = .ok (.enter f args) w := by
    unfold execOp
    simp [hop, resolve, Deferred.ofValue, invoke, Act.eval, hargs, he]
  unfold Reg.nAt
  rw [hrun]
  exact h
/-- A call that hands back one value. -/
theorem callC {f : FuncId} {fn : Func} {xs : Array Operand} {ts : Array TypeId} {args : Array Value} (v : Value) (hf : P.funcs[f]? = some fn)
    (h : ∀ w, On W w → Calls P f args w fun e w' => e = .returned v ∧ On w w') (rest : Reg.Ord P ops Q tail l a' W) (hi : ops[i]? = some o := by rfl) (hN : o.dst = some N := by rfl)
    (hop : o.op = .call { callee := .value (.func f), args := xs, argTypes := ts } := by rfl) (hargs : xs.map a.eval = args := by (try simp only [List.map_toArray, List.map_cons, List.map_nil]); rfl)
    (hname : (fn.name == "runtime.NumGoroutine") = false := by kernel_rfl) (hb : fn.body.isSome = true := by rfl)
    (hw : Region.wanted o (yielded ops a.tmps) = true := by with_unfolding_all rfl) (ha : a.put (some N) v = a' := by simp only [Act.put, List.setIfInBounds_toArray, List.set_cons_zero, List.set_cons_succ]; rfl) : Reg.Ord P ops Q tail ((i, .C) :: l) a W :=
  Reg.stepC (v := v) (fun w hS => nAt_call hf hname hb hop hargs ((h w hS).mono fun e w' ⟨he, hS'⟩ => ⟨v, he, rfl, hS.trans hS'⟩)) (ha ▸ rest) hi hN hw
/-- A call of which more is told: what follows stands behind it. -/
theorem callN {f : FuncId} {fn : Func} {xs : Array Operand} {ts : Array TypeId} {args : Array Value} (hf : P.funcs[f]? = some fn)
    (h : ∀ w, On W w → Calls P f args w fun e w' => ∃ v, e = .returned v ∧ On w w' ∧ ∀ a', a' = a.put (some N) v → Reg.Ord P ops Q tail l a' w') (hi : ops[i]? = some o := by rfl) (hN : o.dst = some N := by rfl)
    (hop : o.op = .call { callee := .value (.func f), args := xs, argTypes := ts } := by rfl) (hargs : xs.map a.eval = args := by (try simp only [List.map_toArray, List.map_cons, List.map_nil]); rfl)
    (hname : (fn.name == "runtime.NumGoroutine") = false := by kernel_rfl) (hb : fn.body.isSome = true := by rfl)
    (hw : Region.wanted o (yielded ops a.tmps) = true := by rfl) : Reg.Ord P ops Q tail ((i, .N) :: l) a W := by
  refine Reg.stepN (fun w hS => ?_) hi hw
  unfold wpList
  rw [if_pos hw]
  refine .inl (Reg.wp_of_nAt (nAt_call hf hname hb hop hargs ((h w hS).mono fun e w' ⟨v, he, hon, hk⟩ => ⟨v, he, ?_⟩)))
  rw [hN]
  exact ⟨hS.trans hon, hk _ rfl⟩
/-- A read, a sum, an address. -/
theorem sL {v : Value} (h : Reg.Ord P ops Q tail l a' W) (hi : ops[i]? = some o := by rfl) (hN : o.dst = some N := by rfl) (hw : Region.wanted o (yielded ops a.tmps) = true := by rfl)
    (hy : ∀ w, On W w → (execOp a.eval o).run P w = .ok (.value v) w := by intro w' hS; have hA := Reg.On.eq hS; clear hS; (go_simp; first | done | rfl))
    (ha : a.put (some N) v = a' := by simp only [Act.put, List.setIfInBounds_toArray, List.set_cons_zero, List.set_cons_succ]; rfl) : Reg.Ord P ops Q tail ((i, .L) :: l) a W := Reg.stepL hy (ha ▸ h) hi hN hw
/-- What asks the world nothing. -/
theorem sQ {v : Value} (h : Reg.Ord P ops Q tail l a' W) (hi : ops[i]? = some o := by rfl) (hN : o.dst = some N := by rfl) (hw : Region.wanted o (yielded ops a.tmps) = true := by rfl)
    (hy : ∀ w, (execOp a.eval o).run P w = .ok (.value v) w := by intro w'; (go_simp; first | done | rfl))
    (ha : a.put (some N) v = a' := by simp only [Act.put, List.setIfInBounds_toArray, List.set_cons_zero, List.set_cons_succ]; rfl) : Reg.Ord P ops Q tail ((i, .P) :: l) a W := Reg.stepP hy (ha ▸ h) hi hN hw
/-- Sums and differences whose bounds are known. -/
theorem sS {x y : Operand} {m n : Int} {t t2 : TypeId} (h : Reg.Ord P ops Q tail l a' W) (hi : ops[i]? = some o := by rfl) (hN : o.dst = some N := by rfl) (hop : o.op = .binOp .sub t x y t2 := by rfl) (hw : Region.wanted o (yielded ops a.tmps) = true := by rfl)
    (hx : a.eval x = .int .i64 m := by rfl) (hy : a.eval y = .int .i64 n := by rfl) {r : Int} (hb : IntKind.i64.wrap (m - n) = r := by first | (with_reducible assumption) | exact IntWalk.i64_in _ (by omega))
    (ha : a.put (some N) (.int .i64 r) = a' := by simp only [Act.put, List.setIfInBounds_toArray, List.set_cons_zero, List.set_cons_succ]; rfl) : Reg.Ord P ops Q tail ((i, .L) :: l) a W :=
  Reg.stepL (fun w _ => by
    subst hb
    unfold execOp
    simp only [hop, hx, hy]
    rfl) (ha ▸ h) hi hN hw
theorem sA {x y : Operand} {m n : Int} {t t2 : TypeId} (h : Reg.Ord P ops Q tail l a' W) (hi : ops[i]? = some o := by rfl) (hN : o.dst = some N := by rfl) (hop : o.op = .binOp .add t x y t2 := by rfl) (hw : Region.wanted o (yielded ops a.tmps) = true := by rfl)
    (hx : a.eval x = .int .i64 m := by rfl) (hy : a.eval y = .int .i64 n := by rfl) {r : Int} (hb : IntKind.i64.wrap (m + n) = r := by first | (with_reducible assumption) | exact IntWalk.i64_in _ (by omega))
    (ha : a.put (some N) (.int .i64 r) = a' := by simp only [Act.put, List.setIfInBounds_toArray, List.set_cons_zero, List.set_cons_succ]; rfl) : Reg.Ord P ops Q tail ((i, .L) :: l) a W :=
  Reg.stepL (fun w _ => by
    subst hb
    unfold execOp
    simp only [hop, hx, hy]
    rfl) (ha ▸ h) hi hN hw
/-- A choice, decided. -/
theorem sP {v : Value} {c x y : Operand} {b : Bool} (h : Reg.Ord P ops Q tail l a' W) (hi : ops[i]? = some o := by rfl) (hN : o.dst = some N := by rfl) (hop : o.op = .pick c x y := by rfl) (hw : Region.wanted o (yielded ops a.tmps) = true := by rfl)
    (hc : a.eval c = .bool b := by rfl) (hv : (if b then a.eval x else a.eval y) = v := by (go_simp; first | done | rfl))
    (ha : a.put (some N) v = a' := by simp only [Act.put, List.setIfInBounds_toArray, List.set_cons_zero, List.set_cons_succ]; rfl) : Reg.Ord P ops Q tail ((i, .L) :: l) a W :=
  Reg.stepL (fun w _ => by unfold execOp; simp only [hop, hc]; subst hv; cases b <;> rfl) (ha ▸ h) hi hN hw
/-- An operation whose guard is off. -/
theorem sO {k : Reg.K} (h : Reg.Ord P ops Q tail l a' W) (hi : ops[i]? = some o := by rfl) (hN : o.dst = some N := by rfl) (hw : Region.wanted o (yielded ops a.tmps) = false := by with_unfolding_all rfl)
    (ha : a.put (some N) undef = a' := by simp only [Act.put, List.setIfInBounds_toArray, List.set_cons_zero, List.set_cons_succ]; rfl) : Reg.Ord P ops Q tail ((i, k) :: l) a W := Reg.skip (ha ▸ h) hi hN hw
end
end Go.Proofs.YtgemaohdlibboaaGreatDoor.H
/- What the functions compute, in plain Lean: relations, values, facts, instances. No program in sight. No condition. -/
namespace Go.Proofs.YtgemaohdlibboaaGreatDoor.H
open Go Go.RowKit Go.Proofs.YtgemaohdlibboaaGreatDoorW.PrintWords Go.Proofs.YtgemaohdlibboaaGreatDoorW.PrintLast
/-- low ≤ n ≤ high. -/
def within (n a b : Int) : Bool := decide (a ≤ n ∧ n ≤ b)
/-- The number of a null: of -1 .. -40. -/
def isNul (v : Int) : Bool := decide (-40 ≤ v ∧ v ≤ -1)
def nulNum (v : Int) : Int := if isNul v then -1 - v else 0
def okVal (v : Int) : Bool := decide (-40 ≤ v ∧ v ≤ 9)
/-- One relation; strings in order. -/
def okRel (r : Rel) : Bool := decide (r.1.size = 1 ∧ 97 ≤ bt r.1 0 ∧ bt r.1 0 ≤ 122 ∧ 1 ≤ r.2.1 ∧ r.2.1 ≤ 3)
def strLt (a b : ByteArray) : Bool := Op.bytesLess a.toList b.toList
theorem bl_asymm : ∀ a b : List UInt8, Op.bytesLess a b = true → Op.bytesLess b a = false
  | _, [], h => by simp [Op.bytesLess] at h
  | [], _ :: _, _ => by simp [Op.bytesLess]
  | x :: a, y :: b, h => by
    simp only [Op.bytesLess, Bool.or_eq_true, Bool.and_eq_true, decide_eq_true_eq, beq_iff_eq] at h
    simp only [Op.bytesLess, Bool.or_eq_false_iff, Bool.and_eq_false_iff, decide_eq_false_iff_not, beq_eq_false_iff_ne]
    rcases h with h | ⟨h, h2⟩
    · exact ⟨fun h' => by rw [UInt8.lt_iff_toNat_lt] at h h'; omega, .inl (fun e => by rw [e] at h; rw [UInt8.lt_iff_toNat_lt] at h; omega)⟩
    · subst h; exact ⟨fun h' => by rw [UInt8.lt_iff_toNat_lt] at h'; omega, .inr (bl_asymm a b h2)⟩
theorem bl_irrefl (a : List UInt8) : Op.bytesLess a a = false := by
  cases h : Op.bytesLess a a with
  | false => rfl
  | true => rw [bl_asymm a a h] at h; cases h
theorem bl_ne {a b : List UInt8} (h : Op.bytesLess a b = true) : (b == a) = false := by
  rw [beq_eq_false_iff_ne]; rintro rfl; rw [bl_irrefl] at h; cases h
theorem bl_ne' {a b : List UInt8} (h : Op.bytesLess a b = true) : (a == b) = false := by
  rw [beq_eq_false_iff_ne]; rintro rfl; rw [bl_irrefl] at h; cases h
theorem bl_total : ∀ a b : List UInt8, Op.bytesLess a b = false → (Op.bytesLess b a || b == a) = true
  | [], [], _ => by simp
  | [], _ :: _, h => by simp [Op.bytesLess] at h
  | _ :: _, [], _ => by simp [Op.bytesLess]
  | x :: a, y :: b, h => by
    simp only [Op.bytesLess, Bool.or_eq_false_iff, Bool.and_eq_false_iff, decide_eq_false_iff_not, beq_eq_false_iff_ne] at h
    obtain ⟨h1, h2⟩ := h
    simp only [Op.bytesLess, Bool.or_eq_true, Bool.and_eq_true, decide_eq_true_eq, beq_iff_eq]
    by_cases e : x = y
    · subst e
      have h3 : Op.bytesLess a b = false := by rcases h2 with h2 | h2; exact absurd rfl h2; exact h2
      have := bl_total a b h3
      simp only [Bool.or_eq_true, beq_iff_eq] at this
      rcases this with t | t
      · exact .inl (.inr ⟨rfl, t⟩)
      · exact .inr (by rw [t])
    · refine .inl (.inl ?_)
      rw [UInt8.lt_iff_toNat_lt] at h1 ⊢
      have : x.toNat ≠ y.toNat := fun h => e (UInt8.toNat_inj.1 h)
      omega
def relsFrom : Option ByteArray → List Rel → Bool
  | _, [] => true
  | p, r :: l => okRel r && (match p with | none => true | some s => strLt s r.1) && relsFrom (some r.1) l
def okRels (l : List Rel) : Bool := relsFrom none l && decide (l.length ≤ 6)
/-- The name ahead of place k. -/
def prevName (l : List Rel) (k : Nat) : Option ByteArray := if k = 0 then none else (l[k - 1]?).map fun r => r.1
theorem prevName_succ (l : List Rel) (k : Nat) (h : k < l.length) : prevName l (k + 1) = some l[k].1 := by
  simp [prevName, h]
theorem relsFrom_step (l : List Rel) (k : Nat) (h : k < l.length) : relsFrom (prevName l k) (l.drop k) = (okRel l[k] && (match prevName l k with | none => true | some s => strLt s l[k].1) && relsFrom (prevName l (k + 1)) (l.drop (k + 1))) := by
  rw [List.drop_eq_getElem_cons h, prevName_succ l k h]
  rfl
/-- Facts. -/
def ints : List Int → List Int → Int
  | [], [] => 0
  | [], _ :: _ => -1
  | _ :: _, [] => 1
  | x :: a, y :: b => if x < y then -1 else if y < x then 1 else ints a b
def cmpF (f g : Fct) : Int := if f.1 < g.1 then -1 else if g.1 < f.1 then 1 else ints f.2 g.2
def arity (rs : List Rel) (i : Int) : Int := ((rs[i.toNat]?).map fun r => r.2.1).getD 0
def okFact (rs : List Rel) (f : Fct) : Bool := okRels rs && decide (0 ≤ f.1 ∧ f.1 < rs.length) && decide ((f.2.length : Int) = arity rs f.1) && f.2.all okVal
def placeFrom (f : Fct) : List Fct → Nat → Int
  | [], _ => -1
  | g :: l, i => if cmpF g f = 0 then i else placeFrom f l (i + 1)
def place (l : List Fct) (f : Fct) : Int := placeFrom f l 0
/-- A null's number laid into a row that is in order. -/
def put (l : List Int) (x : Int) : List Int := match l with
  | [] => [x]
  | y :: r => if y < x then y :: put r x else if y = x then y :: r else x :: y :: r
theorem put_length (l : List Int) (x : Int) : (put l x).length ≤ l.length + 1 := by
  induction l with
  | nil => simp [put]
  | cons y r ih => unfold put; split <;> (try split) <;> simp <;> omega
def nulsFrom : List Int → List Int → List Int
  | out, [] => out
  | out, v :: l => nulsFrom (if isNul v then put out (nulNum v) else out) l
def nuls (vs : List Int) : List Int := nulsFrom [] vs
theorem nulsFrom_step (out vs : List Int) (k : Nat) (h : k < vs.length) : nulsFrom out (vs.drop k) = nulsFrom (if isNul vs[k] then put out (nulNum vs[k]) else out) (vs.drop (k + 1)) := by
  rw [List.drop_eq_getElem_cons h]; rfl
theorem put_split (l : List Int) (x : Int) (k : Nat) (hk : k ≤ l.length) (hlt : ∀ j, (h : j < k) → l[j]'(by omega) < x) : put l x = l.take k ++ put (l.drop k) x := by
  induction k generalizing l with
  | zero => simp
  | succ k ih =>
    cases l with
    | nil => simp at hk
    | cons y r =>
      have h0 := hlt 0 (by omega)
      simp only [List.getElem_cons_zero] at h0
      have := ih r (by simpa using hk) (fun j h => by have := hlt (j + 1) (by omega); simpa using this)
      rw [put, if_pos h0, this]
      simp
theorem put_mid (l : List Int) (x : Int) (k : Nat) (hk : k < l.length) (hlt : ∀ j, (h : j < k) → l[j]'(by omega) < x) (h1 : ¬ l[k] < x) : put l x = if l[k] = x then l else l.take k ++ x :: l.drop k := by
  rw [put_split l x k (by omega) hlt, List.drop_eq_getElem_cons hk, put, if_neg h1]
  split
  · rw [← List.drop_eq_getElem_cons hk, List.take_append_drop]
  · rfl
theorem put_end (l : List Int) (x : Int) (hlt : ∀ j, (h : j < l.length) → l[j] < x) : put l x = l ++ [x] := by
  rw [put_split l x l.length (by omega) hlt]; simp [put]
theorem put_mem {l : List Int} {x y : Int} (h : y ∈ put l x) : y ∈ l ∨ y = x := by
  induction l with
  | nil => simp [put] at h; exact .inr h
  | cons z r ih =>
    unfold put at h
    split at h
    · rcases List.mem_cons.1 h with h | h
      · exact .inl (h ▸ List.mem_cons_self)
      · exact (ih h).imp (fun h => List.mem_cons_of_mem _ h) id
    · split at h
      · exact .inl h
      · rcases List.mem_cons.1 h with h | h
        · exact .inr h
        · exact .inl h
theorem put_inR {l : List Int} {x : Int} (h : InR l) (h1 : -9223372036854775808 ≤ x) (h2 : x ≤ 9223372036854775807) : InR (put l x) := fun y hy => by
  rcases put_mem hy with hy | rfl
  · exact h y hy
  · exact ⟨h1, h2⟩
theorem nulNum_bd (v : Int) : 0 ≤ nulNum v ∧ nulNum v ≤ 39 := by unfold nulNum isNul; split <;> simp_all <;> omega
/-- Instances. -/
def srcOf (rs : List Rel) (i : Int) : Bool := ((rs[i.toNat]?).map fun r => r.2.2).getD false
def okPrev (p : Option Fct) (f : Fct) : Bool := match p with | none => true | some g => decide (cmpF g f < 0)
def okNext (rs : List Rel) (p : Option Fct) (f : Fct) : Bool := okFact rs f && okPrev p f && (!srcOf rs f.1 || decide ((nuls f.2).length = 0))
def factsFrom (rs : List Rel) : Option Fct → List Fct → Bool
  | _, [] => true
  | p, f :: l => okNext rs p f && factsFrom rs (some f) l
def prevFct (l : List Fct) (k : Nat) : Option Fct := if k = 0 then none else l[k - 1]?
theorem factsFrom_step (rs : List Rel) (l : List Fct) (k : Nat) (h : k < l.length) : factsFrom rs (prevFct l k) (l.drop k) = (okNext rs (prevFct l k) l[k] && factsFrom rs (prevFct l (k + 1)) (l.drop (k + 1))) := by
  rw [List.drop_eq_getElem_cons h, show prevFct l (k + 1) = some l[k] by simp [prevFct, h]]
  rfl
def okInst (rs : List Rel) (fs : List Fct) : Bool := factsFrom rs none fs && (okRels rs && decide (fs.length ≤ 30))
theorem relsFrom_mem {p : Option ByteArray} {l : List Rel} (h : relsFrom p l = true) : ∀ r ∈ l, okRel r = true := by
  induction l generalizing p with
  | nil => intro r hr; cases hr
  | cons x l ih =>
    simp only [relsFrom, Bool.and_eq_true] at h
    intro r hr
    rcases List.mem_cons.1 hr with rfl | hr
    · exact h.1.1
    · exact ih h.2 r hr
theorem okRels_mem {l : List Rel} (h : okRels l = true) : ∀ r ∈ l, okRel r = true := relsFrom_mem (Bool.and_eq_true_iff.1 h).1
theorem okFact_rels {rs : List Rel} {f : Fct} (h : okFact rs f = true) : okRels rs = true := by
  simp only [okFact, Bool.and_eq_true] at h; exact h.1.1.1
theorem okFact_at {rs : List Rel} {f : Fct} (h : okFact rs f = true) : 0 ≤ f.1 ∧ f.1 < rs.length := by
  simp only [okFact, Bool.and_eq_true, decide_eq_true_eq] at h; exact h.1.1.2
theorem okFact_len {rs : List Rel} {f : Fct} (h : okFact rs f = true) : f.2.length ≤ 3 := by
  have h0 := okFact_at h
  have hr := okFact_rels h
  simp only [okFact, Bool.and_eq_true, decide_eq_true_eq] at h
  have hl := h.1.2
  have hlt : f.1.toNat < rs.length := by omega
  have hm := okRels_mem hr rs[f.1.toNat] (List.getElem_mem hlt)
  simp only [okRel, decide_eq_true_eq] at hm
  have : arity rs f.1 = rs[f.1.toNat].2.1 := by simp [arity, hlt]
  omega
/-- The first place at which p holds. -/
def idxFrom {α : Type} (p : α → Bool) : List α → Nat → Int
  | [], _ => -1
  | x :: l, i => if p x then i else idxFrom p l (i + 1)
theorem idxFrom_step {α : Type} (p : α → Bool) (l : List α) (k : Nat) (h : k < l.length) : idxFrom p (l.drop k) k = if p l[k] then (k : Int) else idxFrom p (l.drop (k + 1)) (k + 1) := by
  rw [List.drop_eq_getElem_cons h]; rfl
theorem idxFrom_any {α : Type} (p : α → Bool) (l : List α) (i : Nat) : decide (0 ≤ idxFrom p l i) = l.any p := by
  induction l generalizing i with
  | nil => rfl
  | cons x l ih =>
    by_cases h : p x = true
    · simp [idxFrom, h]
    · have h' : p x = false := by simpa using h
      have := ih (i + 1)
      simp only [idxFrom, h', List.any_cons, Bool.false_or]
      exact this
def cmpI (a b : Int) : Int := if a < b then -1 else if b < a then 1 else 0
theorem cmpF_or (f g : Fct) : cmpF f g = if cmpI f.1 g.1 ≠ 0 then cmpI f.1 g.1 else ints f.2 g.2 := by
  unfold cmpF cmpI
  split <;> rename_i h1
  · simp
  · split <;> simp
end Go.Proofs.YtgemaohdlibboaaGreatDoor.H
/- Walks: small functions on values and relations. No condition. -/
namespace Go.Proofs.YtgemaohdlibboaaGreatDoor.H
open Go Go.RowKit Go.Proofs.YtgemaohdlibboaaGreatDoorW.PrintWords Go.Proofs.YtgemaohdlibboaaGreatDoorW.PrintLast
open Go.Proofs.YtgemaohdlibboaaGreatDoor.Reg (On on_draw)
set_option maxHeartbeats 400000
set_option maxRecDepth 100000
set_option linter.unusedVariables false
set_option linter.unusedSimpArgs false

theorem l1In_calls (w : World) (x a b : Int) : Calls Tryz.prog 93 #[.int .i64 x, .int .i64 a, .int .i64 b] w fun e w' => e = .returned (.bool (within x a b)) ∧ On w w' := by
  by_cases h1 : a ≤ x
  · have h1' : decide (a ≤ x) = true := by simpa using h1
    go_enter Tryz.func93, Tryz.ntmps93
    go_wp2
    go_ret
    exact ⟨by simp [within, h1], On.refl _⟩
  · have h1' : decide (a ≤ x) = false := by simpa using h1
    go_enter Tryz.func93, Tryz.ntmps93
    go_wp2
    go_ret
    exact ⟨by simp [within]; omega, On.refl _⟩
theorem NullNumber_calls (w : World) (v : Int) (hv : -9223372036854775808 ≤ v) : Calls Tryz.prog 146 #[.int .i64 v] w fun e w' => e = .returned (.tuple #[.int .i64 (nulNum v), .bool (isNul v)]) ∧ On w w' := by
  by_cases h1 : 0 ≤ v
  · have h1' : decide (0 ≤ v) = true := by simpa using h1
    go_enter Tryz.func146, Tryz.ntmps146
    go_wp2
    go_ret2
    have h2 : ¬ (-40 ≤ v ∧ v ≤ -1) := by omega
    exact ⟨by simp [nulNum, isNul, h2], On.refl _⟩
  · have h1' : decide (0 ≤ v) = false := by simpa using h1
    by_cases h2 : -40 ≤ v
    · have hw : within (-1 - v) 0 39 = true := by simp [within]; omega
      go_enter Tryz.func146, Tryz.ntmps146
      go_wp2_with (go_at_call 93; refine (l1In_calls _ _ _ _).mono ?_; rintro e w1 ⟨rfl, hb1⟩)
      go_ret2
      have h3 : (-40 ≤ v ∧ v ≤ -1) := by omega
      exact ⟨by simp [nulNum, isNul, h3], hb1⟩
    · have hw : within (-1 - v) 0 39 = false := by simp [within]; omega
      go_enter Tryz.func146, Tryz.ntmps146
      go_wp2_with (go_at_call 93; refine (l1In_calls _ _ _ _).mono ?_; rintro e w1 ⟨rfl, hb1⟩)
      go_ret2
      have h3 : ¬ (-40 ≤ v ∧ v ≤ -1) := by omega
      exact ⟨by simp [nulNum, isNul, h3], hb1⟩
theorem IsValidValue_calls (w : World) (v : Int) (hv : -9223372036854775808 ≤ v) : Calls Tryz.prog 94 #[.int .i64 v] w fun e w' => e = .returned (.bool (okVal v)) ∧ On w w' := by
  by_cases h1 : isNul v = true
  · go_enter Tryz.func94, Tryz.ntmps94
    go_wp2_with (go_at_call 146; refine (NullNumber_calls _ _ hv).mono ?_; rintro e w1 ⟨rfl, hb1⟩)
    go_ret
    exact ⟨by have := h1; simp [isNul] at this; simp [okVal]; omega, hb1⟩
  · have h1' : isNul v = false := by simpa using h1
    go_enter Tryz.func94, Tryz.ntmps94
    go_wp2_with (first | (go_at_call 146; refine (NullNumber_calls _ _ hv).mono ?_; rintro e w1 ⟨rfl, hb1⟩) | (go_at_call 93; refine (l1In_calls _ _ _ _).mono ?_; rintro e w2 ⟨rfl, hb2⟩))
    go_ret
    exact ⟨ret_bool (by have := h1'; simp [isNul] at this; simp only [okVal, within, decide_eq_decide]; omega), hb1.trans hb2⟩
theorem IsValidRelation_calls (w : World) (r : Rel) : Calls Tryz.prog 109 #[.agg #[.string r.1, .int .i64 r.2.1, .bool r.2.2]] w fun e w' => e = .returned (.bool (okRel r)) ∧ On w w' := by
  by_cases h1 : (r.1.size : Int) = 1
  · have h1b : ((r.1.size : Int) == 1) = true := beq_iff_eq.mpr h1
    have h1c : decide (0 < r.1.size) = true := decide_eq_true (by omega)
    have hx := bt0 r.1
    go_enter Tryz.func109, Tryz.ntmps109
    go_wp2_with (go_at_call 93; refine (l1In_calls _ _ _ _).mono ?_; rintro e w2 ⟨rfl, hb2⟩)
    all_goals
      go_ret
      first | exact ⟨ret_bool (by simp only [okRel, within, decide_eq_decide]; omega), (On.alloc (On.refl _) _).trans hb2⟩ | exact ⟨ret_bool (by simp [okRel]; omega), On.alloc (On.refl _) _⟩
  · have h1b : ((r.1.size : Int) == 1) = false := beq_eq_false_iff_ne.mpr h1
    go_enter Tryz.func109, Tryz.ntmps109
    go_wp2
    go_ret
    exact ⟨ret_bool (by simp [okRel]; omega), On.alloc (On.refl _) _⟩
theorem AreValidRelations_calls (w : World) (A : Option Addr) (c : Nat) (l : List Rel) (h : Rels w A c l) : Calls Tryz.prog 41 #[.slice A l.length c] w fun e w' => e = .returned (.bool (okRels l)) ∧ On w w' := by
  have hmax := h.max
  go_enter Tryz.func41, Tryz.ntmps41
  go_wp2
  go_loopw [3] (fun v wr => ∃ k : Nat, k ≤ l.length ∧ v = .int .i64 k ∧ Hid (relsFrom (prevName l k) (l.drop k) = relsFrom none l) ∧ On w wr) (fun v _ => l.length - (intOf v).toNat)
  case atStart => exact ⟨0, Nat.zero_le _, rfl, rfl, On.refl _⟩
  case round =>
    obtain ⟨k, hk, rfl, hp, hB⟩ := hrel
    by_cases hlt : k < l.length
    · obtain ⟨ad, rfl, hx0, hx1, hx2⟩ := (h.on hB).at k hlt
      have hp' : Hid ((okRel l[k] && (match prevName l k with | none => true | some s => strLt s l[k].1) && relsFrom (prevName l (k + 1)) (l.drop (k + 1))) = relsFrom none l) := by have := hp.out; rwa [relsFrom_step l k hlt] at this
      clear hp
      cases hok : okRel l[k] with
      | false =>
        have hok' := Aside0.mk hok
        clear hok
        go_wp2
        refine Reg.region [(0,.L),(1,.L),(2,.L),(3,.L),(4,.C),(5,.L),(6,.L),(7,.L),(8,.L),(9,.L),(10,.L),(11,.L),(12,.L),(13,.L),(14,.L),(15,.L),(16,.L),(17,.L),(18,.L),(19,.L),(20,.L),(21,.L),(22,.L),(23,.L)] [] (by kernel_rfl) (by kernel_rfl) ?_
        repeat first | refine sP ?_ | refine sS ?_ | refine sA ?_ | refine sL ?_ | refine sQ ?_ | refine sO ?_
        refine callC (.bool false) Tryz.func109 (fun w' hS => ?_) ?_
        focus exact (IsValidRelation_calls w' l[k]).mono fun e w'' h => ⟨by rw [h.1, hok'.out], h.2⟩
        repeat first | refine sP ?_ | refine sS ?_ | refine sA ?_ | refine sL ?_ | refine sQ ?_ | refine sO ?_
        refine Reg.nil fun w2 hS => ?_
        go_wp2
        go_ret
        exact ⟨ret_bool (by have := hp'.out; rw [hok'.out] at this; simp [okRels, ← this]), hB.trans hS⟩
      | true =>
        have hok' := Aside0.mk hok
        clear hok
        by_cases hk0 : 0 < k
        · have hk0' : decide (0 < (k : Int)) = true := decide_eq_true (by omega)
          have hki : IntKind.i64.wrap ((k : Int) - 1) = ((k - 1 : Nat) : Int) := by rw [IntWalk.i64_in _ (by omega)]; omega
          have hk1 : k - 1 < l.length := by omega
          obtain ⟨ad', e', hy0, _, _⟩ := (h.on hB).at (k - 1) hk1
          obtain rfl : ad = ad' := by simpa using e'
          have hpn : prevName l k = some l[k - 1].1 := by simp [prevName, show ¬ k = 0 by omega, show k - 1 < l.length by omega]
          rw [hpn] at hp'
          replace hp' : Hid ((okRel l[k] && strLt l[k - 1].1 l[k].1 && relsFrom (prevName l (k + 1)) (l.drop (k + 1))) = relsFrom none l) := hp'
          cases hs : strLt l[k - 1].1 l[k].1 with
          | true =>
            have hs1 : Op.bytesLess l[k - 1].1.toList l[k].1.toList = true := hs
            have hs2 := bl_asymm _ _ hs1
            have hs3 := bl_ne hs1
            have hs4 := bl_ne' hs1
            have hs' := Aside0.mk hs
            clear hs
            go_wp2
            refine Reg.region [(0,.L),(1,.L),(2,.L),(3,.L),(4,.C),(5,.L),(6,.L),(7,.L),(8,.L),(9,.L),(10,.L),(11,.L),(12,.L),(13,.L),(14,.L),(15,.L),(16,.L),(17,.L),(18,.L),(19,.L),(20,.L),(21,.L),(22,.L),(23,.L)] [] (by kernel_rfl) (by kernel_rfl) ?_
            repeat first | refine sP ?_ | refine sS ?_ | refine sA ?_ | refine sL ?_ | refine sQ ?_ | refine sO ?_
            refine callC (.bool true) Tryz.func109 (fun w' hS => ?_) ?_
            focus exact (IsValidRelation_calls w' l[k]).mono fun e w'' h => ⟨by rw [h.1, hok'.out], h.2⟩
            repeat first | refine sP ?_ | refine sS ?_ | refine sA ?_ | refine sL ?_ | refine sQ ?_ | refine sO ?_
            refine Reg.nil fun w2 hS => ?_
            go_wp2
            go_roundw
            case rel => exact ⟨k + 1, by omega, by go_num, (by have := hp'.out; rw [hok'.out, hs'.out] at this; simpa using this : _ = _), hB.trans hS⟩
            case measure => simp [intOf]; omega
          | false =>
            have hs1 : Op.bytesLess l[k - 1].1.toList l[k].1.toList = false := hs
            have hs2 := bl_total _ _ hs1
            have hs' := Aside0.mk hs
            clear hs
            go_wp2
            refine Reg.region [(0,.L),(1,.L),(2,.L),(3,.L),(4,.C),(5,.L),(6,.L),(7,.L),(8,.L),(9,.L),(10,.L),(11,.L),(12,.L),(13,.L),(14,.L),(15,.L),(16,.L),(17,.L),(18,.L),(19,.L),(20,.L),(21,.L),(22,.L),(23,.L)] [] (by kernel_rfl) (by kernel_rfl) ?_
            repeat first | refine sP ?_ | refine sS ?_ | refine sA ?_ | refine sL ?_ | refine sQ ?_ | refine sO ?_
            refine callC (.bool true) Tryz.func109 (fun w' hS => ?_) ?_
            focus exact (IsValidRelation_calls w' l[k]).mono fun e w'' h => ⟨by rw [h.1, hok'.out], h.2⟩
            repeat first | refine sP ?_ | refine sS ?_ | refine sA ?_ | refine sL ?_ | refine sQ ?_ | refine sO ?_
            refine Reg.nil fun w2 hS => ?_
            go_wp2
            go_ret
            exact ⟨ret_bool (by have := hp'.out; rw [hok'.out, hs'.out] at this; simp [okRels, ← this]), hB.trans hS⟩
        · have hk0' : decide (0 < (k : Int)) = false := decide_eq_false (by omega)
          have hpn : prevName l k = none := by simp [prevName, show k = 0 by omega]
          rw [hpn] at hp'
          replace hp' : Hid ((okRel l[k] && true && relsFrom (prevName l (k + 1)) (l.drop (k + 1))) = relsFrom none l) := hp'
          go_wp2
          refine Reg.region [(0,.L),(1,.L),(2,.L),(3,.L),(4,.C),(5,.L),(6,.L),(7,.L),(8,.L),(9,.L),(10,.L),(11,.L),(12,.L),(13,.L),(14,.L),(15,.L),(16,.L),(17,.L),(18,.L),(19,.L),(20,.L),(21,.L),(22,.L),(23,.L)] [] (by kernel_rfl) (by kernel_rfl) ?_
          repeat first | refine sP ?_ | refine sS ?_ | refine sA ?_ | refine sL ?_ | refine sQ ?_ | refine sO ?_
          refine callC (.bool true) Tryz.func109 (fun w' hS => ?_) ?_
          focus exact (IsValidRelation_calls w' l[k]).mono fun e w'' h => ⟨by rw [h.1, hok'.out], h.2⟩
          repeat first | refine sP ?_ | refine sS ?_ | refine sA ?_ | refine sL ?_ | refine sQ ?_ | refine sO ?_
          refine Reg.nil fun w2 hS => ?_
          go_wp2
          go_roundw
          case rel => exact ⟨k + 1, by omega, by go_num, (by have := hp'.out; rw [hok'.out] at this; simpa using this : _ = _), hB.trans hS⟩
          case measure => simp [intOf]; omega
    · go_wp2
      go_ret
      have e1 : relsFrom none l = true := by rw [← hp.out, List.drop_of_length_le (by omega)]; cases prevName l k <;> rfl
      exact ⟨ret_bool (by simp [okRels, e1]; omega), hB⟩
end Go.Proofs.YtgemaohdlibboaaGreatDoor.H
/- Walks: facts, compared and placed. No condition. -/
namespace Go.Proofs.YtgemaohdlibboaaGreatDoor.H
open Go Go.RowKit Go.Proofs.YtgemaohdlibboaaGreatDoorW.PrintWords Go.Proofs.YtgemaohdlibboaaGreatDoorW.PrintLast
open Go.Proofs.YtgemaohdlibboaaGreatDoor.Reg (On on_draw)
set_option maxHeartbeats 1000000
set_option maxRecDepth 100000
set_option linter.unusedVariables false
set_option linter.unusedSimpArgs false

theorem ints_step (a b : List Int) (k : Nat) (h1 : k < a.length) (h2 : k < b.length) : ints (a.drop k) (b.drop k) = if a[k] < b[k] then -1 else if b[k] < a[k] then 1 else ints (a.drop (k + 1)) (b.drop (k + 1)) := by
  rw [List.drop_eq_getElem_cons h1, List.drop_eq_getElem_cons h2]; rfl
theorem l4Ints_calls (w : World) (A B : Option Addr) (c d : Nat) (a b : List Int) (ha : Ints w A c a) (hb : Ints w B d b) : Calls Tryz.prog 98 #[.slice A a.length c, .slice B b.length d] w fun e w' => e = .returned (.int .i64 (ints a b)) ∧ On w w' := by
  have hma := ha.max
  have hmb := hb.max
  go_enter Tryz.func98, Tryz.ntmps98
  go_wp2
  go_loopw [5] (fun v wr => ∃ k : Nat, k ≤ a.length ∧ k ≤ b.length ∧ v = .int .i64 k ∧ Hid (ints (a.drop k) (b.drop k) = ints a b) ∧ On w wr) (fun v _ => a.length - (intOf v).toNat)
  case atStart => exact ⟨0, Nat.zero_le _, Nat.zero_le _, rfl, rfl, On.refl _⟩
  case round =>
    obtain ⟨k, hk1, hk2, rfl, hp, hB⟩ := hrel
    by_cases h1 : k < a.length
    · by_cases h2 : k < b.length
      · obtain ⟨ad, rfl, hx⟩ := (ha.on hB).at k h1
        obtain ⟨bd, rfl, hy⟩ := (hb.on hB).at k h2
        replace hp := Aside0.mk ((ints_step a b k h1 h2).symm.trans hp.out)
        by_cases h3 : a[k] < b[k]
        · have h3b : decide (a[k] < b[k]) = true := decide_eq_true h3
          clear h3
          go_wp2
          refine Reg.region [(0,.L),(1,.L),(2,.L),(3,.L),(4,.L),(5,.L),(6,.L),(7,.L),(8,.L)] [] (by kernel_rfl) (by kernel_rfl) ?_
          repeat first | refine sP ?_ | refine sS ?_ | refine sA ?_ | refine sL ?_ | refine sQ ?_ | refine sO ?_
          refine Reg.nil fun w2 hS => ?_
          go_wp2
          go_ret
          exact ⟨ret_int (by rw [← hp.out, if_pos (of_decide_eq_true h3b)]), hB.trans hS⟩
        · have h3b : decide (a[k] < b[k]) = false := decide_eq_false h3
          clear h3
          go_wp2
          refine Reg.region [(0,.L),(1,.L),(2,.L),(3,.L),(4,.L),(5,.L),(6,.L),(7,.L),(8,.L)] [] (by kernel_rfl) (by kernel_rfl) ?_
          repeat first | refine sP ?_ | refine sS ?_ | refine sA ?_ | refine sL ?_ | refine sQ ?_ | refine sO ?_
          refine Reg.nil fun w2 hS => ?_
          have hx' := (hS.eq _ (by rw [hx]; rfl)).trans hx
          have hy' := (hS.eq _ (by rw [hy]; rfl)).trans hy
          by_cases h4 : b[k] < a[k]
          · have h4b : decide (b[k] < a[k]) = true := decide_eq_true h4
            clear h4 hx hy
            go_wp2
            refine Reg.region [(0,.L),(1,.L),(2,.L),(3,.L),(4,.L),(5,.L),(6,.L),(7,.L),(8,.L)] [] (by kernel_rfl) (by kernel_rfl) ?_
            repeat first | refine sP ?_ | refine sS ?_ | refine sA ?_ | refine sL ?_ | refine sQ ?_ | refine sO ?_
            refine Reg.nil fun w3 hS3 => ?_
            go_wp2
            go_ret
            exact ⟨ret_int (by rw [← hp.out, if_neg (of_decide_eq_false h3b), if_pos (of_decide_eq_true h4b)]), (hB.trans hS).trans hS3⟩
          · have h4b : decide (b[k] < a[k]) = false := decide_eq_false h4
            clear h4 hx hy
            go_wp2
            refine Reg.region [(0,.L),(1,.L),(2,.L),(3,.L),(4,.L),(5,.L),(6,.L),(7,.L),(8,.L)] [] (by kernel_rfl) (by kernel_rfl) ?_
            repeat first | refine sP ?_ | refine sS ?_ | refine sA ?_ | refine sL ?_ | refine sQ ?_ | refine sO ?_
            refine Reg.nil fun w3 hS3 => ?_
            go_wp2
            go_roundw
            case rel => exact ⟨k + 1, by omega, by omega, by go_num, (by have := hp.out; rwa [if_neg (of_decide_eq_false h3b), if_neg (of_decide_eq_false h4b)] at this : _ = _), (hB.trans hS).trans hS3⟩
            case measure => simp [intOf]; omega
      · have hb0 : b.drop k = [] := List.drop_of_length_le (by omega)
        have hp' := Aside0.mk hp.out
        clear hp
        go_wp2
        go_ret
        exact ⟨ret_int (by rw [← hp'.out, hb0, List.drop_eq_getElem_cons h1]; rfl), hB⟩
    · have ha0 : a.drop k = [] := List.drop_of_length_le (by omega)
      have hp' := Aside0.mk hp.out
      clear hp
      by_cases h2 : k < b.length
      · go_wp2
        go_ret
        exact ⟨ret_int (by rw [← hp'.out, ha0, List.drop_eq_getElem_cons h2]; rfl), hB⟩
      · have hb0 : b.drop k = [] := List.drop_of_length_le (by omega)
        go_wp2
        go_ret
        exact ⟨ret_int (by rw [← hp'.out, ha0, hb0]; rfl), hB⟩
theorem CompareFacts_calls (w : World) (A0 c0 A1 c1) (f g : Fct) (h0 : Ints w A0 c0 f.2) (h1 : Ints w A1 c1 g.2) : Calls Tryz.prog 70 #[.agg #[.int .i64 f.1, .slice A0 f.2.length c0], .agg #[.int .i64 g.1, .slice A1 g.2.length c1]] w fun e w' => e = .returned (.int .i64 (cmpF f g)) ∧ On w w' := by
  by_cases h3 : f.1 < g.1
  · have h3b : decide (f.1 < g.1) = true := decide_eq_true h3
    go_enter Tryz.func70, Tryz.ntmps70
    go_wp2
    go_ret
    exact ⟨ret_int (by unfold cmpF; rw [if_pos (of_decide_eq_true h3b)]), On.alloc (On.alloc (On.refl _) _) _⟩
  · have h3b : decide (f.1 < g.1) = false := decide_eq_false h3
    by_cases h4 : g.1 < f.1
    · have h4b : decide (g.1 < f.1) = true := decide_eq_true h4
      go_enter Tryz.func70, Tryz.ntmps70
      go_wp2
      go_ret
      exact ⟨ret_int (by unfold cmpF; rw [if_neg (of_decide_eq_false h3b), if_pos (of_decide_eq_true h4b)]), On.alloc (On.alloc (On.refl _) _) _⟩
    · have h4b : decide (g.1 < f.1) = false := decide_eq_false h4
      go_enter Tryz.func70, Tryz.ntmps70
      go_wp2_with (go_at_call 98; refine (l4Ints_calls _ _ _ _ _ f.2 g.2 (h0.on (On.alloc (On.alloc (On.refl _) _) _)) (h1.on (On.alloc (On.alloc (On.refl _) _) _))).mono ?_; rintro e w1 ⟨rfl, hb1⟩)
      go_ret
      exact ⟨ret_int (by unfold cmpF; rw [if_neg (of_decide_eq_false h3b), if_neg (of_decide_eq_false h4b)]), (On.alloc (On.alloc (On.refl _) _) _).trans hb1⟩
end Go.Proofs.YtgemaohdlibboaaGreatDoor.H
/- Walks: valid facts. No condition. -/
namespace Go.Proofs.YtgemaohdlibboaaGreatDoor.H
open Go Go.RowKit Go.Proofs.YtgemaohdlibboaaGreatDoorW.PrintWords Go.Proofs.YtgemaohdlibboaaGreatDoorW.PrintLast
open Go.Proofs.YtgemaohdlibboaaGreatDoor.Reg (On on_draw)
set_option maxHeartbeats 1000000
set_option maxRecDepth 100000
set_option linter.unusedVariables false
set_option linter.unusedSimpArgs false

theorem all_step {α : Type} (p : α → Bool) (l : List α) (k : Nat) (h : k < l.length) : (l.drop k).all p = (p l[k] && (l.drop (k + 1)).all p) := by
  rw [List.drop_eq_getElem_cons h]; rfl
theorem IsValidFact_calls (w : World) (A c) (rs : List Rel) (B d) (f : Fct) (h0 : Rels w A c rs) (h1 : Ints w B d f.2) : Calls Tryz.prog 47 #[.slice A rs.length c, .agg #[.int .i64 f.1, .slice B f.2.length d]] w fun e w' => e = .returned (.bool (okFact rs f)) ∧ On w w' := by
  have hm0 := h0.max
  have hm1 := h1.max
  have hw1 : IntKind.i64.wrap ((rs.length : Int) - 1) = (rs.length : Int) - 1 := IntWalk.i64_in _ (by omega)
  cases hr : okRels rs with
  | false =>
    have hr' := Aside0.mk hr
    clear hr
    go_enter Tryz.func47, Tryz.ntmps47
    go_wp2
    refine Reg.region [(0,.L),(1,.C),(2,.L),(3,.L),(4,.L),(5,.L),(6,.L),(7,.L),(8,.L),(9,.C),(10,.L),(11,.L),(12,.L),(13,.L),(14,.L),(15,.L),(16,.L),(17,.L),(18,.L),(19,.L),(20,.L),(21,.L),(22,.L),(23,.L)] [] (by kernel_rfl) (by kernel_rfl) ?_
    repeat first | refine sP ?_ | refine sS ?_ | refine sA ?_ | refine sL ?_ | refine sQ ?_ | refine sO ?_
    refine callC (.bool false) Tryz.func41 (fun w' hS => ?_) ?_
    focus exact (AreValidRelations_calls w' A c rs (h0.on ((On.alloc (On.refl _) _).trans hS))).mono fun e w'' h => ⟨by rw [h.1, hr'.out], h.2⟩
    repeat first | refine sP ?_ | refine sS ?_ | refine sA ?_ | refine sL ?_ | refine sQ ?_ | refine sO ?_
    refine Reg.nil fun w2 hS => ?_
    go_wp2
    go_ret
    exact ⟨ret_bool (by simp [okFact, hr'.out]), (On.alloc (On.refl _) _).trans hS⟩
  | true =>
    have hr' := Aside0.mk hr
    clear hr
    cases hi : within f.1 0 ((rs.length : Int) - 1) with
    | false =>
      have hi' := Aside0.mk hi
      clear hi
      go_enter Tryz.func47, Tryz.ntmps47
      go_wp2
      refine Reg.region [(0,.L),(1,.C),(2,.L),(3,.L),(4,.L),(5,.L),(6,.L),(7,.L),(8,.L),(9,.C),(10,.L),(11,.L),(12,.L),(13,.L),(14,.L),(15,.L),(16,.L),(17,.L),(18,.L),(19,.L),(20,.L),(21,.L),(22,.L),(23,.L)] [] (by kernel_rfl) (by kernel_rfl) ?_
      repeat first | refine sP ?_ | refine sS ?_ | refine sA ?_ | refine sL ?_ | refine sQ ?_ | refine sO ?_
      refine callC (.bool true) Tryz.func41 (fun w' hS => ?_) ?_
      focus exact (AreValidRelations_calls w' A c rs (h0.on ((On.alloc (On.refl _) _).trans hS))).mono fun e w'' h => ⟨by rw [h.1, hr'.out], h.2⟩
      repeat first | refine sP ?_ | refine sS ?_ | refine sA ?_ | refine sL ?_ | refine sQ ?_ | refine sO ?_
      refine callC (.bool false) Tryz.func93 (fun w' hS => ?_) ?_
      focus exact (l1In_calls w' _ _ _).mono fun e w'' h => ⟨by rw [h.1, hi'.out], h.2⟩
      repeat first | refine sP ?_ | refine sS ?_ | refine sA ?_ | refine sL ?_ | refine sQ ?_ | refine sO ?_
      refine Reg.nil fun w2 hS => ?_
      go_wp2
      go_ret
      exact ⟨ret_bool (by have := hi'.out; simp [within] at this; simp [okFact]; intros; omega), (On.alloc (On.refl _) _).trans hS⟩
    | true =>
      have hi' := Aside0.mk hi
      have hi2 : 0 ≤ f.1 ∧ f.1 ≤ (rs.length : Int) - 1 := by simpa [within] using hi
      clear hi
      rcases f with ⟨r, vs⟩
      obtain ⟨m, rfl⟩ : ∃ m : Nat, r = m := ⟨r.toNat, by omega⟩
      have hm : m < rs.length := by omega
      have har : arity rs (m : Int) = rs[m].2.1 := by simp [arity, hm]
      clear hi2
      dsimp only at *
      obtain ⟨ad, rfl, hx0, hx1, hx2⟩ := h0.at m hm
      have hbx := Aside0.mk (On.alloc (On.refl w) (.cells #[.int .i64 m, .slice B vs.length d] 60))
      have hx1' := (hbx.out.eq _ (by rw [hx1]; rfl)).trans hx1
      clear hx0 hx1 hx2
      cases hl : decide ((vs.length : Int) = rs[m].2.1) with
      | false =>
        have hl1 : ((vs.length : Int) == rs[m].2.1) = false := hl
        have hl2 : ((vs.length : Int) != rs[m].2.1) = true := by simp [bne, hl1]
        have hl' := Aside0.mk hl
        clear hl
        go_enter Tryz.func47, Tryz.ntmps47
        go_wp2
        refine Reg.region [(0,.L),(1,.C),(2,.L),(3,.L),(4,.L),(5,.L),(6,.L),(7,.L),(8,.L),(9,.C),(10,.L),(11,.L),(12,.L),(13,.L),(14,.L),(15,.L),(16,.L),(17,.L),(18,.L),(19,.L),(20,.L),(21,.L),(22,.L),(23,.L)] [] (by kernel_rfl) (by kernel_rfl) ?_
        repeat first | refine sP ?_ | refine sS ?_ | refine sA ?_ | refine sL ?_ | refine sQ ?_ | refine sO ?_
        refine callC (.bool true) Tryz.func41 (fun w' hS => ?_) ?_
        focus exact (AreValidRelations_calls w' (some ad) c rs (h0.on (hbx.out.trans hS))).mono fun e w'' h => ⟨by rw [h.1, hr'.out], h.2⟩
        repeat first | refine sP ?_ | refine sS ?_ | refine sA ?_ | refine sL ?_ | refine sQ ?_ | refine sO ?_
        refine callC (.bool true) Tryz.func93 (fun w' hS => ?_) ?_
        focus exact (l1In_calls w' _ _ _).mono fun e w'' h => ⟨by rw [h.1, hi'.out], h.2⟩
        repeat first | refine sP ?_ | refine sS ?_ | refine sA ?_ | refine sL ?_ | refine sQ ?_ | refine sO ?_
        refine Reg.nil fun w2 hS => ?_
        go_wp2
        go_ret
        have e1 : decide ((vs.length : Int) = arity rs (m : Int)) = false := by rw [har]; exact hl'.out
        exact ⟨ret_bool (by symm; unfold okFact; dsimp only; rw [e1, Bool.and_false, Bool.false_and]), hbx.out.trans hS⟩
      | true =>
        have hl0 : (vs.length : Int) = rs[m].2.1 := of_decide_eq_true hl
        have hl1 : ((vs.length : Int) == rs[m].2.1) = true := by simpa using hl0
        have hl2 : ((vs.length : Int) != rs[m].2.1) = false := by simp [bne, hl1]
        have hl' := Aside0.mk hl
        clear hl hl0
        go_enter Tryz.func47, Tryz.ntmps47
        go_wp2
        refine Reg.region [(0,.L),(1,.C),(2,.L),(3,.L),(4,.L),(5,.L),(6,.L),(7,.L),(8,.L),(9,.C),(10,.L),(11,.L),(12,.L),(13,.L),(14,.L),(15,.L),(16,.L),(17,.L),(18,.L),(19,.L),(20,.L),(21,.L),(22,.L),(23,.L)] [] (by kernel_rfl) (by kernel_rfl) ?_
        repeat first | refine sP ?_ | refine sS ?_ | refine sA ?_ | refine sL ?_ | refine sQ ?_ | refine sO ?_
        refine callC (.bool true) Tryz.func41 (fun w' hS => ?_) ?_
        focus exact (AreValidRelations_calls w' (some ad) c rs (h0.on (hbx.out.trans hS))).mono fun e w'' h => ⟨by rw [h.1, hr'.out], h.2⟩
        repeat first | refine sP ?_ | refine sS ?_ | refine sA ?_ | refine sL ?_ | refine sQ ?_ | refine sO ?_
        refine callC (.bool true) Tryz.func93 (fun w' hS => ?_) ?_
        focus exact (l1In_calls w' _ _ _).mono fun e w'' h => ⟨by rw [h.1, hi'.out], h.2⟩
        repeat first | refine sP ?_ | refine sS ?_ | refine sA ?_ | refine sL ?_ | refine sQ ?_ | refine sO ?_
        refine Reg.nil fun w2 hS => ?_
        clear hx1'
        have hL2 := Loc.on hS (loc1 w #[.int .i64 m, .slice B vs.length d] 60)
        have hc0 := blk_cell hL2.1
        go_wp2
        clear hc0
        go_loopw [5] (fun v wr => ∃ k : Nat, k ≤ vs.length ∧ v = .int .i64 k ∧ Hid ((vs.drop k).all okVal = vs.all okVal) ∧ On w wr ∧ Loc wr [(w.heap.size, #[.int .i64 m, .slice B vs.length d], 60)]) (fun v _ => vs.length - (intOf v).toNat)
        case atStart => exact ⟨0, Nat.zero_le _, rfl, rfl, hbx.out.trans hS, hL2⟩
        case round =>
          obtain ⟨k, hk, rfl, hp, hB, hL⟩ := hrel
          have hc0 := blk_cell hL.1
          have hL' := Aside0.mk hL
          clear hL
          by_cases hlt : k < vs.length
          · obtain ⟨bd, rfl, hx⟩ := (h1.on hB).at k hlt
            have hbd := h1.bd k hlt
            replace hp := Aside0.mk ((all_step okVal vs k hlt).symm.trans hp.out)
            cases hv : okVal vs[k] with
            | false =>
              have hv' := Aside0.mk hv
              clear hv
              go_wp2_with (go_at_call 94; refine (IsValidValue_calls _ _ hbd.1).mono ?_; rintro e w3 ⟨rfl, hb3⟩; rw [hv'.out])
              go_ret
              exact ⟨ret_bool (by have := hp.out; rw [hv'.out, Bool.false_and] at this; simp only [okFact, ← this, Bool.and_false]), hB.trans hb3⟩
            | true =>
              have hv' := Aside0.mk hv
              clear hv
              go_wp2_with (go_at_call 94; refine (IsValidValue_calls _ _ hbd.1).mono ?_; rintro e w3 ⟨rfl, hb3⟩; rw [hv'.out])
              go_roundw
              case rel => exact ⟨k + 1, by omega, by go_num, (by have := hp.out; rwa [hv'.out, Bool.true_and] at this : _ = _), hB.trans hb3, Loc.on hb3 hL'.out⟩
              case measure => simp [intOf]; omega
          · have hp' := Aside0.mk hp.out
            clear hp
            go_wp2
            go_ret
            exact ⟨ret_bool (by have := hp'.out; rw [List.drop_of_length_le (by omega)] at this; simp [okFact, ← this, hr'.out, har, hm]; have := beq_iff_eq.1 hl1; omega), hB⟩
end Go.Proofs.YtgemaohdlibboaaGreatDoor.H
/- Steps of these walks at this program: rows that are appended to, made, cut. No condition. -/
namespace Go.Proofs.YtgemaohdlibboaaGreatDoor.H
open Go Go.RowKit Go.Proofs.YtgemaohdlibboaaGreatDoorW.PrintWords Go.Proofs.YtgemaohdlibboaaGreatDoorW.PrintLast
open Go.Proofs.YtgemaohdlibboaaGreatDoor.Reg (On on_draw)
set_option linter.unusedVariables false
theorem infoI : (Tryz.prog.info? 3).map (fun i => (i.zero, i.size, i.bytes)) = some (some (.int .i64 0), 1, 8) := by kernel_rfl
theorem infoF : (Tryz.prog.info? 60).map (fun i => (i.zero, i.size, i.bytes)) = some (some (.agg #[.int .i64 0, .slice none 0 0]), 2, 32) := by kernel_rfl
theorem infoR : (Tryz.prog.info? 95).map (fun i => (i.zero, i.size, i.bytes)) = some (some (.agg #[.string ⟨#[]⟩, .int .i64 0, .bool false]), 3, 32) := by kernel_rfl
/-- A call hands back a value of which P holds. -/
structure Got (P : Value → World → Prop) (e : Ending) (w : World) : Prop where mk :: (out : ∃ v, e = .returned v ∧ P v w)
/-- The walk stands still here. -/
structure Stop (p : Prop) : Prop where mk :: (out : p)
/-- Rows of the call's own: from block lo on. -/
abbrev OInts (w : World) (lo : Nat) (v : Value) (xs : List Int) : Prop := kInts.R 3 w lo (fun _ => True) v xs
theorem OInts.on {W w : World} {lo : Nat} {v : Value} {xs : List Int} (h : OInts W lo v xs) (hb : On W w) : OInts w lo v xs := Kd.R_below h hb
theorem OInts.slice {w : World} {lo : Nat} {v : Value} {xs : List Int} (h : OInts w lo v xs) (hr : InR xs) : ∃ A c, v = .slice A xs.length c ∧ Ints w A c xs := by
  obtain ⟨A, c, e, h1, h2⟩ := Kd.R_reads h
  exact ⟨A, c, e, h1, h2, hr⟩
section
variable {ops : Array Oper} {rest : List Oper} {o : Oper} {a : Act} {Q : Exit → Act → World → Prop} {W : World}
theorem gate (N : Tmp) (h : Stop (wpList Tryz.prog ops Q (o :: rest) a W)) (hd : o.dst = some N := by rfl) : wpList Tryz.prog ops Q (o :: rest) a W := h.out
/-- append of a row that is read onto a row of one's own. -/
theorem apI (N : Tmp) {s x : Operand} {v : Value} {A : Option Addr} {m c base : Nat} {xs ys zs : List Int} (hz : xs ++ ys = zs)
    (HO : OInts W base v xs) (HR : kInts.C W A m ys) (hbase : base ≤ W.heap.size) (hl : xs.length + m ≤ 10000000000)
    (h : ∀ v1 w1, OInts w1 base v1 zs → W.grownBy w1 v.ownBlock → (v1.ownBlock = v.ownBlock ∨ ∃ b, v1.ownBlock = some b ∧ W.heap.size ≤ b) → wpList Tryz.prog ops Q rest (a.put (some N) v1) w1)
    (hop : o.op = .call { callee := .builtin .append, args := #[s, x], argTypes := #[39, 39] } := by rfl)
    (hd : o.dst = some N := by rfl) (hg : o.guard = none := by rfl) (hs : a.eval s = v := by rfl) (hx : a.eval x = .slice A m c := by rfl) : wpList Tryz.prog ops Q (o :: rest) a W := by
  subst hz
  refine Kd.R_append_row (Value.int .i64) (0 : Int) (h1 := fun _ => rfl) (w0 := W) base hg s x 39 3 (.int .i64 0) 8 hop Tryz.underlying39 infoI rfl (by omega) v xs ys A m c (fun _ => True) hs hx (fun _ _ => trivial) HO HR (Below.refl _ _) hbase (by omega) ?_
  intro v1 w1 h1 _ h3 h4
  rw [hd]
  exact h v1 w1 h1 h3 h4
/-- Cuts of a row that is read. -/
theorem slF (N : Tmp) {x y : Operand} {A : Option Addr} {c k : Nat} {xs : List Int} (HI : Ints W A c xs) (hk : k ≤ xs.length)
    (h : ∀ A' c', Ints W A' c' (xs.drop k) → wpList Tryz.prog ops Q rest (a.put (some N) (.slice A' (xs.drop k).length c')) W)
    (hop : o.op = .slice 39 x (some y) none none := by rfl) (hd : o.dst = some N := by rfl) (hg : o.guard = none := by rfl) (hx : a.eval x = .slice A xs.length c := by rfl) (hy : a.eval y = .int .i64 (k : Int) := by rfl) : wpList Tryz.prog ops Q (o :: rest) a W := by
  obtain ⟨i0, hi0, _, hsz, _⟩ := info_parts infoI
  have hcut := cut_from (P := Tryz.prog) 39 3 .i64 Tryz.underlying39 hi0 1 hsz A xs.length c (k : Int) (by omega) (by omega)
  have hr := Kd.C_drop (m := k) (c := c) HI.2.1 hk HI.1
  refine wpList_plain hg fun K hK => ?_
  have hrun : (execOp a.eval o).run Tryz.prog W = .ok (.value (.slice (if c = k then A else A.map (·.add (k * 1))) (xs.length - k) (c - k))) W := by
    unfold execOp
    simp only [hop, hx, hy, Option.map_some, Option.map_none]
    have := hcut W
    simp only [Int.toNat_natCast] at this
    go_simp
  unfold Oper.wp
  rw [hrun]
  refine hK _ _ ?_
  have h1 := h (if c = k then A else A.map (·.add (k * 1))) (c - k) ⟨by rw [List.length_drop]; have := HI.1; omega, hr, fun z hz => HI.2.2 z (List.mem_of_mem_drop hz)⟩
  rw [List.length_drop] at h1
  rw [hd]
  exact h1
theorem slT (N : Tmp) {x y : Operand} {A : Option Addr} {c k : Nat} {xs : List Int} (HI : Ints W A c xs) (hk : k ≤ xs.length)
    (h : Ints W A c (xs.take k) → wpList Tryz.prog ops Q rest (a.put (some N) (.slice A (xs.take k).length c)) W)
    (hop : o.op = .slice 39 x none (some y) none := by rfl) (hd : o.dst = some N := by rfl) (hg : o.guard = none := by rfl) (hx : a.eval x = .slice A xs.length c := by rfl) (hy : a.eval y = .int .i64 (k : Int) := by rfl) : wpList Tryz.prog ops Q (o :: rest) a W := by
  obtain ⟨i0, hi0, _, hsz, _⟩ := info_parts infoI
  have hcut := cut_to (P := Tryz.prog) 39 3 .i64 Tryz.underlying39 hi0 A xs.length c (k : Int) (by omega) (by omega) HI.1
  have hr := Kd.C_take (m := k) HI.2.1 hk
  refine wpList_plain hg fun K hK => ?_
  have hrun : (execOp a.eval o).run Tryz.prog W = .ok (.value (.slice A k c)) W := by
    unfold execOp
    simp only [hop, hx, hy, Option.map_some, Option.map_none]
    have := hcut W
    simp only [Int.toNat_natCast] at this
    go_simp
  unfold Oper.wp
  rw [hrun]
  refine hK _ _ ?_
  have hl : (xs.take k).length = k := by rw [List.length_take]; omega
  have h1 := h ⟨by rw [hl]; have := HI.1; omega, hr, fun z hz => HI.2.2 z (List.mem_of_mem_take hz)⟩
  rw [hl] at h1
  rw [hd]
  exact h1
end
/-- Literals. -/
theorem own0 (W : World) : OInts (W.alloc (.cells #[] 3)) W.heap.size (.slice (some ⟨W.heap.size, 0, none⟩) 0 0) [] := by
  have h := World.ownsRow_lit (base := W.heap.size) (e := 3) (size := 1) W #[] 0 (Nat.le_refl _) (by simp [maxLen]) (by simp)
  exact ⟨fun _ _ => trivial, [], h, Reps.none _ _⟩
theorem own1 (W : World) (x : Int) : OInts (W.alloc (.cells #[.int .i64 x] 3)) W.heap.size (.slice (some ⟨W.heap.size, 0, none⟩) 1 1) [x] := by
  have h := World.ownsRow_lit (base := W.heap.size) (e := 3) (size := 1) W #[.int .i64 x] 1 (Nat.le_refl _) (by simp [maxLen]) (by simp)
  exact ⟨fun _ _ => trivial, [.int .i64 x], h, ⟨rfl, fun j p hj => by
    cases j with
    | zero => simp at hj; subst hj; rfl
    | succ j => simp at hj⟩⟩
theorem on_grown {w W w1 : World} {row : Option Nat} (h : On w W) (hg : W.grownBy w1 row) (hr : ∀ k, row = some k → w.heap.size ≤ k) : On w w1 := h.grown hg h.size hr
theorem own0' {W : World} {g lo : Nat} (hg : g = W.heap.size) (hlo : lo ≤ W.heap.size) : OInts (W.alloc (.cells #[] 3)) lo (.slice (some ⟨g, 0, none⟩) 0 0) [] := by
  subst hg; exact Kd.R_lower (own0 W) hlo
theorem grown_own {α : Type} {d : Kd α} {e : Nat} {w W w1 : World} {lo : Nat} {ok : Nat → Prop} {v : Value} {xs : List α} (h : On w W) (hO : d.R e W lo ok v xs) (hg : W.grownBy w1 v.ownBlock) (hlo : w.heap.size ≤ lo) : On w w1 :=
  on_grown h hg fun k hk => Nat.le_trans hlo (Kd.R_base hO k hk)
end Go.Proofs.YtgemaohdlibboaaGreatDoor.H
/- Walks: nulls. No condition. -/
namespace Go.Proofs.YtgemaohdlibboaaGreatDoor.H
open Go Go.RowKit Go.Proofs.YtgemaohdlibboaaGreatDoorW.PrintWords Go.Proofs.YtgemaohdlibboaaGreatDoorW.PrintLast
open Go.Proofs.YtgemaohdlibboaaGreatDoor.Reg (On on_draw)
set_option maxHeartbeats 1000000
set_option maxRecDepth 100000
set_option linter.unusedVariables false
set_option linter.unusedSimpArgs false

theorem l4Put_calls (w : World) (lo : Nat) (hlo : lo ≤ w.heap.size) (v : Value) (l : List Int) (x : Int) (hO : OInts w lo v l) (hr : InR l) (hl : l.length ≤ 5000000000) :
    Calls Tryz.prog 104 #[v, .int .i64 x] w (Got fun v' w' => OInts w' lo v' (put l x) ∧ On w w') := by
  obtain ⟨A, c, rfl, hI⟩ := OInts.slice hO hr
  go_enter Tryz.func104, Tryz.ntmps104
  go_wp2
  go_loop [5] (fun v => ∃ k : Nat, k ≤ l.length ∧ v = .int .i64 k ∧ Hid (∀ j, (h : j < l.length) → j < k → l[j] < x)) (fun v => l.length - (intOf v).toNat)
  case atStart => exact ⟨0, Nat.zero_le _, rfl, fun j _ h => by omega⟩
  case round =>
    obtain ⟨k, hk, rfl, hp⟩ := hrel
    by_cases hlt : k < l.length
    · obtain ⟨ad, rfl, hx⟩ := hI.at k hlt
      by_cases h1 : l[k] < x
      · have h1b : decide (l[k] < x) = true := decide_eq_true h1
        have hp2 := Aside0.mk hp.out
        clear hp
        go_wp2
        go_round
        case rel => exact ⟨k + 1, by omega, by go_num, fun j hj h => by
          rcases Nat.lt_or_ge j k with h2 | h2
          · exact hp2.out j hj h2
          · obtain rfl : j = k := by omega
            exact of_decide_eq_true h1b⟩
        case measure => simp [intOf]; omega
      · have h1b : decide (l[k] < x) = false := decide_eq_false h1
        have hm := Aside0.mk (put_mid l x k hlt (fun j h => hp.out j (by omega) h) h1)
        clear hp
        by_cases h2 : l[k] = x
        · have h2b : (l[k] == x) = true := beq_iff_eq.mpr h2
          go_wp2
          go_ret
          exact ⟨_, rfl, by rw [hm.out, if_pos (beq_iff_eq.1 h2b)]; exact hO, On.refl _⟩
        · have h2b : (l[k] == x) = false := beq_eq_false_iff_ne.mpr h2
          go_wp2_with (refine gate 38 ?_)
          refine ⟨slF 38 (hI.on (On.alloc (On.refl _) _)) hk fun A1 c1 hI1 => ?_⟩
          obtain ⟨ys, hys⟩ : ∃ ys, [x] ++ l.drop k = ys := ⟨_, rfl⟩
          have hys' := Aside0.mk hys
          refine apI 39 hys (own1 w x) hI1.2.1 (by simp) (by simp; omega) fun v2 w2 hO2 hg2 hat2 => ?_
          clear hys
          have hB2 : On w w2 := grown_own (On.alloc (On.refl _) _) (own1 w x) hg2 (Nat.le_refl _)
          go_wp2_with (refine gate 43 ?_)
          refine ⟨slT 43 (hI.on (hB2.trans (On.alloc (On.refl _) _))) hk fun hI3 => ?_⟩
          refine apI 44 (List.nil_append _) (own0 w2) hI3.2.1 (by simp) (by simp; omega) fun v4 w4 hO4 hg4 hat4 => ?_
          have hB4 : On w2 w4 := grown_own (On.alloc (On.refl _) _) (own0 w2) hg4 (Nat.le_refl _)
          obtain ⟨A2, c2, rfl, _, hC2⟩ := Kd.R_reads (OInts.on hO2 hB4)
          go_wp2_with (refine gate 46 ?_)
          obtain ⟨zs, hzs⟩ : ∃ zs, l.take k ++ ys = zs := ⟨_, rfl⟩
          have hzs' := Aside0.mk hzs
          refine ⟨apI 46 hzs hO4 hC2 hB4.size (by have := congrArg List.length hys'.out; simp at this ⊢; omega) fun v6 w6 hO6 hg6 hat6 => ?_⟩
          clear hzs
          have hB6 : On w w6 := hB2.trans (grown_own hB4 hO4 hg6 (Nat.le_refl _))
          go_wp2
          go_ret
          exact ⟨_, rfl, by rw [hm.out, if_neg (beq_eq_false_iff_ne.1 h2b)]; have h9 := Kd.R_lower hO6 (base' := lo) (by have := hB2.size; omega); rw [← hzs'.out, ← hys'.out] at h9; simpa using h9, hB6⟩
    · obtain rfl : k = l.length := by omega
      have hm := Aside0.mk (put_end l x (fun j h => hp.out j h h))
      clear hp
      go_wp2_with (refine gate 38 ?_)
      refine ⟨slF 38 (hI.on (On.alloc (On.refl _) _)) hk fun A1 c1 hI1 => ?_⟩
      obtain ⟨ys, hys⟩ : ∃ ys, [x] ++ l.drop l.length = ys := ⟨_, rfl⟩
      have hys' := Aside0.mk hys
      refine apI 39 hys (own1 w x) hI1.2.1 (by simp) (by simp) fun v2 w2 hO2 hg2 hat2 => ?_
      clear hys
      have hB2 : On w w2 := grown_own (On.alloc (On.refl _) _) (own1 w x) hg2 (Nat.le_refl _)
      go_wp2_with (refine gate 43 ?_)
      refine ⟨slT 43 (hI.on (hB2.trans (On.alloc (On.refl _) _))) hk fun hI3 => ?_⟩
      refine apI 44 (List.nil_append _) (own0 w2) hI3.2.1 (by simp) (by simp; omega) fun v4 w4 hO4 hg4 hat4 => ?_
      have hB4 : On w2 w4 := grown_own (On.alloc (On.refl _) _) (own0 w2) hg4 (Nat.le_refl _)
      obtain ⟨A2, c2, rfl, _, hC2⟩ := Kd.R_reads (OInts.on hO2 hB4)
      go_wp2_with (refine gate 46 ?_)
      obtain ⟨zs, hzs⟩ : ∃ zs, l.take l.length ++ ys = zs := ⟨_, rfl⟩
      have hzs' := Aside0.mk hzs
      refine ⟨apI 46 hzs hO4 hC2 hB4.size (by have := congrArg List.length hys'.out; simp at this ⊢; omega) fun v6 w6 hO6 hg6 hat6 => ?_⟩
      clear hzs
      have hB6 : On w w6 := hB2.trans (grown_own hB4 hO4 hg6 (Nat.le_refl _))
      go_wp2
      go_ret
      exact ⟨_, rfl, by rw [hm.out]; have h9 := Kd.R_lower hO6 (base' := lo) (by have := hB2.size; omega); rw [← hzs'.out, ← hys'.out] at h9; simpa using h9, hB6⟩
theorem NullsOfFact_calls (w : World) (A : Option Addr) (c : Nat) (r : Int) (vs : List Int) (hI : Ints w A c vs) (hl : vs.length ≤ 1000000000) :
    Calls Tryz.prog 71 #[.agg #[.int .i64 r, .slice A vs.length c]] w (Got fun v' w' => OInts w' w.heap.size v' (nuls vs) ∧ On w w') := by
  go_enter Tryz.func71, Tryz.ntmps71
  go_wp2
  go_loopw [3, 4] (fun v3 v4 wr => ∃ (k : Nat) (out : List Int), k ≤ vs.length ∧ v4 = .int .i64 k ∧ Aside0 (OInts wr w.heap.size v3 out) ∧ Aside0 (nulsFrom out (vs.drop k) = nuls vs) ∧ out.length ≤ k ∧ Aside0 (InR out) ∧ On w wr ∧ Loc wr [(w.heap.size, #[.int .i64 r, .slice A vs.length c], 60)]) (fun _ v4 _ => vs.length - (intOf v4).toNat)
  case atStart => exact ⟨0, [], Nat.zero_le _, rfl, ⟨own0' (by simp) (by simp)⟩, ⟨rfl⟩, Nat.zero_le _, ⟨fun x hx => by cases hx⟩, On.alloc (On.alloc (On.refl _) _) _, Loc.on (On.alloc (On.refl _) _) (loc1 _ _ _)⟩
  case round =>
    obtain ⟨k, out, hk, rfl, hO, hp, hlen, hR, hB, hL⟩ := hrel
    have hc0 := blk_cell hL.1
    have hL' := Aside0.mk hL
    clear hL
    by_cases hlt : k < vs.length
    · obtain ⟨ad, rfl, hx⟩ := (hI.on hB).at k hlt
      have hbd := hI.bd k hlt
      have hst := Aside0.mk ((nulsFrom_step out vs k hlt).symm.trans hp.out)
      clear hp
      cases hn : isNul vs[k] with
      | false =>
        have hn' := Aside0.mk hn
        clear hn
        go_wp2_with (go_at_call 146; refine (NullNumber_calls _ _ hbd.1).mono ?_; rintro e w2 ⟨rfl, hb2⟩; rw [hn'.out])
        go_roundw
        case rel => exact ⟨k + 1, out, by omega, by go_num, ⟨OInts.on hO.out hb2⟩, ⟨by have := hst.out; rwa [hn'.out, if_neg (by simp)] at this⟩, by omega, hR, hB.trans hb2, Loc.on hb2 hL'.out⟩
        case measure => simp [intOf]; omega
      | true =>
        have hn' := Aside0.mk hn
        clear hn
        have hnb := nulNum_bd vs[k]
        go_wp2_with (first | (go_at_call 146; refine (NullNumber_calls _ _ hbd.1).mono ?_; rintro e w2 ⟨rfl, hb2⟩; rw [hn'.out]) | (go_at_call 104; refine (l4Put_calls w2 w.heap.size (hB.trans hb2).size _ out (nulNum vs[k]) (OInts.on hO.out hb2) hR.out (by omega)).mono ?_; rintro e w3 ⟨v3, rfl, hO3, hb3⟩))
        go_roundw
        case rel => exact ⟨k + 1, put out (nulNum vs[k]), by omega, by go_num, ⟨hO3⟩, ⟨by have := hst.out; rwa [hn'.out, if_pos rfl] at this⟩, by have := put_length out (nulNum vs[k]); omega, ⟨put_inR hR.out (by omega) (by omega)⟩, (hB.trans hb2).trans hb3, Loc.on (hb2.trans hb3) hL'.out⟩
        case measure => simp [intOf]; omega
    · have hp' := Aside0.mk hp.out
      clear hp
      go_wp2
      go_ret
      exact ⟨_, rfl, by have := hp'.out; rw [List.drop_of_length_le (by omega)] at this; rw [← this]; exact hO.out, hB⟩
end Go.Proofs.YtgemaohdlibboaaGreatDoor.H
/- Walks: valid instances. No condition. -/
namespace Go.Proofs.YtgemaohdlibboaaGreatDoor.H
open Go Go.RowKit Go.Proofs.YtgemaohdlibboaaGreatDoorW.PrintWords Go.Proofs.YtgemaohdlibboaaGreatDoorW.PrintLast
open Go.Proofs.YtgemaohdlibboaaGreatDoor.Reg (On on_draw)
set_option maxHeartbeats 8000000
set_option maxRecDepth 100000
set_option linter.unusedVariables false
set_option linter.unusedSimpArgs false

theorem IsValidInstance_calls (w : World) (A0 c0 A1 c1) (rs : List Rel) (fs : List Fct) (h0 : Rels w A0 c0 rs) (h1 : Fcts w A1 c1 fs) :
    Calls Tryz.prog 18 #[.agg #[.slice A0 rs.length c0, .slice A1 fs.length c1]] w fun e w' => e = .returned (.bool (okInst rs fs)) ∧ On w w' := by
  have hm0 := h0.max
  have hm1 := h1.max
  go_enter Tryz.func18, Tryz.ntmps18
  go_wp2
  go_loopw [3] (fun v wr => ∃ k : Nat, k ≤ fs.length ∧ v = .int .i64 k ∧ Hid (factsFrom rs (prevFct fs k) (fs.drop k) = factsFrom rs none fs) ∧ On w wr ∧ Loc wr [(w.heap.size, #[.slice A0 rs.length c0, .slice A1 fs.length c1], 25)]) (fun v _ => fs.length - (intOf v).toNat)
  case atStart => exact ⟨0, Nat.zero_le _, rfl, rfl, On.alloc (On.refl _) _, loc1 _ _ _⟩
  case round =>
    obtain ⟨k, hk, rfl, hp, hB, hL⟩ := hrel
    have hc0 := blk_cell hL.1
    have hL' := Aside0.mk hL
    clear hL
    by_cases hlt : k < fs.length
    · obtain ⟨ad, A3, c3, rfl, hx0, hx1, hx2'⟩ := (h1.on hB).at k hlt
      have hfill := alloc_fill wr
      have hst := Aside0.mk ((factsFrom_step rs fs k hlt).symm.trans hp.out)
      have hbx := Aside0.mk (On.alloc (On.refl wr) (.cells #[.int .i64 fs[k].1, .slice A3 fs[k].2.length c3] 60))
      have hB2 := Aside0.mk (hB.trans hbx.out)
      have hcn := blk_cell (loc_new wr #[.int .i64 fs[k].1, .slice A3 fs[k].2.length c3] 60)
      have hcm := blk_cell (Loc.on hbx.out hL'.out).1
      clear hp
      cases hok0 : okFact rs fs[k] with
      | false =>
        have hok := Aside0.mk hok0
        clear hok0
        go_wp2
        refine Reg.region [(0,.L),(1,.L),(2,.L),(3,.C),(4,.L),(5,.L),(6,.L),(7,.L),(8,.L),(9,.L),(10,.L),(11,.L),(12,.L),(13,.L),(14,.L),(15,.L),(16,.C),(17,.L),(18,.L),(19,.L),(20,.L),(21,.L),(22,.L),(23,.L),(24,.L),(25,.L),(26,.L),(27,.L),(28,.L),(29,.L),(30,.N),(31,.L),(32,.L),(33,.L),(34,.L)] [] (by kernel_rfl) (by kernel_rfl) ?_
        repeat first | refine sP ?_ | refine sS ?_ | refine sA ?_ | refine sL ?_ | refine sQ ?_ | refine sO ?_
        refine callC (.bool false) Tryz.func47 (fun w' hS => ?_) ?_
        focus exact (IsValidFact_calls w' _ c0 rs _ c3 fs[k] (h0.on (hB2.out.trans hS)) (hx2'.on (hbx.out.trans hS))).mono fun e w'' h => ⟨by rw [h.1, hok.out], h.2⟩
        repeat first | refine sP ?_ | refine sS ?_ | refine sA ?_ | refine sL ?_ | refine sQ ?_ | refine sO ?_
        refine Reg.nil fun w2 hS => ?_
        go_wp2
        go_ret
        exact ⟨ret_bool (by have := hst.out; unfold okNext at this; rw [hok.out] at this; simp at this; simp [okInst, this]), hB2.out.trans hS⟩
      | true =>
        have hok := Aside0.mk hok0
        have hat := okFact_at hok0
        clear hok0
        have hat1 : fs[k].1.toNat < rs.length := by omega
        have hat2 : 0 ≤ fs[k].1 := hat.1
        have hat3 : fs[k].1 < rs.length := hat.2
        obtain ⟨ad0, rfl, _, _, hxs0⟩ := (h0.on hB2.out).at fs[k].1.toNat hat1
        have hxs : (wr.alloc (.cells #[.int .i64 fs[k].1, .slice A3 fs[k].2.length c3] 60)).cell? ⟨(ad0.add (fs[k].1.toNat * 3)).block, (ad0.add (fs[k].1.toNat * 3)).off + 2, none⟩ = some (.bool (srcOf rs fs[k].1)) := by rw [hxs0]; simp [srcOf, hat1]
        clear hxs0 hat
        by_cases hk0 : 0 < k
        · have hk0' : decide (0 < (k : Int)) = true := decide_eq_true (by omega)
          have hki : IntKind.i64.wrap ((k : Int) - 1) = ((k - 1 : Nat) : Int) := by rw [IntWalk.i64_in _ (by omega)]; omega
          have hk1 : k - 1 < fs.length := by omega
          obtain ⟨ad', A4, c4, e', hy0, hy1, hy2⟩ := (h1.on hB2.out).at (k - 1) hk1
          obtain rfl : ad = ad' := by simpa using e'
          have hpn : prevFct fs k = some fs[k - 1] := by simp [prevFct, show ¬ k = 0 by omega, show k - 1 < fs.length by omega]
          by_cases hc : cmpF fs[k - 1] fs[k] < 0
          · have hcb : decide (0 ≤ cmpF fs[k - 1] fs[k]) = false := decide_eq_false (by omega)
            have hpv := Aside0.mk (show okPrev (prevFct fs k) fs[k] = true by rw [hpn]; exact decide_eq_true hc)
            clear hc hpn
            cases hs : srcOf rs fs[k].1 with
            | false =>
              rw [hs] at hxs
              have hs' := Aside0.mk hs
              clear hs
              go_wp2
              refine Reg.region [(0,.L),(1,.L),(2,.L),(3,.C),(4,.L),(5,.L),(6,.L),(7,.L),(8,.L),(9,.L),(10,.L),(11,.L),(12,.L),(13,.L),(14,.L),(15,.L),(16,.C),(17,.L),(18,.L),(19,.L),(20,.L),(21,.L),(22,.L),(23,.L),(24,.L),(25,.L),(26,.L),(27,.L),(28,.L),(29,.L),(30,.N),(31,.L),(32,.L),(33,.L),(34,.L)] [] (by kernel_rfl) (by kernel_rfl) ?_
              repeat first | refine sP ?_ | refine sS ?_ | refine sA ?_ | refine sL ?_ | refine sQ ?_ | refine sO ?_
              refine callC (.bool true) Tryz.func47 (fun w' hS => ?_) ?_
              focus exact (IsValidFact_calls w' _ c0 rs _ c3 fs[k] (h0.on (hB2.out.trans hS)) (hx2'.on (hbx.out.trans hS))).mono fun e w'' h => ⟨by rw [h.1, hok.out], h.2⟩
              repeat first | refine sP ?_ | refine sS ?_ | refine sA ?_ | refine sL ?_ | refine sQ ?_ | refine sO ?_
              refine callC (.int .i64 (cmpF fs[k - 1] fs[k])) Tryz.func70 (fun w' hS => ?_) ?_
              focus exact CompareFacts_calls w' A4 c4 A3 c3 fs[k - 1] fs[k] (hy2.on hS) (hx2'.on (hbx.out.trans hS))
              repeat first | refine sP ?_ | refine sS ?_ | refine sA ?_ | refine sL ?_ | refine sQ ?_ | refine sO ?_
              refine Reg.nil fun w2 hS => ?_
              go_wp2
              go_roundw
              case rel => exact ⟨k + 1, by omega, by go_num, (by have := hst.out; unfold okNext at this; rw [hok.out, hpv.out, hs'.out] at this; simpa using this : _ = _), hB2.out.trans hS, Loc.on (hbx.out.trans hS) hL'.out⟩
              case measure => simp [intOf]; omega
            | true =>
              rw [hs] at hxs
              have hs' := Aside0.mk hs
              clear hs
              by_cases hz : (nuls fs[k].2).length = 0
              · have hzb : decide (0 < ((nuls fs[k].2).length : Int)) = false := decide_eq_false (by omega)
                have hzc : decide (0 < (nuls fs[k].2).length) = false := decide_eq_false (by omega)
                have hz' := Aside0.mk hz
                clear hz
                go_wp2
                refine Reg.region [(0,.L),(1,.L),(2,.L),(3,.C),(4,.L),(5,.L),(6,.L),(7,.L),(8,.L),(9,.L),(10,.L),(11,.L),(12,.L),(13,.L),(14,.L),(15,.L),(16,.C),(17,.L),(18,.L),(19,.L),(20,.L),(21,.L),(22,.L),(23,.L),(24,.L),(25,.L),(26,.L),(27,.L),(28,.L),(29,.L),(30,.N),(31,.L),(32,.L),(33,.L),(34,.L)] [] (by kernel_rfl) (by kernel_rfl) ?_
                repeat first | refine sP ?_ | refine sS ?_ | refine sA ?_ | refine sL ?_ | refine sQ ?_ | refine sO ?_
                refine callC (.bool true) Tryz.func47 (fun w' hS => ?_) ?_
                focus exact (IsValidFact_calls w' _ c0 rs _ c3 fs[k] (h0.on (hB2.out.trans hS)) (hx2'.on (hbx.out.trans hS))).mono fun e w'' h => ⟨by rw [h.1, hok.out], h.2⟩
                repeat first | refine sP ?_ | refine sS ?_ | refine sA ?_ | refine sL ?_ | refine sQ ?_ | refine sO ?_
                refine callC (.int .i64 (cmpF fs[k - 1] fs[k])) Tryz.func70 (fun w' hS => ?_) ?_
                focus exact CompareFacts_calls w' A4 c4 A3 c3 fs[k - 1] fs[k] (hy2.on hS) (hx2'.on (hbx.out.trans hS))
                repeat first | refine sP ?_ | refine sS ?_ | refine sA ?_ | refine sL ?_ | refine sQ ?_ | refine sO ?_
                refine callN Tryz.func71 (fun w' hS => ?_)
                focus
                  refine (NullsOfFact_calls w' A3 c3 fs[k].1 fs[k].2 (hx2'.on (hbx.out.trans hS)) (Nat.le_trans (okFact_len hok.out) (by omega))).mono ?_
                  rintro e w2 ⟨v, rfl, hO, hb⟩
                  refine ⟨v, rfl, hb, fun a' ha => ?_⟩
                  simp only [Act.put, List.setIfInBounds_toArray, List.set_cons_zero, List.set_cons_succ] at ha
                  subst ha
                  obtain ⟨A5, c5, rfl⟩ := Kd.R_slice hO
                  have hS2 := Aside0.mk (hS.trans hb)
                  clear hO hb hS
                repeat first | refine sP ?_ | refine sS ?_ | refine sA ?_ | refine sL ?_ | refine sQ ?_ | refine sO ?_
                refine Reg.nil fun w3 hS3 => ?_
                go_wp2
                exact ⟨⟨k + 1, by omega, by go_num, (by have := hst.out; unfold okNext at this; rw [hok.out, hpv.out, hs'.out, hz'.out] at this; simpa using this : _ = _), (hB2.out.trans hS2.out).trans hS3, Loc.on ((hbx.out.trans hS2.out).trans hS3) hL'.out⟩, by simp [intOf]; omega⟩
              · have hzb : decide (0 < ((nuls fs[k].2).length : Int)) = true := decide_eq_true (by omega)
                have hzc : decide (0 < (nuls fs[k].2).length) = true := decide_eq_true (by omega)
                have hz' := Aside0.mk (decide_eq_false hz)
                clear hz
                go_wp2
                refine Reg.region [(0,.L),(1,.L),(2,.L),(3,.C),(4,.L),(5,.L),(6,.L),(7,.L),(8,.L),(9,.L),(10,.L),(11,.L),(12,.L),(13,.L),(14,.L),(15,.L),(16,.C),(17,.L),(18,.L),(19,.L),(20,.L),(21,.L),(22,.L),(23,.L),(24,.L),(25,.L),(26,.L),(27,.L),(28,.L),(29,.L),(30,.N),(31,.L),(32,.L),(33,.L),(34,.L)] [] (by kernel_rfl) (by kernel_rfl) ?_
                repeat first | refine sP ?_ | refine sS ?_ | refine sA ?_ | refine sL ?_ | refine sQ ?_ | refine sO ?_
                refine callC (.bool true) Tryz.func47 (fun w' hS => ?_) ?_
                focus exact (IsValidFact_calls w' _ c0 rs _ c3 fs[k] (h0.on (hB2.out.trans hS)) (hx2'.on (hbx.out.trans hS))).mono fun e w'' h => ⟨by rw [h.1, hok.out], h.2⟩
                repeat first | refine sP ?_ | refine sS ?_ | refine sA ?_ | refine sL ?_ | refine sQ ?_ | refine sO ?_
                refine callC (.int .i64 (cmpF fs[k - 1] fs[k])) Tryz.func70 (fun w' hS => ?_) ?_
                focus exact CompareFacts_calls w' A4 c4 A3 c3 fs[k - 1] fs[k] (hy2.on hS) (hx2'.on (hbx.out.trans hS))
                repeat first | refine sP ?_ | refine sS ?_ | refine sA ?_ | refine sL ?_ | refine sQ ?_ | refine sO ?_
                refine callN Tryz.func71 (fun w' hS => ?_)
                focus
                  refine (NullsOfFact_calls w' A3 c3 fs[k].1 fs[k].2 (hx2'.on (hbx.out.trans hS)) (Nat.le_trans (okFact_len hok.out) (by omega))).mono ?_
                  rintro e w2 ⟨v, rfl, hO, hb⟩
                  refine ⟨v, rfl, hb, fun a' ha => ?_⟩
                  simp only [Act.put, List.setIfInBounds_toArray, List.set_cons_zero, List.set_cons_succ] at ha
                  subst ha
                  obtain ⟨A5, c5, rfl⟩ := Kd.R_slice hO
                  have hS2 := Aside0.mk (hS.trans hb)
                  clear hO hb hS
                repeat first | refine sP ?_ | refine sS ?_ | refine sA ?_ | refine sL ?_ | refine sQ ?_ | refine sO ?_
                refine Reg.nil fun w3 hS3 => ?_
                go_wp2
                go_ret
                exact ⟨ret_bool (by have := hst.out; unfold okNext at this; rw [hok.out, hpv.out, hs'.out, hz'.out] at this; simp at this; simp [okInst, this]), (hB2.out.trans hS2.out).trans hS3⟩
          · have hcb : decide (0 ≤ cmpF fs[k - 1] fs[k]) = true := decide_eq_true (by omega)
            have hpv := Aside0.mk (show okPrev (prevFct fs k) fs[k] = false by rw [hpn]; exact decide_eq_false hc)
            clear hc hpn
            go_wp2
            refine Reg.region [(0,.L),(1,.L),(2,.L),(3,.C),(4,.L),(5,.L),(6,.L),(7,.L),(8,.L),(9,.L),(10,.L),(11,.L),(12,.L),(13,.L),(14,.L),(15,.L),(16,.C),(17,.L),(18,.L),(19,.L),(20,.L),(21,.L),(22,.L),(23,.L),(24,.L),(25,.L),(26,.L),(27,.L),(28,.L),(29,.L),(30,.N),(31,.L),(32,.L),(33,.L),(34,.L)] [] (by kernel_rfl) (by kernel_rfl) ?_
            repeat first | refine sP ?_ | refine sS ?_ | refine sA ?_ | refine sL ?_ | refine sQ ?_ | refine sO ?_
            refine callC (.bool true) Tryz.func47 (fun w' hS => ?_) ?_
            focus exact (IsValidFact_calls w' _ c0 rs _ c3 fs[k] (h0.on (hB2.out.trans hS)) (hx2'.on (hbx.out.trans hS))).mono fun e w'' h => ⟨by rw [h.1, hok.out], h.2⟩
            repeat first | refine sP ?_ | refine sS ?_ | refine sA ?_ | refine sL ?_ | refine sQ ?_ | refine sO ?_
            refine callC (.int .i64 (cmpF fs[k - 1] fs[k])) Tryz.func70 (fun w' hS => ?_) ?_
            focus exact CompareFacts_calls w' A4 c4 A3 c3 fs[k - 1] fs[k] (hy2.on hS) (hx2'.on (hbx.out.trans hS))
            repeat first | refine sP ?_ | refine sS ?_ | refine sA ?_ | refine sL ?_ | refine sQ ?_ | refine sO ?_
            refine Reg.nil fun w2 hS => ?_
            go_wp2
            go_ret
            exact ⟨ret_bool (by have := hst.out; unfold okNext at this; rw [hok.out, hpv.out] at this; simp at this; simp [okInst, this]), hB2.out.trans hS⟩
        · have hk0' : decide (0 < (k : Int)) = false := decide_eq_false (by omega)
          have hpv := Aside0.mk (show okPrev (prevFct fs k) fs[k] = true by simp [okPrev, prevFct, show k = 0 by omega])
          cases hs : srcOf rs fs[k].1 with
          | false =>
            rw [hs] at hxs
            have hs' := Aside0.mk hs
            clear hs
            go_wp2
            refine Reg.region [(0,.L),(1,.L),(2,.L),(3,.C),(4,.L),(5,.L),(6,.L),(7,.L),(8,.L),(9,.L),(10,.L),(11,.L),(12,.L),(13,.L),(14,.L),(15,.L),(16,.C),(17,.L),(18,.L),(19,.L),(20,.L),(21,.L),(22,.L),(23,.L),(24,.L),(25,.L),(26,.L),(27,.L),(28,.L),(29,.L),(30,.N),(31,.L),(32,.L),(33,.L),(34,.L)] [] (by kernel_rfl) (by kernel_rfl) ?_
            repeat first | refine sP ?_ | refine sS ?_ | refine sA ?_ | refine sL ?_ | refine sQ ?_ | refine sO ?_
            refine callC (.bool true) Tryz.func47 (fun w' hS => ?_) ?_
            focus exact (IsValidFact_calls w' _ c0 rs _ c3 fs[k] (h0.on (hB2.out.trans hS)) (hx2'.on (hbx.out.trans hS))).mono fun e w'' h => ⟨by rw [h.1, hok.out], h.2⟩
            repeat first | refine sP ?_ | refine sS ?_ | refine sA ?_ | refine sL ?_ | refine sQ ?_ | refine sO ?_
            refine Reg.nil fun w2 hS => ?_
            go_wp2
            go_roundw
            case rel => exact ⟨k + 1, by omega, by go_num, (by have := hst.out; unfold okNext at this; rw [hok.out, hpv.out, hs'.out] at this; simpa using this : _ = _), hB2.out.trans hS, Loc.on (hbx.out.trans hS) hL'.out⟩
            case measure => simp [intOf]; omega
          | true =>
            rw [hs] at hxs
            have hs' := Aside0.mk hs
            clear hs
            by_cases hz : (nuls fs[k].2).length = 0
            · have hzb : decide (0 < ((nuls fs[k].2).length : Int)) = false := decide_eq_false (by omega)
              have hzc : decide (0 < (nuls fs[k].2).length) = false := decide_eq_false (by omega)
              have hz' := Aside0.mk hz
              clear hz
              go_wp2
              refine Reg.region [(0,.L),(1,.L),(2,.L),(3,.C),(4,.L),(5,.L),(6,.L),(7,.L),(8,.L),(9,.L),(10,.L),(11,.L),(12,.L),(13,.L),(14,.L),(15,.L),(16,.C),(17,.L),(18,.L),(19,.L),(20,.L),(21,.L),(22,.L),(23,.L),(24,.L),(25,.L),(26,.L),(27,.L),(28,.L),(29,.L),(30,.N),(31,.L),(32,.L),(33,.L),(34,.L)] [] (by kernel_rfl) (by kernel_rfl) ?_
              repeat first | refine sP ?_ | refine sS ?_ | refine sA ?_ | refine sL ?_ | refine sQ ?_ | refine sO ?_
              refine callC (.bool true) Tryz.func47 (fun w' hS => ?_) ?_
              focus exact (IsValidFact_calls w' _ c0 rs _ c3 fs[k] (h0.on (hB2.out.trans hS)) (hx2'.on (hbx.out.trans hS))).mono fun e w'' h => ⟨by rw [h.1, hok.out], h.2⟩
              repeat first | refine sP ?_ | refine sS ?_ | refine sA ?_ | refine sL ?_ | refine sQ ?_ | refine sO ?_
              refine callN Tryz.func71 (fun w' hS => ?_)
              focus
                refine (NullsOfFact_calls w' A3 c3 fs[k].1 fs[k].2 (hx2'.on (hbx.out.trans hS)) (Nat.le_trans (okFact_len hok.out) (by omega))).mono ?_
                rintro e w2 ⟨v, rfl, hO, hb⟩
                refine ⟨v, rfl, hb, fun a' ha => ?_⟩
                simp only [Act.put, List.setIfInBounds_toArray, List.set_cons_zero, List.set_cons_succ] at ha
                subst ha
                obtain ⟨A5, c5, rfl⟩ := Kd.R_slice hO
                have hS2 := Aside0.mk (hS.trans hb)
                clear hO hb hS
              repeat first | refine sP ?_ | refine sS ?_ | refine sA ?_ | refine sL ?_ | refine sQ ?_ | refine sO ?_
              refine Reg.nil fun w3 hS3 => ?_
              go_wp2
              exact ⟨⟨k + 1, by omega, by go_num, (by have := hst.out; unfold okNext at this; rw [hok.out, hpv.out, hs'.out, hz'.out] at this; simpa using this : _ = _), (hB2.out.trans hS2.out).trans hS3, Loc.on ((hbx.out.trans hS2.out).trans hS3) hL'.out⟩, by simp [intOf]; omega⟩
            · have hzb : decide (0 < ((nuls fs[k].2).length : Int)) = true := decide_eq_true (by omega)
              have hzc : decide (0 < (nuls fs[k].2).length) = true := decide_eq_true (by omega)
              have hz' := Aside0.mk (decide_eq_false hz)
              clear hz
              go_wp2
              refine Reg.region [(0,.L),(1,.L),(2,.L),(3,.C),(4,.L),(5,.L),(6,.L),(7,.L),(8,.L),(9,.L),(10,.L),(11,.L),(12,.L),(13,.L),(14,.L),(15,.L),(16,.C),(17,.L),(18,.L),(19,.L),(20,.L),(21,.L),(22,.L),(23,.L),(24,.L),(25,.L),(26,.L),(27,.L),(28,.L),(29,.L),(30,.N),(31,.L),(32,.L),(33,.L),(34,.L)] [] (by kernel_rfl) (by kernel_rfl) ?_
              repeat first | refine sP ?_ | refine sS ?_ | refine sA ?_ | refine sL ?_ | refine sQ ?_ | refine sO ?_
              refine callC (.bool true) Tryz.func47 (fun w' hS => ?_) ?_
              focus exact (IsValidFact_calls w' _ c0 rs _ c3 fs[k] (h0.on (hB2.out.trans hS)) (hx2'.on (hbx.out.trans hS))).mono fun e w'' h => ⟨by rw [h.1, hok.out], h.2⟩
              repeat first | refine sP ?_ | refine sS ?_ | refine sA ?_ | refine sL ?_ | refine sQ ?_ | refine sO ?_
              refine callN Tryz.func71 (fun w' hS => ?_)
              focus
                refine (NullsOfFact_calls w' A3 c3 fs[k].1 fs[k].2 (hx2'.on (hbx.out.trans hS)) (Nat.le_trans (okFact_len hok.out) (by omega))).mono ?_
                rintro e w2 ⟨v, rfl, hO, hb⟩
                refine ⟨v, rfl, hb, fun a' ha => ?_⟩
                simp only [Act.put, List.setIfInBounds_toArray, List.set_cons_zero, List.set_cons_succ] at ha
                subst ha
                obtain ⟨A5, c5, rfl⟩ := Kd.R_slice hO
                have hS2 := Aside0.mk (hS.trans hb)
                clear hO hb hS
              repeat first | refine sP ?_ | refine sS ?_ | refine sA ?_ | refine sL ?_ | refine sQ ?_ | refine sO ?_
              refine Reg.nil fun w3 hS3 => ?_
              go_wp2
              go_ret
              exact ⟨ret_bool (by have := hst.out; unfold okNext at this; rw [hok.out, hpv.out, hs'.out, hz'.out] at this; simp at this; simp [okInst, this]), (hB2.out.trans hS2.out).trans hS3⟩
    · have hfl : factsFrom rs none fs = true := by rw [← hp.out, List.drop_of_length_le (by omega)]; cases prevFct fs k <;> rfl
      have hfl' := Aside0.mk hfl
      clear hp hfl
      cases hr : okRels rs with
      | false =>
        have hr' := Aside0.mk hr
        clear hr
        go_wp2_with (go_at_call 41; refine (AreValidRelations_calls wr A0 c0 rs (h0.on hB)).mono ?_; rintro e w3 ⟨rfl, hb3⟩; rw [hr'.out]; have hc3 := blk_cell (Loc.on hb3 hL'.out).1)
        go_ret
        exact ⟨ret_bool (by simp [okInst, hfl'.out, hr'.out]), hB.trans hb3⟩
      | true =>
        have hr' := Aside0.mk hr
        clear hr
        by_cases h30 : (fs.length : Int) ≤ 30
        · have h30b : decide ((fs.length : Int) ≤ 30) = true := decide_eq_true h30
          have h30c : decide (fs.length ≤ 30) = true := decide_eq_true (by omega)
          go_wp2_with (go_at_call 41; refine (AreValidRelations_calls wr A0 c0 rs (h0.on hB)).mono ?_; rintro e w3 ⟨rfl, hb3⟩; rw [hr'.out]; have hc3 := blk_cell (Loc.on hb3 hL'.out).1)
          go_ret
          exact ⟨ret_bool (by simp [okInst, hfl'.out, hr'.out]; omega), hB.trans hb3⟩
        · have h30b : decide ((fs.length : Int) ≤ 30) = false := decide_eq_false h30
          have h30c : decide (fs.length ≤ 30) = false := decide_eq_false (by omega)
          go_wp2_with (go_at_call 41; refine (AreValidRelations_calls wr A0 c0 rs (h0.on hB)).mono ?_; rintro e w3 ⟨rfl, hb3⟩; rw [hr'.out]; have hc3 := blk_cell (Loc.on hb3 hL'.out).1)
          go_ret
          exact ⟨ret_bool (by simp [okInst, hfl'.out, hr'.out]; omega), hB.trans hb3⟩
end Go.Proofs.YtgemaohdlibboaaGreatDoor.H
/- Rows of a call's own, cell by cell: relations, facts' headers, facts whose rows lie apart; worlds that differ in some blocks alone. No condition. -/
namespace Go.Proofs.YtgemaohdlibboaaGreatDoor.H
open Go Go.RowKit Go.Proofs.YtgemaohdlibboaaGreatDoorW.PrintWords Go.Proofs.YtgemaohdlibboaaGreatDoorW.PrintLast
open Go.Proofs.YtgemaohdlibboaaGreatDoor.Reg (On on_draw)
set_option maxHeartbeats 400000
set_option linter.unusedVariables false
set_option linter.unusedSimpArgs false

/-! Worlds that differ in the blocks S alone. -/
structure Ex (S : Nat → Prop) (W w : World) : Prop where
  os : w.os = W.os
  tape : w.tape = W.tape
  output : w.output = W.output
  size : W.heap.size ≤ w.heap.size
  block : ∀ k, k < W.heap.size → ¬ S k → w.heap[k]? = W.heap[k]?
theorem Ex.refl (S : Nat → Prop) (W : World) : Ex S W W := ⟨rfl, rfl, rfl, Nat.le_refl _, fun _ _ _ => rfl⟩
theorem Ex.trans {S S' : Nat → Prop} {a b c : World} (h : Ex S a b) (k : Ex S' b c) (hs : ∀ i, i < a.heap.size → S' i → S i) : Ex S a c :=
  ⟨k.os.trans h.os, k.tape.trans h.tape, k.output.trans h.output, Nat.le_trans h.size k.size, fun i hi hn => (k.block i (Nat.lt_of_lt_of_le hi h.size) (fun h' => hn (hs i hi h'))).trans (h.block i hi hn)⟩
theorem Ex.mono {S S' : Nat → Prop} {W w : World} (h : Ex S W w) (hs : ∀ k, S k → S' k) : Ex S' W w := ⟨h.os, h.tape, h.output, h.size, fun k hk hn => h.block k hk fun h' => hn (hs k h')⟩
theorem Ex.of_on {S : Nat → Prop} {W w : World} (h : On W w) : Ex S W w := ⟨h.os, h.tape, h.output, h.size, fun k hk _ => h.block k hk⟩
theorem Ex.of_grown {W w : World} {row : Option Nat} (h : W.grownBy w row) : Ex (fun k => some k = row) W w := ⟨h.os, h.tape, h.output, h.size, fun k hk hn => h.block k hk hn⟩
theorem Ex.on {S : Nat → Prop} {w0 W w : World} (h : On w0 W) (k : Ex S W w) (hs : ∀ i, S i → w0.heap.size ≤ i) : On w0 w :=
  ⟨k.os.trans h.os, k.tape.trans h.tape, k.output.trans h.output, Nat.le_trans h.size k.size, fun i hi => (k.block i (Nat.lt_of_lt_of_le hi h.size) fun h' => by have := hs i h'; omega).trans (h.block i hi)⟩
theorem Ex.to_on {S : Nat → Prop} {W w : World} (k : Ex S W w) (hs : ∀ i, S i → W.heap.size ≤ i) : On W w := Ex.on (On.refl W) k hs
theorem Ex.then_on {S : Nat → Prop} {a b c : World} (h : Ex S a b) (k : On b c) : Ex S a c := h.trans (Ex.of_on (S := fun _ => False) k) fun _ _ h => h.elim

theorem Ex.set (W : World) (p : Addr) (u : Value) : Ex (fun k => k = p.block) W (W.setCell p u) := ⟨rfl, rfl, rfl, by simp [World.setCell], fun k _ hn => Below.heap_setCell W p u k hn⟩
/-! Own rows. -/
theorem own_ex {S : Nat → Prop} {W w : World} {lo e sz n : Nat} {v : Value} {cs : List Value} (h : W.ownsRow lo e sz v n cs) (k : Ex S W w) (hs : ∀ i, v.ownBlock = some i → ¬ S i) : w.ownsRow lo e sz v n cs :=
  own_move h fun i hi => k.block i (own_lt h i hi) (hs i hi)
theorem own_rd {α : Type} {R : α → List Value → Prop} {w : World} {base n size : Nat} {e : TypeId} {v : Value} {ps : List α} {cs : List Value} (h : w.ownsRow base e size v n cs) (hR : Reps R size ps cs) (hn : ps.length = n) :
    ∃ A c, v = .slice A n c ∧ n ≤ c ∧ ReadsRow R size w A n ps := by
  obtain ⟨A, c, rfl, hr⟩ := own_reads_row h hR hn
  refine ⟨A, c, rfl, ?_, hr⟩
  rcases h.2 with ⟨h1, h2⟩ | ⟨g, cap, cur, h1, _, _, h3, _⟩
  · injection h1 with h1 h3 h4; omega
  · injection h1 with h1 h5 h4; omega
theorem own_lower {w : World} {lo lo' e sz n : Nat} {v : Value} {cs : List Value} (h : w.ownsRow lo e sz v n cs) (hl : lo' ≤ lo) : w.ownsRow lo' e sz v n cs := by
  refine ⟨h.1, ?_⟩
  rcases h.2 with h2 | ⟨g, cap, cur, h1, h2, h3⟩
  · exact .inl h2
  · exact .inr ⟨g, cap, cur, h1, Nat.le_trans hl h2, h3⟩
theorem reps_flat {α : Type} {R : α → List Value → Prop} {enc : α → List Value} {sz : Nat} (hl : ∀ x, (enc x).length = sz) : ∀ (xs : List α), (∀ x ∈ xs, R x (enc x)) → Reps R sz xs (xs.flatMap enc)
  | [], _ => Reps.none _ _
  | x :: xs, h => by
    obtain ⟨h1, h2⟩ := reps_flat hl xs (fun y hy => h y (List.mem_cons_of_mem _ hy))
    have e : (x :: xs).flatMap enc = enc x ++ xs.flatMap enc := rfl
    refine ⟨by rw [e, List.length_append, hl, h1, List.length_cons, Nat.add_mul, Nat.one_mul, Nat.add_comm], fun j p hj => ?_⟩
    rw [e]
    cases j with
    | zero =>
      simp at hj; subst hj
      rw [Nat.zero_mul, List.drop_zero, List.take_append_of_le_length (by rw [hl]; exact Nat.le_refl _), ← hl x, List.take_length]
      exact h x List.mem_cons_self
    | succ j =>
      have : (j + 1) * sz = (enc x).length + j * sz := by rw [hl, Nat.add_mul, Nat.one_mul, Nat.add_comm]
      rw [this, List.drop_append]
      have e2 : (enc x).drop ((enc x).length + j * sz) = [] := List.drop_of_length_le (by omega)
      rw [e2, List.nil_append, show (enc x).length + j * sz - (enc x).length = j * sz by omega]
      exact h2 j p (by simpa using hj)
abbrev encR (r : Rel) : List Value := [.string r.1, .int .i64 r.2.1, .bool r.2.2]
abbrev Hdr := Int × Option Addr × Nat × Nat
abbrev hdV (h : Hdr) : Value := .slice h.2.1 h.2.2.1 h.2.2.2
abbrev encH (h : Hdr) : List Value := [.int .i64 h.1, hdV h]
abbrev encI (x : Int) : List Value := [.int .i64 x]
abbrev OI (w : World) (lo : Nat) (v : Value) (xs : List Int) : Prop := w.ownsRow lo 3 1 v xs.length (xs.flatMap encI)
abbrev OR (w : World) (lo : Nat) (v : Value) (rs : List Rel) : Prop := w.ownsRow lo 95 3 v rs.length (rs.flatMap encR)
abbrev OH (w : World) (lo : Nat) (v : Value) (hs : List Hdr) : Prop := w.ownsRow lo 60 2 v hs.length (hs.flatMap encH)
theorem encs_flat (xs : List Int) : encs (Value.int .i64) xs = xs.flatMap encI := by
  induction xs with
  | nil => rfl
  | cons x xs ih => simp [encs] at ih ⊢; exact ih
theorem OI.of {w : World} {lo : Nat} {v : Value} {xs : List Int} (h : OInts w lo v xs) : OI w lo v xs := by
  have := Kd.own_of_R h
  rwa [encs_flat] at this
theorem OI.to {w : World} {lo : Nat} {v : Value} {xs : List Int} (h : OI w lo v xs) : OInts w lo v xs := by
  refine Kd.R_of_own ?_ (fun _ _ => trivial)
  rw [encs_flat]; exact h
theorem OI.rd {w : World} {lo : Nat} {v : Value} {xs : List Int} (h : OI w lo v xs) (hr : InR xs) : ∃ A c, v = .slice A xs.length c ∧ Ints w A c xs := OInts.slice (OI.to h) hr
theorem OR.rd {w : World} {lo : Nat} {v : Value} {rs : List Rel} (h : OR w lo v rs) : ∃ A c, v = .slice A rs.length c ∧ Rels w A c rs := by
  have hrep : Reps (kRel.K w) 3 rs (rs.flatMap encR) := reps_flat (R := kRel.K w) (enc := encR) (sz := 3) (fun _ => rfl) rs fun r _ => ⟨[.string r.1], [.int .i64 r.2.1, .bool r.2.2], rfl, rfl, [.int .i64 r.2.1], [.bool r.2.2], rfl, rfl, rfl⟩
  obtain ⟨A, c, rfl, hc, hr⟩ := own_rd h hrep rfl
  exact ⟨A, c, rfl, hc, hr⟩
/-- Headers that read as facts. -/
structure Reads (w : World) (hs : List Hdr) (fs : List Fct) : Prop where
  len : hs.length = fs.length
  at_ : ∀ (i : Nat) (h : Hdr) (f : Fct), hs[i]? = some h → fs[i]? = some f → h.1 = f.1 ∧ h.2.2.1 = f.2.length ∧ Ints w h.2.1 h.2.2.2 f.2
theorem Reads.on {W w : World} {hs : List Hdr} {fs : List Fct} (h : Reads W hs fs) (hb : On W w) : Reads w hs fs := ⟨h.len, fun i a f ha hf => ⟨(h.at_ i a f ha hf).1, (h.at_ i a f ha hf).2.1, (h.at_ i a f ha hf).2.2.on hb⟩⟩
theorem Reads.nil (w : World) : Reads w [] [] := ⟨rfl, fun i h f hh _ => by simp at hh⟩
theorem Reads.inF {w : World} {hs : List Hdr} {fs : List Fct} (h : Reads w hs fs) : InF fs := fun f hf => by
  obtain ⟨i, hi, rfl⟩ := List.getElem_of_mem hf
  exact (h.at_ i (hs[i]'(by rw [h.len]; exact hi)) fs[i] (List.getElem?_eq_getElem _) (List.getElem?_eq_getElem _)).2.2.2.2
theorem Reads.snoc {w : World} {hs : List Hdr} {fs : List Fct} {a : Hdr} {f : Fct} (h : Reads w hs fs) (h1 : a.1 = f.1) (h2 : a.2.2.1 = f.2.length) (h3 : Ints w a.2.1 a.2.2.2 f.2) : Reads w (hs ++ [a]) (fs ++ [f]) := by
  refine ⟨by simp [h.len], fun i b g hb hg => ?_⟩
  have hl := h.len
  rcases Nat.lt_or_ge i hs.length with hi | hi
  · rw [List.getElem?_append_left hi] at hb
    rw [List.getElem?_append_left (by omega)] at hg
    exact h.at_ i b g hb hg
  · rw [List.getElem?_append_right hi] at hb
    rw [List.getElem?_append_right (by omega), ← hl] at hg
    have : i - hs.length = 0 := by
      have := (List.getElem?_eq_some_iff.1 hb).1; simp at this; omega
    rw [this] at hb hg
    simp at hb hg
    subst hb hg
    exact ⟨h1, h2, h3⟩
theorem OH.rd {w : World} {lo : Nat} {v : Value} {hs : List Hdr} {fs : List Fct} (h : OH w lo v hs) (hr : Reads w hs fs) : ∃ A c, v = .slice A fs.length c ∧ Fcts w A c fs := by
  have hrep : Reps (kFct.K w) 2 fs (hs.flatMap encH) := by
    obtain ⟨h1, h2⟩ := reps_flat (R := fun (a : Hdr) cs => cs = encH a) (enc := encH) (sz := 2) (fun _ => rfl) hs fun _ _ => rfl
    refine ⟨by rw [h1, hr.len], fun j f hj => ?_⟩
    have hjl : j < hs.length := by rw [hr.len]; exact (List.getElem?_eq_some_iff.1 hj).1
    rw [h2 j hs[j] (List.getElem?_eq_getElem hjl)]
    obtain ⟨e1, e2, e3⟩ := hr.at_ j hs[j] f (List.getElem?_eq_getElem hjl) hj
    refine ⟨[.int .i64 hs[j].1], [hdV hs[j]], rfl, by rw [e1]; rfl, hs[j].2.1, hs[j].2.2.2, by rw [← e2], e3.1, e3.2.1⟩
  obtain ⟨A, c, rfl, hc, hr'⟩ := own_rd h hrep hr.len.symm
  rw [hr.len] at hc hr' ⊢
  exact ⟨A, c, rfl, hc, hr', hr.inF⟩
/-- Facts whose rows are the call's own and lie apart. -/
structure Sep (w : World) (lo : Nat) (hs : List Hdr) (fs : List Fct) : Prop where
  len : hs.length = fs.length
  at_ : ∀ (i : Nat) (h : Hdr) (f : Fct), hs[i]? = some h → fs[i]? = some f → h.1 = f.1 ∧ OI w lo (hdV h) f.2 ∧ InR f.2
  apart : ∀ (i j : Nat) (a b : Hdr) (k : Nat), hs[i]? = some a → hs[j]? = some b → (hdV a).ownBlock = some k → (hdV b).ownBlock = some k → i = j
theorem Sep.nil (w : World) (lo : Nat) : Sep w lo [] [] := ⟨rfl, fun i h f hh _ => by simp at hh, fun i j a b k ha => by simp at ha⟩
theorem Sep.reads {w : World} {lo : Nat} {hs : List Hdr} {fs : List Fct} (h : Sep w lo hs fs) : Reads w hs fs := ⟨h.len, fun i a f ha hf => by
  obtain ⟨h1, h2, h3⟩ := h.at_ i a f ha hf
  obtain ⟨A, c, e, h4⟩ := OI.rd h2 h3
  injection e with e1 e2 e3
  exact ⟨h1, e2, by rw [e1, e3]; exact h4⟩⟩
theorem Sep.ex {S : Nat → Prop} {W w : World} {lo : Nat} {hs : List Hdr} {fs : List Fct} (h : Sep W lo hs fs) (k : Ex S W w) (hS : ∀ (i : Nat) (a : Hdr) (b : Nat), hs[i]? = some a → (hdV a).ownBlock = some b → ¬ S b) : Sep w lo hs fs :=
  ⟨h.len, fun i a f ha hf => ⟨(h.at_ i a f ha hf).1, own_ex (h.at_ i a f ha hf).2.1 k (fun b hb => hS i a b ha hb), (h.at_ i a f ha hf).2.2⟩, h.apart⟩
theorem Sep.on {W w : World} {lo : Nat} {hs : List Hdr} {fs : List Fct} (h : Sep W lo hs fs) (hb : On W w) : Sep w lo hs fs := h.ex (Ex.of_on (S := fun _ => False) hb) (fun _ _ _ _ _ h => h)
theorem Sep.set {W : World} {lo : Nat} {hs : List Hdr} {fs : List Fct} (h : Sep W lo hs fs) {p : Addr} (hp : p.block < lo) (u : Value) : Sep (W.setCell p u) lo hs fs :=
  h.ex (Ex.set W p u) (fun i a b ha hb => fun e => by
    have hi : i < fs.length := by rw [← h.len]; exact (List.getElem?_eq_some_iff.1 ha).1
    have := own_base (h.at_ i a fs[i] ha (List.getElem?_eq_getElem hi)).2.1 b hb
    omega)
theorem Sep.lower {W : World} {lo lo' : Nat} {hs : List Hdr} {fs : List Fct} (h : Sep W lo hs fs) (hl : lo' ≤ lo) : Sep W lo' hs fs :=
  ⟨h.len, fun i a f ha hf => ⟨(h.at_ i a f ha hf).1, own_lower (h.at_ i a f ha hf).2.1 hl, (h.at_ i a f ha hf).2.2⟩, h.apart⟩
theorem Sep.lt {W : World} {lo : Nat} {hs : List Hdr} {fs : List Fct} (h : Sep W lo hs fs) {i : Nat} {a : Hdr} {b : Nat} (ha : hs[i]? = some a) (hb : (hdV a).ownBlock = some b) : lo ≤ b ∧ b < W.heap.size := by
  have hi : i < fs.length := by rw [← h.len]; exact (List.getElem?_eq_some_iff.1 ha).1
  have := (h.at_ i a fs[i] ha (List.getElem?_eq_getElem hi)).2.1
  exact ⟨own_base this b hb, own_lt this b hb⟩
theorem Sep.snoc {W w : World} {lo : Nat} {hs : List Hdr} {fs : List Fct} {a : Hdr} {f : Fct} (h : Sep W lo hs fs) (hb : On W w) (hlo : lo ≤ W.heap.size) (h1 : a.1 = f.1) (h2 : OI w W.heap.size (hdV a) f.2) (h3 : InR f.2) : Sep w lo (hs ++ [a]) (fs ++ [f]) := by
  have hl := h.len
  have hw := h.on hb
  have hat : ∀ i b, (hs ++ [a])[i]? = some b → (i < hs.length ∧ hs[i]? = some b) ∨ (i = hs.length ∧ b = a) := by
    intro i b hb
    rcases Nat.lt_or_ge i hs.length with hi | hi
    · rw [List.getElem?_append_left hi] at hb; exact .inl ⟨hi, hb⟩
    · rw [List.getElem?_append_right hi] at hb
      have : i - hs.length = 0 := by have := (List.getElem?_eq_some_iff.1 hb).1; simp at this; omega
      rw [this] at hb; simp at hb
      exact .inr ⟨by omega, hb.symm⟩
  refine ⟨by simp [hl], fun i b g hb hg => ?_, fun i j b c k hb hc h4 h5 => ?_⟩
  · rcases hat i b hb with ⟨hi, hb⟩ | ⟨hi, rfl⟩
    · rw [List.getElem?_append_left (by omega)] at hg; exact hw.at_ i b g hb hg
    · rw [List.getElem?_append_right (by omega), show i - fs.length = 0 by omega] at hg
      simp at hg; subst hg
      exact ⟨h1, own_lower h2 hlo, h3⟩
  · rcases hat i b hb with ⟨hi, hb'⟩ | ⟨hi, rfl⟩ <;> rcases hat j c hc with ⟨hj, hc'⟩ | ⟨hj, rfl⟩
    · exact h.apart i j b c k hb' hc' h4 h5
    · have := (h.lt hb' h4).2; have := own_base h2 k h5; omega
    · have := (h.lt hc' h5).2; have := own_base h2 k h4; omega
    · omega
/-- An element stored: cells. -/
theorem set1 {A r : List Value} {z : Value} (i : Nat) (hi : A.length = i) (u : Value) : (A ++ z :: r).set i u = A ++ u :: r := by subst hi; simp
theorem set2 {A r : List Value} {z z' : Value} (i : Nat) (hi : A.length = i) (u u' : Value) : ((A ++ z :: z' :: r).set i u).set (i + 1) u' = A ++ u :: u' :: r := by
  subst hi; rw [set1 _ rfl, show A ++ u :: z' :: r = (A ++ [u]) ++ z' :: r by simp, set1 _ (by simp)]; simp
theorem set3 {A r : List Value} {z z' z'' : Value} (i : Nat) (hi : A.length = i) (u u' u'' : Value) : (((A ++ z :: z' :: z'' :: r).set i u).set (i + 1) u').set (i + 2) u'' = A ++ u :: u' :: u'' :: r := by
  rw [set2 i hi, show A ++ u :: u' :: z'' :: r = (A ++ [u, u']) ++ z'' :: r by simp, set1 _ (by simp; omega)]; simp
theorem flat_len {α : Type} {enc : α → List Value} {sz : Nat} (hl : ∀ x, (enc x).length = sz) (xs : List α) : (xs.flatMap enc).length = xs.length * sz := by
  induction xs with
  | nil => simp
  | cons x xs ih => rw [List.flatMap_cons, List.length_append, hl, ih, List.length_cons, Nat.add_mul, Nat.one_mul, Nat.add_comm]
theorem own_frozen {w : World} {lo e sz n g c : Nat} {cs : List Value} (h : w.ownsRow lo e sz (.slice (some ⟨g, 0, none⟩) n c) n cs) (j : Nat) : w.frozen? ⟨g, j, none⟩ = false := by
  rcases h.2 with ⟨h', _⟩ | ⟨g', cap', cur, h', _, hh, _⟩
  · cases h'
  · have : g = g' := by injection h' with h'; injection h' with h'; injection h' with h'
    subst this
    simp [World.frozen?, hh]
theorem own_some {w : World} {lo e sz n g c : Nat} {cs : List Value} (h : w.ownsRow lo e sz (.slice (some ⟨g, 0, none⟩) n c) n cs) (j : Nat) (hj : j < n * sz) : ∃ z, w.cell? ⟨g, j, none⟩ = some z := by
  rw [h.cellAt j hj, List.getElem?_eq_getElem (by rw [h.1]; exact hj)]; exact ⟨_, rfl⟩
/-! Results that lie in a box. -/
section
variable {fn : Func} {p : Tmp} {tmps : Array Value} {w : World} {g : Nat} {t : TypeId} {cs : Array Value} {fr : Nat × Nat}
theorem retF (h : fn.results = #[.cell p 60]) (hp : tmps.getD p undef = .pointer (some ⟨g, 0, none⟩)) (hg : w.heap[g]? = some (.cells cs t fr)) (hs : cs.size = 2) : (results fn tmps).run Tryz.prog w = .ok (.agg cs) w :=
  results_cell_row h tmps w g t cs fr _ hp hg Tryz.underlying60 rfl (by rw [hs]; kernel_rfl)
theorem retR (h : fn.results = #[.cell p 95]) (hp : tmps.getD p undef = .pointer (some ⟨g, 0, none⟩)) (hg : w.heap[g]? = some (.cells cs t fr)) (hs : cs.size = 3) : (results fn tmps).run Tryz.prog w = .ok (.agg cs) w :=
  results_cell_row h tmps w g t cs fr _ hp hg Tryz.underlying95 rfl (by rw [hs]; kernel_rfl)
theorem retI (h : fn.results = #[.cell p 25]) (hp : tmps.getD p undef = .pointer (some ⟨g, 0, none⟩)) (hg : w.heap[g]? = some (.cells cs t fr)) (hs : cs.size = 2) : (results fn tmps).run Tryz.prog w = .ok (.agg cs) w :=
  results_cell_row h tmps w g t cs fr _ hp hg Tryz.underlying25 rfl (by rw [hs]; kernel_rfl)
end
end Go.Proofs.YtgemaohdlibboaaGreatDoor.H
/- Walks: the laws' own helpers: how large, copies. No condition. -/
namespace Go.Proofs.YtgemaohdlibboaaGreatDoor.H
open Go Go.RowKit Go.Proofs.YtgemaohdlibboaaGreatDoorW.PrintWords Go.Proofs.YtgemaohdlibboaaGreatDoorW.PrintLast
open Go.Proofs.YtgemaohdlibboaaGreatDoor.Reg (On on_draw)
set_option maxHeartbeats 1000000
set_option maxRecDepth 100000
set_option linter.unusedVariables false
set_option linter.unusedSimpArgs false

def wF (fs : List Fct) : Nat := (fs.map fun f => f.2.length + 1).sum
theorem wF_take (fs : List Fct) (k : Nat) (h : k < fs.length) : wF (fs.take (k + 1)) = wF (fs.take k) + (fs[k].2.length + 1) := by
  unfold wF; rw [List.take_succ_eq_append_getElem h, List.map_append, List.sum_append]; simp only [List.map_cons, List.map_nil, List.sum_cons, List.sum_nil, Nat.add_zero]
end Go.Proofs.YtgemaohdlibboaaGreatDoor.H
/- Walks: the laws' own copies. No condition. -/
namespace Go.Proofs.YtgemaohdlibboaaGreatDoor.H
open Go Go.RowKit Go.Proofs.YtgemaohdlibboaaGreatDoorW.PrintWords Go.Proofs.YtgemaohdlibboaaGreatDoorW.PrintLast
open Go.Proofs.YtgemaohdlibboaaGreatDoor.Reg (On on_draw)
set_option maxHeartbeats 1000000
set_option maxRecDepth 100000
set_option linter.unusedVariables false
set_option linter.unusedSimpArgs false

end Go.Proofs.YtgemaohdlibboaaGreatDoor.H
/- Walks: the laws' own copies. No condition. -/
namespace Go.Proofs.YtgemaohdlibboaaGreatDoor.H
open Go Go.RowKit Go.Proofs.YtgemaohdlibboaaGreatDoorW.PrintWords Go.Proofs.YtgemaohdlibboaaGreatDoorW.PrintLast
open Go.Proofs.YtgemaohdlibboaaGreatDoor.Reg (On on_draw)
set_option maxHeartbeats 1000000
set_option maxRecDepth 100000
set_option linter.unusedVariables false
set_option linter.unusedSimpArgs false

/-- An instance of the call's own, its facts' rows lying apart. -/
structure OIn (w : World) (lo : Nat) (v : Value) (rs : List Rel) (fs : List Fct) : Prop where mk :: (out : ∃ vr vf hs, v = .agg #[vr, vf] ∧ OR w lo vr rs ∧ OH w lo vf hs ∧ Sep w lo hs fs)
end Go.Proofs.YtgemaohdlibboaaGreatDoor.H
/- Walks: the laws' own comparisons, of what is the same. No condition. -/
namespace Go.Proofs.YtgemaohdlibboaaGreatDoor.H
open Go Go.RowKit Go.Proofs.YtgemaohdlibboaaGreatDoorW.PrintWords Go.Proofs.YtgemaohdlibboaaGreatDoorW.PrintLast
open Go.Proofs.YtgemaohdlibboaaGreatDoor.Reg (On on_draw)
set_option maxHeartbeats 1000000
set_option maxRecDepth 100000
set_option linter.unusedVariables false
set_option linter.unusedSimpArgs false

end Go.Proofs.YtgemaohdlibboaaGreatDoor.H
/- Walks: the laws' own marks. No condition. -/
namespace Go.Proofs.YtgemaohdlibboaaGreatDoor.H
open Go Go.RowKit Go.Proofs.YtgemaohdlibboaaGreatDoorW.PrintWords Go.Proofs.YtgemaohdlibboaaGreatDoorW.PrintLast
open Go.Proofs.YtgemaohdlibboaaGreatDoor.Reg (On on_draw)
set_option maxHeartbeats 1000000
set_option maxRecDepth 100000
set_option linter.unusedVariables false
set_option linter.unusedSimpArgs false

end Go.Proofs.YtgemaohdlibboaaGreatDoor.H
/- Walks: the laws' own marks on relations and facts. No condition. -/
namespace Go.Proofs.YtgemaohdlibboaaGreatDoor.H
open Go Go.RowKit Go.Proofs.YtgemaohdlibboaaGreatDoorW.PrintWords Go.Proofs.YtgemaohdlibboaaGreatDoorW.PrintLast
open Go.Proofs.YtgemaohdlibboaaGreatDoor.Reg (On on_draw)
set_option maxHeartbeats 1000000
set_option maxRecDepth 100000
set_option linter.unusedVariables false
set_option linter.unusedSimpArgs false

theorem own_ne_blk {w : World} {lo lo' e e' sz sz' n n' : Nat} {v v' : Value} {cs cs' : List Value} (h : w.ownsRow lo e sz v n cs) (h' : w.ownsRow lo' e' sz' v' n' cs') (hne : e ≠ e') {b : Nat} (hb : v.ownBlock = some b) : v'.ownBlock ≠ some b := fun hb' => by
  obtain ⟨c, hc⟩ := own_typed h b hb
  obtain ⟨c', hc'⟩ := own_typed h' b hb'
  rw [hc] at hc'
  injection hc' with hc'
  injection hc' with _ h3
  exact hne h3
end Go.Proofs.YtgemaohdlibboaaGreatDoor.H
/- Walks: the laws' own marks on facts and instances. No condition. -/
namespace Go.Proofs.YtgemaohdlibboaaGreatDoor.H
open Go Go.RowKit Go.Proofs.YtgemaohdlibboaaGreatDoorW.PrintWords Go.Proofs.YtgemaohdlibboaaGreatDoorW.PrintLast
open Go.Proofs.YtgemaohdlibboaaGreatDoor.Reg (On on_draw)
set_option maxHeartbeats 1000000
set_option maxRecDepth 100000
set_option linter.unusedVariables false
set_option linter.unusedSimpArgs false

def cF (l : List Nat) : Nat := (l.map (· + 1)).sum
theorem cF_take_le (l : List Nat) (k : Nat) : cF (l.take k) ≤ cF l := by
  conv => rhs; rw [← List.take_append_drop k l]
  simp only [cF, List.map_append, List.sum_append]; omega
abbrev lens (fs : List Fct) : List Nat := fs.map fun f => f.2.length
theorem cF_lens (fs : List Fct) : cF (lens fs) = wF fs := by simp [cF, lens, wF, Function.comp_def]
theorem wF_len (fs : List Fct) : fs.length ≤ wF fs := by
  unfold wF
  induction fs with
  | nil => simp
  | cons f fs ih => simp at ih ⊢; omega
theorem Sep.ne_row {W : World} {lo lo' : Nat} {hs hs' : List Hdr} {fs : List Fct} {vf : Value} (h : Sep W lo hs fs) (hO : OH W lo' vf hs') {i b : Nat} {a : Hdr} (ha : hs[i]? = some a) (hb : (hdV a).ownBlock = some b) : vf.ownBlock ≠ some b := by
  have hi : i < fs.length := by rw [← h.len]; exact (List.getElem?_eq_some_iff.1 ha).1
  exact own_ne_blk (h.at_ i a fs[i] ha (List.getElem?_eq_getElem hi)).2.1 hO (by decide) hb
theorem set_hdr {hs : List Hdr} {i : Nat} (hi : i < hs.length) {x : Int} {j : Nat} {a : Hdr} (ha : (hs.set i (x, hs[i].2))[j]? = some a) : ∃ a', hs[j]? = some a' ∧ hdV a' = hdV a := by
  by_cases e : i = j
  · subst e
    rw [List.getElem?_set_self hi] at ha
    injection ha with ha; subst ha
    exact ⟨hs[i], List.getElem?_eq_getElem hi, rfl⟩
  · rw [List.getElem?_set_ne e] at ha
    exact ⟨a, ha, rfl⟩
/-- The blocks that a row of facts owns. -/
def FB (v : Value) (hs : List Hdr) (b : Nat) : Prop := some b = v.ownBlock ∨ ∃ (i : Nat) (a : Hdr), hs[i]? = some a ∧ some b = (hdV a).ownBlock
theorem FB.set {v : Value} {hs : List Hdr} {i : Nat} (hi : i < hs.length) {x : Int} {b : Nat} (h : FB v (hs.set i (x, hs[i].2)) b) : FB v hs b := by
  rcases h with h | ⟨j, a, ha, h⟩
  · exact .inl h
  · obtain ⟨a', ha', e⟩ := set_hdr hi ha
    exact .inr ⟨j, a', ha', by rw [e]; exact h⟩
theorem set_mid {α : Type} (P r : List α) (f y : α) (i : Nat) (hi : P.length = i) : (P ++ f :: r).set i y = P ++ y :: r := by subst hi; simp
end Go.Proofs.YtgemaohdlibboaaGreatDoor.H
