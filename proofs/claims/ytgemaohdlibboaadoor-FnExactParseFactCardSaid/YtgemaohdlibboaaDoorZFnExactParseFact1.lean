/- Walks and plain laws for the law FnExactParseFact, part 1 of 3: the texts HReg, HW, HD, HD2, HF1, HB1, HB2, HB3, HC1, HP, HO, HF2 in one. No condition. -/
import Derived.Deep.Quiet
import Derived.OrdersHeld
import Derived.Below
import Derived.Test.YtgemaohdlibboaaDoorWWords
import Derived.Test.YtgemaohdlibboaaDoorWLast
import Derived.Test.YtgemaohdlibboaaDoorWApart
import Derived.Test.YtgemaohdlibboaaDoorWMore
import Derived.Handy
import Derived.KernelRfl
import Derived.Lib.SplitLaws
import Derived.Lib.Join
import Derived.Lib.ItoaNum
import Derived.Lib.Strings
import Derived.Test.YtgemaohdlibboaaDoorProg
import Derived.WalkLawsBesides
import Derived.Test.YtgemaohdlibboaaDoorShelf
/- A rule for regions that draw their order: the operations are taken in an order of the prover's choice. Kinds of a step: L (reads: the world stays), C (a call that hands back one value and makes memory at most), N (whatever makes memory at most, where nothing else may come up); at the end a tail: operations that wait for all the others, in line. No condition. -/
namespace Go.Proofs.YtgemaohdlibboaaDoor.Reg
open Go Go.RowKit
variable {P : Program} {ops : Array Oper} {Q : Exit → Act → World → Prop} {md : Region.Mode}
inductive K where
  | L | C | N | P
  deriving DecidableEq
/-- Operations that make no call and no block (a mark alone: nothing leans on what it says). -/
def idle : Op → Bool
  | .move _ | .pick .. | .load .. | .binOp .. | .unOp .. | .convert .. | .makeInterface .. | .slice .. | .fieldAddr .. | .field .. | .indexAddr .. | .index .. | .extract .. | .nilCheck .. => true
  | .call { callee := .builtin b, .. } => (match b with | .len | .cap | .max | .min => true | _ => false)
  | _ => false
/-- One operation, carried out in the world w, hands on a value and a world. -/
def upTo (P : Program) (R : Value → World → Prop) : Result Next → Prop
  | .ok (.value u) w' => R u w'
  | .ok .skip w' => R undef w'
  | .ok (.enter f args) w' => Calls P f args w' fun e w'' => ∃ u, e = .returned u ∧ R u w''
  | _ => False
def nAt (P : Program) (o : Oper) (a : Act) (w : World) (R : Value → World → Prop) : Prop := upTo P R ((execOp a.eval o).run P w)
theorem upTo_mono {R R' : Value → World → Prop} (hR : ∀ u w, R u w → R' u w) : ∀ {r : Result Next}, upTo P R r → upTo P R' r := by
  intro r h
  cases r with
  | ok n w' =>
    cases n <;> simp only [upTo] at h ⊢
    case value u => exact hR _ _ h
    case skip => exact hR _ _ h
    case enter f args => exact h.mono fun e w'' ⟨u, he, hu⟩ => ⟨u, he, hR _ _ hu⟩
  | halt x w' => simp only [upTo] at h
theorem nAt_mono {o : Oper} {a : Act} {w : World} {R R' : Value → World → Prop} (hR : ∀ u w, R u w → R' u w) (h : nAt P o a w R) : nAt P o a w R' := upTo_mono hR h
theorem wp_of_nAt {o : Oper} {a : Act} {w : World} {T : Act → World → Prop} (h : nAt P o a w fun u w' => T (a.put o.dst u) w') : o.wp P a w T Q := by
  unfold nAt at h
  unfold Oper.wp
  generalize (execOp a.eval o).run P w = r at *
  cases r with
  | ok n w' =>
    cases n <;> simp only [upTo] at h <;> simp only [Oper.upon]
    case value u => exact h
    case skip => exact h
    case enter f args => exact h.mono fun e w'' ⟨u, he, hu⟩ => by subst he; exact hu
  | halt x w' => simp only [upTo] at h
/-- The steps that an operation may make (the class of worlds S, what follows T; cl: operations that wait for all that was taken first). -/
def stepT (P : Program) (ops : Array Oper) (Q : Exit → Act → World → Prop) (cl : Nat → Bool) (T : Act → (World → Prop) → Prop) (j : Nat) (a : Act) (S : World → Prop) : Prop :=
  match ops[j]? with
  | none => T a S
  | some o =>
    if Region.wanted o (yielded ops a.tmps) then
      (∃ v, (∀ w, S w → (execOp a.eval o).run P w = .ok (.value v) w) ∧ T (a.put o.dst v) S) ∨
      (∃ v, (∀ w, S w → nAt P o a w fun u w' => u = v ∧ S w') ∧ T (a.put o.dst v) S) ∨
      ((idle o.op = false ∨ cl j = true) ∧ ∀ w, S w → wpOp P ops Q j (fun a' w' => ∃ S' : World → Prop, S' w' ∧ (cl j = false → ∀ w, S' w → S w) ∧ T a' S') a w)
    else T (a.put o.dst undef) S
def wpT (P : Program) (md : Region.Mode) (ops : Array Oper) (Q : Exit → Act → World → Prop) (cl : Nat → Bool) : Nat → Array Bool → Act → (World → Prop) → Prop
  | 0, listed, a, S => Region.ready md ops listed = [] ∧ ∀ w, S w → Q .normal a w
  | fuel + 1, listed, a, S =>
    (Region.ready md ops listed = [] → ∀ w, S w → Q .normal a w) ∧
    ∀ i ∈ Region.ready md ops listed, stepT P ops Q cl (wpT P md ops Q cl fuel (listed.setIfInBounds i true)) i a S
theorem stepT_mono {cl : Nat → Bool} {T T' : Act → (World → Prop) → Prop} {j : Nat} {a : Act} {S : World → Prop} (h : ∀ a S, T a S → T' a S) (hh : stepT P ops Q cl T j a S) : stepT P ops Q cl T' j a S := by
  unfold stepT at *
  split
  · rename_i ho; simp only [ho] at hh; exact h _ _ hh
  · rename_i o ho
    simp only [ho] at hh
    split
    · rename_i hw
      rw [if_pos hw] at hh
      rcases hh with ⟨v, h1, h2⟩ | ⟨v, h1, h2⟩ | ⟨hi, h1⟩
      · exact .inl ⟨v, h1, h _ _ h2⟩
      · exact .inr (.inl ⟨v, h1, h _ _ h2⟩)
      · exact .inr (.inr ⟨hi, fun w hw => wpOp_mono (fun a' w' ⟨S', a1, a2, a3⟩ => ⟨S', a1, a2, h _ _ a3⟩) (h1 w hw)⟩)
    · rename_i hw
      rw [if_neg hw] at hh
      exact h _ _ hh
theorem wpOp_of_stepT {cl : Nat → Bool} {T : Act → (World → Prop) → Prop} {T' : Act → World → Prop} {j : Nat} {a : Act} {S : World → Prop} {w : World} (h : ∀ a S w, S w → T a S → T' a w) (hS : S w) (hh : stepT P ops Q cl T j a S) : wpOp P ops Q j T' a w := by
  unfold stepT at hh
  cases ho : ops[j]? with
  | none => simp only [ho] at hh; simp only [wpOp, ho]; exact h _ _ _ hS hh
  | some o =>
    simp only [ho] at hh
    by_cases hw : Region.wanted o (yielded ops a.tmps) = true
    · rw [if_pos hw] at hh
      rcases hh with ⟨v, h1, h2⟩ | ⟨v, h1, h2⟩ | ⟨_, h1⟩
      · simp only [wpOp, ho, hw, if_true]; exact .inl (wp_of_nAt (by unfold nAt; rw [h1 w hS]; exact h _ _ _ hS h2))
      · simp only [wpOp, ho, hw, if_true]; exact .inl (wp_of_nAt (nAt_mono (fun u w' ⟨e, hS'⟩ => by subst e; exact h _ _ _ hS' h2) (h1 w hS)))
      · exact wpOp_mono (fun a' w' ⟨S', a1, _, a3⟩ => h _ _ _ a1 a3) (h1 w hS)
    · rw [if_neg hw] at hh
      simp only [wpOp, ho, hw]
      exact h _ _ _ hS hh
theorem wpAny_of_wpT {cl : Nat → Bool} : ∀ (fuel : Nat) (listed : Array Bool) (a : Act) (S : World → Prop) (w : World), S w → wpT P md ops Q cl fuel listed a S → wpAny P md ops Q fuel listed a w
  | 0, _, _, _, _, hS, h => ⟨h.1, h.2 _ hS⟩
  | fuel + 1, _, _, _, _, hS, h => ⟨fun h0 => h.1 h0 _ hS, fun i hi => wpOp_of_stepT (fun a S w hS hT => wpAny_of_wpT fuel _ a S w hS hT) hS (h.2 i hi)⟩
/-- What is taken first: L (c = false) or C (c = true). -/
def Y (P : Program) (ops : Array Oper) (c : Bool) (S : World → Prop) (o : Oper) (v : Value) (a : Act) : Prop :=
  (Region.wanted o (yielded ops a.tmps) = true ∧ ∀ w, S w → if c then nAt P o a w fun u w' => u = v ∧ S w' else (execOp a.eval o).run P w = .ok (.value v) w) ∨
  (Region.wanted o (yielded ops a.tmps) = false ∧ v = undef)
theorem Y.of_same {c : Bool} {S : World → Prop} {o : Oper} {v : Value} {a a' : Act} (hy : Y P ops c S o v a) (he : execOp a'.eval o = execOp a.eval o)
    (hw : Region.wanted o (yielded ops a'.tmps) = Region.wanted o (yielded ops a.tmps)) : Y P ops c S o v a' := by
  unfold Y nAt at *
  rw [he, hw]
  exact hy
theorem Y.step {cl : Nat → Bool} {c : Bool} {S : World → Prop} {i : Nat} {o : Oper} {v : Value} {a : Act} (hi : ops[i]? = some o) (hy : Y P ops c S o v a) {T : Act → (World → Prop) → Prop} (h : T (a.put o.dst v) S) : stepT P ops Q cl T i a S := by
  unfold stepT
  simp only [hi]
  rcases hy with ⟨hw, hv⟩ | ⟨hw, rfl⟩
  · rw [if_pos hw]
    cases c with
    | false => exact .inl ⟨v, fun w hS => by simpa using hv w hS, h⟩
    | true => exact .inr (.inl ⟨v, fun w hS => by simpa using hv w hS, h⟩)
  · rw [if_neg (by simp [hw])]; exact h
theorem Y.sub {S S' : World → Prop} {o : Oper} {v : Value} {a : Act} (h : ∀ w, S' w → S w) (hy : Y P ops false S o v a) : Y P ops false S' o v a :=
  hy.imp (fun ⟨h1, h2⟩ => ⟨h1, fun w hw => h2 w (h w hw)⟩) id
theorem Y.if {S : World → Prop} {o : Oper} {v : Value} {a : Act} (hy : Y P ops false S o v a) : YieldsIf P ops S o v a :=
  hy.imp (fun ⟨h1, h2⟩ => ⟨h1, fun w hw => by simpa using h2 w hw⟩) id
theorem Y.of_if {S : World → Prop} {o : Oper} {v : Value} {a : Act} (hy : YieldsIf P ops S o v a) : Y P ops false S o v a :=
  hy.imp (fun ⟨h1, h2⟩ => ⟨h1, fun w hw => by simpa using h2 w hw⟩) id
/-- That a panic is asked no temporary. -/
def Plain (Q : Exit → Act → World → Prop) : Prop := ∀ c a d v w, Q (.panic c) (Act.put a d v) w → Q (.panic c) a w
theorem stepT_put {cl : Nat → Bool} {c : Bool} {j : Nat} {oi oj : Oper} {v : Value} (hQ : Plain Q) (hj : ops[j]? = some oj) (hap : oi.apart ops oj = true) (hidle : c = true → idle oj.op = true) (hcl : cl j = false)
    (hsi : ∀ cs b, oi.op ≠ .select cs b) (hsj : ∀ cs b, oj.op ≠ .select cs b) {T : Act → (World → Prop) → Prop} {a : Act} {S : World → Prop}
    (hy : Y P ops c S oi v a) (h : stepT P ops Q cl T j (a.put oi.dst v) S) :
    stepT P ops Q cl (fun a' S' => Y P ops c S' oi v a' ∧ T (a'.put oi.dst v) S') j a S := by
  obtain ⟨h1, h2, h3⟩ := Oper.apart_spec hap
  have keep : ∀ (a : Act) (S : World → Prop), Y P ops c S oi v a → ∀ u, Y P ops c S oi v (a.put oj.dst u) := fun a S hy u =>
    hy.of_same (execOp_put oi hsi a oj.dst u h3) (wanted_put oi a oj.dst u h3)
  unfold stepT nAt at *
  simp only [hj] at h ⊢
  rw [wanted_put oj a oi.dst v h1] at h
  split
  · rename_i hw
    rw [if_pos hw] at h
    rw [execOp_put oj hsj a oi.dst v h1] at h
    rcases h with ⟨u, hu, hn⟩ | ⟨u, hu, hn⟩ | ⟨hi, hu⟩
    · exact .inl ⟨u, hu, keep a S hy u, by rw [← Act.put_comm a v u h2]; exact hn⟩
    · exact .inr (.inl ⟨u, hu, keep a S hy u, by rw [← Act.put_comm a v u h2]; exact hn⟩)
    · cases c with
      | true => rcases hi with hi | hi
                · rw [hidle rfl] at hi; cases hi
                · rw [hcl] at hi; cases hi
      | false =>
        refine .inr (.inr ⟨hi, fun w hS => ?_⟩)
        refine wpOp_mono (fun a' w' ⟨y', S', a1, a2, a3⟩ => ⟨S', a1, a2, (Y.of_if y').sub (a2 hcl), a3⟩) (wpOp_putIf hj hap hsi hsj (fun c a w h => hQ c a _ _ w h) hy.if (hu w hS))
  · rename_i hw
    rw [if_neg hw] at h
    exact ⟨keep a S hy _, by rw [← Act.put_comm a v undef h2]; exact h⟩
/-- The same for an operation that asks the world nothing: it may be drawn ahead of whatever writes, too. -/
theorem stepT_putP {cl : Nat → Bool} {j : Nat} {oi oj : Oper} {v : Value} (hQ : Plain Q) (hj : ops[j]? = some oj) (hap : oi.apart ops oj = true)
    (hsi : ∀ cs b, oi.op ≠ .select cs b) (hsj : ∀ cs b, oj.op ≠ .select cs b) {T : Act → (World → Prop) → Prop} {a : Act} {S : World → Prop}
    (hy : Y P ops false (fun _ => True) oi v a) (h : stepT P ops Q cl T j (a.put oi.dst v) S) :
    stepT P ops Q cl (fun a' S' => Y P ops false (fun _ => True) oi v a' ∧ T (a'.put oi.dst v) S') j a S := by
  obtain ⟨h1, h2, h3⟩ := Oper.apart_spec hap
  have keep : ∀ (a : Act), Y P ops false (fun _ => True) oi v a → ∀ u, Y P ops false (fun _ => True) oi v (a.put oj.dst u) := fun a hy u =>
    hy.of_same (execOp_put oi hsi a oj.dst u h3) (wanted_put oi a oj.dst u h3)
  unfold stepT nAt at *
  simp only [hj] at h ⊢
  rw [wanted_put oj a oi.dst v h1] at h
  split
  · rename_i hw
    rw [if_pos hw] at h
    rw [execOp_put oj hsj a oi.dst v h1] at h
    rcases h with ⟨u, hu, hn⟩ | ⟨u, hu, hn⟩ | ⟨hi, hu⟩
    · exact .inl ⟨u, hu, keep a hy u, by rw [← Act.put_comm a v u h2]; exact hn⟩
    · exact .inr (.inl ⟨u, hu, keep a hy u, by rw [← Act.put_comm a v u h2]; exact hn⟩)
    · refine .inr (.inr ⟨hi, fun w hS => ?_⟩)
      exact wpOp_mono (fun a' w' ⟨y', S', a1, a2, a3⟩ => ⟨S', a1, a2, Y.of_if y', a3⟩) (wpOp_putIf hj hap hsi hsj (fun c a w h => hQ c a _ _ w h) hy.if (hu w hS))
  · rename_i hw
    rw [if_neg hw] at h
    exact ⟨keep a hy _, by rw [← Act.put_comm a v undef h2]; exact h⟩
/-! Who waits for whom. -/
def closed (md : Region.Mode) (ops : Array Oper) (listed : Array Bool) : Prop := ∀ j o, ops[j]? = some o → listed.getD j false = true → ∀ e ∈ o.after, Region.binds md e = true → listed.getD e.on false = true
/-- Behind j stands i: told by bits, each operation's once. -/
def befs (md : Region.Mode) : List Oper → Array Nat → Array Nat
  | [], acc => acc
  | o :: l, acc => befs md l (acc.push (o.after.toList.foldl (fun s e => if Region.binds md e then s ||| 2 ^ e.on ||| acc.getD e.on 0 else s) 0))
inductive Anc (md : Region.Mode) (ops : Array Oper) : Nat → Nat → Prop where
  | one {j i : Nat} {o : Oper} {e : Edge} (ho : ops[j]? = some o) (he : e ∈ o.after) (hb : Region.binds md e = true) (hi : e.on = i) : Anc md ops j i
  | more {j i : Nat} {o : Oper} {e : Edge} (ho : ops[j]? = some o) (he : e ∈ o.after) (hb : Region.binds md e = true) (h : Anc md ops e.on i) : Anc md ops j i
theorem bits_fold {md : Region.Mode} {acc : Array Nat} {i : Nat} : ∀ (es : List Edge) (s : Nat), (es.foldl (fun s e => if Region.binds md e then s ||| 2 ^ e.on ||| acc.getD e.on 0 else s) s).testBit i = true →
    s.testBit i = true ∨ ∃ e ∈ es, Region.binds md e = true ∧ (e.on = i ∨ (acc.getD e.on 0).testBit i = true)
  | [], s, h => .inl h
  | e :: es, s, h => by
    rw [List.foldl_cons] at h
    rcases bits_fold es _ h with h1 | ⟨e', he', hb'⟩
    · by_cases hb : Region.binds md e = true
      · rw [if_pos hb, Nat.testBit_or, Nat.testBit_or, Bool.or_eq_true, Bool.or_eq_true] at h1
        rcases h1 with (h1 | h1) | h1
        · exact .inl h1
        · refine .inr ⟨e, List.mem_cons_self, hb, .inl ?_⟩
          rw [Nat.testBit_two_pow] at h1
          exact of_decide_eq_true h1
        · exact .inr ⟨e, List.mem_cons_self, hb, .inr h1⟩
      · rw [if_neg hb] at h1; exact .inl h1
    · exact .inr ⟨e', List.mem_cons_of_mem _ he', hb'⟩
theorem befs_anc : ∀ (l : List Oper) (acc : Array Nat), (∀ j, l[j]? = ops[acc.size + j]?) → (∀ j i, (acc.getD j 0).testBit i = true → Anc md ops j i) → ∀ j i, ((befs md l acc).getD j 0).testBit i = true → Anc md ops j i
  | [], _, _, h, j, i, hj => h j i hj
  | o :: l, acc, hl, h, j, i, hj => by
    refine befs_anc l _ (fun j => ?_) ?_ j i hj
    · have := hl (j + 1)
      rw [List.getElem?_cons_succ] at this
      rw [this, Array.size_push]
      congr 1
      omega
    · intro j i hj
      rcases Nat.lt_trichotomy j acc.size with h1 | h1 | h1
      · refine h j i ?_
        simpa [Array.getElem?_push, Nat.ne_of_lt h1] using hj
      · subst h1
        have h0 : ops[acc.size]? = some o := by simpa using (hl 0).symm
        simp only [Array.getD_eq_getD_getElem?, Array.getElem?_push, if_pos, Option.getD_some] at hj
        have hz : (0 : Nat).testBit i = false := by simp
        rcases bits_fold (acc := acc) o.after.toList 0 (by simpa using hj) with h2 | ⟨e, he, hb, h2⟩
        · rw [hz] at h2; cases h2
        · have he' : e ∈ o.after := Array.mem_toList_iff.1 he
          rcases h2 with h2 | h2
          · exact .one h0 he' hb h2
          · exact .more h0 he' hb (h _ _ h2)
      · have hlen : ¬ j < (acc.push (o.after.toList.foldl (fun s e => if Region.binds md e then s ||| 2 ^ e.on ||| acc.getD e.on 0 else s) 0)).size := by rw [Array.size_push]; omega
        rw [Array.getD_eq_getD_getElem?, Array.getElem?_eq_none (Nat.not_lt.1 hlen)] at hj
        simp at hj
def reach (md : Region.Mode) (ops : Array Oper) (j i : Nat) : Bool := ((befs md ops.toList #[]).getD j 0).testBit i
theorem reach_anc {j i : Nat} (h : reach md ops j i = true) : Anc md ops j i := befs_anc ops.toList #[] (fun j => by simp) (fun j i h => by simp at h) j i h
theorem closed.set {listed : Array Bool} {i : Nat} (h : closed md ops listed) (hr : i ∈ Region.ready md ops listed) : closed md ops (listed.setIfInBounds i true) := by
  intro j o ho hl e he hb
  obtain ⟨_, oi, hoi, hall⟩ := mem_ready.1 hr
  by_cases hji : j = i
  · subst hji
    rw [hoi] at ho
    injection ho with ho
    subst ho
    exact getD_set_true (hall e he hb)
  · refine getD_set_true (h j o ho ?_ e he hb)
    rw [getD_set_ne false (Ne.symm hji)] at hl
    exact hl
theorem closed.start (n : Nat) : closed md ops (Array.replicate n false) := by
  intro j o _ hl
  rcases Nat.lt_or_ge j n with h | h
  · simp [h] at hl
  · simp [Nat.not_lt.2 h] at hl
theorem closed.anc {listed : Array Bool} (h : closed md ops listed) {j i : Nat} (ha : Anc md ops j i) : ∀ (o : Oper), ops[j]? = some o → (∀ e ∈ o.after, Region.binds md e = true → listed.getD e.on false = true) → listed.getD i false = true := by
  induction ha with
  | one ho he hb hi =>
    intro o ho' hall
    rw [ho] at ho'
    injection ho' with ho'
    subst ho'
    exact hi ▸ hall _ he hb
  | @more j i o e ho he hb ha ih =>
    intro o' ho' hall
    rw [ho] at ho'
    injection ho' with ho'
    subst ho'
    have hl := hall e he hb
    cases hoe : ops[e.on]? with
    | none => cases ha with | one h1 => rw [hoe] at h1; cases h1 | more h1 => rw [hoe] at h1; cases h1
    | some oe => exact ih oe hoe (fun e' he' hb' => h e.on oe hoe hl e' he' hb')
theorem closed.reach {listed : Array Bool} (h : closed md ops listed) {i j : Nat} {o : Oper} (ho : ops[j]? = some o) (hall : ∀ e ∈ o.after, Region.binds md e = true → listed.getD e.on false = true) (hr : reach md ops j i = true) : listed.getD i false = true := h.anc (reach_anc hr) o ho hall
theorem wpT_first {cl : Nat → Bool} {c : Bool} {i : Nat} {oi : Oper} {v : Value} (hQ : Plain Q) (hi : ops[i]? = some oi) (hsel : ∀ (j : Nat) (o : Oper) cs b, ops[j]? = some o → o.op ≠ .select cs b) (hcl : ∀ j, cl j = true → reach md ops j i = true) :
    ∀ (fuel : Nat) (listed : Array Bool) (a : Act) (S : World → Prop), closed md ops listed →
      (∀ j oj, ops[j]? = some oj → j ≠ i → listed.getD j true = false → reach md ops j i = false → oi.apart ops oj = true ∧ (c = true → idle oj.op = true)) →
      i ∈ Region.ready md ops listed → Y P ops c S oi v a →
      wpT P md ops Q cl fuel (listed.setIfInBounds i true) (a.put oi.dst v) S → wpT P md ops Q cl (fuel + 1) listed a S := by
  intro fuel
  induction fuel with
  | zero =>
    intro listed a S _ _ hr hy H
    refine ⟨fun h => (by rw [h] at hr; cases hr), fun j hj => ?_⟩
    by_cases hji : j = i
    · subst hji; exact hy.step hi H
    · have := ready_mono hj hji
      rw [H.1] at this
      cases this
  | succ fuel ih =>
    intro listed a S hclosed hfree hr hy H
    refine ⟨fun h => (by rw [h] at hr; cases hr), fun j hj => ?_⟩
    by_cases hji : j = i
    · subst hji; exact hy.step hi H
    · have h1 := H.2 j (ready_mono hj hji)
      obtain ⟨hjun, oj, hoj, hall⟩ := mem_ready.1 hj
      have hif : listed.getD i false = false := by
        have h0 := (mem_ready.1 hr).1
        rcases Nat.lt_or_ge i listed.size with h' | h'
        · simp [h'] at h0 ⊢; exact h0
        · simp [Array.getElem?_eq_none h']
      have hnot : reach md ops j i = false := by
        cases hc : reach md ops j i with
        | false => rfl
        | true =>
          have := closed.reach hclosed hoj hall hc
          rw [hif] at this
          cases this
      have hclj : cl j = false := by
        cases hc : cl j with
        | false => rfl
        | true =>
          have := closed.reach hclosed hoj hall (hcl j hc)
          rw [hif] at this
          cases this
      have hfj := hfree j oj hoj hji hjun hnot
      have h2 := stepT_put hQ hoj hfj.1 hfj.2 hclj (fun cs b => hsel i oi cs b hi) (fun cs b => hsel j oj cs b hoj) hy h1
      have hfree' : ∀ k ok, ops[k]? = some ok → k ≠ i → (listed.setIfInBounds j true).getD k true = false →
          reach md ops k i = false → oi.apart ops ok = true ∧ (c = true → idle ok.op = true) := fun k ok hk hki hun hno => by
        refine hfree k ok hk hki ?_ hno
        by_cases hjk : j = k
        · subst hjk; exact hjun
        · rw [getD_set_ne true hjk] at hun; exact hun
      refine stepT_mono (fun a' S' h3 => ih (listed.setIfInBounds j true) a' S' (hclosed.set hj) hfree' (ready_mono hr (Ne.symm hji)) h3.1 ?_) h2
      rw [Array.setIfInBounds_comm _ _ hji]
      exact h3.2
theorem wpT_firstP {cl : Nat → Bool} {i : Nat} {oi : Oper} {v : Value} (hQ : Plain Q) (hi : ops[i]? = some oi) (hsel : ∀ (j : Nat) (o : Oper) cs b, ops[j]? = some o → o.op ≠ .select cs b) :
    ∀ (fuel : Nat) (listed : Array Bool) (a : Act) (S : World → Prop), closed md ops listed →
      (∀ j oj, ops[j]? = some oj → j ≠ i → listed.getD j true = false → reach md ops j i = false → oi.apart ops oj = true) →
      i ∈ Region.ready md ops listed → Y P ops false (fun _ => True) oi v a →
      wpT P md ops Q cl fuel (listed.setIfInBounds i true) (a.put oi.dst v) S → wpT P md ops Q cl (fuel + 1) listed a S := by
  intro fuel
  induction fuel with
  | zero =>
    intro listed a S _ _ hr hy H
    refine ⟨fun h => (by rw [h] at hr; cases hr), fun j hj => ?_⟩
    by_cases hji : j = i
    · subst hji; exact (hy.sub (S' := S) (fun _ _ => trivial)).step hi H
    · have := ready_mono hj hji
      rw [H.1] at this
      cases this
  | succ fuel ih =>
    intro listed a S hclosed hfree hr hy H
    refine ⟨fun h => (by rw [h] at hr; cases hr), fun j hj => ?_⟩
    by_cases hji : j = i
    · subst hji; exact (hy.sub (S' := S) (fun _ _ => trivial)).step hi H
    · have h1 := H.2 j (ready_mono hj hji)
      obtain ⟨hjun, oj, hoj, hall⟩ := mem_ready.1 hj
      have hif : listed.getD i false = false := by
        have h0 := (mem_ready.1 hr).1
        rcases Nat.lt_or_ge i listed.size with h' | h'
        · simp [h'] at h0 ⊢; exact h0
        · simp [Array.getElem?_eq_none h']
      have hnot : reach md ops j i = false := by
        cases hc : reach md ops j i with
        | false => rfl
        | true =>
          have := closed.reach hclosed hoj hall hc
          rw [hif] at this
          cases this
      have h2 := stepT_putP hQ hoj (hfree j oj hoj hji hjun hnot) (fun cs b => hsel i oi cs b hi) (fun cs b => hsel j oj cs b hoj) hy h1
      have hfree' : ∀ k ok, ops[k]? = some ok → k ≠ i → (listed.setIfInBounds j true).getD k true = false →
          reach md ops k i = false → oi.apart ops ok = true := fun k ok hk hki hun hno => by
        refine hfree k ok hk hki ?_ hno
        by_cases hjk : j = k
        · subst hjk; exact hjun
        · rw [getD_set_ne true hjk] at hun; exact hun
      refine stepT_mono (fun a' S' h3 => ih (listed.setIfInBounds j true) a' S' (hclosed.set hj) hfree' (ready_mono hr (Ne.symm hji)) h3.1 ?_) h2
      rw [Array.setIfInBounds_comm _ _ hji]
      exact h3.2
/-! The prover's order, checked by a Bool. -/
def freeC (md : Region.Mode) (ops : Array Oper) (c : Bool) (listed : Array Bool) (i : Nat) : Bool :=
  match ops[i]? with
  | none => false
  | some oi => (List.range ops.size).all fun j => j == i || listed.getD j true || match ops[j]? with
      | some oj => reach md ops j i || (oi.apart ops oj && (!c || idle oj.op))
      | none => true
theorem freeC_spec {c : Bool} {i : Nat} {oi : Oper} {listed : Array Bool} (hi : ops[i]? = some oi) (h : freeC md ops c listed i = true) (j : Nat) (oj : Oper)
    (hj : ops[j]? = some oj) (hne : j ≠ i) (hun : listed.getD j true = false) (hno : reach md ops j i = false) : oi.apart ops oj = true ∧ (c = true → idle oj.op = true) := by
  simp only [freeC, hi, List.all_eq_true, List.mem_range] at h
  have h1 := h j (Array.getElem?_eq_some_iff.1 hj).1
  simp only [hj, Bool.or_eq_true, beq_iff_eq, hne, false_or, hun, hno, Bool.false_eq_true, Bool.and_eq_true, Bool.not_eq_true'] at h1
  exact ⟨h1.1, fun hc => h1.2.resolve_left (by simp [hc])⟩
def busy (ops : Array Oper) (i : Nat) : Bool := match ops[i]? with | some o => !idle o.op | none => false
def chkTail (md : Region.Mode) (ops : Array Oper) : List Nat → Array Bool → Bool
  | [], listed => Region.ready md ops listed == []
  | i :: l, listed => Region.ready md ops listed == [i] && (ops[i]?).isSome && chkTail md ops l (listed.setIfInBounds i true)
def chk (md : Region.Mode) (ops : Array Oper) (tail : List Nat) : List (Nat × K) → Array Bool → Bool
  | [], listed => chkTail md ops tail listed
  | (i, k) :: l, listed =>
    (match k with
      | .L => (Region.ready md ops listed).contains i && freeC md ops false listed i && tail.all fun j => reach md ops j i
      | .C => (Region.ready md ops listed).contains i && freeC md ops true listed i && tail.all fun j => reach md ops j i
      | .N => Region.ready md ops listed == [i] && busy ops i && !tail.contains i
      | .P => (Region.ready md ops listed).contains i && freeC md ops false listed i)
    && chk md ops tail l (listed.setIfInBounds i true)
/-- The worlds that go on from W. -/
abbrev On (W w : World) : Prop := Below W.heap.size W w
def wpOrd (P : Program) (ops : Array Oper) (Q : Exit → Act → World → Prop) (tail : List Nat) : List (Nat × K) → Act → World → Prop
  | [], a, W => ∀ w, On W w → wpList P ops Q (tail.filterMap fun i => ops[i]?) a w
  | (i, k) :: l, a, W =>
    match ops[i]? with
    | none => False
    | some o =>
      if Region.wanted o (yielded ops a.tmps) then
        (match k with
          | .L => ∃ v, (∀ w, On W w → (execOp a.eval o).run P w = .ok (.value v) w) ∧ wpOrd P ops Q tail l (a.put o.dst v) W
          | .C => ∃ v, (∀ w, On W w → nAt P o a w fun u w' => u = v ∧ On W w') ∧ wpOrd P ops Q tail l (a.put o.dst v) W
          | .N => ∀ w, On W w → wpList P ops (Exit.then (fun a' w' => On W w' ∧ wpOrd P ops Q tail l a' w') Q) [o] a w
          | .P => ∃ v, (∀ w, (execOp a.eval o).run P w = .ok (.value v) w) ∧ wpOrd P ops Q tail l (a.put o.dst v) W)
      else wpOrd P ops Q tail l (a.put o.dst undef) W
theorem wpOp_of_one {i : Nat} {o : Oper} {T : Act → World → Prop} {a : Act} {w : World} (hi : ops[i]? = some o) (h : wpList P ops (Exit.then T Q) [o] a w) (hl : LetsOut (Exit.then T Q) → LetsOut Q := by exact id) : wpOp P ops Q i T a w := by
  simp only [wpList] at h
  unfold wpOp
  simp only [hi]
  split
  · rename_i hw
    rw [if_pos hw] at h
    rcases h with h | ⟨h1, h2⟩
    · refine .inl ?_
      unfold Oper.wp at *
      generalize (execOp a.eval o).run P w = r at *
      cases r with
      | ok n w' =>
        cases n <;> simp only [Oper.upon] at h ⊢ <;>
          first
            | exact h
            | exact h.mono (fun e w'' he => by cases e <;> first | exact he | exact hl he)
      | halt x w' => cases x <;> simp only [Oper.upon] at h ⊢ <;> exact h
    · exact .inr ⟨h1, hl h2⟩
  · rename_i hw
    rw [if_neg hw] at h
    exact h
theorem wpT_of_tail {cl : Nat → Bool} : ∀ (l : List Nat) (listed : Array Bool) (a : Act) (S : World → Prop), (∀ i ∈ l, cl i = true) → chkTail md ops l listed = true → (∀ w, S w → wpList P ops Q (l.filterMap fun i => ops[i]?) a w) → wpT P md ops Q cl l.length listed a S
  | [], listed, a, S, _, hc, h => ⟨by simpa [chkTail] using hc, h⟩
  | i :: l, listed, a, S, hcl, hc, h => by
    simp only [chkTail, Bool.and_eq_true, beq_iff_eq] at hc
    obtain ⟨⟨hr, hbusy⟩, hl⟩ := hc
    cases hi : ops[i]? with
    | none => simp [hi] at hbusy
    | some o =>
      rw [List.length_cons]
      refine ⟨fun h0 => (by rw [hr] at h0; cases h0), fun j hj => ?_⟩
      rw [hr] at hj
      obtain rfl := List.mem_singleton.1 hj
      have ih := fun a S h => wpT_of_tail l (listed.setIfInBounds j true) a S (fun k hk => hcl k (List.mem_cons_of_mem _ hk)) hl h
      have hlist : ∀ w, S w → wpOp P ops Q j (wpList P ops Q (l.filterMap fun i => ops[i]?)) a w := fun w hS => by
        have h1 := h w hS
        simp only [List.filterMap_cons, hi] at h1
        unfold wpOp
        simp only [hi]
        unfold wpList at h1
        exact h1
      unfold stepT
      simp only [hi]
      split
      · exact .inr (.inr ⟨.inr (hcl j List.mem_cons_self), fun w hS => wpOp_mono (fun a' w' hh => ⟨fun w => w = w', rfl, fun h0 => (by rw [hcl j List.mem_cons_self] at h0; cases h0), ih a' _ (fun w e => by subst e; exact hh)⟩) (hlist w hS)⟩)
      · rename_i hw
        refine ih _ _ fun w hS => ?_
        have h1 := hlist w hS
        unfold wpOp at h1
        simp only [hi] at h1
        rw [if_neg hw] at h1
        exact h1
theorem wpT_of_ord (hs : Region.noSelect ops = true) (hQ : Plain Q) (tail : List Nat) : ∀ (l : List (Nat × K)) (listed : Array Bool) (a : Act) (W : World), closed md ops listed → chk md ops tail l listed = true → wpOrd P ops Q tail l a W → wpT P md ops Q (fun j => tail.contains j) (l.length + tail.length) listed a (On W)
  | [], listed, a, W, _, hc, h => by
    rw [List.length_nil, Nat.zero_add]
    exact wpT_of_tail tail listed a _ (fun i hi => by simpa using hi) hc h
  | (i, k) :: l, listed, a, W, hclosed, hc, h => by
    simp only [chk, Bool.and_eq_true] at hc
    obtain ⟨hk, hl⟩ := hc
    simp only [wpOrd] at h
    cases hi : ops[i]? with
    | none => simp only [hi] at h
    | some o =>
      simp only [hi] at h
      have hri : i ∈ Region.ready md ops listed := by
        cases k <;> simp only [Bool.and_eq_true, beq_iff_eq] at hk
        · simpa using hk.1.1
        · simpa using hk.1.1
        · rw [hk.1.1]; exact List.mem_singleton.2 rfl
        · simpa using hk.1
      have ih := fun a W h => wpT_of_ord hs hQ tail l (listed.setIfInBounds i true) a W (hclosed.set hri) hl h
      have sel := Region.noSelect_spec hs
      have hlen : (((i, k) :: l).length + tail.length) = (l.length + tail.length) + 1 := by rw [List.length_cons]; omega
      rw [hlen]
      have hreach : k ≠ .N → k ≠ .P → ∀ j, (tail.contains j) = true → reach md ops j i = true := by
        intro hkn hkp j hj
        have hj' : j ∈ tail := by simpa using hj
        cases k <;> simp only [Bool.and_eq_true, List.all_eq_true] at hk
        · exact hk.2 j hj'
        · exact hk.2 j hj'
        · exact absurd rfl hkn
        · exact absurd rfl hkp
      by_cases hw : Region.wanted o (yielded ops a.tmps) = true
      · rw [if_pos hw] at h
        cases k with
        | L =>
          simp only [Bool.and_eq_true] at hk
          obtain ⟨v, h1, h2⟩ := h
          exact wpT_first (c := false) hQ hi sel (hreach (by simp) (by simp)) _ listed a _ hclosed (fun j oj hj hne hun hno => freeC_spec hi hk.1.2 j oj hj hne hun hno) hri (.inl ⟨hw, fun w hS => by simpa using h1 w hS⟩) (ih _ _ h2)
        | C =>
          simp only [Bool.and_eq_true] at hk
          obtain ⟨v, h1, h2⟩ := h
          exact wpT_first (c := true) hQ hi sel (hreach (by simp) (by simp)) _ listed a _ hclosed (fun j oj hj hne hun hno => freeC_spec hi hk.1.2 j oj hj hne hun hno) hri (.inl ⟨hw, fun w hS => by simpa using h1 w hS⟩) (ih _ _ h2)
        | N =>
          simp only [Bool.and_eq_true, beq_iff_eq, busy, hi, Bool.not_eq_true'] at hk
          refine ⟨fun h0 => (by rw [hk.1.1] at h0; cases h0), fun j hj => ?_⟩
          rw [hk.1.1] at hj
          obtain rfl := List.mem_singleton.1 hj
          unfold stepT
          simp only [hi]
          rw [if_pos hw]
          exact .inr (.inr ⟨.inl hk.1.2, fun w hS => wpOp_mono (fun a' w' ⟨hon, hh⟩ => ⟨On w', Below.refl _ _, fun _ w'' hw'' => hon.trans (hw''.mono hon.size), ih _ _ hh⟩) (wpOp_of_one hi (h w hS))⟩)
        | P =>
          simp only [Bool.and_eq_true] at hk
          obtain ⟨v, h1, h2⟩ := h
          exact wpT_firstP hQ hi sel _ listed a _ hclosed (fun j oj hj hne hun hno => (freeC_spec hi hk.2 j oj hj hne hun hno).1) hri (.inl ⟨hw, fun w _ => by simpa using h1 w⟩) (ih _ _ h2)
      · rw [if_neg hw] at h
        have hw' : Region.wanted o (yielded ops a.tmps) = false := by simpa using hw
        cases k with
        | P =>
          simp only [Bool.and_eq_true] at hk
          exact wpT_firstP hQ hi sel _ listed a _ hclosed (fun j oj hj hne hun hno => (freeC_spec hi hk.2 j oj hj hne hun hno).1) hri (.inr ⟨hw', rfl⟩) (ih _ _ h)
        | L =>
          simp only [Bool.and_eq_true] at hk
          exact wpT_first (c := false) hQ hi sel (hreach (by simp) (by simp)) _ listed a _ hclosed (fun j oj hj hne hun hno => ⟨(freeC_spec hi hk.1.2 j oj hj hne hun hno).1, fun h => by cases h⟩) hri (.inr ⟨hw', rfl⟩) (ih _ _ h)
        | C =>
          simp only [Bool.and_eq_true] at hk
          exact wpT_first (c := false) hQ hi sel (hreach (by simp) (by simp)) _ listed a _ hclosed (fun j oj hj hne hun hno => ⟨(freeC_spec hi hk.1.2 j oj hj hne hun hno).1, fun h => by cases h⟩) hri (.inr ⟨hw', rfl⟩) (ih _ _ h)
        | N =>
          simp only [Bool.and_eq_true, beq_iff_eq, busy, hi, Bool.not_eq_true'] at hk
          refine ⟨fun h0 => (by rw [hk.1.1] at h0; cases h0), fun j hj => ?_⟩
          rw [hk.1.1] at hj
          obtain rfl := List.mem_singleton.1 hj
          unfold stepT
          simp only [hi]
          rw [if_neg hw]
          exact ih _ _ h
/-- The same, shut (so that nobody lays it open unasked). -/
structure Ord (P : Program) (ops : Array Oper) (Q : Exit → Act → World → Prop) (tail : List Nat) (l : List (Nat × K)) (a : Act) (W : World) : Prop where mk :: (out : wpOrd P ops Q tail l a W)
/-- The rule: a region that draws its order, its operations taken in the order l, then the tail. -/
theorem region {id : Nat} {a : Act} {w : World} (l : List (Nat × K)) (tail : List Nat) (hm : P.follows .mixedOrders = true) (hc : (Region.noSelect ops && (l.length + tail.length == ops.size) && chk .any ops tail l (Array.replicate ops.size false)) = true)
    (h : Ord P ops Q tail l a w) (hQ : Plain Q := by exact fun c a d v w h => by cases d <;> exact h) : (Code.region id ops true).wp P Q a w := by
  simp only [Bool.and_eq_true, beq_iff_eq] at hc
  refine wp_region_any hm (wpAny_of_wpT (cl := fun j => tail.contains j) _ _ _ (On w) _ (below_drew' w) ?_)
  rw [← hc.1.2]
  exact wpT_of_ord hc.1.1 hQ tail l _ a w (closed.start _) (by rw [hc.1.2]; exact hc.2) h.out
where
  below_drew' (w : World) : On w { w with drawn := w.drawn + 1 } := Below.drew (Below.refl _ _)
/-! The moves. -/
section
variable {i : Nat} {tail : List Nat} {l : List (Nat × K)} {a : Act} {W : World} {o : Oper} {N : Tmp}
theorem nil (h : ∀ w, On W w → Q .normal a w) : Ord P ops Q [] [] a W := ⟨h⟩
theorem stepL {v : Value} (hy : ∀ w, On W w → (execOp a.eval o).run P w = .ok (.value v) w) (h : Ord P ops Q tail l (a.put (some N) v) W) (hi : ops[i]? = some o) (hN : o.dst = some N)
    (hw : Region.wanted o (yielded ops a.tmps) = true) : Ord P ops Q tail ((i, .L) :: l) a W := by
  refine ⟨?_⟩
  simp only [wpOrd, hi]
  rw [if_pos hw]
  exact ⟨v, hy, hN ▸ h.out⟩
theorem stepP {v : Value} (hy : ∀ w, (execOp a.eval o).run P w = .ok (.value v) w) (h : Ord P ops Q tail l (a.put (some N) v) W) (hi : ops[i]? = some o) (hN : o.dst = some N)
    (hw : Region.wanted o (yielded ops a.tmps) = true) : Ord P ops Q tail ((i, .P) :: l) a W := by
  refine ⟨?_⟩
  simp only [wpOrd, hi]
  rw [if_pos hw]
  exact ⟨v, hy, hN ▸ h.out⟩
theorem stepC {v : Value} (hy : ∀ w, On W w → nAt P o a w fun u w' => u = v ∧ On W w') (h : Ord P ops Q tail l (a.put (some N) v) W) (hi : ops[i]? = some o) (hN : o.dst = some N)
    (hw : Region.wanted o (yielded ops a.tmps) = true) : Ord P ops Q tail ((i, .C) :: l) a W := by
  refine ⟨?_⟩
  simp only [wpOrd, hi]
  rw [if_pos hw]
  exact ⟨v, hy, hN ▸ h.out⟩
theorem skip {k : K} (h : Ord P ops Q tail l (a.put (some N) undef) W) (hi : ops[i]? = some o) (hN : o.dst = some N) (hw : Region.wanted o (yielded ops a.tmps) = false) : Ord P ops Q tail ((i, k) :: l) a W := by
  refine ⟨?_⟩
  simp only [wpOrd, hi]
  rw [if_neg (by simp [hw]), hN]
  exact h.out
theorem tail_ {os : List Oper} (h : ∀ w, On W w → wpList P ops Q os a w) (hos : (tail.filterMap fun i => ops[i]?) = os := by simp only [List.filterMap_cons, List.filterMap_nil, List.getElem?_toArray, List.getElem?_cons_zero, List.getElem?_cons_succ]; rfl) : Ord P ops Q tail [] a W := by
  subst hos
  exact ⟨h⟩
end
end Go.Proofs.YtgemaohdlibboaaDoor.Reg
/- Words of these proofs: reading of relations and facts, worlds that go on, calls inside a region that draws. No condition. -/
namespace Go.Proofs.YtgemaohdlibboaaDoor.Reg
open Go Go.RowKit Go.Proofs.YtgemaohdlibboaaDoorW.PrintWords
theorem On.refl (W : World) : On W W := Below.refl _ _
theorem On.trans {a b c : World} (h : On a b) (k : On b c) : On a c := below_then h h.size k
theorem On.eq {W w : World} (h : On W w) : ∀ p, (W.cell? p).isSome = true → w.cell? p = W.cell? p := fun p hp => by
  obtain ⟨v, hv⟩ := Option.isSome_iff_exists.1 hp
  exact h.cell (World.block_lt_of_cell? W p hv)
theorem On.drew {W w : World} (h : On W w) : On W { w with drawn := w.drawn + 1 } := below_drew h
theorem On.alloc {W w : World} (h : On W w) (o : Obj) : On W (w.alloc o) := below_alloc h o
theorem on_draw (W : World) : On W { W with drawn := W.drawn + 1 } := On.drew (On.refl W)
end Go.Proofs.YtgemaohdlibboaaDoor.Reg
namespace Go.Proofs.YtgemaohdlibboaaDoor.H
open Go Go.RowKit Go.Proofs.YtgemaohdlibboaaDoorW.PrintWords Go.Proofs.YtgemaohdlibboaaDoorW.PrintLast
open Go.Proofs.YtgemaohdlibboaaDoor.Reg (On on_draw)
set_option linter.unusedVariables false

abbrev Rel := ByteArray × Int × Bool
abbrev Fct := Int × List Int
abbrev kInts : Kd Int := Kd.int .i64
abbrev kRel : Kd Rel := Kd.pair Kd.string (Kd.pair (Kd.int .i64) Kd.bool)
abbrev kFct : Kd Fct := Kd.pair (Kd.int .i64) (Kd.slice 3 (Kd.int .i64))


/-- Numbers of int's range. -/
def InR (xs : List Int) : Prop := ∀ x ∈ xs, -9223372036854775808 ≤ x ∧ x ≤ 9223372036854775807
def InF (fs : List Fct) : Prop := ∀ f ∈ fs, InR f.2
abbrev Ints (w : World) (A : Option Addr) (c : Nat) (xs : List Int) : Prop := xs.length ≤ c ∧ kInts.C w A xs.length xs ∧ InR xs
abbrev Rels (w : World) (A : Option Addr) (c : Nat) (xs : List Rel) : Prop := xs.length ≤ c ∧ kRel.C w A xs.length xs
abbrev Fcts (w : World) (A : Option Addr) (c : Nat) (xs : List Fct) : Prop := xs.length ≤ c ∧ kFct.C w A xs.length xs ∧ InF xs
theorem Ints.on {W w : World} {A : Option Addr} {c : Nat} {xs : List Int} (h : Ints W A c xs) (hb : On W w) : Ints w A c xs := ⟨h.1, Kd.C_below h.2.1 hb, h.2.2⟩
theorem Rels.on {W w : World} {A : Option Addr} {c : Nat} {xs : List Rel} (h : Rels W A c xs) (hb : On W w) : Rels w A c xs := ⟨h.1, Kd.C_below h.2 hb⟩
theorem Fcts.on {W w : World} {A : Option Addr} {c : Nat} {xs : List Fct} (h : Fcts W A c xs) (hb : On W w) : Fcts w A c xs := ⟨h.1, Kd.C_below h.2.1 hb, h.2.2⟩
theorem Ints.max {w : World} {A : Option Addr} {c : Nat} {xs : List Int} (h : Ints w A c xs) : xs.length ≤ 9223372036854775807 := h.2.1.2.1
theorem Rels.max {w : World} {A : Option Addr} {c : Nat} {xs : List Rel} (h : Rels w A c xs) : xs.length ≤ 9223372036854775807 := h.2.2.1
theorem Fcts.max {w : World} {A : Option Addr} {c : Nat} {xs : List Fct} (h : Fcts w A c xs) : xs.length ≤ 9223372036854775807 := h.2.1.2.1
theorem Ints.bd {w : World} {A : Option Addr} {c : Nat} {xs : List Int} (h : Ints w A c xs) (i : Nat) (hi : i < xs.length) : -9223372036854775808 ≤ xs[i] ∧ xs[i] ≤ 9223372036854775807 := h.2.2 _ (List.getElem_mem hi)
theorem Ints.at {w : World} {A : Option Addr} {c : Nat} {xs : List Int} (h : Ints w A c xs) (i : Nat) (hi : i < xs.length) : ∃ ad, A = some ad ∧ w.cell? (ad.add i) = some (.int .i64 xs[i]) := by
  obtain ⟨ad, e, hc⟩ := Kd.at_int h.2.1 (i : Int) (by omega) (by omega)
  refine ⟨ad, e, ?_⟩
  simpa [rd, List.getD_eq_getElem?_getD, hi] using hc
theorem Rels.at {w : World} {A : Option Addr} {c : Nat} {xs : List Rel} (h : Rels w A c xs) (i : Nat) (hi : i < xs.length) : ∃ ad, A = some ad ∧ w.cell? (ad.add (i * 3)) = some (.string xs[i].1) ∧ w.cell? ⟨(ad.add (i * 3)).block, (ad.add (i * 3)).off + 1, none⟩ = some (.int .i64 xs[i].2.1) ∧ w.cell? ⟨(ad.add (i * 3)).block, (ad.add (i * 3)).off + 2, none⟩ = some (.bool xs[i].2.2) := by
  obtain ⟨ad, cs, e, _, hK, hc0⟩ := Kd.C_get h.2 xs[i] (i : Int) (by omega) (by omega)
  have hc : ∀ j u, cs[j]? = some u → w.cell? (ad.add (i * 3 + j)) = some u := hc0
  have e1 : xs.getD (i : Int).toNat xs[i] = xs[i] := by simp [List.getD_eq_getElem?_getD, hi]
  rw [e1] at hK
  obtain ⟨_, _, rfl, rfl, ⟨_, _, rfl, rfl, rfl⟩⟩ := hK
  exact ⟨ad, e, hc 0 _ rfl, by rw [← add_field _ _ 1 (by omega)]; exact hc 1 _ rfl, by rw [← add_field _ _ 2 (by omega)]; exact hc 2 _ rfl⟩
theorem Fcts.at {w : World} {A : Option Addr} {c : Nat} {xs : List Fct} (h : Fcts w A c xs) (i : Nat) (hi : i < xs.length) : ∃ ad A1 c1, A = some ad ∧ w.cell? (ad.add (i * 2)) = some (.int .i64 xs[i].1) ∧ w.cell? ⟨(ad.add (i * 2)).block, (ad.add (i * 2)).off + 1, none⟩ = some (.slice A1 xs[i].2.length c1) ∧ Ints w A1 c1 xs[i].2 := by
  obtain ⟨ad, cs, e, _, hK, hc0⟩ := Kd.C_get h.2.1 xs[i] (i : Int) (by omega) (by omega)
  have hc : ∀ j u, cs[j]? = some u → w.cell? (ad.add (i * 2 + j)) = some u := hc0
  have e1 : xs.getD (i : Int).toNat xs[i] = xs[i] := by simp [List.getD_eq_getElem?_getD, hi]
  rw [e1] at hK
  obtain ⟨_, _, rfl, rfl, ⟨A1, c1, rfl, l1, g1⟩⟩ := hK
  exact ⟨ad, A1, c1, e, hc 0 _ rfl, by rw [← add_field _ _ 1 (by omega)]; exact hc 1 _ rfl, l1, g1, h.2.2 _ (List.getElem_mem hi)⟩
/-- The blocks of the call's own: number, content. -/
def Loc (w : World) : List (Nat × Array Value × TypeId) → Prop
  | [] => True
  | (g, cs, t) :: l => w.heap[g]? = some (.cells cs t (0, 0)) ∧ Loc w l
theorem Loc.on {W w : World} (hb : On W w) : ∀ {l : List (Nat × Array Value × TypeId)}, Loc W l → Loc w l
  | [], _ => trivial
  | _ :: _, h => ⟨blk_below h.1 hb, Loc.on hb h.2⟩
theorem loc_new (w : World) (cs : Array Value) (t : TypeId) : (w.alloc (.cells cs t (0, 0))).heap[w.heap.size]? = some (.cells cs t (0, 0)) := blk_new w _
theorem loc1 (w : World) (cs : Array Value) (t : TypeId) : Loc (w.alloc (.cells cs t (0, 0))) [(w.heap.size, cs, t)] := ⟨blk_new w _, trivial⟩
theorem ret_bool {a b : Bool} (h : a = b) : Ending.returned (.bool a) = Ending.returned (.bool b) := by rw [h]
theorem ret_int {k : IntKind} {a b : Int} (h : a = b) : Ending.returned (.int k a) = Ending.returned (.int k b) := by rw [h]
theorem bt0 (s : ByteArray) : ∀ h : 0 < s.size, ((s[0]'h).toNat : Int) = bt s 0 := fun h => bt_at s 0 h
theorem _root_.Go.Proofs.YtgemaohdlibboaaDoor.Reg.On.set {W w : World} (h : On W w) {p : Addr} (hp : W.heap.size ≤ p.block) (u : Value) : On W (w.setCell p u) := Below.setCell h hp u
theorem modify_push {α : Type} (xs : Array α) (a : α) (f : α → α) : (xs.push a).modify xs.size f = xs.push (f a) := by
  apply Array.ext_getElem?
  intro i
  rw [Array.getElem?_modify, Array.getElem?_push, Array.getElem?_push]
  by_cases h : i = xs.size
  · subst h; simp
  · rw [if_neg (fun e => h e.symm), if_neg h, if_neg h]
theorem alloc_set (w : World) (cs : Array Value) (t : TypeId) (j : Nat) (v : Value) : (w.alloc (.cells cs t (0, 0))).setCell ⟨w.heap.size, j, none⟩ v = w.alloc (.cells (cs.setIfInBounds j v) t (0, 0)) := by
  show ({ (w.alloc (.cells cs t (0, 0))) with heap := (w.heap.push (.cells cs t (0, 0))).modify w.heap.size _ } : World) = _
  rw [modify_push]
  rfl
/-- A struct that is made and filled. -/
theorem alloc_fill (w : World) (a b c d : Value) (t : TypeId) : ((w.alloc (.cells #[a, b] t (0, 0))).setCell ⟨w.heap.size, 0, none⟩ c).setCell ⟨w.heap.size, 1, none⟩ d = w.alloc (.cells #[c, d] t (0, 0)) := by
  rw [alloc_set, alloc_set]; rfl
theorem alloc_fill3 (w : World) (a b c d e f : Value) (t : TypeId) : (((w.alloc (.cells #[a, b, c] t (0, 0))).setCell ⟨w.heap.size, 0, none⟩ d).setCell ⟨w.heap.size, 1, none⟩ e).setCell ⟨w.heap.size, 2, none⟩ f = w.alloc (.cells #[d, e, f] t (0, 0)) := by
  rw [alloc_set, alloc_set, alloc_set]; rfl
/-! Steps inside a region that draws. -/
section
variable {P : Program} {ops : Array Oper} {Q : Exit → Act → World → Prop} {i : Nat} {tail : List Nat} {l : List (Nat × Reg.K)} {a a' : Act} {W : World} {o : Oper} {N : Tmp}
theorem nAt_call {f : FuncId} {fn : Func} {xs : Array Operand} {ts : Array TypeId} {args : Array Value} {w : World} {R : Value → World → Prop} (hf : P.funcs[f]? = some fn) (hname : (fn.name == "runtime.NumGoroutine") = false) (hb : fn.body.isSome = true)
    (hop : o.op = .call { callee := .value (.func f), args := xs, argTypes := ts }) (hargs : xs.map a.eval = args) (h : Calls P f args w fun e w' => ∃ u, e = .returned u ∧ R u w') : Reg.nAt P o a w R := by
  have he := enters_ hf hname hb args w
  have hrun : (execOp a.eval o).run P w = .ok (.enter f args) w := by
    unfold execOp
    simp [hop, resolve, Deferred.ofValue, invoke, Act.eval, hargs, he]
  unfold Reg.nAt
  rw [hrun]
  exact h
/-- A call that hands back one value. -/
theorem callC {f : FuncId} {fn : Func} {xs : Array Operand} {ts : Array TypeId} {args : Array Value} (v : Value) (hf : P.funcs[f]? = some fn)
    (h : ∀ w, On W w → Calls P f args w fun e w' => e = .returned v ∧ On w w') (rest : Reg.Ord P ops Q tail l a' W) (hi : ops[i]? = some o := by rfl) (hN : o.dst = some N := by rfl)
    (hop : o.op = .call { callee := .value (.func f), args := xs, argTypes := ts } := by rfl) (hargs : xs.map a.eval = args := by (try simp only [List.map_toArray, List.map_cons, List.map_nil]); rfl)
    (hname : (fn.name == "runtime.NumGoroutine") = false := by kernel_rfl) (hb : fn.body.isSome = true := by rfl)
    (hw : Region.wanted o (yielded ops a.tmps) = true := by with_unfolding_all rfl) (ha : a.put (some N) v = a' := by simp only [Act.put, List.setIfInBounds_toArray, List.set_cons_zero, List.set_cons_succ]; rfl) : Reg.Ord P ops Q tail ((i, .C) :: l) a W :=
  Reg.stepC (v := v) (fun w hS => nAt_call hf hname hb hop hargs ((h w hS).mono fun e w' ⟨he, hS'⟩ => ⟨v, he, rfl, hS.trans hS'⟩)) (ha ▸ rest) hi hN hw
/-- A read, a sum, an address. -/
theorem sL {v : Value} (h : Reg.Ord P ops Q tail l a' W) (hi : ops[i]? = some o := by rfl) (hN : o.dst = some N := by rfl) (hw : Region.wanted o (yielded ops a.tmps) = true := by rfl)
    (hy : ∀ w, On W w → (execOp a.eval o).run P w = .ok (.value v) w := by intro w' hS; have hA := Reg.On.eq hS; clear hS; (go_simp; first | done | rfl))
    (ha : a.put (some N) v = a' := by simp only [Act.put, List.setIfInBounds_toArray, List.set_cons_zero, List.set_cons_succ]; rfl) : Reg.Ord P ops Q tail ((i, .L) :: l) a W := Reg.stepL hy (ha ▸ h) hi hN hw
/-- What asks the world nothing. -/
theorem sQ {v : Value} (h : Reg.Ord P ops Q tail l a' W) (hi : ops[i]? = some o := by rfl) (hN : o.dst = some N := by rfl) (hw : Region.wanted o (yielded ops a.tmps) = true := by rfl)
    (hy : ∀ w, (execOp a.eval o).run P w = .ok (.value v) w := by intro w'; (go_simp; first | done | rfl))
    (ha : a.put (some N) v = a' := by simp only [Act.put, List.setIfInBounds_toArray, List.set_cons_zero, List.set_cons_succ]; rfl) : Reg.Ord P ops Q tail ((i, .P) :: l) a W := Reg.stepP hy (ha ▸ h) hi hN hw
/-- Sums and differences whose bounds are known. -/
theorem sS {x y : Operand} {m n : Int} {t t2 : TypeId} (h : Reg.Ord P ops Q tail l a' W) (hi : ops[i]? = some o := by rfl) (hN : o.dst = some N := by rfl) (hop : o.op = .binOp .sub t x y t2 := by rfl) (hw : Region.wanted o (yielded ops a.tmps) = true := by rfl)
    (hx : a.eval x = .int .i64 m := by rfl) (hy : a.eval y = .int .i64 n := by rfl) {r : Int} (hb : IntKind.i64.wrap (m - n) = r := by first | (with_reducible assumption) | exact IntWalk.i64_in _ (by omega))
    (ha : a.put (some N) (.int .i64 r) = a' := by simp only [Act.put, List.setIfInBounds_toArray, List.set_cons_zero, List.set_cons_succ]; rfl) : Reg.Ord P ops Q tail ((i, .L) :: l) a W :=
  Reg.stepL (fun w _ => by
    subst hb
    unfold execOp
    simp only [hop, hx, hy]
    rfl) (ha ▸ h) hi hN hw
theorem sA {x y : Operand} {m n : Int} {t t2 : TypeId} (h : Reg.Ord P ops Q tail l a' W) (hi : ops[i]? = some o := by rfl) (hN : o.dst = some N := by rfl) (hop : o.op = .binOp .add t x y t2 := by rfl) (hw : Region.wanted o (yielded ops a.tmps) = true := by rfl)
    (hx : a.eval x = .int .i64 m := by rfl) (hy : a.eval y = .int .i64 n := by rfl) {r : Int} (hb : IntKind.i64.wrap (m + n) = r := by first | (with_reducible assumption) | exact IntWalk.i64_in _ (by omega))
    (ha : a.put (some N) (.int .i64 r) = a' := by simp only [Act.put, List.setIfInBounds_toArray, List.set_cons_zero, List.set_cons_succ]; rfl) : Reg.Ord P ops Q tail ((i, .L) :: l) a W :=
  Reg.stepL (fun w _ => by
    subst hb
    unfold execOp
    simp only [hop, hx, hy]
    rfl) (ha ▸ h) hi hN hw
/-- A choice, decided. -/
theorem sP {v : Value} {c x y : Operand} {b : Bool} (h : Reg.Ord P ops Q tail l a' W) (hi : ops[i]? = some o := by rfl) (hN : o.dst = some N := by rfl) (hop : o.op = .pick c x y := by rfl) (hw : Region.wanted o (yielded ops a.tmps) = true := by rfl)
    (hc : a.eval c = .bool b := by rfl) (hv : (if b then a.eval x else a.eval y) = v := by (go_simp; first | done | rfl))
    (ha : a.put (some N) v = a' := by simp only [Act.put, List.setIfInBounds_toArray, List.set_cons_zero, List.set_cons_succ]; rfl) : Reg.Ord P ops Q tail ((i, .L) :: l) a W :=
  Reg.stepL (fun w _ => by unfold execOp; simp only [hop, hc]; subst hv; cases b <;> rfl) (ha ▸ h) hi hN hw
/-- An operation whose guard is off. -/
theorem sO {k : Reg.K} (h : Reg.Ord P ops Q tail l a' W) (hi : ops[i]? = some o := by rfl) (hN : o.dst = some N := by rfl) (hw : Region.wanted o (yielded ops a.tmps) = false := by with_unfolding_all rfl)
    (ha : a.put (some N) undef = a' := by simp only [Act.put, List.setIfInBounds_toArray, List.set_cons_zero, List.set_cons_succ]; rfl) : Reg.Ord P ops Q tail ((i, k) :: l) a W := Reg.skip (ha ▸ h) hi hN hw
end
end Go.Proofs.YtgemaohdlibboaaDoor.H
/- What the functions compute, in plain Lean: relations, values, facts, instances. No program in sight. No condition. -/
namespace Go.Proofs.YtgemaohdlibboaaDoor.H
open Go Go.RowKit Go.Proofs.YtgemaohdlibboaaDoorW.PrintWords Go.Proofs.YtgemaohdlibboaaDoorW.PrintLast
/-- low ≤ n ≤ high. -/
def within (n a b : Int) : Bool := decide (a ≤ n ∧ n ≤ b)
/-- The number of a null: of -1 .. -40. -/
def isNul (v : Int) : Bool := decide (-40 ≤ v ∧ v ≤ -1)
def nulNum (v : Int) : Int := if isNul v then -1 - v else 0
def okVal (v : Int) : Bool := decide (-40 ≤ v ∧ v ≤ 9)
/-- One relation; strings in order. -/
def okRel (r : Rel) : Bool := decide (r.1.size = 1 ∧ 97 ≤ bt r.1 0 ∧ bt r.1 0 ≤ 122 ∧ 1 ≤ r.2.1 ∧ r.2.1 ≤ 3)
def strLt (a b : ByteArray) : Bool := Op.bytesLess a.toList b.toList
theorem bl_asymm : ∀ a b : List UInt8, Op.bytesLess a b = true → Op.bytesLess b a = false
  | _, [], h => by simp [Op.bytesLess] at h
  | [], _ :: _, _ => by simp [Op.bytesLess]
  | x :: a, y :: b, h => by
    simp only [Op.bytesLess, Bool.or_eq_true, Bool.and_eq_true, decide_eq_true_eq, beq_iff_eq] at h
    simp only [Op.bytesLess, Bool.or_eq_false_iff, Bool.and_eq_false_iff, decide_eq_false_iff_not, beq_eq_false_iff_ne]
    rcases h with h | ⟨h, h2⟩
    · exact ⟨fun h' => by rw [UInt8.lt_iff_toNat_lt] at h h'; omega, .inl (fun e => by rw [e] at h; rw [UInt8.lt_iff_toNat_lt] at h; omega)⟩
    · subst h; exact ⟨fun h' => by rw [UInt8.lt_iff_toNat_lt] at h'; omega, .inr (bl_asymm a b h2)⟩
theorem bl_irrefl (a : List UInt8) : Op.bytesLess a a = false := by
  cases h : Op.bytesLess a a with
  | false => rfl
  | true => rw [bl_asymm a a h] at h; cases h
theorem bl_ne {a b : List UInt8} (h : Op.bytesLess a b = true) : (b == a) = false := by
  rw [beq_eq_false_iff_ne]; rintro rfl; rw [bl_irrefl] at h; cases h
theorem bl_ne' {a b : List UInt8} (h : Op.bytesLess a b = true) : (a == b) = false := by
  rw [beq_eq_false_iff_ne]; rintro rfl; rw [bl_irrefl] at h; cases h
theorem bl_total : ∀ a b : List UInt8, Op.bytesLess a b = false → (Op.bytesLess b a || b == a) = true
  | [], [], _ => by simp
  | [], _ :: _, h => by simp [Op.bytesLess] at h
  | _ :: _, [], _ => by simp [Op.bytesLess]
  | x :: a, y :: b, h => by
    simp only [Op.bytesLess, Bool.or_eq_false_iff, Bool.and_eq_false_iff, decide_eq_false_iff_not, beq_eq_false_iff_ne] at h
    obtain ⟨h1, h2⟩ := h
    simp only [Op.bytesLess, Bool.or_eq_true, Bool.and_eq_true, decide_eq_true_eq, beq_iff_eq]
    by_cases e : x = y
    · subst e
      have h3 : Op.bytesLess a b = false := by rcases h2 with h2 | h2; exact absurd rfl h2; exact h2
      have := bl_total a b h3
      simp only [Bool.or_eq_true, beq_iff_eq] at this
      rcases this with t | t
      · exact .inl (.inr ⟨rfl, t⟩)
      · exact .inr (by rw [t])
    · refine .inl (.inl ?_)
      rw [UInt8.lt_iff_toNat_lt] at h1 ⊢
      have : x.toNat ≠ y.toNat := fun h => e (UInt8.toNat_inj.1 h)
      omega
def relsFrom : Option ByteArray → List Rel → Bool
  | _, [] => true
  | p, r :: l => okRel r && (match p with | none => true | some s => strLt s r.1) && relsFrom (some r.1) l
def okRels (l : List Rel) : Bool := relsFrom none l && decide (l.length ≤ 6)
/-- The name ahead of place k. -/
def prevName (l : List Rel) (k : Nat) : Option ByteArray := if k = 0 then none else (l[k - 1]?).map fun r => r.1
theorem prevName_succ (l : List Rel) (k : Nat) (h : k < l.length) : prevName l (k + 1) = some l[k].1 := by
  simp [prevName, h]
theorem relsFrom_step (l : List Rel) (k : Nat) (h : k < l.length) : relsFrom (prevName l k) (l.drop k) = (okRel l[k] && (match prevName l k with | none => true | some s => strLt s l[k].1) && relsFrom (prevName l (k + 1)) (l.drop (k + 1))) := by
  rw [List.drop_eq_getElem_cons h, prevName_succ l k h]
  rfl
def arity (rs : List Rel) (i : Int) : Int := ((rs[i.toNat]?).map fun r => r.2.1).getD 0
def okFact (rs : List Rel) (f : Fct) : Bool := okRels rs && decide (0 ≤ f.1 ∧ f.1 < rs.length) && decide ((f.2.length : Int) = arity rs f.1) && f.2.all okVal
/-- A null's number laid into a row that is in order. -/
def put (l : List Int) (x : Int) : List Int := match l with
  | [] => [x]
  | y :: r => if y < x then y :: put r x else if y = x then y :: r else x :: y :: r
theorem relsFrom_mem {p : Option ByteArray} {l : List Rel} (h : relsFrom p l = true) : ∀ r ∈ l, okRel r = true := by
  induction l generalizing p with
  | nil => intro r hr; cases hr
  | cons x l ih =>
    simp only [relsFrom, Bool.and_eq_true] at h
    intro r hr
    rcases List.mem_cons.1 hr with rfl | hr
    · exact h.1.1
    · exact ih h.2 r hr
theorem okRels_mem {l : List Rel} (h : okRels l = true) : ∀ r ∈ l, okRel r = true := relsFrom_mem (Bool.and_eq_true_iff.1 h).1
theorem okFact_rels {rs : List Rel} {f : Fct} (h : okFact rs f = true) : okRels rs = true := by
  simp only [okFact, Bool.and_eq_true] at h; exact h.1.1.1
theorem okFact_at {rs : List Rel} {f : Fct} (h : okFact rs f = true) : 0 ≤ f.1 ∧ f.1 < rs.length := by
  simp only [okFact, Bool.and_eq_true, decide_eq_true_eq] at h; exact h.1.1.2
theorem okFact_len {rs : List Rel} {f : Fct} (h : okFact rs f = true) : f.2.length ≤ 3 := by
  have h0 := okFact_at h
  have hr := okFact_rels h
  simp only [okFact, Bool.and_eq_true, decide_eq_true_eq] at h
  have hl := h.1.2
  have hlt : f.1.toNat < rs.length := by omega
  have hm := okRels_mem hr rs[f.1.toNat] (List.getElem_mem hlt)
  simp only [okRel, decide_eq_true_eq] at hm
  have : arity rs f.1 = rs[f.1.toNat].2.1 := by simp [arity, hlt]
  omega
/-- The first place at which p holds. -/
def idxFrom {α : Type} (p : α → Bool) : List α → Nat → Int
  | [], _ => -1
  | x :: l, i => if p x then i else idxFrom p l (i + 1)
theorem idxFrom_step {α : Type} (p : α → Bool) (l : List α) (k : Nat) (h : k < l.length) : idxFrom p (l.drop k) k = if p l[k] then (k : Int) else idxFrom p (l.drop (k + 1)) (k + 1) := by
  rw [List.drop_eq_getElem_cons h]; rfl
theorem idxFrom_any {α : Type} (p : α → Bool) (l : List α) (i : Nat) : decide (0 ≤ idxFrom p l i) = l.any p := by
  induction l generalizing i with
  | nil => rfl
  | cons x l ih =>
    by_cases h : p x = true
    · simp [idxFrom, h]
    · have h' : p x = false := by simpa using h
      have := ih (i + 1)
      simp only [idxFrom, h', List.any_cons, Bool.false_or]
      exact this
end Go.Proofs.YtgemaohdlibboaaDoor.H
/- Facts in order: compared, found, laid in, taken out. Plain. No condition. -/
namespace Go.Proofs.YtgemaohdlibboaaDoor.H
open Go Go.RowKit Go.Proofs.YtgemaohdlibboaaDoorW.PrintWords Go.Proofs.YtgemaohdlibboaaDoorW.PrintLast
set_option linter.unusedVariables false
set_option linter.unusedSimpArgs false

end Go.Proofs.YtgemaohdlibboaaDoor.H
/- Plain: what is written of values, relations, facts and instances, and what is read again. No condition. -/
namespace Go.Proofs.YtgemaohdlibboaaDoor.H
open Go Go.RowKit Go.Proofs.YtgemaohdlibboaaDoorW.PrintWords Go.Proofs.YtgemaohdlibboaaDoorW.PrintLast
set_option linter.unusedVariables false
set_option linter.unusedSimpArgs false

def strB (l : List UInt8) : ByteArray := ⟨l.toArray⟩
theorem strB_size (l : List UInt8) : (strB l).size = l.length := by simp [strB, ByteArray.size]
theorem strB_append (a b : List UInt8) : strB a ++ strB b = strB (a ++ b) := by
  apply ByteArray.ext
  simp [strB, ByteArray.data_append]
theorem strB_self (s : ByteArray) : strB s.data.toList = s := by apply ByteArray.ext; simp [strB]
theorem strB_data (l : List UInt8) : (strB l).data.toList = l := by simp [strB]
theorem strB_extract (l : List UInt8) (a b : Nat) : (strB l).extract a b = strB ((l.drop a).take (b - a)) := by
  rw [← strB_self ((strB l).extract a b), Lib.extract_data, strB_data]
theorem strB_rest (l : List UInt8) (a : Nat) : (strB l).extract a (strB l).size = strB (l.drop a) := by
  rw [strB_extract, strB_size, List.take_of_length_le (by simp)]
theorem bt_strB (l : List UInt8) (i : Nat) (h : i < l.length) : bt (strB l) (i : Int) = (l[i].toNat : Int) := by
  unfold bt
  rw [dif_pos (by rw [strB_size]; omega)]
  simp [strB, ByteArray.getElem_eq_getElem_data]
/-! Joined. -/
theorem joinTail_snoc (sep : List UInt8) (r : List (List UInt8)) (y : List UInt8) : Lib.joinTail sep (r ++ [y]) = Lib.joinTail sep r ++ (sep ++ y) := by
  unfold Lib.joinTail
  simp
theorem join_one' (sep x : List UInt8) : Lib.join [x] sep = x := by rw [Lib.join_cons]; simp [Lib.joinTail]
theorem join_snoc (sep : List UInt8) (xs : List (List UInt8)) (y : List UInt8) : Lib.join (xs ++ [y]) sep = if xs.length = 0 then y else Lib.join xs sep ++ sep ++ y := by
  cases xs with
  | nil => rw [List.nil_append, join_one']; rfl
  | cons x r => rw [List.cons_append, Lib.join_cons, Lib.join_cons, joinTail_snoc, if_neg (by simp), List.append_assoc, List.append_assoc]
theorem join_two (sep x y : List UInt8) (r : List (List UInt8)) : Lib.join (x :: y :: r) sep = x ++ (sep ++ Lib.join (y :: r) sep) := by
  rw [Lib.join_cons, Lib.join_cons]; simp [Lib.joinTail]
theorem join_nil' (sep : List UInt8) : Lib.join [] sep = [] := by simp [Lib.join]
theorem join_len (sep : List UInt8) (B : Nat) : ∀ (n : Nat) (xs : List (List UInt8)), xs.length = n → (∀ x ∈ xs, x.length ≤ B) → (Lib.join xs sep).length ≤ n * (B + sep.length) := by
  intro n
  induction n with
  | zero =>
    intro xs h _
    obtain rfl : xs = [] := List.eq_nil_of_length_eq_zero h
    simp [join_nil']
  | succ n ih =>
    intro xs h hb
    rcases List.eq_nil_or_concat xs with rfl | ⟨ys, y, rfl⟩
    · simp at h
    · rw [List.concat_eq_append] at *
      have h1 := ih ys (by simp at h; omega) (fun x hx => hb x (List.mem_append_left _ hx))
      have h2 := hb y (List.mem_append_right _ (by simp))
      rw [join_snoc, Nat.succ_mul]
      split
      · omega
      · rw [List.length_append, List.length_append]; omega
/-! Cut. -/
/-- Put something ahead of the first piece. -/
def preP (x : List UInt8) : List (List UInt8) → List (List UInt8)
  | [] => []
  | p :: r => (x ++ p) :: r
/-- The pieces between the signs c. -/
def cutS (c : UInt8) : List UInt8 → List (List UInt8)
  | [] => [[]]
  | b :: l => if b = c then [] :: cutS c l else preP [b] (cutS c l)
theorem preP_preP (x y : List UInt8) (l : List (List UInt8)) : preP x (preP y l) = preP (x ++ y) l := by
  cases l with
  | nil => rfl
  | cons p r => simp [preP]
theorem preP_nil (l : List (List UInt8)) : preP [] l = l := by cases l <;> rfl
theorem cutS_ne (c : UInt8) (l : List UInt8) : ∃ p r, cutS c l = p :: r := by
  induction l with
  | nil => exact ⟨_, _, rfl⟩
  | cons b l ih =>
    obtain ⟨p, r, h⟩ := ih
    rw [cutS]
    split
    · exact ⟨_, _, rfl⟩
    · rw [h]; exact ⟨_, _, rfl⟩
theorem cutS_len (c : UInt8) (l : List UInt8) : (cutS c l).length ≤ l.length + 1 := by
  induction l with
  | nil => simp [cutS]
  | cons b l ih =>
    rw [cutS]
    split
    · simp only [List.length_cons]; omega
    · obtain ⟨p, r, h⟩ := cutS_ne c l
      rw [h] at ih ⊢
      simp only [preP, List.length_cons] at ih ⊢
      omega
theorem cutS_none {c : UInt8} : ∀ {w : List UInt8}, c ∉ w → cutS c w = [w]
  | [], _ => rfl
  | b :: w, h => by
    simp only [List.mem_cons, not_or] at h
    rw [cutS, if_neg (fun e => h.1 e.symm), cutS_none h.2]; rfl
theorem cutS_app {c : UInt8} (t : List UInt8) : ∀ {w : List UInt8}, c ∉ w → cutS c (w ++ c :: t) = w :: cutS c t
  | [], _ => by rw [List.nil_append, cutS, if_pos rfl]
  | b :: w, h => by
    simp only [List.mem_cons, not_or] at h
    rw [List.cons_append, cutS, if_neg (fun e => h.1 e.symm), cutS_app t h.2]; rfl
theorem cutS_join {c : UInt8} : ∀ (ws : List (List UInt8)), ws ≠ [] → (∀ w ∈ ws, c ∉ w) → cutS c (Lib.join ws [c]) = ws
  | [], h, _ => absurd rfl h
  | [w], _, h => by rw [join_one', cutS_none (h w List.mem_cons_self)]
  | w :: v :: r, _, h => by
    rw [join_two, List.singleton_append, cutS_app _ (h w List.mem_cons_self), cutS_join (v :: r) (by simp) (fun x hx => h x (List.mem_cons_of_mem _ hx))]
theorem index_one_cons (b c : UInt8) (l : List UInt8) (h : b ≠ c) : Lib.index (b :: l) [c] = if Lib.index l [c] == -1 then -1 else Lib.index l [c] + 1 := by
  have hp : ([c] : List UInt8).isPrefixOf (b :: l) = false := by simp [List.isPrefixOf, Ne.symm h]
  rw [Lib.index, hp]; simp
theorem splitK_cut (c : UInt8) (l : List UInt8) : Lib.splitK [c] 0 (Lib.count l [c]) l = cutS c l := by
  induction l with
  | nil => rw [Lib.count_one]; rfl
  | cons b l ih =>
    rw [cutS]
    by_cases h : b = c
    · subst h
      have hix : Lib.index (b :: l) [b] = 0 := by rw [Lib.index]; simp [List.isPrefixOf]
      rw [if_pos rfl, Lib.count_cons_eq, Nat.add_comm, Lib.splitK, hix, ← ih]
      simp
    · rw [if_neg h, Lib.count_cons_ne b c l h]
      generalize Lib.count l [c] = k at ih
      have hix := index_one_cons b c l h
      cases k with
      | zero => rw [Lib.splitK] at ih ⊢; rw [← ih]; rfl
      | succ k =>
        rw [Lib.splitK] at ih ⊢
        by_cases hm : Lib.index l [c] = -1
        · rw [if_pos (by rw [hm]; rfl)] at ih
          rw [if_pos (by rw [hix, if_pos (by rw [hm]; rfl)]; rfl), ← ih]; rfl
        · have hge := Lib.index_ge l [c]
          have hb : ¬ (Lib.index l [c] == -1) = true := fun e => hm (beq_iff_eq.1 e)
          rw [if_neg hb] at ih hix
          rw [if_neg (by rw [hix]; intro e; have := beq_iff_eq.1 e; omega), hix, ← ih]
          have e1 : (Lib.index l [c] + 1).toNat = (Lib.index l [c]).toNat + 1 := by omega
          rw [e1]
          simp [preP, Nat.add_right_comm]
theorem splitB_cut (c : UInt8) (s : List UInt8) : Lib.splitB (strB [c]) 0 (Lib.countB (strB s) (strB [c])) (strB s) = (cutS c s).map strB := by
  have h := Lib.splitB_data (strB [c]) 0 (Lib.countB (strB s) (strB [c])) (strB s)
  have h2 : Lib.countB (strB s) (strB [c]) = Lib.count s [c] := by unfold Lib.countB; rw [strB_data, strB_data]
  rw [h2, strB_data, strB_data, splitK_cut] at h
  rw [h2, ← h, List.map_map]
  conv => lhs; rw [← List.map_id (Lib.splitB (strB [c]) 0 (Lib.count s [c]) (strB s))]
  exact List.map_congr_left (fun x _ => (strB_self x).symm)
theorem index_app {c : UInt8} (t : List UInt8) : ∀ {w : List UInt8}, c ∉ w → Lib.index (w ++ c :: t) [c] = (w.length : Int)
  | [], _ => by rw [List.nil_append, Lib.index]; simp [List.isPrefixOf]
  | b :: w, h => by
    simp only [List.mem_cons, not_or] at h
    have ih := index_app t h.2
    rw [List.cons_append, index_one_cons _ _ _ (fun e => h.1 e.symm), if_neg (by rw [ih]; intro e; have := beq_iff_eq.1 e; omega), ih]
    simp
theorem index_none {c : UInt8} : ∀ {w : List UInt8}, c ∉ w → Lib.index w [c] = -1
  | [], _ => by simp [Lib.index]
  | b :: w, h => by
    simp only [List.mem_cons, not_or] at h
    rw [index_one_cons _ _ _ (fun e => h.1 e.symm), index_none h.2]; rfl
theorem cut_app {c : UInt8} (t : List UInt8) {w : List UInt8} (h : c ∉ w) : Lib.cut (w ++ c :: t) [c] = (w, t, true) := by
  unfold Lib.cut
  rw [index_app t h, if_pos (by omega)]
  simp
theorem cut_none {c : UInt8} {w : List UInt8} (h : c ∉ w) : Lib.cut w [c] = (w, [], false) := by
  unfold Lib.cut
  rw [index_none h, if_neg (by omega)]
/-- At the first sign c, or not at all. -/
theorem cut_cases (c : UInt8) : ∀ s : List UInt8, c ∉ s ∨ ∃ a b, s = a ++ c :: b ∧ c ∉ a
  | [] => .inl (by simp)
  | x :: s => by
    by_cases e : x = c
    · exact .inr ⟨[], s, by rw [e]; rfl, by simp⟩
    · rcases cut_cases c s with h | ⟨a, b, h, h2⟩
      · exact .inl (by simp only [List.mem_cons, not_or]; exact ⟨fun h => e h.symm, h⟩)
      · exact .inr ⟨x :: a, b, by rw [h]; rfl, by simp only [List.mem_cons, not_or]; exact ⟨fun h => e h.symm, h2⟩⟩
theorem trim_app (t : List UInt8) (c : UInt8) : Lib.trimSuffix (t ++ [c]) [c] = t := by
  unfold Lib.trimSuffix Lib.hasSuffix
  rw [if_pos (by simp)]
  simp
/-! Written. -/
def fvL (x : Int) : List UInt8 := if isNul x then 110 :: Lib.itoa (-1 - x) else if 0 ≤ x ∧ x ≤ 9 then Lib.itoa x else []
def nameL (rs : List Rel) (i : Int) : List UInt8 := ((rs[i.toNat]?).map fun r => r.1.data.toList).getD []
def fmtF (rs : List Rel) (f : Fct) : List UInt8 := if okFact rs f then nameL rs f.1 ++ 40 :: (Lib.join (f.2.map fvL) [44] ++ [41]) else []
theorem itoa_small {u : Int} (h0 : 0 ≤ u) (h : u < 10) : Lib.itoa u = [UInt8.ofNat (48 + u.toNat)] := by
  unfold Lib.itoa
  rw [if_neg (by omega), Lib.decDigits_one (by omega)]
theorem itoa_two {u : Int} (h0 : 10 ≤ u) (h : u < 100) : Lib.itoa u = [UInt8.ofNat (48 + u.toNat / 10), UInt8.ofNat (48 + u.toNat % 10)] := by
  unfold Lib.itoa
  rw [if_neg (by omega), Lib.decDigits_two (by omega) (by omega)]
theorem ofNat_inj {a b : Nat} (ha : a < 256) (hb : b < 256) (h : UInt8.ofNat a = UInt8.ofNat b) : a = b := by
  have := congrArg UInt8.toNat h
  simp at this; omega
theorem itoa_bytes {u : Int} (h0 : 0 ≤ u) (h : u < 100) : (∀ b ∈ Lib.itoa u, 48 ≤ b.toNat ∧ b.toNat ≤ 57) ∧ Lib.itoa u ≠ [] ∧ (Lib.itoa u).length ≤ 2 := by
  by_cases c : u < 10
  · rw [itoa_small h0 c]
    refine ⟨fun b hb => ?_, by simp, by simp⟩
    rw [List.mem_singleton.1 hb]; simp; omega
  · rw [itoa_two (by omega) h]
    refine ⟨fun b hb => ?_, by simp, by simp⟩
    rcases List.mem_cons.1 hb with rfl | hb
    · simp; omega
    · rw [List.mem_singleton.1 hb]; simp; omega
theorem itoa_inj {u v : Int} (hu0 : 0 ≤ u) (hu : u < 100) (hv0 : 0 ≤ v) (hv : v < 100) (h : Lib.itoa u = Lib.itoa v) : u = v := by
  by_cases c : u < 10
  · by_cases d : v < 10
    · rw [itoa_small hu0 c, itoa_small hv0 d] at h
      injection h with h
      have := ofNat_inj (by omega) (by omega) h; omega
    · rw [itoa_small hu0 c, itoa_two (by omega) hv] at h; simp at h
  · by_cases d : v < 10
    · rw [itoa_two (by omega) hu, itoa_small hv0 d] at h; simp at h
    · rw [itoa_two (by omega) hu, itoa_two (by omega) hv] at h
      injection h with h h2
      injection h2 with h2
      have := ofNat_inj (by omega) (by omega) h
      have := ofNat_inj (by omega) (by omega) h2
      omega
theorem okVal_cases {x : Int} (h : okVal x = true) : (isNul x = true ∧ fvL x = 110 :: Lib.itoa (-1 - x) ∧ 0 ≤ -1 - x ∧ -1 - x < 40) ∨ (isNul x = false ∧ fvL x = Lib.itoa x ∧ 0 ≤ x ∧ x ≤ 9) := by
  simp only [okVal, decide_eq_true_eq] at h
  unfold fvL
  by_cases c : isNul x = true
  · rw [if_pos c]
    have c' := c
    simp only [isNul, decide_eq_true_eq] at c'
    exact .inl ⟨c, rfl, by omega, by omega⟩
  · have c' := c
    simp only [isNul, decide_eq_true_eq] at c'
    rw [if_neg c, if_pos (by omega)]
    exact .inr ⟨by simpa using c, rfl, by omega, by omega⟩
/-- Bytes of which values are written: digits and n. -/
theorem fvL_bytes {x : Int} (h : okVal x = true) : (∀ b ∈ fvL x, (48 ≤ b.toNat ∧ b.toNat ≤ 57) ∨ b.toNat = 110) ∧ fvL x ≠ [] := by
  rcases okVal_cases h with ⟨_, e, h0, h1⟩ | ⟨_, e, h0, h1⟩
  · rw [e]
    refine ⟨fun b hb => ?_, by simp⟩
    rcases List.mem_cons.1 hb with rfl | hb
    · exact .inr rfl
    · exact .inl ((itoa_bytes h0 (by omega)).1 b hb)
  · rw [e]
    exact ⟨fun b hb => .inl ((itoa_bytes h0 (by omega)).1 b hb), (itoa_bytes h0 (by omega)).2.1⟩
theorem fvL_len (x : Int) : (fvL x).length ≤ 3 := by
  unfold fvL
  by_cases c : isNul x = true
  · have c' := c
    simp only [isNul, decide_eq_true_eq] at c'
    rw [if_pos c]
    have := (itoa_bytes (u := -1 - x) (by omega) (by omega)).2.2
    simp; omega
  · rw [if_neg c]
    split
    · have := (itoa_bytes (u := x) (by omega) (by omega)).2.2
      omega
    · simp
theorem fvL_inj {x y : Int} (hx : okVal x = true) (hy : okVal y = true) (h : fvL x = fvL y) : x = y := by
  rcases okVal_cases hx with ⟨_, e, h0, h1⟩ | ⟨_, e, h0, h1⟩ <;> rcases okVal_cases hy with ⟨_, e', h0', h1'⟩ | ⟨_, e', h0', h1'⟩
  · rw [e, e'] at h
    injection h with _ h
    have := itoa_inj h0 (by omega) h0' (by omega) h; omega
  · exfalso
    rw [e, e'] at h
    have := (itoa_bytes h0' (by omega)).1 110 (by rw [← h]; exact List.mem_cons_self)
    simp at this
  · exfalso
    rw [e, e'] at h
    have := (itoa_bytes h0 (by omega)).1 110 (by rw [h]; exact List.mem_cons_self)
    simp at this
  · rw [e, e'] at h
    exact itoa_inj h0 (by omega) h0' (by omega) h
/-! A value, read. -/
/-- The first value from i on (d of them) that is written so. -/
def pvF (s : List UInt8) (i : Int) : Nat → Int × Bool
  | 0 => (0, false)
  | d + 1 => if fvL i = s then (i, true) else pvF s (i + 1) d
def parV (s : List UInt8) : Int × Bool := pvF s (-40) 50
theorem pvF_spec (s : List UInt8) : ∀ (d : Nat) (i : Int), ((pvF s i d).2 = true → i ≤ (pvF s i d).1 ∧ (pvF s i d).1 < i + d ∧ fvL (pvF s i d).1 = s) ∧ ((pvF s i d).2 = false → (pvF s i d).1 = 0 ∧ ∀ j, i ≤ j → j < i + d → fvL j ≠ s)
  | 0, i => ⟨fun h => by simp [pvF] at h, fun _ => ⟨rfl, fun j h1 h2 => by omega⟩⟩
  | d + 1, i => by
    have ih := pvF_spec s d (i + 1)
    unfold pvF
    by_cases c : fvL i = s
    · rw [if_pos c]
      exact ⟨fun _ => ⟨by simp, by simp; omega, c⟩, fun h => by cases h⟩
    · rw [if_neg c]
      refine ⟨fun h => ?_, fun h => ⟨(ih.2 h).1, fun j h1 h2 => ?_⟩⟩
      · have := ih.1 h; exact ⟨by omega, by omega, this.2.2⟩
      · by_cases e : j = i
        · rw [e]; exact c
        · exact (ih.2 h).2 j (by omega) (by omega)
theorem parV_true {s : List UInt8} (h : (parV s).2 = true) : okVal (parV s).1 = true ∧ fvL (parV s).1 = s := by
  have := (pvF_spec s 50 (-40)).1 h
  refine ⟨?_, this.2.2⟩
  simp only [okVal, decide_eq_true_eq]
  unfold parV
  omega
theorem parV_fmt {x : Int} (h : okVal x = true) : parV (fvL x) = (x, true) := by
  have hx := h
  simp only [okVal, decide_eq_true_eq] at hx
  have hs := pvF_spec (fvL x) 50 (-40)
  cases hb : (parV (fvL x)).2 with
  | false => exact absurd rfl ((hs.2 hb).2 x (by omega) (by omega))
  | true =>
    obtain ⟨h1, h2⟩ := parV_true hb
    have := fvL_inj h1 h h2
    exact Prod.ext this hb
theorem parV_bd (s : List UInt8) : -40 ≤ (parV s).1 ∧ (parV s).1 ≤ 9 := by
  have hs := pvF_spec s 50 (-40)
  cases hb : (parV s).2 with
  | false => have : (parV s).1 = 0 := (hs.2 hb).1; omega
  | true => have := (parV_true hb).1; simpa [okVal] using this
/-! Relations, read. -/
theorem okRel_bytes {r : Rel} (h : okRel r = true) : ∃ b : UInt8, r.1 = strB [b] ∧ 97 ≤ b.toNat ∧ b.toNat ≤ 122 ∧ 1 ≤ r.2.1 ∧ r.2.1 ≤ 3 := by
  simp only [okRel, decide_eq_true_eq] at h
  obtain ⟨h1, h2, h3, h4, h5⟩ := h
  have hs : r.1.data.toList.length = 1 := by rw [Array.length_toList]; exact h1
  obtain ⟨b, hb⟩ : ∃ b, r.1.data.toList = [b] := by
    match hl : r.1.data.toList, hs with
    | [b], _ => exact ⟨b, rfl⟩
  have e : r.1 = strB [b] := by rw [← hb, strB_self]
  have hbt : bt r.1 0 = (b.toNat : Int) := by rw [e]; exact bt_strB [b] 0 (by simp)
  rw [hbt] at h2 h3
  exact ⟨b, e, by omega, by omega, h4, h5⟩
/-! A fact, read. -/
/-- Its candidate. -/
def canF (rs : List Rel) (s : List UInt8) : Fct := (idxFrom (fun r : Rel => decide (r.1.data.toList = (Lib.cut s [40]).1)) rs 0, (cutS 44 (Lib.trimSuffix (Lib.cut s [40]).2.1 [41])).map fun w => (parV w).1)
def parF (rs : List Rel) (s : List UInt8) : Fct × Bool := if (Lib.cut s [40]).2.2 = true ∧ fmtF rs (canF rs s) = s then (canF rs s, true) else ((0, []), false)
theorem strLt_ne {a b : ByteArray} (h : strLt a b = true) : a ≠ b := by
  rintro rfl
  unfold strLt at h
  rw [bl_irrefl] at h; cases h
theorem bl_trans : ∀ a b c : List UInt8, Op.bytesLess a b = true → Op.bytesLess b c = true → Op.bytesLess a c = true
  | _, [], _, h, _ => by simp [Op.bytesLess] at h
  | _, _ :: _, [], _, h => by simp [Op.bytesLess] at h
  | [], _ :: _, _ :: _, _, _ => by simp [Op.bytesLess]
  | x :: a, y :: b, z :: c, h1, h2 => by
    simp only [Op.bytesLess, Bool.or_eq_true, Bool.and_eq_true, decide_eq_true_eq, beq_iff_eq] at h1 h2 ⊢
    rcases h1 with h1 | ⟨rfl, h1⟩
    · rcases h2 with h2 | ⟨rfl, h2⟩
      · left; rw [UInt8.lt_iff_toNat_lt] at *; omega
      · exact .inl h1
    · rcases h2 with h2 | ⟨rfl, h2⟩
      · exact .inl h2
      · exact .inr ⟨rfl, bl_trans a b c h1 h2⟩
theorem relsFrom_names : ∀ {l : List Rel} {p : Option ByteArray}, relsFrom p l = true → (∀ s, p = some s → ∀ r ∈ l, strLt s r.1 = true) ∧ l.Pairwise (fun a b => strLt a.1 b.1 = true)
  | [], p, _ => ⟨fun s _ r hr => (by cases hr), List.Pairwise.nil⟩
  | x :: l, p, h => by
    simp only [relsFrom, Bool.and_eq_true] at h
    obtain ⟨⟨h1, h2⟩, h3⟩ := h
    obtain ⟨h4, h5⟩ := relsFrom_names h3
    have h6 := h4 x.1 rfl
    refine ⟨fun s hs r hr => ?_, List.pairwise_cons.2 ⟨h6, h5⟩⟩
    subst hs
    have h2' : strLt s x.1 = true := h2
    rcases List.mem_cons.1 hr with rfl | hr
    · exact h2'
    · exact bl_trans _ _ _ h2' (h6 r hr)
theorem idx_name {rs : List Rel} (h : okRels rs = true) (k : Nat) (hk : k < rs.length) : idxFrom (fun r : Rel => decide (r.1.data.toList = rs[k].1.data.toList)) rs 0 = (k : Int) := by
  have hp := (relsFrom_names (Bool.and_eq_true_iff.1 h).1).2
  have key : ∀ (l : List Rel) (i j : Nat) (hj : j < l.length), l.Pairwise (fun a b => strLt a.1 b.1 = true) → idxFrom (fun r : Rel => decide (r.1.data.toList = l[j].1.data.toList)) l i = ((i + j : Nat) : Int) := by
    intro l
    induction l with
    | nil => intro i j hj; simp at hj
    | cons x l ih =>
      intro i j hj hp
      rw [List.pairwise_cons] at hp
      unfold idxFrom
      cases j with
      | zero => simp
      | succ j =>
        have hj' : j < l.length := by simpa using hj
        have hlt := hp.1 l[j] (List.getElem_mem hj')
        have hne : ¬ x.1.data.toList = l[j].1.data.toList := fun e => strLt_ne hlt (by rw [← strB_self x.1, e, strB_self])
        simp only [List.getElem_cons_succ, hne, decide_false, Bool.false_eq_true, if_false]
        rw [ih (i + 1) j hj' hp.2]
        congr 1; omega
  have := key rs 0 k hk hp
  rwa [Nat.zero_add] at this
theorem okFact_parts {rs : List Rel} {f : Fct} (h : okFact rs f = true) : ∃ k : Nat, ∃ hk : k < rs.length, f.1 = (k : Int) ∧ nameL rs f.1 = rs[k].1.data.toList ∧ (∃ b : UInt8, rs[k].1.data.toList = [b] ∧ 97 ≤ b.toNat ∧ b.toNat ≤ 122) ∧ f.2 ≠ [] ∧ (∀ v ∈ f.2, okVal v = true) := by
  have h0 := okFact_at h
  have hr := okFact_rels h
  obtain ⟨k, hk⟩ := Int.eq_ofNat_of_zero_le h0.1
  have hkl : k < rs.length := by omega
  have hok := okRels_mem hr rs[k] (List.getElem_mem hkl)
  obtain ⟨b, e, h1, h2, h3, h4⟩ := okRel_bytes hok
  simp only [okFact, Bool.and_eq_true, decide_eq_true_eq, List.all_eq_true] at h
  have ha : arity rs f.1 = rs[k].2.1 := by rw [hk]; simp [arity, hkl]
  refine ⟨k, hkl, hk, by rw [hk]; simp [nameL, hkl], ⟨b, by rw [e, strB_data], h1, h2⟩, fun e => ?_, h.2⟩
  have := h.1.2
  rw [e, ha] at this
  simp at this; omega
theorem fmtF_ok {rs : List Rel} {f : Fct} (h : okFact rs f = true) : ∃ b : UInt8, fmtF rs f = b :: 40 :: (Lib.join (f.2.map fvL) [44] ++ [41]) ∧ 97 ≤ b.toNat ∧ b.toNat ≤ 122 ∧ nameL rs f.1 = [b] := by
  obtain ⟨k, hk, e1, e2, ⟨b, e3, h1, h2⟩, _, _⟩ := okFact_parts h
  refine ⟨b, ?_, h1, h2, by rw [e2, e3]⟩
  unfold fmtF
  rw [if_pos h, e2, e3]; rfl
theorem canF_fmt {rs : List Rel} {f : Fct} (h : okFact rs f = true) : canF rs (fmtF rs f) = f ∧ Lib.cut (fmtF rs f) [40] = (nameL rs f.1, Lib.join (f.2.map fvL) [44] ++ [41], true) := by
  obtain ⟨k, hk, e1, e2, ⟨b, e3, h1, h2⟩, hne, hv⟩ := okFact_parts h
  have hf : fmtF rs f = nameL rs f.1 ++ 40 :: (Lib.join (f.2.map fvL) [44] ++ [41]) := by unfold fmtF; rw [if_pos h]
  have hc : Lib.cut (fmtF rs f) [40] = (nameL rs f.1, Lib.join (f.2.map fvL) [44] ++ [41], true) := by
    rw [hf]
    refine cut_app _ ?_
    rw [e2, e3]
    intro hm
    rw [List.mem_singleton] at hm
    subst hm
    simp at h1
  refine ⟨?_, hc⟩
  unfold canF
  rw [hc]
  simp only
  have hcs : cutS 44 (Lib.join (f.2.map fvL) [44]) = f.2.map fvL := cutS_join _ (by simpa using hne) (fun w hw h44 => by
    obtain ⟨v, hv', rfl⟩ := List.mem_map.1 hw
    have := (fvL_bytes (hv v hv')).1 44 h44
    simp at this)
  rw [trim_app, hcs, e2]
  have hid := idx_name (okFact_rels h) k hk
  rw [hid, List.map_map]
  have hmap : f.2.map ((fun w => (parV w).1) ∘ fvL) = f.2.map id := List.map_congr_left fun v hv' => by
    show (parV (fvL v)).1 = v
    rw [parV_fmt (hv v hv')]
  rw [hmap, List.map_id, ← e1]
theorem parF_fmt {rs : List Rel} {f : Fct} (h : okFact rs f = true) : parF rs (fmtF rs f) = (f, true) := by
  obtain ⟨h1, h2⟩ := canF_fmt h
  unfold parF
  rw [h1, h2, if_pos ⟨rfl, rfl⟩]
theorem parF_true {rs : List Rel} {s : List UInt8} : ((parF rs s).2 = true → okFact rs (parF rs s).1 = true ∧ fmtF rs (parF rs s).1 = s) ∧ ((parF rs s).2 = false → (parF rs s).1 = (0, []) ∧ ∀ f, okFact rs f = true → fmtF rs f ≠ s) := by
  constructor
  · intro h
    unfold parF at h ⊢
    split at h
    · rename_i hc
      rw [if_pos hc]
      refine ⟨?_, hc.2⟩
      cases hb : okFact rs (canF rs s) with
      | true => rfl
      | false =>
        have h2 := hc.2
        unfold fmtF at h2
        rw [hb] at h2
        have h3 : s = [] := h2.symm
        have h1 := hc.1
        rw [h3, cut_none (by simp)] at h1
        cases h1
    · cases h
  · intro h
    refine ⟨?_, fun f hf e => ?_⟩
    · unfold parF at h ⊢
      split at h
      · cases h
      · rename_i hc; rw [if_neg hc]
    · rw [← e, parF_fmt hf] at h; cases h
/-! An instance, read. -/
end Go.Proofs.YtgemaohdlibboaaDoor.H
/- Walks: small functions on values and relations. No condition. -/
namespace Go.Proofs.YtgemaohdlibboaaDoor.H
open Go Go.RowKit Go.Proofs.YtgemaohdlibboaaDoorW.PrintWords Go.Proofs.YtgemaohdlibboaaDoorW.PrintLast
open Go.Proofs.YtgemaohdlibboaaDoor.Reg (On on_draw)
set_option maxHeartbeats 400000
set_option maxRecDepth 100000
set_option linter.unusedVariables false
set_option linter.unusedSimpArgs false

theorem l1In_calls (w : World) (x a b : Int) : Calls Tryd.prog 63 #[.int .i64 x, .int .i64 a, .int .i64 b] w fun e w' => e = .returned (.bool (within x a b)) ∧ On w w' := by
  by_cases h1 : a ≤ x
  · have h1' : decide (a ≤ x) = true := by simpa using h1
    go_enter Tryd.func63, Tryd.ntmps63
    go_wp2
    go_ret
    exact ⟨by simp [within, h1], On.refl _⟩
  · have h1' : decide (a ≤ x) = false := by simpa using h1
    go_enter Tryd.func63, Tryd.ntmps63
    go_wp2
    go_ret
    exact ⟨by simp [within]; omega, On.refl _⟩
theorem NullNumber_calls (w : World) (v : Int) (hv : -9223372036854775808 ≤ v) : Calls Tryd.prog 62 #[.int .i64 v] w fun e w' => e = .returned (.tuple #[.int .i64 (nulNum v), .bool (isNul v)]) ∧ On w w' := by
  by_cases h1 : 0 ≤ v
  · have h1' : decide (0 ≤ v) = true := by simpa using h1
    go_enter Tryd.func62, Tryd.ntmps62
    go_wp2
    go_ret2
    have h2 : ¬ (-40 ≤ v ∧ v ≤ -1) := by omega
    exact ⟨by simp [nulNum, isNul, h2], On.refl _⟩
  · have h1' : decide (0 ≤ v) = false := by simpa using h1
    by_cases h2 : -40 ≤ v
    · have hw : within (-1 - v) 0 39 = true := by simp [within]; omega
      go_enter Tryd.func62, Tryd.ntmps62
      go_wp2_with (go_at_call 63; refine (l1In_calls _ _ _ _).mono ?_; rintro e w1 ⟨rfl, hb1⟩)
      go_ret2
      have h3 : (-40 ≤ v ∧ v ≤ -1) := by omega
      exact ⟨by simp [nulNum, isNul, h3], hb1⟩
    · have hw : within (-1 - v) 0 39 = false := by simp [within]; omega
      go_enter Tryd.func62, Tryd.ntmps62
      go_wp2_with (go_at_call 63; refine (l1In_calls _ _ _ _).mono ?_; rintro e w1 ⟨rfl, hb1⟩)
      go_ret2
      have h3 : ¬ (-40 ≤ v ∧ v ≤ -1) := by omega
      exact ⟨by simp [nulNum, isNul, h3], hb1⟩
theorem IsValidValue_calls (w : World) (v : Int) (hv : -9223372036854775808 ≤ v) : Calls Tryd.prog 64 #[.int .i64 v] w fun e w' => e = .returned (.bool (okVal v)) ∧ On w w' := by
  by_cases h1 : isNul v = true
  · go_enter Tryd.func64, Tryd.ntmps64
    go_wp2_with (go_at_call 62; refine (NullNumber_calls _ _ hv).mono ?_; rintro e w1 ⟨rfl, hb1⟩)
    go_ret
    exact ⟨by have := h1; simp [isNul] at this; simp [okVal]; omega, hb1⟩
  · have h1' : isNul v = false := by simpa using h1
    go_enter Tryd.func64, Tryd.ntmps64
    go_wp2_with (first | (go_at_call 62; refine (NullNumber_calls _ _ hv).mono ?_; rintro e w1 ⟨rfl, hb1⟩) | (go_at_call 63; refine (l1In_calls _ _ _ _).mono ?_; rintro e w2 ⟨rfl, hb2⟩))
    go_ret
    exact ⟨ret_bool (by have := h1'; simp [isNul] at this; simp only [okVal, within, decide_eq_decide]; omega), hb1.trans hb2⟩
theorem IsValidRelation_calls (w : World) (r : Rel) : Calls Tryd.prog 52 #[.agg #[.string r.1, .int .i64 r.2.1, .bool r.2.2]] w fun e w' => e = .returned (.bool (okRel r)) ∧ On w w' := by
  by_cases h1 : (r.1.size : Int) = 1
  · have h1b : ((r.1.size : Int) == 1) = true := beq_iff_eq.mpr h1
    have h1c : decide (0 < r.1.size) = true := decide_eq_true (by omega)
    have hx := bt0 r.1
    go_enter Tryd.func52, Tryd.ntmps52
    go_wp2_with (go_at_call 63; refine (l1In_calls _ _ _ _).mono ?_; rintro e w2 ⟨rfl, hb2⟩)
    all_goals
      go_ret
      first | exact ⟨ret_bool (by simp only [okRel, within, decide_eq_decide]; omega), (On.alloc (On.refl _) _).trans hb2⟩ | exact ⟨ret_bool (by simp [okRel]; omega), On.alloc (On.refl _) _⟩
  · have h1b : ((r.1.size : Int) == 1) = false := beq_eq_false_iff_ne.mpr h1
    go_enter Tryd.func52, Tryd.ntmps52
    go_wp2
    go_ret
    exact ⟨ret_bool (by simp [okRel]; omega), On.alloc (On.refl _) _⟩
theorem AreValidRelations_calls (w : World) (A : Option Addr) (c : Nat) (l : List Rel) (h : Rels w A c l) : Calls Tryd.prog 37 #[.slice A l.length c] w fun e w' => e = .returned (.bool (okRels l)) ∧ On w w' := by
  have hmax := h.max
  go_enter Tryd.func37, Tryd.ntmps37
  go_wp2
  go_loopw [3] (fun v wr => ∃ k : Nat, k ≤ l.length ∧ v = .int .i64 k ∧ Hid (relsFrom (prevName l k) (l.drop k) = relsFrom none l) ∧ On w wr) (fun v _ => l.length - (intOf v).toNat)
  case atStart => exact ⟨0, Nat.zero_le _, rfl, rfl, On.refl _⟩
  case round =>
    obtain ⟨k, hk, rfl, hp, hB⟩ := hrel
    by_cases hlt : k < l.length
    · obtain ⟨ad, rfl, hx0, hx1, hx2⟩ := (h.on hB).at k hlt
      have hp' : Hid ((okRel l[k] && (match prevName l k with | none => true | some s => strLt s l[k].1) && relsFrom (prevName l (k + 1)) (l.drop (k + 1))) = relsFrom none l) := by have := hp.out; rwa [relsFrom_step l k hlt] at this
      clear hp
      cases hok : okRel l[k] with
      | false =>
        have hok' := Aside0.mk hok
        clear hok
        go_wp2
        refine Reg.region [(0,.L),(1,.L),(2,.L),(3,.L),(4,.C),(5,.L),(6,.L),(7,.L),(8,.L),(9,.L),(10,.L),(11,.L),(12,.L),(13,.L),(14,.L),(15,.L),(16,.L),(17,.L),(18,.L),(19,.L),(20,.L),(21,.L),(22,.L),(23,.L)] [] (by kernel_rfl) (by kernel_rfl) ?_
        repeat first | refine sP ?_ | refine sS ?_ | refine sA ?_ | refine sL ?_ | refine sQ ?_ | refine sO ?_
        refine callC (.bool false) Tryd.func52 (fun w' hS => ?_) ?_
        focus exact (IsValidRelation_calls w' l[k]).mono fun e w'' h => ⟨by rw [h.1, hok'.out], h.2⟩
        repeat first | refine sP ?_ | refine sS ?_ | refine sA ?_ | refine sL ?_ | refine sQ ?_ | refine sO ?_
        refine Reg.nil fun w2 hS => ?_
        go_wp2
        go_ret
        exact ⟨ret_bool (by have := hp'.out; rw [hok'.out] at this; simp [okRels, ← this]), hB.trans hS⟩
      | true =>
        have hok' := Aside0.mk hok
        clear hok
        by_cases hk0 : 0 < k
        · have hk0' : decide (0 < (k : Int)) = true := decide_eq_true (by omega)
          have hki : IntKind.i64.wrap ((k : Int) - 1) = ((k - 1 : Nat) : Int) := by rw [IntWalk.i64_in _ (by omega)]; omega
          have hk1 : k - 1 < l.length := by omega
          obtain ⟨ad', e', hy0, _, _⟩ := (h.on hB).at (k - 1) hk1
          obtain rfl : ad = ad' := by simpa using e'
          have hpn : prevName l k = some l[k - 1].1 := by simp [prevName, show ¬ k = 0 by omega, show k - 1 < l.length by omega]
          rw [hpn] at hp'
          replace hp' : Hid ((okRel l[k] && strLt l[k - 1].1 l[k].1 && relsFrom (prevName l (k + 1)) (l.drop (k + 1))) = relsFrom none l) := hp'
          cases hs : strLt l[k - 1].1 l[k].1 with
          | true =>
            have hs1 : Op.bytesLess l[k - 1].1.toList l[k].1.toList = true := hs
            have hs2 := bl_asymm _ _ hs1
            have hs3 := bl_ne hs1
            have hs4 := bl_ne' hs1
            have hs' := Aside0.mk hs
            clear hs
            go_wp2
            refine Reg.region [(0,.L),(1,.L),(2,.L),(3,.L),(4,.C),(5,.L),(6,.L),(7,.L),(8,.L),(9,.L),(10,.L),(11,.L),(12,.L),(13,.L),(14,.L),(15,.L),(16,.L),(17,.L),(18,.L),(19,.L),(20,.L),(21,.L),(22,.L),(23,.L)] [] (by kernel_rfl) (by kernel_rfl) ?_
            repeat first | refine sP ?_ | refine sS ?_ | refine sA ?_ | refine sL ?_ | refine sQ ?_ | refine sO ?_
            refine callC (.bool true) Tryd.func52 (fun w' hS => ?_) ?_
            focus exact (IsValidRelation_calls w' l[k]).mono fun e w'' h => ⟨by rw [h.1, hok'.out], h.2⟩
            repeat first | refine sP ?_ | refine sS ?_ | refine sA ?_ | refine sL ?_ | refine sQ ?_ | refine sO ?_
            refine Reg.nil fun w2 hS => ?_
            go_wp2
            go_roundw
            case rel => exact ⟨k + 1, by omega, by go_num, (by have := hp'.out; rw [hok'.out, hs'.out] at this; simpa using this : _ = _), hB.trans hS⟩
            case measure => simp [intOf]; omega
          | false =>
            have hs1 : Op.bytesLess l[k - 1].1.toList l[k].1.toList = false := hs
            have hs2 := bl_total _ _ hs1
            have hs' := Aside0.mk hs
            clear hs
            go_wp2
            refine Reg.region [(0,.L),(1,.L),(2,.L),(3,.L),(4,.C),(5,.L),(6,.L),(7,.L),(8,.L),(9,.L),(10,.L),(11,.L),(12,.L),(13,.L),(14,.L),(15,.L),(16,.L),(17,.L),(18,.L),(19,.L),(20,.L),(21,.L),(22,.L),(23,.L)] [] (by kernel_rfl) (by kernel_rfl) ?_
            repeat first | refine sP ?_ | refine sS ?_ | refine sA ?_ | refine sL ?_ | refine sQ ?_ | refine sO ?_
            refine callC (.bool true) Tryd.func52 (fun w' hS => ?_) ?_
            focus exact (IsValidRelation_calls w' l[k]).mono fun e w'' h => ⟨by rw [h.1, hok'.out], h.2⟩
            repeat first | refine sP ?_ | refine sS ?_ | refine sA ?_ | refine sL ?_ | refine sQ ?_ | refine sO ?_
            refine Reg.nil fun w2 hS => ?_
            go_wp2
            go_ret
            exact ⟨ret_bool (by have := hp'.out; rw [hok'.out, hs'.out] at this; simp [okRels, ← this]), hB.trans hS⟩
        · have hk0' : decide (0 < (k : Int)) = false := decide_eq_false (by omega)
          have hpn : prevName l k = none := by simp [prevName, show k = 0 by omega]
          rw [hpn] at hp'
          replace hp' : Hid ((okRel l[k] && true && relsFrom (prevName l (k + 1)) (l.drop (k + 1))) = relsFrom none l) := hp'
          go_wp2
          refine Reg.region [(0,.L),(1,.L),(2,.L),(3,.L),(4,.C),(5,.L),(6,.L),(7,.L),(8,.L),(9,.L),(10,.L),(11,.L),(12,.L),(13,.L),(14,.L),(15,.L),(16,.L),(17,.L),(18,.L),(19,.L),(20,.L),(21,.L),(22,.L),(23,.L)] [] (by kernel_rfl) (by kernel_rfl) ?_
          repeat first | refine sP ?_ | refine sS ?_ | refine sA ?_ | refine sL ?_ | refine sQ ?_ | refine sO ?_
          refine callC (.bool true) Tryd.func52 (fun w' hS => ?_) ?_
          focus exact (IsValidRelation_calls w' l[k]).mono fun e w'' h => ⟨by rw [h.1, hok'.out], h.2⟩
          repeat first | refine sP ?_ | refine sS ?_ | refine sA ?_ | refine sL ?_ | refine sQ ?_ | refine sO ?_
          refine Reg.nil fun w2 hS => ?_
          go_wp2
          go_roundw
          case rel => exact ⟨k + 1, by omega, by go_num, (by have := hp'.out; rw [hok'.out] at this; simpa using this : _ = _), hB.trans hS⟩
          case measure => simp [intOf]; omega
    · go_wp2
      go_ret
      have e1 : relsFrom none l = true := by rw [← hp.out, List.drop_of_length_le (by omega)]; cases prevName l k <;> rfl
      exact ⟨ret_bool (by simp [okRels, e1]; omega), hB⟩
end Go.Proofs.YtgemaohdlibboaaDoor.H
/- Walks: facts, compared and placed. No condition. -/
namespace Go.Proofs.YtgemaohdlibboaaDoor.H
open Go Go.RowKit Go.Proofs.YtgemaohdlibboaaDoorW.PrintWords Go.Proofs.YtgemaohdlibboaaDoorW.PrintLast
open Go.Proofs.YtgemaohdlibboaaDoor.Reg (On on_draw)
set_option maxHeartbeats 1000000
set_option maxRecDepth 100000
set_option linter.unusedVariables false
set_option linter.unusedSimpArgs false

end Go.Proofs.YtgemaohdlibboaaDoor.H
/- Walks: valid facts. No condition. -/
namespace Go.Proofs.YtgemaohdlibboaaDoor.H
open Go Go.RowKit Go.Proofs.YtgemaohdlibboaaDoorW.PrintWords Go.Proofs.YtgemaohdlibboaaDoorW.PrintLast
open Go.Proofs.YtgemaohdlibboaaDoor.Reg (On on_draw)
set_option maxHeartbeats 1000000
set_option maxRecDepth 100000
set_option linter.unusedVariables false
set_option linter.unusedSimpArgs false

theorem all_step {α : Type} (p : α → Bool) (l : List α) (k : Nat) (h : k < l.length) : (l.drop k).all p = (p l[k] && (l.drop (k + 1)).all p) := by
  rw [List.drop_eq_getElem_cons h]; rfl
theorem IsValidFact_calls (w : World) (A c) (rs : List Rel) (B d) (f : Fct) (h0 : Rels w A c rs) (h1 : Ints w B d f.2) : Calls Tryd.prog 45 #[.slice A rs.length c, .agg #[.int .i64 f.1, .slice B f.2.length d]] w fun e w' => e = .returned (.bool (okFact rs f)) ∧ On w w' := by
  have hm0 := h0.max
  have hm1 := h1.max
  have hw1 : IntKind.i64.wrap ((rs.length : Int) - 1) = (rs.length : Int) - 1 := IntWalk.i64_in _ (by omega)
  cases hr : okRels rs with
  | false =>
    have hr' := Aside0.mk hr
    clear hr
    go_enter Tryd.func45, Tryd.ntmps45
    go_wp2
    refine Reg.region [(0,.L),(1,.C),(2,.L),(3,.L),(4,.L),(5,.L),(6,.L),(7,.L),(8,.L),(9,.C),(10,.L),(11,.L),(12,.L),(13,.L),(14,.L),(15,.L),(16,.L),(17,.L),(18,.L),(19,.L),(20,.L),(21,.L),(22,.L),(23,.L)] [] (by kernel_rfl) (by kernel_rfl) ?_
    repeat first | refine sP ?_ | refine sS ?_ | refine sA ?_ | refine sL ?_ | refine sQ ?_ | refine sO ?_
    refine callC (.bool false) Tryd.func37 (fun w' hS => ?_) ?_
    focus exact (AreValidRelations_calls w' A c rs (h0.on ((On.alloc (On.refl _) _).trans hS))).mono fun e w'' h => ⟨by rw [h.1, hr'.out], h.2⟩
    repeat first | refine sP ?_ | refine sS ?_ | refine sA ?_ | refine sL ?_ | refine sQ ?_ | refine sO ?_
    refine Reg.nil fun w2 hS => ?_
    go_wp2
    go_ret
    exact ⟨ret_bool (by simp [okFact, hr'.out]), (On.alloc (On.refl _) _).trans hS⟩
  | true =>
    have hr' := Aside0.mk hr
    clear hr
    cases hi : within f.1 0 ((rs.length : Int) - 1) with
    | false =>
      have hi' := Aside0.mk hi
      clear hi
      go_enter Tryd.func45, Tryd.ntmps45
      go_wp2
      refine Reg.region [(0,.L),(1,.C),(2,.L),(3,.L),(4,.L),(5,.L),(6,.L),(7,.L),(8,.L),(9,.C),(10,.L),(11,.L),(12,.L),(13,.L),(14,.L),(15,.L),(16,.L),(17,.L),(18,.L),(19,.L),(20,.L),(21,.L),(22,.L),(23,.L)] [] (by kernel_rfl) (by kernel_rfl) ?_
      repeat first | refine sP ?_ | refine sS ?_ | refine sA ?_ | refine sL ?_ | refine sQ ?_ | refine sO ?_
      refine callC (.bool true) Tryd.func37 (fun w' hS => ?_) ?_
      focus exact (AreValidRelations_calls w' A c rs (h0.on ((On.alloc (On.refl _) _).trans hS))).mono fun e w'' h => ⟨by rw [h.1, hr'.out], h.2⟩
      repeat first | refine sP ?_ | refine sS ?_ | refine sA ?_ | refine sL ?_ | refine sQ ?_ | refine sO ?_
      refine callC (.bool false) Tryd.func63 (fun w' hS => ?_) ?_
      focus exact (l1In_calls w' _ _ _).mono fun e w'' h => ⟨by rw [h.1, hi'.out], h.2⟩
      repeat first | refine sP ?_ | refine sS ?_ | refine sA ?_ | refine sL ?_ | refine sQ ?_ | refine sO ?_
      refine Reg.nil fun w2 hS => ?_
      go_wp2
      go_ret
      exact ⟨ret_bool (by have := hi'.out; simp [within] at this; simp [okFact]; intros; omega), (On.alloc (On.refl _) _).trans hS⟩
    | true =>
      have hi' := Aside0.mk hi
      have hi2 : 0 ≤ f.1 ∧ f.1 ≤ (rs.length : Int) - 1 := by simpa [within] using hi
      clear hi
      rcases f with ⟨r, vs⟩
      obtain ⟨m, rfl⟩ : ∃ m : Nat, r = m := ⟨r.toNat, by omega⟩
      have hm : m < rs.length := by omega
      have har : arity rs (m : Int) = rs[m].2.1 := by simp [arity, hm]
      clear hi2
      dsimp only at *
      obtain ⟨ad, rfl, hx0, hx1, hx2⟩ := h0.at m hm
      have hbx := Aside0.mk (On.alloc (On.refl w) (.cells #[.int .i64 m, .slice B vs.length d] 32))
      have hx1' := (hbx.out.eq _ (by rw [hx1]; rfl)).trans hx1
      clear hx0 hx1 hx2
      cases hl : decide ((vs.length : Int) = rs[m].2.1) with
      | false =>
        have hl1 : ((vs.length : Int) == rs[m].2.1) = false := hl
        have hl2 : ((vs.length : Int) != rs[m].2.1) = true := by simp [bne, hl1]
        have hl' := Aside0.mk hl
        clear hl
        go_enter Tryd.func45, Tryd.ntmps45
        go_wp2
        refine Reg.region [(0,.L),(1,.C),(2,.L),(3,.L),(4,.L),(5,.L),(6,.L),(7,.L),(8,.L),(9,.C),(10,.L),(11,.L),(12,.L),(13,.L),(14,.L),(15,.L),(16,.L),(17,.L),(18,.L),(19,.L),(20,.L),(21,.L),(22,.L),(23,.L)] [] (by kernel_rfl) (by kernel_rfl) ?_
        repeat first | refine sP ?_ | refine sS ?_ | refine sA ?_ | refine sL ?_ | refine sQ ?_ | refine sO ?_
        refine callC (.bool true) Tryd.func37 (fun w' hS => ?_) ?_
        focus exact (AreValidRelations_calls w' (some ad) c rs (h0.on (hbx.out.trans hS))).mono fun e w'' h => ⟨by rw [h.1, hr'.out], h.2⟩
        repeat first | refine sP ?_ | refine sS ?_ | refine sA ?_ | refine sL ?_ | refine sQ ?_ | refine sO ?_
        refine callC (.bool true) Tryd.func63 (fun w' hS => ?_) ?_
        focus exact (l1In_calls w' _ _ _).mono fun e w'' h => ⟨by rw [h.1, hi'.out], h.2⟩
        repeat first | refine sP ?_ | refine sS ?_ | refine sA ?_ | refine sL ?_ | refine sQ ?_ | refine sO ?_
        refine Reg.nil fun w2 hS => ?_
        go_wp2
        go_ret
        have e1 : decide ((vs.length : Int) = arity rs (m : Int)) = false := by rw [har]; exact hl'.out
        exact ⟨ret_bool (by symm; unfold okFact; dsimp only; rw [e1, Bool.and_false, Bool.false_and]), hbx.out.trans hS⟩
      | true =>
        have hl0 : (vs.length : Int) = rs[m].2.1 := of_decide_eq_true hl
        have hl1 : ((vs.length : Int) == rs[m].2.1) = true := by simpa using hl0
        have hl2 : ((vs.length : Int) != rs[m].2.1) = false := by simp [bne, hl1]
        have hl' := Aside0.mk hl
        clear hl hl0
        go_enter Tryd.func45, Tryd.ntmps45
        go_wp2
        refine Reg.region [(0,.L),(1,.C),(2,.L),(3,.L),(4,.L),(5,.L),(6,.L),(7,.L),(8,.L),(9,.C),(10,.L),(11,.L),(12,.L),(13,.L),(14,.L),(15,.L),(16,.L),(17,.L),(18,.L),(19,.L),(20,.L),(21,.L),(22,.L),(23,.L)] [] (by kernel_rfl) (by kernel_rfl) ?_
        repeat first | refine sP ?_ | refine sS ?_ | refine sA ?_ | refine sL ?_ | refine sQ ?_ | refine sO ?_
        refine callC (.bool true) Tryd.func37 (fun w' hS => ?_) ?_
        focus exact (AreValidRelations_calls w' (some ad) c rs (h0.on (hbx.out.trans hS))).mono fun e w'' h => ⟨by rw [h.1, hr'.out], h.2⟩
        repeat first | refine sP ?_ | refine sS ?_ | refine sA ?_ | refine sL ?_ | refine sQ ?_ | refine sO ?_
        refine callC (.bool true) Tryd.func63 (fun w' hS => ?_) ?_
        focus exact (l1In_calls w' _ _ _).mono fun e w'' h => ⟨by rw [h.1, hi'.out], h.2⟩
        repeat first | refine sP ?_ | refine sS ?_ | refine sA ?_ | refine sL ?_ | refine sQ ?_ | refine sO ?_
        refine Reg.nil fun w2 hS => ?_
        clear hx1'
        have hL2 := Loc.on hS (loc1 w #[.int .i64 m, .slice B vs.length d] 32)
        have hc0 := blk_cell hL2.1
        go_wp2
        clear hc0
        go_loopw [5] (fun v wr => ∃ k : Nat, k ≤ vs.length ∧ v = .int .i64 k ∧ Hid ((vs.drop k).all okVal = vs.all okVal) ∧ On w wr ∧ Loc wr [(w.heap.size, #[.int .i64 m, .slice B vs.length d], 32)]) (fun v _ => vs.length - (intOf v).toNat)
        case atStart => exact ⟨0, Nat.zero_le _, rfl, rfl, hbx.out.trans hS, hL2⟩
        case round =>
          obtain ⟨k, hk, rfl, hp, hB, hL⟩ := hrel
          have hc0 := blk_cell hL.1
          have hL' := Aside0.mk hL
          clear hL
          by_cases hlt : k < vs.length
          · obtain ⟨bd, rfl, hx⟩ := (h1.on hB).at k hlt
            have hbd := h1.bd k hlt
            replace hp := Aside0.mk ((all_step okVal vs k hlt).symm.trans hp.out)
            cases hv : okVal vs[k] with
            | false =>
              have hv' := Aside0.mk hv
              clear hv
              go_wp2_with (go_at_call 64; refine (IsValidValue_calls _ _ hbd.1).mono ?_; rintro e w3 ⟨rfl, hb3⟩; rw [hv'.out])
              go_ret
              exact ⟨ret_bool (by have := hp.out; rw [hv'.out, Bool.false_and] at this; simp only [okFact, ← this, Bool.and_false]), hB.trans hb3⟩
            | true =>
              have hv' := Aside0.mk hv
              clear hv
              go_wp2_with (go_at_call 64; refine (IsValidValue_calls _ _ hbd.1).mono ?_; rintro e w3 ⟨rfl, hb3⟩; rw [hv'.out])
              go_roundw
              case rel => exact ⟨k + 1, by omega, by go_num, (by have := hp.out; rwa [hv'.out, Bool.true_and] at this : _ = _), hB.trans hb3, Loc.on hb3 hL'.out⟩
              case measure => simp [intOf]; omega
          · have hp' := Aside0.mk hp.out
            clear hp
            go_wp2
            go_ret
            exact ⟨ret_bool (by have := hp'.out; rw [List.drop_of_length_le (by omega)] at this; simp [okFact, ← this, hr'.out, har, hm]; have := beq_iff_eq.1 hl1; omega), hB⟩
end Go.Proofs.YtgemaohdlibboaaDoor.H
/- Walks: the program's own small functions on values and relations. No condition. -/
namespace Go.Proofs.YtgemaohdlibboaaDoor.H
open Go Go.RowKit Go.Proofs.YtgemaohdlibboaaDoorW.PrintWords Go.Proofs.YtgemaohdlibboaaDoorW.PrintLast
open Go.Proofs.YtgemaohdlibboaaDoor.Reg (On on_draw)
set_option maxHeartbeats 1000000
set_option maxRecDepth 100000
set_option linter.unusedVariables false
set_option linter.unusedSimpArgs false

theorem within_calls (w : World) (x a b : Int) : Calls Tryd.prog 69 #[.int .i64 x, .int .i64 a, .int .i64 b] w fun e w' => e = .returned (.bool (within x a b)) ∧ On w w' := by
  by_cases h1 : a ≤ x
  · have h1' : decide (a ≤ x) = true := by simpa using h1
    go_enter Tryd.func69, Tryd.ntmps69
    go_wp2
    go_ret
    exact ⟨by simp [within, h1], On.refl _⟩
  · have h1' : decide (a ≤ x) = false := by simpa using h1
    go_enter Tryd.func69, Tryd.ntmps69
    go_wp2
    go_ret
    exact ⟨by simp [within]; omega, On.refl _⟩
theorem iIsValidValue_calls (w : World) (v : Int) : Calls Tryd.prog 67 #[.int .i64 v] w fun e w' => e = .returned (.bool (okVal v)) ∧ On w w' := by
  go_enter Tryd.func67, Tryd.ntmps67
  go_wp2_with (go_at_call 69; refine (within_calls _ _ _ _).mono ?_; rintro e w1 ⟨rfl, hb1⟩)
  go_ret
  exact ⟨ret_bool (by simp only [okVal, within]), hb1⟩
theorem str1_lt (s : ByteArray) (h : s.size = 1) (c : UInt8) : Op.bytesLess s.toList [c] = decide (bt s 0 < c.toNat) ∧ Op.bytesLess [c] s.toList = decide ((c.toNat : Int) < bt s 0) ∧ (s.toList == [c]) = decide (bt s 0 = c.toNat) := by
  have hl : s.data.toList.length = 1 := by simpa using h
  obtain ⟨x, hx⟩ := List.length_eq_one_iff.1 hl
  have e1 : s.toList = [x] := by rw [ByteArray.toList_eq]; exact hx
  have e2 : bt s 0 = x.toNat := by
    have h0 : (0 : Int).toNat < s.size := by simp [h]
    unfold bt
    rw [dif_pos h0]
    have : s[(0 : Int).toNat] = x := by
      show s.data[(0:Int).toNat] = x
      have h1 : 0 < s.data.size := by have : s.data.size = 1 := h; omega
      have := Array.getElem_toList (xs := s.data) (i := 0) h1
      simp only [Int.toNat_zero]
      rw [← this]
      simp [hx]
    rw [this]
  rw [e1, e2]
  refine ⟨?_, ?_, ?_⟩
  · simp [Op.bytesLess, UInt8.lt_iff_toNat_lt]
  · simp [Op.bytesLess, UInt8.lt_iff_toNat_lt]
  · rw [Bool.eq_iff_iff]; simp [← UInt8.toNat_inj]; omega
theorem iIsValidRelation_calls (w : World) (r : Rel) : Calls Tryd.prog 57 #[.agg #[.string r.1, .int .i64 r.2.1, .bool r.2.2]] w fun e w' => e = .returned (.bool (okRel r)) ∧ On w w' := by
  by_cases h1 : (r.1.size : Int) = 1
  · have h1b : ((r.1.size : Int) == 1) = true := beq_iff_eq.mpr h1
    have e1 : Op.bytesLess r.1.toList [97] = decide (bt r.1 0 < 97) := (str1_lt r.1 (by omega) 97).1
    have e2 : Op.bytesLess r.1.toList [122] = decide (bt r.1 0 < 122) := (str1_lt r.1 (by omega) 122).1
    have e3 : (r.1.toList == [122]) = decide (bt r.1 0 = 122) := (str1_lt r.1 (by omega) 122).2.2
    have e4 : (r.1.toList = [122]) = (bt r.1 0 = 122) := by
      apply propext; have := Bool.eq_iff_iff.1 e3; simpa using this
    go_enter Tryd.func57, Tryd.ntmps57
    go_wp2_with (go_at_call 69; refine (within_calls _ _ _ _).mono ?_; rintro e w2 ⟨rfl, hb2⟩)
    all_goals
      go_ret
      first | exact ⟨ret_bool (by rw [Bool.eq_iff_iff]; simp [okRel, within]; omega), (On.alloc (On.refl _) _).trans hb2⟩ | exact ⟨ret_bool (by simp [okRel]; omega), On.alloc (On.refl _) _⟩
  · have h1b : ((r.1.size : Int) == 1) = false := beq_eq_false_iff_ne.mpr h1
    go_enter Tryd.func57, Tryd.ntmps57
    go_wp2
    go_ret
    exact ⟨ret_bool (by simp [okRel]; omega), On.alloc (On.refl _) _⟩
theorem iAreValidRelations_calls (w : World) (A : Option Addr) (c : Nat) (l : List Rel) (h : Rels w A c l) : Calls Tryd.prog 41 #[.slice A l.length c] w fun e w' => e = .returned (.bool (okRels l)) ∧ On w w' := by
  have hmax := h.max
  go_enter Tryd.func41, Tryd.ntmps41
  go_wp2
  go_loopw [7] (fun v wr => ∃ k : Nat, k ≤ l.length ∧ v = .int .i64 k ∧ Hid (relsFrom (prevName l k) (l.drop k) = relsFrom none l) ∧ On w wr) (fun v _ => l.length - (intOf v).toNat)
  case atStart => exact ⟨0, Nat.zero_le _, rfl, rfl, On.refl _⟩
  case round =>
    obtain ⟨k, hk, rfl, hp, hB⟩ := hrel
    by_cases hlt : k < l.length
    · obtain ⟨ad, rfl, hx0, hx1, hx2⟩ := (h.on hB).at k hlt
      have hp' := Aside0.mk ((relsFrom_step l k hlt).symm.trans hp.out)
      have hfill := alloc_fill3 wr
      have hbx := Aside0.mk (On.alloc (On.refl wr) (.cells #[.string l[k].1, .int .i64 l[k].2.1, .bool l[k].2.2] 42))
      have hB2 := Aside0.mk (hB.trans hbx.out)
      have hcn := blk_cell (loc_new wr #[.string l[k].1, .int .i64 l[k].2.1, .bool l[k].2.2] 42)
      clear hp
      cases hok : okRel l[k] with
      | false =>
        have hok' := Aside0.mk hok
        clear hok
        go_wp2
        refine Reg.region [(0,.L),(1,.C),(2,.L),(3,.L),(4,.L),(5,.L),(6,.L),(7,.L),(8,.L),(9,.L),(10,.L),(11,.L),(12,.L),(13,.L),(14,.L),(15,.L),(16,.L),(17,.L)] [] (by kernel_rfl) (by kernel_rfl) ?_
        repeat first | refine sP ?_ | refine sS ?_ | refine sA ?_ | refine sL ?_ | refine sQ ?_ | refine sO ?_
        refine callC (.bool false) Tryd.func57 (fun w' hS => ?_) ?_
        focus exact (iIsValidRelation_calls w' l[k]).mono fun e w'' h => ⟨by rw [h.1, hok'.out], h.2⟩
        repeat first | refine sP ?_ | refine sS ?_ | refine sA ?_ | refine sL ?_ | refine sQ ?_ | refine sO ?_
        refine Reg.nil fun w2 hS => ?_
        go_wp2
        go_ret
        exact ⟨ret_bool (by have := hp'.out; rw [hok'.out] at this; simp at this; simp [okRels, this]), hB2.out.trans hS⟩
      | true =>
        have hok' := Aside0.mk hok
        clear hok
        by_cases hk0 : 0 < k
        · have hk0' : decide (0 < (k : Int)) = true := decide_eq_true (by omega)
          have hki : IntKind.i64.wrap ((k : Int) - 1) = ((k - 1 : Nat) : Int) := by rw [IntWalk.i64_in _ (by omega)]; omega
          have hk1 : k - 1 < l.length := by omega
          obtain ⟨ad', e', hy0, _, _⟩ := (h.on hB2.out).at (k - 1) hk1
          obtain rfl : ad = ad' := by simpa using e'
          have hpn : prevName l k = some l[k - 1].1 := by simp [prevName, show ¬ k = 0 by omega, show k - 1 < l.length by omega]
          rw [hpn] at hp'
          replace hp' : Aside0 ((okRel l[k] && strLt l[k - 1].1 l[k].1 && relsFrom (prevName l (k + 1)) (l.drop (k + 1))) = relsFrom none l) := hp'
          cases hs : strLt l[k - 1].1 l[k].1 with
          | true =>
            have hs1 : Op.bytesLess l[k - 1].1.toList l[k].1.toList = true := hs
            have hs2 := bl_asymm _ _ hs1
            have hs3 := bl_ne hs1
            have hs4 := bl_ne' hs1
            have hs' := Aside0.mk hs
            clear hs
            go_wp2
            refine Reg.region [(0,.L),(1,.C),(2,.L),(3,.L),(4,.L),(5,.L),(6,.L),(7,.L),(8,.L),(9,.L),(10,.L),(11,.L),(12,.L),(13,.L),(14,.L),(15,.L),(16,.L),(17,.L)] [] (by kernel_rfl) (by kernel_rfl) ?_
            repeat first | refine sP ?_ | refine sS ?_ | refine sA ?_ | refine sL ?_ | refine sQ ?_ | refine sO ?_
            refine callC (.bool true) Tryd.func57 (fun w' hS => ?_) ?_
            focus exact (iIsValidRelation_calls w' l[k]).mono fun e w'' h => ⟨by rw [h.1, hok'.out], h.2⟩
            repeat first | refine sP ?_ | refine sS ?_ | refine sA ?_ | refine sL ?_ | refine sQ ?_ | refine sO ?_
            refine Reg.nil fun w2 hS => ?_
            go_wp2
            go_roundw
            case rel => exact ⟨k + 1, by omega, by go_num, (by have := hp'.out; rw [hok'.out, hs'.out] at this; simpa using this : _ = _), hB2.out.trans hS⟩
            case measure => simp [intOf]; omega
          | false =>
            have hs1 : Op.bytesLess l[k - 1].1.toList l[k].1.toList = false := hs
            have hs2 := bl_total _ _ hs1
            have hs' := Aside0.mk hs
            clear hs
            go_wp2
            refine Reg.region [(0,.L),(1,.C),(2,.L),(3,.L),(4,.L),(5,.L),(6,.L),(7,.L),(8,.L),(9,.L),(10,.L),(11,.L),(12,.L),(13,.L),(14,.L),(15,.L),(16,.L),(17,.L)] [] (by kernel_rfl) (by kernel_rfl) ?_
            repeat first | refine sP ?_ | refine sS ?_ | refine sA ?_ | refine sL ?_ | refine sQ ?_ | refine sO ?_
            refine callC (.bool true) Tryd.func57 (fun w' hS => ?_) ?_
            focus exact (iIsValidRelation_calls w' l[k]).mono fun e w'' h => ⟨by rw [h.1, hok'.out], h.2⟩
            repeat first | refine sP ?_ | refine sS ?_ | refine sA ?_ | refine sL ?_ | refine sQ ?_ | refine sO ?_
            refine Reg.nil fun w2 hS => ?_
            go_wp2
            go_ret
            exact ⟨ret_bool (by have := hp'.out; rw [hok'.out, hs'.out] at this; simp at this; simp [okRels, this]), hB2.out.trans hS⟩
        · have hk0' : decide (0 < (k : Int)) = false := decide_eq_false (by omega)
          have hpn : prevName l k = none := by simp [prevName, show k = 0 by omega]
          rw [hpn] at hp'
          replace hp' : Aside0 ((okRel l[k] && true && relsFrom (prevName l (k + 1)) (l.drop (k + 1))) = relsFrom none l) := hp'
          go_wp2
          refine Reg.region [(0,.L),(1,.C),(2,.L),(3,.L),(4,.L),(5,.L),(6,.L),(7,.L),(8,.L),(9,.L),(10,.L),(11,.L),(12,.L),(13,.L),(14,.L),(15,.L),(16,.L),(17,.L)] [] (by kernel_rfl) (by kernel_rfl) ?_
          repeat first | refine sP ?_ | refine sS ?_ | refine sA ?_ | refine sL ?_ | refine sQ ?_ | refine sO ?_
          refine callC (.bool true) Tryd.func57 (fun w' hS => ?_) ?_
          focus exact (iIsValidRelation_calls w' l[k]).mono fun e w'' h => ⟨by rw [h.1, hok'.out], h.2⟩
          repeat first | refine sP ?_ | refine sS ?_ | refine sA ?_ | refine sL ?_ | refine sQ ?_ | refine sO ?_
          refine Reg.nil fun w2 hS => ?_
          go_wp2
          go_roundw
          case rel => exact ⟨k + 1, by omega, by go_num, (by have := hp'.out; rw [hok'.out] at this; simpa using this : _ = _), hB2.out.trans hS⟩
          case measure => simp [intOf]; omega
    · go_wp2
      go_ret
      have e1 : relsFrom none l = true := by rw [← hp.out, List.drop_of_length_le (by omega)]; cases prevName l k <;> rfl
      exact ⟨ret_bool (by simp [okRels, e1]; omega), hB⟩
end Go.Proofs.YtgemaohdlibboaaDoor.H
/- Steps of these walks at this program: rows that are appended to, made, cut. No condition. -/
namespace Go.Proofs.YtgemaohdlibboaaDoor.H
open Go Go.RowKit Go.Proofs.YtgemaohdlibboaaDoorW.PrintWords Go.Proofs.YtgemaohdlibboaaDoorW.PrintLast
open Go.Proofs.YtgemaohdlibboaaDoor.Reg (On on_draw)
set_option linter.unusedVariables false
theorem infoI : (Tryd.prog.info? 3).map (fun i => (i.zero, i.size, i.bytes)) = some (some (.int .i64 0), 1, 8) := by kernel_rfl
theorem infoR : (Tryd.prog.info? 42).map (fun i => (i.zero, i.size, i.bytes)) = some (some (.agg #[.string ⟨#[]⟩, .int .i64 0, .bool false]), 3, 32) := by kernel_rfl
/-- A call hands back a value of which P holds. -/
structure Got (P : Value → World → Prop) (e : Ending) (w : World) : Prop where mk :: (out : ∃ v, e = .returned v ∧ P v w)
/-- The walk stands still here. -/
structure Stop (p : Prop) : Prop where mk :: (out : p)
/-- Rows of the call's own: from block lo on. -/
abbrev OInts (w : World) (lo : Nat) (v : Value) (xs : List Int) : Prop := kInts.R 3 w lo (fun _ => True) v xs
theorem OInts.on {W w : World} {lo : Nat} {v : Value} {xs : List Int} (h : OInts W lo v xs) (hb : On W w) : OInts w lo v xs := Kd.R_below h hb
theorem OInts.slice {w : World} {lo : Nat} {v : Value} {xs : List Int} (h : OInts w lo v xs) (hr : InR xs) : ∃ A c, v = .slice A xs.length c ∧ Ints w A c xs := by
  obtain ⟨A, c, e, h1, h2⟩ := Kd.R_reads h
  exact ⟨A, c, e, h1, h2, hr⟩
section
variable {ops : Array Oper} {rest : List Oper} {o : Oper} {a : Act} {Q : Exit → Act → World → Prop} {W : World}
theorem gate (N : Tmp) (h : Stop (wpList Tryd.prog ops Q (o :: rest) a W)) (hd : o.dst = some N := by rfl) : wpList Tryd.prog ops Q (o :: rest) a W := h.out
/-- append of a row that is read onto a row of one's own. -/
theorem apI (N : Tmp) {s x : Operand} {v : Value} {A : Option Addr} {m c base : Nat} {xs ys zs : List Int} (hz : xs ++ ys = zs)
    (HO : OInts W base v xs) (HR : kInts.C W A m ys) (hbase : base ≤ W.heap.size) (hl : xs.length + m ≤ 10000000000)
    (h : ∀ v1 w1, OInts w1 base v1 zs → W.grownBy w1 v.ownBlock → (v1.ownBlock = v.ownBlock ∨ ∃ b, v1.ownBlock = some b ∧ W.heap.size ≤ b) → wpList Tryd.prog ops Q rest (a.put (some N) v1) w1)
    (hop : o.op = .call { callee := .builtin .append, args := #[s, x], argTypes := #[30, 30] } := by rfl)
    (hd : o.dst = some N := by rfl) (hg : o.guard = none := by rfl) (hs : a.eval s = v := by rfl) (hx : a.eval x = .slice A m c := by rfl) : wpList Tryd.prog ops Q (o :: rest) a W := by
  subst hz
  refine Kd.R_append_row (Value.int .i64) (0 : Int) (h1 := fun _ => rfl) (w0 := W) base hg s x 30 3 (.int .i64 0) 8 hop Tryd.underlying30 infoI rfl (by omega) v xs ys A m c (fun _ => True) hs hx (fun _ _ => trivial) HO HR (Below.refl _ _) hbase (by omega) ?_
  intro v1 w1 h1 _ h3 h4
  rw [hd]
  exact h v1 w1 h1 h3 h4
end
end Go.Proofs.YtgemaohdlibboaaDoor.H
/- Rows of a call's own, cell by cell: relations, facts' headers, facts whose rows lie apart; worlds that differ in some blocks alone. No condition. -/
namespace Go.Proofs.YtgemaohdlibboaaDoor.H
open Go Go.RowKit Go.Proofs.YtgemaohdlibboaaDoorW.PrintWords Go.Proofs.YtgemaohdlibboaaDoorW.PrintLast
open Go.Proofs.YtgemaohdlibboaaDoor.Reg (On on_draw)
set_option maxHeartbeats 400000
set_option linter.unusedVariables false
set_option linter.unusedSimpArgs false

/-! Worlds that differ in the blocks S alone. -/
structure Ex (S : Nat → Prop) (W w : World) : Prop where
  os : w.os = W.os
  tape : w.tape = W.tape
  output : w.output = W.output
  size : W.heap.size ≤ w.heap.size
  block : ∀ k, k < W.heap.size → ¬ S k → w.heap[k]? = W.heap[k]?
theorem Ex.refl (S : Nat → Prop) (W : World) : Ex S W W := ⟨rfl, rfl, rfl, Nat.le_refl _, fun _ _ _ => rfl⟩
theorem Ex.trans {S S' : Nat → Prop} {a b c : World} (h : Ex S a b) (k : Ex S' b c) (hs : ∀ i, i < a.heap.size → S' i → S i) : Ex S a c :=
  ⟨k.os.trans h.os, k.tape.trans h.tape, k.output.trans h.output, Nat.le_trans h.size k.size, fun i hi hn => (k.block i (Nat.lt_of_lt_of_le hi h.size) (fun h' => hn (hs i hi h'))).trans (h.block i hi hn)⟩
theorem Ex.mono {S S' : Nat → Prop} {W w : World} (h : Ex S W w) (hs : ∀ k, S k → S' k) : Ex S' W w := ⟨h.os, h.tape, h.output, h.size, fun k hk hn => h.block k hk fun h' => hn (hs k h')⟩
theorem Ex.of_on {S : Nat → Prop} {W w : World} (h : On W w) : Ex S W w := ⟨h.os, h.tape, h.output, h.size, fun k hk _ => h.block k hk⟩
theorem Ex.of_grown {W w : World} {row : Option Nat} (h : W.grownBy w row) : Ex (fun k => some k = row) W w := ⟨h.os, h.tape, h.output, h.size, fun k hk hn => h.block k hk hn⟩
theorem Ex.on {S : Nat → Prop} {w0 W w : World} (h : On w0 W) (k : Ex S W w) (hs : ∀ i, S i → w0.heap.size ≤ i) : On w0 w :=
  ⟨k.os.trans h.os, k.tape.trans h.tape, k.output.trans h.output, Nat.le_trans h.size k.size, fun i hi => (k.block i (Nat.lt_of_lt_of_le hi h.size) fun h' => by have := hs i h'; omega).trans (h.block i hi)⟩
theorem Ex.to_on {S : Nat → Prop} {W w : World} (k : Ex S W w) (hs : ∀ i, S i → W.heap.size ≤ i) : On W w := Ex.on (On.refl W) k hs
theorem Ex.then_on {S : Nat → Prop} {a b c : World} (h : Ex S a b) (k : On b c) : Ex S a c := h.trans (Ex.of_on (S := fun _ => False) k) fun _ _ h => h.elim

theorem Ex.set (W : World) (p : Addr) (u : Value) : Ex (fun k => k = p.block) W (W.setCell p u) := ⟨rfl, rfl, rfl, by simp [World.setCell], fun k _ hn => Below.heap_setCell W p u k hn⟩
/-! Own rows. -/
theorem own_ex {S : Nat → Prop} {W w : World} {lo e sz n : Nat} {v : Value} {cs : List Value} (h : W.ownsRow lo e sz v n cs) (k : Ex S W w) (hs : ∀ i, v.ownBlock = some i → ¬ S i) : w.ownsRow lo e sz v n cs :=
  own_move h fun i hi => k.block i (own_lt h i hi) (hs i hi)
theorem own_rd {α : Type} {R : α → List Value → Prop} {w : World} {base n size : Nat} {e : TypeId} {v : Value} {ps : List α} {cs : List Value} (h : w.ownsRow base e size v n cs) (hR : Reps R size ps cs) (hn : ps.length = n) :
    ∃ A c, v = .slice A n c ∧ n ≤ c ∧ ReadsRow R size w A n ps := by
  obtain ⟨A, c, rfl, hr⟩ := own_reads_row h hR hn
  refine ⟨A, c, rfl, ?_, hr⟩
  rcases h.2 with ⟨h1, h2⟩ | ⟨g, cap, cur, h1, _, _, h3, _⟩
  · injection h1 with h1 h3 h4; omega
  · injection h1 with h1 h5 h4; omega
theorem own_lower {w : World} {lo lo' e sz n : Nat} {v : Value} {cs : List Value} (h : w.ownsRow lo e sz v n cs) (hl : lo' ≤ lo) : w.ownsRow lo' e sz v n cs := by
  refine ⟨h.1, ?_⟩
  rcases h.2 with h2 | ⟨g, cap, cur, h1, h2, h3⟩
  · exact .inl h2
  · exact .inr ⟨g, cap, cur, h1, Nat.le_trans hl h2, h3⟩
theorem reps_flat {α : Type} {R : α → List Value → Prop} {enc : α → List Value} {sz : Nat} (hl : ∀ x, (enc x).length = sz) : ∀ (xs : List α), (∀ x ∈ xs, R x (enc x)) → Reps R sz xs (xs.flatMap enc)
  | [], _ => Reps.none _ _
  | x :: xs, h => by
    obtain ⟨h1, h2⟩ := reps_flat hl xs (fun y hy => h y (List.mem_cons_of_mem _ hy))
    have e : (x :: xs).flatMap enc = enc x ++ xs.flatMap enc := rfl
    refine ⟨by rw [e, List.length_append, hl, h1, List.length_cons, Nat.add_mul, Nat.one_mul, Nat.add_comm], fun j p hj => ?_⟩
    rw [e]
    cases j with
    | zero =>
      simp at hj; subst hj
      rw [Nat.zero_mul, List.drop_zero, List.take_append_of_le_length (by rw [hl]; exact Nat.le_refl _), ← hl x, List.take_length]
      exact h x List.mem_cons_self
    | succ j =>
      have : (j + 1) * sz = (enc x).length + j * sz := by rw [hl, Nat.add_mul, Nat.one_mul, Nat.add_comm]
      rw [this, List.drop_append]
      have e2 : (enc x).drop ((enc x).length + j * sz) = [] := List.drop_of_length_le (by omega)
      rw [e2, List.nil_append, show (enc x).length + j * sz - (enc x).length = j * sz by omega]
      exact h2 j p (by simpa using hj)
abbrev encR (r : Rel) : List Value := [.string r.1, .int .i64 r.2.1, .bool r.2.2]
abbrev Hdr := Int × Option Addr × Nat × Nat
abbrev hdV (h : Hdr) : Value := .slice h.2.1 h.2.2.1 h.2.2.2
abbrev encH (h : Hdr) : List Value := [.int .i64 h.1, hdV h]
abbrev encI (x : Int) : List Value := [.int .i64 x]
abbrev OI (w : World) (lo : Nat) (v : Value) (xs : List Int) : Prop := w.ownsRow lo 3 1 v xs.length (xs.flatMap encI)
abbrev OR (w : World) (lo : Nat) (v : Value) (rs : List Rel) : Prop := w.ownsRow lo 42 3 v rs.length (rs.flatMap encR)
abbrev OH (w : World) (lo : Nat) (v : Value) (hs : List Hdr) : Prop := w.ownsRow lo 32 2 v hs.length (hs.flatMap encH)
theorem encs_flat (xs : List Int) : encs (Value.int .i64) xs = xs.flatMap encI := by
  induction xs with
  | nil => rfl
  | cons x xs ih => simp [encs] at ih ⊢; exact ih
theorem OI.of {w : World} {lo : Nat} {v : Value} {xs : List Int} (h : OInts w lo v xs) : OI w lo v xs := by
  have := Kd.own_of_R h
  rwa [encs_flat] at this
theorem OI.to {w : World} {lo : Nat} {v : Value} {xs : List Int} (h : OI w lo v xs) : OInts w lo v xs := by
  refine Kd.R_of_own ?_ (fun _ _ => trivial)
  rw [encs_flat]; exact h
theorem OI.rd {w : World} {lo : Nat} {v : Value} {xs : List Int} (h : OI w lo v xs) (hr : InR xs) : ∃ A c, v = .slice A xs.length c ∧ Ints w A c xs := OInts.slice (OI.to h) hr
theorem OR.rd {w : World} {lo : Nat} {v : Value} {rs : List Rel} (h : OR w lo v rs) : ∃ A c, v = .slice A rs.length c ∧ Rels w A c rs := by
  have hrep : Reps (kRel.K w) 3 rs (rs.flatMap encR) := reps_flat (R := kRel.K w) (enc := encR) (sz := 3) (fun _ => rfl) rs fun r _ => ⟨[.string r.1], [.int .i64 r.2.1, .bool r.2.2], rfl, rfl, [.int .i64 r.2.1], [.bool r.2.2], rfl, rfl, rfl⟩
  obtain ⟨A, c, rfl, hc, hr⟩ := own_rd h hrep rfl
  exact ⟨A, c, rfl, hc, hr⟩
/-- Headers that read as facts. -/
structure Reads (w : World) (hs : List Hdr) (fs : List Fct) : Prop where
  len : hs.length = fs.length
  at_ : ∀ (i : Nat) (h : Hdr) (f : Fct), hs[i]? = some h → fs[i]? = some f → h.1 = f.1 ∧ h.2.2.1 = f.2.length ∧ Ints w h.2.1 h.2.2.2 f.2
theorem Reads.on {W w : World} {hs : List Hdr} {fs : List Fct} (h : Reads W hs fs) (hb : On W w) : Reads w hs fs := ⟨h.len, fun i a f ha hf => ⟨(h.at_ i a f ha hf).1, (h.at_ i a f ha hf).2.1, (h.at_ i a f ha hf).2.2.on hb⟩⟩
theorem Reads.nil (w : World) : Reads w [] [] := ⟨rfl, fun i h f hh _ => by simp at hh⟩
theorem Reads.inF {w : World} {hs : List Hdr} {fs : List Fct} (h : Reads w hs fs) : InF fs := fun f hf => by
  obtain ⟨i, hi, rfl⟩ := List.getElem_of_mem hf
  exact (h.at_ i (hs[i]'(by rw [h.len]; exact hi)) fs[i] (List.getElem?_eq_getElem _) (List.getElem?_eq_getElem _)).2.2.2.2
theorem OH.rd {w : World} {lo : Nat} {v : Value} {hs : List Hdr} {fs : List Fct} (h : OH w lo v hs) (hr : Reads w hs fs) : ∃ A c, v = .slice A fs.length c ∧ Fcts w A c fs := by
  have hrep : Reps (kFct.K w) 2 fs (hs.flatMap encH) := by
    obtain ⟨h1, h2⟩ := reps_flat (R := fun (a : Hdr) cs => cs = encH a) (enc := encH) (sz := 2) (fun _ => rfl) hs fun _ _ => rfl
    refine ⟨by rw [h1, hr.len], fun j f hj => ?_⟩
    have hjl : j < hs.length := by rw [hr.len]; exact (List.getElem?_eq_some_iff.1 hj).1
    rw [h2 j hs[j] (List.getElem?_eq_getElem hjl)]
    obtain ⟨e1, e2, e3⟩ := hr.at_ j hs[j] f (List.getElem?_eq_getElem hjl) hj
    refine ⟨[.int .i64 hs[j].1], [hdV hs[j]], rfl, by rw [e1]; rfl, hs[j].2.1, hs[j].2.2.2, by rw [← e2], e3.1, e3.2.1⟩
  obtain ⟨A, c, rfl, hc, hr'⟩ := own_rd h hrep hr.len.symm
  rw [hr.len] at hc hr' ⊢
  exact ⟨A, c, rfl, hc, hr', hr.inF⟩
/-- Facts whose rows are the call's own and lie apart. -/
structure Sep (w : World) (lo : Nat) (hs : List Hdr) (fs : List Fct) : Prop where
  len : hs.length = fs.length
  at_ : ∀ (i : Nat) (h : Hdr) (f : Fct), hs[i]? = some h → fs[i]? = some f → h.1 = f.1 ∧ OI w lo (hdV h) f.2 ∧ InR f.2
  apart : ∀ (i j : Nat) (a b : Hdr) (k : Nat), hs[i]? = some a → hs[j]? = some b → (hdV a).ownBlock = some k → (hdV b).ownBlock = some k → i = j
theorem Sep.nil (w : World) (lo : Nat) : Sep w lo [] [] := ⟨rfl, fun i h f hh _ => by simp at hh, fun i j a b k ha => by simp at ha⟩
theorem Sep.ex {S : Nat → Prop} {W w : World} {lo : Nat} {hs : List Hdr} {fs : List Fct} (h : Sep W lo hs fs) (k : Ex S W w) (hS : ∀ (i : Nat) (a : Hdr) (b : Nat), hs[i]? = some a → (hdV a).ownBlock = some b → ¬ S b) : Sep w lo hs fs :=
  ⟨h.len, fun i a f ha hf => ⟨(h.at_ i a f ha hf).1, own_ex (h.at_ i a f ha hf).2.1 k (fun b hb => hS i a b ha hb), (h.at_ i a f ha hf).2.2⟩, h.apart⟩
theorem Sep.on {W w : World} {lo : Nat} {hs : List Hdr} {fs : List Fct} (h : Sep W lo hs fs) (hb : On W w) : Sep w lo hs fs := h.ex (Ex.of_on (S := fun _ => False) hb) (fun _ _ _ _ _ h => h)
theorem Sep.set {W : World} {lo : Nat} {hs : List Hdr} {fs : List Fct} (h : Sep W lo hs fs) {p : Addr} (hp : p.block < lo) (u : Value) : Sep (W.setCell p u) lo hs fs :=
  h.ex (Ex.set W p u) (fun i a b ha hb => fun e => by
    have hi : i < fs.length := by rw [← h.len]; exact (List.getElem?_eq_some_iff.1 ha).1
    have := own_base (h.at_ i a fs[i] ha (List.getElem?_eq_getElem hi)).2.1 b hb
    omega)
theorem Sep.lt {W : World} {lo : Nat} {hs : List Hdr} {fs : List Fct} (h : Sep W lo hs fs) {i : Nat} {a : Hdr} {b : Nat} (ha : hs[i]? = some a) (hb : (hdV a).ownBlock = some b) : lo ≤ b ∧ b < W.heap.size := by
  have hi : i < fs.length := by rw [← h.len]; exact (List.getElem?_eq_some_iff.1 ha).1
  have := (h.at_ i a fs[i] ha (List.getElem?_eq_getElem hi)).2.1
  exact ⟨own_base this b hb, own_lt this b hb⟩
/-- A made row. -/
theorem mkRow {ops : Array Oper} {rest : List Oper} {o : Oper} {a : Act} {Q : Exit → Act → World → Prop} {W : World} (N : Tmp) {t e sz bytes m : Nat} {z : Value} {x y : Operand} (ht : Tryd.prog.underlying t = some (.slice e))
    (hinfo : (Tryd.prog.info? e).map (fun i => (i.zero, i.size, i.bytes)) = some (some z, sz, bytes)) (hz : z.cells.size = sz) (hm : m * bytes ≤ 281474976710656) (hm2 : m ≤ 281474976710656)
    (h : (W.alloc (.cells (madeCells z.cells (m * sz)) e)).ownsRow W.heap.size e sz (.slice (some ⟨W.heap.size, 0, none⟩) m m) m (madeCells z.cells (m * sz)).toList → wpList Tryd.prog ops Q rest (a.put (some N) (.slice (some ⟨W.heap.size, 0, none⟩) m m)) (W.alloc (.cells (madeCells z.cells (m * sz)) e)))
    (hop : o.op = .makeSlice t x y := by rfl) (hd : o.dst = some N := by rfl) (hg : o.guard = none := by rfl) (hx : a.eval x = .int .i64 m := by rfl) (hy : a.eval y = .int .i64 m := by rfl) : wpList Tryd.prog ops Q (o :: rest) a W := by
  obtain ⟨i0, hi, hzz⟩ := Option.map_eq_some_iff.1 hinfo
  simp only [Prod.mk.injEq] at hzz
  obtain ⟨hz0, hz1, hz2⟩ := hzz
  have hr := run_make (P := Tryd.prog) W t e i0 z ht hi hz0 .i64 .i64 (m : Int) (m : Int) (by omega) (by omega)
    (by have h3 : ((i0.bytes * m : Nat) : Int) ≤ 281474976710656 := by rw [hz2, Nat.mul_comm]; omega
        rwa [Int.natCast_mul] at h3) (by omega)
  simp only [Int.toNat_natCast] at hr
  rw [hz1] at hr
  refine Kd.event_run hg (w1 := W.alloc (.cells (madeCells z.cells (m * sz)) e)) (v := .slice (some ⟨W.heap.size, 0, none⟩) m m) ?_ ?_
  · simp [execOp, hop, hx, hy, hr]
  · rw [hd]
    refine h (World.ownsRow_lit (base := W.heap.size) (e := e) (size := sz) W (madeCells z.cells (m * sz)) m (Nat.le_refl _) (by simp [maxLen]; omega) (by rw [size_madeCells]))
/-- An element stored: cells. -/
theorem set1 {A r : List Value} {z : Value} (i : Nat) (hi : A.length = i) (u : Value) : (A ++ z :: r).set i u = A ++ u :: r := by subst hi; simp
theorem set2 {A r : List Value} {z z' : Value} (i : Nat) (hi : A.length = i) (u u' : Value) : ((A ++ z :: z' :: r).set i u).set (i + 1) u' = A ++ u :: u' :: r := by
  subst hi; rw [set1 _ rfl, show A ++ u :: z' :: r = (A ++ [u]) ++ z' :: r by simp, set1 _ (by simp)]; simp
theorem set3 {A r : List Value} {z z' z'' : Value} (i : Nat) (hi : A.length = i) (u u' u'' : Value) : (((A ++ z :: z' :: z'' :: r).set i u).set (i + 1) u').set (i + 2) u'' = A ++ u :: u' :: u'' :: r := by
  rw [set2 i hi, show A ++ u :: u' :: z'' :: r = (A ++ [u, u']) ++ z'' :: r by simp, set1 _ (by simp; omega)]; simp
theorem split3 {cs : List Value} {i : Nat} (h : i + 3 ≤ cs.length) : ∃ z z' z'', cs = cs.take i ++ z :: z' :: z'' :: cs.drop (i + 3) := by
  refine ⟨cs[i], cs[i + 1], cs[i + 2], ?_⟩
  have e1 := List.drop_eq_getElem_cons (l := cs) (i := i) (by omega)
  have e2 := List.drop_eq_getElem_cons (l := cs) (i := i + 1) (by omega)
  have e3 := List.drop_eq_getElem_cons (l := cs) (i := i + 2) (by omega)
  rw [show i + 1 + 1 = i + 2 from rfl] at e2
  rw [show i + 2 + 1 = i + 3 from rfl] at e3
  rw [← e3, ← e2, ← e1, List.take_append_drop]
theorem flat_len {α : Type} {enc : α → List Value} {sz : Nat} (hl : ∀ x, (enc x).length = sz) (xs : List α) : (xs.flatMap enc).length = xs.length * sz := by
  induction xs with
  | nil => simp
  | cons x xs ih => rw [List.flatMap_cons, List.length_append, hl, ih, List.length_cons, Nat.add_mul, Nat.one_mul, Nat.add_comm]
theorem flat_take_succ {α : Type} {enc : α → List Value} (xs : List α) (k : Nat) (h : k < xs.length) : (xs.take (k + 1)).flatMap enc = (xs.take k).flatMap enc ++ enc xs[k] := by
  rw [List.take_succ_eq_append_getElem h, List.flatMap_append]; simp
theorem own_frozen {w : World} {lo e sz n g c : Nat} {cs : List Value} (h : w.ownsRow lo e sz (.slice (some ⟨g, 0, none⟩) n c) n cs) (j : Nat) : w.frozen? ⟨g, j, none⟩ = false := by
  rcases h.2 with ⟨h', _⟩ | ⟨g', cap', cur, h', _, hh, _⟩
  · cases h'
  · have : g = g' := by injection h' with h'; injection h' with h'; injection h' with h'
    subst this
    simp [World.frozen?, hh]
theorem own_some {w : World} {lo e sz n g c : Nat} {cs : List Value} (h : w.ownsRow lo e sz (.slice (some ⟨g, 0, none⟩) n c) n cs) (j : Nat) (hj : j < n * sz) : ∃ z, w.cell? ⟨g, j, none⟩ = some z := by
  rw [h.cellAt j hj, List.getElem?_eq_getElem (by rw [h.1]; exact hj)]; exact ⟨_, rfl⟩
/-! Results that lie in a box. -/
section
variable {fn : Func} {p : Tmp} {tmps : Array Value} {w : World} {g : Nat} {t : TypeId} {cs : Array Value} {fr : Nat × Nat}
theorem retR (h : fn.results = #[.cell p 42]) (hp : tmps.getD p undef = .pointer (some ⟨g, 0, none⟩)) (hg : w.heap[g]? = some (.cells cs t fr)) (hs : cs.size = 3) : (results fn tmps).run Tryd.prog w = .ok (.agg cs) w :=
  results_cell_row h tmps w g t cs fr _ hp hg Tryd.underlying42 rfl (by rw [hs]; kernel_rfl)
end
end Go.Proofs.YtgemaohdlibboaaDoor.H
/- Walks: numbers and values, written and read, on both sides. No condition. -/
namespace Go.Proofs.YtgemaohdlibboaaDoor.H
open Go Go.RowKit Go.Proofs.YtgemaohdlibboaaDoorW.PrintWords Go.Proofs.YtgemaohdlibboaaDoorW.PrintLast
open Go.Proofs.YtgemaohdlibboaaDoor.Reg (On on_draw)
set_option maxHeartbeats 4000000
set_option maxRecDepth 100000
set_option linter.unusedVariables false
set_option linter.unusedSimpArgs false

theorem iFormatInt_calls (w : World) (x : Int) (h0 : 0 ≤ x) (h1 : x < 100) : Calls Tryd.prog 42 #[.int .i64 x] w fun e w' => e = .returned (.string (strB (Lib.itoa x))) ∧ On w w' := by
  obtain ⟨n, rfl⟩ := Int.eq_ofNat_of_zero_le h0
  have e : strB (Lib.itoa (n : Int)) = ⟨(Lib.decDigits n).toArray⟩ := by unfold strB Lib.itoa; rw [if_neg (by omega)]; simp
  rw [e]
  go_enter Tryd.func42, Tryd.ntmps42
  go_wp2_with (go_at_call 58; refine (Tryd.strconv_Itoa_small n (by omega) _).mono ?_; rintro e w1 ⟨rfl, rfl⟩)
  go_ret
  exact ⟨rfl, On.refl _⟩
theorem digits_step (u : Nat) (h : 10 ≤ u) : Lib.decDigits u = Lib.decDigits (u / 10) ++ [UInt8.ofNat (48 + u % 10)] := by rw [Lib.decDigits, dif_neg (by omega)]
theorem digits_one (u : Nat) (h : u < 10) : Lib.decDigits u = [UInt8.ofNat (48 + u)] := by rw [Lib.decDigits, dif_pos h]
theorem str_one (d : Nat) : strOfNums [((48 + d : Nat) : Int) % 256] = strB [UInt8.ofNat (48 + d)] := by
  have e1 : (((48 + d : Nat) : Int) % 256).toNat = (48 + d) % 256 := by omega
  have e2 : UInt8.ofNat ((48 + d) % 256) = UInt8.ofNat (48 + d) := by apply UInt8.toNat_inj.1; simp
  unfold strOfNums strB
  simp only [List.map_cons, List.map_nil, e1, e2]
theorem sFormatInt_calls (w : World) (x : Int) (h0 : 0 ≤ x) (h1 : x < 100) : Calls Tryd.prog 38 #[.int .i64 x] w fun e w' => e = .returned (.string (strB (Lib.itoa x))) ∧ On w w' := by
  obtain ⟨u, rfl⟩ := Int.eq_ofNat_of_zero_le h0
  by_cases c : u = 0
  · subst c
    go_enter Tryd.func38, Tryd.ntmps38
    go_wp2
    go_ret
    exact ⟨by rw [itoa_small (by omega) (by omega)]; rfl, On.refl _⟩
  · have b0 : ((u : Int) == 0) = false := beq_eq_false_iff_ne.mpr (by omega)
    have b1 : ((u : Int) != 0) = true := bne_iff_ne.mpr (by omega)
    have bn : decide ((u : Int) < 0) = false := decide_eq_false (by omega)
    have hit := Aside0.mk (show Lib.itoa (u : Int) = Lib.decDigits u by unfold Lib.itoa; rw [if_neg (by omega)]; simp)
    have hu := Aside0.mk (show u < 100 by omega)
    have hc := Aside0.mk c
    clear h0 h1 c
    go_enter Tryd.func38, Tryd.ntmps38
    go_wp2
    clear b0 b1
    go_loopw [0, 3] (fun v0 v3 wr => ∃ (n : Nat) (o : List UInt8), v0 = .int .i64 n ∧ v3 = .string (strB o) ∧ n < 100 ∧ o.length ≤ 2 ∧ Aside0 ((n = u ∧ o = []) ∨ (10 ≤ u ∧ n = u / 10 ∧ o = [UInt8.ofNat (48 + u % 10)]) ∨ (n = 0 ∧ o = Lib.decDigits u)) ∧ On w wr) (fun v0 _ _ => (intOf v0).toNat)
    case atStart => exact ⟨u, [], rfl, rfl, hu.out, by simp, ⟨.inl ⟨rfl, rfl⟩⟩, On.refl _⟩
    case round =>
      obtain ⟨n, o, rfl, rfl, hn, ho, hd, hB⟩ := hrel
      have hB' := Aside0.mk hB
      have hd' := Aside0.mk hd.out
      have hn' := Aside0.mk hn
      have ho' := Aside0.mk ho
      clear hd hB hn ho
      by_cases c : n = 0
      · subst c
        go_wp2
        go_ret
        refine ⟨by rw [hit.out]; rcases hd'.out with ⟨h, _⟩ | ⟨h, h2, _⟩ | ⟨_, h⟩; (have := hc.out; omega); omega; (rw [h]; rfl), hB'.out⟩
      · have c0 : ((n : Int) == 0) = false := beq_eq_false_iff_ne.mpr (by omega)
        have c1 : ((n : Int) != 0) = true := bne_iff_ne.mpr (by omega)
        have c2 : ((n : Int) = 0) = False := eq_false (by omega)
        have hm : Int.tmod (n : Int) 10 = ((n % 10 : Nat) : Int) := rfl
        have hq : wrap64 ((n : Int) / 10) = ((n / 10 : Nat) : Int) := by rw [IntWalk.wrap64_in _ (by have := hn'.out; omega)]; omega
        have hs : decide (((n % 10 : Nat) : Int) < 0) = false := decide_eq_false (by omega)
        have hcc := Aside0.mk c
        have hw1 : wrap64 (48 + ((n % 10 : Nat) : Int)) = ((48 + n % 10 : Nat) : Int) := by rw [IntWalk.wrap64_in _ (by omega)]; omega
        have h1 := str_one (n % 10)
        obtain ⟨dg, hdg⟩ : ∃ dg, UInt8.ofNat (48 + n % 10) = dg := ⟨_, rfl⟩
        rw [hdg] at h1
        have hdg' := Aside0.mk hdg
        have hsz : decide ((strB [dg]).size + (strB o).size ≤ 9223372036854775807) = true := decide_eq_true (by rw [strB_size, strB_size]; have := ho'.out; simp; omega)
        have hsy := eq_true (of_decide_eq_true hsz)
        have hsn : (9223372036854775807 < (strB [dg]).size + (strB o).size) = False := eq_false (Nat.not_lt.2 (of_decide_eq_true hsz))
        clear c hdg
        have hcv : (convert 64 9 (.slice (some ⟨wr.heap.size, 0, none⟩) 1 1)).run Tryd.prog (wr.alloc (.cells #[.int .u8 (48 + (n : Int) % 10)] 5 (0, 0))) = .ok (.string (strB [dg])) (wr.alloc (.cells #[.int .u8 (48 + (n : Int) % 10)] 5 (0, 0))) := by
          have h := own_string (P := Tryd.prog) (xs := [48 + (n : Int) % 10]) Tryd.underlying64 Tryd.underlying5 Tryd.underlying9 (World.ownsRow_lit (base := wr.heap.size) (e := 5) (size := 1) wr #[.int .u8 (48 + (n : Int) % 10)] 1 (Nat.le_refl _) (by simp [maxLen]) (by simp))
          rw [h, ← h1, show ((48 + n % 10 : Nat) : Int) % 256 = 48 + (n : Int) % 10 by omega]
        have hB9 := Aside0.mk (hB'.out.trans (On.alloc (On.refl _) (.cells #[.int .u8 (48 + (n : Int) % 10)] 5 (0, 0))))
        clear h1
        go_wp2
        have hn1 := hn'.out
        have ho1 := ho'.out
        have hd2 := hdg'.out
        refine ⟨⟨n / 10, dg :: o, by rw [hq], by rw [strB_append]; rfl, by omega, ?_, ⟨?_⟩, hB9.out⟩, by rw [hq]; simp [intOf]; have := hcc.out; omega⟩
        · rcases hd'.out with ⟨h, h2⟩ | ⟨h, h2, h3⟩ | ⟨h, h2⟩
          · rw [h2]; simp
          · rw [h3]; simp
          · exact absurd h hcc.out
        · rcases hd'.out with ⟨h, h2⟩ | ⟨h, h2, h3⟩ | ⟨h, h2⟩
          · subst h2
            by_cases d : u < 10
            · refine .inr (.inr ⟨by omega, ?_⟩)
              rw [digits_one u d, ← hd2, h, Nat.mod_eq_of_lt d]
            · exact .inr (.inl ⟨by omega, by rw [h], by rw [← hd2, h]⟩)
          · refine .inr (.inr ⟨by have := hu.out; omega, ?_⟩)
            rw [h3, digits_step u h, digits_one (u / 10) (by have := hu.out; omega), ← hd2, h2, Nat.mod_eq_of_lt (by have := hu.out; omega)]; rfl
          · exact absurd h hcc.out
theorem fvL_nul {v : Int} (h : isNul v = true) : fvL v = 110 :: Lib.itoa (-1 - v) := by unfold fvL; rw [if_pos h]
theorem fvL_pos {v : Int} (h : isNul v = false) (h1 : 0 ≤ v ∧ v ≤ 9) : fvL v = Lib.itoa v := by unfold fvL; rw [h, if_neg (by simp), if_pos h1]
theorem fvL_not {v : Int} (h : okVal v = false) : fvL v = [] := by
  simp only [okVal, decide_eq_false_iff_not] at h
  unfold fvL
  rw [if_neg (by simp only [isNul, decide_eq_true_eq]; omega), if_neg (by omega)]
theorem cat_n (l : List UInt8) : (⟨#[110]⟩ : ByteArray) ++ strB l = strB (110 :: l) := by rw [show (⟨#[110]⟩ : ByteArray) = strB [110] from rfl, strB_append]; rfl
theorem iIsNull_calls (w : World) (v : Int) : Calls Tryd.prog 68 #[.int .i64 v] w fun e w' => e = .returned (.bool (decide (v < 0))) ∧ On w w' := by
  go_enter Tryd.func68, Tryd.ntmps68
  go_wp2
  go_ret
  exact ⟨rfl, On.refl _⟩
theorem iFormatValue_calls (w : World) (v : Int) (hv : -9223372036854775808 ≤ v ∧ v ≤ 9223372036854775807) : Calls Tryd.prog 50 #[.int .i64 v] w fun e w' => e = .returned (.string (strB (fvL v))) ∧ On w w' := by
  cases ho : okVal v with
  | false =>
    have ho' := Aside0.mk ho
    clear ho
    go_enter Tryd.func50, Tryd.ntmps50
    go_wp2_with (go_at_call 67; refine (iIsValidValue_calls _ _).mono ?_; rintro e w1 ⟨rfl, hb1⟩; rw [ho'.out])
    go_ret
    exact ⟨by rw [fvL_not ho'.out]; rfl, hb1⟩
  | true =>
    have ho' := Aside0.mk ho
    have hbd : -40 ≤ v ∧ v ≤ 9 := by simpa [okVal] using ho
    clear ho
    by_cases c : v < 0
    · have cb : decide (v < 0) = true := decide_eq_true c
      have hn := Aside0.mk (show isNul v = true by simp [isNul]; omega)
      have hbd' := Aside0.mk hbd
      have hwr : IntKind.i64.wrap (-1 - v) = -1 - v := IntWalk.i64_in _ (by omega)
      have hl := (itoa_bytes (u := -1 - v) (by omega) (by omega)).2.2
      have hsz := eq_true (show 1 + (strB (Lib.itoa (-1 - v))).size ≤ 9223372036854775807 by rw [strB_size]; omega)
      have hsn : (9223372036854775807 < 1 + (strB (Lib.itoa (-1 - v))).size) = False := eq_false (by rw [strB_size]; omega)
      have hc' := Aside0.mk c
      clear hbd c hl
      go_enter Tryd.func50, Tryd.ntmps50
      go_wp2_with (first | (go_at_call 67; refine (iIsValidValue_calls _ _).mono ?_; rintro e w1 ⟨rfl, hb1⟩; rw [ho'.out]) | (go_at_call 68; refine (iIsNull_calls _ _).mono ?_; rintro e w2 ⟨rfl, hb2⟩; rw [cb]) | (go_at_call 42; refine (iFormatInt_calls _ (-1 - v) (by have := hbd'.out; have := hc'.out; omega) (by have := hbd'.out; omega)).mono ?_; rintro e w3 ⟨rfl, hb3⟩))
      go_ret
      exact ⟨by rw [fvL_nul hn.out, ← cat_n]; rfl, (hb1.trans hb2).trans hb3⟩
    · have cb : decide (v < 0) = false := decide_eq_false c
      have hn := Aside0.mk (show isNul v = false by simp [isNul]; omega)
      have hbd' := Aside0.mk hbd
      have hc' := Aside0.mk c
      clear hbd c
      go_enter Tryd.func50, Tryd.ntmps50
      go_wp2_with (first | (go_at_call 67; refine (iIsValidValue_calls _ _).mono ?_; rintro e w1 ⟨rfl, hb1⟩; rw [ho'.out]) | (go_at_call 68; refine (iIsNull_calls _ _).mono ?_; rintro e w2 ⟨rfl, hb2⟩; rw [cb]) | (go_at_call 42; refine (iFormatInt_calls _ v (by have := hc'.out; omega) (by have := hbd'.out; omega)).mono ?_; rintro e w3 ⟨rfl, hb3⟩))
      go_ret
      exact ⟨by rw [fvL_pos hn.out (by have := hbd'.out; have := hc'.out; omega)]; rfl, (hb1.trans hb2).trans hb3⟩
theorem sFormatValue_calls (w : World) (v : Int) (hv : -9223372036854775808 ≤ v ∧ v ≤ 9223372036854775807) : Calls Tryd.prog 44 #[.int .i64 v] w fun e w' => e = .returned (.string (strB (fvL v))) ∧ On w w' := by
  cases ho : isNul v with
  | true =>
    have ho' := Aside0.mk ho
    have hbd := Aside0.mk (show -40 ≤ v ∧ v ≤ -1 by simpa [isNul] using ho)
    have hnn := Aside0.mk (show nulNum v = -1 - v by unfold nulNum; rw [if_pos ho])
    have hl := (itoa_bytes (u := -1 - v) (by have := hbd.out; omega) (by have := hbd.out; omega)).2.2
    have hsz := eq_true (show 1 + (strB (Lib.itoa (-1 - v))).size ≤ 9223372036854775807 by rw [strB_size]; omega)
    have hsn : (9223372036854775807 < 1 + (strB (Lib.itoa (-1 - v))).size) = False := eq_false (by rw [strB_size]; omega)
    have hv' := Aside0.mk hv
    clear ho hl hv
    go_enter Tryd.func44, Tryd.ntmps44
    go_wp2_with (first | (go_at_call 62; refine (NullNumber_calls _ _ hv'.out.1).mono ?_; rintro e w1 ⟨rfl, hb1⟩; rw [ho'.out, hnn.out]) | (go_at_call 38; refine (sFormatInt_calls _ (-1 - v) (by have := hbd.out; omega) (by have := hbd.out; omega)).mono ?_; rintro e w3 ⟨rfl, hb3⟩))
    go_ret
    exact ⟨by rw [fvL_nul ho'.out, ← cat_n]; rfl, hb1.trans hb3⟩
  | false =>
    have ho' := Aside0.mk ho
    have hv' := Aside0.mk hv
    have hnn := Aside0.mk (show nulNum v = 0 by unfold nulNum; rw [if_neg (by simp [ho])])
    clear ho hv
    by_cases c : 0 ≤ v ∧ v ≤ 9
    · have hc' := Aside0.mk c
      have hw := Aside0.mk (show within v 0 9 = true from decide_eq_true c)
      clear c
      go_enter Tryd.func44, Tryd.ntmps44
      go_wp2_with (first | (go_at_call 62; refine (NullNumber_calls _ _ hv'.out.1).mono ?_; rintro e w1 ⟨rfl, hb1⟩; rw [ho'.out, hnn.out]) | (go_at_call 63; refine (l1In_calls _ _ _ _).mono ?_; rintro e w2 ⟨rfl, hb2⟩; rw [hw.out]) | (go_at_call 38; refine (sFormatInt_calls _ v (by have := hc'.out; omega) (by have := hc'.out; omega)).mono ?_; rintro e w3 ⟨rfl, hb3⟩))
      go_ret
      exact ⟨by rw [fvL_pos ho'.out hc'.out]; rfl, (hb1.trans hb2).trans hb3⟩
    · have hc' := Aside0.mk c
      have hw := Aside0.mk (show within v 0 9 = false from decide_eq_false c)
      clear c
      go_enter Tryd.func44, Tryd.ntmps44
      go_wp2_with (first | (go_at_call 62; refine (NullNumber_calls _ _ hv'.out.1).mono ?_; rintro e w1 ⟨rfl, hb1⟩; rw [ho'.out, hnn.out]) | (go_at_call 63; refine (l1In_calls _ _ _ _).mono ?_; rintro e w2 ⟨rfl, hb2⟩; rw [hw.out]))
      go_ret
      exact ⟨by rw [fvL_not (by simp only [okVal, decide_eq_false_iff_not]; have h1 := ho'.out; simp only [isNul, decide_eq_false_iff_not] at h1; have := hc'.out; omega)]; rfl, hb1.trans hb2⟩
theorem pvF_step (s : List UInt8) (k : Nat) (hk : k < 50) : pvF s (-40 + (k : Int)) (50 - k) = if fvL (-40 + (k : Int)) = s then (-40 + (k : Int), true) else pvF s (-40 + ((k + 1 : Nat) : Int)) (50 - (k + 1)) := by
  obtain ⟨d, hd⟩ : ∃ d, 50 - k = d + 1 := ⟨50 - k - 1, by omega⟩
  rw [hd, show 50 - (k + 1) = d by omega, show (-40 : Int) + ((k + 1 : Nat) : Int) = -40 + (k : Int) + 1 by omega]; rfl
theorem str_beq (a b : List UInt8) : ((strB a).toList == (strB b).toList) = decide (a = b) := by
  rw [ByteArray.toList_eq, ByteArray.toList_eq, strB_data, strB_data, Bool.eq_iff_iff]; simp
theorem iParseValue_calls (w : World) (s : List UInt8) : Calls Tryd.prog 32 #[.string (strB s)] w fun e w' => e = .returned (.tuple #[.int .i64 (parV s).1, .bool (parV s).2]) ∧ On w w' := by
  go_enter Tryd.func32, Tryd.ntmps32
  go_wp2
  go_loopw [4] (fun v4 wr => ∃ k : Nat, k ≤ 50 ∧ v4 = .int .i64 (-40 + (k : Int)) ∧ Aside0 (pvF s (-40 + (k : Int)) (50 - k) = parV s) ∧ On w wr) (fun v4 _ => 50 - (intOf v4 + 40).toNat)
  case atStart => exact ⟨0, by omega, rfl, ⟨rfl⟩, On.refl _⟩
  case round =>
    obtain ⟨k, hk, rfl, hp, hB⟩ := hrel
    have hB' := Aside0.mk hB
    have hk' := Aside0.mk hk
    clear hB hk
    obtain ⟨x, hx⟩ : ∃ x : Int, -40 + (k : Int) = x := ⟨_, rfl⟩
    have hx' := Aside0.mk hx
    by_cases c : x ≤ 9
    · have hst := Aside0.mk ((pvF_step s k (by omega)).symm.trans hp.out)
      have c' := Aside0.mk c
      have cb : decide (x ≤ 9) = true := decide_eq_true c
      rw [hx]
      clear c hx hp
      by_cases e : fvL x = s
      · have e' := Aside0.mk e
        have hb2 := Aside0.mk (show ((strB (fvL x)).toList == (strB s).toList) = true by rw [str_beq]; exact decide_eq_true e)
        have hb3 := hb2.out
        clear e
        go_wp2_with (go_at_call 50; refine (iFormatValue_calls _ x (by have := c'.out; have := hx'.out; omega)).mono ?_; rintro e w3 ⟨rfl, hb1⟩)
        go_ret2
        exact ⟨by rw [← hst.out, if_pos (by rw [hx'.out]; exact e'.out), hx'.out]; rfl, hB'.out.trans hb1⟩
      · have e' := Aside0.mk e
        have hb2 := Aside0.mk (show ((strB (fvL x)).toList == (strB s).toList) = false by rw [str_beq]; exact decide_eq_false e)
        have hb3 := hb2.out
        have hwx : wrap64 (x + 1) = -40 + ((k + 1 : Nat) : Int) := by rw [IntWalk.wrap64_in _ (by have := c'.out; have := hx'.out; omega)]; have := hx'.out; omega
        clear e
        go_wp2_with (go_at_call 50; refine (iFormatValue_calls _ x (by have := c'.out; have := hx'.out; omega)).mono ?_; rintro e w3 ⟨rfl, hb1⟩)
        go_roundw
        case rel => exact ⟨k + 1, by have := c'.out; have := hx'.out; omega, by rw [hwx], ⟨by have := hst.out; rwa [if_neg (by rw [hx'.out]; exact e'.out)] at this⟩, hB'.out.trans hb1⟩
        case measure => rw [hwx]; simp [intOf]; have := c'.out; have := hx'.out; omega
    · have cb : decide (x ≤ 9) = false := decide_eq_false c
      have c' := Aside0.mk c
      rw [hx]
      clear c hx
      go_wp2
      go_ret2
      exact ⟨by rw [← hp.out, show 50 - k = 0 by have := c'.out; have := hx'.out; have := hk'.out; omega]; rfl, hB'.out⟩
theorem sParseValue_calls (w : World) (s : List UInt8) : Calls Tryd.prog 26 #[.string (strB s)] w fun e w' => e = .returned (.tuple #[.int .i64 (parV s).1, .bool (parV s).2]) ∧ On w w' := by
  go_enter Tryd.func26, Tryd.ntmps26
  go_wp2
  go_loopw [4] (fun v4 wr => ∃ k : Nat, k ≤ 50 ∧ v4 = .int .i64 (-40 + (k : Int)) ∧ Aside0 (pvF s (-40 + (k : Int)) (50 - k) = parV s) ∧ On w wr) (fun v4 _ => 50 - (intOf v4 + 40).toNat)
  case atStart => exact ⟨0, by omega, rfl, ⟨rfl⟩, On.refl _⟩
  case round =>
    obtain ⟨k, hk, rfl, hp, hB⟩ := hrel
    have hB' := Aside0.mk hB
    have hk' := Aside0.mk hk
    clear hB hk
    obtain ⟨x, hx⟩ : ∃ x : Int, -40 + (k : Int) = x := ⟨_, rfl⟩
    have hx' := Aside0.mk hx
    by_cases c : x ≤ 9
    · have hst := Aside0.mk ((pvF_step s k (by omega)).symm.trans hp.out)
      have c' := Aside0.mk c
      have cb : decide (x ≤ 9) = true := decide_eq_true c
      rw [hx]
      clear c hx hp
      by_cases e : fvL x = s
      · have e' := Aside0.mk e
        have hb2 := Aside0.mk (show ((strB (fvL x)).toList == (strB s).toList) = true by rw [str_beq]; exact decide_eq_true e)
        have hb3 := hb2.out
        clear e
        go_wp2_with (go_at_call 44; refine (sFormatValue_calls _ x (by have := c'.out; have := hx'.out; omega)).mono ?_; rintro e w3 ⟨rfl, hb1⟩)
        go_ret2
        exact ⟨by rw [← hst.out, if_pos (by rw [hx'.out]; exact e'.out), hx'.out]; rfl, hB'.out.trans hb1⟩
      · have e' := Aside0.mk e
        have hb2 := Aside0.mk (show ((strB (fvL x)).toList == (strB s).toList) = false by rw [str_beq]; exact decide_eq_false e)
        have hb3 := hb2.out
        have hwx : wrap64 (x + 1) = -40 + ((k + 1 : Nat) : Int) := by rw [IntWalk.wrap64_in _ (by have := c'.out; have := hx'.out; omega)]; have := hx'.out; omega
        clear e
        go_wp2_with (go_at_call 44; refine (sFormatValue_calls _ x (by have := c'.out; have := hx'.out; omega)).mono ?_; rintro e w3 ⟨rfl, hb1⟩)
        go_roundw
        case rel => exact ⟨k + 1, by have := c'.out; have := hx'.out; omega, by rw [hwx], ⟨by have := hst.out; rwa [if_neg (by rw [hx'.out]; exact e'.out)] at this⟩, hB'.out.trans hb1⟩
        case measure => rw [hwx]; simp [intOf]; have := c'.out; have := hx'.out; omega
    · have cb : decide (x ≤ 9) = false := decide_eq_false c
      have c' := Aside0.mk c
      rw [hx]
      clear c hx
      go_wp2
      go_ret2
      exact ⟨by rw [← hp.out, show 50 - k = 0 by have := c'.out; have := hx'.out; have := hk'.out; omega]; rfl, hB'.out⟩
end Go.Proofs.YtgemaohdlibboaaDoor.H
