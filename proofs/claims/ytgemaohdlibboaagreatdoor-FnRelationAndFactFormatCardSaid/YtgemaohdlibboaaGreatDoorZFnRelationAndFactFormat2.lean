/- Walks and plain laws for the law FnRelationAndFactFormat, part 2 of 4: the texts HRegG, HD3, HS2, HG2, HG3, HG5, HF1, HC1, HF2, HF3, HF4, HG22, HRegH in one. No condition. -/
import Derived.Test.YtgemaohdlibboaaGreatDoorWEqStruct
import Derived.Lib.SplitLaws
import Derived.Lib.Join
import Derived.Lib.ItoaNum
import Derived.Lib.Strings
import Derived.Test.YtgemaohdlibboaaGreatDoorShelf
import Derived.Test.YtgemaohdlibboaaGreatDoorZFnRelationAndFactFormat1
/- The rule for regions that draw their order, where reads may come up at any time but behind the last operation k: what they read is told by a predicate G that holds until then. No condition. -/
namespace Go.Proofs.YtgemaohdlibboaaGreatDoor.Reg
open Go Go.RowKit
set_option linter.unusedVariables false
variable {P : Program} {ops : Array Oper} {Q : Exit → Act → World → Prop} {md : Region.Mode}
def wpG (P : Program) (md : Region.Mode) (ops : Array Oper) (Q : Exit → Act → World → Prop) (cl : Nat → Bool) (G : World → Prop) (k : Nat) : Nat → Array Bool → Act → (World → Prop) → Prop
  | 0, listed, a, S => (listed.getD k false = false → ∀ w, S w → G w) ∧ Region.ready md ops listed = [] ∧ ∀ w, S w → Q .normal a w
  | fuel + 1, listed, a, S => (listed.getD k false = false → ∀ w, S w → G w) ∧
    (Region.ready md ops listed = [] → ∀ w, S w → Q .normal a w) ∧
    ∀ i ∈ Region.ready md ops listed, stepT P ops Q cl (wpG P md ops Q cl G k fuel (listed.setIfInBounds i true)) i a S
theorem wpG_G {cl : Nat → Bool} {G : World → Prop} {k : Nat} {fuel : Nat} {listed : Array Bool} {a : Act} {S : World → Prop} (h : wpG P md ops Q cl G k fuel listed a S) : listed.getD k false = false → ∀ w, S w → G w := by
  cases fuel <;> exact h.1
theorem wpAny_of_wpG {cl : Nat → Bool} {G : World → Prop} {k : Nat} : ∀ (fuel : Nat) (listed : Array Bool) (a : Act) (S : World → Prop) (w : World), S w → wpG P md ops Q cl G k fuel listed a S → wpAny P md ops Q fuel listed a w
  | 0, _, _, _, _, hS, h => ⟨h.2.1, h.2.2 _ hS⟩
  | fuel + 1, _, _, _, _, hS, h => ⟨fun h0 => h.2.1 h0 _ hS, fun i hi => wpOp_of_stepT (fun a S w hS hT => wpAny_of_wpG fuel _ a S w hS hT) hS (h.2.2 i hi)⟩
theorem wpG_first {cl : Nat → Bool} {G : World → Prop} {i k : Nat} {oi ok : Oper} {v : Value} (hne : k ≠ i) (hok : ops[k]? = some ok) (hki : reach md ops k i = true) (hQ : Plain Q) (hi : ops[i]? = some oi) (hsel : ∀ (j : Nat) (o : Oper) cs b, ops[j]? = some o → o.op ≠ .select cs b) :
    ∀ (fuel : Nat) (listed : Array Bool) (a : Act) (S : World → Prop), closed md ops listed →
      (∀ j oj, ops[j]? = some oj → j ≠ i → listed.getD j true = false → reach md ops j i = false → oi.apart ops oj = true) →
      i ∈ Region.ready md ops listed → Y P ops false G oi v a →
      wpG P md ops Q cl G k fuel (listed.setIfInBounds i true) (a.put oi.dst v) S → wpG P md ops Q cl G k (fuel + 1) listed a S := by
  have hun0 : ∀ {listed : Array Bool}, closed md ops listed → i ∈ Region.ready md ops listed → listed.getD k false = false := fun {listed} hc hr => by
    have hif : listed.getD i false = false := by
      have h0 := (mem_ready.1 hr).1
      rcases Nat.lt_or_ge i listed.size with h' | h'
      · simp [h'] at h0 ⊢; exact h0
      · simp [Array.getElem?_eq_none h']
    cases hk : listed.getD k false with
    | false => rfl
    | true =>
      have := hc.reach hok (fun e he hb => hc k ok hok hk e he hb) hki
      rw [hif] at this
      cases this
  have hG0 : ∀ {listed : Array Bool} {fuel : Nat} {a : Act} {S : World → Prop}, closed md ops listed → i ∈ Region.ready md ops listed → wpG P md ops Q cl G k fuel (listed.setIfInBounds i true) a S → ∀ w, S w → G w := fun hc hr H => wpG_G H (by
    rw [getD_set_ne false (Ne.symm hne)]; exact hun0 hc hr)
  intro fuel
  induction fuel with
  | zero =>
    intro listed a S hclosed _ hr hy H
    refine ⟨fun _ => hG0 hclosed hr H, fun h => (by rw [h] at hr; cases hr), fun j hj => ?_⟩
    by_cases hji : j = i
    · subst hji; exact (hy.sub (hG0 hclosed hr H)).step hi H
    · have := ready_mono hj hji
      rw [H.2.1] at this
      cases this
  | succ fuel ih =>
    intro listed a S hclosed hfree hr hy H
    refine ⟨fun _ => hG0 hclosed hr H, fun h => (by rw [h] at hr; cases hr), fun j hj => ?_⟩
    by_cases hji : j = i
    · subst hji; exact (hy.sub (hG0 hclosed hr H)).step hi H
    · have h1 := H.2.2 j (ready_mono hj hji)
      obtain ⟨hjun, oj, hoj, hall⟩ := mem_ready.1 hj
      have hif : listed.getD i false = false := by
        have h0 := (mem_ready.1 hr).1
        rcases Nat.lt_or_ge i listed.size with h' | h'
        · simp [h'] at h0 ⊢; exact h0
        · simp [Array.getElem?_eq_none h']
      have hnot : reach md ops j i = false := by
        cases hc : reach md ops j i with
        | false => rfl
        | true =>
          have := closed.reach hclosed hoj hall hc
          rw [hif] at this
          cases this
      have h2 := stepT_putG hQ hoj (hfree j oj hoj hji hjun hnot) (fun cs b => hsel i oi cs b hi) (fun cs b => hsel j oj cs b hoj) hy h1
      have hfree' : ∀ k ok, ops[k]? = some ok → k ≠ i → (listed.setIfInBounds j true).getD k true = false →
          reach md ops k i = false → oi.apart ops ok = true := fun k ok hk hki hun hno => by
        refine hfree k ok hk hki ?_ hno
        by_cases hjk : j = k
        · subst hjk; exact hjun
        · rw [getD_set_ne true hjk] at hun; exact hun
      refine stepT_mono (fun a' S' h3 => ih (listed.setIfInBounds j true) a' S' (hclosed.set hj) hfree' (ready_mono hr (Ne.symm hji)) h3.1 ?_) h2
      rw [Array.setIfInBounds_comm _ _ hji]
      exact h3.2
/-- What stands in line behind the reads: G holds until the last. -/
def tailG (P : Program) (ops : Array Oper) (Q : Exit → Act → World → Prop) (G : World → Prop) : List Nat → Act → World → Prop
  | [], a, w => Q .normal a w
  | i :: l, a, w => match ops[i]? with
    | none => False
    | some o => wpOp P ops Q i (fun a' w' => (l ≠ [] → G w') ∧ tailG P ops Q G l a' w') a w
theorem wpG_of_tail {cl : Nat → Bool} {G : World → Prop} {k : Nat} : ∀ (l : List Nat) (listed : Array Bool) (a : Act) (S : World → Prop), k < listed.size → (l = [] → listed.getD k false = true) → (∀ h : l ≠ [], l.getLast h = k) → (∀ i ∈ l, cl i = true) → chkTail md ops l listed = true → (l ≠ [] → ∀ w, S w → G w) → (∀ w, S w → tailG P ops Q G l a w) → wpG P md ops Q cl G k l.length listed a S
  | [], listed, a, S, _, h0, _, _, hc, hG, h => ⟨fun e => (by rw [h0 rfl] at e; cases e), by simpa [chkTail] using hc, h⟩
  | i :: l, listed, a, S, hsz, _, hlast, hcl, hc, hG, h => by
    simp only [chkTail, Bool.and_eq_true, beq_iff_eq] at hc
    obtain ⟨⟨hr, hbusy⟩, hl⟩ := hc
    cases hi : ops[i]? with
    | none => simp [hi] at hbusy
    | some o =>
      rw [List.length_cons]
      refine ⟨fun _ => hG (by simp), fun h0 => (by rw [hr] at h0; cases h0), fun j hj => ?_⟩
      rw [hr] at hj
      obtain rfl := List.mem_singleton.1 hj
      have ih := fun (a : Act) (S : World → Prop) (hG : l ≠ [] → ∀ w, S w → G w) (h : ∀ w, S w → tailG P ops Q G l a w) => wpG_of_tail (cl := cl) (k := k) l (listed.setIfInBounds j true) a S (by rw [Array.size_setIfInBounds]; exact hsz)
        (fun e => by
          subst e
          have e1 : j = k := hlast (by simp)
          subst e1
          simp [Array.getD, hsz])
        (fun hne => by rw [← hlast (by simp), List.getLast_cons hne]) (fun k hk => hcl k (List.mem_cons_of_mem _ hk)) hl hG h
      have hlist : ∀ w, S w → wpOp P ops Q j (fun a' w' => (l ≠ [] → G w') ∧ tailG P ops Q G l a' w') a w := fun w hS => by
        have h1 := h w hS
        simp only [tailG, hi] at h1
        exact h1
      unfold stepT
      simp only [hi]
      split
      · exact .inr (.inr ⟨.inr (hcl j List.mem_cons_self), fun w hS => wpOp_mono (fun a' w' hh => ⟨fun w => w = w', rfl, fun h0 => (by rw [hcl j List.mem_cons_self] at h0; cases h0), ih a' _ (fun hn w e => by subst e; exact hh.1 hn) (fun w e => by subst e; exact hh.2)⟩) (hlist w hS)⟩)
      · rename_i hw
        refine ih _ _ (fun hn w hS => ?_) fun w hS => ?_
        · have h1 := hlist w hS
          unfold wpOp at h1
          simp only [hi] at h1
          rw [if_neg hw] at h1
          exact h1.1 hn
        · have h1 := hlist w hS
          unfold wpOp at h1
          simp only [hi] at h1
          rw [if_neg hw] at h1
          exact h1.2
def chkG (md : Region.Mode) (ops : Array Oper) (k : Nat) (tail : List Nat) : List Nat → Array Bool → Bool
  | [], listed => chkTail md ops tail listed
  | i :: l, listed => (Region.ready md ops listed).contains i && freeC md ops false listed i && reach md ops k i && !(k == i) && chkG md ops k tail l (listed.setIfInBounds i true)
def wpOrdG (P : Program) (ops : Array Oper) (Q : Exit → Act → World → Prop) (G : World → Prop) (tail : List Nat) (W : World) : List Nat → Act → Prop
  | [], a => tailG P ops Q G tail a W
  | i :: l, a => match ops[i]? with
    | none => False
    | some o =>
      if Region.wanted o (yielded ops a.tmps) then ∃ v, (∀ w, G w → (execOp a.eval o).run P w = .ok (.value v) w) ∧ wpOrdG P ops Q G tail W l (a.put o.dst v)
      else wpOrdG P ops Q G tail W l (a.put o.dst undef)
theorem wpG_of_ord {G : World → Prop} {W : World} {k : Nat} {ok : Oper} (hok : ops[k]? = some ok) (hs : Region.noSelect ops = true) (hQ : Plain Q) (hG : G W) (tail : List Nat) (hlast : tail.getLast? = some k) : ∀ (l : List Nat) (listed : Array Bool) (a : Act), k < listed.size → closed md ops listed → chkG md ops k tail l listed = true → wpOrdG P ops Q G tail W l a → wpG P md ops Q (fun j => tail.contains j) G k (l.length + tail.length) listed a (fun w => w = W)
  | [], listed, a, hsz, _, hc, h => by
    rw [List.length_nil, Nat.zero_add]
    exact wpG_of_tail tail listed a _ hsz (fun e => by rw [e] at hlast; cases hlast) (fun hn => by rw [List.getLast?_eq_some_getLast hn] at hlast; exact Option.some.inj hlast) (fun i hi => by simpa using hi) hc (fun _ w e => by subst e; exact hG) (fun w e => by subst e; exact h)
  | i :: l, listed, a, hsz, hclosed, hc, h => by
    simp only [chkG, Bool.and_eq_true] at hc
    obtain ⟨⟨⟨⟨hr, hf⟩, hki⟩, hne⟩, hl⟩ := hc
    have hne' : k ≠ i := by intro e; subst e; simp at hne
    simp only [wpOrdG] at h
    cases hi : ops[i]? with
    | none => simp only [hi] at h
    | some o =>
      simp only [hi] at h
      have hri : i ∈ Region.ready md ops listed := by simpa using hr
      have ih := fun a h => wpG_of_ord hok hs hQ hG tail hlast l (listed.setIfInBounds i true) a (by rw [Array.size_setIfInBounds]; exact hsz) (hclosed.set hri) hl h
      have sel := Region.noSelect_spec hs
      have hlen : ((i :: l).length + tail.length) = (l.length + tail.length) + 1 := by rw [List.length_cons]; omega
      rw [hlen]
      by_cases hw : Region.wanted o (yielded ops a.tmps) = true
      · rw [if_pos hw] at h
        obtain ⟨v, h1, h2⟩ := h
        exact wpG_first hne' hok hki hQ hi sel _ listed a _ hclosed (fun j oj hj hne hun hno => (freeC_spec hi hf j oj hj hne hun hno).1) hri (.inl ⟨hw, fun w hS => by simpa using h1 w hS⟩) (ih _ h2)
      · rw [if_neg hw] at h
        exact wpG_first hne' hok hki hQ hi sel _ listed a _ hclosed (fun j oj hj hne hun hno => (freeC_spec hi hf j oj hj hne hun hno).1) hri (.inr ⟨by simpa using hw, rfl⟩) (ih _ h)
structure OrdG (P : Program) (ops : Array Oper) (Q : Exit → Act → World → Prop) (G : World → Prop) (tail : List Nat) (W : World) (l : List Nat) (a : Act) : Prop where mk :: (out : wpOrdG P ops Q G tail W l a)
structure TailG (P : Program) (ops : Array Oper) (Q : Exit → Act → World → Prop) (G : World → Prop) (l : List Nat) (a : Act) (w : World) : Prop where mk :: (out : tailG P ops Q G l a w)
theorem regionG {id : Nat} {a : Act} {w : World} (G : World → Prop) (l tail : List Nat) (k : Nat) (hm : P.follows .mixedOrders = true) (hc : (Region.noSelect ops && (l.length + tail.length == ops.size) && decide (k < ops.size) && (tail.getLast? == some k) && chkG .any ops k tail l (Array.replicate ops.size false)) = true)
    (hG : G { w with drawn := w.drawn + 1 }) (h : OrdG P ops Q G tail { w with drawn := w.drawn + 1 } l a) (hQ : Plain Q := by exact fun c a d v w h => by cases d <;> exact h) : (Code.region id ops true).wp P Q a w := by
  simp only [Bool.and_eq_true, beq_iff_eq, decide_eq_true_eq] at hc
  obtain ⟨⟨⟨⟨h1, h2⟩, h3⟩, h4⟩, h5⟩ := hc
  refine wp_region_any hm (wpAny_of_wpG (cl := fun j => tail.contains j) (G := G) (k := k) _ _ _ (fun w' => w' = { w with drawn := w.drawn + 1 }) _ rfl ?_)
  rw [← h2]
  exact wpG_of_ord (Array.getElem?_eq_getElem h3) h1 hQ hG tail h4 l _ a (by rw [h2, Array.size_replicate]; exact h3) (closed.start _) (by rw [h2]; exact h5) h.out
section
variable {G : World → Prop} {i : Nat} {tail l : List Nat} {a a' : Act} {W : World} {o : Oper} {N : Tmp}
theorem stepG {v : Value} (hy : ∀ w, G w → (execOp a.eval o).run P w = .ok (.value v) w) (h : OrdG P ops Q G tail W l (a.put (some N) v)) (hi : ops[i]? = some o) (hN : o.dst = some N)
    (hw : Region.wanted o (yielded ops a.tmps) = true) : OrdG P ops Q G tail W (i :: l) a := by
  refine ⟨?_⟩
  simp only [wpOrdG, hi]
  rw [if_pos hw]
  exact ⟨v, hy, hN ▸ h.out⟩
theorem startG (h : TailG P ops Q G tail a W) : OrdG P ops Q G tail W [] a := ⟨h.out⟩
/-- A read, an address, whatever G tells. -/
theorem sG {v : Value} (h : OrdG P ops Q G tail W l a') (hi : ops[i]? = some o := by rfl) (hN : o.dst = some N := by rfl) (hw : Region.wanted o (yielded ops a.tmps) = true := by rfl)
    (hy : ∀ w, G w → (execOp a.eval o).run P w = .ok (.value v) w := by intro w' hS; (first | (have hA := blk_cell hS; clear hS; go_simp; first | done | rfl) | (clear hS; go_simp; first | done | rfl)))
    (ha : a.put (some N) v = a' := by simp only [Act.put, List.setIfInBounds_toArray, List.set_cons_zero, List.set_cons_succ]; rfl) : OrdG P ops Q G tail W (i :: l) a := stepG hy (ha ▸ h) hi hN hw
theorem tG {w : World} (h : wpList P ops (Exit.then (fun a' w' => G w' ∧ TailG P ops Q G l a' w') Q) [o] a w) (hi : ops[i]? = some o := by rfl) : TailG P ops Q G (i :: l) a w := by
  refine ⟨?_⟩
  simp only [tailG, hi]
  refine wpOp_mono (fun a' w' hh => ⟨fun _ => hh.1, hh.2.out⟩) (wpOp_of_one hi h)
/-- The last. -/
theorem tE {w : World} (h : wpList P ops (Exit.then (fun a' w' => Q .normal a' w') Q) [o] a w) (hi : ops[i]? = some o := by rfl) : TailG P ops Q G [i] a w := by
  refine ⟨?_⟩
  simp only [tailG, hi]
  refine wpOp_mono (fun a' w' hh => ⟨fun h => absurd rfl h, hh⟩) (wpOp_of_one hi h)
end
end Go.Proofs.YtgemaohdlibboaaGreatDoor.Reg
/- Substitutions, applied; homomorphisms. Plain. No condition. -/
namespace Go.Proofs.YtgemaohdlibboaaGreatDoor.H
open Go Go.RowKit Go.Proofs.YtgemaohdlibboaaGreatDoorW.PrintWords Go.Proofs.YtgemaohdlibboaaGreatDoorW.PrintLast
set_option linter.unusedVariables false
set_option linter.unusedSimpArgs false

end Go.Proofs.YtgemaohdlibboaaGreatDoor.H
/- Walks: substitutions of the reference. No condition. -/
namespace Go.Proofs.YtgemaohdlibboaaGreatDoor.H
open Go Go.RowKit Go.Proofs.YtgemaohdlibboaaGreatDoorW.PrintWords Go.Proofs.YtgemaohdlibboaaGreatDoorW.PrintLast
open Go.Proofs.YtgemaohdlibboaaGreatDoor.Reg (On on_draw)
set_option maxHeartbeats 4000000
set_option maxRecDepth 100000
set_option linter.unusedVariables false
set_option linter.unusedSimpArgs false

theorem sNullValue_calls (w : World) (k : Int) (h : -9223372036854775000 ≤ k ∧ k ≤ 9223372036854775000) : Calls Tryz.prog 90 #[.int .i64 k] w fun e w' => e = .returned (.int .i64 (-1 - k)) ∧ On w w' := by
  go_enter Tryz.func90, Tryz.ntmps90
  go_wp2
  go_ret
  exact ⟨rfl, On.refl _⟩
/-- Two relations are the same. -/
def sameR (r q : Rel) : Bool := decide (r = q)
theorem sameR_eq (r q : Rel) : (r.1.toList == q.1.toList && (r.2.1 == q.2.1 && (r.2.2 == q.2.2))) = sameR r q := by
  obtain ⟨a, b, c⟩ := r
  obtain ⟨d, e, f⟩ := q
  rw [Bool.eq_iff_iff]
  simp only [sameR, Bool.and_eq_true, beq_iff_eq, decide_eq_true_eq, Prod.mk.injEq]
  rw [ByteArray.toList_eq, ByteArray.toList_eq, Array.toList_inj]
  exact ⟨fun h => ⟨ByteArray.ext h.1, h.2⟩, fun h => ⟨congrArg _ h.1, h.2⟩⟩
theorem eqRel (d : Nat) (w : World) (r q : Rel) :
    (Op.equalIn (d + 2) 95 (.agg #[.string r.1, .int .i64 r.2.1, .bool r.2.2]) (.agg #[.string q.1, .int .i64 q.2.1, .bool q.2.2])).run Tryz.prog w = .ok (sameR r q) w := by
  rw [← sameR_eq]
  refine eqA_of Tryz.underlying95 (by kernel_rfl) ?_
  refine eqf_cons (by rfl) (by go_simp; rfl) (by go_simp; rfl) (by go_simp) ?_
  refine eqf_cons (by rfl) (by go_simp; rfl) (by go_simp; rfl) (by go_simp) ?_
  exact eqf_last (by rfl) (by go_simp; rfl) (by go_simp; rfl) (by go_simp)
attribute [local go_sem high] eqRel
end Go.Proofs.YtgemaohdlibboaaGreatDoor.H
/- Walks: the draws of relations, values, facts. What is told: sizes and ranges. No condition. -/
namespace Go.Proofs.YtgemaohdlibboaaGreatDoor.H
open Go Go.RowKit Go.Proofs.YtgemaohdlibboaaGreatDoorW.PrintWords Go.Proofs.YtgemaohdlibboaaGreatDoorW.PrintLast
open Go.Proofs.YtgemaohdlibboaaGreatDoor.Reg (On on_draw)
set_option maxHeartbeats 4000000
set_option maxRecDepth 100000
set_option linter.unusedVariables false
set_option linter.unusedSimpArgs false

/-- The relations of the draws. -/
def sigs : List Rel := [(⟨#[97]⟩, 2, true), (⟨#[98]⟩, 1, true), (⟨#[112]⟩, 2, false), (⟨#[113]⟩, 2, false), (⟨#[114]⟩, 1, false)]
theorem l3Sigs_calls (w : World) : Calls Tryz.prog 115 #[] w (Got fun v w' => OR w' w.heap.size v sigs ∧ On w w') := by
  have hb := Aside0.mk (On.alloc (On.refl w) (.cells #[.string ⟨#[97]⟩, .int .i64 2, .bool true, .string ⟨#[98]⟩, .int .i64 1, .bool true, .string ⟨#[112]⟩, .int .i64 2, .bool false, .string ⟨#[113]⟩, .int .i64 2, .bool false, .string ⟨#[114]⟩, .int .i64 1, .bool false] 95 (0, 0)))
  have hl := Aside0.mk (show OR (w.alloc (.cells #[.string ⟨#[97]⟩, .int .i64 2, .bool true, .string ⟨#[98]⟩, .int .i64 1, .bool true, .string ⟨#[112]⟩, .int .i64 2, .bool false, .string ⟨#[113]⟩, .int .i64 2, .bool false, .string ⟨#[114]⟩, .int .i64 1, .bool false] 95 (0, 0))) w.heap.size (.slice (some ⟨w.heap.size, 0, none⟩) 5 5) sigs from lit_own w #[.string ⟨#[97]⟩, .int .i64 2, .bool true, .string ⟨#[98]⟩, .int .i64 1, .bool true, .string ⟨#[112]⟩, .int .i64 2, .bool false, .string ⟨#[113]⟩, .int .i64 2, .bool false, .string ⟨#[114]⟩, .int .i64 1, .bool false] 95 3 5 w.heap.size (Nat.le_refl _) (by omega) rfl)
  go_enter Tryz.func115, Tryz.ntmps115
  go_wp2
  go_ret
  exact ⟨_, rfl, hl.out, hb.out⟩

theorem l4Value_calls (w0 w : World) (q : Nat) (hC : Cu w0 w q) (m : Int) (h0 : 0 ≤ m) (h2 : m ≤ 256) :
    Calls Tryz.prog 148 #[.pointer (some ⟨q, 0, none⟩), .int .i64 m] w (Dr w0 w q fun v _ => ∃ x : Int, v = .int .i64 x ∧ -256 ≤ x ∧ x ≤ 256) := by
  have hC' := Aside0.mk hC
  have h2' := Aside0.mk h2
  clear hC h2
  by_cases hm : 0 < m
  · have hm' := Aside0.mk hm
    have hmb : decide (0 < m) = true := decide_eq_true hm
    clear hm h0
    go_enter Tryz.func148, Tryz.ntmps148
    go_wp2_with (go_at_call 66; refine Stop.out ?_)
    refine ⟨(l1Once_calls w0 _ q hC'.out 2 (by omega) (by omega)).mono ?_⟩
    rintro e w1 ⟨v, rfl, ⟨b, rfl⟩, hC1, hE1⟩
    have hC1' := Aside0.mk hC1
    clear hC1
    cases b with
    | true =>
      go_wp2_with (go_at_call 138; refine Stop.out ?_)
      refine ⟨(l1Below_calls w0 _ q hC1'.out m (by have := hm'.out; omega) h2'.out).mono ?_⟩
      rintro e w3 ⟨v, rfl, ⟨x, rfl, hx⟩, hC3, hE3⟩
      replace hx := Aside0.mk hx
      go_wp2_with (go_at_call 90; refine Stop.out ?_)
      refine ⟨(sNullValue_calls _ x (by have := hx.out; have := h2'.out; omega)).mono ?_⟩
      rintro e w4 ⟨rfl, hb4⟩
      go_wp2
      go_ret
      exact ⟨_, rfl, ⟨_, rfl, by have := hx.out; have := h2'.out; omega⟩, hC3.next hb4, (hE1.trans hE3 fun _ _ h => h).then_on hb4⟩
    | false =>
      go_wp2_with (go_at_call 138; refine Stop.out ?_)
      refine ⟨(l1Below_calls w0 _ q hC1'.out 3 (by omega) (by omega)).mono ?_⟩
      rintro e w3 ⟨v, rfl, ⟨x, rfl, hx⟩, hC3, hE3⟩
      replace hx := Aside0.mk hx
      go_wp2
      go_ret
      exact ⟨_, rfl, ⟨_, rfl, by have := hx.out; omega⟩, hC3, hE1.trans hE3 fun _ _ h => h⟩
  · have hmb : decide (0 < m) = false := decide_eq_false hm
    clear hm h0
    go_enter Tryz.func148, Tryz.ntmps148
    go_wp2_with (go_at_call 138; refine Stop.out ?_)
    refine ⟨(l1Below_calls w0 _ q hC'.out 3 (by omega) (by omega)).mono ?_⟩
    rintro e w3 ⟨v, rfl, ⟨x, rfl, hx⟩, hC3, hE3⟩
    replace hx := Aside0.mk hx
    go_wp2
    go_ret
    exact ⟨_, rfl, ⟨_, rfl, by have := hx.out; omega⟩, hC3, hE3⟩
end Go.Proofs.YtgemaohdlibboaaGreatDoor.H
/- Walks: the draws of facts. What is told: sizes and ranges. No condition. -/
namespace Go.Proofs.YtgemaohdlibboaaGreatDoor.H
open Go Go.RowKit Go.Proofs.YtgemaohdlibboaaGreatDoorW.PrintWords Go.Proofs.YtgemaohdlibboaaGreatDoorW.PrintLast
open Go.Proofs.YtgemaohdlibboaaGreatDoor.Reg (On on_draw)
set_option maxHeartbeats 4000000
set_option maxRecDepth 100000
set_option linter.unusedVariables false
set_option linter.unusedSimpArgs false

def arN : Nat → Nat
  | 0 => 2
  | 1 => 1
  | 2 => 2
  | 3 => 2
  | _ => 1
theorem arN_sigs : ∀ (k : Nat) (h : k < sigs.length), sigs[k].2.1 = (arN k : Int)
  | 0, _ => rfl
  | 1, _ => rfl
  | 2, _ => rfl
  | 3, _ => rfl
  | 4, _ => rfl
  | n + 5, h => absurd h (by show ¬ n + 5 < 5; omega)
theorem arN_in (k : Nat) : 1 ≤ arN k ∧ arN k ≤ 2 := by unfold arN; split <;> omega
def lenOf : Option Value → Nat
  | some (.slice _ n _) => n
  | _ => 0
theorem lit_I (W : World) (x : Int) (hx : -9223372036854775808 ≤ x ∧ x ≤ 9223372036854775807) : Ints (W.alloc (.cells #[.int .i64 x] 3 (0, 0))) (some ⟨W.heap.size, 0, none⟩) 1 [x] := by
  have h : OI (W.alloc (.cells #[.int .i64 x] 3 (0, 0))) W.heap.size (.slice (some ⟨W.heap.size, 0, none⟩) 1 1) [x] := lit_own W #[.int .i64 x] 3 1 1 W.heap.size (Nat.le_refl _) (by omega) rfl
  obtain ⟨A, c, e, hI⟩ := OI.rd h (fun y hy => by rw [List.mem_singleton.1 hy]; exact hx)
  injection e with e1 e2 e3
  subst e1 e3
  exact hI
theorem OR.same {w : World} {lo : Nat} {A : Option Addr} {n c : Nat} {rs : List Rel} (h : OR w lo (.slice A n c) rs) : n = rs.length ∧ Rels w A c rs := by
  obtain ⟨A', c', e, hR⟩ := OR.rd h
  injection e with e1 e2 e3
  subst e1 e3
  exact ⟨e2, hR⟩
theorem OI.same {w : World} {lo : Nat} {A : Option Addr} {n c : Nat} {xs : List Int} (h : OI w lo (.slice A n c) xs) (hr : InR xs) : n = xs.length ∧ Ints w A c xs := by
  obtain ⟨A', c', e, hR⟩ := OI.rd h hr
  injection e with e1 e2 e3
  subst e1 e3
  exact ⟨e2, hR⟩

theorem l4Fact_calls (w0 w : World) (q : Nat) (hC : Cu w0 w q) (k : Nat) (hk : k < 5) (m : Int) (h0 : 0 ≤ m) (h2 : m ≤ 256) :
    Calls Tryz.prog 170 #[.pointer (some ⟨q, 0, none⟩), .int .i64 k, .int .i64 m] w (Dr w0 w q fun v w' => ∃ f : Fct, OFa w' w.heap.size v f ∧ f.1 = k ∧ f.2.length = arN k) := by
  have hC' := Aside0.mk hC
  have hqw := Aside0.mk hC.lt
  have hk' := Aside0.mk hk
  have hm0 := Aside0.mk h0
  have hm2 := Aside0.mk h2
  obtain ⟨n, hn⟩ : ∃ n, arN k = n := ⟨_, rfl⟩
  have hnb := Aside0.mk (hn ▸ arN_in k : 1 ≤ n ∧ n ≤ 2)
  have hn' := Aside0.mk hn
  have hb0 := Aside0.mk (On.alloc (On.refl w) (.cells #[.int .i64 0, .slice none 0 0] 60 (0, 0)))
  have hl0 := Aside0.mk (loc_new w #[.int .i64 0, .slice none 0 0] 60)
  clear hC hk h0 h2 hn
  go_enter Tryz.func170, Tryz.ntmps170
  go_wp2_with (go_at_call 115; refine Stop.out ?_)
  refine ⟨(l3Sigs_calls _).mono ?_⟩
  rintro e w1 ⟨v, rfl, hR, hb1⟩
  obtain ⟨As, cs, rfl⟩ := own_slice hR
  have hR' := Aside0.mk hR
  have hb1' := Aside0.mk hb1
  have hl1 := Aside0.mk (blk_below hl0.out hb1)
  have hsz := Aside0.mk (show w.heap.size + 1 ≤ w1.heap.size by have := blk_lt hl1.out; omega)
  have hfill := alloc_fill w1
  clear hR hb1
  go_wp2
  clear hfill
  obtain ⟨wa, hwa⟩ : ∃ wa, w1.alloc (.cells #[.int .i64 k, .slice none 0 0] 60 (0, 0)) = wa := ⟨_, rfl⟩
  have hl8 := Aside0.mk (show wa.heap[w1.heap.size]? = some (.cells #[.int .i64 k, .slice none 0 0] 60 (0, 0)) from hwa ▸ loc_new w1 _ _)
  have hsa := Aside0.mk (show wa.heap.size = w1.heap.size + 1 from hwa ▸ by simp)
  have hba := Aside0.mk (show On w1 wa from hwa ▸ On.alloc (On.refl _) _)
  try rw [hwa]
  obtain ⟨g8, hg8⟩ : ∃ g8, w1.heap.size = g8 := ⟨_, rfl⟩
  rw [hg8] at hl8 hsz hsa ⊢
  have hba0 := Aside0.mk (hb0.out.trans (hb1'.out.trans hba.out))
  clear hwa
  have hbl := Aside0.mk (show w1.heap.size = g8 from hg8)
  clear hg8
  go_loopw [] (fun wr => ∃ (xs : List Int) (vr : Value), xs.length ≤ n ∧ wr.heap[g8]? = some (.cells #[.int .i64 k, vr] 60 (0, 0)) ∧ OI wr (g8 + 1) vr xs ∧ InR xs ∧ Cu w0 wr q ∧ Ex (fun b => b = q) w wr ∧ Ex (fun b => b = q ∨ b = g8) wa wr) (fun wr => n - lenOf (wr.cell? ⟨g8, 1, none⟩))
  case atStart => exact ⟨[], _, Nat.zero_le _, hl8.out, World.ownsRow_nil _ _ _ _, fun _ h => absurd h (by simp), hC'.out.next hba0.out, Ex.of_on hba0.out, Ex.refl _ _⟩
  case round =>
    obtain ⟨xs, vr, hxl, hbl8, hO, hIn, hC, hE, hEa⟩ := hrel
    obtain ⟨Ar, cr, rfl⟩ := own_slice hO
    have hOr := own_ex (pw_own_below hR'.out hba.out) hEa (fun i hi => by
      have h1 := own_base hR'.out i hi
      have h2 := own_lt hR'.out i hi
      have := hqw.out
      have := hbl.out
      simp at h1
      omega)
    obtain ⟨ad, hA, x0, x1, x2⟩ := (OR.same hOr).2.at k hk'.out
    subst hA
    rw [arN_sigs k hk'.out, hn'.out] at x1
    have hkb : k < sigs.length := hk'.out
    have hd0 := blk_cell hbl8 0
    have hd1 := blk_cell hbl8 1
    have hbl8' := Aside0.mk hbl8
    have hO' := Aside0.mk hO
    have hIn' := Aside0.mk hIn
    have hC1 := Aside0.mk hC
    have hE' := Aside0.mk hE
    have hEa' := Aside0.mk hEa
    have hxl' := Aside0.mk hxl
    clear hO hIn hC hE hEa hbl8 hOr x0 x2 hxl
    by_cases hlt : xs.length < n
    · have hlt' := Aside0.mk hlt
      have hltb : decide ((xs.length : Int) < (n : Int)) = true := decide_eq_true (by omega)
      have hltn : decide (xs.length < n) = true := decide_eq_true hlt
      clear hlt
      go_wp2
      refine Reg.region [(0,.L),(1,.L),(2,.L),(3,.L),(4,.L),(5,.L),(6,.L),(7,.L),(8,.L)] [] (by kernel_rfl) (by kernel_rfl) ?_
      repeat first | refine sP ?_ | refine sS ?_ | refine sA ?_ | refine sL ?_ | refine sQ ?_ | refine sO ?_
      refine Reg.nil fun w2 hS => ?_
      clear x1 hd0 hd1 hkb
      have hb2 := Aside0.mk (blk_below hbl8'.out hS)
      have hS2 := Aside0.mk hS
      clear hS
      go_wp2
      refine Reg.regionG (fun w' => w'.heap[g8]? = some (.cells #[.int .i64 k, .slice Ar xs.length cr] 60 (0, 0))) [0,1,2,3] [4,5,6,7,8] 8 (by kernel_rfl) (by kernel_rfl) hb2.out ?_
      repeat refine Reg.sG ?_
      refine Reg.startG ?_
      obtain ⟨w3, hw3⟩ : ∃ w3, ({ w2 with drawn := w2.drawn + 1 } : World) = w3 := ⟨_, rfl⟩
      have hS3 := Aside0.mk (show On wr w3 from hS2.out.trans (hw3 ▸ on_draw w2))
      rw [hw3]
      clear hw3
      refine Reg.tG ?_
      go_wp2_with (go_at_call 148; refine Stop.out ?_)
      refine ⟨(l4Value_calls w0 _ q (hC1.out.next hS3.out) m hm0.out hm2.out).mono ?_⟩
      rintro e w4 ⟨v, rfl, ⟨x, rfl, hx⟩, hC4, hE4⟩
      replace hx := Aside0.mk hx
      have hC4' := Aside0.mk hC4
      have hE4' := Aside0.mk hE4
      have hb4 := Aside0.mk (blk_ex hE4 (blk_below hbl8'.out hS3.out) (by have := hqw.out; have := hsz.out; omega))
      clear hC4 hE4
      go_wp2
      refine ⟨hb4.out, ?_⟩
      refine Reg.tG ?_
      go_wp2
      have hI5 := Aside0.mk (lit_I w4 x (by have := hx.out; omega))
      have hS5 := Aside0.mk (On.alloc (On.refl w4) (.cells #[.int .i64 x] 3 (0, 0)))
      refine ⟨blk_below hb4.out hS5.out, ?_⟩
      refine Reg.tG ?_
      have hO5 := Aside0.mk (pw_own_below (own_ex (pw_own_below hO'.out hS3.out) hE4'.out (fun i hi e => by have := own_base hO'.out i hi; have := hqw.out; have := hsz.out; omega)) hS5.out)
      obtain ⟨ys, hys⟩ : ∃ ys, xs ++ [x] = ys := ⟨_, rfl⟩
      have hsz5 := Aside0.mk (show g8 + 1 ≤ (w4.alloc (.cells #[.int .i64 x] 3 (0, 0))).heap.size by have := blk_lt (blk_below hb4.out hS5.out); omega)
      refine apI 27 hys (OI.to hO5.out) hI5.out.2.1 hsz5.out (by have := hlt'.out; have := hnb.out; simp; omega) fun v6 w6 hO6 hg6 hat6 => ?_
      have hO6' := Aside0.mk (OI.of hO6)
      have hS6 := Aside0.mk (show Ex (fun b => g8 + 1 ≤ b) (w4.alloc (.cells #[.int .i64 x] 3 (0, 0))) w6 from (Ex.of_grown hg6).mono fun b hb => own_base hO5.out b hb.symm)
      have hb6 := Aside0.mk (blk_ex hS6.out (blk_below hb4.out hS5.out) (by omega))
      have hyl := Aside0.mk (show ys.length = xs.length + 1 by rw [← hys]; simp)
      have hyi := Aside0.mk (show InR ys by rw [← hys]; intro z hz; rcases List.mem_append.1 hz with h | h; exact hIn'.out z h; rw [List.mem_singleton.1 h]; have := hx.out; omega)
      clear hO6 hg6 hat6 hys
      obtain ⟨A6, c6, rfl⟩ := own_slice hO6'.out
      refine ⟨hb6.out, ?_⟩
      have hd6 := blk_cell hb6.out 1
      have hf6 := blk_frozen hb6.out 1
      simp only [Act.put, List.setIfInBounds_toArray, List.set_cons_zero, List.set_cons_succ]
      refine Reg.tG ?_
      go_wp2
      refine ⟨hb6.out, ?_⟩
      refine Reg.tE ?_
      go_wp2
      have hq0 := hC'.out.lo
      have E2 := ((Ex.of_on (S := fun b => b = q) hS3.out).trans hE4'.out fun _ _ h => h).then_on hS5.out
      have E4 := (hE'.out.trans E2 fun _ _ h => h).trans hS6.out (fun i hi h => by have := hsz.out; omega)
      have F4 := (hEa'.out.trans E2 fun _ _ h => .inl h).trans hS6.out (fun i hi h => by have := hsa.out; omega)
      refine ⟨⟨ys, _, by have := hyl.out; have := hlt'.out; omega, blk_set hb6.out 1 _, own_ex hO6'.out (Ex.set w6 ⟨g8, 1, none⟩ _) (fun i hi e => by have := own_base hO6'.out i hi; have e' : i = g8 := e; omega), hyi.out,
        ((hC4'.out.next hS5.out).ex hS6.out (fun b hb => by have := hsz.out; have := hqw.out; omega)).ex (Ex.set w6 ⟨g8, 1, none⟩ _) (fun b hb => by have e' : b = g8 := hb; have := hsz.out; have := hqw.out; omega),
        E4.trans (Ex.set w6 ⟨g8, 1, none⟩ _) (fun i hi h => by have e' : i = g8 := h; have := hsz.out; omega), F4.trans (Ex.set w6 ⟨g8, 1, none⟩ _) (fun i hi h => .inr h)⟩, ?_⟩
      rw [blk_cell (blk_set hb6.out 1 _) 1, blk_cell hbl8'.out 1]
      show n - ys.length < n - xs.length
      have := hyl.out
      have := hlt'.out
      omega
    · have hltb : decide ((xs.length : Int) < (n : Int)) = false := decide_eq_false (by omega)
      have hltn : decide (xs.length < n) = false := decide_eq_false hlt
      have hge := Aside0.mk (show n ≤ xs.length by omega)
      clear hlt
      go_wp2
      refine Reg.region [(0,.L),(1,.L),(2,.L),(3,.L),(4,.L),(5,.L),(6,.L),(7,.L),(8,.L)] [] (by kernel_rfl) (by kernel_rfl) ?_
      repeat first | refine sP ?_ | refine sS ?_ | refine sA ?_ | refine sL ?_ | refine sQ ?_ | refine sO ?_
      refine Reg.nil fun w2 hS => ?_
      have hS2 := Aside0.mk hS
      have hb2 := Aside0.mk (blk_below hbl8'.out hS)
      have hd0 := blk_cell hb2.out 0
      have hd1 := blk_cell hb2.out 1
      have hl2 := Aside0.mk (blk_ex (hEa'.out.then_on hS) (blk_below hl1.out hba.out) (by have := hqw.out; have := hsz.out; omega))
      have hcr : ∀ i, w2.cell? ⟨w.heap.size, i, none⟩ = _ := blk_cell hl2.out
      have hfr : ∀ i, w2.frozen? ⟨w.heap.size, i, none⟩ = _ := blk_frozen hl2.out
      clear x1 hS
      go_wp2
      refine bodyPost_ret (retF rfl rfl (g := w.heap.size) (blk_set (blk_set hl2.out 0 _) 1 _) rfl) rfl ?_
      have hq0 := hC'.out.lo
      have hO2 := pw_own_below hO'.out hS2.out
      have hS := (Ex.set w2 ⟨w.heap.size, 0, none⟩ (.int .i64 k)).trans (Ex.set _ ⟨w.heap.size, 1, none⟩ (.slice Ar xs.length cr)) (fun _ _ h => h)
      have hOz := own_lower (lo' := w.heap.size) (own_ex hO2 hS (fun i hi e => by have := own_base hO2 i hi; have e' : i = w.heap.size := e; have := hsz.out; omega)) (by have := hsz.out; omega)
      exact ⟨_, rfl, ⟨(k, xs), ⟨_, rfl, hOz, hIn'.out⟩, rfl, by have := hn'.out; have := hge.out; have := hxl'.out; show xs.length = _; omega⟩,
        (hC1.out.next hS2.out).ex hS (fun b hb => by have e' : b = w.heap.size := hb; have := hqw.out; omega), (hE'.out.then_on hS2.out).trans hS (fun i hi h => by have e' : i = w.heap.size := h; omega)⟩
end Go.Proofs.YtgemaohdlibboaaGreatDoor.H
/- Walks: the draws of one relation and of any fact. What is told: sizes and ranges. No condition. -/
namespace Go.Proofs.YtgemaohdlibboaaGreatDoor.H
open Go Go.RowKit Go.Proofs.YtgemaohdlibboaaGreatDoorW.PrintWords Go.Proofs.YtgemaohdlibboaaGreatDoorW.PrintLast
open Go.Proofs.YtgemaohdlibboaaGreatDoor.Reg (On on_draw)
set_option maxHeartbeats 4000000
set_option maxRecDepth 100000
set_option linter.unusedVariables false
set_option linter.unusedSimpArgs false

theorem l1Pick_calls (w0 w : World) (q : Nat) (hC : Cu w0 w q) (ad : Addr) (c : Nat) (xs : List ByteArray) (hI : ∀ w', Ex (fun b => b = q) w w' → ∀ i (h : i < xs.length), w'.cell? (ad.add i) = some (.string xs[i])) (h1 : 1 ≤ xs.length) (h2 : xs.length ≤ 256) :
    Calls Tryz.prog 67 #[.pointer (some ⟨q, 0, none⟩), .slice (some ad) xs.length c] w (Dr w0 w q fun v _ => ∃ x, v = .string x ∧ x ∈ xs) := by
  have hC' := Aside0.mk hC
  have h1' := Aside0.mk h1
  have h2' := Aside0.mk h2
  have hI' := Aside0.mk hI
  clear hC h1 h2 hI
  go_enter Tryz.func67, Tryz.ntmps67
  go_wp2_with (go_at_call 138; refine (l1Below_calls w0 _ q hC'.out xs.length (by have := h1'.out; omega) (by have := h2'.out; omega)).mono ?_; rintro e w3 ⟨v, rfl, ⟨x, rfl, hx⟩, hC3, hE3⟩; replace hx := Aside0.mk hx; obtain ⟨k, hk⟩ := Int.eq_ofNat_of_zero_le hx.out.1; subst hk; have hkl : k < xs.length := (by have := hx.out; omega); have hx3 := hI'.out _ hE3 k hkl)
  go_ret
  exact ⟨_, rfl, ⟨_, rfl, List.getElem_mem (by have := hx.out; omega)⟩, hC3, hE3⟩
def names6 : List ByteArray := [⟨#[97]⟩, ⟨#[122]⟩, ⟨#[]⟩, ⟨#[65]⟩, ⟨#[97, 98]⟩, ⟨#[112]⟩]
theorem names6_at : ∀ (i : Nat) (h : i < names6.length), (#[.string ⟨#[97]⟩, .string ⟨#[122]⟩, .string ⟨#[]⟩, .string ⟨#[65]⟩, .string ⟨#[97, 98]⟩, .string ⟨#[112]⟩] : Array Value)[i]? = some (.string names6[i])
  | 0, _ => rfl
  | 1, _ => rfl
  | 2, _ => rfl
  | 3, _ => rfl
  | 4, _ => rfl
  | 5, _ => rfl
  | n + 6, h => absurd h (by show ¬ n + 6 < 6; omega)
theorem l3One_calls (w0 w : World) (q : Nat) (hC : Cu w0 w q) :
    Calls Tryz.prog 139 #[.pointer (some ⟨q, 0, none⟩)] w (Dr w0 w q fun v _ => ∃ r : Rel, v = .agg #[.string r.1, .int .i64 r.2.1, .bool r.2.2]) := by
  have hC' := Aside0.mk hC
  have hqw := Aside0.mk hC.lt
  have hq0 := Aside0.mk hC.lo
  have hb0 := Aside0.mk (On.alloc (On.alloc (On.refl w) (.cells #[.string ⟨#[]⟩, .int .i64 0, .bool false] 95 (0, 0))) (.cells #[.string ⟨#[97]⟩, .string ⟨#[122]⟩, .string ⟨#[]⟩, .string ⟨#[65]⟩, .string ⟨#[97, 98]⟩, .string ⟨#[112]⟩] 9 (0, 0)))
  have hl0 := Aside0.mk (loc2 w #[.string ⟨#[]⟩, .int .i64 0, .bool false] #[.string ⟨#[97]⟩, .string ⟨#[122]⟩, .string ⟨#[]⟩, .string ⟨#[65]⟩, .string ⟨#[97, 98]⟩, .string ⟨#[112]⟩] 95 9)
  clear hC
  go_enter Tryz.func139, Tryz.ntmps139
  go_wp2_with (go_at_call 67; refine Stop.out ?_)
  refine ⟨(l1Pick_calls w0 _ q (hC'.out.next hb0.out) ⟨w.heap.size + 1, 0, none⟩ 6 names6 (fun w' k i hi => ?_) (by show 1 ≤ 6; omega) (by show 6 ≤ 256; omega)).mono ?_⟩
  · have hb := blk_ex k hl0.out.2.1 (by have := hqw.out; omega)
    have h1 := (blk_cell hb i).trans (names6_at i hi)
    by_cases h0 : i = 0
    · subst h0; simpa [Addr.add] using h1
    · simpa [Addr.add, h0] using h1
  rintro e w1 ⟨v, rfl, ⟨s, rfl, -⟩, hC1, hE1⟩
  have hC1' := Aside0.mk hC1
  have hE1' := Aside0.mk ((Ex.of_on (S := fun b => b = q) hb0.out).trans hE1 fun _ _ h => h)
  have hr1 := Aside0.mk (blk_ex hE1 hl0.out.1 (by have := hqw.out; omega))
  clear hC1 hE1
  go_wp2_with (go_at_call 138; refine Stop.out ?_)
  refine ⟨(l1Below_calls w0 _ q hC1'.out 6 (by omega) (by omega)).mono ?_⟩
  rintro e w2 ⟨v, rfl, ⟨x, rfl, hx⟩, hC2, hE2⟩
  have hw : wrap64 (x - 1) = x - 1 := IntWalk.wrap64_in _ (by omega)
  have hC2' := Aside0.mk hC2
  have hE2' := Aside0.mk (hE1'.out.trans hE2 fun _ _ h => h)
  have hr2 := Aside0.mk (blk_ex hE2 hr1.out (by have := hqw.out; omega))
  clear hC2 hE2 hx
  go_wp2_with (go_at_call 66; refine Stop.out ?_)
  refine ⟨(l1Once_calls w0 _ q hC2'.out 2 (by omega) (by omega)).mono ?_⟩
  rintro e w3 ⟨v, rfl, ⟨b, rfl⟩, hC3, hE3⟩
  have hC3' := Aside0.mk hC3
  have hE3' := Aside0.mk (hE2'.out.trans hE3 fun _ _ h => h)
  have hr3 := Aside0.mk (blk_ex hE3 hr2.out (by have := hqw.out; omega))
  have hd0 := blk_cell hr3.out
  have hfr := blk_frozen hr3.out
  clear hC3 hE3
  go_wp2
  refine bodyPost_ret (retR rfl rfl (g := w.heap.size) (blk_set (blk_set (blk_set hr3.out 0 _) 1 _) 2 _) rfl) rfl ?_
  have EE := ((Ex.set w3 ⟨w.heap.size, 0, none⟩ (.string s)).trans (Ex.set _ ⟨w.heap.size, 1, none⟩ (.int .i64 (x - 1))) (fun _ _ h => h)).trans (Ex.set _ ⟨w.heap.size, 2, none⟩ (.bool b)) (fun _ _ h => h)
  have hq1 := hqw.out
  have hq2 := hq0.out
  exact ⟨_, rfl, ⟨(s, x - 1, b), rfl⟩, hC3'.out.ex EE (fun b hb => by have e' : b = w.heap.size := hb; omega), hE3'.out.trans EE (fun i hi h => by have e' : i = w.heap.size := h; omega)⟩
end Go.Proofs.YtgemaohdlibboaaGreatDoor.H
/- Plain: what is written of values, relations, facts and instances, and what is read again. No condition. -/
namespace Go.Proofs.YtgemaohdlibboaaGreatDoor.H
open Go Go.RowKit Go.Proofs.YtgemaohdlibboaaGreatDoorW.PrintWords Go.Proofs.YtgemaohdlibboaaGreatDoorW.PrintLast
set_option linter.unusedVariables false
set_option linter.unusedSimpArgs false

def strB (l : List UInt8) : ByteArray := ⟨l.toArray⟩
theorem strB_size (l : List UInt8) : (strB l).size = l.length := by simp [strB, ByteArray.size]
theorem strB_append (a b : List UInt8) : strB a ++ strB b = strB (a ++ b) := by
  apply ByteArray.ext
  simp [strB, ByteArray.data_append]
theorem strB_self (s : ByteArray) : strB s.data.toList = s := by apply ByteArray.ext; simp [strB]
theorem strB_data (l : List UInt8) : (strB l).data.toList = l := by simp [strB]
theorem strB_extract (l : List UInt8) (a b : Nat) : (strB l).extract a b = strB ((l.drop a).take (b - a)) := by
  rw [← strB_self ((strB l).extract a b), Lib.extract_data, strB_data]
theorem strB_rest (l : List UInt8) (a : Nat) : (strB l).extract a (strB l).size = strB (l.drop a) := by
  rw [strB_extract, strB_size, List.take_of_length_le (by simp)]
theorem bt_strB (l : List UInt8) (i : Nat) (h : i < l.length) : bt (strB l) (i : Int) = (l[i].toNat : Int) := by
  unfold bt
  rw [dif_pos (by rw [strB_size]; omega)]
  simp [strB, ByteArray.getElem_eq_getElem_data]
/-! Joined. -/
theorem joinTail_snoc (sep : List UInt8) (r : List (List UInt8)) (y : List UInt8) : Lib.joinTail sep (r ++ [y]) = Lib.joinTail sep r ++ (sep ++ y) := by
  unfold Lib.joinTail
  simp
theorem join_one' (sep x : List UInt8) : Lib.join [x] sep = x := by rw [Lib.join_cons]; simp [Lib.joinTail]
theorem join_snoc (sep : List UInt8) (xs : List (List UInt8)) (y : List UInt8) : Lib.join (xs ++ [y]) sep = if xs.length = 0 then y else Lib.join xs sep ++ sep ++ y := by
  cases xs with
  | nil => rw [List.nil_append, join_one']; rfl
  | cons x r => rw [List.cons_append, Lib.join_cons, Lib.join_cons, joinTail_snoc, if_neg (by simp), List.append_assoc, List.append_assoc]
theorem join_two (sep x y : List UInt8) (r : List (List UInt8)) : Lib.join (x :: y :: r) sep = x ++ (sep ++ Lib.join (y :: r) sep) := by
  rw [Lib.join_cons, Lib.join_cons]; simp [Lib.joinTail]
theorem join_nil' (sep : List UInt8) : Lib.join [] sep = [] := by simp [Lib.join]
theorem join_len (sep : List UInt8) (B : Nat) : ∀ (n : Nat) (xs : List (List UInt8)), xs.length = n → (∀ x ∈ xs, x.length ≤ B) → (Lib.join xs sep).length ≤ n * (B + sep.length) := by
  intro n
  induction n with
  | zero =>
    intro xs h _
    obtain rfl : xs = [] := List.eq_nil_of_length_eq_zero h
    simp [join_nil']
  | succ n ih =>
    intro xs h hb
    rcases List.eq_nil_or_concat xs with rfl | ⟨ys, y, rfl⟩
    · simp at h
    · rw [List.concat_eq_append] at *
      have h1 := ih ys (by simp at h; omega) (fun x hx => hb x (List.mem_append_left _ hx))
      have h2 := hb y (List.mem_append_right _ (by simp))
      rw [join_snoc, Nat.succ_mul]
      split
      · omega
      · rw [List.length_append, List.length_append]; omega
/-! Cut. -/
/-- Put something ahead of the first piece. -/
def preP (x : List UInt8) : List (List UInt8) → List (List UInt8)
  | [] => []
  | p :: r => (x ++ p) :: r
/-- The pieces between the signs c. -/
def cutS (c : UInt8) : List UInt8 → List (List UInt8)
  | [] => [[]]
  | b :: l => if b = c then [] :: cutS c l else preP [b] (cutS c l)
theorem preP_preP (x y : List UInt8) (l : List (List UInt8)) : preP x (preP y l) = preP (x ++ y) l := by
  cases l with
  | nil => rfl
  | cons p r => simp [preP]
theorem preP_nil (l : List (List UInt8)) : preP [] l = l := by cases l <;> rfl
theorem cutS_ne (c : UInt8) (l : List UInt8) : ∃ p r, cutS c l = p :: r := by
  induction l with
  | nil => exact ⟨_, _, rfl⟩
  | cons b l ih =>
    obtain ⟨p, r, h⟩ := ih
    rw [cutS]
    split
    · exact ⟨_, _, rfl⟩
    · rw [h]; exact ⟨_, _, rfl⟩
theorem cutS_len (c : UInt8) (l : List UInt8) : (cutS c l).length ≤ l.length + 1 := by
  induction l with
  | nil => simp [cutS]
  | cons b l ih =>
    rw [cutS]
    split
    · simp only [List.length_cons]; omega
    · obtain ⟨p, r, h⟩ := cutS_ne c l
      rw [h] at ih ⊢
      simp only [preP, List.length_cons] at ih ⊢
      omega
theorem cutS_none {c : UInt8} : ∀ {w : List UInt8}, c ∉ w → cutS c w = [w]
  | [], _ => rfl
  | b :: w, h => by
    simp only [List.mem_cons, not_or] at h
    rw [cutS, if_neg (fun e => h.1 e.symm), cutS_none h.2]; rfl
theorem cutS_app {c : UInt8} (t : List UInt8) : ∀ {w : List UInt8}, c ∉ w → cutS c (w ++ c :: t) = w :: cutS c t
  | [], _ => by rw [List.nil_append, cutS, if_pos rfl]
  | b :: w, h => by
    simp only [List.mem_cons, not_or] at h
    rw [List.cons_append, cutS, if_neg (fun e => h.1 e.symm), cutS_app t h.2]; rfl
theorem cutS_join {c : UInt8} : ∀ (ws : List (List UInt8)), ws ≠ [] → (∀ w ∈ ws, c ∉ w) → cutS c (Lib.join ws [c]) = ws
  | [], h, _ => absurd rfl h
  | [w], _, h => by rw [join_one', cutS_none (h w List.mem_cons_self)]
  | w :: v :: r, _, h => by
    rw [join_two, List.singleton_append, cutS_app _ (h w List.mem_cons_self), cutS_join (v :: r) (by simp) (fun x hx => h x (List.mem_cons_of_mem _ hx))]
theorem index_one_cons (b c : UInt8) (l : List UInt8) (h : b ≠ c) : Lib.index (b :: l) [c] = if Lib.index l [c] == -1 then -1 else Lib.index l [c] + 1 := by
  have hp : ([c] : List UInt8).isPrefixOf (b :: l) = false := by simp [List.isPrefixOf, Ne.symm h]
  rw [Lib.index, hp]; simp
theorem splitK_cut (c : UInt8) (l : List UInt8) : Lib.splitK [c] 0 (Lib.count l [c]) l = cutS c l := by
  induction l with
  | nil => rw [Lib.count_one]; rfl
  | cons b l ih =>
    rw [cutS]
    by_cases h : b = c
    · subst h
      have hix : Lib.index (b :: l) [b] = 0 := by rw [Lib.index]; simp [List.isPrefixOf]
      rw [if_pos rfl, Lib.count_cons_eq, Nat.add_comm, Lib.splitK, hix, ← ih]
      simp
    · rw [if_neg h, Lib.count_cons_ne b c l h]
      generalize Lib.count l [c] = k at ih
      have hix := index_one_cons b c l h
      cases k with
      | zero => rw [Lib.splitK] at ih ⊢; rw [← ih]; rfl
      | succ k =>
        rw [Lib.splitK] at ih ⊢
        by_cases hm : Lib.index l [c] = -1
        · rw [if_pos (by rw [hm]; rfl)] at ih
          rw [if_pos (by rw [hix, if_pos (by rw [hm]; rfl)]; rfl), ← ih]; rfl
        · have hge := Lib.index_ge l [c]
          have hb : ¬ (Lib.index l [c] == -1) = true := fun e => hm (beq_iff_eq.1 e)
          rw [if_neg hb] at ih hix
          rw [if_neg (by rw [hix]; intro e; have := beq_iff_eq.1 e; omega), hix, ← ih]
          have e1 : (Lib.index l [c] + 1).toNat = (Lib.index l [c]).toNat + 1 := by omega
          rw [e1]
          simp [preP, Nat.add_right_comm]
theorem splitB_cut (c : UInt8) (s : List UInt8) : Lib.splitB (strB [c]) 0 (Lib.countB (strB s) (strB [c])) (strB s) = (cutS c s).map strB := by
  have h := Lib.splitB_data (strB [c]) 0 (Lib.countB (strB s) (strB [c])) (strB s)
  have h2 : Lib.countB (strB s) (strB [c]) = Lib.count s [c] := by unfold Lib.countB; rw [strB_data, strB_data]
  rw [h2, strB_data, strB_data, splitK_cut] at h
  rw [h2, ← h, List.map_map]
  conv => lhs; rw [← List.map_id (Lib.splitB (strB [c]) 0 (Lib.count s [c]) (strB s))]
  exact List.map_congr_left (fun x _ => (strB_self x).symm)
theorem index_app {c : UInt8} (t : List UInt8) : ∀ {w : List UInt8}, c ∉ w → Lib.index (w ++ c :: t) [c] = (w.length : Int)
  | [], _ => by rw [List.nil_append, Lib.index]; simp [List.isPrefixOf]
  | b :: w, h => by
    simp only [List.mem_cons, not_or] at h
    have ih := index_app t h.2
    rw [List.cons_append, index_one_cons _ _ _ (fun e => h.1 e.symm), if_neg (by rw [ih]; intro e; have := beq_iff_eq.1 e; omega), ih]
    simp
theorem index_none {c : UInt8} : ∀ {w : List UInt8}, c ∉ w → Lib.index w [c] = -1
  | [], _ => by simp [Lib.index]
  | b :: w, h => by
    simp only [List.mem_cons, not_or] at h
    rw [index_one_cons _ _ _ (fun e => h.1 e.symm), index_none h.2]; rfl
theorem cut_app {c : UInt8} (t : List UInt8) {w : List UInt8} (h : c ∉ w) : Lib.cut (w ++ c :: t) [c] = (w, t, true) := by
  unfold Lib.cut
  rw [index_app t h, if_pos (by omega)]
  simp
theorem cut_none {c : UInt8} {w : List UInt8} (h : c ∉ w) : Lib.cut w [c] = (w, [], false) := by
  unfold Lib.cut
  rw [index_none h, if_neg (by omega)]
/-- At the first sign c, or not at all. -/
theorem cut_cases (c : UInt8) : ∀ s : List UInt8, c ∉ s ∨ ∃ a b, s = a ++ c :: b ∧ c ∉ a
  | [] => .inl (by simp)
  | x :: s => by
    by_cases e : x = c
    · exact .inr ⟨[], s, by rw [e]; rfl, by simp⟩
    · rcases cut_cases c s with h | ⟨a, b, h, h2⟩
      · exact .inl (by simp only [List.mem_cons, not_or]; exact ⟨fun h => e h.symm, h⟩)
      · exact .inr ⟨x :: a, b, by rw [h]; rfl, by simp only [List.mem_cons, not_or]; exact ⟨fun h => e h.symm, h2⟩⟩
theorem trim_app (t : List UInt8) (c : UInt8) : Lib.trimSuffix (t ++ [c]) [c] = t := by
  unfold Lib.trimSuffix Lib.hasSuffix
  rw [if_pos (by simp)]
  simp
/-! Written. -/
def fvL (x : Int) : List UInt8 := if isNul x then 110 :: Lib.itoa (-1 - x) else if 0 ≤ x ∧ x ≤ 9 then Lib.itoa x else []
def relL (r : Rel) : List UInt8 := (if r.2.2 then [43] else []) ++ (r.1.data.toList ++ Lib.itoa r.2.1)
def fmtR (rs : List Rel) : List UInt8 := if okRels rs then Lib.join (rs.map relL) [32] else []
def nameL (rs : List Rel) (i : Int) : List UInt8 := ((rs[i.toNat]?).map fun r => r.1.data.toList).getD []
def fmtF (rs : List Rel) (f : Fct) : List UInt8 := if okFact rs f then nameL rs f.1 ++ 40 :: (Lib.join (f.2.map fvL) [44] ++ [41]) else []
theorem itoa_small {u : Int} (h0 : 0 ≤ u) (h : u < 10) : Lib.itoa u = [UInt8.ofNat (48 + u.toNat)] := by
  unfold Lib.itoa
  rw [if_neg (by omega), Lib.decDigits_one (by omega)]
theorem itoa_two {u : Int} (h0 : 10 ≤ u) (h : u < 100) : Lib.itoa u = [UInt8.ofNat (48 + u.toNat / 10), UInt8.ofNat (48 + u.toNat % 10)] := by
  unfold Lib.itoa
  rw [if_neg (by omega), Lib.decDigits_two (by omega) (by omega)]
theorem ofNat_inj {a b : Nat} (ha : a < 256) (hb : b < 256) (h : UInt8.ofNat a = UInt8.ofNat b) : a = b := by
  have := congrArg UInt8.toNat h
  simp at this; omega
theorem itoa_bytes {u : Int} (h0 : 0 ≤ u) (h : u < 100) : (∀ b ∈ Lib.itoa u, 48 ≤ b.toNat ∧ b.toNat ≤ 57) ∧ Lib.itoa u ≠ [] ∧ (Lib.itoa u).length ≤ 2 := by
  by_cases c : u < 10
  · rw [itoa_small h0 c]
    refine ⟨fun b hb => ?_, by simp, by simp⟩
    rw [List.mem_singleton.1 hb]; simp; omega
  · rw [itoa_two (by omega) h]
    refine ⟨fun b hb => ?_, by simp, by simp⟩
    rcases List.mem_cons.1 hb with rfl | hb
    · simp; omega
    · rw [List.mem_singleton.1 hb]; simp; omega
theorem itoa_inj {u v : Int} (hu0 : 0 ≤ u) (hu : u < 100) (hv0 : 0 ≤ v) (hv : v < 100) (h : Lib.itoa u = Lib.itoa v) : u = v := by
  by_cases c : u < 10
  · by_cases d : v < 10
    · rw [itoa_small hu0 c, itoa_small hv0 d] at h
      injection h with h
      have := ofNat_inj (by omega) (by omega) h; omega
    · rw [itoa_small hu0 c, itoa_two (by omega) hv] at h; simp at h
  · by_cases d : v < 10
    · rw [itoa_two (by omega) hu, itoa_small hv0 d] at h; simp at h
    · rw [itoa_two (by omega) hu, itoa_two (by omega) hv] at h
      injection h with h h2
      injection h2 with h2
      have := ofNat_inj (by omega) (by omega) h
      have := ofNat_inj (by omega) (by omega) h2
      omega
theorem okVal_cases {x : Int} (h : okVal x = true) : (isNul x = true ∧ fvL x = 110 :: Lib.itoa (-1 - x) ∧ 0 ≤ -1 - x ∧ -1 - x < 40) ∨ (isNul x = false ∧ fvL x = Lib.itoa x ∧ 0 ≤ x ∧ x ≤ 9) := by
  simp only [okVal, decide_eq_true_eq] at h
  unfold fvL
  by_cases c : isNul x = true
  · rw [if_pos c]
    have c' := c
    simp only [isNul, decide_eq_true_eq] at c'
    exact .inl ⟨c, rfl, by omega, by omega⟩
  · have c' := c
    simp only [isNul, decide_eq_true_eq] at c'
    rw [if_neg c, if_pos (by omega)]
    exact .inr ⟨by simpa using c, rfl, by omega, by omega⟩
/-- Bytes of which values are written: digits and n. -/
theorem fvL_bytes {x : Int} (h : okVal x = true) : (∀ b ∈ fvL x, (48 ≤ b.toNat ∧ b.toNat ≤ 57) ∨ b.toNat = 110) ∧ fvL x ≠ [] := by
  rcases okVal_cases h with ⟨_, e, h0, h1⟩ | ⟨_, e, h0, h1⟩
  · rw [e]
    refine ⟨fun b hb => ?_, by simp⟩
    rcases List.mem_cons.1 hb with rfl | hb
    · exact .inr rfl
    · exact .inl ((itoa_bytes h0 (by omega)).1 b hb)
  · rw [e]
    exact ⟨fun b hb => .inl ((itoa_bytes h0 (by omega)).1 b hb), (itoa_bytes h0 (by omega)).2.1⟩
theorem fvL_len (x : Int) : (fvL x).length ≤ 3 := by
  unfold fvL
  by_cases c : isNul x = true
  · have c' := c
    simp only [isNul, decide_eq_true_eq] at c'
    rw [if_pos c]
    have := (itoa_bytes (u := -1 - x) (by omega) (by omega)).2.2
    simp; omega
  · rw [if_neg c]
    split
    · have := (itoa_bytes (u := x) (by omega) (by omega)).2.2
      omega
    · simp
theorem fvL_inj {x y : Int} (hx : okVal x = true) (hy : okVal y = true) (h : fvL x = fvL y) : x = y := by
  rcases okVal_cases hx with ⟨_, e, h0, h1⟩ | ⟨_, e, h0, h1⟩ <;> rcases okVal_cases hy with ⟨_, e', h0', h1'⟩ | ⟨_, e', h0', h1'⟩
  · rw [e, e'] at h
    injection h with _ h
    have := itoa_inj h0 (by omega) h0' (by omega) h; omega
  · exfalso
    rw [e, e'] at h
    have := (itoa_bytes h0' (by omega)).1 110 (by rw [← h]; exact List.mem_cons_self)
    simp at this
  · exfalso
    rw [e, e'] at h
    have := (itoa_bytes h0 (by omega)).1 110 (by rw [h]; exact List.mem_cons_self)
    simp at this
  · rw [e, e'] at h
    exact itoa_inj h0 (by omega) h0' (by omega) h
/-! A value, read. -/
/-- The first value from i on (d of them) that is written so. -/
def pvF (s : List UInt8) (i : Int) : Nat → Int × Bool
  | 0 => (0, false)
  | d + 1 => if fvL i = s then (i, true) else pvF s (i + 1) d
def parV (s : List UInt8) : Int × Bool := pvF s (-40) 50
theorem pvF_spec (s : List UInt8) : ∀ (d : Nat) (i : Int), ((pvF s i d).2 = true → i ≤ (pvF s i d).1 ∧ (pvF s i d).1 < i + d ∧ fvL (pvF s i d).1 = s) ∧ ((pvF s i d).2 = false → (pvF s i d).1 = 0 ∧ ∀ j, i ≤ j → j < i + d → fvL j ≠ s)
  | 0, i => ⟨fun h => by simp [pvF] at h, fun _ => ⟨rfl, fun j h1 h2 => by omega⟩⟩
  | d + 1, i => by
    have ih := pvF_spec s d (i + 1)
    unfold pvF
    by_cases c : fvL i = s
    · rw [if_pos c]
      exact ⟨fun _ => ⟨by simp, by simp; omega, c⟩, fun h => by cases h⟩
    · rw [if_neg c]
      refine ⟨fun h => ?_, fun h => ⟨(ih.2 h).1, fun j h1 h2 => ?_⟩⟩
      · have := ih.1 h; exact ⟨by omega, by omega, this.2.2⟩
      · by_cases e : j = i
        · rw [e]; exact c
        · exact (ih.2 h).2 j (by omega) (by omega)
theorem parV_true {s : List UInt8} (h : (parV s).2 = true) : okVal (parV s).1 = true ∧ fvL (parV s).1 = s := by
  have := (pvF_spec s 50 (-40)).1 h
  refine ⟨?_, this.2.2⟩
  simp only [okVal, decide_eq_true_eq]
  unfold parV
  omega
theorem parV_fmt {x : Int} (h : okVal x = true) : parV (fvL x) = (x, true) := by
  have hx := h
  simp only [okVal, decide_eq_true_eq] at hx
  have hs := pvF_spec (fvL x) 50 (-40)
  cases hb : (parV (fvL x)).2 with
  | false => exact absurd rfl ((hs.2 hb).2 x (by omega) (by omega))
  | true =>
    obtain ⟨h1, h2⟩ := parV_true hb
    have := fvL_inj h1 h h2
    exact Prod.ext this hb
theorem parV_bd (s : List UInt8) : -40 ≤ (parV s).1 ∧ (parV s).1 ≤ 9 := by
  have hs := pvF_spec s 50 (-40)
  cases hb : (parV s).2 with
  | false => have : (parV s).1 = 0 := (hs.2 hb).1; omega
  | true => have := (parV_true hb).1; simpa [okVal] using this
/-! Relations, read. -/
/-- The plus sign ahead of a source relation's name, cut off. -/
def cutP : List UInt8 → List UInt8 × Bool
  | [] => ([], false)
  | b :: r => if b = 43 then (r, true) else (b :: r, false)
/-- One relation, as it is read. -/
def parW (w : List UInt8) : Option Rel := match cutP w with
  | ([a, b], s) => some (strB [a], (b.toNat : Int) - 48, s)
  | _ => none
def parL (s : List UInt8) : List (List UInt8) → List Rel → List Rel × Bool
  | [], out => if fmtR out = s then (out, true) else ([], false)
  | w :: r, out => match parW w with
    | some x => parL s r (out ++ [x])
    | none => ([], false)
def parR (s : List UInt8) : List Rel × Bool := if s = [] then ([], true) else parL s (cutS 32 s) []
theorem parW_some {w : List UInt8} {a b : UInt8} {s : Bool} (h : cutP w = ([a, b], s)) : parW w = some (strB [a], (b.toNat : Int) - 48, s) := by unfold parW; rw [h]
theorem parW_none {w : List UInt8} (h : (cutP w).1.length ≠ 2) : parW w = none := by
  unfold parW
  split
  · rename_i a b s e; rw [e] at h; simp at h
  · rfl
theorem parL_true {s : List UInt8} : ∀ (ws : List (List UInt8)) (out : List Rel), ((parL s ws out).2 = true → fmtR (parL s ws out).1 = s) ∧ ((parL s ws out).2 = false → (parL s ws out).1 = [])
  | [], out => by
    rw [parL]
    split
    · rename_i h; exact ⟨fun _ => h, fun h => by cases h⟩
    · exact ⟨fun h => (by cases h), fun _ => rfl⟩
  | w :: r, out => by
    rw [parL]
    split
    · exact parL_true r _
    · exact ⟨fun h => (by cases h), fun _ => rfl⟩
theorem fmtR_nil : fmtR [] = [] := by unfold fmtR; split <;> simp [join_nil']
theorem parR_true (s : List UInt8) : ((parR s).2 = true → fmtR (parR s).1 = s) ∧ ((parR s).2 = false → (parR s).1 = []) := by
  unfold parR
  split
  · rename_i h; exact ⟨fun _ => by rw [h]; exact fmtR_nil, fun h => by cases h⟩
  · exact parL_true _ _
theorem okRel_bytes {r : Rel} (h : okRel r = true) : ∃ b : UInt8, r.1 = strB [b] ∧ 97 ≤ b.toNat ∧ b.toNat ≤ 122 ∧ 1 ≤ r.2.1 ∧ r.2.1 ≤ 3 := by
  simp only [okRel, decide_eq_true_eq] at h
  obtain ⟨h1, h2, h3, h4, h5⟩ := h
  have hs : r.1.data.toList.length = 1 := by rw [Array.length_toList]; exact h1
  obtain ⟨b, hb⟩ : ∃ b, r.1.data.toList = [b] := by
    match hl : r.1.data.toList, hs with
    | [b], _ => exact ⟨b, rfl⟩
  have e : r.1 = strB [b] := by rw [← hb, strB_self]
  have hbt : bt r.1 0 = (b.toNat : Int) := by rw [e]; exact bt_strB [b] 0 (by simp)
  rw [hbt] at h2 h3
  exact ⟨b, e, by omega, by omega, h4, h5⟩
theorem relL_ok {r : Rel} (h : okRel r = true) : parW (relL r) = some r ∧ (∀ b ∈ relL r, b.toNat = 43 ∨ (48 ≤ b.toNat ∧ b.toNat ≤ 122 ∧ b.toNat ≠ 59)) ∧ (relL r).length ≤ 3 := by
  obtain ⟨b, e, h1, h2, h3, h4⟩ := okRel_bytes h
  have hi := itoa_small (u := r.2.1) (by omega) (by omega)
  obtain ⟨n, a, s⟩ := r
  simp only at e h3 h4 hi
  subst e
  have hb43 : b ≠ 43 := by rintro rfl; simp at h1
  have ha : (((UInt8.ofNat (48 + a.toNat)).toNat : Nat) : Int) - 48 = a := by simp; omega
  unfold relL
  simp only [strB_data, hi]
  cases s with
  | true =>
    refine ⟨?_, fun x hx => ?_, by simp⟩
    · rw [parW_some (a := b) (b := UInt8.ofNat (48 + a.toNat)) (s := true) (by simp [cutP]), ha]
    · simp at hx
      rcases hx with rfl | rfl | rfl
      · exact .inl rfl
      · exact .inr ⟨by omega, by omega, by omega⟩
      · exact .inr ⟨by simp; omega, by simp; omega, by simp; omega⟩
  | false =>
    refine ⟨?_, fun x hx => ?_, by simp⟩
    · rw [parW_some (a := b) (b := UInt8.ofNat (48 + a.toNat)) (s := false) (by simp [cutP, hb43]), ha]
    · simp at hx
      rcases hx with rfl | rfl
      · exact .inr ⟨by omega, by omega, by omega⟩
      · exact .inr ⟨by simp; omega, by simp; omega, by simp; omega⟩
theorem parL_all {s : List UInt8} : ∀ (rs out : List Rel), (∀ r ∈ rs, okRel r = true) → parL s (rs.map relL) out = if fmtR (out ++ rs) = s then (out ++ rs, true) else ([], false)
  | [], out, _ => by rw [List.map_nil, parL, List.append_nil]
  | r :: rs, out, h => by
    rw [List.map_cons, parL, (relL_ok (h r List.mem_cons_self)).1]
    simp only
    rw [parL_all rs (out ++ [r]) (fun x hx => h x (List.mem_cons_of_mem _ hx)), List.append_assoc, List.singleton_append]
theorem join_ne {sep : List UInt8} {ws : List (List UInt8)} (h : ws ≠ []) (hw : ∀ w ∈ ws, w ≠ []) : Lib.join ws sep ≠ [] := by
  cases ws with
  | nil => exact absurd rfl h
  | cons w r =>
    rw [Lib.join_cons]
    have := hw w List.mem_cons_self
    intro e
    exact this (List.append_eq_nil_iff.1 e).1
theorem relL_ne {r : Rel} (h : okRel r = true) : relL r ≠ [] := by
  obtain ⟨b, e, _⟩ := okRel_bytes h
  unfold relL
  rw [e, strB_data]
  simp
theorem parR_fmt {rs : List Rel} (h : okRels rs = true) : parR (fmtR rs) = (rs, true) := by
  have hm := okRels_mem h
  have hf : fmtR rs = Lib.join (rs.map relL) [32] := by unfold fmtR; rw [if_pos h]
  by_cases c : rs = []
  · subst c
    unfold parR
    rw [fmtR_nil, if_pos rfl]
  · have hne : fmtR rs ≠ [] := by
      rw [hf]
      exact join_ne (by simpa using c) (fun w hw => by obtain ⟨r, hr, rfl⟩ := List.mem_map.1 hw; exact relL_ne (hm r hr))
    unfold parR
    rw [if_neg hne]
    have hc : cutS 32 (fmtR rs) = rs.map relL := by
      rw [hf]
      refine cutS_join _ (by simpa using c) (fun w hw h32 => ?_)
      obtain ⟨r, hr, rfl⟩ := List.mem_map.1 hw
      have := (relL_ok (hm r hr)).2.1 32 h32
      simp at this
    rw [hc, parL_all rs [] hm, List.nil_append, if_pos rfl]
/-! A fact, read. -/
/-- Its candidate. -/
def canF (rs : List Rel) (s : List UInt8) : Fct := (idxFrom (fun r : Rel => decide (r.1.data.toList = (Lib.cut s [40]).1)) rs 0, (cutS 44 (Lib.trimSuffix (Lib.cut s [40]).2.1 [41])).map fun w => (parV w).1)
def parF (rs : List Rel) (s : List UInt8) : Fct × Bool := if (Lib.cut s [40]).2.2 = true ∧ fmtF rs (canF rs s) = s then (canF rs s, true) else ((0, []), false)
theorem strLt_ne {a b : ByteArray} (h : strLt a b = true) : a ≠ b := by
  rintro rfl
  unfold strLt at h
  rw [bl_irrefl] at h; cases h
theorem bl_trans : ∀ a b c : List UInt8, Op.bytesLess a b = true → Op.bytesLess b c = true → Op.bytesLess a c = true
  | _, [], _, h, _ => by simp [Op.bytesLess] at h
  | _, _ :: _, [], _, h => by simp [Op.bytesLess] at h
  | [], _ :: _, _ :: _, _, _ => by simp [Op.bytesLess]
  | x :: a, y :: b, z :: c, h1, h2 => by
    simp only [Op.bytesLess, Bool.or_eq_true, Bool.and_eq_true, decide_eq_true_eq, beq_iff_eq] at h1 h2 ⊢
    rcases h1 with h1 | ⟨rfl, h1⟩
    · rcases h2 with h2 | ⟨rfl, h2⟩
      · left; rw [UInt8.lt_iff_toNat_lt] at *; omega
      · exact .inl h1
    · rcases h2 with h2 | ⟨rfl, h2⟩
      · exact .inl h2
      · exact .inr ⟨rfl, bl_trans a b c h1 h2⟩
theorem relsFrom_names : ∀ {l : List Rel} {p : Option ByteArray}, relsFrom p l = true → (∀ s, p = some s → ∀ r ∈ l, strLt s r.1 = true) ∧ l.Pairwise (fun a b => strLt a.1 b.1 = true)
  | [], p, _ => ⟨fun s _ r hr => (by cases hr), List.Pairwise.nil⟩
  | x :: l, p, h => by
    simp only [relsFrom, Bool.and_eq_true] at h
    obtain ⟨⟨h1, h2⟩, h3⟩ := h
    obtain ⟨h4, h5⟩ := relsFrom_names h3
    have h6 := h4 x.1 rfl
    refine ⟨fun s hs r hr => ?_, List.pairwise_cons.2 ⟨h6, h5⟩⟩
    subst hs
    have h2' : strLt s x.1 = true := h2
    rcases List.mem_cons.1 hr with rfl | hr
    · exact h2'
    · exact bl_trans _ _ _ h2' (h6 r hr)
theorem idx_name {rs : List Rel} (h : okRels rs = true) (k : Nat) (hk : k < rs.length) : idxFrom (fun r : Rel => decide (r.1.data.toList = rs[k].1.data.toList)) rs 0 = (k : Int) := by
  have hp := (relsFrom_names (Bool.and_eq_true_iff.1 h).1).2
  have key : ∀ (l : List Rel) (i j : Nat) (hj : j < l.length), l.Pairwise (fun a b => strLt a.1 b.1 = true) → idxFrom (fun r : Rel => decide (r.1.data.toList = l[j].1.data.toList)) l i = ((i + j : Nat) : Int) := by
    intro l
    induction l with
    | nil => intro i j hj; simp at hj
    | cons x l ih =>
      intro i j hj hp
      rw [List.pairwise_cons] at hp
      unfold idxFrom
      cases j with
      | zero => simp
      | succ j =>
        have hj' : j < l.length := by simpa using hj
        have hlt := hp.1 l[j] (List.getElem_mem hj')
        have hne : ¬ x.1.data.toList = l[j].1.data.toList := fun e => strLt_ne hlt (by rw [← strB_self x.1, e, strB_self])
        simp only [List.getElem_cons_succ, hne, decide_false, Bool.false_eq_true, if_false]
        rw [ih (i + 1) j hj' hp.2]
        congr 1; omega
  have := key rs 0 k hk hp
  rwa [Nat.zero_add] at this
theorem okFact_parts {rs : List Rel} {f : Fct} (h : okFact rs f = true) : ∃ k : Nat, ∃ hk : k < rs.length, f.1 = (k : Int) ∧ nameL rs f.1 = rs[k].1.data.toList ∧ (∃ b : UInt8, rs[k].1.data.toList = [b] ∧ 97 ≤ b.toNat ∧ b.toNat ≤ 122) ∧ f.2 ≠ [] ∧ (∀ v ∈ f.2, okVal v = true) := by
  have h0 := okFact_at h
  have hr := okFact_rels h
  obtain ⟨k, hk⟩ := Int.eq_ofNat_of_zero_le h0.1
  have hkl : k < rs.length := by omega
  have hok := okRels_mem hr rs[k] (List.getElem_mem hkl)
  obtain ⟨b, e, h1, h2, h3, h4⟩ := okRel_bytes hok
  simp only [okFact, Bool.and_eq_true, decide_eq_true_eq, List.all_eq_true] at h
  have ha : arity rs f.1 = rs[k].2.1 := by rw [hk]; simp [arity, hkl]
  refine ⟨k, hkl, hk, by rw [hk]; simp [nameL, hkl], ⟨b, by rw [e, strB_data], h1, h2⟩, fun e => ?_, h.2⟩
  have := h.1.2
  rw [e, ha] at this
  simp at this; omega
theorem fmtF_ok {rs : List Rel} {f : Fct} (h : okFact rs f = true) : ∃ b : UInt8, fmtF rs f = b :: 40 :: (Lib.join (f.2.map fvL) [44] ++ [41]) ∧ 97 ≤ b.toNat ∧ b.toNat ≤ 122 ∧ nameL rs f.1 = [b] := by
  obtain ⟨k, hk, e1, e2, ⟨b, e3, h1, h2⟩, _, _⟩ := okFact_parts h
  refine ⟨b, ?_, h1, h2, by rw [e2, e3]⟩
  unfold fmtF
  rw [if_pos h, e2, e3]; rfl
theorem canF_fmt {rs : List Rel} {f : Fct} (h : okFact rs f = true) : canF rs (fmtF rs f) = f ∧ Lib.cut (fmtF rs f) [40] = (nameL rs f.1, Lib.join (f.2.map fvL) [44] ++ [41], true) := by
  obtain ⟨k, hk, e1, e2, ⟨b, e3, h1, h2⟩, hne, hv⟩ := okFact_parts h
  have hf : fmtF rs f = nameL rs f.1 ++ 40 :: (Lib.join (f.2.map fvL) [44] ++ [41]) := by unfold fmtF; rw [if_pos h]
  have hc : Lib.cut (fmtF rs f) [40] = (nameL rs f.1, Lib.join (f.2.map fvL) [44] ++ [41], true) := by
    rw [hf]
    refine cut_app _ ?_
    rw [e2, e3]
    intro hm
    rw [List.mem_singleton] at hm
    subst hm
    simp at h1
  refine ⟨?_, hc⟩
  unfold canF
  rw [hc]
  simp only
  have hcs : cutS 44 (Lib.join (f.2.map fvL) [44]) = f.2.map fvL := cutS_join _ (by simpa using hne) (fun w hw h44 => by
    obtain ⟨v, hv', rfl⟩ := List.mem_map.1 hw
    have := (fvL_bytes (hv v hv')).1 44 h44
    simp at this)
  rw [trim_app, hcs, e2]
  have hid := idx_name (okFact_rels h) k hk
  rw [hid, List.map_map]
  have hmap : f.2.map ((fun w => (parV w).1) ∘ fvL) = f.2.map id := List.map_congr_left fun v hv' => by
    show (parV (fvL v)).1 = v
    rw [parV_fmt (hv v hv')]
  rw [hmap, List.map_id, ← e1]
theorem parF_fmt {rs : List Rel} {f : Fct} (h : okFact rs f = true) : parF rs (fmtF rs f) = (f, true) := by
  obtain ⟨h1, h2⟩ := canF_fmt h
  unfold parF
  rw [h1, h2, if_pos ⟨rfl, rfl⟩]
theorem parF_true {rs : List Rel} {s : List UInt8} : ((parF rs s).2 = true → okFact rs (parF rs s).1 = true ∧ fmtF rs (parF rs s).1 = s) ∧ ((parF rs s).2 = false → (parF rs s).1 = (0, []) ∧ ∀ f, okFact rs f = true → fmtF rs f ≠ s) := by
  constructor
  · intro h
    unfold parF at h ⊢
    split at h
    · rename_i hc
      rw [if_pos hc]
      refine ⟨?_, hc.2⟩
      cases hb : okFact rs (canF rs s) with
      | true => rfl
      | false =>
        have h2 := hc.2
        unfold fmtF at h2
        rw [hb] at h2
        have h3 : s = [] := h2.symm
        have h1 := hc.1
        rw [h3, cut_none (by simp)] at h1
        cases h1
    · cases h
  · intro h
    refine ⟨?_, fun f hf e => ?_⟩
    · unfold parF at h ⊢
      split at h
      · cases h
      · rename_i hc; rw [if_neg hc]
    · rw [← e, parF_fmt hf] at h; cases h
/-! An instance, read. -/
end Go.Proofs.YtgemaohdlibboaaGreatDoor.H
/- Walks: the program's own small functions on values and relations. No condition. -/
namespace Go.Proofs.YtgemaohdlibboaaGreatDoor.H
open Go Go.RowKit Go.Proofs.YtgemaohdlibboaaGreatDoorW.PrintWords Go.Proofs.YtgemaohdlibboaaGreatDoorW.PrintLast
open Go.Proofs.YtgemaohdlibboaaGreatDoor.Reg (On on_draw)
set_option maxHeartbeats 1000000
set_option maxRecDepth 100000
set_option linter.unusedVariables false
set_option linter.unusedSimpArgs false

theorem within_calls (w : World) (x a b : Int) : Calls Tryz.prog 91 #[.int .i64 x, .int .i64 a, .int .i64 b] w fun e w' => e = .returned (.bool (within x a b)) ∧ On w w' := by
  by_cases h1 : a ≤ x
  · have h1' : decide (a ≤ x) = true := by simpa using h1
    go_enter Tryz.func91, Tryz.ntmps91
    go_wp2
    go_ret
    exact ⟨by simp [within, h1], On.refl _⟩
  · have h1' : decide (a ≤ x) = false := by simpa using h1
    go_enter Tryz.func91, Tryz.ntmps91
    go_wp2
    go_ret
    exact ⟨by simp [within]; omega, On.refl _⟩
theorem iIsValidValue_calls (w : World) (v : Int) : Calls Tryz.prog 92 #[.int .i64 v] w fun e w' => e = .returned (.bool (okVal v)) ∧ On w w' := by
  go_enter Tryz.func92, Tryz.ntmps92
  go_wp2_with (go_at_call 91; refine (within_calls _ _ _ _).mono ?_; rintro e w1 ⟨rfl, hb1⟩)
  go_ret
  exact ⟨ret_bool (by simp only [okVal, within]), hb1⟩
theorem str1_lt (s : ByteArray) (h : s.size = 1) (c : UInt8) : Op.bytesLess s.toList [c] = decide (bt s 0 < c.toNat) ∧ Op.bytesLess [c] s.toList = decide ((c.toNat : Int) < bt s 0) ∧ (s.toList == [c]) = decide (bt s 0 = c.toNat) := by
  have hl : s.data.toList.length = 1 := by simpa using h
  obtain ⟨x, hx⟩ := List.length_eq_one_iff.1 hl
  have e1 : s.toList = [x] := by rw [ByteArray.toList_eq]; exact hx
  have e2 : bt s 0 = x.toNat := by
    have h0 : (0 : Int).toNat < s.size := by simp [h]
    unfold bt
    rw [dif_pos h0]
    have : s[(0 : Int).toNat] = x := by
      show s.data[(0:Int).toNat] = x
      have h1 : 0 < s.data.size := by have : s.data.size = 1 := h; omega
      have := Array.getElem_toList (xs := s.data) (i := 0) h1
      simp only [Int.toNat_zero]
      rw [← this]
      simp [hx]
    rw [this]
  rw [e1, e2]
  refine ⟨?_, ?_, ?_⟩
  · simp [Op.bytesLess, UInt8.lt_iff_toNat_lt]
  · simp [Op.bytesLess, UInt8.lt_iff_toNat_lt]
  · rw [Bool.eq_iff_iff]; simp [← UInt8.toNat_inj]; omega
theorem iIsValidRelation_calls (w : World) (r : Rel) : Calls Tryz.prog 122 #[.agg #[.string r.1, .int .i64 r.2.1, .bool r.2.2]] w fun e w' => e = .returned (.bool (okRel r)) ∧ On w w' := by
  by_cases h1 : (r.1.size : Int) = 1
  · have h1b : ((r.1.size : Int) == 1) = true := beq_iff_eq.mpr h1
    have e1 : Op.bytesLess r.1.toList [97] = decide (bt r.1 0 < 97) := (str1_lt r.1 (by omega) 97).1
    have e2 : Op.bytesLess r.1.toList [122] = decide (bt r.1 0 < 122) := (str1_lt r.1 (by omega) 122).1
    have e3 : (r.1.toList == [122]) = decide (bt r.1 0 = 122) := (str1_lt r.1 (by omega) 122).2.2
    have e4 : (r.1.toList = [122]) = (bt r.1 0 = 122) := by
      apply propext; have := Bool.eq_iff_iff.1 e3; simpa using this
    go_enter Tryz.func122, Tryz.ntmps122
    go_wp2_with (go_at_call 91; refine (within_calls _ _ _ _).mono ?_; rintro e w2 ⟨rfl, hb2⟩)
    all_goals
      go_ret
      first | exact ⟨ret_bool (by rw [Bool.eq_iff_iff]; simp [okRel, within]; omega), (On.alloc (On.refl _) _).trans hb2⟩ | exact ⟨ret_bool (by simp [okRel]; omega), On.alloc (On.refl _) _⟩
  · have h1b : ((r.1.size : Int) == 1) = false := beq_eq_false_iff_ne.mpr h1
    go_enter Tryz.func122, Tryz.ntmps122
    go_wp2
    go_ret
    exact ⟨ret_bool (by simp [okRel]; omega), On.alloc (On.refl _) _⟩
theorem iAreValidRelations_calls (w : World) (A : Option Addr) (c : Nat) (l : List Rel) (h : Rels w A c l) : Calls Tryz.prog 49 #[.slice A l.length c] w fun e w' => e = .returned (.bool (okRels l)) ∧ On w w' := by
  have hmax := h.max
  go_enter Tryz.func49, Tryz.ntmps49
  go_wp2
  go_loopw [7] (fun v wr => ∃ k : Nat, k ≤ l.length ∧ v = .int .i64 k ∧ Hid (relsFrom (prevName l k) (l.drop k) = relsFrom none l) ∧ On w wr) (fun v _ => l.length - (intOf v).toNat)
  case atStart => exact ⟨0, Nat.zero_le _, rfl, rfl, On.refl _⟩
  case round =>
    obtain ⟨k, hk, rfl, hp, hB⟩ := hrel
    by_cases hlt : k < l.length
    · obtain ⟨ad, rfl, hx0, hx1, hx2⟩ := (h.on hB).at k hlt
      have hp' := Aside0.mk ((relsFrom_step l k hlt).symm.trans hp.out)
      have hfill := alloc_fill3 wr
      have hbx := Aside0.mk (On.alloc (On.refl wr) (.cells #[.string l[k].1, .int .i64 l[k].2.1, .bool l[k].2.2] 95))
      have hB2 := Aside0.mk (hB.trans hbx.out)
      have hcn := blk_cell (loc_new wr #[.string l[k].1, .int .i64 l[k].2.1, .bool l[k].2.2] 95)
      clear hp
      cases hok : okRel l[k] with
      | false =>
        have hok' := Aside0.mk hok
        clear hok
        go_wp2
        refine Reg.region [(0,.L),(1,.C),(2,.L),(3,.L),(4,.L),(5,.L),(6,.L),(7,.L),(8,.L),(9,.L),(10,.L),(11,.L),(12,.L),(13,.L),(14,.L),(15,.L),(16,.L),(17,.L)] [] (by kernel_rfl) (by kernel_rfl) ?_
        repeat first | refine sP ?_ | refine sS ?_ | refine sA ?_ | refine sL ?_ | refine sQ ?_ | refine sO ?_
        refine callC (.bool false) Tryz.func122 (fun w' hS => ?_) ?_
        focus exact (iIsValidRelation_calls w' l[k]).mono fun e w'' h => ⟨by rw [h.1, hok'.out], h.2⟩
        repeat first | refine sP ?_ | refine sS ?_ | refine sA ?_ | refine sL ?_ | refine sQ ?_ | refine sO ?_
        refine Reg.nil fun w2 hS => ?_
        go_wp2
        go_ret
        exact ⟨ret_bool (by have := hp'.out; rw [hok'.out] at this; simp at this; simp [okRels, this]), hB2.out.trans hS⟩
      | true =>
        have hok' := Aside0.mk hok
        clear hok
        by_cases hk0 : 0 < k
        · have hk0' : decide (0 < (k : Int)) = true := decide_eq_true (by omega)
          have hki : IntKind.i64.wrap ((k : Int) - 1) = ((k - 1 : Nat) : Int) := by rw [IntWalk.i64_in _ (by omega)]; omega
          have hk1 : k - 1 < l.length := by omega
          obtain ⟨ad', e', hy0, _, _⟩ := (h.on hB2.out).at (k - 1) hk1
          obtain rfl : ad = ad' := by simpa using e'
          have hpn : prevName l k = some l[k - 1].1 := by simp [prevName, show ¬ k = 0 by omega, show k - 1 < l.length by omega]
          rw [hpn] at hp'
          replace hp' : Aside0 ((okRel l[k] && strLt l[k - 1].1 l[k].1 && relsFrom (prevName l (k + 1)) (l.drop (k + 1))) = relsFrom none l) := hp'
          cases hs : strLt l[k - 1].1 l[k].1 with
          | true =>
            have hs1 : Op.bytesLess l[k - 1].1.toList l[k].1.toList = true := hs
            have hs2 := bl_asymm _ _ hs1
            have hs3 := bl_ne hs1
            have hs4 := bl_ne' hs1
            have hs' := Aside0.mk hs
            clear hs
            go_wp2
            refine Reg.region [(0,.L),(1,.C),(2,.L),(3,.L),(4,.L),(5,.L),(6,.L),(7,.L),(8,.L),(9,.L),(10,.L),(11,.L),(12,.L),(13,.L),(14,.L),(15,.L),(16,.L),(17,.L)] [] (by kernel_rfl) (by kernel_rfl) ?_
            repeat first | refine sP ?_ | refine sS ?_ | refine sA ?_ | refine sL ?_ | refine sQ ?_ | refine sO ?_
            refine callC (.bool true) Tryz.func122 (fun w' hS => ?_) ?_
            focus exact (iIsValidRelation_calls w' l[k]).mono fun e w'' h => ⟨by rw [h.1, hok'.out], h.2⟩
            repeat first | refine sP ?_ | refine sS ?_ | refine sA ?_ | refine sL ?_ | refine sQ ?_ | refine sO ?_
            refine Reg.nil fun w2 hS => ?_
            go_wp2
            go_roundw
            case rel => exact ⟨k + 1, by omega, by go_num, (by have := hp'.out; rw [hok'.out, hs'.out] at this; simpa using this : _ = _), hB2.out.trans hS⟩
            case measure => simp [intOf]; omega
          | false =>
            have hs1 : Op.bytesLess l[k - 1].1.toList l[k].1.toList = false := hs
            have hs2 := bl_total _ _ hs1
            have hs' := Aside0.mk hs
            clear hs
            go_wp2
            refine Reg.region [(0,.L),(1,.C),(2,.L),(3,.L),(4,.L),(5,.L),(6,.L),(7,.L),(8,.L),(9,.L),(10,.L),(11,.L),(12,.L),(13,.L),(14,.L),(15,.L),(16,.L),(17,.L)] [] (by kernel_rfl) (by kernel_rfl) ?_
            repeat first | refine sP ?_ | refine sS ?_ | refine sA ?_ | refine sL ?_ | refine sQ ?_ | refine sO ?_
            refine callC (.bool true) Tryz.func122 (fun w' hS => ?_) ?_
            focus exact (iIsValidRelation_calls w' l[k]).mono fun e w'' h => ⟨by rw [h.1, hok'.out], h.2⟩
            repeat first | refine sP ?_ | refine sS ?_ | refine sA ?_ | refine sL ?_ | refine sQ ?_ | refine sO ?_
            refine Reg.nil fun w2 hS => ?_
            go_wp2
            go_ret
            exact ⟨ret_bool (by have := hp'.out; rw [hok'.out, hs'.out] at this; simp at this; simp [okRels, this]), hB2.out.trans hS⟩
        · have hk0' : decide (0 < (k : Int)) = false := decide_eq_false (by omega)
          have hpn : prevName l k = none := by simp [prevName, show k = 0 by omega]
          rw [hpn] at hp'
          replace hp' : Aside0 ((okRel l[k] && true && relsFrom (prevName l (k + 1)) (l.drop (k + 1))) = relsFrom none l) := hp'
          go_wp2
          refine Reg.region [(0,.L),(1,.C),(2,.L),(3,.L),(4,.L),(5,.L),(6,.L),(7,.L),(8,.L),(9,.L),(10,.L),(11,.L),(12,.L),(13,.L),(14,.L),(15,.L),(16,.L),(17,.L)] [] (by kernel_rfl) (by kernel_rfl) ?_
          repeat first | refine sP ?_ | refine sS ?_ | refine sA ?_ | refine sL ?_ | refine sQ ?_ | refine sO ?_
          refine callC (.bool true) Tryz.func122 (fun w' hS => ?_) ?_
          focus exact (iIsValidRelation_calls w' l[k]).mono fun e w'' h => ⟨by rw [h.1, hok'.out], h.2⟩
          repeat first | refine sP ?_ | refine sS ?_ | refine sA ?_ | refine sL ?_ | refine sQ ?_ | refine sO ?_
          refine Reg.nil fun w2 hS => ?_
          go_wp2
          go_roundw
          case rel => exact ⟨k + 1, by omega, by go_num, (by have := hp'.out; rw [hok'.out] at this; simpa using this : _ = _), hB2.out.trans hS⟩
          case measure => simp [intOf]; omega
    · go_wp2
      go_ret
      have e1 : relsFrom none l = true := by rw [← hp.out, List.drop_of_length_le (by omega)]; cases prevName l k <;> rfl
      exact ⟨ret_bool (by simp [okRels, e1]; omega), hB⟩
end Go.Proofs.YtgemaohdlibboaaGreatDoor.H
/- Walks: numbers and values, written and read, on both sides. No condition. -/
namespace Go.Proofs.YtgemaohdlibboaaGreatDoor.H
open Go Go.RowKit Go.Proofs.YtgemaohdlibboaaGreatDoorW.PrintWords Go.Proofs.YtgemaohdlibboaaGreatDoorW.PrintLast
open Go.Proofs.YtgemaohdlibboaaGreatDoor.Reg (On on_draw)
set_option maxHeartbeats 4000000
set_option maxRecDepth 100000
set_option linter.unusedVariables false
set_option linter.unusedSimpArgs false

theorem iFormatInt_calls (w : World) (x : Int) (h0 : 0 ≤ x) (h1 : x < 100) : Calls Tryz.prog 107 #[.int .i64 x] w fun e w' => e = .returned (.string (strB (Lib.itoa x))) ∧ On w w' := by
  obtain ⟨n, rfl⟩ := Int.eq_ofNat_of_zero_le h0
  have e : strB (Lib.itoa (n : Int)) = ⟨(Lib.decDigits n).toArray⟩ := by unfold strB Lib.itoa; rw [if_neg (by omega)]; simp
  rw [e]
  go_enter Tryz.func107, Tryz.ntmps107
  go_wp2_with (go_at_call 166; refine (Tryz.strconv_Itoa_small n (by omega) _).mono ?_; rintro e w1 ⟨rfl, rfl⟩)
  go_ret
  exact ⟨rfl, On.refl _⟩
theorem digits_step (u : Nat) (h : 10 ≤ u) : Lib.decDigits u = Lib.decDigits (u / 10) ++ [UInt8.ofNat (48 + u % 10)] := by rw [Lib.decDigits, dif_neg (by omega)]
theorem digits_one (u : Nat) (h : u < 10) : Lib.decDigits u = [UInt8.ofNat (48 + u)] := by rw [Lib.decDigits, dif_pos h]
theorem str_one (d : Nat) : strOfNums [((48 + d : Nat) : Int) % 256] = strB [UInt8.ofNat (48 + d)] := by
  have e1 : (((48 + d : Nat) : Int) % 256).toNat = (48 + d) % 256 := by omega
  have e2 : UInt8.ofNat ((48 + d) % 256) = UInt8.ofNat (48 + d) := by apply UInt8.toNat_inj.1; simp
  unfold strOfNums strB
  simp only [List.map_cons, List.map_nil, e1, e2]
theorem sFormatInt_calls (w : World) (x : Int) (h0 : 0 ≤ x) (h1 : x < 100) : Calls Tryz.prog 162 #[.int .i64 x] w fun e w' => e = .returned (.string (strB (Lib.itoa x))) ∧ On w w' := by
  obtain ⟨u, rfl⟩ := Int.eq_ofNat_of_zero_le h0
  by_cases c : u = 0
  · subst c
    go_enter Tryz.func162, Tryz.ntmps162
    go_wp2
    go_ret
    exact ⟨by rw [itoa_small (by omega) (by omega)]; rfl, On.refl _⟩
  · have b0 : ((u : Int) == 0) = false := beq_eq_false_iff_ne.mpr (by omega)
    have b1 : ((u : Int) != 0) = true := bne_iff_ne.mpr (by omega)
    have bn : decide ((u : Int) < 0) = false := decide_eq_false (by omega)
    have hit := Aside0.mk (show Lib.itoa (u : Int) = Lib.decDigits u by unfold Lib.itoa; rw [if_neg (by omega)]; simp)
    have hu := Aside0.mk (show u < 100 by omega)
    have hc := Aside0.mk c
    clear h0 h1 c
    go_enter Tryz.func162, Tryz.ntmps162
    go_wp2
    clear b0 b1
    go_loopw [0, 3] (fun v0 v3 wr => ∃ (n : Nat) (o : List UInt8), v0 = .int .i64 n ∧ v3 = .string (strB o) ∧ n < 100 ∧ o.length ≤ 2 ∧ Aside0 ((n = u ∧ o = []) ∨ (10 ≤ u ∧ n = u / 10 ∧ o = [UInt8.ofNat (48 + u % 10)]) ∨ (n = 0 ∧ o = Lib.decDigits u)) ∧ On w wr) (fun v0 _ _ => (intOf v0).toNat)
    case atStart => exact ⟨u, [], rfl, rfl, hu.out, by simp, ⟨.inl ⟨rfl, rfl⟩⟩, On.refl _⟩
    case round =>
      obtain ⟨n, o, rfl, rfl, hn, ho, hd, hB⟩ := hrel
      have hB' := Aside0.mk hB
      have hd' := Aside0.mk hd.out
      have hn' := Aside0.mk hn
      have ho' := Aside0.mk ho
      clear hd hB hn ho
      by_cases c : n = 0
      · subst c
        go_wp2
        go_ret
        refine ⟨by rw [hit.out]; rcases hd'.out with ⟨h, _⟩ | ⟨h, h2, _⟩ | ⟨_, h⟩; (have := hc.out; omega); omega; (rw [h]; rfl), hB'.out⟩
      · have c0 : ((n : Int) == 0) = false := beq_eq_false_iff_ne.mpr (by omega)
        have c1 : ((n : Int) != 0) = true := bne_iff_ne.mpr (by omega)
        have c2 : ((n : Int) = 0) = False := eq_false (by omega)
        have hm : Int.tmod (n : Int) 10 = ((n % 10 : Nat) : Int) := rfl
        have hq : wrap64 ((n : Int) / 10) = ((n / 10 : Nat) : Int) := by rw [IntWalk.wrap64_in _ (by have := hn'.out; omega)]; omega
        have hs : decide (((n % 10 : Nat) : Int) < 0) = false := decide_eq_false (by omega)
        have hcc := Aside0.mk c
        have hw1 : wrap64 (48 + ((n % 10 : Nat) : Int)) = ((48 + n % 10 : Nat) : Int) := by rw [IntWalk.wrap64_in _ (by omega)]; omega
        have h1 := str_one (n % 10)
        obtain ⟨dg, hdg⟩ : ∃ dg, UInt8.ofNat (48 + n % 10) = dg := ⟨_, rfl⟩
        rw [hdg] at h1
        have hdg' := Aside0.mk hdg
        have hsz : decide ((strB [dg]).size + (strB o).size ≤ 9223372036854775807) = true := decide_eq_true (by rw [strB_size, strB_size]; have := ho'.out; simp; omega)
        have hsy := eq_true (of_decide_eq_true hsz)
        have hsn : (9223372036854775807 < (strB [dg]).size + (strB o).size) = False := eq_false (Nat.not_lt.2 (of_decide_eq_true hsz))
        clear c hdg
        have hcv : (convert 31 9 (.slice (some ⟨wr.heap.size, 0, none⟩) 1 1)).run Tryz.prog (wr.alloc (.cells #[.int .u8 (48 + (n : Int) % 10)] 5 (0, 0))) = .ok (.string (strB [dg])) (wr.alloc (.cells #[.int .u8 (48 + (n : Int) % 10)] 5 (0, 0))) := by
          have h := own_string (P := Tryz.prog) (xs := [48 + (n : Int) % 10]) Tryz.underlying31 Tryz.underlying5 Tryz.underlying9 (World.ownsRow_lit (base := wr.heap.size) (e := 5) (size := 1) wr #[.int .u8 (48 + (n : Int) % 10)] 1 (Nat.le_refl _) (by simp [maxLen]) (by simp))
          rw [h, ← h1, show ((48 + n % 10 : Nat) : Int) % 256 = 48 + (n : Int) % 10 by omega]
        have hB9 := Aside0.mk (hB'.out.trans (On.alloc (On.refl _) (.cells #[.int .u8 (48 + (n : Int) % 10)] 5 (0, 0))))
        clear h1
        go_wp2
        have hn1 := hn'.out
        have ho1 := ho'.out
        have hd2 := hdg'.out
        refine ⟨⟨n / 10, dg :: o, by rw [hq], by rw [strB_append]; rfl, by omega, ?_, ⟨?_⟩, hB9.out⟩, by rw [hq]; simp [intOf]; have := hcc.out; omega⟩
        · rcases hd'.out with ⟨h, h2⟩ | ⟨h, h2, h3⟩ | ⟨h, h2⟩
          · rw [h2]; simp
          · rw [h3]; simp
          · exact absurd h hcc.out
        · rcases hd'.out with ⟨h, h2⟩ | ⟨h, h2, h3⟩ | ⟨h, h2⟩
          · subst h2
            by_cases d : u < 10
            · refine .inr (.inr ⟨by omega, ?_⟩)
              rw [digits_one u d, ← hd2, h, Nat.mod_eq_of_lt d]
            · exact .inr (.inl ⟨by omega, by rw [h], by rw [← hd2, h]⟩)
          · refine .inr (.inr ⟨by have := hu.out; omega, ?_⟩)
            rw [h3, digits_step u h, digits_one (u / 10) (by have := hu.out; omega), ← hd2, h2, Nat.mod_eq_of_lt (by have := hu.out; omega)]; rfl
          · exact absurd h hcc.out
theorem fvL_nul {v : Int} (h : isNul v = true) : fvL v = 110 :: Lib.itoa (-1 - v) := by unfold fvL; rw [if_pos h]
theorem fvL_pos {v : Int} (h : isNul v = false) (h1 : 0 ≤ v ∧ v ≤ 9) : fvL v = Lib.itoa v := by unfold fvL; rw [h, if_neg (by simp), if_pos h1]
theorem fvL_not {v : Int} (h : okVal v = false) : fvL v = [] := by
  simp only [okVal, decide_eq_false_iff_not] at h
  unfold fvL
  rw [if_neg (by simp only [isNul, decide_eq_true_eq]; omega), if_neg (by omega)]
theorem cat_n (l : List UInt8) : (⟨#[110]⟩ : ByteArray) ++ strB l = strB (110 :: l) := by rw [show (⟨#[110]⟩ : ByteArray) = strB [110] from rfl, strB_append]; rfl
theorem iIsNull_calls (w : World) (v : Int) : Calls Tryz.prog 161 #[.int .i64 v] w fun e w' => e = .returned (.bool (decide (v < 0))) ∧ On w w' := by
  go_enter Tryz.func161, Tryz.ntmps161
  go_wp2
  go_ret
  exact ⟨rfl, On.refl _⟩
theorem iFormatValue_calls (w : World) (v : Int) (hv : -9223372036854775808 ≤ v ∧ v ≤ 9223372036854775807) : Calls Tryz.prog 95 #[.int .i64 v] w fun e w' => e = .returned (.string (strB (fvL v))) ∧ On w w' := by
  cases ho : okVal v with
  | false =>
    have ho' := Aside0.mk ho
    clear ho
    go_enter Tryz.func95, Tryz.ntmps95
    go_wp2_with (go_at_call 92; refine (iIsValidValue_calls _ _).mono ?_; rintro e w1 ⟨rfl, hb1⟩; rw [ho'.out])
    go_ret
    exact ⟨by rw [fvL_not ho'.out]; rfl, hb1⟩
  | true =>
    have ho' := Aside0.mk ho
    have hbd : -40 ≤ v ∧ v ≤ 9 := by simpa [okVal] using ho
    clear ho
    by_cases c : v < 0
    · have cb : decide (v < 0) = true := decide_eq_true c
      have hn := Aside0.mk (show isNul v = true by simp [isNul]; omega)
      have hbd' := Aside0.mk hbd
      have hwr : IntKind.i64.wrap (-1 - v) = -1 - v := IntWalk.i64_in _ (by omega)
      have hl := (itoa_bytes (u := -1 - v) (by omega) (by omega)).2.2
      have hsz := eq_true (show 1 + (strB (Lib.itoa (-1 - v))).size ≤ 9223372036854775807 by rw [strB_size]; omega)
      have hsn : (9223372036854775807 < 1 + (strB (Lib.itoa (-1 - v))).size) = False := eq_false (by rw [strB_size]; omega)
      have hc' := Aside0.mk c
      clear hbd c hl
      go_enter Tryz.func95, Tryz.ntmps95
      go_wp2_with (first | (go_at_call 92; refine (iIsValidValue_calls _ _).mono ?_; rintro e w1 ⟨rfl, hb1⟩; rw [ho'.out]) | (go_at_call 161; refine (iIsNull_calls _ _).mono ?_; rintro e w2 ⟨rfl, hb2⟩; rw [cb]) | (go_at_call 107; refine (iFormatInt_calls _ (-1 - v) (by have := hbd'.out; have := hc'.out; omega) (by have := hbd'.out; omega)).mono ?_; rintro e w3 ⟨rfl, hb3⟩))
      go_ret
      exact ⟨by rw [fvL_nul hn.out, ← cat_n]; rfl, (hb1.trans hb2).trans hb3⟩
    · have cb : decide (v < 0) = false := decide_eq_false c
      have hn := Aside0.mk (show isNul v = false by simp [isNul]; omega)
      have hbd' := Aside0.mk hbd
      have hc' := Aside0.mk c
      clear hbd c
      go_enter Tryz.func95, Tryz.ntmps95
      go_wp2_with (first | (go_at_call 92; refine (iIsValidValue_calls _ _).mono ?_; rintro e w1 ⟨rfl, hb1⟩; rw [ho'.out]) | (go_at_call 161; refine (iIsNull_calls _ _).mono ?_; rintro e w2 ⟨rfl, hb2⟩; rw [cb]) | (go_at_call 107; refine (iFormatInt_calls _ v (by have := hc'.out; omega) (by have := hbd'.out; omega)).mono ?_; rintro e w3 ⟨rfl, hb3⟩))
      go_ret
      exact ⟨by rw [fvL_pos hn.out (by have := hbd'.out; have := hc'.out; omega)]; rfl, (hb1.trans hb2).trans hb3⟩
theorem sFormatValue_calls (w : World) (v : Int) (hv : -9223372036854775808 ≤ v ∧ v ≤ 9223372036854775807) : Calls Tryz.prog 96 #[.int .i64 v] w fun e w' => e = .returned (.string (strB (fvL v))) ∧ On w w' := by
  cases ho : isNul v with
  | true =>
    have ho' := Aside0.mk ho
    have hbd := Aside0.mk (show -40 ≤ v ∧ v ≤ -1 by simpa [isNul] using ho)
    have hnn := Aside0.mk (show nulNum v = -1 - v by unfold nulNum; rw [if_pos ho])
    have hl := (itoa_bytes (u := -1 - v) (by have := hbd.out; omega) (by have := hbd.out; omega)).2.2
    have hsz := eq_true (show 1 + (strB (Lib.itoa (-1 - v))).size ≤ 9223372036854775807 by rw [strB_size]; omega)
    have hsn : (9223372036854775807 < 1 + (strB (Lib.itoa (-1 - v))).size) = False := eq_false (by rw [strB_size]; omega)
    have hv' := Aside0.mk hv
    clear ho hl hv
    go_enter Tryz.func96, Tryz.ntmps96
    go_wp2_with (first | (go_at_call 146; refine (NullNumber_calls _ _ hv'.out.1).mono ?_; rintro e w1 ⟨rfl, hb1⟩; rw [ho'.out, hnn.out]) | (go_at_call 162; refine (sFormatInt_calls _ (-1 - v) (by have := hbd.out; omega) (by have := hbd.out; omega)).mono ?_; rintro e w3 ⟨rfl, hb3⟩))
    go_ret
    exact ⟨by rw [fvL_nul ho'.out, ← cat_n]; rfl, hb1.trans hb3⟩
  | false =>
    have ho' := Aside0.mk ho
    have hv' := Aside0.mk hv
    have hnn := Aside0.mk (show nulNum v = 0 by unfold nulNum; rw [if_neg (by simp [ho])])
    clear ho hv
    by_cases c : 0 ≤ v ∧ v ≤ 9
    · have hc' := Aside0.mk c
      have hw := Aside0.mk (show within v 0 9 = true from decide_eq_true c)
      clear c
      go_enter Tryz.func96, Tryz.ntmps96
      go_wp2_with (first | (go_at_call 146; refine (NullNumber_calls _ _ hv'.out.1).mono ?_; rintro e w1 ⟨rfl, hb1⟩; rw [ho'.out, hnn.out]) | (go_at_call 93; refine (l1In_calls _ _ _ _).mono ?_; rintro e w2 ⟨rfl, hb2⟩; rw [hw.out]) | (go_at_call 162; refine (sFormatInt_calls _ v (by have := hc'.out; omega) (by have := hc'.out; omega)).mono ?_; rintro e w3 ⟨rfl, hb3⟩))
      go_ret
      exact ⟨by rw [fvL_pos ho'.out hc'.out]; rfl, (hb1.trans hb2).trans hb3⟩
    · have hc' := Aside0.mk c
      have hw := Aside0.mk (show within v 0 9 = false from decide_eq_false c)
      clear c
      go_enter Tryz.func96, Tryz.ntmps96
      go_wp2_with (first | (go_at_call 146; refine (NullNumber_calls _ _ hv'.out.1).mono ?_; rintro e w1 ⟨rfl, hb1⟩; rw [ho'.out, hnn.out]) | (go_at_call 93; refine (l1In_calls _ _ _ _).mono ?_; rintro e w2 ⟨rfl, hb2⟩; rw [hw.out]))
      go_ret
      exact ⟨by rw [fvL_not (by simp only [okVal, decide_eq_false_iff_not]; have h1 := ho'.out; simp only [isNul, decide_eq_false_iff_not] at h1; have := hc'.out; omega)]; rfl, hb1.trans hb2⟩
theorem pvF_step (s : List UInt8) (k : Nat) (hk : k < 50) : pvF s (-40 + (k : Int)) (50 - k) = if fvL (-40 + (k : Int)) = s then (-40 + (k : Int), true) else pvF s (-40 + ((k + 1 : Nat) : Int)) (50 - (k + 1)) := by
  obtain ⟨d, hd⟩ : ∃ d, 50 - k = d + 1 := ⟨50 - k - 1, by omega⟩
  rw [hd, show 50 - (k + 1) = d by omega, show (-40 : Int) + ((k + 1 : Nat) : Int) = -40 + (k : Int) + 1 by omega]; rfl
theorem str_beq (a b : List UInt8) : ((strB a).toList == (strB b).toList) = decide (a = b) := by
  rw [ByteArray.toList_eq, ByteArray.toList_eq, strB_data, strB_data, Bool.eq_iff_iff]; simp
theorem iParseValue_calls (w : World) (s : List UInt8) : Calls Tryz.prog 113 #[.string (strB s)] w fun e w' => e = .returned (.tuple #[.int .i64 (parV s).1, .bool (parV s).2]) ∧ On w w' := by
  go_enter Tryz.func113, Tryz.ntmps113
  go_wp2
  go_loopw [4] (fun v4 wr => ∃ k : Nat, k ≤ 50 ∧ v4 = .int .i64 (-40 + (k : Int)) ∧ Aside0 (pvF s (-40 + (k : Int)) (50 - k) = parV s) ∧ On w wr) (fun v4 _ => 50 - (intOf v4 + 40).toNat)
  case atStart => exact ⟨0, by omega, rfl, ⟨rfl⟩, On.refl _⟩
  case round =>
    obtain ⟨k, hk, rfl, hp, hB⟩ := hrel
    have hB' := Aside0.mk hB
    have hk' := Aside0.mk hk
    clear hB hk
    obtain ⟨x, hx⟩ : ∃ x : Int, -40 + (k : Int) = x := ⟨_, rfl⟩
    have hx' := Aside0.mk hx
    by_cases c : x ≤ 9
    · have hst := Aside0.mk ((pvF_step s k (by omega)).symm.trans hp.out)
      have c' := Aside0.mk c
      have cb : decide (x ≤ 9) = true := decide_eq_true c
      rw [hx]
      clear c hx hp
      by_cases e : fvL x = s
      · have e' := Aside0.mk e
        have hb2 := Aside0.mk (show ((strB (fvL x)).toList == (strB s).toList) = true by rw [str_beq]; exact decide_eq_true e)
        have hb3 := hb2.out
        clear e
        go_wp2_with (go_at_call 95; refine (iFormatValue_calls _ x (by have := c'.out; have := hx'.out; omega)).mono ?_; rintro e w3 ⟨rfl, hb1⟩)
        go_ret2
        exact ⟨by rw [← hst.out, if_pos (by rw [hx'.out]; exact e'.out), hx'.out]; rfl, hB'.out.trans hb1⟩
      · have e' := Aside0.mk e
        have hb2 := Aside0.mk (show ((strB (fvL x)).toList == (strB s).toList) = false by rw [str_beq]; exact decide_eq_false e)
        have hb3 := hb2.out
        have hwx : wrap64 (x + 1) = -40 + ((k + 1 : Nat) : Int) := by rw [IntWalk.wrap64_in _ (by have := c'.out; have := hx'.out; omega)]; have := hx'.out; omega
        clear e
        go_wp2_with (go_at_call 95; refine (iFormatValue_calls _ x (by have := c'.out; have := hx'.out; omega)).mono ?_; rintro e w3 ⟨rfl, hb1⟩)
        go_roundw
        case rel => exact ⟨k + 1, by have := c'.out; have := hx'.out; omega, by rw [hwx], ⟨by have := hst.out; rwa [if_neg (by rw [hx'.out]; exact e'.out)] at this⟩, hB'.out.trans hb1⟩
        case measure => rw [hwx]; simp [intOf]; have := c'.out; have := hx'.out; omega
    · have cb : decide (x ≤ 9) = false := decide_eq_false c
      have c' := Aside0.mk c
      rw [hx]
      clear c hx
      go_wp2
      go_ret2
      exact ⟨by rw [← hp.out, show 50 - k = 0 by have := c'.out; have := hx'.out; have := hk'.out; omega]; rfl, hB'.out⟩
theorem sParseValue_calls (w : World) (s : List UInt8) : Calls Tryz.prog 118 #[.string (strB s)] w fun e w' => e = .returned (.tuple #[.int .i64 (parV s).1, .bool (parV s).2]) ∧ On w w' := by
  go_enter Tryz.func118, Tryz.ntmps118
  go_wp2
  go_loopw [4] (fun v4 wr => ∃ k : Nat, k ≤ 50 ∧ v4 = .int .i64 (-40 + (k : Int)) ∧ Aside0 (pvF s (-40 + (k : Int)) (50 - k) = parV s) ∧ On w wr) (fun v4 _ => 50 - (intOf v4 + 40).toNat)
  case atStart => exact ⟨0, by omega, rfl, ⟨rfl⟩, On.refl _⟩
  case round =>
    obtain ⟨k, hk, rfl, hp, hB⟩ := hrel
    have hB' := Aside0.mk hB
    have hk' := Aside0.mk hk
    clear hB hk
    obtain ⟨x, hx⟩ : ∃ x : Int, -40 + (k : Int) = x := ⟨_, rfl⟩
    have hx' := Aside0.mk hx
    by_cases c : x ≤ 9
    · have hst := Aside0.mk ((pvF_step s k (by omega)).symm.trans hp.out)
      have c' := Aside0.mk c
      have cb : decide (x ≤ 9) = true := decide_eq_true c
      rw [hx]
      clear c hx hp
      by_cases e : fvL x = s
      · have e' := Aside0.mk e
        have hb2 := Aside0.mk (show ((strB (fvL x)).toList == (strB s).toList) = true by rw [str_beq]; exact decide_eq_true e)
        have hb3 := hb2.out
        clear e
        go_wp2_with (go_at_call 96; refine (sFormatValue_calls _ x (by have := c'.out; have := hx'.out; omega)).mono ?_; rintro e w3 ⟨rfl, hb1⟩)
        go_ret2
        exact ⟨by rw [← hst.out, if_pos (by rw [hx'.out]; exact e'.out), hx'.out]; rfl, hB'.out.trans hb1⟩
      · have e' := Aside0.mk e
        have hb2 := Aside0.mk (show ((strB (fvL x)).toList == (strB s).toList) = false by rw [str_beq]; exact decide_eq_false e)
        have hb3 := hb2.out
        have hwx : wrap64 (x + 1) = -40 + ((k + 1 : Nat) : Int) := by rw [IntWalk.wrap64_in _ (by have := c'.out; have := hx'.out; omega)]; have := hx'.out; omega
        clear e
        go_wp2_with (go_at_call 96; refine (sFormatValue_calls _ x (by have := c'.out; have := hx'.out; omega)).mono ?_; rintro e w3 ⟨rfl, hb1⟩)
        go_roundw
        case rel => exact ⟨k + 1, by have := c'.out; have := hx'.out; omega, by rw [hwx], ⟨by have := hst.out; rwa [if_neg (by rw [hx'.out]; exact e'.out)] at this⟩, hB'.out.trans hb1⟩
        case measure => rw [hwx]; simp [intOf]; have := c'.out; have := hx'.out; omega
    · have cb : decide (x ≤ 9) = false := decide_eq_false c
      have c' := Aside0.mk c
      rw [hx]
      clear c hx
      go_wp2
      go_ret2
      exact ⟨by rw [← hp.out, show 50 - k = 0 by have := c'.out; have := hx'.out; have := hk'.out; omega]; rfl, hB'.out⟩
end Go.Proofs.YtgemaohdlibboaaGreatDoor.H
/- Rows of strings: read, of one's own, appended to, joined, cut out of a text. No condition. -/
namespace Go.Proofs.YtgemaohdlibboaaGreatDoor.H
open Go Go.RowKit Go.Proofs.YtgemaohdlibboaaGreatDoorW.PrintWords Go.Proofs.YtgemaohdlibboaaGreatDoorW.PrintLast
open Go.Proofs.YtgemaohdlibboaaGreatDoor.Reg (On on_draw)
set_option maxHeartbeats 4000000
set_option maxRecDepth 100000
set_option linter.unusedVariables false
set_option linter.unusedSimpArgs false

abbrev encS (x : List UInt8) : List Value := [.string (strB x)]
/-- A row of strings that is read. -/
structure Strs (w : World) (A : Option Addr) (c : Nat) (ss : List (List UInt8)) : Prop where
  cap : ss.length ≤ c
  max : ss.length ≤ 9223372036854775807
  cell : ∀ j, (hj : j < ss.length) → ∃ ad, A = some ad ∧ w.cell? (ad.add j) = some (.string (strB ss[j]))
theorem Strs.on {W w : World} {A : Option Addr} {c : Nat} {ss : List (List UInt8)} (h : Strs W A c ss) (hb : On W w) : Strs w A c ss := ⟨h.cap, h.max, fun j hj => by
  obtain ⟨ad, e, hc⟩ := h.cell j hj
  exact ⟨ad, e, (hb.eq _ (by rw [hc]; rfl)).trans hc⟩⟩
abbrev OSt (w : World) (lo : Nat) (v : Value) (ss : List (List UInt8)) : Prop := w.ownsRow lo 9 1 v ss.length (ss.flatMap encS)
theorem OSt.slice {w : World} {lo : Nat} {v : Value} {ss : List (List UInt8)} (h : OSt w lo v ss) : ∃ A c, v = .slice A ss.length c ∧ Strs w A c ss := by
  obtain ⟨A, c, rfl⟩ := own_slice h
  obtain ⟨h1, h2⟩ := own_capmax h
  refine ⟨A, c, rfl, h1, h2, fun j hj => ?_⟩
  have hg : (ss.flatMap encS)[j]? = some (.string (strB ss[j])) := by
    have := flat_get (enc := encS) (sz := 1) (fun _ => rfl) ss j 0 hj (by omega)
    rw [Nat.mul_one, Nat.add_zero] at this
    rw [this]; rfl
  rcases h.2 with ⟨h1, h3⟩ | ⟨g, cap, cur, h1, _⟩
  · omega
  · injection h1 with h1 h5 h6
    subst h1
    exact ⟨_, rfl, h.cells rfl j _ hg⟩
theorem OSt.same {w : World} {lo c n : Nat} {A : Option Addr} {ss : List (List UInt8)} (h : OSt w lo (.slice A n c) ss) : n = ss.length ∧ Strs w A c ss := by
  obtain ⟨A', c', e, h'⟩ := OSt.slice h
  injection e with e1 e2 e3
  subst e1 e3
  exact ⟨e2, h'⟩
theorem infoS : (Tryz.prog.info? 9).map (fun i => (i.zero, i.size, i.bytes)) = some (some (.string ⟨#[]⟩), 1, 16) := by kernel_rfl
section
variable {ops : Array Oper} {rest : List Oper} {o : Oper} {a : Act} {Q : Exit → Act → World → Prop} {W : World}
/-- append of a string onto strings of one's own. -/
theorem apS1 (N : Tmp) {s x : Operand} {v : Value} {g base : Nat} {xs zs : List (List UInt8)} {y : List UInt8} (hz : xs ++ [y] = zs)
    (HO : OSt W base v xs) (HR : W.cell? ⟨g, 0, none⟩ = some (.string (strB y))) (hbase : base ≤ W.heap.size) (hl : xs.length ≤ 10000000)
    (h : ∀ v1 w1, OSt w1 base v1 zs → W.grownBy w1 v.ownBlock → wpList Tryz.prog ops Q rest (a.put (some N) v1) w1)
    (hop : o.op = .call { callee := .builtin .append, args := #[s, x], argTypes := #[77, 77] } := by rfl)
    (hd : o.dst = some N := by rfl) (hg : o.guard = none := by rfl) (hs : a.eval s = v := by rfl) (hx : a.eval x = .slice (some ⟨g, 0, none⟩) 1 1 := by rfl) : wpList Tryz.prog ops Q (o :: rest) a W := by
  subst hz
  obtain ⟨i0, hi, hzz⟩ := Option.map_eq_some_iff.1 infoS
  simp only [Prod.mk.injEq] at hzz
  obtain ⟨hz0, hz1, hz2⟩ := hzz
  refine wpList_append_own_at W hg s x 77 hop base 9 i0 _ 1 16 Tryz.underlying77 hi hz0 hz1 hz2 rfl (by omega) v xs.length _ hs HO ⟨g, 0, none⟩ 1 1 (encS y) hx rfl (fun j u hu => ?_) (fun u hu => ?_) (by simp [maxLen]; omega) (by omega) hbase fun v1 w1 h1 h2 _ _ => ?_
  · have hj : j = 0 := by have := (List.getElem?_eq_some_iff.1 hu).1; simp at this; omega
    subst hj
    simp at hu
    subst hu
    exact HR
  · simp only [List.mem_cons, List.not_mem_nil, or_false] at hu
    subst hu
    rfl
  · rw [hd]
    refine h v1 w1 ?_ h2
    show World.ownsRow _ _ _ _ _ (xs ++ [y]).length _
    rw [show (xs ++ [y]).flatMap encS = xs.flatMap encS ++ encS y by simp, List.length_append]
    exact h1
end
section
variable {ops : Array Oper} {rest : List Oper} {o : Oper} {a : Act} {Q : Exit → Act → World → Prop} {W : World}
/-- A literal of one string. -/
theorem litS1 (N : Tmp) {y : List UInt8} (h : wpList Tryz.prog ops Q rest (a.put (some N) (.slice (some ⟨W.heap.size, 0, none⟩) 1 1)) (W.alloc (.cells #[.string (strB y)] 9 (0, 0))))
    (hd : o.dst = some N := by rfl) (hg : o.guard = none := by rfl) (hr : (execOp a.eval o).run Tryz.prog W = .ok (.value (.slice (some ⟨W.heap.size, 0, none⟩) 1 1)) (W.alloc (.cells #[.string (strB y)] 9 (0, 0))) := by first | (go_simp; done) | (go_simp; rfl)) : wpList Tryz.prog ops Q (o :: rest) a W :=
  Kd.event_run hg hr (by rw [hd]; exact h)
end
/-- A string of a text cut out, laid into a row. -/
theorem lit_S (w : World) (y : List UInt8) : (w.alloc (.cells #[.string (strB y)] 9 (0, 0))).cell? ⟨w.heap.size, 0, none⟩ = some (.string (strB y)) := by
  have := blk_cell (loc_new w #[.string (strB y)] 9) 0
  rw [this]; rfl
theorem ownS0 {W : World} {g lo : Nat} (hg : g = W.heap.size) (hlo : lo ≤ W.heap.size) : OSt (W.alloc (.cells #[] 9 (0, 0))) lo (.slice (some ⟨g, 0, none⟩) 0 0) [] := by
  subst hg
  exact own_lower (World.ownsRow_lit (base := W.heap.size) (e := 9) (size := 1) W #[] 0 (Nat.le_refl _) (by simp [maxLen]) (by simp)) hlo
theorem Join_calls (w : World) (A : Option Addr) (c : Nat) (ss : List (List UInt8)) (s : List UInt8) (h : Strs w A c ss) (hl : ss.length ≤ 1000000) (hb : (Lib.join ss s).length ≤ 1000000000) :
    Calls Tryz.prog 65 #[.slice A ss.length c, .string (strB s)] w fun e w' => e = .returned (.string (strB (Lib.join ss s))) ∧ On w w' := by
  by_cases hz : ss.length = 0
  · obtain rfl : ss = [] := List.eq_nil_of_length_eq_zero hz
    exact (Tryz.strings_Join_none A c (strB s) w).mono fun e w' ⟨he, hw⟩ => by subst hw; exact ⟨by rw [he, join_nil']; rfl, On.refl _⟩
  · obtain ⟨ad, rfl, h0⟩ := h.cell 0 (by omega)
    have hs : ad.spot = none := by
      cases hsp : ad.spot with
      | none => rfl
      | some q =>
        exfalso
        have e0 : ad.add 0 = ad := by unfold Addr.add; rw [if_pos rfl]
        rw [e0] at h0
        unfold World.cell? at h0
        split at h0
        · rw [hsp] at h0; simp at h0
        · cases h0
    obtain ⟨b, o, sp⟩ := ad
    obtain rfl : sp = none := hs
    have hbk : b < w.heap.size := by
      have := World.block_lt_of_cell? w _ h0
      unfold Addr.add at this
      simpa using this
    have hm : (ss.map strB).map (fun x : ByteArray => x.data.toList) = ss := by
      rw [List.map_map]
      conv => rhs; rw [← List.map_id ss]
      exact List.map_congr_left (fun x _ => strB_data x)
    have key := Tryz.strings_Join b o c (ss.map strB) (strB s) w (fun j y hj => ?_) hbk (by simp; omega) (by simpa using h.cap) (by rw [hm, strB_data]; omega)
    · rw [hm, strB_data, List.length_map] at key
      exact key
    · rw [List.getElem?_map] at hj
      obtain ⟨x, hx, rfl⟩ := Option.map_eq_some_iff.1 hj
      have hjl := (List.getElem?_eq_some_iff.1 hx).1
      obtain ⟨ad', e, h1⟩ := h.cell j hjl
      injection e with e
      subst e
      have e2 : (⟨b, o, none⟩ : Addr).add j = ⟨b, o + j, none⟩ := by unfold Addr.add; split <;> simp_all
      rw [e2] at h1
      rw [h1, (List.getElem?_eq_some_iff.1 hx).2]
end Go.Proofs.YtgemaohdlibboaaGreatDoor.H
/- Walks: relations written, on both sides. No condition. -/
namespace Go.Proofs.YtgemaohdlibboaaGreatDoor.H
open Go Go.RowKit Go.Proofs.YtgemaohdlibboaaGreatDoorW.PrintWords Go.Proofs.YtgemaohdlibboaaGreatDoorW.PrintLast
open Go.Proofs.YtgemaohdlibboaaGreatDoor.Reg (On on_draw)
set_option maxHeartbeats 4000000
set_option maxRecDepth 100000
set_option linter.unusedVariables false
set_option linter.unusedSimpArgs false

/-- The sum of two lengths is an int. -/
theorem szOk {a b : List UInt8} (h : a.length + b.length ≤ 1000000000000) : (9223372036854775807 < (strB a).size + (strB b).size) = False := eq_false (by rw [strB_size, strB_size]; omega)
theorem szOk1 {a : List UInt8} (h : a.length ≤ 1000000000000) : (9223372036854775807 < (strB a).size + 1) = False := eq_false (by rw [strB_size]; omega)
theorem cat1 (a : List UInt8) (c : UInt8) : strB a ++ (⟨#[c]⟩ : ByteArray) = strB (a ++ [c]) := by rw [show (⟨#[c]⟩ : ByteArray) = strB [c] from rfl, strB_append]
def txtR (rs : List Rel) (k : Nat) : List UInt8 := Lib.join ((rs.take k).map relL) [32]
theorem txtR_succ (rs : List Rel) (k : Nat) (h : k < rs.length) : txtR rs (k + 1) = (if k = 0 then [] else txtR rs k ++ [32]) ++ relL rs[k] := by
  unfold txtR
  rw [List.take_succ_eq_append_getElem h, List.map_append, List.map_cons, List.map_nil, join_snoc, List.length_map, List.length_take, Nat.min_eq_left (by omega)]
  by_cases c : k = 0
  · rw [if_pos c, if_pos c]; rfl
  · rw [if_neg c, if_neg c]
theorem txtR_len {rs : List Rel} (h : okRels rs = true) (k : Nat) : (txtR rs k).length ≤ 100 := by
  have hm := okRels_mem h
  have h6 : rs.length ≤ 6 := by simp only [okRels, Bool.and_eq_true, decide_eq_true_eq] at h; exact h.2
  have := join_len [32] 3 _ ((rs.take k).map relL) rfl (fun x hx => by
    obtain ⟨r, hr, rfl⟩ := List.mem_map.1 hx
    exact (relL_ok (hm r (List.mem_of_mem_take hr))).2.2)
  rw [List.length_map, List.length_take] at this
  unfold txtR
  simp at this ⊢
  omega
theorem txtR_all (rs : List Rel) (k : Nat) (h : rs.length ≤ k) : txtR rs k = Lib.join (rs.map relL) [32] := by unfold txtR; rw [List.take_of_length_le h]
theorem relL_parts {r : Rel} (h : okRel r = true) : ∃ b : UInt8, r.1 = strB [b] ∧ 1 ≤ r.2.1 ∧ r.2.1 ≤ 3 ∧ relL r = (if r.2.2 then [43] else []) ++ ([b] ++ Lib.itoa r.2.1) ∧ (Lib.itoa r.2.1).length ≤ 2 := by
  obtain ⟨b, e, h1, h2, h3, h4⟩ := okRel_bytes h
  refine ⟨b, e, h3, h4, by unfold relL; rw [e, strB_data], (itoa_bytes (by omega) (by omega)).2.2⟩
theorem sFormatRelations_calls (w : World) (A : Option Addr) (c : Nat) (rs : List Rel) (h : Rels w A c rs) : Calls Tryz.prog 108 #[.slice A rs.length c] w fun e w' => e = .returned (.string (strB (fmtR rs))) ∧ On w w' := by
  have hmax := h.max
  have h' := Aside0.mk h
  clear h
  cases ho : okRels rs with
  | false =>
    have ho' := Aside0.mk ho
    clear ho
    go_enter Tryz.func108, Tryz.ntmps108
    go_wp2_with (go_at_call 41; refine (AreValidRelations_calls w A c rs h'.out).mono ?_; rintro e w1 ⟨rfl, hb1⟩; rw [ho'.out])
    go_ret
    exact ⟨by unfold fmtR; rw [if_neg (by rw [ho'.out]; simp)]; rfl, hb1⟩
  | true =>
    have ho' := Aside0.mk ho
    clear ho
    go_enter Tryz.func108, Tryz.ntmps108
    go_wp2_with (go_at_call 41; refine (AreValidRelations_calls w A c rs h'.out).mono ?_; rintro e w1 ⟨rfl, hb1⟩; rw [ho'.out])
    have hb1' := Aside0.mk hb1
    clear hb1
    go_loopw [3, 4] (fun v3 v4 wr => ∃ (k : Nat) (s : List UInt8), k ≤ rs.length ∧ v3 = .string (strB s) ∧ v4 = .int .i64 k ∧ Aside0 (s = txtR rs k) ∧ On w wr) (fun _ v4 _ => rs.length - (intOf v4).toNat)
    case atStart => exact ⟨0, [], Nat.zero_le _, rfl, rfl, ⟨by unfold txtR; simp [join_nil']⟩, hb1'.out⟩
    case round =>
      obtain ⟨k, s, hk, rfl, rfl, hs, hB⟩ := hrel
      have hB' := Aside0.mk hB
      clear hB
      by_cases hlt : k < rs.length
      · obtain ⟨ad, rfl, x0, x1, x2⟩ := (h'.out.on hB'.out).at k hlt
        have hk' := Aside0.mk hlt
        have hstep := Aside0.mk (txtR_succ rs k hlt)
        have hsl := Aside0.mk (show s.length ≤ 100 by rw [hs.out]; exact txtR_len ho'.out k)
        obtain ⟨b, e1, e2, e3, e4, e5⟩ := relL_parts (okRels_mem ho'.out rs[k] (List.getElem_mem hlt))
        rw [e4] at hstep
        obtain ⟨r, hr⟩ : ∃ r : Rel, rs[k] = r := ⟨_, rfl⟩
        rw [hr] at x0 x1 x2 e1 e2 e3 hstep e5
        clear hr e4
        obtain ⟨nm, a, src⟩ := r
        simp only at x0 x1 x2 e1 e2 e3 hstep e5
        subst e1
        have ha' := Aside0.mk (And.intro e2 e3)
        have hia := Aside0.mk e5
        have hs' := Aside0.mk hs.out
        clear hs e2 e3 e5
        by_cases hk0 : 0 < k
        · have hkb : decide ((0 : Int) < (k : Int)) = true := decide_eq_true (by omega)
          have hkn : decide (0 < k) = true := decide_eq_true hk0
          have hst := Aside0.mk (show txtR rs (k + 1) = (s ++ [32]) ++ ((if src then [43] else []) ++ ([b] ++ Lib.itoa a)) by rw [hstep.out, if_neg (by omega), hs'.out])
          have c1 := cat1 s 32
          have z1 := szOk1 (a := s) (by have := hsl.out; omega)
          obtain ⟨t, ht⟩ : ∃ t, s ++ [32] = t := ⟨_, rfl⟩
          have htl := Aside0.mk (show t.length ≤ 101 by rw [← ht]; have := hsl.out; simp; omega)
          rw [ht] at c1 hst
          clear ht hk0
          cases src with
          | true =>
            have c2 := cat1 t 43
            have z2 := szOk1 (a := t) (by have := htl.out; omega)
            obtain ⟨u, hu⟩ : ∃ u, t ++ [43] = u := ⟨_, rfl⟩
            have hul := Aside0.mk (show u.length ≤ 102 by rw [← hu]; have := htl.out; simp; omega)
            rw [hu] at c2
            have hfin := Aside0.mk (show (u ++ [b]) ++ Lib.itoa a = txtR rs (k + 1) by rw [hst.out, ← hu]; simp)
            clear hu
            have c3 := strB_append u [b]
            have z3 := szOk (a := u) (b := [b]) (by have := hul.out; simp; omega)
            obtain ⟨x, hx⟩ : ∃ x, u ++ [b] = x := ⟨_, rfl⟩
            rw [hx] at c3 hfin
            have hxl := Aside0.mk (show x.length ≤ 103 by rw [← hx]; have := hul.out; simp; omega)
            have c4 := strB_append x (Lib.itoa a)
            have z4 := szOk (a := x) (b := Lib.itoa a) (by have := hxl.out; have := hia.out; omega)
            clear hx
            go_wp2
            refine Reg.region [(0,.L),(1,.L),(2,.L),(3,.L),(4,.L),(5,.L),(6,.L),(7,.L),(8,.L),(9,.L),(10,.L),(11,.L),(12,.C),(13,.L)] [14] (by kernel_rfl) (by kernel_rfl) ?_
            repeat first | refine sP ?_ | refine sS ?_ | refine sA ?_ | refine sL ?_ | refine sQ ?_ | refine sO ?_
            refine callC (.string (strB (Lib.itoa a))) Tryz.func162 (fun w' hS => ?_) ?_
            focus exact sFormatInt_calls w' a (by have := ha'.out; omega) (by have := ha'.out; omega)
            repeat first | refine sP ?_ | refine sS ?_ | refine sA ?_ | refine sL ?_ | refine sQ ?_ | refine sO ?_
            refine Reg.tail_ fun w2 hS => ?_
            go_wp2
            refine ⟨⟨k + 1, _, by have := hk'.out; omega, rfl, by go_num, ⟨?_⟩, hB'.out.trans hS⟩, by simp [intOf]; have := hk'.out; omega⟩
            exact hfin.out
          | false =>
            have hfin := Aside0.mk (show (t ++ [b]) ++ Lib.itoa a = txtR rs (k + 1) by rw [hst.out]; simp)
            have c3 := strB_append t [b]
            have z3 := szOk (a := t) (b := [b]) (by have := htl.out; simp; omega)
            obtain ⟨x, hx⟩ : ∃ x, t ++ [b] = x := ⟨_, rfl⟩
            rw [hx] at c3 hfin
            have hxl := Aside0.mk (show x.length ≤ 103 by rw [← hx]; have := htl.out; simp; omega)
            have c4 := strB_append x (Lib.itoa a)
            have z4 := szOk (a := x) (b := Lib.itoa a) (by have := hxl.out; have := hia.out; omega)
            clear hx
            go_wp2
            refine Reg.region [(0,.L),(1,.L),(2,.L),(3,.L),(4,.L),(5,.L),(6,.L),(7,.L),(8,.L),(9,.L),(10,.L),(11,.L),(12,.C),(13,.L)] [14] (by kernel_rfl) (by kernel_rfl) ?_
            repeat first | refine sP ?_ | refine sS ?_ | refine sA ?_ | refine sL ?_ | refine sQ ?_ | refine sO ?_
            refine callC (.string (strB (Lib.itoa a))) Tryz.func162 (fun w' hS => ?_) ?_
            focus exact sFormatInt_calls w' a (by have := ha'.out; omega) (by have := ha'.out; omega)
            repeat first | refine sP ?_ | refine sS ?_ | refine sA ?_ | refine sL ?_ | refine sQ ?_ | refine sO ?_
            refine Reg.tail_ fun w2 hS => ?_
            go_wp2
            refine ⟨⟨k + 1, _, by have := hk'.out; omega, rfl, by go_num, ⟨?_⟩, hB'.out.trans hS⟩, by simp [intOf]; have := hk'.out; omega⟩
            exact hfin.out
        · have hkb : decide ((0 : Int) < (k : Int)) = false := decide_eq_false (by omega)
          have hkn : decide (0 < k) = false := decide_eq_false hk0
          have hst := Aside0.mk (show txtR rs (k + 1) = s ++ ((if src then [43] else []) ++ ([b] ++ Lib.itoa a)) by rw [hstep.out, if_pos (by omega), hs'.out, show k = 0 by omega]; simp [txtR, join_nil'])
          have htl := Aside0.mk (show s.length ≤ 101 by have := hsl.out; omega)
          clear hk0
          cases src with
          | true =>
            have c2 := cat1 s 43
            have z2 := szOk1 (a := s) (by have := htl.out; omega)
            obtain ⟨u, hu⟩ : ∃ u, s ++ [43] = u := ⟨_, rfl⟩
            have hul := Aside0.mk (show u.length ≤ 102 by rw [← hu]; have := htl.out; simp; omega)
            rw [hu] at c2
            have hfin := Aside0.mk (show (u ++ [b]) ++ Lib.itoa a = txtR rs (k + 1) by rw [hst.out, ← hu]; simp)
            clear hu
            have c3 := strB_append u [b]
            have z3 := szOk (a := u) (b := [b]) (by have := hul.out; simp; omega)
            obtain ⟨x, hx⟩ : ∃ x, u ++ [b] = x := ⟨_, rfl⟩
            rw [hx] at c3 hfin
            have hxl := Aside0.mk (show x.length ≤ 103 by rw [← hx]; have := hul.out; simp; omega)
            have c4 := strB_append x (Lib.itoa a)
            have z4 := szOk (a := x) (b := Lib.itoa a) (by have := hxl.out; have := hia.out; omega)
            clear hx
            go_wp2
            refine Reg.region [(0,.L),(1,.L),(2,.L),(3,.L),(4,.L),(5,.L),(6,.L),(7,.L),(8,.L),(9,.L),(10,.L),(11,.L),(12,.C),(13,.L)] [14] (by kernel_rfl) (by kernel_rfl) ?_
            repeat first | refine sP ?_ | refine sS ?_ | refine sA ?_ | refine sL ?_ | refine sQ ?_ | refine sO ?_
            refine callC (.string (strB (Lib.itoa a))) Tryz.func162 (fun w' hS => ?_) ?_
            focus exact sFormatInt_calls w' a (by have := ha'.out; omega) (by have := ha'.out; omega)
            repeat first | refine sP ?_ | refine sS ?_ | refine sA ?_ | refine sL ?_ | refine sQ ?_ | refine sO ?_
            refine Reg.tail_ fun w2 hS => ?_
            go_wp2
            refine ⟨⟨k + 1, _, by have := hk'.out; omega, rfl, by go_num, ⟨?_⟩, hB'.out.trans hS⟩, by simp [intOf]; have := hk'.out; omega⟩
            exact hfin.out
          | false =>
            have hfin := Aside0.mk (show (s ++ [b]) ++ Lib.itoa a = txtR rs (k + 1) by rw [hst.out]; simp)
            have c3 := strB_append s [b]
            have z3 := szOk (a := s) (b := [b]) (by have := htl.out; simp; omega)
            obtain ⟨x, hx⟩ : ∃ x, s ++ [b] = x := ⟨_, rfl⟩
            rw [hx] at c3 hfin
            have hxl := Aside0.mk (show x.length ≤ 103 by rw [← hx]; have := htl.out; simp; omega)
            have c4 := strB_append x (Lib.itoa a)
            have z4 := szOk (a := x) (b := Lib.itoa a) (by have := hxl.out; have := hia.out; omega)
            clear hx
            go_wp2
            refine Reg.region [(0,.L),(1,.L),(2,.L),(3,.L),(4,.L),(5,.L),(6,.L),(7,.L),(8,.L),(9,.L),(10,.L),(11,.L),(12,.C),(13,.L)] [14] (by kernel_rfl) (by kernel_rfl) ?_
            repeat first | refine sP ?_ | refine sS ?_ | refine sA ?_ | refine sL ?_ | refine sQ ?_ | refine sO ?_
            refine callC (.string (strB (Lib.itoa a))) Tryz.func162 (fun w' hS => ?_) ?_
            focus exact sFormatInt_calls w' a (by have := ha'.out; omega) (by have := ha'.out; omega)
            repeat first | refine sP ?_ | refine sS ?_ | refine sA ?_ | refine sL ?_ | refine sQ ?_ | refine sO ?_
            refine Reg.tail_ fun w2 hS => ?_
            go_wp2
            refine ⟨⟨k + 1, _, by have := hk'.out; omega, rfl, by go_num, ⟨?_⟩, hB'.out.trans hS⟩, by simp [intOf]; have := hk'.out; omega⟩
            exact hfin.out
      · go_wp2
        go_ret
        exact ⟨by unfold fmtR; rw [if_pos ho'.out, hs.out, txtR_all rs k (by omega)]; rfl, hB'.out⟩
end Go.Proofs.YtgemaohdlibboaaGreatDoor.H
/- Walks: numbers below a great bound, texts drawn. What is told: ranges, lengths. No condition. -/
namespace Go.Proofs.YtgemaohdlibboaaGreatDoor.H
open Go Go.RowKit Go.Proofs.YtgemaohdlibboaaGreatDoorW.PrintWords Go.Proofs.YtgemaohdlibboaaGreatDoorW.PrintLast
open Go.Proofs.YtgemaohdlibboaaGreatDoor.Reg (On on_draw)
set_option maxHeartbeats 4000000
set_option maxRecDepth 100000
set_option linter.unusedVariables false
set_option linter.unusedSimpArgs false

/-- A number below m, any m. -/
theorem l1BelowB_calls (w0 w : World) (q : Nat) (hC : Cu w0 w q) (m : Int) (h1 : 1 ≤ m) (h2 : m ≤ 1000000) :
    Calls Tryz.prog 138 #[.pointer (some ⟨q, 0, none⟩), .int .i64 m] w (Dr w0 w q fun v _ => ∃ x : Int, v = .int .i64 x ∧ 0 ≤ x ∧ x < m) := by
  by_cases hm : m ≤ 256
  · exact l1Below_calls w0 w q hC m h1 hm
  · have hC' := Aside0.mk hC
    have b1 : decide (m ≤ 0) = false := decide_eq_false (by omega)
    have b2 : decide (m ≤ 256) = false := decide_eq_false hm
    have b3 : (m == 0) = false := by simp; omega
    have b4 : (m != 0) = true := by simp; omega
    have b5 : (m = 0) = False := eq_false (by omega)
    have h1' := Aside0.mk h1
    clear hC h1 h2 hm
    go_enter Tryz.func138, Tryz.ntmps138
    go_wp2_with (go_at_call 144; refine Stop.out ?_)
    refine ⟨(l1Byte_calls w0 _ q hC'.out).mono ?_⟩
    rintro e w1 ⟨v, rfl, ⟨x1, rfl, hx1⟩, hC1, hE1⟩
    have hC1' := Aside0.mk hC1
    have hE1' := Aside0.mk hE1
    have hx1' := Aside0.mk hx1
    clear hC1 hE1 hx1
    go_wp2_with (go_at_call 144; refine Stop.out ?_)
    refine ⟨(l1Byte_calls w0 _ q hC1'.out).mono ?_⟩
    rintro e w2 ⟨v, rfl, ⟨x2, rfl, hx2⟩, hC2, hE2⟩
    have hC2' := Aside0.mk hC2
    have hE2' := Aside0.mk (hE1'.out.trans hE2 fun _ _ h => h)
    have hx2' := Aside0.mk hx2
    clear hC2 hE2 hx2
    go_wp2_with (go_at_call 144; refine Stop.out ?_)
    refine ⟨(l1Byte_calls w0 _ q hC2'.out).mono ?_⟩
    rintro e w3 ⟨v, rfl, ⟨x3, rfl, hx3⟩, hC3, hE3⟩
    have hC3' := Aside0.mk hC3
    have hE3' := Aside0.mk (hE2'.out.trans hE3 fun _ _ h => h)
    have hx3' := Aside0.mk hx3
    clear hC3 hE3 hx3
    go_wp2_with (go_at_call 144; refine Stop.out ?_)
    refine ⟨(l1Byte_calls w0 _ q hC3'.out).mono ?_⟩
    rintro e w4 ⟨v, rfl, ⟨x4, rfl, hx4⟩, hC4, hE4⟩
    have hC4' := Aside0.mk hC4
    have hE4' := Aside0.mk (hE3'.out.trans hE4 fun _ _ h => h)
    have y1 := hx1'.out
    have y2 := hx2'.out
    have y3 := hx3'.out
    have e1 : wrap64 (x1 * 16777216) = x1 * 16777216 := IntWalk.wrap64_in _ (by omega)
    have e2 : wrap64 (x2 * 65536) = x2 * 65536 := IntWalk.wrap64_in _ (by omega)
    have e3 : wrap64 (x1 * 16777216 + x2 * 65536) = x1 * 16777216 + x2 * 65536 := IntWalk.wrap64_in _ (by omega)
    have e4 : wrap64 (x3 * 256) = x3 * 256 := IntWalk.wrap64_in _ (by omega)
    have e5 : wrap64 (x1 * 16777216 + x2 * 65536 + x3 * 256) = x1 * 16777216 + x2 * 65536 + x3 * 256 := IntWalk.wrap64_in _ (by omega)
    have e6 : wrap64 (x1 * 16777216 + x2 * 65536 + x3 * 256 + x4) = x1 * 16777216 + x2 * 65536 + x3 * 256 + x4 := IntWalk.wrap64_in _ (by omega)
    have hs := Aside0.mk (show 0 ≤ x1 * 16777216 + x2 * 65536 + x3 * 256 + x4 ∧ x1 * 16777216 + x2 * 65536 + x3 * 256 + x4 ≤ 9000000000 by omega)
    obtain ⟨sm, hsm⟩ : ∃ sm, x1 * 16777216 + x2 * 65536 + x3 * 256 + x4 = sm := ⟨_, rfl⟩
    rw [hsm] at e6 hs
    have hs0 := hs.out.1
    clear hC4 hE4 hx4 y1 y2 y3
    go_wp2
    go_ret
    exact ⟨_, rfl, ⟨_, rfl, Int.emod_nonneg _ (by have := h1'.out; omega), Int.emod_lt_of_pos _ (by have := h1'.out; omega)⟩, hC4'.out, hE4'.out⟩
/-! Rows of bytes of one's own. -/
theorem infoB : (Tryz.prog.info? 5).map (fun i => (i.zero, i.size, i.bytes)) = some (some (.int .u8 0), 1, 1) := by kernel_rfl
abbrev OB (w : World) (lo : Nat) (v : Value) (xs : List Int) : Prop := w.ownsRow lo 5 1 v xs.length (encs (Value.int .u8) xs)
theorem OB.to {w : World} {lo : Nat} {v : Value} {xs : List Int} (h : OB w lo v xs) : kBytes.R 5 w lo (fun _ => True) v xs := Kd.R_of_own h (fun _ _ => trivial)
theorem lit_OB (W : World) (y : Int) : OB (W.alloc (.cells #[.int .u8 y] 5 (0, 0))) W.heap.size (.slice (some ⟨W.heap.size, 0, none⟩) 1 1) [y] := lit_own W #[.int .u8 y] 5 1 1 W.heap.size (Nat.le_refl _) (by omega) rfl
theorem lit_RB (W : World) (y : Int) : kBytes.C (W.alloc (.cells #[.int .u8 y] 5 (0, 0))) (some ⟨W.heap.size, 0, none⟩) 1 [y] := by
  obtain ⟨A, c, e, h1, h2⟩ := Kd.R_reads (OB.to (lit_OB W y))
  injection e with e1 e2 e3
  subst e1
  exact h2
section
variable {ops : Array Oper} {rest : List Oper} {o : Oper} {a : Act} {Q : Exit → Act → World → Prop} {W : World}
theorem apB (N : Tmp) {s x : Operand} {v : Value} {A : Option Addr} {m c base : Nat} {xs ys : List Int}
    (HO : OB W base v xs) (HR : kBytes.C W A m ys) (hbase : base ≤ W.heap.size) (hl : xs.length + m ≤ 10000000000)
    (h : ∀ v1 w1, OB w1 base v1 (xs ++ ys) → W.grownBy w1 v.ownBlock → wpList Tryz.prog ops Q rest (a.put (some N) v1) w1)
    (hop : o.op = .call { callee := .builtin .append, args := #[s, x], argTypes := #[31, 31] } := by rfl)
    (hd : o.dst = some N := by rfl) (hg : o.guard = none := by rfl) (hs : a.eval s = v := by rfl) (hx : a.eval x = .slice A m c := by rfl) : wpList Tryz.prog ops Q (o :: rest) a W := by
  refine Kd.R_append_row (Value.int .u8) (0 : Int) (h1 := fun _ => rfl) (w0 := W) base hg s x 31 5 (.int .u8 0) 1 hop Tryz.underlying31 infoB rfl (by omega) v xs ys A m c (fun _ => True) hs hx (fun _ _ => trivial) (OB.to HO) HR (Below.refl _ _) hbase (by omega) ?_
  intro v1 w1 h1 _ h3 h4
  rw [hd]
  exact h v1 w1 (Kd.own_of_R h1) h3
end
theorem conv_str {w : World} {lo : Nat} {v : Value} {xs : List Int} (h : OB w lo v xs) : (Go.convert 31 9 v).run Tryz.prog w = .ok (.string (strOfNums xs)) w := by
  have hR := OB.to h
  rcases h.2 with ⟨rfl, hn⟩ | ⟨g, cap, cur, rfl, hg, hh, r⟩
  · have hx : xs = [] := by
      obtain ⟨A, c, e, -, -⟩ := Kd.R_reads hR
      injection e with e1 e2 e3
      exact List.length_eq_zero_iff.1 e2.symm
    subst hx
    exact run_convert_bytes_nil w 31 5 Tryz.underlying31 Tryz.underlying5 0 0 _ Tryz.underlying9
  · obtain ⟨A, c, e, -, hr⟩ := Kd.R_reads hR
    injection e with e1 e2 e3
    subst e1
    refine run_convert_bytes_arg w 31 5 Tryz.underlying31 Tryz.underlying5 g 0 xs.length cap xs rfl (fun i hi => ?_) _ Tryz.underlying9
    obtain ⟨ad, e4, hc⟩ := Kd.at_int hr (i : Int) (by omega) (by omega)
    injection e4 with e4
    subst e4
    rw [show (⟨g, 0 + i, none⟩ : Addr) = (⟨g, 0, none⟩ : Addr).add (i : Int).toNat by unfold Addr.add; split <;> simp_all]
    rw [hc]
    simp [rd]
theorem l1Text_calls (w0 w : World) (q : Nat) (hC : Cu w0 w q) : Calls Tryz.prog 143 #[.pointer (some ⟨q, 0, none⟩), .int .i64 3] w (Dr w0 w q fun v _ => ∃ s : List UInt8, v = .string (strB s) ∧ s.length ≤ 3) := by
  have hC' := Aside0.mk hC
  clear hC
  go_enter Tryz.func143, Tryz.ntmps143
  go_wp2_with (go_at_call 138; refine Stop.out ?_)
  have hb0 := Aside0.mk (On.alloc (On.refl w) (.cells #[] 5 (0, 0)))
  refine ⟨(l1Below_calls w0 _ q (hC'.out.next hb0.out) 4 (by omega) (by omega)).mono ?_⟩
  rintro e w1 ⟨v, rfl, ⟨st, rfl, hst⟩, hC1, hE1⟩
  have hst' := Aside0.mk hst
  have hC1' := Aside0.mk hC1
  have hE1' := Aside0.mk ((Ex.of_on (S := fun b => b = q) hb0.out).trans hE1 fun _ _ h => h)
  have hO1 := Aside0.mk (show OB w1 w.heap.size (.slice (some ⟨w.heap.size, 0, none⟩) 0 0) [] from own_ex (lit_own w #[] 5 1 0 w.heap.size (Nat.le_refl _) (by omega) rfl) hE1 (fun i hi e => by have h1 : some w.heap.size = some i := hi; have h2 := hC'.out.lt; injection h1 with h1; omega))
  clear hC1 hE1 hst
  go_wp2_with (go_at_call 138; refine Stop.out ?_)
  refine ⟨(l1Below_calls w0 _ q hC1'.out 4 (by omega) (by omega)).mono ?_⟩
  rintro e w2 ⟨v, rfl, ⟨n0, rfl, hn0⟩, hC2, hE2⟩
  have hn0' := Aside0.mk hn0
  have hC2' := Aside0.mk hC2
  have hE2' := Aside0.mk (hE1'.out.trans hE2 fun _ _ h => h)
  have hO2 := Aside0.mk (own_ex hO1.out hE2 (fun i hi e => by have h1 : some w.heap.size = some i := hi; have h2 := hC'.out.lt; injection h1 with h1; omega))
  have hql := Aside0.mk hC'.out.lt
  clear hC2 hE2 hn0
  go_wp2
  go_loopw [5, 7] (fun v5 v7 wr => ∃ (xs : List Int) (n : Int), v7 = .int .i64 n ∧ 0 ≤ n ∧ (xs.length : Int) + n ≤ 3 ∧ Aside0 (OB wr w.heap.size v5 xs) ∧ Aside0 (Cu w0 wr q) ∧ Aside0 (Ex (fun b => b = q ∨ w.heap.size ≤ b) w wr)) (fun _ v7 _ => (intOf v7).toNat)
  case atStart => exact ⟨[], n0, rfl, hn0'.out.1, by have := hn0'.out.2; simp; omega, hO2, hC2', ⟨hE2'.out.mono fun b h => .inl h⟩⟩
  case round =>
    obtain ⟨xs, n, rfl, hn, hl, hO, hC, hE⟩ := hrel
    obtain ⟨A, c, rfl⟩ := own_slice hO.out
    by_cases hp : 0 < n
    · have hw : wrap64 (n - 1) = n - 1 := IntWalk.wrap64_in _ (by omega)
      have hpb : decide (0 < n) = true := decide_eq_true hp
      have hp' := Aside0.mk hp
      have hl' := Aside0.mk hl
      clear hl hn
      go_wp2_with (go_at_call 144; refine Stop.out ?_)
      refine ⟨(l1Byte_calls w0 _ q hC.out).mono ?_⟩
      rintro e w3 ⟨v, rfl, ⟨x, rfl, hx⟩, hC3, hE3⟩
      have hC3' := Aside0.mk hC3
      have hE3' := Aside0.mk (hE.out.trans hE3 fun i _ h => .inl h)
      have hO3 := Aside0.mk (own_ex hO.out hE3 (fun i hi e => by have h1 := own_base hO.out i hi; have h2 := hql.out; have h3 : i = q := e; omega))
      have hs3 := Aside0.mk (show w.heap.size ≤ w3.heap.size from hE3'.out.size)
      have hx' := Aside0.mk hx
      clear hC3 hE3 hx
      by_cases c1 : st = 1
      · subst c1
        go_wp2_with (refine gate 35 ?_)
        refine ⟨apB 35 (pw_own_below hO3.out (On.alloc (On.refl w3) _)) (lit_RB w3 _) (by have := hs3.out; simp only [World.size_alloc]; omega) (by have := hl'.out; have := hp'.out; omega) fun v5 w5 hO5 hg5 => ?_⟩
        have hO5' := Aside0.mk hO5
        have hE5 := Aside0.mk ((hE3'.out.then_on (On.alloc (On.refl w3) _)).trans (Ex.of_grown hg5) (fun i _ e => .inr (own_base hO3.out i e.symm)))
        have hC5 := Aside0.mk ((hC3'.out.next (On.alloc (On.refl w3) _)).ex (Ex.of_grown hg5) (fun b e => by have h1 := own_base hO3.out b e.symm; have h2 := hql.out; have h3 := hC'.out.lo; have h4 := hC'.out.on.size; omega))
        clear hO5 hg5
        go_wp2
        exact ⟨⟨_, _, rfl, by have := hp'.out; omega, by have := hl'.out; simp; omega, hO5', hC5, hE5⟩, by simp [intOf]; have := hp'.out; omega⟩
      · have d1 : (st == 1) = false := by simpa using c1
        have d2 : (st = 1) = False := eq_false c1
        clear c1
        by_cases c2 : st = 2
        · subst c2
          have hr0 : 0 ≤ Int.tmod x 4 ∧ Int.tmod x 4 < 4 := by have := hx'.out; exact ⟨Int.tmod_nonneg _ this.1, Int.tmod_lt_of_pos _ (by omega)⟩
          have hr1 : 0 ≤ x % 4 ∧ x % 4 < 4 := by omega
          have hwa : wrap64 (97 + Int.tmod x 4) = 97 + Int.tmod x 4 := IntWalk.wrap64_in _ (by omega)
          have hwb : wrap64 (97 + x % 4) = 97 + x % 4 := IntWalk.wrap64_in _ (by omega)
          have hx0 := hx'.out.1
          clear hr0 hr1
          go_wp2_with (refine gate 35 ?_)
          refine ⟨apB 35 (pw_own_below hO3.out (On.alloc (On.refl w3) _)) (lit_RB w3 _) (by have := hs3.out; simp only [World.size_alloc]; omega) (by have := hl'.out; have := hp'.out; omega) fun v5 w5 hO5 hg5 => ?_⟩
          have hO5' := Aside0.mk hO5
          have hE5 := Aside0.mk ((hE3'.out.then_on (On.alloc (On.refl w3) _)).trans (Ex.of_grown hg5) (fun i _ e => .inr (own_base hO3.out i e.symm)))
          have hC5 := Aside0.mk ((hC3'.out.next (On.alloc (On.refl w3) _)).ex (Ex.of_grown hg5) (fun b e => by have h1 := own_base hO3.out b e.symm; have h2 := hql.out; have h3 := hC'.out.lo; have h4 := hC'.out.on.size; omega))
          clear hO5 hg5
          go_wp2
          exact ⟨⟨_, _, rfl, by have := hp'.out; omega, by have := hl'.out; simp; omega, hO5', hC5, hE5⟩, by simp [intOf]; have := hp'.out; omega⟩
        · have d3 : (st == 2) = false := by simpa using c2
          have d4 : (st = 2) = False := eq_false c2
          clear c2
          go_wp2_with (refine gate 35 ?_)
          refine ⟨apB 35 (pw_own_below hO3.out (On.alloc (On.refl w3) _)) (lit_RB w3 _) (by have := hs3.out; simp only [World.size_alloc]; omega) (by have := hl'.out; have := hp'.out; omega) fun v5 w5 hO5 hg5 => ?_⟩
          have hO5' := Aside0.mk hO5
          have hE5 := Aside0.mk ((hE3'.out.then_on (On.alloc (On.refl w3) _)).trans (Ex.of_grown hg5) (fun i _ e => .inr (own_base hO3.out i e.symm)))
          have hC5 := Aside0.mk ((hC3'.out.next (On.alloc (On.refl w3) _)).ex (Ex.of_grown hg5) (fun b e => by have h1 := own_base hO3.out b e.symm; have h2 := hql.out; have h3 := hC'.out.lo; have h4 := hC'.out.on.size; omega))
          clear hO5 hg5
          go_wp2
          exact ⟨⟨_, _, rfl, by have := hp'.out; omega, by have := hl'.out; simp; omega, hO5', hC5, hE5⟩, by simp [intOf]; have := hp'.out; omega⟩
    · have hpb : decide (0 < n) = false := decide_eq_false hp
      have hcv := conv_str hO.out
      have hp' := Aside0.mk hn
      have hl' := Aside0.mk hl
      clear hp hl hn
      go_wp2
      go_ret
      refine ⟨_, rfl, ⟨xs.map fun n => UInt8.ofNat n.toNat, rfl, by have := hl'.out; have := hp'.out; simp; omega⟩, hC.out, ⟨hE.out.os, hE.out.tape, hE.out.output, hE.out.size, fun k hk hn => hE.out.block k hk (fun h => h.elim hn (fun h => by omega))⟩⟩
end Go.Proofs.YtgemaohdlibboaaGreatDoor.H
/- The rule for regions that draw their order where what is read is told by a predicate G, and two operations that make memory may come up at once. No condition. -/
namespace Go.Proofs.YtgemaohdlibboaaGreatDoor.Reg
open Go Go.RowKit
set_option linter.unusedVariables false
variable {P : Program} {ops : Array Oper} {Q : Exit → Act → World → Prop} {md : Region.Mode}
/-- leaf: in line; r: a read, whatever G tells; n: the one operation that may come up; two: two that may come up. -/
inductive Th where
  | leaf (l : List Nat)
  | r (i : Nat) (p : Th)
  | n (i : Nat) (p : Th)
  | two (i j : Nat) (p q : Th)
def Th.len : Th → Nat
  | .leaf l => l.length
  | .r _ p => p.len + 1
  | .n _ p => p.len + 1
  | .two _ _ p _ => p.len + 1
def chkH (md : Region.Mode) (ops : Array Oper) (k : Nat) : Th → Array Bool → Bool
  | .leaf l, listed => chkTail md ops l listed && l.getLast? == some k
  | .r i p, listed => (Region.ready md ops listed).contains i && freeC md ops false listed i && reach md ops k i && !(k == i) && chkH md ops k p (listed.setIfInBounds i true)
  | .n i p, listed => Region.ready md ops listed == [i] && chkH md ops k p (listed.setIfInBounds i true)
  | .two i j p q, listed => Region.ready md ops listed == [i, j] && p.len == q.len && chkH md ops k p (listed.setIfInBounds i true) && chkH md ops k q (listed.setIfInBounds j true)
def wpH (P : Program) (ops : Array Oper) (Q : Exit → Act → World → Prop) (G : World → Prop) : Th → Act → World → Prop
  | .leaf l, a, w => tailG P ops Q G l a w
  | .r i p, a, w => match ops[i]? with
    | none => False
    | some o => if Region.wanted o (yielded ops a.tmps) then ∃ v, (∀ w, G w → (execOp a.eval o).run P w = .ok (.value v) w) ∧ wpH P ops Q G p (a.put o.dst v) w else wpH P ops Q G p (a.put o.dst undef) w
  | .n i p, a, w => wpOp P ops Q i (fun a' w' => G w' ∧ wpH P ops Q G p a' w') a w
  | .two i j p q, a, w => wpOp P ops Q i (fun a' w' => G w' ∧ wpH P ops Q G p a' w') a w ∧ wpOp P ops Q j (fun a' w' => G w' ∧ wpH P ops Q G q a' w') a w
theorem stepT_of_op {G : World → Prop} {j : Nat} {o : Oper} (hi : ops[j]? = some o) {a : Act} {W : World} {X : Act → World → Prop} {T : Act → (World → Prop) → Prop} (h : wpOp P ops Q j (fun a' w' => G w' ∧ X a' w') a W) (hX : ∀ a' w', G w' → X a' w' → T a' (fun w => w = w')) :
    stepT P ops Q (fun _ => true) T j a (fun w => w = W) := by
  unfold stepT
  rw [hi]
  show (if _ then _ else _)
  split
  · refine .inr (.inr ⟨.inr rfl, fun w hS => ?_⟩)
    subst hS
    exact wpOp_mono (fun a' w' (hh : G w' ∧ X a' w') => ⟨fun w => w = w', rfl, fun h0 => (by cases h0), hX _ _ hh.1 hh.2⟩) h
  · rename_i hw
    unfold wpOp at h
    simp only [hi] at h
    rw [if_neg hw] at h
    exact hX _ _ h.1 h.2
theorem wpG_of_H {G : World → Prop} {k : Nat} {ok : Oper} (hok : ops[k]? = some ok) (hs : Region.noSelect ops = true) (hQ : Plain Q) : ∀ (t : Th) (listed : Array Bool) (a : Act) (W : World), k < listed.size → closed md ops listed → chkH md ops k t listed = true → G W → wpH P ops Q G t a W → wpG P md ops Q (fun _ => true) G k t.len listed a (fun w => w = W)
  | .leaf l, listed, a, W, hsz, hclosed, hc, hG, h => by
    simp only [chkH, Bool.and_eq_true, beq_iff_eq] at hc
    obtain ⟨hc, hlast⟩ := hc
    exact wpG_of_tail l listed a _ hsz (fun e => by rw [e] at hlast; cases hlast) (fun hn => by rw [List.getLast?_eq_some_getLast hn] at hlast; exact Option.some.inj hlast) (fun i hi => rfl) hc (fun _ w e => by subst e; exact hG) (fun w e => by subst e; exact h)
  | .r i p, listed, a, W, hsz, hclosed, hc, hG, h => by
    simp only [chkH, Bool.and_eq_true] at hc
    obtain ⟨⟨⟨⟨hr, hf⟩, hki⟩, hne⟩, hl⟩ := hc
    have hne' : k ≠ i := by intro e; subst e; simp at hne
    simp only [wpH] at h
    cases hi : ops[i]? with
    | none => simp only [hi] at h
    | some o =>
      simp only [hi] at h
      have hri : i ∈ Region.ready md ops listed := by simpa using hr
      have ih := fun a h => wpG_of_H hok hs hQ p (listed.setIfInBounds i true) a W (by rw [Array.size_setIfInBounds]; exact hsz) (hclosed.set hri) hl hG h
      have sel := Region.noSelect_spec hs
      by_cases hw : Region.wanted o (yielded ops a.tmps) = true
      · rw [if_pos hw] at h
        obtain ⟨v, h1, h2⟩ := h
        exact wpG_first hne' hok hki hQ hi sel _ listed a _ hclosed (fun j oj hj hne hun hno => (freeC_spec hi hf j oj hj hne hun hno).1) hri (.inl ⟨hw, fun w hS => by simpa using h1 w hS⟩) (ih _ h2)
      · rw [if_neg hw] at h
        exact wpG_first hne' hok hki hQ hi sel _ listed a _ hclosed (fun j oj hj hne hun hno => (freeC_spec hi hf j oj hj hne hun hno).1) hri (.inr ⟨by simpa using hw, rfl⟩) (ih _ h)
  | .n i p, listed, a, W, hsz, hclosed, hc, hG, h => by
    simp only [chkH, Bool.and_eq_true, beq_iff_eq] at hc
    obtain ⟨hr, hl⟩ := hc
    simp only [wpH] at h
    refine ⟨fun _ w e => by subst e; exact hG, fun h0 => (by rw [hr] at h0; cases h0), fun j hj => ?_⟩
    have hj' := hj
    rw [hr] at hj
    obtain rfl := List.mem_singleton.1 hj
    obtain ⟨_, oj, hoj, _⟩ := mem_ready.1 hj'
    exact stepT_of_op hoj h fun a' w' hG' hX => wpG_of_H hok hs hQ p _ a' w' (by rw [Array.size_setIfInBounds]; exact hsz) (hclosed.set hj') hl hG' hX
  | .two i j p q, listed, a, W, hsz, hclosed, hc, hG, h => by
    simp only [chkH, Bool.and_eq_true, beq_iff_eq] at hc
    obtain ⟨⟨⟨hr, hlen⟩, hp⟩, hq⟩ := hc
    simp only [wpH] at h
    obtain ⟨h1, h2⟩ := h
    refine ⟨fun _ w e => by subst e; exact hG, fun h0 => (by rw [hr] at h0; cases h0), fun x hx => ?_⟩
    have hx' := hx
    rw [hr] at hx
    obtain ⟨_, ox, hox, _⟩ := mem_ready.1 hx'
    rcases List.mem_cons.1 hx with rfl | hx
    · exact stepT_of_op hox h1 fun a' w' hG' hX => wpG_of_H hok hs hQ p _ a' w' (by rw [Array.size_setIfInBounds]; exact hsz) (hclosed.set hx') hp hG' hX
    · obtain rfl := List.mem_singleton.1 hx
      exact stepT_of_op hox h2 fun a' w' hG' hX => hlen ▸ wpG_of_H hok hs hQ q _ a' w' (by rw [Array.size_setIfInBounds]; exact hsz) (hclosed.set hx') hq hG' hX
/-- The rule, shut. -/
structure OrdH (P : Program) (ops : Array Oper) (Q : Exit → Act → World → Prop) (G : World → Prop) (t : Th) (a : Act) (w : World) : Prop where mk :: (out : wpH P ops Q G t a w)
/-- What the region comes to is told (M) with the state ahead of it; what follows stands behind it. -/
theorem regionH {id : Nat} {a : Act} {w : World} (G : World → Prop) (t : Th) (k : Nat) (M : Act → Act → World → Prop) (hm : P.follows .mixedOrders = true) (hc : (Region.noSelect ops && (t.len == ops.size) && decide (k < ops.size) && chkH .any ops k t (Array.replicate ops.size false)) = true)
    (hG : G { w with drawn := w.drawn + 1 }) (h : OrdH P ops (fun x a' w => x = .normal ∧ M a a' w) G t a { w with drawn := w.drawn + 1 }) (hk : ∀ a' w', M a a' w' → Q .normal a' w') : (Code.region id ops true).wp P Q a w := by
  simp only [Bool.and_eq_true, beq_iff_eq, decide_eq_true_eq] at hc
  obtain ⟨⟨⟨h1, h2⟩, h3⟩, h5⟩ := hc
  refine Code.wp_mono (Q := fun x a' w => x = .normal ∧ M a a' w) (fun e a w hx => by obtain ⟨rfl, hM⟩ := hx; exact hk _ _ hM) ?_
  refine wp_region_any hm (wpAny_of_wpG (cl := fun _ => true) (G := G) (k := k) _ _ _ (fun w' => w' = { w with drawn := w.drawn + 1 }) _ rfl ?_)
  rw [← h2]
  exact wpG_of_H (Array.getElem?_eq_getElem h3) h1 (fun c a d v w h => by obtain ⟨h, _⟩ := h; cases h) t _ a _ (by rw [h2, Array.size_replicate]; exact h3) (closed.start _) (by rw [h2]; exact h5) hG h.out
section
variable {G : World → Prop} {i j : Nat} {p q : Th} {l : List Nat} {a a' : Act} {w : World} {o o' : Oper} {N : Tmp}
theorem hR {v : Value} (h : OrdH P ops Q G p a' w) (hi : ops[i]? = some o := by rfl) (hN : o.dst = some N := by rfl) (hw : Region.wanted o (yielded ops a.tmps) = true := by rfl)
    (hy : ∀ w, G w → (execOp a.eval o).run P w = .ok (.value v) w := by intro w' hS; (first | (have hA := blk_cell hS; clear hS; go_simp; first | done | rfl) | (clear hS; go_simp; first | done | rfl)))
    (ha : a.put (some N) v = a' := by simp only [Act.put, List.setIfInBounds_toArray, List.set_cons_zero, List.set_cons_succ]; rfl) : OrdH P ops Q G (.r i p) a w := by
  refine ⟨?_⟩
  simp only [wpH, hi]
  rw [if_pos hw]
  exact ⟨v, hy, by rw [hN, ha]; exact h.out⟩
theorem hN (h : wpList P ops (Exit.then (fun a' w' => G w' ∧ OrdH P ops Q G p a' w') Q) [o] a w) (hi : ops[i]? = some o := by rfl) : OrdH P ops Q G (.n i p) a w := by
  refine ⟨?_⟩
  simp only [wpH]
  exact wpOp_mono (fun a' w' hh => ⟨hh.1, hh.2.out⟩) (wpOp_of_one hi h)
theorem hLeaf (h : TailG P ops Q G l a w) : OrdH P ops Q G (.leaf l) a w := ⟨h.out⟩
end
end Go.Proofs.YtgemaohdlibboaaGreatDoor.Reg
