/- Walks and plain laws for the law FnHomomorphisms, part 6 of 8: the texts HM13, HC2, HC3, HM14, HO3, HM15, HC4, HS6, HM16, HL11a, HL11, HL12, HC5, HS4 in one. No condition. -/
import Derived.Test.YtgemaohdlibboaaGreatZFnHomomorphisms5
/- What the program's search keeps between its visits. No condition. -/
namespace Go.Proofs.YtgemaohdlibboaaGreat.H
open Go Go.RowKit Go.Proofs.YtgemaohdlibboaaGreatW.PrintWords Go.Proofs.YtgemaohdlibboaaGreatW.PrintLast
open Go.Proofs.YtgemaohdlibboaaGreat.Reg (On on_draw)
set_option maxHeartbeats 4000000
set_option maxRecDepth 100000
set_option linter.unusedVariables false
set_option linter.unusedSimpArgs false

theorem subI_get : ∀ (l : List Int) (k i : Nat), i < (subI k l).1.length → ∃ j, j < l.length ∧ (subI k l).1[i]? = some ((k + j : Nat) : Int) ∧ l.getD j 10 ≠ 10 ∧ (subI k l).2[i]? = some (l.getD j 10)
  | [], k, i, h => by simp [subI] at h
  | v :: l, k, i, h => by
    rw [subI_cons] at h ⊢
    by_cases hv : v = 10
    · rw [if_pos hv] at h ⊢
      obtain ⟨j, h1, h2, h3, h4⟩ := subI_get l (k + 1) i h
      exact ⟨j + 1, by simp; omega, by rw [h2, show k + 1 + j = k + (j + 1) by omega], by simpa using h3, by simpa using h4⟩
    · rw [if_neg hv] at h ⊢
      cases i with
      | zero => exact ⟨0, by simp, by simp, by simpa using hv, by simp⟩
      | succ i =>
        obtain ⟨j, h1, h2, h3, h4⟩ := subI_get l (k + 1) i (by simpa using h)
        exact ⟨j + 1, by simp; omega, by simp only [List.getElem?_cons_succ]; rw [h2, show k + 1 + j = k + (j + 1) by omega], by simpa using h3, by simpa using h4⟩
/-- Worlds that differ in the box b and in the block of the row v alone; the row is v' now. -/
structure Fr (b : Nat) (v v' : Value) (w w' : World) : Prop where
  ex : Ex (fun k => k = b ∨ some k = v.ownBlock) w w'
  hat : v'.ownBlock = v.ownBlock ∨ ∃ k, v'.ownBlock = some k ∧ w.heap.size ≤ k
theorem Fr.of_on {b : Nat} {v : Value} {w w' : World} (h : On w w') : Fr b v v w w' := ⟨Ex.of_on h, .inl rfl⟩
theorem Fr.trans {b : Nat} {v v1 v2 : Value} {w w1 w2 : World} (h : Fr b v v1 w w1) (k : Fr b v1 v2 w1 w2) : Fr b v v2 w w2 := by
  refine ⟨h.ex.trans k.ex fun i hi hS => ?_, ?_⟩
  · rcases hS with hS | hS
    · exact .inl hS
    · rcases h.hat with e | ⟨j, e, hj⟩
      · exact .inr (hS.trans e)
      · rw [e] at hS
        injection hS with hS
        omega
  · rcases k.hat with e | ⟨j, e, hj⟩
    · rw [e]; exact h.hat
    · exact .inr ⟨j, e, Nat.le_trans h.ex.size hj⟩
theorem BM.ex {S : Nat → Prop} {w w' : World} {m n : Nat} {z : List Int} (h : BM w m n z) (k : Ex S w w') (hS : ¬ S m) : BM w' m n z := by
  obtain ⟨D, ⟨es, clock, hb, F, hs, hD⟩, h2⟩ := h.out
  exact ⟨D, ⟨es, clock, blk_ex k hb hS, F, hs, hD⟩, h2⟩
theorem BM.fr {w w' : World} {m n b lo : Nat} {z : List Int} {v v' : Value} {hs : List SHd} {cs : Array Value} {t : TypeId} (h : BM w m n z) (k : Fr b v v' w w') (hO : OS w lo v hs) (hb : w.heap[b]? = some (.cells cs t (0, 0))) : BM w' m n z := by
  refine h.ex k.ex fun hS => ?_
  obtain ⟨D, ⟨es, clock, hm, _⟩, _⟩ := h.out
  rcases hS with rfl | hS
  · rw [hm] at hb; cases hb
  · obtain ⟨c, hc⟩ := own_typed hO m hS.symm
    rw [hm] at hc; cases hc
theorem SepS.fr {w w' : World} {lo b : Nat} {hs zs : List SHd} {ss : List Su} {v v' : Value} {cs : Array Value} (h : SepS w lo zs ss) (hO : OS w lo v hs) (hb : w.heap[b]? = some (.cells cs 35 (0, 0))) (hg : Fr b v v' w w') : SepS w' lo zs ss := by
  refine ⟨h.len, Sep.ex h.sep hg.ex (fun i a k ha hbk e => ?_)⟩
  have hi : i < (flF ss).length := by rw [← h.sep.len]; exact (List.getElem?_eq_some_iff.1 ha).1
  have hab := (h.sep.at_ i a _ ha (List.getElem?_eq_getElem hi)).2.1
  rcases e with rfl | e
  · exact blk_not_own hab hb (by decide) hbk.symm
  · exact own_ne_blk hab hO (by decide) hbk e.symm
/-- The row of what is kept, its box, the box of the bound. -/
structure KS (w0 w : World) (lo b b2 : Nat) (most : Int) (v : Value) (hs : List SHd) (ss : List Su) : Prop where
  on : On w0 w
  b0 : w0.heap.size ≤ b
  l0 : w0.heap.size ≤ lo
  ne : b2 ≠ b
  lw : lo ≤ w.heap.size
  own : OS w lo v hs
  sep : SepS w lo hs ss
  box : w.heap[b]? = some (.cells #[v] 35 (0, 0))
  box2 : w.heap[b2]? = some (.cells #[.int .i64 most] 3 (0, 0))
theorem KS.move {w0 w w' : World} {lo b b2 : Nat} {most : Int} {v : Value} {hs : List SHd} {ss : List Su} (h : KS w0 w lo b b2 most v hs ss) (k : On w w') : KS w0 w' lo b b2 most v hs ss :=
  ⟨h.on.trans k, h.b0, h.l0, h.ne, Nat.le_trans h.lw k.size, pw_own_below h.own k, h.sep.on k, blk_below h.box k, blk_below h.box2 k⟩
theorem visit_calls {w0 wB w : World} {lo b b2 : Nat} {most : Int} {v : Value} {hs : List SHd} {ss : List Su} {x y : Sli} {s : Su} (hK : KS w0 wB lo b b2 most v hs ss) (hb : On wB w) (hS : SepS w wB.heap.size [(x, y)] [s]) (hl : hs.length ≤ 1000) :
    Calls Tryz.prog 45 #[.agg #[slV x, slV y], .pointer (some ⟨b, 0, none⟩), .pointer (some ⟨b2, 0, none⟩)] w fun e w' => ∃ v' zs, zs.length = hs.length + 1 ∧ e = .returned (.bool ((zs.length : Int) == most)) ∧ KS w0 w' lo b b2 most v' zs (ss ++ [s]) ∧ Fr b v v' w w' := by
  have h := hK.move hb
  obtain ⟨A, c, rfl⟩ := own_slice hK.own
  refine (keep_calls w lo b b2 A c hs x y most h.own h.lw hl h.box h.box2 h.ne).mono fun e w' hh => ?_
  obtain ⟨A', c', zs, rfl, rfl, hO, hx, hE, hat⟩ := hh
  have hF : Fr b (.slice A hs.length c) (.slice A' (hs ++ [(x, y)]).length c') w w' := ⟨hE, hat⟩
  refine ⟨_, _, by simp, rfl, ⟨Ex.on h.on hE fun i hi => ?_, h.b0, h.l0, h.ne, Nat.le_trans h.lw hE.size, hO, ?_, hx, blk_ex hE h.box2 fun hi => ?_⟩, hF⟩
  · rcases hi with rfl | hi
    · exact h.b0
    · have := own_base h.own i hi.symm; have := h.l0; omega
  · exact (hK.sep.append hS hb hK.lw (Nat.le_refl _)).fr h.own h.box hF
  · rcases hi with e | e
    · exact h.ne e
    · exact blk_not_own h.own h.box2 (by decide) e
end Go.Proofs.YtgemaohdlibboaaGreat.H
/- Walks: the program's own valid facts and their order. No condition. -/
namespace Go.Proofs.YtgemaohdlibboaaGreat.H
open Go Go.RowKit Go.Proofs.YtgemaohdlibboaaGreatW.PrintWords Go.Proofs.YtgemaohdlibboaaGreatW.PrintLast
open Go.Proofs.YtgemaohdlibboaaGreat.Reg (On on_draw)
set_option maxHeartbeats 1000000
set_option maxRecDepth 100000
set_option linter.unusedVariables false
set_option linter.unusedSimpArgs false

theorem badValue_calls (w : World) (v : Int) : Calls Tryz.prog 97 #[.int .i64 v] w fun e w' => e = .returned (.bool (!okVal v)) ∧ On w w' := by
  go_enter Tryz.func97, Tryz.ntmps97
  go_wp2_with (go_at_call 50; refine (iIsValidValue_calls _ _).mono ?_; rintro e w1 ⟨rfl, hb1⟩)
  go_ret
  exact ⟨rfl, hb1⟩
theorem IndexFuncV_calls (w : World) (A c) (vs : List Int) (h : Ints w A c vs) : Calls Tryz.prog 105 #[.slice A vs.length c, .func (.func 97) #[] #[]] w fun e w' => e = .returned (.int .i64 (idxFrom (fun v => !okVal v) vs 0)) ∧ On w w' := by
  have hmax := h.max
  go_enter Tryz.func105, Tryz.ntmps105
  go_wp2
  go_loopw [8] (fun v wr => ∃ k : Nat, k ≤ vs.length ∧ v = .int .i64 k ∧ Hid (idxFrom (fun v => !okVal v) (vs.drop k) k = idxFrom (fun v => !okVal v) vs 0) ∧ On w wr) (fun v _ => vs.length - (intOf v).toNat)
  case atStart => exact ⟨0, Nat.zero_le _, rfl, rfl, On.refl _⟩
  case round =>
    obtain ⟨k, hk, rfl, hp, hB⟩ := hrel
    by_cases hlt : k < vs.length
    · obtain ⟨ad, rfl, hx⟩ := (h.on hB).at k hlt
      have hst := Aside0.mk ((idxFrom_step (fun v => !okVal v) vs k hlt).symm.trans hp.out)
      clear hp
      cases hv : okVal vs[k] with
      | false =>
        have hv' := Aside0.mk hv
        clear hv
        go_wp2_with (go_at_call 97; refine (badValue_calls _ _).mono ?_; rintro e w3 ⟨rfl, hb3⟩; rw [hv'.out])
        go_ret
        exact ⟨ret_int (by have := hst.out; rw [hv'.out, if_pos (by rfl)] at this; exact this), hB.trans hb3⟩
      | true =>
        have hv' := Aside0.mk hv
        clear hv
        go_wp2_with (go_at_call 97; refine (badValue_calls _ _).mono ?_; rintro e w3 ⟨rfl, hb3⟩; rw [hv'.out])
        go_roundw
        case rel => exact ⟨k + 1, by omega, by go_num, (by have := hst.out; rwa [hv'.out, if_neg (by simp)] at this : _ = _), hB.trans hb3⟩
        case measure => simp [intOf]; omega
    · go_wp2
      go_ret
      exact ⟨ret_int (by rw [← hp.out, List.drop_of_length_le (by omega)]; rfl), hB⟩
theorem ContainsFuncV_calls (w : World) (A c) (vs : List Int) (h : Ints w A c vs) : Calls Tryz.prog 96 #[.slice A vs.length c, .func (.func 97) #[] #[]] w fun e w' => e = .returned (.bool (vs.any fun v => !okVal v)) ∧ On w w' := by
  go_enter Tryz.func96, Tryz.ntmps96
  go_wp2_with (go_at_call 105; refine (IndexFuncV_calls w A c vs h).mono ?_; rintro e w3 ⟨rfl, hb3⟩)
  go_ret
  exact ⟨ret_bool (idxFrom_any _ vs 0), hb3⟩
theorem iIsValidFact_calls (w : World) (A c) (rs : List Rel) (B d) (f : Fct) (h0 : Rels w A c rs) (h1 : Ints w B d f.2) : Calls Tryz.prog 79 #[.slice A rs.length c, .agg #[.int .i64 f.1, .slice B f.2.length d]] w fun e w' => e = .returned (.bool (okFact rs f)) ∧ On w w' := by
  have hm0 := h0.max
  have hm1 := h1.max
  have hw1 : IntKind.i64.wrap ((rs.length : Int) - 1) = (rs.length : Int) - 1 := IntWalk.i64_in _ (by omega)
  cases hr : okRels rs with
  | false =>
    have hr' := Aside0.mk hr
    clear hr
    go_enter Tryz.func79, Tryz.ntmps79
    go_wp2
    refine Reg.region [(0,.L),(1,.C),(2,.L),(3,.L),(4,.L),(5,.L),(6,.L),(7,.L),(8,.L),(9,.C),(10,.L),(11,.L),(12,.L),(13,.L),(14,.L),(15,.L),(16,.L),(17,.L),(18,.L),(19,.L),(20,.L),(21,.L),(22,.L),(23,.L)] [] (by kernel_rfl) (by kernel_rfl) ?_
    repeat first | refine sP ?_ | refine sS ?_ | refine sA ?_ | refine sL ?_ | refine sQ ?_ | refine sO ?_
    refine callC (.bool false) Tryz.func78 (fun w' hS => ?_) ?_
    focus exact (iAreValidRelations_calls w' A c rs (h0.on ((On.alloc (On.refl _) _).trans hS))).mono fun e w'' h => ⟨by rw [h.1, hr'.out], h.2⟩
    repeat first | refine sP ?_ | refine sS ?_ | refine sA ?_ | refine sL ?_ | refine sQ ?_ | refine sO ?_
    refine Reg.nil fun w2 hS => ?_
    go_wp2
    go_ret
    exact ⟨ret_bool (by simp [okFact, hr'.out]), (On.alloc (On.refl _) _).trans hS⟩
  | true =>
    have hr' := Aside0.mk hr
    clear hr
    cases hi : within f.1 0 ((rs.length : Int) - 1) with
    | false =>
      have hi' := Aside0.mk hi
      clear hi
      go_enter Tryz.func79, Tryz.ntmps79
      go_wp2
      refine Reg.region [(0,.L),(1,.C),(2,.L),(3,.L),(4,.L),(5,.L),(6,.L),(7,.L),(8,.L),(9,.C),(10,.L),(11,.L),(12,.L),(13,.L),(14,.L),(15,.L),(16,.L),(17,.L),(18,.L),(19,.L),(20,.L),(21,.L),(22,.L),(23,.L)] [] (by kernel_rfl) (by kernel_rfl) ?_
      repeat first | refine sP ?_ | refine sS ?_ | refine sA ?_ | refine sL ?_ | refine sQ ?_ | refine sO ?_
      refine callC (.bool true) Tryz.func78 (fun w' hS => ?_) ?_
      focus exact (iAreValidRelations_calls w' A c rs (h0.on ((On.alloc (On.refl _) _).trans hS))).mono fun e w'' h => ⟨by rw [h.1, hr'.out], h.2⟩
      repeat first | refine sP ?_ | refine sS ?_ | refine sA ?_ | refine sL ?_ | refine sQ ?_ | refine sO ?_
      refine callC (.bool false) Tryz.func49 (fun w' hS => ?_) ?_
      focus exact (within_calls w' _ _ _).mono fun e w'' h => ⟨by rw [h.1, hi'.out], h.2⟩
      repeat first | refine sP ?_ | refine sS ?_ | refine sA ?_ | refine sL ?_ | refine sQ ?_ | refine sO ?_
      refine Reg.nil fun w2 hS => ?_
      go_wp2
      go_ret
      exact ⟨ret_bool (by have := hi'.out; simp [within] at this; simp [okFact]; intros; omega), (On.alloc (On.refl _) _).trans hS⟩
    | true =>
      have hi' := Aside0.mk hi
      have hi2 : 0 ≤ f.1 ∧ f.1 ≤ (rs.length : Int) - 1 := by simpa [within] using hi
      clear hi
      rcases f with ⟨r, vs⟩
      obtain ⟨m, rfl⟩ : ∃ m : Nat, r = m := ⟨r.toNat, by omega⟩
      have hm : m < rs.length := by omega
      have har : arity rs (m : Int) = rs[m].2.1 := by simp [arity, hm]
      clear hi2
      dsimp only at *
      obtain ⟨ad, rfl, hx0, hx1, hx2⟩ := h0.at m hm
      have hbx := Aside0.mk (On.alloc (On.refl w) (.cells #[.int .i64 m, .slice B vs.length d] 54))
      have hx1' := (hbx.out.eq _ (by rw [hx1]; rfl)).trans hx1
      clear hx0 hx1 hx2
      cases hl : decide ((vs.length : Int) = rs[m].2.1) with
      | false =>
        have hl1 : ((vs.length : Int) == rs[m].2.1) = false := hl
        have hl2 : ((vs.length : Int) != rs[m].2.1) = true := by simp [bne, hl1]
        have hl' := Aside0.mk hl
        clear hl
        go_enter Tryz.func79, Tryz.ntmps79
        go_wp2
        refine Reg.region [(0,.L),(1,.C),(2,.L),(3,.L),(4,.L),(5,.L),(6,.L),(7,.L),(8,.L),(9,.C),(10,.L),(11,.L),(12,.L),(13,.L),(14,.L),(15,.L),(16,.L),(17,.L),(18,.L),(19,.L),(20,.L),(21,.L),(22,.L),(23,.L)] [] (by kernel_rfl) (by kernel_rfl) ?_
        repeat first | refine sP ?_ | refine sS ?_ | refine sA ?_ | refine sL ?_ | refine sQ ?_ | refine sO ?_
        refine callC (.bool true) Tryz.func78 (fun w' hS => ?_) ?_
        focus exact (iAreValidRelations_calls w' (some ad) c rs (h0.on (hbx.out.trans hS))).mono fun e w'' h => ⟨by rw [h.1, hr'.out], h.2⟩
        repeat first | refine sP ?_ | refine sS ?_ | refine sA ?_ | refine sL ?_ | refine sQ ?_ | refine sO ?_
        refine callC (.bool true) Tryz.func49 (fun w' hS => ?_) ?_
        focus exact (within_calls w' _ _ _).mono fun e w'' h => ⟨by rw [h.1, hi'.out], h.2⟩
        repeat first | refine sP ?_ | refine sS ?_ | refine sA ?_ | refine sL ?_ | refine sQ ?_ | refine sO ?_
        refine Reg.nil fun w2 hS => ?_
        go_wp2
        go_ret
        have e1 : decide ((vs.length : Int) = arity rs (m : Int)) = false := by rw [har]; exact hl'.out
        exact ⟨ret_bool (by symm; unfold okFact; dsimp only; rw [e1, Bool.and_false, Bool.false_and]), hbx.out.trans hS⟩
      | true =>
        have hl0 : (vs.length : Int) = rs[m].2.1 := of_decide_eq_true hl
        have hl1 : ((vs.length : Int) == rs[m].2.1) = true := by simpa using hl0
        have hl2 : ((vs.length : Int) != rs[m].2.1) = false := by simp [bne, hl1]
        have hl' := Aside0.mk hl
        clear hl hl0
        go_enter Tryz.func79, Tryz.ntmps79
        go_wp2
        refine Reg.region [(0,.L),(1,.C),(2,.L),(3,.L),(4,.L),(5,.L),(6,.L),(7,.L),(8,.L),(9,.C),(10,.L),(11,.L),(12,.L),(13,.L),(14,.L),(15,.L),(16,.L),(17,.L),(18,.L),(19,.L),(20,.L),(21,.L),(22,.L),(23,.L)] [] (by kernel_rfl) (by kernel_rfl) ?_
        repeat first | refine sP ?_ | refine sS ?_ | refine sA ?_ | refine sL ?_ | refine sQ ?_ | refine sO ?_
        refine callC (.bool true) Tryz.func78 (fun w' hS => ?_) ?_
        focus exact (iAreValidRelations_calls w' (some ad) c rs (h0.on (hbx.out.trans hS))).mono fun e w'' h => ⟨by rw [h.1, hr'.out], h.2⟩
        repeat first | refine sP ?_ | refine sS ?_ | refine sA ?_ | refine sL ?_ | refine sQ ?_ | refine sO ?_
        refine callC (.bool true) Tryz.func49 (fun w' hS => ?_) ?_
        focus exact (within_calls w' _ _ _).mono fun e w'' h => ⟨by rw [h.1, hi'.out], h.2⟩
        repeat first | refine sP ?_ | refine sS ?_ | refine sA ?_ | refine sL ?_ | refine sQ ?_ | refine sO ?_
        refine Reg.nil fun w2 hS => ?_
        clear hx1'
        have hL2 := Loc.on hS (loc1 w #[.int .i64 m, .slice B vs.length d] 54)
        have hc0 := blk_cell hL2.1
        have hB2 := Aside0.mk (hbx.out.trans hS)
        cases hv : vs.any (fun v => !okVal v) with
        | true =>
          have hv' := Aside0.mk hv
          clear hv
          go_wp2_with (go_at_call 96; refine (ContainsFuncV_calls w2 B d vs (h1.on hB2.out)).mono ?_; rintro e w3 ⟨rfl, hb3⟩; rw [hv'.out])
          go_ret
          exact ⟨ret_bool (by have : vs.all okVal = false := by have := hv'.out; rw [List.any_eq_not_all_not] at this; simpa using this
                              simp only [okFact, this, Bool.and_false]), hB2.out.trans hb3⟩
        | false =>
          have hv' := Aside0.mk hv
          clear hv
          go_wp2_with (go_at_call 96; refine (ContainsFuncV_calls w2 B d vs (h1.on hB2.out)).mono ?_; rintro e w3 ⟨rfl, hb3⟩; rw [hv'.out])
          go_ret
          exact ⟨ret_bool (by have : vs.all okVal = true := by have := hv'.out; rw [List.any_eq_not_all_not] at this; simpa using this
                              have hl3 := beq_iff_eq.1 hl1; simp [okFact, this, hr'.out, har, hm, hl3]), hB2.out.trans hb3⟩
theorem isNaN_calls (w : World) (v : Int) : Calls Tryz.prog 106 #[.int .i64 v] w fun e w' => e = .returned (.bool false) ∧ On w w' := by
  go_enter Tryz.func106, Tryz.ntmps106
  go_wp2
  go_ret
  exact ⟨by simp, On.refl _⟩
theorem cmpCompare_calls (w : World) (a b : Int) : Calls Tryz.prog 99 #[.int .i64 a, .int .i64 b] w fun e w' => e = .returned (.int .i64 (cmpI a b)) ∧ On w w' := by
  by_cases h1 : a < b
  · have h1b : decide (a < b) = true := decide_eq_true h1
    go_enter Tryz.func99, Tryz.ntmps99
    go_wp2_with (first | (go_at_call 106; refine (isNaN_calls w _).mono ?_; rintro e w1 ⟨rfl, hb1⟩) | (go_at_call 106; refine (isNaN_calls w1 _).mono ?_; rintro e w2 ⟨rfl, hb2⟩))
    go_ret
    exact ⟨ret_int (by unfold cmpI; rw [if_pos (of_decide_eq_true h1b)]), hb1.trans hb2⟩
  · have h1b : decide (a < b) = false := decide_eq_false h1
    by_cases h2 : b < a
    · have h2b : decide (b < a) = true := decide_eq_true h2
      go_enter Tryz.func99, Tryz.ntmps99
      go_wp2_with (first | (go_at_call 106; refine (isNaN_calls w _).mono ?_; rintro e w1 ⟨rfl, hb1⟩) | (go_at_call 106; refine (isNaN_calls w1 _).mono ?_; rintro e w2 ⟨rfl, hb2⟩))
      go_ret
      exact ⟨ret_int (by unfold cmpI; rw [if_neg (of_decide_eq_false h1b), if_pos (of_decide_eq_true h2b)]), hb1.trans hb2⟩
    · have h2b : decide (b < a) = false := decide_eq_false h2
      go_enter Tryz.func99, Tryz.ntmps99
      go_wp2_with (first | (go_at_call 106; refine (isNaN_calls w _).mono ?_; rintro e w1 ⟨rfl, hb1⟩) | (go_at_call 106; refine (isNaN_calls w1 _).mono ?_; rintro e w2 ⟨rfl, hb2⟩))
      go_ret
      exact ⟨ret_int (by unfold cmpI; rw [if_neg (of_decide_eq_false h1b), if_neg (of_decide_eq_false h2b)]), hb1.trans hb2⟩
theorem cmpI_bd (a b : Int) : -1 ≤ cmpI a b ∧ cmpI a b ≤ 1 := by unfold cmpI; split <;> (try split) <;> omega
theorem ints_stepI (a b : List Int) (k : Nat) (h1 : k < a.length) (h2 : k < b.length) : ints (a.drop k) (b.drop k) = if cmpI a[k] b[k] = 0 then ints (a.drop (k + 1)) (b.drop (k + 1)) else cmpI a[k] b[k] := by
  rw [ints_step a b k h1 h2]; unfold cmpI; split
  · simp
  · split <;> simp
theorem slicesCompare_calls (w : World) (A B : Option Addr) (c d : Nat) (a b : List Int) (ha : Ints w A c a) (hb : Ints w B d b) : Calls Tryz.prog 100 #[.slice A a.length c, .slice B b.length d] w fun e w' => e = .returned (.int .i64 (ints a b)) ∧ On w w' := by
  have hma := ha.max
  have hmb := hb.max
  go_enter Tryz.func100, Tryz.ntmps100
  go_wp2
  go_loopw [11] (fun v wr => ∃ k : Nat, k ≤ a.length ∧ k ≤ b.length ∧ v = .int .i64 k ∧ Hid (ints (a.drop k) (b.drop k) = ints a b) ∧ On w wr) (fun v _ => a.length - (intOf v).toNat)
  case atStart => exact ⟨0, Nat.zero_le _, Nat.zero_le _, rfl, rfl, On.refl _⟩
  case round =>
    obtain ⟨k, hk1, hk2, rfl, hp, hB⟩ := hrel
    by_cases h1 : k < a.length
    · obtain ⟨ad, rfl, hx⟩ := (ha.on hB).at k h1
      by_cases h2 : k < b.length
      · obtain ⟨bd, rfl, hy⟩ := (hb.on hB).at k h2
        have h2n : decide (b.length ≤ k) = false := decide_eq_false (by omega)
        have hst := Aside0.mk ((ints_stepI a b k h1 h2).symm.trans hp.out)
        clear hp
        by_cases h3 : cmpI a[k] b[k] = 0
        · have h3' := Aside0.mk h3
          have h3b : (cmpI a[k] b[k] != 0) = false := by simp [h3]
          clear h3
          go_wp2_with (go_at_call 99; refine (cmpCompare_calls _ _ _).mono ?_; rintro e w3 ⟨rfl, hb3⟩)
          go_roundw
          case rel => exact ⟨k + 1, by omega, by omega, by go_num, (by have := hst.out; rwa [if_pos h3'.out] at this : _ = _), hB.trans hb3⟩
          case measure => simp [intOf]; omega
        · have h3' := Aside0.mk h3
          have h3b : (cmpI a[k] b[k] != 0) = true := by simp [h3]
          clear h3
          go_wp2_with (go_at_call 99; refine (cmpCompare_calls _ _ _).mono ?_; rintro e w3 ⟨rfl, hb3⟩)
          go_ret
          exact ⟨ret_int (by have := hst.out; rwa [if_neg h3'.out] at this), hB.trans hb3⟩
      · have hb0 : b.drop k = [] := List.drop_of_length_le (by omega)
        have h2n : decide (b.length ≤ k) = true := decide_eq_true (by omega)
        have hp' := Aside0.mk hp.out
        clear hp
        go_wp2
        go_ret
        exact ⟨ret_int (by rw [← hp'.out, hb0, List.drop_eq_getElem_cons h1]; rfl), hB⟩
    · have ha0 : a.drop k = [] := List.drop_of_length_le (by omega)
      have hp' := Aside0.mk hp.out
      clear hp
      by_cases h2 : k < b.length
      · have h4 : a.length < b.length := by omega
        go_wp2
        go_ret
        exact ⟨ret_int (by rw [← hp'.out, ha0, List.drop_eq_getElem_cons h2]; rfl), hB⟩
      · have hb0 : b.drop k = [] := List.drop_of_length_le (by omega)
        have h4 : ¬ a.length < b.length := by omega
        go_wp2
        go_ret
        exact ⟨ret_int (by rw [← hp'.out, ha0, hb0]; rfl), hB⟩
/-- The first that is not 0. -/
def orFrom : List Int → Int
  | [] => 0
  | x :: l => if x = 0 then orFrom l else x
theorem orFrom_step (l : List Int) (k : Nat) (h : k < l.length) : orFrom (l.drop k) = if l[k] = 0 then orFrom (l.drop (k + 1)) else l[k] := by
  rw [List.drop_eq_getElem_cons h]; rfl
theorem cmpOr_calls (w : World) (A c) (l : List Int) (h : Ints w A c l) : Calls Tryz.prog 98 #[.slice A l.length c] w fun e w' => e = .returned (.int .i64 (orFrom l)) ∧ On w w' := by
  have hmax := h.max
  go_enter Tryz.func98, Tryz.ntmps98
  go_wp2
  go_loop [8] (fun v => ∃ k : Nat, k ≤ l.length ∧ v = .int .i64 k ∧ Hid (orFrom (l.drop k) = orFrom l)) (fun v => l.length - (intOf v).toNat)
  case atStart => exact ⟨0, Nat.zero_le _, rfl, rfl⟩
  case round =>
    obtain ⟨k, hk, rfl, hp⟩ := hrel
    by_cases hlt : k < l.length
    · obtain ⟨ad, rfl, hx⟩ := h.at k hlt
      have hst := Aside0.mk ((orFrom_step l k hlt).symm.trans hp.out)
      clear hp
      by_cases h3 : l[k] = 0
      · have h3' := Aside0.mk h3
        have h3b : (l[k] != 0) = false := by simp [h3]
        clear h3
        go_wp2
        go_round
        case rel => exact ⟨k + 1, by omega, by go_num, (by have := hst.out; rwa [if_pos h3'.out] at this : _ = _)⟩
        case measure => simp [intOf]; omega
      · have h3' := Aside0.mk h3
        have h3b : (l[k] != 0) = true := by simp [h3]
        clear h3
        go_wp2
        go_ret
        exact ⟨ret_int (by have := hst.out; rwa [if_neg h3'.out] at this), On.refl _⟩
    · go_wp2
      go_ret
      exact ⟨ret_int (by rw [← hp.out, List.drop_of_length_le (by omega)]; rfl), On.refl _⟩
theorem ints2 (w : World) (a b : Int) : Ints (w.alloc (.cells #[.int .i64 a, .int .i64 b] 3)) (some ⟨w.heap.size, 0, none⟩) 2 [a, b] ↔ InR [a, b] := by
  refine ⟨fun h => h.2.2, fun h => ⟨Nat.le_refl _, ⟨rfl, by simp, fun _ => ⟨_, rfl, fun j p hj => ?_⟩⟩, h⟩⟩
  refine ⟨[.int .i64 p], rfl, rfl, fun i u hu => ?_⟩
  have hc := blk_cell (loc_new w #[.int .i64 a, .int .i64 b] 3)
  obtain ⟨rfl, rfl⟩ : i = 0 ∧ u = .int .i64 p := by
    cases i with
    | zero => simp at hu; exact ⟨rfl, hu.symm⟩
    | succ i => simp at hu
  rw [add_plain, show j * kInts.sz + 0 = j from by show j * 1 + 0 = j; omega, hc]
  match j, hj with
  | 0, hj => simp at hj; subst hj; rfl
  | 1, hj => simp at hj; subst hj; rfl
  | j + 2, hj => simp at hj
theorem ints_bd (a b : List Int) : -1 ≤ ints a b ∧ ints a b ≤ 1 := by
  induction a generalizing b with
  | nil => cases b <;> simp [ints]
  | cons x a ih =>
    cases b with
    | nil => simp [ints]
    | cons y b =>
      unfold ints
      split
      · omega
      · split
        · omega
        · exact ih b
theorem iCompareFacts_calls (w : World) (A0 c0 A1 c1) (f g : Fct) (h0 : Ints w A0 c0 f.2) (h1 : Ints w A1 c1 g.2) : Calls Tryz.prog 80 #[.agg #[.int .i64 f.1, .slice A0 f.2.length c0], .agg #[.int .i64 g.1, .slice A1 g.2.length c1]] w fun e w' => e = .returned (.int .i64 (cmpF f g)) ∧ On w w' := by
  have hb0 := Aside0.mk (On.alloc (On.alloc (On.refl w) (.cells #[.int .i64 f.1, .slice A0 f.2.length c0] 54)) (.cells #[.int .i64 g.1, .slice A1 g.2.length c1] 54))
  go_enter Tryz.func80, Tryz.ntmps80
  go_wp2
  refine Reg.region [(0,.L),(1,.L),(2,.L),(3,.L),(4,.C),(5,.L),(6,.L),(7,.L),(8,.L),(9,.C)] [10,11,12] (by kernel_rfl) (by kernel_rfl) ?_
  repeat first | refine sP ?_ | refine sS ?_ | refine sA ?_ | refine sL ?_ | refine sQ ?_ | refine sO ?_
  refine callC (.int .i64 (cmpI f.1 g.1)) Tryz.func99 (fun w' hS => ?_) ?_
  focus exact cmpCompare_calls w' _ _
  repeat first | refine sP ?_ | refine sS ?_ | refine sA ?_ | refine sL ?_ | refine sQ ?_ | refine sO ?_
  refine callC (.int .i64 (ints f.2 g.2)) Tryz.func100 (fun w' hS => ?_) ?_
  focus exact slicesCompare_calls w' _ _ _ _ f.2 g.2 (h0.on (hb0.out.trans hS)) (h1.on (hb0.out.trans hS))
  repeat first | refine sP ?_ | refine sS ?_ | refine sA ?_ | refine sL ?_ | refine sQ ?_ | refine sO ?_
  refine Reg.tail_ fun w2 hS => ?_
  have hc := cmpI_bd f.1 g.1
  have hi := ints_bd f.2 g.2
  have hr := Aside0.mk ((ints2 w2 (cmpI f.1 g.1) (ints f.2 g.2)).2 (fun x hx => by simp at hx; rcases hx with rfl | rfl <;> omega))
  clear hc hi
  go_wp2_with (go_at_call 98; refine (cmpOr_calls _ _ _ _ hr.out).mono ?_; rintro e w3 ⟨rfl, hb3⟩)
  go_ret
  refine ⟨ret_int ?_, (hb0.out.trans hS).trans ((On.alloc (On.refl _) _).trans hb3)⟩
  rw [cmpF_or]
  simp only [orFrom]
  by_cases h3 : cmpI f.1 g.1 = 0
  · simp only [h3, if_pos, ne_eq, not_true, if_false]
    by_cases h4 : ints f.2 g.2 = 0
    · rw [if_pos h4, h4]
    · rw [if_neg h4]
  · simp [h3]
end Go.Proofs.YtgemaohdlibboaaGreat.H
/- Walks: the program's own search for facts. No condition. -/
namespace Go.Proofs.YtgemaohdlibboaaGreat.H
open Go Go.RowKit Go.Proofs.YtgemaohdlibboaaGreatW.PrintWords Go.Proofs.YtgemaohdlibboaaGreatW.PrintLast
open Go.Proofs.YtgemaohdlibboaaGreat.Reg (On on_draw)
set_option maxHeartbeats 1000000
set_option maxRecDepth 100000
set_option linter.unusedVariables false
set_option linter.unusedSimpArgs false

theorem sameFact_calls (w : World) (A0 c0 A1 c1) (f g : Fct) (h0 : Ints w A0 c0 f.2) (h1 : Ints w A1 c1 g.2) : Calls Tryz.prog 54 #[.agg #[.int .i64 f.1, .slice A0 f.2.length c0], .agg #[.int .i64 g.1, .slice A1 g.2.length c1]] w fun e w' => e = .returned (.bool (cmpF f g == 0)) ∧ On w w' := by
  have hb := Aside0.mk (On.alloc (On.alloc (On.refl w) (.cells #[.int .i64 f.1, .slice A0 f.2.length c0] 54)) (.cells #[.int .i64 g.1, .slice A1 g.2.length c1] 54))
  go_enter Tryz.func54, Tryz.ntmps54
  go_wp2_with (go_at_call 80; refine (iCompareFacts_calls _ A0 c0 A1 c1 f g (h0.on hb.out) (h1.on hb.out)).mono ?_; rintro e w1 ⟨rfl, hb1⟩)
  go_ret
  exact ⟨rfl, hb.out.trans hb1⟩
theorem hasFact1_calls (w : World) (A0 c0 A1 c1) (f g : Fct) (b : Nat) (h0 : Ints w A0 c0 f.2) (h1 : Ints w A1 c1 g.2) (hb0 : w.heap[b]? = some (.cells #[.int .i64 g.1, .slice A1 g.2.length c1] 54 (0, 0))) : Calls Tryz.prog 53 #[.agg #[.int .i64 f.1, .slice A0 f.2.length c0], .pointer (some ⟨b, 0, none⟩)] w fun e w' => e = .returned (.bool (cmpF f g == 0)) ∧ On w w' := by
  have hb := Aside0.mk (On.alloc (On.refl w) (.cells #[.int .i64 f.1, .slice A0 f.2.length c0] 54))
  have hc := blk_cell (blk_below hb0 hb.out)
  have hlt := Aside0.mk (blk_lt hb0)
  clear hb0
  go_enter Tryz.func53, Tryz.ntmps53
  go_wp2_with (go_at_call 54; refine (sameFact_calls _ A0 c0 A1 c1 f g (h0.on hb.out) (h1.on hb.out)).mono ?_; rintro e w1 ⟨rfl, hb1⟩)
  go_ret
  exact ⟨rfl, hb.out.trans hb1⟩
/-- A call of a closure. -/
theorem goesC {ops : Array Oper} {rest : List Oper} {o : Oper} {a : Act} {Q : Exit → Act → World → Prop} {w : World} (N : Tmp) {x : Operand} {f : FuncId} {fn : Func} {xs : Array Operand} {ts : Array TypeId} {caps args : Array Value} (hf : Tryz.prog.funcs[f]? = some fn) (hname : (fn.name == "runtime.NumGoroutine") = false) (hb : fn.body.isSome = true)
    (h : Calls Tryz.prog f args w fun e w' => ∃ v, e = .returned v ∧ wpList Tryz.prog ops Q rest (a.put (some N) v) w')
    (hop : o.op = .call { callee := .value x, args := xs, argTypes := ts } := by rfl) (hx : a.eval x = .func (.func f) #[] caps := by rfl) (hargs : xs.map a.eval ++ caps = args := by (try simp only [List.map_toArray, List.map_cons, List.map_nil]); rfl)
    (hd : o.dst = some N := by rfl) (hg : o.guard = none := by rfl) : wpList Tryz.prog ops Q (o :: rest) a w := by
  refine wpList_plain hg fun K hK => ?_
  have he := enters_ hf hname hb args w
  have hrun : (execOp a.eval o).run Tryz.prog w = .ok (.enter f args) w := by
    unfold execOp
    simp [hop, resolve, Deferred.ofValue, invoke, hx, hargs, he]
  unfold Oper.wp
  rw [hrun, Oper.upon_enter]
  refine h.mono fun e w'' hh => ?_
  obtain ⟨v, rfl, hk⟩ := hh
  rw [← hd] at hk
  exact hK _ _ hk
theorem IndexFuncF_calls (w : World) (A c) (fs : List Fct) (h : Fcts w A c fs) {fn : FuncId} {F : Func} (caps : Array Value) (p : Fct → Bool) (hf : Tryz.prog.funcs[fn]? = some F) (hname : (F.name == "runtime.NumGoroutine") = false) (hbd : F.body.isSome = true)
    (hcl : ∀ (w' : World), On w w' → ∀ (f : Fct), f ∈ fs → ∀ (A1 : Option Addr) (c1 : Nat), Ints w' A1 c1 f.2 → Calls Tryz.prog fn (#[.agg #[.int .i64 f.1, .slice A1 f.2.length c1]] ++ caps) w' fun e w'' => e = .returned (.bool (p f)) ∧ On w' w'') :
    Calls Tryz.prog 52 #[.slice A fs.length c, .func (.func fn) #[] caps] w fun e w' => e = .returned (.int .i64 (idxFrom p fs 0)) ∧ On w w' := by
  have hmax := h.max
  go_enter Tryz.func52, Tryz.ntmps52
  go_wp2
  go_loopw [8] (fun v wr => ∃ k : Nat, k ≤ fs.length ∧ v = .int .i64 k ∧ Hid (idxFrom p (fs.drop k) k = idxFrom p fs 0) ∧ On w wr) (fun v _ => fs.length - (intOf v).toNat)
  case atStart => exact ⟨0, Nat.zero_le _, rfl, rfl, On.refl _⟩
  case round =>
    obtain ⟨k, hk, rfl, hp, hB⟩ := hrel
    by_cases hlt : k < fs.length
    · obtain ⟨ad, A1, c1, rfl, hx0, hx1, hx2⟩ := (h.on hB).at k hlt
      have hst := Aside0.mk ((idxFrom_step p fs k hlt).symm.trans hp.out)
      clear hp
      have hc2 := Aside0.mk (hcl wr hB fs[k] (List.getElem_mem hlt) A1 c1 hx2)
      cases hv : p fs[k] with
      | true =>
        rw [hv] at hc2
        have hv' := Aside0.mk hv
        clear hv
        go_wp2_with (refine gate 16 ?_)
        refine ⟨goesC 16 hf hname hbd (hc2.out.mono fun e w2 h2 => ⟨_, h2.1, ?_⟩)⟩
        have hb2 := Aside0.mk h2.2
        clear h2
        go_wp2
        go_ret
        exact ⟨ret_int (by have := hst.out; rw [hv'.out, if_pos rfl] at this; exact this), hB.trans hb2.out⟩
      | false =>
        rw [hv] at hc2
        have hv' := Aside0.mk hv
        clear hv
        go_wp2_with (refine gate 16 ?_)
        refine ⟨goesC 16 hf hname hbd (hc2.out.mono fun e w2 h2 => ⟨_, h2.1, ?_⟩)⟩
        have hb2 := Aside0.mk h2.2
        clear h2
        go_wp2
        exact ⟨⟨k + 1, by omega, by go_num, (by have := hst.out; rwa [hv'.out, if_neg (by simp)] at this : _ = _), hB.trans hb2.out⟩, by simp [intOf]; omega⟩
    · go_wp2
      go_ret
      exact ⟨ret_int (by rw [← hp.out, List.drop_of_length_le (by omega)]; rfl), hB⟩
theorem ContainsFuncF_calls (w : World) (A c) (fs : List Fct) (h : Fcts w A c fs) {fn : FuncId} {F : Func} (caps : Array Value) (p : Fct → Bool) (hf : Tryz.prog.funcs[fn]? = some F) (hname : (F.name == "runtime.NumGoroutine") = false) (hbd : F.body.isSome = true)
    (hcl : ∀ (w' : World), On w w' → ∀ (f : Fct), f ∈ fs → ∀ (A1 : Option Addr) (c1 : Nat), Ints w' A1 c1 f.2 → Calls Tryz.prog fn (#[.agg #[.int .i64 f.1, .slice A1 f.2.length c1]] ++ caps) w' fun e w'' => e = .returned (.bool (p f)) ∧ On w' w'') :
    Calls Tryz.prog 27 #[.slice A fs.length c, .func (.func fn) #[] caps] w fun e w' => e = .returned (.bool (fs.any p)) ∧ On w w' := by
  go_enter Tryz.func27, Tryz.ntmps27
  go_wp2_with (go_at_call 52; refine (IndexFuncF_calls w A c fs h caps p hf hname hbd hcl).mono ?_; rintro e w3 ⟨rfl, hb3⟩)
  go_ret
  exact ⟨ret_bool (idxFrom_any _ fs 0), hb3⟩
theorem hasFact_calls (w : World) (A c) (fs : List Fct) (h : Fcts w A c fs) (A1 c1) (g : Fct) (hg : Ints w A1 c1 g.2) : Calls Tryz.prog 29 #[.slice A fs.length c, .agg #[.int .i64 g.1, .slice A1 g.2.length c1]] w fun e w' => e = .returned (.bool (fs.any fun f => cmpF f g == 0)) ∧ On w w' := by
  have hb := Aside0.mk (On.alloc (On.refl w) (.cells #[.int .i64 g.1, .slice A1 g.2.length c1] 54))
  have hL := Aside0.mk (loc_new w #[.int .i64 g.1, .slice A1 g.2.length c1] 54)
  go_enter Tryz.func29, Tryz.ntmps29
  go_wp2_with (go_at_call 27; refine (ContainsFuncF_calls _ A c fs (h.on hb.out) (fn := 53) #[.pointer (some ⟨w.heap.size, 0, none⟩)] (fun f => cmpF f g == 0) Tryz.func53 (by kernel_rfl) rfl (fun w' hw f hf B d hB => hasFact1_calls w' B d A1 c1 f g w.heap.size hB (hg.on (hb.out.trans hw)) (blk_below hL.out hw))).mono ?_; rintro e w3 ⟨rfl, hb3⟩)
  go_ret
  exact ⟨rfl, hb.out.trans hb3⟩
end Go.Proofs.YtgemaohdlibboaaGreat.H
/- Walks: the program's search, its end: a binding told as a substitution, the visit. No condition. -/
namespace Go.Proofs.YtgemaohdlibboaaGreat.H
open Go Go.RowKit Go.Proofs.YtgemaohdlibboaaGreatW.PrintWords Go.Proofs.YtgemaohdlibboaaGreatW.PrintLast
open Go.Proofs.YtgemaohdlibboaaGreat.Reg (On on_draw)
set_option maxHeartbeats 4000000
set_option maxRecDepth 100000
set_option linter.unusedVariables false
set_option linter.unusedSimpArgs false

abbrev visitor (b b2 : Nat) : Value := .func (.func 45) #[] #[.pointer (some ⟨b, 0, none⟩), .pointer (some ⟨b2, 0, none⟩)]
theorem getD_inR {l : List Int} (h : InR l) (j : Nat) : -9223372036854775808 ≤ l.getD j 10 ∧ l.getD j 10 ≤ 9223372036854775807 := by
  rw [List.getD_eq_getElem?_getD]
  cases e : l[j]? with
  | none => simp
  | some x => exact h x (List.mem_of_getElem? e)
theorem take_snoc {l : List Int} {k : Nat} {x : Int} (h : l[k]? = some x) : l.take (k + 1) = l.take k ++ [x] := by
  obtain ⟨hk, e⟩ := List.getElem?_eq_some_iff.1 h
  rw [List.take_succ_eq_append_getElem hk, e]
theorem searchBase_calls {w0 w : World} {lo b b2 : Nat} {most : Int} {v : Value} {hs : List SHd} {ss : List Su} (A0 c0 A1 m1 c1) (m n : Nat) (z : List Int) (hK : KS w0 w lo b b2 most v hs ss) (hl : hs.length ≤ 1000) (hM : BM w m n z) (hz : z.length = 40) (hR : InR z) (hn : n ≤ 1000000) :
    Calls Tryz.prog 44 #[.slice A0 0 c0, .slice A1 m1 c1, .map (some m), visitor b b2] w (Got fun r w' => ∃ v' zs, zs.length = hs.length + 1 ∧ r = .bool ((zs.length : Int) == most) ∧ KS w0 w' lo b b2 most v' zs (ss ++ [subI 0 z]) ∧ Fr b v v' w w') := by
  obtain ⟨D, hown, hm1, hh3, hh4⟩ := hM.out
  have hK' := Aside0.mk hK
  have hM' := Aside0.mk hM
  have hh3' := Aside0.mk hh3
  have hh4' := Aside0.mk hh4
  have hR' := Aside0.mk hR
  have hz' := Aside0.mk hz
  have hown' := Aside0.mk hown
  have hsk := Aside0.mk (Nat.le_trans hown.size_le hn)
  clear hK hM hm1 hh3 hh4 hR hz hown
  go_enter Tryz.func44, Tryz.ntmps44
  go_wp2_with (refine gate 20 ?_)
  refine ⟨goesF 20 Tryz.func75 ((keysOf_calls w m).mono ?_)⟩
  rintro e w1 ⟨rfl, rfl⟩
  refine ⟨_, rfl, ?_⟩
  refine goesF 21 Tryz.func74 ((sortedKeys_calls w m n D hown'.out hsk.out).mono ?_)
  rintro e w2 ⟨vN, ssK, rfl, hperm, hO0, hB0⟩
  refine ⟨_, rfl, ?_⟩
  have hq := keys_sorted hown'.out hz'.out (fun k hk => (hh3'.out k hk).1) hh4'.out hperm
  have hlen : ssK.length = (subI 0 z).1.length := by rw [← hq, List.length_mergeSort]
  have hOI : OI w2 (w.heap.size + 1) vN (subI 0 z).1 := by
    have h := hO0
    rw [hq, hlen, World.size_alloc] at h
    show World.ownsRow _ _ _ _ _ _ _
    rw [← encs_flat]
    exact h
  obtain ⟨N, hN⟩ : ∃ N, (subI 0 z).1 = N := ⟨_, rfl⟩
  obtain ⟨V, hV⟩ : ∃ V, (subI 0 z).2 = V := ⟨_, rfl⟩
  have hlV := Aside0.mk (show N.length = V.length ∧ N.length ≤ 40 by
    have h := subI_len 0 z
    rw [hN, hV] at h
    exact ⟨h.1, by have := hz'.out; omega⟩)
  have hget := Aside0.mk (show ∀ i, i < N.length → ∃ j, j < z.length ∧ N[i]? = some ((j : Nat) : Int) ∧ z.getD j 10 ≠ 10 ∧ V[i]? = some (z.getD j 10) from fun i hi => by
    have h := subI_get z 0 i (by rw [hN]; exact hi)
    rw [hN, hV] at h
    obtain ⟨j, h1, h2, h3, h4⟩ := h
    exact ⟨j, h1, by rw [h2, Nat.zero_add], h3, h4⟩)
  have hin := Aside0.mk (show InR N ∧ InR V by
    have h := subI_inR z 0 hR'.out (by have := hz'.out; omega)
    rw [hN, hV] at h
    exact h)
  rw [hN] at hOI
  obtain ⟨An, cn, rfl, hIN⟩ := OI.rd hOI hin.out.1
  have hOI' := Aside0.mk hOI
  have hIN' := Aside0.mk hIN
  have hmN := hIN.max
  have hB2 := Aside0.mk ((On.alloc (On.refl w) (.cells #[.map (some m)] 69)).trans hB0)
  have hNV := Aside0.mk (show subI 0 z = (N, V) by rw [← hN, ← hV])
  clear hperm hO0 hB0 hq hlen hOI hIN hN hV
  have hfill := alloc_fill w2
  go_wp2
  clear hfill
  obtain ⟨q, hq⟩ : ∃ q, w2.heap.size = q := ⟨_, rfl⟩
  have hyb := Aside0.mk (show (w2.alloc (.cells #[.slice An N.length cn, .slice none 0 0] 32)).heap[q]? = some (.cells #[.slice An N.length cn, .slice none 0 0] 32 (0, 0)) from by rw [← hq]; exact loc_new w2 #[.slice An N.length cn, .slice none 0 0] 32)
  have hE0 := Aside0.mk (On.alloc (On.refl w2) (.cells #[.slice An N.length cn, .slice none 0 0] 32))
  have hsy := Aside0.mk (show (w2.alloc (.cells #[.slice An N.length cn, .slice none 0 0] 32)).heap.size = q + 1 by simp [hq])
  have hq2 := Aside0.mk hq
  obtain ⟨Wy, hWy⟩ : ∃ Wy, w2.alloc (.cells #[.slice An N.length cn, .slice none 0 0] 32) = Wy := ⟨_, rfl⟩
  rw [hWy] at hyb hE0 hsy ⊢
  try rw [hq]
  clear hWy hq
  have hcy := blk_cell hyb.out
  go_loopw [26] (fun x wr => ∃ (k : Nat) (us : List Int) (B : Option Addr) (d : Nat), k ≤ N.length ∧ x = .int .i64 k ∧ Aside0 (us = V.take k) ∧ Aside0 (OI wr (q + 1) (.slice B us.length d) us) ∧ Aside0 (q + 1 ≤ wr.heap.size) ∧ Aside0 (On w2 wr) ∧ wr.heap[q]? = some (.cells #[.slice An N.length cn, .slice B us.length d] 32 (0, 0))) (fun x _ => N.length - (intOf x).toNat)
  case atStart => exact ⟨0, [], none, 0, Nat.zero_le _, rfl, ⟨rfl⟩, ⟨World.ownsRow_nil _ _ _ _⟩, ⟨by rw [hsy.out]; exact Nat.le_refl _⟩, hE0, hyb.out⟩
  case round =>
    obtain ⟨k, us, B, d, hk, rfl, hus, hO, hsz, hB, hyr⟩ := hrel
    have hcy := blk_cell hyr
    have hy' := Aside0.mk hyr
    have hul := Aside0.mk (show us.length ≤ 40 by rw [hus.out, List.length_take]; have := hlV.out; omega)
    clear hyr
    by_cases hlt : k < N.length
    · obtain ⟨j, hj, hNj, h10, hVj⟩ := hget.out k hlt
      obtain ⟨ad, rfl, hx⟩ := (hIN'.out.on hB.out).at k hlt
      have e1 : N[k] = (j : Int) := Option.some.inj ((List.getElem?_eq_getElem hlt).symm.trans hNj)
      rw [e1] at hx
      have hj' := Aside0.mk (show j < 40 by have := hz'.out; omega)
      have h10' := Aside0.mk h10
      have hMr := Aside0.mk (hM'.out.on (hB2.out.trans hB.out))
      have hsn := Aside0.mk (take_snoc hVj)
      clear e1 hj hNj h10 hVj
      go_wp2_with (refine gate 34 ?_)
      refine ⟨bmLook 34 hMr.out j hj'.out h10'.out ?_⟩
      obtain ⟨y, hy⟩ : ∃ y, z.getD j 10 = y := ⟨_, rfl⟩
      have hyR := Aside0.mk (show -9223372036854775808 ≤ y ∧ y ≤ 9223372036854775807 by rw [← hy]; exact getD_inR hR'.out j)
      rw [hy] at hsn ⊢
      clear hy
      go_wp2_with (refine gate 36 ?_)
      obtain ⟨zs, hzs⟩ : ∃ zs, us ++ [y] = zs := ⟨_, rfl⟩
      have hzs' := Aside0.mk hzs
      have hBl := Aside0.mk (On.alloc (On.refl wr) (.cells #[.int .i64 y] 3))
      refine ⟨apI 36 hzs (OI.to (pw_own_below hO.out hBl.out)) (lit_RI hyR.out (On.refl _)) (Nat.le_trans hsz.out hBl.out.size) (by have := hul.out; omega) fun v6 w6 hO6' hg6 hat6 => ?_⟩
      have hO6 := OI.of hO6'
      obtain ⟨A6, c6, rfl⟩ := own_slice hO6
      have hgy : some q ≠ Value.ownBlock (.slice B us.length d) := fun e => by have := own_base hO.out _ e.symm; omega
      have hk6 := blk_grown hg6 (blk_below hy'.out hBl.out) hgy
      have hcy6 := blk_cell hk6
      have hf6 := blk_frozen hk6
      have hk6' := Aside0.mk hk6
      have hB6 := Aside0.mk (own_grows (hB.out.trans hBl.out) (pw_own_below hO.out hBl.out) hg6 (by rw [hq2.out]; omega))
      have hs6 := Aside0.mk (Nat.le_trans (Nat.le_trans hsz.out hBl.out.size) hg6.size)
      have hO6a := Aside0.mk hO6
      clear hk6 hgy hcy hzs hat6 hO6' hO6 hg6 hx
      go_wp2
      refine ⟨⟨k + 1, zs, A6, c6, by omega, by go_num, ⟨by rw [← hzs'.out, hus.out]; exact hsn.out.symm⟩, ⟨ownsRow_setCell_below hO6a.out (by simp) _⟩, ⟨by have := hs6.out; simp [World.setCell]; omega⟩, ⟨Reg.On.set hB6.out (by rw [hq2.out]; simp) _⟩, blk_set hk6'.out 1 _⟩, by simp [intOf]; omega⟩
    · obtain rfl : us = V := by rw [hus.out]; exact List.take_of_length_le (by have := hlV.out; omega)
      have hBr := Aside0.mk (hB2.out.trans hB.out)
      have hSep : SepS wr w.heap.size [((An, N.length, cn), (B, us.length, d))] [subI 0 z] := by
        rw [hNV.out]
        refine SepS.one (own_lower (pw_own_below hOI'.out hB.out) (by omega)) (own_lower hO.out (by have := hB2.out.size; have := hq2.out; omega)) hin.out.1 hin.out.2 fun i h1 h2 => ?_
        have h3 := own_lt hOI'.out i h1
        have h4 := own_base hO.out i h2
        have := hq2.out
        omega
      have hSep' := Aside0.mk hSep
      clear hSep
      go_wp2_with (refine gate 41 ?_)
      refine ⟨goesC 41 Tryz.func45 (by kernel_rfl) rfl ((visit_calls hK'.out hBr.out hSep'.out hl).mono ?_)⟩
      rintro e w9 ⟨v', zs, hzl0, rfl, hK9, hF9⟩
      have hzl := Aside0.mk hzl0
      clear hzl0
      refine ⟨_, rfl, ?_⟩
      go_wp2
      go_ret
      exact ⟨_, rfl, v', zs, hzl.out, rfl, hK9, (Fr.of_on hBr.out).trans hF9⟩
end Go.Proofs.YtgemaohdlibboaaGreat.H
/- Headers stored, cut, cleared. No condition. -/
namespace Go.Proofs.YtgemaohdlibboaaGreat.H
open Go Go.RowKit Go.Proofs.YtgemaohdlibboaaGreatW.PrintWords Go.Proofs.YtgemaohdlibboaaGreatW.PrintLast
open Go.Proofs.YtgemaohdlibboaaGreat.Reg (On on_draw)
set_option maxHeartbeats 1000000
set_option maxRecDepth 100000
set_option linter.unusedVariables false
set_option linter.unusedSimpArgs false

theorem OH.at {w : World} {lo g n c : Nat} {L : List Hdr} (h : OH w lo (.slice (some ⟨g, 0, none⟩) n c) L) (i : Nat) (hi : i < L.length) : w.cell? ⟨g, i * 2, none⟩ = some (.int .i64 L[i].1) ∧ w.cell? ⟨g, i * 2 + 1, none⟩ = some (hdV L[i]) := by
  have hn := (OH.rh h).1
  subst hn
  have h0 := h.cellAt (i * 2) (by omega)
  have h1 := h.cellAt (i * 2 + 1) (by omega)
  have e0 := flat_get (enc := encH) (sz := 2) (fun _ => rfl) L i 0 hi (by omega)
  have e1 := flat_get (enc := encH) (sz := 2) (fun _ => rfl) L i 1 hi (by omega)
  rw [Nat.add_zero] at e0
  rw [e0] at h0
  rw [e1] at h1
  exact ⟨h0, h1⟩
section
variable {ops : Array Oper} {rest : List Oper} {o : Oper} {a : Act} {Q : Exit → Act → World → Prop} {W : World}
end
end Go.Proofs.YtgemaohdlibboaaGreat.H
/- Walks: the program's search. No condition. -/
namespace Go.Proofs.YtgemaohdlibboaaGreat.H
open Go Go.RowKit Go.Proofs.YtgemaohdlibboaaGreatW.PrintWords Go.Proofs.YtgemaohdlibboaaGreatW.PrintLast
open Go.Proofs.YtgemaohdlibboaaGreat.Reg (On on_draw)
set_option maxHeartbeats 4000000
set_option maxRecDepth 100000
set_option pp.deepTerms true
set_option linter.unusedVariables false
set_option linter.unusedSimpArgs false

theorem Fcts.tail {w : World} {A : Option Addr} {c : Nat} {f : Fct} {fs : List Fct} (h : Fcts w A c (f :: fs)) : Fcts w (if c = 1 then A else A.map (·.add (1 * 2))) (c - 1) fs := by
  have hr := Kd.C_drop (m := 1) (c := c) h.2.1 (by simp) h.1
  refine ⟨by have := h.1; simp at this; omega, hr, fun g hg => h.2.2 g (List.mem_cons_of_mem _ hg)⟩
def vals (fs : List Fct) : Nat := (fs.map fun f => f.2.length).sum
theorem vals_cons (f : Fct) (fs : List Fct) : vals (f :: fs) = f.2.length + vals fs := by simp [vals]
theorem search_calls (gs : List Fct) (hg10 : ∀ g ∈ gs, ∀ v ∈ g.2, v ≠ 10) (most : Nat) (hq : most ≤ 1000) : ∀ (fs : List Fct) {w0 w : World} {lo b b2 : Nat} {v : Value} {hs : List SHd} {ss : List Su} (A0 c0 A1 c1) (m n : Nat) (z : List Int) (h0 : Fcts w0 A0 c0 fs) (h1 : Fcts w0 A1 c1 gs) (hK : KS w0 w lo b b2 most v hs ss) (hl : hs.length < most) (hM : BM w m n z) (hz : z.length = 40) (hR : InR z) (hn : n + vals fs < 1000000),
    Calls Tryz.prog 44 #[.slice A0 fs.length c0, .slice A1 gs.length c1, .map (some m), visitor b b2] w (Got fun r w' => ∃ v' zs, r = .bool (decide (zs.length = most)) ∧ KS w0 w' lo b b2 most v' zs (ss ++ (walk gs fs z (most - hs.length)).map (subI 0)) ∧ Fr b v v' w w')
  | [], w0, w, lo, b, b2, v, hs, ss, A0, c0, A1, c1, m, n, z, h0, h1, hK, hl, hM, hz, hR, hn => by
    refine (searchBase_calls A0 c0 A1 gs.length c1 m n z hK (by omega) hM hz hR (by omega)).mono fun e w' hh => ?_
    obtain ⟨v1, rfl, v', zs, hzl, rfl, hK', hF⟩ := hh
    refine ⟨_, rfl, v', zs, ?_, hK', hF⟩
    congr 1
    by_cases h : zs.length = most
    · simp [h]
    · rw [decide_eq_false h, beq_eq_false_iff_ne]; omega
  | f :: fs, w0, w, lo, b, b2, v, hs, ss, A0, c0, A1, c1, m, n, z, h0, h1, hK, hl, hM, hz, hR, hn => by
    have ih := Aside0.mk (fun {w0 w : World} {lo b b2 : Nat} {v : Value} {hs : List SHd} {ss : List Su} => search_calls gs hg10 most hq fs (w0 := w0) (w := w) (lo := lo) (b := b) (b2 := b2) (v := v) (hs := hs) (ss := ss))
    have hm0 := h0.max
    have hm1 := h1.max
    have hc0 := h0.1
    have hK' := Aside0.mk hK
    have hM' := Aside0.mk hM
    have hz' := Aside0.mk hz
    have hR' := Aside0.mk hR
    have hn' := Aside0.mk (show n + f.2.length + vals fs < 1000000 by rw [vals_cons] at hn; omega)
    have hl' := Aside0.mk hl
    have hg' := Aside0.mk hg10
    have hwk := Aside0.mk (walk_cons gs fs f z (most - hs.length))
    have hwl := Aside0.mk (fun (y : List Int) (k : Nat) (hk : 1 ≤ k) => walk_len gs fs y k hk)
    have hfl : (f :: fs).length = fs.length + 1 := rfl
    have hfb : (((fs.length : Int) + 1) == 0) = false := by rw [beq_eq_false_iff_ne]; omega
    obtain ⟨i0, hi0, _, hszF, _⟩ := info_parts infoF
    have hcut := cut_from (P := Tryz.prog) 25 54 .i64 Tryz.underlying25 hi0 2 hszF A0 (f :: fs).length c0 (1 : Int) (by omega) (by rw [hfl]; omega)
    simp only [show (1 : Int).toNat = 1 from rfl, List.length_cons, Nat.add_sub_cancel] at hcut
    have hT0 := h0.tail
    obtain ⟨A', hA'⟩ : ∃ A', (if c0 = 1 then A0 else A0.map (·.add (1 * 2))) = A' := ⟨_, rfl⟩
    rw [hA'] at hT0 hcut
    have hT := Aside0.mk hT0
    have hcut' := Aside0.mk hcut
    clear hA' hT0
    clear hK hM hz hR hn hl hg10 hcut hi0 hszF
    go_enter Tryz.func44, Tryz.ntmps44
    go_wp2
    clear hfb
    go_loopw [44] (fun x wr => ∃ (i : Nat) (vk : Value) (hk : List SHd), i ≤ gs.length ∧ x = .int .i64 i ∧ Aside0 (KS w0 wr lo b b2 most vk hk (ss ++ ((gs.take i).foldl (wstep gs fs f z (most - hs.length)) []).map (subI 0))) ∧ Aside0 (hk.length < most) ∧ Aside0 (Fr b v vk w wr)) (fun x _ => gs.length - (intOf x).toNat)
    case atStart => exact ⟨0, v, hs, Nat.zero_le _, rfl, ⟨by simpa using hK'.out⟩, hl', ⟨Fr.of_on (On.refl _)⟩⟩
    case round =>
      obtain ⟨i, vk, hk, hi, rfl, hKr, hlk, hF⟩ := hrel
      have hMr := Aside0.mk (hM'.out.fr hF.out hK'.out.own hK'.out.box)
      by_cases hlt : i < gs.length
      · have hsucc := Aside0.mk (wfold_succ gs fs f z (most - hs.length) i hlt)
        have hlen := Aside0.mk (show hk.length = hs.length + ((gs.take i).foldl (wstep gs fs f z (most - hs.length)) []).length by
          have h1 := hKr.out.sep.len
          have h2 := hK'.out.sep.len
          rw [List.length_append, List.length_map] at h1
          omega)
        obtain ⟨ad, A5, c5, rfl, hx0, hx1, hx2⟩ := (h0.on hKr.out.on).at 0 (by simp)
        obtain ⟨bd, A6, c6, rfl, hy0, hy1, hy2⟩ := (h1.on hKr.out.on).at i hlt
        have hx2' := Aside0.mk (show Ints wr A5 c5 f.2 from hx2)
        have hy2' := Aside0.mk hy2
        replace hx0 : wr.cell? ad = some (.int .i64 f.1) := hx0
        replace hx1 : wr.cell? ⟨ad.block, ad.off + 1, none⟩ = some (.slice A5 f.2.length c5) := hx1
        clear hx2 hy2
        obtain ⟨g, hg⟩ : ∃ g, gs[i] = g := ⟨_, rfl⟩
        have hgm := Aside0.mk (show ∀ v ∈ g.2, v ≠ 10 from by rw [← hg]; exact hg'.out _ (List.getElem_mem hlt))
        rw [hg] at hy0 hy1 hy2' hsucc
        clear hg
        have hbx := Aside0.mk (On.alloc (On.refl wr) (.cells #[.int .i64 g.1, .slice A6 g.2.length c6] 54))
        have hcn := blk_cell (loc_new wr #[.int .i64 g.1, .slice A6 g.2.length c6] 54)
        have hfill := alloc_fill wr
        have hx0' := (hbx.out.eq _ (by rw [hx0]; rfl)).trans hx0
        have hx1' := (hbx.out.eq _ (by rw [hx1]; rfl)).trans hx1
        cases hf : fit f g z with
        | none =>
          have hf' := Aside0.mk hf
          clear hf
          go_wp2
          clear hfill
          refine Reg.region [(0,.L),(1,.L),(2,.L),(3,.L),(4,.L),(5,.N),(6,.L),(7,.L),(8,.P)] [9,10] (by kernel_rfl) (by kernel_rfl) ?_
          repeat first | refine sP ?_ | refine sS ?_ | refine sA ?_ | refine sL ?_ | refine sQ ?_ | refine sO ?_
          refine callN Tryz.func76 (fun w2 hS2 => ?_)
          have hB2 := Aside0.mk (hbx.out.trans hS2)
          refine (mapped_calls w2 m n A5 c5 A6 c6 f g z (hx2'.out.on hB2.out) (hy2'.out.on hB2.out) (hMr.out.on hB2.out) hR'.out hz'.out hgm.out (by have := hn'.out; omega)).mono ?_
          rintro e w3 ⟨v3, rfl, mv, rfl, hfit, hb3⟩
          rw [hf'.out]
          clear hfit
          refine ⟨_, rfl, hb3, fun a' ha => ?_⟩
          simp only [Act.put, List.setIfInBounds_toArray, List.set_cons_zero, List.set_cons_succ] at ha
          subst ha
          repeat first | refine sP ?_ | refine sS ?_ | refine sA ?_ | refine sL ?_ | refine sQ ?_ | refine sO ?_
          refine Reg.tail_ fun w4 hS4 => ?_
          have hB4 := Aside0.mk (hB2.out.trans (hb3.trans hS4))
          clear hx0 hx1 hy0 hy1 hx0' hx1' hcn
          go_wp2
          refine ⟨⟨i + 1, vk, hk, by omega, by go_num, ⟨?_⟩, hlk, ⟨hF.out.trans (Fr.of_on hB4.out)⟩⟩, by simp [intOf]; omega⟩
          rw [hsucc.out]
          rw [wstep_none (by have := hlen.out; have := hlk.out; omega) hf'.out]
          exact hKr.out.move hB4.out
        | some y =>
          have hf' := Aside0.mk hf
          clear hf
          have hst := Aside0.mk (wstep_some (tos := gs) (fs := fs) (most := most - hs.length) (out := (gs.take i).foldl (wstep gs fs f z (most - hs.length)) []) (by have := hlen.out; have := hlk.out; omega) hf'.out)
          have hbud := Aside0.mk (show most - hs.length - ((gs.take i).foldl (wstep gs fs f z (most - hs.length)) []).length = most - hk.length by have := hlen.out; omega)
          rw [hbud.out] at hst
          obtain ⟨wk, hwkk⟩ : ∃ wk, walk gs fs y (most - hk.length) = wk := ⟨_, rfl⟩
          have hwkl := Aside0.mk (show wk.length ≤ most - hk.length by rw [← hwkk]; exact hwl.out y _ (by have := hlk.out; omega))
          have hwkk' := Aside0.mk hwkk
          rw [hwkk] at hst
          clear hwkk
          by_cases hfull : hk.length + wk.length = most
          · have hfull' := Aside0.mk hfull
            clear hfull
            go_wp2
            clear hfill
            refine Reg.region [(0,.L),(1,.L),(2,.L),(3,.L),(4,.L),(5,.N),(6,.L),(7,.L),(8,.P)] [9,10] (by kernel_rfl) (by kernel_rfl) ?_
            repeat first | refine sP ?_ | refine sS ?_ | refine sA ?_ | refine sL ?_ | refine sQ ?_ | refine sO ?_
            refine callN Tryz.func76 (fun w2 hS2 => ?_)
            have hB2 := Aside0.mk (hbx.out.trans hS2)
            refine (mapped_calls w2 m n A5 c5 A6 c6 f g z (hx2'.out.on hB2.out) (hy2'.out.on hB2.out) (hMr.out.on hB2.out) hR'.out hz'.out hgm.out (by have := hn'.out; omega)).mono ?_
            rintro e w3 ⟨v3, rfl, mv, rfl, hfit, hb3⟩
            obtain ⟨b', rfl, hM3, hge, hRy, hly⟩ := hfit y hf'.out
            have hM3' := Aside0.mk hM3
            have hRy' := Aside0.mk hRy
            have hly' := Aside0.mk hly
            rw [hf'.out]
            clear hfit hM3 hRy hly hge
            refine ⟨_, rfl, hb3, fun a' ha => ?_⟩
            simp only [Act.put, List.setIfInBounds_toArray, List.set_cons_zero, List.set_cons_succ] at ha
            subst ha
            repeat first | refine sP ?_ | refine sS ?_ | refine sA ?_ | refine sL ?_ | refine sQ ?_ | refine sO ?_
            refine Reg.tail_ fun w4 hS4 => ?_
            have hB4 := Aside0.mk (hB2.out.trans (hb3.trans hS4))
            have hM4 := Aside0.mk (hM3'.out.on hS4)
            have hK4 := Aside0.mk (hKr.out.move hB4.out)
            clear hx0 hx1 hy0 hy1 hx0' hx1' hcn
            have hcut := hcut'.out
            have hend := Aside0.mk (wfold_stop gs fs f z (most - hs.length) (i + 1) (by rw [hsucc.out, hst.out, List.length_append]; have := hlen.out; have := hfull'.out; omega))
            go_wp2_with (go_at_call 44; refine Stop.out ?_)
            refine ⟨(ih.out A' (c0 - 1) (some bd) c1 b' (n + f.2.length) y hT.out h1 hK4.out hlk.out hM4.out hly'.out hRy'.out (by have := hn'.out; omega)).mono ?_⟩
            rintro e w5 ⟨r5, rfl, v5, h5, rfl, hK5, hF5⟩
            have hl5 := Aside0.mk (show h5.length = hk.length + wk.length by { have h1 := hK5.sep.len; have h2 := hKr.out.sep.len; rw [List.length_append, List.length_map, hwkk'.out] at h1; omega })
            rw [show decide (h5.length = most) = true from decide_eq_true (by have := hl5.out; have := hfull'.out; omega)]
            go_wp2
            go_ret
            refine ⟨_, rfl, v5, h5, congrArg Value.bool (decide_eq_true (show h5.length = most by have := hl5.out; have := hfull'.out; omega)).symm, ?_, hF.out.trans ((Fr.of_on hB4.out).trans hF5)⟩
            rw [hwk.out, hend.out, hsucc.out, hst.out, List.map_append, ← List.append_assoc, ← hwkk'.out]
            exact hK5
          · have hfull' := Aside0.mk hfull
            clear hfull
            go_wp2
            clear hfill
            refine Reg.region [(0,.L),(1,.L),(2,.L),(3,.L),(4,.L),(5,.N),(6,.L),(7,.L),(8,.P)] [9,10] (by kernel_rfl) (by kernel_rfl) ?_
            repeat first | refine sP ?_ | refine sS ?_ | refine sA ?_ | refine sL ?_ | refine sQ ?_ | refine sO ?_
            refine callN Tryz.func76 (fun w2 hS2 => ?_)
            have hB2 := Aside0.mk (hbx.out.trans hS2)
            refine (mapped_calls w2 m n A5 c5 A6 c6 f g z (hx2'.out.on hB2.out) (hy2'.out.on hB2.out) (hMr.out.on hB2.out) hR'.out hz'.out hgm.out (by have := hn'.out; omega)).mono ?_
            rintro e w3 ⟨v3, rfl, mv, rfl, hfit, hb3⟩
            obtain ⟨b', rfl, hM3, hge, hRy, hly⟩ := hfit y hf'.out
            have hM3' := Aside0.mk hM3
            have hRy' := Aside0.mk hRy
            have hly' := Aside0.mk hly
            rw [hf'.out]
            clear hfit hM3 hRy hly hge
            refine ⟨_, rfl, hb3, fun a' ha => ?_⟩
            simp only [Act.put, List.setIfInBounds_toArray, List.set_cons_zero, List.set_cons_succ] at ha
            subst ha
            repeat first | refine sP ?_ | refine sS ?_ | refine sA ?_ | refine sL ?_ | refine sQ ?_ | refine sO ?_
            refine Reg.tail_ fun w4 hS4 => ?_
            have hB4 := Aside0.mk (hB2.out.trans (hb3.trans hS4))
            have hM4 := Aside0.mk (hM3'.out.on hS4)
            have hK4 := Aside0.mk (hKr.out.move hB4.out)
            clear hx0 hx1 hy0 hy1 hx0' hx1' hcn
            have hcut := hcut'.out
            go_wp2_with (go_at_call 44; refine Stop.out ?_)
            refine ⟨(ih.out A' (c0 - 1) (some bd) c1 b' (n + f.2.length) y hT.out h1 hK4.out hlk.out hM4.out hly'.out hRy'.out (by have := hn'.out; omega)).mono ?_⟩
            rintro e w5 ⟨r5, rfl, v5, h5, rfl, hK5, hF5⟩
            have hl5 := Aside0.mk (show h5.length = hk.length + wk.length by { have h1 := hK5.sep.len; have h2 := hKr.out.sep.len; rw [List.length_append, List.length_map, hwkk'.out] at h1; omega })
            rw [show decide (h5.length = most) = false from decide_eq_false (by have := hl5.out; have := hfull'.out; omega)]
            go_wp2
            refine ⟨⟨i + 1, v5, h5, by omega, by go_num, ⟨?_⟩, ⟨by have := hl5.out; have := hfull'.out; have := hwkl.out; have := hlk.out; omega⟩, ⟨hF.out.trans ((Fr.of_on hB4.out).trans hF5)⟩⟩, by simp [intOf]; omega⟩
            rw [hsucc.out, hst.out, List.map_append, ← List.append_assoc, ← hwkk'.out]
            exact hK5
      · have e1 : gs.take i = gs := List.take_of_length_le (by omega)
        rw [e1] at hKr
        go_wp2
        go_ret
        refine ⟨_, rfl, vk, hk, congrArg Value.bool (decide_eq_false (show ¬ hk.length = most by have := hlk.out; omega)).symm, ?_, hF.out⟩
        rw [hwk.out]
        exact hKr.out
end Go.Proofs.YtgemaohdlibboaaGreat.H
/- Walk: the program's own valid instances. No condition. -/
namespace Go.Proofs.YtgemaohdlibboaaGreat.H
open Go Go.RowKit Go.Proofs.YtgemaohdlibboaaGreatW.PrintWords Go.Proofs.YtgemaohdlibboaaGreatW.PrintLast
open Go.Proofs.YtgemaohdlibboaaGreat.Reg (On on_draw)
set_option maxHeartbeats 8000000
set_option maxRecDepth 100000
set_option linter.unusedVariables false
set_option linter.unusedSimpArgs false

theorem iIsValidInstance_calls (w : World) (A0 c0 A1 c1) (rs : List Rel) (fs : List Fct) (h0 : Rels w A0 c0 rs) (h1 : Fcts w A1 c1 fs) :
    Calls Tryz.prog 47 #[.agg #[.slice A0 rs.length c0, .slice A1 fs.length c1]] w fun e w' => e = .returned (.bool (okInst rs fs)) ∧ On w w' := by
  have hm0 := h0.max
  have hm1 := h1.max
  have hbI := Aside0.mk (On.alloc (On.refl w) (.cells #[.slice A0 rs.length c0, .slice A1 fs.length c1] 27))
  have hLI := Aside0.mk (loc1 w #[.slice A0 rs.length c0, .slice A1 fs.length c1] 27)
  cases hr : okRels rs with
  | false =>
    have hr' := Aside0.mk hr
    clear hr
    go_enter Tryz.func47, Tryz.ntmps47
    go_wp2_with (go_at_call 78; refine (iAreValidRelations_calls _ A0 c0 rs (h0.on hbI.out)).mono ?_; rintro e w3 ⟨rfl, hb3⟩; rw [hr'.out]; have hc3 := blk_cell (Loc.on hb3 hLI.out).1)
    go_ret
    exact ⟨ret_bool (by simp [okInst, hr'.out]), hbI.out.trans hb3⟩
  | true =>
    have hr' := Aside0.mk hr
    clear hr
    by_cases h30 : (fs.length : Int) ≤ 30
    · have h30b : decide ((fs.length : Int) ≤ 30) = true := decide_eq_true h30
      have h30c : decide (fs.length ≤ 30) = true := decide_eq_true (by omega)
      have h30d : decide (30 < fs.length) = false := decide_eq_false (by omega)
      have h30e : decide (30 < (fs.length : Int)) = false := decide_eq_false (by omega)
      go_enter Tryz.func47, Tryz.ntmps47
      go_wp2_with (go_at_call 78; refine (iAreValidRelations_calls _ A0 c0 rs (h0.on hbI.out)).mono ?_; rintro e w3 ⟨rfl, hb3⟩; rw [hr'.out]; have hL3 := Aside0.mk (Loc.on hb3 hLI.out); have hc3 := blk_cell hL3.out.1; have hb3' := Aside0.mk hb3; clear hb3)
      clear hc3
      go_loopw [18] (fun v wr => ∃ k : Nat, k ≤ fs.length ∧ v = .int .i64 k ∧ Hid (factsFrom rs (prevFct fs k) (fs.drop k) = factsFrom rs none fs) ∧ On w wr ∧ Loc wr [(w.heap.size, #[.slice A0 rs.length c0, .slice A1 fs.length c1], 27)]) (fun v _ => fs.length - (intOf v).toNat)
      case atStart => exact ⟨0, Nat.zero_le _, rfl, rfl, hbI.out.trans hb3'.out, hL3.out⟩
      case round =>
        obtain ⟨k, hk, rfl, hp, hB, hL⟩ := hrel
        clear hb3' hL3
        have hc0 := blk_cell hL.1
        have hL' := Aside0.mk hL
        clear hL
        by_cases hlt : k < fs.length
        · obtain ⟨ad, A3, c3, rfl, hx0, hx1, hx2'⟩ := (h1.on hB).at k hlt
          have hfill := alloc_fill wr
          have hst := Aside0.mk ((factsFrom_step rs fs k hlt).symm.trans hp.out)
          have hbx := Aside0.mk (On.alloc (On.refl wr) (.cells #[.int .i64 fs[k].1, .slice A3 fs[k].2.length c3] 54))
          have hB2 := Aside0.mk (hB.trans hbx.out)
          have hcn := blk_cell (loc_new wr #[.int .i64 fs[k].1, .slice A3 fs[k].2.length c3] 54)
          have hcm := blk_cell (Loc.on hbx.out hL'.out).1
          clear hp
          cases hok0 : okFact rs fs[k] with
          | false =>
            have hok := Aside0.mk hok0
            clear hok0
            go_wp2
            refine Reg.region [(0,.L),(1,.L),(2,.L),(3,.C),(4,.L),(5,.L),(6,.L),(7,.L),(8,.L),(9,.L),(10,.L),(11,.L),(12,.L),(13,.L),(14,.L),(15,.L),(16,.C),(17,.L),(18,.L),(19,.L)] [] (by kernel_rfl) (by kernel_rfl) ?_
            repeat first | refine sP ?_ | refine sS ?_ | refine sA ?_ | refine sL ?_ | refine sQ ?_ | refine sO ?_
            refine callC (.bool false) Tryz.func79 (fun w' hS => ?_) ?_
            focus exact (iIsValidFact_calls w' _ c0 rs _ c3 fs[k] (h0.on (hB2.out.trans hS)) (hx2'.on (hbx.out.trans hS))).mono fun e w'' h => ⟨by rw [h.1, hok.out], h.2⟩
            repeat first | refine sP ?_ | refine sS ?_ | refine sA ?_ | refine sL ?_ | refine sQ ?_ | refine sO ?_
            refine Reg.nil fun w2 hS => ?_
            go_wp2
            go_ret
            exact ⟨ret_bool (by have := hst.out; unfold okNext at this; rw [hok.out] at this; simp at this; simp [okInst, this]), hB2.out.trans hS⟩
          | true =>
            have hok := Aside0.mk hok0
            have hat := okFact_at hok0
            clear hok0
            have hat1 : fs[k].1.toNat < rs.length := by omega
            have hat2 : 0 ≤ fs[k].1 := hat.1
            have hat3 : fs[k].1 < rs.length := hat.2
            obtain ⟨ad0, rfl, _, _, _⟩ := (h0.on hB2.out).at fs[k].1.toNat hat1
            clear hat
            by_cases hk0 : 0 < k
            · have hk0' : decide (0 < (k : Int)) = true := decide_eq_true (by omega)
              have hki : IntKind.i64.wrap ((k : Int) - 1) = ((k - 1 : Nat) : Int) := by rw [IntWalk.i64_in _ (by omega)]; omega
              have hk1 : k - 1 < fs.length := by omega
              obtain ⟨ad', A4, c4, e', hy0, hy1, hy2⟩ := (h1.on hB2.out).at (k - 1) hk1
              obtain rfl : ad = ad' := by simpa using e'
              have hpn : prevFct fs k = some fs[k - 1] := by simp [prevFct, show ¬ k = 0 by omega, show k - 1 < fs.length by omega]
              by_cases hc : cmpF fs[k - 1] fs[k] < 0
              · have hcb : decide (0 ≤ cmpF fs[k - 1] fs[k]) = false := decide_eq_false (by omega)
                have hpv := Aside0.mk (show okPrev (prevFct fs k) fs[k] = true by rw [hpn]; exact decide_eq_true hc)
                clear hc hpn
                go_wp2
                refine Reg.region [(0,.L),(1,.L),(2,.L),(3,.C),(4,.L),(5,.L),(6,.L),(7,.L),(8,.L),(9,.L),(10,.L),(11,.L),(12,.L),(13,.L),(14,.L),(15,.L),(16,.C),(17,.L),(18,.L),(19,.L)] [] (by kernel_rfl) (by kernel_rfl) ?_
                repeat first | refine sP ?_ | refine sS ?_ | refine sA ?_ | refine sL ?_ | refine sQ ?_ | refine sO ?_
                refine callC (.bool true) Tryz.func79 (fun w' hS => ?_) ?_
                focus exact (iIsValidFact_calls w' _ c0 rs _ c3 fs[k] (h0.on (hB2.out.trans hS)) (hx2'.on (hbx.out.trans hS))).mono fun e w'' h => ⟨by rw [h.1, hok.out], h.2⟩
                repeat first | refine sP ?_ | refine sS ?_ | refine sA ?_ | refine sL ?_ | refine sQ ?_ | refine sO ?_
                refine callC (.int .i64 (cmpF fs[k - 1] fs[k])) Tryz.func80 (fun w' hS => ?_) ?_
                focus exact iCompareFacts_calls w' A4 c4 A3 c3 fs[k - 1] fs[k] (hy2.on hS) (hx2'.on (hbx.out.trans hS))
                repeat first | refine sP ?_ | refine sS ?_ | refine sA ?_ | refine sL ?_ | refine sQ ?_ | refine sO ?_
                clear hy0 hy1 hy2 hki hcb
                refine Reg.nil fun w2 hS => ?_
                clear hcn hcm hfill
                have hc5 := blk_cell (Loc.on (hbx.out.trans hS) hL'.out).1
                have hc6 := blk_cell (blk_below (loc_new wr #[.int .i64 fs[k].1, .slice A3 fs[k].2.length c3] 54) hS)
                obtain ⟨ad1, e9, _, _, hxs1⟩ := (h0.on (hB2.out.trans hS)).at fs[k].1.toNat hat1
                obtain rfl : ad0 = ad1 := by simpa using e9
                have hsr : rs[fs[k].1.toNat].2.2 = srcOf rs fs[k].1 := by simp [srcOf, hat1]
                rw [hsr] at hxs1
                clear hsr e9
                have hB3 := Aside0.mk (hB2.out.trans hS)
                have hL3 := Aside0.mk (Loc.on (hbx.out.trans hS) hL'.out)
                have hx3 := Aside0.mk (hx2'.on (hbx.out.trans hS))
                clear hS
                cases hs : srcOf rs fs[k].1 with
                | false =>
                  rw [hs] at hxs1
                  have hs' := Aside0.mk hs
                  clear hs
                  go_wp2
                  go_roundw
                  case rel => exact ⟨k + 1, by omega, by go_num, (by have := hst.out; unfold okNext at this; rw [hok.out, hpv.out, hs'.out] at this; simpa using this : _ = _), hB3.out, hL3.out⟩
                  case measure => simp [intOf]; omega
                | true =>
                  rw [hs] at hxs1
                  have hs' := Aside0.mk hs
                  clear hs
                  have hnn := Aside0.mk (nuls_ok fs[k].2)
                  by_cases hz : (nuls fs[k].2).length = 0
                  · have hzb : decide (0 < ((nuls fs[k].2).length : Int)) = false := decide_eq_false (by omega)
                    have hzc : decide (0 < (nuls fs[k].2).length) = false := decide_eq_false (by omega)
                    have hz' := Aside0.mk hz
                    clear hz
                    go_wp2_with (go_at_call 81; refine (iNullsOfFact_calls _ A3 c3 fs[k].1 fs[k].2 hx3.out (Nat.le_trans (okFact_len hok.out) (by omega))).mono ?_; rintro e w4 ⟨v4, rfl, hO4, hb4⟩; obtain ⟨A5, c5, rfl⟩ := own_slice hO4; clear hO4)
                    exact ⟨⟨k + 1, by omega, by go_num, (by have := hst.out; unfold okNext at this; rw [hok.out, hpv.out, hs'.out, hz'.out] at this; simpa using this : _ = _), hB3.out.trans hb4, Loc.on hb4 hL3.out⟩, by simp [intOf]; omega⟩
                  · have hzb : decide (0 < ((nuls fs[k].2).length : Int)) = true := decide_eq_true (by omega)
                    have hzc : decide (0 < (nuls fs[k].2).length) = true := decide_eq_true (by omega)
                    have hz' := Aside0.mk (decide_eq_false hz)
                    clear hz
                    go_wp2_with (go_at_call 81; refine (iNullsOfFact_calls _ A3 c3 fs[k].1 fs[k].2 hx3.out (Nat.le_trans (okFact_len hok.out) (by omega))).mono ?_; rintro e w4 ⟨v4, rfl, hO4, hb4⟩; obtain ⟨A5, c5, rfl⟩ := own_slice hO4; clear hO4)
                    go_ret
                    exact ⟨ret_bool (by have := hst.out; unfold okNext at this; rw [hok.out, hpv.out, hs'.out, hz'.out] at this; simp at this; simp [okInst, this]), hB3.out.trans hb4⟩
              · have hcb : decide (0 ≤ cmpF fs[k - 1] fs[k]) = true := decide_eq_true (by omega)
                have hpv := Aside0.mk (show okPrev (prevFct fs k) fs[k] = false by rw [hpn]; exact decide_eq_false hc)
                clear hc hpn
                go_wp2
                refine Reg.region [(0,.L),(1,.L),(2,.L),(3,.C),(4,.L),(5,.L),(6,.L),(7,.L),(8,.L),(9,.L),(10,.L),(11,.L),(12,.L),(13,.L),(14,.L),(15,.L),(16,.C),(17,.L),(18,.L),(19,.L)] [] (by kernel_rfl) (by kernel_rfl) ?_
                repeat first | refine sP ?_ | refine sS ?_ | refine sA ?_ | refine sL ?_ | refine sQ ?_ | refine sO ?_
                refine callC (.bool true) Tryz.func79 (fun w' hS => ?_) ?_
                focus exact (iIsValidFact_calls w' _ c0 rs _ c3 fs[k] (h0.on (hB2.out.trans hS)) (hx2'.on (hbx.out.trans hS))).mono fun e w'' h => ⟨by rw [h.1, hok.out], h.2⟩
                repeat first | refine sP ?_ | refine sS ?_ | refine sA ?_ | refine sL ?_ | refine sQ ?_ | refine sO ?_
                refine callC (.int .i64 (cmpF fs[k - 1] fs[k])) Tryz.func80 (fun w' hS => ?_) ?_
                focus exact iCompareFacts_calls w' A4 c4 A3 c3 fs[k - 1] fs[k] (hy2.on hS) (hx2'.on (hbx.out.trans hS))
                repeat first | refine sP ?_ | refine sS ?_ | refine sA ?_ | refine sL ?_ | refine sQ ?_ | refine sO ?_
                refine Reg.nil fun w2 hS => ?_
                go_wp2
                go_ret
                exact ⟨ret_bool (by have := hst.out; unfold okNext at this; rw [hok.out, hpv.out] at this; simp at this; simp [okInst, this]), hB2.out.trans hS⟩
            · have hk0' : decide (0 < (k : Int)) = false := decide_eq_false (by omega)
              have hpv := Aside0.mk (show okPrev (prevFct fs k) fs[k] = true by simp [okPrev, prevFct, show k = 0 by omega])
              go_wp2
              refine Reg.region [(0,.L),(1,.L),(2,.L),(3,.C),(4,.L),(5,.L),(6,.L),(7,.L),(8,.L),(9,.L),(10,.L),(11,.L),(12,.L),(13,.L),(14,.L),(15,.L),(16,.C),(17,.L),(18,.L),(19,.L)] [] (by kernel_rfl) (by kernel_rfl) ?_
              repeat first | refine sP ?_ | refine sS ?_ | refine sA ?_ | refine sL ?_ | refine sQ ?_ | refine sO ?_
              refine callC (.bool true) Tryz.func79 (fun w' hS => ?_) ?_
              focus exact (iIsValidFact_calls w' _ c0 rs _ c3 fs[k] (h0.on (hB2.out.trans hS)) (hx2'.on (hbx.out.trans hS))).mono fun e w'' h => ⟨by rw [h.1, hok.out], h.2⟩
              repeat first | refine sP ?_ | refine sS ?_ | refine sA ?_ | refine sL ?_ | refine sQ ?_ | refine sO ?_
              refine Reg.nil fun w2 hS => ?_
              clear hcn hcm hfill
              have hc5 := blk_cell (Loc.on (hbx.out.trans hS) hL'.out).1
              have hc6 := blk_cell (blk_below (loc_new wr #[.int .i64 fs[k].1, .slice A3 fs[k].2.length c3] 54) hS)
              obtain ⟨ad1, e9, _, _, hxs1⟩ := (h0.on (hB2.out.trans hS)).at fs[k].1.toNat hat1
              obtain rfl : ad0 = ad1 := by simpa using e9
              have hsr : rs[fs[k].1.toNat].2.2 = srcOf rs fs[k].1 := by simp [srcOf, hat1]
              rw [hsr] at hxs1
              clear hsr e9
              have hB3 := Aside0.mk (hB2.out.trans hS)
              have hL3 := Aside0.mk (Loc.on (hbx.out.trans hS) hL'.out)
              have hx3 := Aside0.mk (hx2'.on (hbx.out.trans hS))
              clear hS
              cases hs : srcOf rs fs[k].1 with
              | false =>
                rw [hs] at hxs1
                have hs' := Aside0.mk hs
                clear hs
                go_wp2
                go_roundw
                case rel => exact ⟨k + 1, by omega, by go_num, (by have := hst.out; unfold okNext at this; rw [hok.out, hpv.out, hs'.out] at this; simpa using this : _ = _), hB3.out, hL3.out⟩
                case measure => simp [intOf]; omega
              | true =>
                rw [hs] at hxs1
                have hs' := Aside0.mk hs
                clear hs
                have hnn := Aside0.mk (nuls_ok fs[k].2)
                by_cases hz : (nuls fs[k].2).length = 0
                · have hzb : decide (0 < ((nuls fs[k].2).length : Int)) = false := decide_eq_false (by omega)
                  have hzc : decide (0 < (nuls fs[k].2).length) = false := decide_eq_false (by omega)
                  have hz' := Aside0.mk hz
                  clear hz
                  go_wp2_with (go_at_call 81; refine (iNullsOfFact_calls _ A3 c3 fs[k].1 fs[k].2 hx3.out (Nat.le_trans (okFact_len hok.out) (by omega))).mono ?_; rintro e w4 ⟨v4, rfl, hO4, hb4⟩; obtain ⟨A5, c5, rfl⟩ := own_slice hO4; clear hO4)
                  exact ⟨⟨k + 1, by omega, by go_num, (by have := hst.out; unfold okNext at this; rw [hok.out, hpv.out, hs'.out, hz'.out] at this; simpa using this : _ = _), hB3.out.trans hb4, Loc.on hb4 hL3.out⟩, by simp [intOf]; omega⟩
                · have hzb : decide (0 < ((nuls fs[k].2).length : Int)) = true := decide_eq_true (by omega)
                  have hzc : decide (0 < (nuls fs[k].2).length) = true := decide_eq_true (by omega)
                  have hz' := Aside0.mk (decide_eq_false hz)
                  clear hz
                  go_wp2_with (go_at_call 81; refine (iNullsOfFact_calls _ A3 c3 fs[k].1 fs[k].2 hx3.out (Nat.le_trans (okFact_len hok.out) (by omega))).mono ?_; rintro e w4 ⟨v4, rfl, hO4, hb4⟩; obtain ⟨A5, c5, rfl⟩ := own_slice hO4; clear hO4)
                  go_ret
                  exact ⟨ret_bool (by have := hst.out; unfold okNext at this; rw [hok.out, hpv.out, hs'.out, hz'.out] at this; simp at this; simp [okInst, this]), hB3.out.trans hb4⟩
        · have hfl : factsFrom rs none fs = true := by rw [← hp.out, List.drop_of_length_le (by omega)]; cases prevFct fs k <;> rfl
          have hfl' := Aside0.mk hfl
          clear hp hfl
          go_wp2
          go_ret
          exact ⟨ret_bool (by simp [okInst, hfl'.out, hr'.out]; omega), hB⟩
    · have h30b : decide ((fs.length : Int) ≤ 30) = false := decide_eq_false h30
      have h30c : decide (fs.length ≤ 30) = false := decide_eq_false (by omega)
      have h30d : decide (30 < fs.length) = true := decide_eq_true (by omega)
      have h30e : decide (30 < (fs.length : Int)) = true := decide_eq_true (by omega)
      go_enter Tryz.func47, Tryz.ntmps47
      go_wp2_with (go_at_call 78; refine (iAreValidRelations_calls _ A0 c0 rs (h0.on hbI.out)).mono ?_; rintro e w3 ⟨rfl, hb3⟩; rw [hr'.out]; have hc3 := blk_cell (Loc.on hb3 hLI.out).1)
      go_ret
      exact ⟨ret_bool (by simp [okInst]; intros; omega), hbI.out.trans hb3⟩
end Go.Proofs.YtgemaohdlibboaaGreat.H
/- Walks: homomorphisms told, by both sides. No condition. -/
namespace Go.Proofs.YtgemaohdlibboaaGreat.H
open Go Go.RowKit Go.Proofs.YtgemaohdlibboaaGreatW.PrintWords Go.Proofs.YtgemaohdlibboaaGreatW.PrintLast
open Go.Proofs.YtgemaohdlibboaaGreat.Reg (On on_draw)
set_option maxHeartbeats 4000000
set_option maxRecDepth 100000
set_option linter.unusedVariables false
set_option linter.unusedSimpArgs false

theorem equalI_calls (w : World) (A c B d) (rs qs : List Int) (h0 : Ints w A c rs) (h1 : Ints w B d qs) : Calls Tryz.prog 25 #[.slice A rs.length c, .slice B qs.length d] w fun e w' => e = .returned (.bool (decide (rs = qs))) ∧ On w w' := by
  have hm0 := h0.max
  have hm1 := h1.max
  by_cases hl : rs.length = qs.length
  · have hlb : ((rs.length : Int) == (qs.length : Int)) = true := by simp [hl]
    have hlc : ((rs.length : Int) != (qs.length : Int)) = false := by simp [bne, hlb]
    have hld : (rs.length == qs.length) = true := by simp [hl]
    have hl' := Aside0.mk hl
    clear hl
    go_enter Tryz.func25, Tryz.ntmps25
    go_wp2
    clear hlb hlc hld
    go_loopw [13] (fun v wr => ∃ k : Nat, k ≤ rs.length ∧ v = .int .i64 k ∧ Aside0 (rs.take k = qs.take k) ∧ On w wr) (fun v _ => rs.length - (intOf v).toNat)
    case atStart => exact ⟨0, Nat.zero_le _, rfl, ⟨rfl⟩, On.refl _⟩
    case round =>
      obtain ⟨k, hk, rfl, hp, hB⟩ := hrel
      by_cases hlt : k < rs.length
      · have hlt2 : k < qs.length := by have := hl'.out; omega
        obtain ⟨ad, rfl, hx0⟩ := (h0.on hB).at k hlt
        obtain ⟨bd, rfl, hy0⟩ := (h1.on hB).at k hlt2
        cases hq : (rs[k] == qs[k]) with
        | true =>
          have hq' := Aside0.mk (eq_of_beq hq : rs[k] = qs[k])
          have hq2 : (rs[k] != qs[k]) = false := by simp [bne, hq]
          go_wp2
          refine Reg.region [(0,.L),(1,.L),(2,.L),(3,.L),(4,.L),(5,.L),(6,.L),(7,.L),(8,.L)] [] (by kernel_rfl) (by kernel_rfl) ?_
          repeat first | refine sP ?_ | refine sS ?_ | refine sA ?_ | refine sL ?_ | refine sQ ?_ | refine sO ?_
          refine Reg.nil fun w2 hS => ?_
          clear hq hq2
          go_wp2
          exact ⟨⟨k + 1, by omega, by go_num, ⟨by rw [List.take_succ_eq_append_getElem hlt, List.take_succ_eq_append_getElem hlt2, hp.out, hq'.out]⟩, hB.trans hS⟩, by simp [intOf]; omega⟩
        | false =>
          have hq' := Aside0.mk (by simpa using hq : ¬ rs[k] = qs[k])
          have hq2 : (rs[k] != qs[k]) = true := by simp [bne, hq]
          go_wp2
          refine Reg.region [(0,.L),(1,.L),(2,.L),(3,.L),(4,.L),(5,.L),(6,.L),(7,.L),(8,.L)] [] (by kernel_rfl) (by kernel_rfl) ?_
          repeat first | refine sP ?_ | refine sS ?_ | refine sA ?_ | refine sL ?_ | refine sQ ?_ | refine sO ?_
          refine Reg.nil fun w2 hS => ?_
          clear hq hq2
          go_wp2
          go_ret
          exact ⟨ret_bool (by symm; exact decide_eq_false fun e => hq'.out (by subst e; rfl)), hB.trans hS⟩
      · have e1 : rs.take k = rs := List.take_of_length_le (by omega)
        have e2 : qs.take k = qs := List.take_of_length_le (by have := hl'.out; omega)
        rw [e1, e2] at hp
        go_wp2
        go_ret
        exact ⟨ret_bool (by symm; exact decide_eq_true hp.out), hB⟩
  · have hlb : ((rs.length : Int) == (qs.length : Int)) = false := by rw [beq_eq_false_iff_ne]; omega
    have hlc : ((rs.length : Int) != (qs.length : Int)) = true := by simp [bne, hlb]
    have hld : (rs.length == qs.length) = false := by simpa using hl
    have hl' := Aside0.mk hl
    clear hl
    go_enter Tryz.func25, Tryz.ntmps25
    go_wp2
    go_ret
    exact ⟨ret_bool (by symm; exact decide_eq_false fun e => hl'.out (congrArg _ e)), On.refl _⟩
attribute [local go_sem high] eqRel
theorem equalR_calls (w : World) (A c B d) (rs qs : List Rel) (h0 : Rels w A c rs) (h1 : Rels w B d qs) : Calls Tryz.prog 48 #[.slice A rs.length c, .slice B qs.length d] w fun e w' => e = .returned (.bool (decide (rs = qs))) ∧ On w w' := by
  have hm0 := h0.max
  have hm1 := h1.max
  by_cases hl : rs.length = qs.length
  · have hlb : ((rs.length : Int) == (qs.length : Int)) = true := by simp [hl]
    have hlc : ((rs.length : Int) != (qs.length : Int)) = false := by simp [bne, hlb]
    have hld : (rs.length == qs.length) = true := by simp [hl]
    have hl' := Aside0.mk hl
    clear hl
    go_enter Tryz.func48, Tryz.ntmps48
    go_wp2
    clear hlb hlc hld
    go_loopw [13] (fun v wr => ∃ k : Nat, k ≤ rs.length ∧ v = .int .i64 k ∧ Aside0 (rs.take k = qs.take k) ∧ On w wr) (fun v _ => rs.length - (intOf v).toNat)
    case atStart => exact ⟨0, Nat.zero_le _, rfl, ⟨rfl⟩, On.refl _⟩
    case round =>
      obtain ⟨k, hk, rfl, hp, hB⟩ := hrel
      by_cases hlt : k < rs.length
      · have hlt2 : k < qs.length := by have := hl'.out; omega
        obtain ⟨ad, rfl, hx0, hx1, hx2⟩ := (h0.on hB).at k hlt
        obtain ⟨bd, rfl, hy0, hy1, hy2⟩ := (h1.on hB).at k hlt2
        cases hq : sameR rs[k] qs[k] with
        | true =>
          have hq' := Aside0.mk (of_decide_eq_true hq : rs[k] = qs[k])
          go_wp2
          refine Reg.region [(0,.L),(1,.L),(2,.L),(3,.L),(4,.L),(5,.L),(6,.L),(7,.L),(8,.L)] [] (by kernel_rfl) (by kernel_rfl) ?_
          repeat first | refine sP ?_ | refine sS ?_ | refine sA ?_ | refine sL ?_ | refine sQ ?_ | refine sO ?_
          refine Reg.nil fun w2 hS => ?_
          clear hq
          go_wp2
          exact ⟨⟨k + 1, by omega, by go_num, ⟨by rw [List.take_succ_eq_append_getElem hlt, List.take_succ_eq_append_getElem hlt2, hp.out, hq'.out]⟩, hB.trans hS⟩, by simp [intOf]; omega⟩
        | false =>
          have hq' := Aside0.mk (of_decide_eq_false hq : ¬ rs[k] = qs[k])
          go_wp2
          refine Reg.region [(0,.L),(1,.L),(2,.L),(3,.L),(4,.L),(5,.L),(6,.L),(7,.L),(8,.L)] [] (by kernel_rfl) (by kernel_rfl) ?_
          repeat first | refine sP ?_ | refine sS ?_ | refine sA ?_ | refine sL ?_ | refine sQ ?_ | refine sO ?_
          refine Reg.nil fun w2 hS => ?_
          clear hq
          go_wp2
          go_ret
          exact ⟨ret_bool (by symm; exact decide_eq_false fun e => hq'.out (by subst e; rfl)), hB.trans hS⟩
      · have e1 : rs.take k = rs := List.take_of_length_le (by omega)
        have e2 : qs.take k = qs := List.take_of_length_le (by have := hl'.out; omega)
        rw [e1, e2] at hp
        go_wp2
        go_ret
        exact ⟨ret_bool (by symm; exact decide_eq_true hp.out), hB⟩
  · have hlb : ((rs.length : Int) == (qs.length : Int)) = false := by rw [beq_eq_false_iff_ne]; omega
    have hlc : ((rs.length : Int) != (qs.length : Int)) = true := by simp [bne, hlb]
    have hld : (rs.length == qs.length) = false := by simpa using hl
    have hl' := Aside0.mk hl
    clear hl
    go_enter Tryz.func48, Tryz.ntmps48
    go_wp2
    go_ret
    exact ⟨ret_bool (by symm; exact decide_eq_false fun e => hl'.out (congrArg _ e)), On.refl _⟩

theorem areComparable_calls (w : World) (A0 c0 A1 c1) (rs : List Rel) (fs : List Fct) (h0 : Rels w A0 c0 rs) (h1 : Fcts w A1 c1 fs) (A2 c2 A3 c3) (qs : List Rel) (gs : List Fct) (h2 : Rels w A2 c2 qs) (h3 : Fcts w A3 c3 gs) :
    Calls Tryz.prog 23 #[.agg #[.slice A0 rs.length c0, .slice A1 fs.length c1], .agg #[.slice A2 qs.length c2, .slice A3 gs.length c3]] w fun e w' => e = .returned (.bool (okInst rs fs && (okInst qs gs && decide (rs = qs)))) ∧ On w w' := by
  have hb := Aside0.mk (On.alloc (On.alloc (On.refl w) (.cells #[.slice A0 rs.length c0, .slice A1 fs.length c1] 27)) (.cells #[.slice A2 qs.length c2, .slice A3 gs.length c3] 27))
  have hL := Aside0.mk (loc2 w #[.slice A0 rs.length c0, .slice A1 fs.length c1] #[.slice A2 qs.length c2, .slice A3 gs.length c3] 27 27)
  cases ho : okInst rs fs with
  | false =>
    have ho' := Aside0.mk ho
    clear ho
    go_enter Tryz.func23, Tryz.ntmps23
    go_wp2_with (go_at_call 47; refine (iIsValidInstance_calls _ A0 c0 A1 c1 rs fs (h0.on hb.out) (h1.on hb.out)).mono ?_; rintro e w1 ⟨rfl, hb1⟩; rw [ho'.out])
    go_ret
    exact ⟨by simp, hb.out.trans hb1⟩
  | true =>
    have ho' := Aside0.mk ho
    clear ho
    cases hp : okInst qs gs with
    | false =>
      have hp' := Aside0.mk hp
      clear hp
      go_enter Tryz.func23, Tryz.ntmps23
      go_wp2_with (first
        | (go_at_call 47; refine (iIsValidInstance_calls _ A2 c2 A3 c3 qs gs (h2.on (hb.out.trans hb1)) (h3.on (hb.out.trans hb1))).mono ?_; rintro e w2 ⟨rfl, hb2⟩; rw [hp'.out])
        | (go_at_call 47; refine (iIsValidInstance_calls _ A0 c0 A1 c1 rs fs (h0.on hb.out) (h1.on hb.out)).mono ?_; rintro e w1 ⟨rfl, hb1⟩; rw [ho'.out]; have hL1 := Loc.on hb1 hL.out; have hc0 := blk_cell hL1.1; have hc1 := blk_cell hL1.2.1; clear hL1))
      go_ret
      exact ⟨by simp, hb.out.trans (hb1.trans hb2)⟩
    | true =>
      have hp' := Aside0.mk hp
      clear hp
      go_enter Tryz.func23, Tryz.ntmps23
      go_wp2_with (first
        | (go_at_call 47; refine (iIsValidInstance_calls _ A2 c2 A3 c3 qs gs (h2.on (hb.out.trans hb1)) (h3.on (hb.out.trans hb1))).mono ?_; rintro e w2 ⟨rfl, hb2⟩; rw [hp'.out]; have hL2 := Loc.on (hb1.trans hb2) hL.out; have hd0 := blk_cell hL2.1; have hd1 := blk_cell hL2.2.1; clear hL2)
        | (go_at_call 47; refine (iIsValidInstance_calls _ A0 c0 A1 c1 rs fs (h0.on hb.out) (h1.on hb.out)).mono ?_; rintro e w1 ⟨rfl, hb1⟩; rw [ho'.out]; have hL1 := Loc.on hb1 hL.out; have hc0 := blk_cell hL1.1; have hc1 := blk_cell hL1.2.1; clear hL1)
        | (go_at_call 48; refine (equalR_calls _ A0 c0 A2 c2 rs qs (h0.on (hb.out.trans (hb1.trans hb2))) (h2.on (hb.out.trans (hb1.trans hb2)))).mono ?_; rintro e w3 ⟨rfl, hb3⟩))
      go_ret
      exact ⟨by simp, hb.out.trans (hb1.trans (hb2.trans hb3))⟩
end Go.Proofs.YtgemaohdlibboaaGreat.H
/- Walks: the program's FindHomomorphism, FindHomomorphisms, HasHomomorphism, AreHomEquivalent. No condition. -/
namespace Go.Proofs.YtgemaohdlibboaaGreat.H
open Go Go.RowKit Go.Proofs.YtgemaohdlibboaaGreatW.PrintWords Go.Proofs.YtgemaohdlibboaaGreatW.PrintLast
open Go.Proofs.YtgemaohdlibboaaGreat.Reg (On on_draw)
set_option maxHeartbeats 4000000
set_option maxRecDepth 100000
set_option linter.unusedVariables false
set_option linter.unusedSimpArgs false

/-- A map is made. -/
theorem mkMap {ops : Array Oper} {rest : List Oper} {o : Oper} {a : Act} {Q : Exit → Act → World → Prop} {W : World} (N : Tmp) {t : TypeId}
    (h : wpList Tryz.prog ops Q rest (a.put (some N) (.map (some W.heap.size))) (W.alloc (.map #[] 0)))
    (hop : o.op = .makeMap t none := by rfl) (hd : o.dst = some N := by rfl) (hg : o.guard = none := by rfl) : wpList Tryz.prog ops Q (o :: rest) a W := by
  refine Kd.event_run hg (w1 := W.alloc (.map #[] 0)) (v := .map (some W.heap.size)) ?_ ?_
  · unfold execOp
    simp only [hop, Option.map_none]
    rfl
  · rw [hd]; exact h
theorem vals_le (fs : List Fct) (h : ∀ f ∈ fs, f.2.length ≤ 3) : vals fs ≤ 3 * fs.length := by
  induction fs with
  | nil => simp [vals]
  | cons f fs ih =>
    have h1 := h f List.mem_cons_self
    have h2 := ih fun g hg => h g (List.mem_cons_of_mem _ hg)
    rw [vals_cons, List.length_cons]; omega
theorem iHoms_calls (w : World) (A0 c0 A1 c1) (rs : List Rel) (fs : List Fct) (h0 : Rels w A0 c0 rs) (h1 : Fcts w A1 c1 fs) (A2 c2 A3 c3) (qs : List Rel) (gs : List Fct) (h2 : Rels w A2 c2 qs) (h3 : Fcts w A3 c3 gs) (most : Nat) (hp : 1 ≤ most) (hq : most ≤ 1000) :
    Calls Tryz.prog 20 #[.agg #[.slice A0 rs.length c0, .slice A1 fs.length c1], .agg #[.slice A2 qs.length c2, .slice A3 gs.length c3], .int .i64 most] w (Got fun v w' => ∃ hs, OS w' w.heap.size v hs ∧ SepS w' w.heap.size hs (subs rs fs qs gs most) ∧ On w w') := by
  have hpq := Aside0.mk (show 1 ≤ most ∧ most ≤ 1000 from ⟨hp, hq⟩)
  clear hp hq
  have hW4 := Aside0.mk (On.alloc (On.alloc (On.alloc (On.alloc (On.refl w) (.cells #[.slice A0 rs.length c0, .slice A1 fs.length c1] 27)) (.cells #[.slice A2 qs.length c2, .slice A3 gs.length c3] 27)) (.cells #[.int .i64 most] 3)) (.cells #[] 32))
  have hb := Aside0.mk (On.alloc hW4.out (.cells #[.slice (some ⟨w.heap.size + 1 + 1 + 1, 0, none⟩) 0 0] 35))
  have hL := Aside0.mk (Loc.on (On.alloc (On.alloc (On.refl _) (.cells #[] 32)) (.cells #[.slice (some ⟨w.heap.size + 1 + 1 + 1, 0, none⟩) 0 0] 35)) (loc3 w #[.slice A0 rs.length c0, .slice A1 fs.length c1] #[.slice A2 qs.length c2, .slice A3 gs.length c3] #[.int .i64 most] 27 27 3))
  have hO := Aside0.mk (pw_own_below (lit_own' (w.heap.size + 1 + 1 + 1) (((w.alloc (.cells #[.slice A0 rs.length c0, .slice A1 fs.length c1] 27)).alloc (.cells #[.slice A2 qs.length c2, .slice A3 gs.length c3] 27)).alloc (.cells #[.int .i64 most] 3)) (by simp) #[] 32 2 0 w.heap.size (by simp; omega) (by omega) rfl) (On.alloc (On.refl _) (.cells #[.slice (some ⟨w.heap.size + 1 + 1 + 1, 0, none⟩) 0 0] 35)))
  have hB := Aside0.mk (loc_new ((((w.alloc (.cells #[.slice A0 rs.length c0, .slice A1 fs.length c1] 27)).alloc (.cells #[.slice A2 qs.length c2, .slice A3 gs.length c3] 27)).alloc (.cells #[.int .i64 most] 3)).alloc (.cells #[] 32)) #[.slice (some ⟨w.heap.size + 1 + 1 + 1, 0, none⟩) 0 0] 35)
  have hsx : ((((w.alloc (.cells #[.slice A0 rs.length c0, .slice A1 fs.length c1] 27)).alloc (.cells #[.slice A2 qs.length c2, .slice A3 gs.length c3] 27)).alloc (.cells #[.int .i64 most] 3)).alloc (.cells #[] 32)).heap.size = w.heap.size + 1 + 1 + 1 + 1 := by simp
  rw [hsx] at hB
  clear hsx
  go_enter Tryz.func20, Tryz.ntmps20
  go_wp2_with (refine gate 11 ?_)
  clear hW4
  obtain ⟨Wx, hWx⟩ : ∃ Wx, ((((w.alloc (.cells #[.slice A0 rs.length c0, .slice A1 fs.length c1] 27)).alloc (.cells #[.slice A2 qs.length c2, .slice A3 gs.length c3] 27)).alloc (.cells #[.int .i64 most] 3)).alloc (.cells #[] 32)).alloc (.cells #[.slice (some ⟨w.heap.size + 1 + 1 + 1, 0, none⟩) 0 0] 35) = Wx := ⟨_, rfl⟩
  rw [hWx] at hb hL hO hB ⊢
  clear hWx
  refine ⟨goesF 11 Tryz.func23 ((areComparable_calls Wx A0 c0 A1 c1 rs fs (h0.on hb.out) (h1.on hb.out) A2 c2 A3 c3 qs gs (h2.on hb.out) (h3.on hb.out)).mono ?_)⟩
  rintro e w1 ⟨rfl, hb1⟩
  refine ⟨_, rfl, ?_⟩
  have hB1 := Aside0.mk (hb.out.trans hb1)
  have hL1 := Aside0.mk (Loc.on hb1 hL.out)
  have hO1 := Aside0.mk (pw_own_below hO.out hb1)
  have hBx := Aside0.mk (blk_below hB.out hb1)
  have hd0 := blk_cell hL1.out.1
  have hd1 := blk_cell hL1.out.2.1
  have hd2 := blk_cell hL1.out.2.2.1
  have hdb := blk_cell hBx.out
  cases hc : (okInst rs fs && (okInst qs gs && decide (rs = qs))) with
  | false =>
    have hc' := Aside0.mk hc
    clear hc hb1
    go_wp2
    go_ret
    refine ⟨_, rfl, [], hO1.out, ?_, hB1.out⟩
    rw [subs_no (by rw [Bool.and_assoc]; exact hc'.out)]
    exact SepS.nil _ _
  | true =>
    have hc' := Aside0.mk hc
    have hgq := Aside0.mk (show okInst qs gs = true by simp only [Bool.and_eq_true] at hc; exact hc.2.1)
    have hfq := Aside0.mk (show okInst rs fs = true by simp only [Bool.and_eq_true] at hc; exact hc.1)
    have hK := Aside0.mk (show KS w (w1.alloc (.map #[] 0)) w.heap.size (w.heap.size + 1 + 1 + 1 + 1) (w.heap.size + 1 + 1) most (.slice (some ⟨w.heap.size + 1 + 1 + 1, 0, none⟩) 0 0) [] [] from
      KS.move ⟨hB1.out, by omega, Nat.le_refl _, by omega, hB1.out.size, hO1.out, SepS.nil _ _, hBx.out, hL1.out.2.2.1⟩ (On.alloc (On.refl _) _))
    have hM := Aside0.mk (BM.start w1)
    clear hc hb1
    go_wp2_with (refine gate 16 ?_)
    refine ⟨mkMap 16 ?_⟩
    go_wp2_with (refine gate 18 ?_)
    refine ⟨goesF 18 Tryz.func44 ((search_calls gs (fun g hg v hv => ?_) most hpq.out.2 fs A1 c1 A3 c3 w1.heap.size 0 none40 h1 h3 hK.out hpq.out.1 hM.out (by simp [none40]) (fun y hy => by have := List.eq_of_mem_replicate hy; omega) ?_).mono ?_)⟩
    · have h4 := okInst_mem hgq.out g hg
      simp only [okFact, Bool.and_eq_true, List.all_eq_true] at h4
      have h5 := h4.2 v hv
      simp only [okVal, decide_eq_true_eq] at h5
      omega
    · have h4 := okInst_len hfq.out
      have h5 := vals_le fs fun f hf => okFact_len (okInst_mem hfq.out f hf)
      omega
    · rintro e w3 ⟨v3, rfl, v', zs, rfl, hK3, hF3⟩
      refine ⟨_, rfl, ?_⟩
      have hd := blk_cell hK3.box
      have hK3' := Aside0.mk hK3
      clear hd0 hd1 hd2 hdb hK3
      go_wp2
      go_ret
      refine ⟨_, rfl, zs, hK3'.out.own, ?_, hK3'.out.on⟩
      rw [subs_yes (by rw [Bool.and_assoc]; exact hc'.out)]
      simpa using hK3'.out.sep
theorem iFind_calls (w : World) (A0 c0 A1 c1) (rs : List Rel) (fs : List Fct) (h0 : Rels w A0 c0 rs) (h1 : Fcts w A1 c1 fs) (A2 c2 A3 c3) (qs : List Rel) (gs : List Fct) (h2 : Rels w A2 c2 qs) (h3 : Fcts w A3 c3 gs) :
    Calls Tryz.prog 6 #[.agg #[.slice A0 rs.length c0, .slice A1 fs.length c1], .agg #[.slice A2 qs.length c2, .slice A3 gs.length c3]] w (Got fun v w' => ∃ a b : Sli, v = .tuple #[.agg #[slV a, slV b], .bool (hasHom rs fs qs gs)] ∧ SepS w' w.heap.size [(a, b)] [(subs rs fs qs gs 1).headD ([], [])] ∧ On w w') := by
  have hb := Aside0.mk (On.alloc (On.alloc (On.alloc (On.refl w) (.cells #[.slice A0 rs.length c0, .slice A1 fs.length c1] 27)) (.cells #[.slice A2 qs.length c2, .slice A3 gs.length c3] 27)) (.cells #[.slice none 0 0, .slice none 0 0] 32))
  have hL := Aside0.mk (loc3 w #[.slice A0 rs.length c0, .slice A1 fs.length c1] #[.slice A2 qs.length c2, .slice A3 gs.length c3] #[.slice none 0 0, .slice none 0 0] 27 27 32)
  have hsx := Aside0.mk (show (((w.alloc (.cells #[.slice A0 rs.length c0, .slice A1 fs.length c1] 27)).alloc (.cells #[.slice A2 qs.length c2, .slice A3 gs.length c3] 27)).alloc (.cells #[.slice none 0 0, .slice none 0 0] 32)).heap.size = w.heap.size + 3 by simp)
  have hsl := Aside0.mk (subs_len rs fs qs gs 1 (Nat.le_refl _))
  go_enter Tryz.func6, Tryz.ntmps6
  go_wp2_with (refine gate 9 ?_)
  obtain ⟨Wx, hWx⟩ : ∃ Wx, ((w.alloc (.cells #[.slice A0 rs.length c0, .slice A1 fs.length c1] 27)).alloc (.cells #[.slice A2 qs.length c2, .slice A3 gs.length c3] 27)).alloc (.cells #[.slice none 0 0, .slice none 0 0] 32) = Wx := ⟨_, rfl⟩
  rw [hWx] at hb hL hsx ⊢
  clear hWx
  refine ⟨goesF 9 Tryz.func20 ((iHoms_calls Wx A0 c0 A1 c1 rs fs (h0.on hb.out) (h1.on hb.out) A2 c2 A3 c3 qs gs (h2.on hb.out) (h3.on hb.out) 1 (Nat.le_refl _) (by omega)).mono ?_)⟩
  rintro e w1 ⟨v1, rfl, hs, hO, hS, hb1⟩
  refine ⟨_, rfl, ?_⟩
  have hk := (Loc.on hb1 hL.out).2.2.1
  have hc : ∀ i, w1.cell? ⟨w.heap.size + 1 + 1, i, none⟩ = _ := blk_cell hk
  have hf : ∀ i, w1.frozen? ⟨w.heap.size + 1 + 1, i, none⟩ = _ := blk_frozen hk
  have hk' := Aside0.mk hk
  clear hk
  have hsz := Aside0.mk (show w.heap.size + 3 ≤ w1.heap.size by have := hb1.size; rw [hsx.out] at this; exact this)
  have hlen := hS.len
  have hl1 := hsl.out
  rcases hs with _ | ⟨h, tl⟩
  · have hnil : subs rs fs qs gs 1 = [] := List.eq_nil_of_length_eq_zero hlen.symm
    have hhas := Aside0.mk (show hasHom rs fs qs gs = false by unfold hasHom; rw [← hl1.1, hnil]; rfl)
    obtain ⟨A', c', rfl⟩ := own_slice hO
    clear hlen hl1
    go_wp2
    refine bodyPost_ret (retSB rfl rfl (g := w.heap.size + 2) (blk_set (blk_set hk'.out 0 _) 1 _) rfl) rfl ?_
    refine ⟨_, rfl, (none, 0, 0), (none, 0, 0), by rw [hhas.out]; rfl, ?_, Reg.On.set (Reg.On.set (hb.out.trans hb1) (by simp; omega) _) (by simp; omega) _⟩
    rw [hnil]
    exact SepS.one (World.ownsRow_nil _ _ _ _) (World.ownsRow_nil _ _ _ _) (fun x hx => by cases hx) (fun x hx => by cases hx) (fun k hk => by cases hk)
  · obtain rfl : tl = [] := List.eq_nil_of_length_eq_zero (by have := hl1.2; simp at hlen; omega)
    obtain ⟨⟨A5, n5, c5⟩, ⟨A6, n6, c6⟩⟩ := h
    have hhas := Aside0.mk (show hasHom rs fs qs gs = true by unfold hasHom; rw [← hl1.1, ← hlen]; rfl)
    obtain ⟨s, hs⟩ : ∃ s, subs rs fs qs gs 1 = [s] := by
      match h : subs rs fs qs gs 1, hlen with
      | [s], _ => exact ⟨s, rfl⟩
    obtain ⟨A', c', e, hR⟩ := OS.slice hO
    subst e
    obtain ⟨g, rfl⟩ := own_at0 hO (by simp)
    obtain ⟨_, e0, hc0⟩ := hR.cell 0 (.slice A5 n5 c5) rfl
    obtain ⟨_, e1, hc1⟩ := hR.cell 1 (.slice A6 n6 c6) rfl
    obtain rfl := Option.some.inj e0
    obtain rfl := Option.some.inj e1
    rw [add_zero0] at hc0 hc1
    have hS' := Aside0.mk hS
    clear hlen hl1 hO hR e0 e1 hS
    go_wp2
    refine bodyPost_ret (retSB rfl rfl (g := w.heap.size + 2) (blk_set (blk_set hk'.out 0 _) 1 _) rfl) rfl ?_
    refine ⟨_, rfl, (A5, n5, c5), (A6, n6, c6), by rw [hhas.out]; rfl, ?_, Reg.On.set (Reg.On.set (hb.out.trans hb1) (by simp; omega) _) (by simp; omega) _⟩
    have h9 := hS'.out
    rw [hs] at h9 ⊢
    exact ((h9.set (by rw [hsx.out]; show w.heap.size + 1 + 1 < _; omega) _).set (by rw [hsx.out]; show w.heap.size + 1 + 1 < _; omega) _).lower (by rw [hsx.out]; omega)
theorem iHas_calls (w : World) (A0 c0 A1 c1) (rs : List Rel) (fs : List Fct) (h0 : Rels w A0 c0 rs) (h1 : Fcts w A1 c1 fs) (A2 c2 A3 c3) (qs : List Rel) (gs : List Fct) (h2 : Rels w A2 c2 qs) (h3 : Fcts w A3 c3 gs) :
    Calls Tryz.prog 11 #[.agg #[.slice A0 rs.length c0, .slice A1 fs.length c1], .agg #[.slice A2 qs.length c2, .slice A3 gs.length c3]] w fun e w' => e = .returned (.bool (hasHom rs fs qs gs)) ∧ On w w' := by
  have hb := Aside0.mk (On.alloc (On.alloc (On.refl w) (.cells #[.slice A0 rs.length c0, .slice A1 fs.length c1] 27)) (.cells #[.slice A2 qs.length c2, .slice A3 gs.length c3] 27))
  go_enter Tryz.func11, Tryz.ntmps11
  go_wp2_with (go_at_call 6; refine (iFind_calls _ A0 c0 A1 c1 rs fs (h0.on hb.out) (h1.on hb.out) A2 c2 A3 c3 qs gs (h2.on hb.out) (h3.on hb.out)).mono ?_; rintro e w1 ⟨v, rfl, ⟨Aa, na, ca⟩, ⟨Ab, nb, cb⟩, rfl, hS, hb1⟩; clear hS; have hfill := alloc_fill w1)
  go_ret
  exact ⟨rfl, hb.out.trans (hb1.trans (On.alloc (On.refl _) _))⟩
theorem iAre_calls (w : World) (A0 c0 A1 c1) (rs : List Rel) (fs : List Fct) (h0 : Rels w A0 c0 rs) (h1 : Fcts w A1 c1 fs) (A2 c2 A3 c3) (qs : List Rel) (gs : List Fct) (h2 : Rels w A2 c2 qs) (h3 : Fcts w A3 c3 gs) :
    Calls Tryz.prog 17 #[.agg #[.slice A0 rs.length c0, .slice A1 fs.length c1], .agg #[.slice A2 qs.length c2, .slice A3 gs.length c3]] w fun e w' => e = .returned (.bool (hasHom rs fs qs gs && hasHom qs gs rs fs)) ∧ On w w' := by
  have hb := Aside0.mk (On.alloc (On.alloc (On.refl w) (.cells #[.slice A0 rs.length c0, .slice A1 fs.length c1] 27)) (.cells #[.slice A2 qs.length c2, .slice A3 gs.length c3] 27))
  have hL := Aside0.mk (loc2 w #[.slice A0 rs.length c0, .slice A1 fs.length c1] #[.slice A2 qs.length c2, .slice A3 gs.length c3] 27 27)
  cases ho : hasHom rs fs qs gs with
  | false =>
    have ho' := Aside0.mk ho
    clear ho
    go_enter Tryz.func17, Tryz.ntmps17
    go_wp2_with (go_at_call 11; refine (iHas_calls _ A0 c0 A1 c1 rs fs (h0.on hb.out) (h1.on hb.out) A2 c2 A3 c3 qs gs (h2.on hb.out) (h3.on hb.out)).mono ?_; rintro e w1 ⟨rfl, hb1⟩; rw [ho'.out])
    go_ret
    exact ⟨by simp, hb.out.trans hb1⟩
  | true =>
    have ho' := Aside0.mk ho
    clear ho
    go_enter Tryz.func17, Tryz.ntmps17
    go_wp2_with (first
      | (go_at_call 11; refine (iHas_calls _ A2 c2 A3 c3 qs gs (h2.on (hb.out.trans hb1)) (h3.on (hb.out.trans hb1)) A0 c0 A1 c1 rs fs (h0.on (hb.out.trans hb1)) (h1.on (hb.out.trans hb1))).mono ?_; rintro e w2 ⟨rfl, hb2⟩)
      | (go_at_call 11; refine (iHas_calls _ A0 c0 A1 c1 rs fs (h0.on hb.out) (h1.on hb.out) A2 c2 A3 c3 qs gs (h2.on hb.out) (h3.on hb.out)).mono ?_; rintro e w1 ⟨rfl, hb1⟩; rw [ho'.out]; have hL1 := Aside0.mk (Loc.on hb1 hL.out); have hd0 := blk_cell hL1.out.1; have hd1 := blk_cell hL1.out.2.1))
    go_ret
    exact ⟨by simp, hb.out.trans (hb1.trans hb2)⟩
theorem iFindAll_calls (w : World) (A0 c0 A1 c1) (rs : List Rel) (fs : List Fct) (h0 : Rels w A0 c0 rs) (h1 : Fcts w A1 c1 fs) (A2 c2 A3 c3) (qs : List Rel) (gs : List Fct) (h2 : Rels w A2 c2 qs) (h3 : Fcts w A3 c3 gs) :
    Calls Tryz.prog 8 #[.agg #[.slice A0 rs.length c0, .slice A1 fs.length c1], .agg #[.slice A2 qs.length c2, .slice A3 gs.length c3]] w (Got fun v w' => ∃ hs, OS w' w.heap.size v hs ∧ SepS w' w.heap.size hs (subs rs fs qs gs 100) ∧ On w w') := by
  have hb := Aside0.mk (On.alloc (On.alloc (On.refl w) (.cells #[.slice A0 rs.length c0, .slice A1 fs.length c1] 27)) (.cells #[.slice A2 qs.length c2, .slice A3 gs.length c3] 27))
  go_enter Tryz.func8, Tryz.ntmps8
  go_wp2_with (refine gate 7 ?_)
  refine ⟨goesF 7 Tryz.func20 ((iHoms_calls _ A0 c0 A1 c1 rs fs (h0.on hb.out) (h1.on hb.out) A2 c2 A3 c3 qs gs (h2.on hb.out) (h3.on hb.out) 100 (by omega) (by omega)).mono ?_)⟩
  rintro e w1 ⟨v1, rfl, hs, hO, hS, hb1⟩
  refine ⟨_, rfl, ?_⟩
  have hO' := Aside0.mk hO
  have hS' := Aside0.mk hS
  clear hO hS
  go_wp2
  go_ret
  exact ⟨_, rfl, hs, own_lower hO'.out hb.out.size, hS'.out.lower hb.out.size, hb.out.trans hb1⟩
end Go.Proofs.YtgemaohdlibboaaGreat.H
/- Walks: the laws' own marks on substitutions. No condition. -/
namespace Go.Proofs.YtgemaohdlibboaaGreat.H
open Go Go.RowKit Go.Proofs.YtgemaohdlibboaaGreatW.PrintWords Go.Proofs.YtgemaohdlibboaaGreatW.PrintLast
open Go.Proofs.YtgemaohdlibboaaGreat.Reg (On on_draw)
set_option maxHeartbeats 4000000
set_option maxRecDepth 100000
set_option linter.unusedVariables false
set_option linter.unusedSimpArgs false

/-- Two rows of one's own in different blocks. -/
def ApO (u v : Value) : Prop := ∀ k, u.ownBlock = some k → v.ownBlock = some k → False
/-- A substitution of one's own whose rows lie apart. -/
structure OSp (w : World) (lo : Nat) (v : Value) (ns vs : List Int) : Prop where mk :: (out : ∃ v1 v2, v = .agg #[v1, v2] ∧ OI w lo v1 ns ∧ OI w lo v2 vs ∧ InR ns ∧ InR vs ∧ ApO v1 v2)
structure OSq (w : World) (lo hi : Nat) (v : Value) (ns vs : List Int) : Prop where mk :: (out : ∃ v1 v2, v = .agg #[v1, v2] ∧ OI w lo v1 ns ∧ OI w lo v2 vs ∧ InR ns ∧ InR vs ∧ ApO v1 v2 ∧ (∀ b, v1.ownBlock = some b → b < hi) ∧ ∀ b, v2.ownBlock = some b → b < hi)
theorem OSp.b {w : World} {lo : Nat} {v : Value} {ns vs : List Int} (h : OSp w lo v ns vs) : OSq w lo w.heap.size v ns vs := by
  obtain ⟨v1, v2, e, h0, h1, h2, h3, h4⟩ := h.out
  exact ⟨v1, v2, e, h0, h1, h2, h3, h4, fun b hb => own_lt h0 b hb, fun b hb => own_lt h1 b hb⟩
theorem OSp.lower {w : World} {lo lo' : Nat} {v : Value} {ns vs : List Int} (h : OSp w lo v ns vs) (hl : lo' ≤ lo) : OSp w lo' v ns vs := by
  obtain ⟨v1, v2, e, h0, h1, h2, h3, h4⟩ := h.out
  exact ⟨v1, v2, e, own_lower h0 hl, own_lower h1 hl, h2, h3, h4⟩
theorem OSq.n {w : World} {lo hi : Nat} {v : Value} {ns vs : List Int} (h : OSq w lo hi v ns vs) : OSp w lo v ns vs := by
  obtain ⟨v1, v2, e, h0, h1, h2, h3, h4, _⟩ := h.out
  exact ⟨v1, v2, e, h0, h1, h2, h3, h4⟩
theorem OSp.read {w : World} {lo : Nat} {v : Value} {ns vs : List Int} (h : OSp w lo v ns vs) : RSu w v ns vs := by
  obtain ⟨v1, v2, e, h0, h1, h2, h3, _⟩ := h.out
  obtain ⟨A, c, rfl, k0⟩ := OI.rd h0 h2
  obtain ⟨B, d, rfl, k1⟩ := OI.rd h1 h3
  exact ⟨A, c, B, d, e, k0, k1⟩
theorem OSq.read {w : World} {lo hi : Nat} {v : Value} {ns vs : List Int} (h : OSq w lo hi v ns vs) : RSu w v ns vs := h.n.read
theorem OSq.on {W w : World} {lo hi : Nat} {v : Value} {ns vs : List Int} (h : OSq W lo hi v ns vs) (hb : On W w) : OSq w lo hi v ns vs := by
  obtain ⟨v1, v2, e, h0, h1, h2, h3, h4, h5, h6⟩ := h.out
  exact ⟨v1, v2, e, pw_own_below h0 hb, pw_own_below h1 hb, h2, h3, h4, h5, h6⟩
theorem OSq.ex {S : Nat → Prop} {W w : World} {lo hi : Nat} {v : Value} {ns vs : List Int} (h : OSq W lo hi v ns vs) (k : Ex S W w) (hS : ∀ b, lo ≤ b → b < hi → ¬ S b) : OSq w lo hi v ns vs := by
  obtain ⟨v1, v2, e, h0, h1, h2, h3, h4, h5, h6⟩ := h.out
  exact ⟨v1, v2, e, own_ex h0 k (fun i hi h => hS i (own_base h0 i hi) (h5 i hi) h), own_ex h1 k (fun i hi h => hS i (own_base h1 i hi) (h6 i hi) h), h2, h3, h4, h5, h6⟩
theorem OSq.set {W : World} {lo hi g j : Nat} {v u : Value} {ns vs : List Int} (h : OSq W lo hi v ns vs) (hg : g < lo ∨ hi ≤ g) : OSq (W.setCell ⟨g, j, none⟩ u) lo hi v ns vs :=
  h.ex (Ex.set W ⟨g, j, none⟩ u) (fun b h1 h2 h3 => by have h4 : b = g := h3; omega)
end Go.Proofs.YtgemaohdlibboaaGreat.H
/- Walks: the laws' own marks on substitutions. No condition. -/
namespace Go.Proofs.YtgemaohdlibboaaGreat.H
open Go Go.RowKit Go.Proofs.YtgemaohdlibboaaGreatW.PrintWords Go.Proofs.YtgemaohdlibboaaGreatW.PrintLast
open Go.Proofs.YtgemaohdlibboaaGreat.Reg (On on_draw)
set_option maxHeartbeats 4000000
set_option maxRecDepth 100000
set_option linter.unusedVariables false
set_option linter.unusedSimpArgs false

theorem OSp.of {w : World} {lo : Nat} {a b : Sli} {s : Su} (h : SepS w lo [(a, b)] [s]) : OSp w lo (.agg #[slV a, slV b]) s.1 s.2 := by
  obtain ⟨_, h1, h2⟩ := h.sep.at_ 0 _ _ rfl rfl
  obtain ⟨_, h3, h4⟩ := h.sep.at_ 1 _ _ rfl rfl
  exact ⟨_, _, rfl, h1, h3, h2, h4, fun k e1 e2 => by have := h.sep.apart 0 1 _ _ k rfl rfl e1 e2; omega⟩
def head1 (r1 : List Rel) (f1 : List Fct) (r2 : List Rel) (f2 : List Fct) : Su := (subs r1 f1 r2 f2 1).headD ([], [])
end Go.Proofs.YtgemaohdlibboaaGreat.H
/- Walks: the laws' own rows of substitutions: comparison, marks. No condition. -/
namespace Go.Proofs.YtgemaohdlibboaaGreat.H
open Go Go.RowKit Go.Proofs.YtgemaohdlibboaaGreatW.PrintWords Go.Proofs.YtgemaohdlibboaaGreatW.PrintLast
open Go.Proofs.YtgemaohdlibboaaGreat.Reg (On on_draw)
set_option maxHeartbeats 4000000
set_option maxRecDepth 100000
set_option linter.unusedVariables false
set_option linter.unusedSimpArgs false

theorem two_get {α β : Type} (f g : α → β) : ∀ (l : List α) (i : Nat) (h : i < l.length), (l.flatMap fun x => [f x, g x])[2 * i]? = some (f l[i]) ∧ (l.flatMap fun x => [f x, g x])[2 * i + 1]? = some (g l[i])
  | [], i, h => by simp at h
  | x :: l, 0, h => by simp
  | x :: l, i + 1, h => by
    obtain ⟨h1, h2⟩ := two_get f g l i (by simpa using h)
    have e : (x :: l).flatMap (fun x => [f x, g x]) = f x :: g x :: l.flatMap fun x => [f x, g x] := rfl
    rw [e, show 2 * (i + 1) = 2 * i + 1 + 1 by omega, show 2 * i + 1 + 1 + 1 = (2 * i + 1) + 1 + 1 by omega]
    simp only [List.getElem?_cons_succ, List.getElem_cons_succ]
    exact ⟨h1, h2⟩
theorem two_len {α β : Type} (f g : α → β) (l : List α) : (l.flatMap fun x => [f x, g x]).length = 2 * l.length := by
  induction l with
  | nil => rfl
  | cons x l ih => rw [List.flatMap_cons, List.length_append, ih]; simp; omega
theorem flH_at {hs : List SHd} {i : Nat} (h : i < hs.length) : (flH hs)[2 * i]? = some ((0 : Int), hs[i].1) ∧ (flH hs)[2 * i + 1]? = some ((0 : Int), hs[i].2) := two_get (fun h : SHd => (((0 : Int), h.1) : Hdr)) (fun h => ((0 : Int), h.2)) hs i h
theorem flH_len (hs : List SHd) : (flH hs).length = 2 * hs.length := two_len (fun h : SHd => (((0 : Int), h.1) : Hdr)) (fun h => ((0 : Int), h.2)) hs
theorem OS.at {w : World} {lo g n c : Nat} {L : List SHd} (h : OS w lo (.slice (some ⟨g, 0, none⟩) n c) L) (i : Nat) (hi : i < L.length) : w.cell? ⟨g, i * 2, none⟩ = some (slV L[i].1) ∧ w.cell? ⟨g, i * 2 + 1, none⟩ = some (slV L[i].2) := by
  have h1 := flat_get (enc := encSb) (sz := 2) (fun _ => rfl) L i 0 hi (by omega)
  have h2 := flat_get (enc := encSb) (sz := 2) (fun _ => rfl) L i 1 hi (by omega)
  have hn : n = L.length := by
    rcases h.2 with ⟨e, _⟩ | ⟨g', cap, cur, e, _⟩
    · cases e
    · injection e
  subst hn
  have hb : i * 2 + 2 ≤ L.length * 2 := by omega
  exact ⟨(h.cellAt (i * 2) (by omega)).trans h1, (h.cellAt (i * 2 + 1) (by omega)).trans h2⟩
/-- A row of substitutions of one's own, the rows lying apart. -/
structure ORw (w : World) (lo : Nat) (v : Value) (rows : List Fct) : Prop where mk :: (out : ∃ hs, OS w lo v hs ∧ Sep w lo (flH hs) rows)
structure ORq (w : World) (lo hi : Nat) (v : Value) (rows : List Fct) : Prop where mk :: (out : ∃ hs, OS w lo v hs ∧ Sep w lo (flH hs) rows ∧ (∀ b, v.ownBlock = some b → b < hi) ∧ ∀ (i : Nat) (a : Hdr) (b : Nat), (flH hs)[i]? = some a → (hdV a).ownBlock = some b → b < hi)
structure RRw (w : World) (v : Value) (rows : List Fct) : Prop where mk :: (out : ∃ A c n, v = .slice A n c ∧ rows.length = 2 * n ∧ n ≤ 9223372036854775807 ∧ ∀ (i : Nat), i < n → ∀ f g : Fct, rows[2 * i]? = some f → rows[2 * i + 1]? = some g → ∃ ad A1 c1 A2 c2, A = some ad ∧ w.cell? (ad.add (i * 2)) = some (.slice A1 f.2.length c1) ∧ w.cell? ⟨(ad.add (i * 2)).block, (ad.add (i * 2)).off + 1, none⟩ = some (.slice A2 g.2.length c2) ∧ Ints w A1 c1 f.2 ∧ Ints w A2 c2 g.2)
theorem ORw.b {w : World} {lo : Nat} {v : Value} {rows : List Fct} (h : ORw w lo v rows) : ORq w lo w.heap.size v rows := by
  obtain ⟨hs, h1, h2⟩ := h.out
  exact ⟨hs, h1, h2, fun b hb => own_lt h1 b hb, fun i a b ha hb => (h2.lt ha hb).2⟩
theorem ORq.n {w : World} {lo hi : Nat} {v : Value} {rows : List Fct} (h : ORq w lo hi v rows) : ORw w lo v rows := by
  obtain ⟨hs, h1, h2, _⟩ := h.out
  exact ⟨hs, h1, h2⟩
theorem ORw.lower {w : World} {lo lo' : Nat} {v : Value} {rows : List Fct} (h : ORw w lo v rows) (hl : lo' ≤ lo) : ORw w lo' v rows := by
  obtain ⟨hs, h1, h2⟩ := h.out
  exact ⟨hs, own_lower h1 hl, h2.lower hl⟩
theorem ORq.on {W w : World} {lo hi : Nat} {v : Value} {rows : List Fct} (h : ORq W lo hi v rows) (hb : On W w) : ORq w lo hi v rows := by
  obtain ⟨hs, h1, h2, h3, h4⟩ := h.out
  exact ⟨hs, pw_own_below h1 hb, h2.on hb, h3, h4⟩
theorem ORq.ex {S : Nat → Prop} {W w : World} {lo hi : Nat} {v : Value} {rows : List Fct} (h : ORq W lo hi v rows) (k : Ex S W w) (hS : ∀ b, lo ≤ b → b < hi → ¬ S b) : ORq w lo hi v rows := by
  obtain ⟨hs, h1, h2, h3, h4⟩ := h.out
  exact ⟨hs, own_ex h1 k (fun i hi => hS i (own_base h1 i hi) (h3 i hi)), h2.ex k (fun i a b ha hb => hS b (h2.lt ha hb).1 (h4 i a b ha hb)), h3, h4⟩
theorem ORw.read {w : World} {lo : Nat} {v : Value} {rows : List Fct} (h : ORw w lo v rows) : RRw w v rows := by
  obtain ⟨hs, h1, h2⟩ := h.out
  obtain ⟨A, c, rfl, hR⟩ := OS.slice h1
  have hl := h2.len
  rw [flH_len] at hl
  refine ⟨A, c, hs.length, rfl, hl.symm, hR.max, fun i hi f g hf hg => ?_⟩
  obtain ⟨g0, rfl⟩ := own_at0 h1 (by omega)
  obtain ⟨e1, e2⟩ := flH_at hi
  obtain ⟨_, n1, i1⟩ := h2.reads.at_ _ _ _ e1 hf
  obtain ⟨_, n2, i2⟩ := h2.reads.at_ _ _ _ e2 hg
  obtain ⟨c1, c2⟩ := OS.at h1 i hi
  refine ⟨_, _, _, _, _, rfl, ?_, ?_, i1, i2⟩
  · rw [add_zero0, c1]
    show some (Value.slice _ hs[i].1.2.1 _) = _
    rw [show hs[i].1.2.1 = f.2.length from n1]
  · rw [add_zero0]
    show w.cell? ⟨g0, i * 2 + 1, none⟩ = _
    rw [c2]
    show some (Value.slice _ hs[i].2.2.1 _) = _
    rw [show hs[i].2.2.1 = g.2.length from n2]
theorem ORq.read {w : World} {lo hi : Nat} {v : Value} {rows : List Fct} (h : ORq w lo hi v rows) : RRw w v rows := h.n.read
theorem RRw.on {W w : World} {v : Value} {rows : List Fct} (h : RRw W v rows) (hb : On W w) : RRw w v rows := by
  obtain ⟨A, c, n, e, h1, h2, h3⟩ := h.out
  refine ⟨A, c, n, e, h1, h2, fun i hi f g hf hg => ?_⟩
  obtain ⟨ad, A1, c1, A2, c2, e1, k1, k2, k3, k4⟩ := h3 i hi f g hf hg
  exact ⟨ad, A1, c1, A2, c2, e1, (hb.eq _ (by rw [k1]; rfl)).trans k1, (hb.eq _ (by rw [k2]; rfl)).trans k2, k3.on hb, k4.on hb⟩
theorem RRw.shape {w : World} {v : Value} {rows : List Fct} (h : RRw w v rows) : ∃ A n c, v = .slice A n c := by
  obtain ⟨A, c, n, e, _⟩ := h.out
  exact ⟨A, n, c, e⟩
theorem sFindAll_calls (w : World) (A0 c0 A1 c1) (rs : List Rel) (fs : List Fct) (h0 : Rels w A0 c0 rs) (h1 : Fcts w A1 c1 fs) (A2 c2 A3 c3) (qs : List Rel) (gs : List Fct) (h2 : Rels w A2 c2 qs) (h3 : Fcts w A3 c3 gs) :
    Calls Tryz.prog 10 #[.agg #[.slice A0 rs.length c0, .slice A1 fs.length c1], .agg #[.slice A2 qs.length c2, .slice A3 gs.length c3]] w (Got fun v w' => ∃ hs, OS w' w.heap.size v hs ∧ SepS w' w.heap.size hs (subs rs fs qs gs 100) ∧ On w w') := by
  have hb := Aside0.mk (On.alloc (On.alloc (On.refl w) (.cells #[.slice A0 rs.length c0, .slice A1 fs.length c1] 27)) (.cells #[.slice A2 qs.length c2, .slice A3 gs.length c3] 27))
  go_enter Tryz.func10, Tryz.ntmps10
  go_wp2_with (refine gate 7 ?_)
  refine ⟨goesF 7 Tryz.func21 ((l7Homs_calls _ A0 c0 A1 c1 rs fs (h0.on hb.out) (h1.on hb.out) A2 c2 A3 c3 qs gs (h2.on hb.out) (h3.on hb.out) 100 (by omega) (by omega)).mono ?_)⟩
  rintro e w1 ⟨v1, rfl, hs, hO, hS, hb1⟩
  refine ⟨_, rfl, ?_⟩
  have hO' := Aside0.mk hO
  have hS' := Aside0.mk hS
  clear hO hS
  go_wp2
  go_ret
  exact ⟨_, rfl, hs, own_lower hO'.out hb.out.size, hS'.out.lower hb.out.size, hb.out.trans hb1⟩
def allF (r1 : List Rel) (f1 : List Fct) (r2 : List Rel) (f2 : List Fct) : List Fct := flF (subs r1 f1 r2 f2 100)
end Go.Proofs.YtgemaohdlibboaaGreat.H
/- Walks: copies, and what the program holds to be in an instance. No condition. -/
namespace Go.Proofs.YtgemaohdlibboaaGreat.H
open Go Go.RowKit Go.Proofs.YtgemaohdlibboaaGreatW.PrintWords Go.Proofs.YtgemaohdlibboaaGreatW.PrintLast
open Go.Proofs.YtgemaohdlibboaaGreat.Reg (On on_draw)
set_option maxHeartbeats 1000000
set_option maxRecDepth 100000
set_option linter.unusedVariables false
set_option linter.unusedSimpArgs false

theorem cloneI_calls (w : World) (A c) (xs : List Int) (h : Ints w A c xs) (hl : xs.length ≤ 5000000000) : Calls Tryz.prog 85 #[.slice A xs.length c] w (Got fun v w' => OI w' w.heap.size v xs ∧ On w w') := by
  have q : ∀ (w : World) (a : Option Addr) (n c n' c' : Nat), (binOp .eql 30 (.slice a n c) (.slice none n' c')).run Tryz.prog w = .ok (.bool a.isNone) w := fun w a n c n' c' => Lib.run_eql_slice_nil w _ _ a n c n' c' Tryz.underlying30
  cases A with
  | none =>
    obtain rfl : xs = [] := by
      cases xs with
      | nil => rfl
      | cons x xs => obtain ⟨ad, e, _⟩ := h.at 0 (by simp); cases e
    go_enter Tryz.func85, Tryz.ntmps85
    go_wp2
    go_ret
    exact ⟨_, rfl, World.ownsRow_nil _ _ _ _, On.refl _⟩
  | some ad =>
    go_enter Tryz.func85, Tryz.ntmps85
    go_wp2_with (refine gate 7 ?_)
    refine ⟨apIf 7 (List.nil_append _) (lit_own w #[] 3 1 0 w.heap.size (Nat.le_refl _) (by omega) rfl) rfl (h.on (On.alloc (On.refl _) _)) (by simp) (by omega) fun v1 w1 hO1 hb1 => ?_⟩
    go_wp2
    go_ret
    exact ⟨_, rfl, hO1, (On.alloc (On.refl _) _).trans hb1⟩
theorem factCopy_calls (w : World) (A c) (f : Fct) (h : Ints w A c f.2) (hl : f.2.length ≤ 2000000) : Calls Tryz.prog 55 #[.agg #[.int .i64 f.1, .slice A f.2.length c]] w (Got fun v w' => ∃ v1, v = .agg #[.int .i64 f.1, v1] ∧ OI w' w.heap.size v1 f.2 ∧ On w w') := by
  have hb := Aside0.mk (On.alloc (On.alloc (On.refl w) (.cells #[.int .i64 f.1, .slice A f.2.length c] 54)) (.cells #[.int .i64 0, .slice none 0 0] 54))
  have hL := Aside0.mk (loc2 w #[.int .i64 f.1, .slice A f.2.length c] #[.int .i64 0, .slice none 0 0] 54 54)
  go_enter Tryz.func55, Tryz.ntmps55
  go_wp2
  refine Reg.region [(0,.L),(1,.L),(2,.L),(3,.L),(4,.N),(5,.L)] [6] (by kernel_rfl) (by kernel_rfl) ?_
  repeat first | refine sP ?_ | refine sS ?_ | refine sA ?_ | refine sL ?_ | refine sQ ?_ | refine sO ?_
  refine callN Tryz.func85 (fun w2 hS2 => ?_)
  refine (cloneI_calls w2 A c f.2 (h.on (hb.out.trans hS2)) (by omega)).mono ?_
  rintro e w3 ⟨v3, rfl, hO3, hb3⟩
  obtain ⟨A3, c3, rfl⟩ := own_slice hO3
  refine ⟨_, rfl, hb3, fun a' ha => ?_⟩
  simp only [Act.put, List.setIfInBounds_toArray, List.set_cons_zero, List.set_cons_succ] at ha
  subst ha
  repeat first | refine sP ?_ | refine sS ?_ | refine sA ?_ | refine sL ?_ | refine sQ ?_ | refine sO ?_
  refine Reg.tail_ fun w4 hS4 => ?_
  have hk := (Loc.on (hS2.trans (hb3.trans hS4)) hL.out).2.1
  have hc := blk_cell hk
  have hf := blk_frozen hk
  have hk' := Aside0.mk hk
  have hsz := hS2.size
  simp only [World.size_alloc] at hsz
  clear hk
  go_wp2
  refine bodyPost_ret (retF rfl rfl (g := w.heap.size + 1) (blk_set (blk_set hk'.out 0 _) 1 _) rfl) rfl ?_
  exact ⟨_, rfl, _, rfl, own_lower (ownsRow_setCell_below (ownsRow_setCell_below (pw_own_below hO3 hS4) (by simp; omega) _) (by simp; omega) _) (by omega), Reg.On.set (Reg.On.set ((hb.out.trans hS2).trans (hb3.trans hS4)) (by simp) _) (by simp) _⟩
end Go.Proofs.YtgemaohdlibboaaGreat.H
/- Walks: the program's own substitutions. No condition. -/
namespace Go.Proofs.YtgemaohdlibboaaGreat.H
open Go Go.RowKit Go.Proofs.YtgemaohdlibboaaGreatW.PrintWords Go.Proofs.YtgemaohdlibboaaGreatW.PrintLast
open Go.Proofs.YtgemaohdlibboaaGreat.Reg (On on_draw)
set_option maxHeartbeats 4000000
set_option maxRecDepth 100000
set_option linter.unusedVariables false
set_option linter.unusedSimpArgs false

theorem iIsValidSub_calls (w : World) (A0 c0 A1 c1) (ns vs : List Int) (h0 : Ints w A0 c0 ns) (h1 : Ints w A1 c1 vs) :
    Calls Tryz.prog 24 #[.agg #[.slice A0 ns.length c0, .slice A1 vs.length c1]] w fun e w' => e = .returned (.bool (okSub ns vs)) ∧ On w w' := by
  have hm0 := h0.max
  have hm1 := h1.max
  have hb := Aside0.mk (On.alloc (On.refl w) (.cells #[.slice A0 ns.length c0, .slice A1 vs.length c1] 32))
  have hL := Aside0.mk (loc1 w #[.slice A0 ns.length c0, .slice A1 vs.length c1] 32)
  by_cases hl : ns.length = vs.length
  · have hlb : ((ns.length : Int) == (vs.length : Int)) = true := by simp [hl]
    have hlc : ((ns.length : Int) != (vs.length : Int)) = false := by simp [bne, hlb]
    have hld : (ns.length == vs.length) = true := by simp [hl]
    have hl' := Aside0.mk hl
    clear hl
    go_enter Tryz.func24, Tryz.ntmps24
    go_wp2
    clear hlb hlc hld
    go_loopw [15] (fun v wr => ∃ k : Nat, k ≤ ns.length ∧ v = .int .i64 k ∧ Aside0 (subFrom (prevI ns k) (ns.drop k) (vs.drop k) = subFrom none ns vs) ∧ On w wr ∧ Loc wr [(w.heap.size, #[.slice A0 ns.length c0, .slice A1 vs.length c1], 32)]) (fun v _ => ns.length - (intOf v).toNat)
    case atStart => exact ⟨0, Nat.zero_le _, rfl, ⟨rfl⟩, hb.out, hL.out⟩
    case round =>
      obtain ⟨k, hk, rfl, hp, hB0, hL0⟩ := hrel
      have hc0 := blk_cell hL0.1
      have hL' := Aside0.mk hL0
      have hB := Aside0.mk hB0
      clear hL0
      by_cases hlt : k < ns.length
      · have hlt2 : k < vs.length := by have := hl'.out; omega
        obtain ⟨ad, rfl, hx⟩ := (h0.on hB0).at k hlt
        obtain ⟨bd, rfl, hy⟩ := (h1.on hB0).at k hlt2
        have hbd := h1.bd k hlt2
        have hst := Aside0.mk ((subFrom_step ns vs k hlt hlt2).symm.trans hp.out)
        clear hp hB0
        cases hi : within ns[k] 0 39 with
        | false =>
          have hi' := Aside0.mk hi
          clear hi
          go_wp2_with (go_at_call 49; refine (within_calls _ _ _ _).mono ?_; rintro e w2 ⟨rfl, hb2⟩; rw [hi'.out])
          go_ret
          exact ⟨ret_bool (by have := hst.out; rw [hi'.out] at this; simp at this; simp [okSub, this]), hB.out.trans hb2⟩
        | true =>
          have hi' := Aside0.mk hi
          clear hi
          by_cases hk0 : 0 < k
          · have hk0' : decide (0 < (k : Int)) = true := decide_eq_true (by omega)
            have hki : IntKind.i64.wrap ((k : Int) - 1) = ((k - 1 : Nat) : Int) := by rw [IntWalk.i64_in _ (by omega)]; omega
            have hk1 : k - 1 < ns.length := by omega
            obtain ⟨ad', e', hz⟩ := (h0.on hB.out).at (k - 1) hk1
            obtain rfl : ad = ad' := by simpa using e'
            have hpn : prevI ns k = some ns[k - 1] := by simp [prevI, show ¬ k = 0 by omega, show k - 1 < ns.length by omega]
            by_cases hc : ns[k] ≤ ns[k - 1]
            · have hcb : decide (ns[k] ≤ ns[k - 1]) = true := decide_eq_true hc
              have hp' := Aside0.mk (show okPrevI (prevI ns k) ns[k] = false by rw [hpn]; exact decide_eq_false (by omega))
              clear hpn
              go_wp2_with (go_at_call 49; refine (within_calls _ _ _ _).mono ?_; rintro e w2 ⟨rfl, hb2⟩; rw [hi'.out]; have hc2 := blk_cell (Loc.on hb2 hL'.out).1; replace hz := (hb2.eq _ (by rw [hz]; rfl)).trans hz)
              go_ret
              exact ⟨ret_bool (by have := hst.out; rw [hi'.out, hp'.out] at this; simp at this; simp [okSub, this]), hB.out.trans hb2⟩
            · have hcb : decide (ns[k] ≤ ns[k - 1]) = false := decide_eq_false hc
              have hp' := Aside0.mk (show okPrevI (prevI ns k) ns[k] = true by rw [hpn]; exact decide_eq_true (by omega))
              clear hpn
              cases hv : okVal vs[k] with
              | true =>
                have hv' := Aside0.mk hv
                clear hv
                go_wp2_with (first
                  | (go_at_call 49; refine (within_calls _ _ _ _).mono ?_; rintro e w2 ⟨rfl, hb2⟩; rw [hi'.out]; have hc2 := blk_cell (Loc.on hb2 hL'.out).1; (try replace hz := (hb2.eq _ (by rw [hz]; rfl)).trans hz); replace hy := (hb2.eq _ (by rw [hy]; rfl)).trans hy)
                  | (go_at_call 50; refine (iIsValidValue_calls _ _).mono ?_; rintro e w3 ⟨rfl, hb3⟩; rw [hv'.out]))
                exact ⟨⟨k + 1, by omega, by go_num, ⟨by have := hst.out; rw [hi'.out, hp'.out, hv'.out] at this; simpa using this⟩, hB.out.trans (hb2.trans hb3), Loc.on (hb2.trans hb3) hL'.out⟩, by simp [intOf]; omega⟩
              | false =>
                have hv' := Aside0.mk hv
                clear hv
                go_wp2_with (first
                  | (go_at_call 49; refine (within_calls _ _ _ _).mono ?_; rintro e w2 ⟨rfl, hb2⟩; rw [hi'.out]; have hc2 := blk_cell (Loc.on hb2 hL'.out).1; (try replace hz := (hb2.eq _ (by rw [hz]; rfl)).trans hz); replace hy := (hb2.eq _ (by rw [hy]; rfl)).trans hy)
                  | (go_at_call 50; refine (iIsValidValue_calls _ _).mono ?_; rintro e w3 ⟨rfl, hb3⟩; rw [hv'.out]))
                go_ret
                exact ⟨ret_bool (by have := hst.out; rw [hi'.out, hp'.out, hv'.out] at this; simp at this; simp [okSub, this]), hB.out.trans (hb2.trans hb3)⟩
          · have hk0' : decide (0 < (k : Int)) = false := decide_eq_false (by omega)
            have hp' := Aside0.mk (show okPrevI (prevI ns k) ns[k] = true by simp [okPrevI, prevI, show k = 0 by omega])
            cases hv : okVal vs[k] with
            | true =>
              have hv' := Aside0.mk hv
              clear hv
              go_wp2_with (first
                | (go_at_call 49; refine (within_calls _ _ _ _).mono ?_; rintro e w2 ⟨rfl, hb2⟩; rw [hi'.out]; have hc2 := blk_cell (Loc.on hb2 hL'.out).1; (try replace hz := (hb2.eq _ (by rw [hz]; rfl)).trans hz); replace hy := (hb2.eq _ (by rw [hy]; rfl)).trans hy)
                | (go_at_call 50; refine (iIsValidValue_calls _ _).mono ?_; rintro e w3 ⟨rfl, hb3⟩; rw [hv'.out]))
              exact ⟨⟨k + 1, by omega, by go_num, ⟨by have := hst.out; rw [hi'.out, hp'.out, hv'.out] at this; simpa using this⟩, hB.out.trans (hb2.trans hb3), Loc.on (hb2.trans hb3) hL'.out⟩, by simp [intOf]; omega⟩
            | false =>
              have hv' := Aside0.mk hv
              clear hv
              go_wp2_with (first
                | (go_at_call 49; refine (within_calls _ _ _ _).mono ?_; rintro e w2 ⟨rfl, hb2⟩; rw [hi'.out]; have hc2 := blk_cell (Loc.on hb2 hL'.out).1; (try replace hz := (hb2.eq _ (by rw [hz]; rfl)).trans hz); replace hy := (hb2.eq _ (by rw [hy]; rfl)).trans hy)
                | (go_at_call 50; refine (iIsValidValue_calls _ _).mono ?_; rintro e w3 ⟨rfl, hb3⟩; rw [hv'.out]))
              go_ret
              exact ⟨ret_bool (by have := hst.out; rw [hi'.out, hp'.out, hv'.out] at this; simp at this; simp [okSub, this]), hB.out.trans (hb2.trans hb3)⟩
      · have hp' := Aside0.mk (show subFrom none ns vs = true by rw [← hp.out, List.drop_of_length_le (by omega)]; cases prevI ns k <;> rfl)
        clear hp hB0
        go_wp2
        go_ret
        exact ⟨ret_bool (by simp [okSub, hp'.out, hl'.out]), hB.out⟩
  · have hlb : ((ns.length : Int) == (vs.length : Int)) = false := by rw [beq_eq_false_iff_ne]; omega
    have hlc : ((ns.length : Int) != (vs.length : Int)) = true := by simp [bne, hlb]
    have hld : (ns.length == vs.length) = false := by simpa using hl
    have hl' := Aside0.mk hl
    clear hl
    go_enter Tryz.func24, Tryz.ntmps24
    go_wp2
    go_ret
    exact ⟨ret_bool (by simp [okSub, hl'.out]), hb.out⟩
theorem indexI_calls (w : World) (A c) (xs : List Int) (y : Int) (h : Ints w A c xs) : Calls Tryz.prog 86 #[.slice A xs.length c, .int .i64 y] w fun e w' => e = .returned (.int .i64 (idxFrom (fun n => n == y) xs 0)) ∧ On w w' := by
  have hmax := h.max
  go_enter Tryz.func86, Tryz.ntmps86
  go_wp2
  go_loopw [8] (fun v wr => ∃ k : Nat, k ≤ xs.length ∧ v = .int .i64 k ∧ Aside0 (idxFrom (fun n => n == y) (xs.drop k) k = idxFrom (fun n => n == y) xs 0) ∧ On w wr) (fun v _ => xs.length - (intOf v).toNat)
  case atStart => exact ⟨0, Nat.zero_le _, rfl, ⟨rfl⟩, On.refl _⟩
  case round =>
    obtain ⟨k, hk, rfl, hp, hB⟩ := hrel
    by_cases hlt : k < xs.length
    · obtain ⟨ad, rfl, hx⟩ := (h.on hB).at k hlt
      have hst := Aside0.mk ((idxFrom_step (fun n => n == y) xs k hlt).symm.trans hp.out)
      clear hp
      by_cases hq : xs[k] = y
      · have hqb : (y == xs[k]) = true := by simp [hq]
        have hq' := Aside0.mk hq
        clear hq
        go_wp2
        go_ret
        exact ⟨ret_int (by have := hst.out; rw [if_pos (by simp [hq'.out])] at this; exact this), hB⟩
      · have hqb : (y == xs[k]) = false := by simp; exact fun e => hq e.symm
        have hq' := Aside0.mk hq
        clear hq
        go_wp2
        exact ⟨⟨k + 1, by omega, by go_num, ⟨by have := hst.out; rwa [if_neg (by simp [hq'.out])] at this⟩, hB⟩, by simp [intOf]; omega⟩
    · go_wp2
      go_ret
      exact ⟨ret_int (by rw [← hp.out, List.drop_of_length_le (by omega)]; rfl), hB⟩
theorem iApplyToValue_calls (w : World) (A0 c0 A1 c1) (ns vs : List Int) (h0 : Ints w A0 c0 ns) (h1 : Ints w A1 c1 vs) (x : Int) (hx : -9223372036854775808 ≤ x ∧ x ≤ 9223372036854775807) :
    Calls Tryz.prog 56 #[.agg #[.slice A0 ns.length c0, .slice A1 vs.length c1], .int .i64 x] w fun e w' => e = .returned (.int .i64 (appV ns vs x)) ∧ On w w' := by
  have hb := Aside0.mk (On.alloc (On.refl w) (.cells #[.slice A0 ns.length c0, .slice A1 vs.length c1] 32))
  have hL := Aside0.mk (loc1 w #[.slice A0 ns.length c0, .slice A1 vs.length c1] 32)
  have hm1 := h1.max
  cases hn : isNul x with
  | false =>
    have hr := Aside0.mk (show appV ns vs x = x by
      unfold appV
      split
      · rename_i ho; rw [findV_not (okSub_spec ho).2.1 hn]; rfl
      · rfl)
    have hn' := Aside0.mk hn
    clear hn
    go_enter Tryz.func56, Tryz.ntmps56
    go_wp2_with (first
      | (go_at_call 82; refine (iNullNumber_calls _ _ hx).mono ?_; rintro e w2 ⟨rfl, hb2⟩; rw [hn'.out]; have hc2 := blk_cell (Loc.on hb2 hL.out).1)
      | (go_at_call 86; refine (indexI_calls _ A0 c0 ns _ (h0.on (hb.out.trans hb2))).mono ?_; rintro e w3 ⟨rfl, hb3⟩))
    go_ret
    exact ⟨ret_int hr.out.symm, hb.out.trans (hb2.trans hb3)⟩
  | true =>
    have hn' := Aside0.mk hn
    cases ho : okSub ns vs with
    | false =>
      have hr := Aside0.mk (show appV ns vs x = x by unfold appV; rw [ho]; rfl)
      have ho' := Aside0.mk ho
      clear hn ho
      by_cases hlt : idxFrom (fun n => n == nulNum x) ns 0 < 0
      · have hltb : decide (idxFrom (fun n => n == nulNum x) ns 0 < 0) = true := decide_eq_true hlt
        go_enter Tryz.func56, Tryz.ntmps56
        go_wp2_with (first
          | (go_at_call 82; refine (iNullNumber_calls _ _ hx).mono ?_; rintro e w2 ⟨rfl, hb2⟩; rw [hn'.out]; have hc2 := blk_cell (Loc.on hb2 hL.out).1)
          | (go_at_call 86; refine (indexI_calls _ A0 c0 ns _ (h0.on (hb.out.trans hb2))).mono ?_; rintro e w3 ⟨rfl, hb3⟩))
        go_ret
        exact ⟨ret_int hr.out.symm, hb.out.trans (hb2.trans hb3)⟩
      · have hltb : decide (idxFrom (fun n => n == nulNum x) ns 0 < 0) = false := decide_eq_false hlt
        go_enter Tryz.func56, Tryz.ntmps56
        go_wp2_with (first
          | (go_at_call 82; refine (iNullNumber_calls _ _ hx).mono ?_; rintro e w2 ⟨rfl, hb2⟩; rw [hn'.out]; have hc2 := blk_cell (Loc.on hb2 hL.out).1)
          | (go_at_call 86; refine (indexI_calls _ A0 c0 ns _ (h0.on (hb.out.trans hb2))).mono ?_; rintro e w3 ⟨rfl, hb3⟩; have hc3 := blk_cell (Loc.on (hb2.trans hb3) hL.out).1)
          | (go_at_call 24; refine (iIsValidSub_calls _ A0 c0 A1 c1 ns vs (h0.on (hb.out.trans (hb2.trans hb3))) (h1.on (hb.out.trans (hb2.trans hb3)))).mono ?_; rintro e w4 ⟨rfl, hb4⟩; rw [ho'.out]))
        go_ret
        exact ⟨ret_int hr.out.symm, hb.out.trans (hb2.trans (hb3.trans hb4))⟩
    | true =>
      have hsp := okSub_spec ho
      have ho' := Aside0.mk ho
      rcases idx_findV ns vs x 0 hsp.1 hsp.2.1 hn with ⟨e1, e2⟩ | ⟨k, hk, e1, e2⟩
      · have hr := Aside0.mk (show appV ns vs x = x by unfold appV; rw [ho, if_pos rfl, e2]; rfl)
        have e1' := Aside0.mk e1
        clear hn ho e1 e2 hsp
        go_enter Tryz.func56, Tryz.ntmps56
        go_wp2_with (first
          | (go_at_call 82; refine (iNullNumber_calls _ _ hx).mono ?_; rintro e w2 ⟨rfl, hb2⟩; rw [hn'.out]; have hc2 := blk_cell (Loc.on hb2 hL.out).1)
          | (go_at_call 86; refine (indexI_calls _ A0 c0 ns _ (h0.on (hb.out.trans hb2))).mono ?_; rintro e w3 ⟨rfl, hb3⟩; rw [e1'.out]))
        go_ret
        exact ⟨ret_int hr.out.symm, hb.out.trans (hb2.trans hb3)⟩
      · have hr := Aside0.mk (show appV ns vs x = vs[k] by unfold appV; rw [ho, if_pos rfl, e2]; rfl)
        rw [Nat.zero_add] at e1
        have e1' := Aside0.mk e1
        clear hn ho e1 e2 hsp
        go_enter Tryz.func56, Tryz.ntmps56
        go_wp2_with (first
          | (go_at_call 82; refine (iNullNumber_calls _ _ hx).mono ?_; rintro e w2 ⟨rfl, hb2⟩; rw [hn'.out]; have hc2 := blk_cell (Loc.on hb2 hL.out).1)
          | (go_at_call 86; refine (indexI_calls _ A0 c0 ns _ (h0.on (hb.out.trans hb2))).mono ?_; rintro e w3 ⟨rfl, hb3⟩; rw [e1'.out]; have hc3 := blk_cell (Loc.on (hb2.trans hb3) hL.out).1)
          | (go_at_call 24; refine (iIsValidSub_calls _ A0 c0 A1 c1 ns vs (h0.on (hb.out.trans (hb2.trans hb3))) (h1.on (hb.out.trans (hb2.trans hb3)))).mono ?_; rintro e w4 ⟨rfl, hb4⟩; rw [ho'.out]; have hc4 := blk_cell (Loc.on (hb2.trans (hb3.trans hb4)) hL.out).1; obtain ⟨bd, rfl, hy⟩ := (h1.on (hb.out.trans (hb2.trans (hb3.trans hb4)))).at k hk))
        go_ret
        exact ⟨ret_int hr.out.symm, hb.out.trans (hb2.trans (hb3.trans hb4))⟩

theorem own_some0 {w : World} {lo e sz n c : Nat} {A : Option Addr} {cs : List Value} (h : w.ownsRow lo e sz (.slice A n c) n cs) (hn : 0 < n) : ∃ g, A = some ⟨g, 0, none⟩ := by
  rcases h.2 with ⟨h', h2⟩ | ⟨g', cap', cur, h', _⟩
  · injection h' with e1 e2 e3
    subst e1
    omega
  · injection h' with e1 e2 e3
    exact ⟨g', e1⟩
theorem own_ltS {w : World} {lo e sz n c g : Nat} {cs : List Value} (h : w.ownsRow lo e sz (.slice (some ⟨g, 0, none⟩) n c) n cs) : g < w.heap.size := by
  rcases h.2 with ⟨h', _⟩ | ⟨g', cap', cur, h', _, hh, _⟩
  · cases h'
  · have : g = g' := by injection h' with h'; injection h' with h'; injection h' with h'
    subst this
    exact (Array.getElem?_eq_some_iff.1 hh).1
theorem iApplyToFact_calls (w : World) (A0 c0 A1 c1 A2 c2) (ns vs : List Int) (f : Fct) (h0 : Ints w A0 c0 ns) (h1 : Ints w A1 c1 vs) (h2 : Ints w A2 c2 f.2) (hl : f.2.length ≤ 2000000) :
    Calls Tryz.prog 30 #[.agg #[.slice A0 ns.length c0, .slice A1 vs.length c1], .agg #[.int .i64 f.1, .slice A2 f.2.length c2]] w (Got fun v w' => ∃ v1, v = .agg #[.int .i64 f.1, v1] ∧ OI w' w.heap.size v1 (f.2.map (appV ns vs)) ∧ On w w') := by
  have hmax := h2.max
  have hb := Aside0.mk (On.alloc (On.alloc (On.alloc (On.refl w) (.cells #[.slice A0 ns.length c0, .slice A1 vs.length c1] 32)) (.cells #[.int .i64 f.1, .slice A2 f.2.length c2] 54)) (.cells #[.int .i64 0, .slice none 0 0] 54))
  have hL := Aside0.mk (loc3 w #[.slice A0 ns.length c0, .slice A1 vs.length c1] #[.int .i64 f.1, .slice A2 f.2.length c2] #[.int .i64 0, .slice none 0 0] 32 54 54)
  have hsz3 := Aside0.mk (show (((w.alloc (.cells #[.slice A0 ns.length c0, .slice A1 vs.length c1] 32)).alloc (.cells #[.int .i64 f.1, .slice A2 f.2.length c2] 54)).alloc (.cells #[.int .i64 0, .slice none 0 0] 54)).heap.size = w.heap.size + 3 by simp)
  go_enter Tryz.func30, Tryz.ntmps30
  go_wp2_with (refine gate 9 ?_)
  obtain ⟨Wx, hWx⟩ : ∃ Wx, ((w.alloc (.cells #[.slice A0 ns.length c0, .slice A1 vs.length c1] 32)).alloc (.cells #[.int .i64 f.1, .slice A2 f.2.length c2] 54)).alloc (.cells #[.int .i64 0, .slice none 0 0] 54) = Wx := ⟨_, rfl⟩
  rw [hWx] at hb hL hsz3 ⊢
  clear hWx
  refine ⟨goesC 9 Tryz.func55 (by kernel_rfl) rfl ((factCopy_calls Wx A2 c2 f (h2.on hb.out) hl).mono fun e w1 hh => ?_)⟩
  obtain ⟨v, rfl, v1, rfl, hO1, hb1⟩ := hh
  refine ⟨_, rfl, ?_⟩
  obtain ⟨A3, c3, rfl⟩ := own_slice hO1
  have hO1' := Aside0.mk hO1
  have hb1' := Aside0.mk hb1
  clear hO1 hb1
  have hfill := alloc_fill w1
  have hL1 := Aside0.mk (Loc.on (hb1'.out.trans (On.alloc (On.refl w1) (.cells #[.int .i64 f.1, .slice A3 f.2.length c3] 54))) hL.out)
  have hcf := blk_cell hL1.out.2.1
  go_wp2
  clear hfill hcf hL1
  have hyb := Aside0.mk (loc_new w1 #[.int .i64 f.1, .slice A3 f.2.length c3] 54)
  have hBy := Aside0.mk (On.alloc (On.refl w1) (.cells #[.int .i64 f.1, .slice A3 f.2.length c3] 54))
  obtain ⟨Wy, hWy⟩ : ∃ Wy, w1.alloc (.cells #[.int .i64 f.1, .slice A3 f.2.length c3] 54) = Wy := ⟨_, rfl⟩
  rw [hWy] at hyb hBy ⊢
  clear hWy
  have hyz := Aside0.mk (show w.heap.size + 3 ≤ w1.heap.size by have := hb1'.out.size; rw [hsz3.out] at this; exact this)
  obtain ⟨y, hy⟩ : ∃ y, w1.heap.size = y := ⟨_, rfl⟩
  rw [hy] at hyb hyz ⊢
  have hyw := Aside0.mk hy
  clear hy
  go_loopw [13] (fun v wr => ∃ k : Nat, k ≤ f.2.length ∧ v = .int .i64 k ∧ Aside0 (wr.ownsRow (w.heap.size + 3) 3 1 (.slice A3 f.2.length c3) f.2.length (((f.2.take k).map (appV ns vs)).flatMap encI ++ (f.2.drop k).flatMap encI)) ∧ Aside0 (On Wx wr) ∧ wr.heap[y]? = some (.cells #[.int .i64 f.1, .slice A3 f.2.length c3] 54 (0, 0))) (fun v _ => f.2.length - (intOf v).toNat)
  case atStart => exact ⟨0, Nat.zero_le _, rfl, ⟨by rw [← hsz3.out]; exact pw_own_below hO1'.out hBy.out⟩, ⟨hb1'.out.trans hBy.out⟩, hyb.out⟩
  case round =>
    obtain ⟨k, hk, rfl, hO, hB, hyr⟩ := hrel
    have hBw := Aside0.mk (hb.out.trans hB.out)
    have hLr := Aside0.mk (Loc.on hB.out hL.out)
    have hcy := blk_cell hyr
    have hyr' := Aside0.mk hyr
    clear hyr
    by_cases hlt : k < f.2.length
    · obtain ⟨ad, rfl, hx⟩ := (h2.on hBw.out).at k hlt
      have hc0 := blk_cell hLr.out.1
      obtain ⟨g, rfl⟩ := own_some0 hO.out (by omega)
      have hbd := h2.bd k hlt
      go_wp2
      refine Reg.region [(0,.L),(1,.L),(2,.L),(3,.L),(4,.L),(5,.C),(6,.L)] [7] (by kernel_rfl) (by kernel_rfl) ?_
      repeat first | refine sP ?_ | refine sS ?_ | refine sA ?_ | refine sL ?_ | refine sQ ?_ | refine sO ?_
      refine callC (.int .i64 (appV ns vs f.2[k])) Tryz.func56 (fun w' hS => ?_) ?_
      focus exact iApplyToValue_calls w' A0 c0 A1 c1 ns vs (h0.on (hBw.out.trans hS)) (h1.on (hBw.out.trans hS)) f.2[k] hbd
      repeat first | refine sP ?_ | refine sS ?_ | refine sA ?_ | refine sL ?_ | refine sQ ?_ | refine sO ?_
      refine Reg.tail_ fun w5 hS5 => ?_
      have hO5 := Aside0.mk (pw_own_below hO.out hS5)
      have hfz : w5.frozen? ⟨g, k, none⟩ = false := own_frozen hO5.out k
      obtain ⟨z, hz⟩ := own_some hO5.out k (by omega)
      have hgl := Aside0.mk (show w.heap.size + 3 ≤ g from own_base hO5.out g rfl)
      have hgy := Aside0.mk (show g ≠ y from fun e => by have h3 := own_ltS hO1'.out; have h4 := hyw.out; omega)
      clear hcy hc0
      go_wp2
      refine ⟨⟨k + 1, by omega, by go_num, ⟨?_⟩, ⟨Reg.On.set (hB.out.trans hS5) (by rw [hsz3.out]; exact hgl.out) _⟩, ?_⟩, by simp [intOf]; omega⟩
      · have h3 := (hO5.out.stored k (.int .i64 (appV ns vs f.2[k]))).1
        rw [List.drop_eq_getElem_cons hlt, List.flatMap_cons] at h3
        rw [List.take_succ_eq_append_getElem hlt, List.map_append, List.flatMap_append, List.append_assoc]
        rw [show encI f.2[k] ++ (f.2.drop (k + 1)).flatMap encI = .int .i64 f.2[k] :: (f.2.drop (k + 1)).flatMap encI from rfl, set1 k (by rw [flat_len (enc := encI) (sz := 1) (fun _ => rfl), List.length_map, List.length_take]; omega)] at h3
        exact h3
      · rw [Below.heap_setCell _ _ _ _ (fun e => hgy.out (by have h : y = g := e; exact h.symm))]
        exact blk_below hyr'.out hS5
    · have e1 : f.2.take k = f.2 := List.take_of_length_le (by omega)
      have e2 : f.2.drop k = [] := List.drop_of_length_le (by omega)
      rw [e1, e2, List.flatMap_nil, List.append_nil] at hO
      have hcr : ∀ i, wr.cell? ⟨w.heap.size + 1 + 1, i, none⟩ = _ := blk_cell hLr.out.2.2.1
      have hfr : ∀ i, wr.frozen? ⟨w.heap.size + 1 + 1, i, none⟩ = _ := blk_frozen hLr.out.2.2.1
      go_wp2
      refine bodyPost_ret (retF rfl rfl (g := w.heap.size + 2) (blk_set (blk_set hLr.out.2.2.1 0 _) 1 _) rfl) rfl ?_
      have hO2 : OI wr (w.heap.size + 3) (.slice A3 f.2.length c3) (f.2.map (appV ns vs)) := by
        have := hO.out
        unfold OI
        rw [List.length_map]
        exact this
      refine ⟨_, rfl, _, rfl, ?_, Reg.On.set (Reg.On.set hBw.out (by first | (simp; done) | (simp; omega)) _) (by first | (simp; done) | (simp; omega)) _⟩
      exact own_lower (ownsRow_setCell_below (ownsRow_setCell_below hO2 (by first | (simp; done) | (simp; omega)) _) (by first | (simp; done) | (simp; omega)) _) (by omega)
end Go.Proofs.YtgemaohdlibboaaGreat.H
