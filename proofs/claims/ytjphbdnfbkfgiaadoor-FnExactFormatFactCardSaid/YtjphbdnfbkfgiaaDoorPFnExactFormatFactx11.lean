-- Written by a program of this session: the kit's printer, turned by wip/mkprint.py.
import Derived.Test.YtjphbdnfbkfgiaaDoorPFnExactFormatFactx0
import Derived.Test.YtjphbdnfbkfgiaaDoorPFnExactFormatFactx1
import Derived.Test.YtjphbdnfbkfgiaaDoorPFnExactFormatFactx5
import Derived.Test.YtjphbdnfbkfgiaaDoorPFnExactFormatFactx9
import Derived.Test.YtjphbdnfbkfgiaaDoorPFnExactFormatFactx10
namespace Go.Proofs.YtjphbdnfbkfgiaaDoor.PFnExactFormatFact
open Go.RowKit Go.Proofs.YtjphbdnfbkfgiaaDoorW.PrintWords Go.Proofs.YtjphbdnfbkfgiaaDoorW.PrintLast Go.Proofs.YtjphbdnfbkfgiaaDoorW.PrintMore
attribute [local go_sem] max2_int min2_int max_two min_two max_three min_three max_four min_four   -- for this text's walks alone
set_option linter.unusedVariables false
set_option linter.unusedSimpArgs false

/-! ### laws_FnExactFormatFact: function 10 -/
def laws_FnExactFormatFact.f (k : Nat) (l0 : List (S78)) (a1_0 : Int) (l1_1 : List Int) : Option (Bool) := (laws_szRelationS.f k l0 1048576).bind fun t206 => (if t206 < 0 then (some true) else ((laws_szFact.f a1_0 l1_1 t206).bind fun t207 => (if t207 < 0 then (some true) else ((laws_toRelationS.f k l0).bind fun t208 => ((laws_toFact.f k a1_0 l1_1).bind fun bt211 => ((spec_FormatFact.f k t208 bt211.1 bt211.2).bind fun t215 => ((laws_toRelationS.f k l0).bind fun t216 => ((laws_toFact.f k a1_0 l1_1).bind fun bt219 => ((impl_FormatFact.f k t216 bt219.1 bt219.2).bind fun t224 => (if t224.toList = t215.toList then ((laws_toRelationS.f k l0).bind fun t225 => ((laws_eqRelationS.f k t216 t225).bind fun t228 => (if t228 = true then ((laws_toFact.f k a1_0 l1_1).bind fun bt229 => ((laws_eqFact.f k bt219.1 bt219.2 bt229.1 bt229.2).bind fun t233 => (if t233 = true then (some true) else (some false)))) else (some false)))) else (some false)))))))))))
theorem laws_FnExactFormatFact.mono : ∀ a0 a1 a2 k, LeO (laws_FnExactFormatFact.f k a0 a1 a2) (laws_FnExactFormatFact.f (k + 1) a0 a1 a2) := by
  intro a0 a1 a2 k
  unfold laws_FnExactFormatFact.f
  repeat' first
      | (with_reducible exact impl_FormatFact.mono _ _ _ _)
      | (with_reducible exact laws_eqFact.mono _ _ _ _ _)
      | (with_reducible exact laws_eqRelationS.mono _ _ _)
      | (with_reducible exact laws_szRelationS.mono _ _ _)
      | (with_reducible exact laws_toFact.mono _ _ _)
      | (with_reducible exact laws_toRelationS.mono _ _)
      | (with_reducible exact spec_FormatFact.mono _ _ _ _)
      | (with_reducible exact LeO.refl _)
      | (with_reducible exact LeO.none _)
      | (with_reducible refine LeO.ite ?_ ?_)
      | (with_reducible refine LeO.bind ?_ (fun _ => ?_))
      | exact impl_FormatFact.mono _ _ _ _
      | exact laws_eqFact.mono _ _ _ _ _
      | exact laws_eqRelationS.mono _ _ _
      | exact laws_szRelationS.mono _ _ _
      | exact laws_toFact.mono _ _ _
      | exact laws_toRelationS.mono _ _
      | exact spec_FormatFact.mono _ _ _ _
      | exact LeO.none _
      | refine LeO.ite ?_ ?_
      | refine LeO.bind ?_ (fun _ => ?_)
set_option maxHeartbeats 8000000 in
set_option maxRecDepth 100000 in
theorem laws_FnExactFormatFact.calls (k : Nat) (A0 : Option Addr) (c0 : Nat) (l0 : List (S78)) (a1_0 : Int) (A1_1 : Option Addr) (c1_1 : Nat) (l1_1 : List Int) (w : World) (hr0 : Kd.C k78 w A0 l0.length l0) (hc0 : l0.length ≤ c0) (hr1_1 : Kd.C (Kd.int .i64) w A1_1 l1_1.length l1_1) (hc1_1 : l1_1.length ≤ c1_1) (hT : GT w) (h : laws_FnExactFormatFact.f k l0 a1_0 l1_1 = some true) :
    Calls Tryd.prog 10 #[.slice A0 l0.length c0, .agg #[.int .i64 a1_0, .slice A1_1 l1_1.length c1_1]] w fun e w' => e = .returned (.bool true) ∧ Below w.heap.size w w' := by
  have hu57 := Tryd.underlying57
  have hu60 := Tryd.underlying60
  have HR0 := Aside0.mk hr0
  have HC0 := Aside0.mk hc0
  clear hr0 hc0
  have HR1_1 := Aside0.mk hr1_1
  have HC1_1 := Aside0.mk hc1_1
  clear hr1_1 hc1_1
  have HB := Aside0.mk (Below.refl w.heap.size w)
  have H : ((laws_szRelationS.f k l0 1048576).bind fun t206 => (if t206 < 0 then (some true) else ((laws_szFact.f a1_0 l1_1 t206).bind fun t207 => (if t207 < 0 then (some true) else ((laws_toRelationS.f k l0).bind fun t208 => ((laws_toFact.f k a1_0 l1_1).bind fun bt211 => ((spec_FormatFact.f k t208 bt211.1 bt211.2).bind fun t215 => ((laws_toRelationS.f k l0).bind fun t216 => ((laws_toFact.f k a1_0 l1_1).bind fun bt219 => ((impl_FormatFact.f k t216 bt219.1 bt219.2).bind fun t224 => (if t224.toList = t215.toList then ((laws_toRelationS.f k l0).bind fun t225 => ((laws_eqRelationS.f k t216 t225).bind fun t228 => (if t228 = true then ((laws_toFact.f k a1_0 l1_1).bind fun bt229 => ((laws_eqFact.f k bt219.1 bt219.2 bt229.1 bt229.2).bind fun t233 => (if t233 = true then (some true) else (some false)))) else (some false)))) else (some false)))))))))))) = some true := h
  clear h
  replace H := Option.bind_eq_some_iff.mp H
  obtain ⟨t206, A30, H⟩ := H
  replace H : (if t206 < 0 then (some true) else ((laws_szFact.f a1_0 l1_1 t206).bind fun t207 => (if t207 < 0 then (some true) else ((laws_toRelationS.f k l0).bind fun t208 => ((laws_toFact.f k a1_0 l1_1).bind fun bt211 => ((spec_FormatFact.f k t208 bt211.1 bt211.2).bind fun t215 => ((laws_toRelationS.f k l0).bind fun t216 => ((laws_toFact.f k a1_0 l1_1).bind fun bt219 => ((impl_FormatFact.f k t216 bt219.1 bt219.2).bind fun t224 => (if t224.toList = t215.toList then ((laws_toRelationS.f k l0).bind fun t225 => ((laws_eqRelationS.f k t216 t225).bind fun t228 => (if t228 = true then ((laws_toFact.f k a1_0 l1_1).bind fun bt229 => ((laws_eqFact.f k bt219.1 bt219.2 bt229.1 bt229.2).bind fun t233 => (if t233 = true then (some true) else (some false)))) else (some false)))) else (some false))))))))))) = some true := H
  have A3 := Aside0.mk A30
  clear A30
  by_cases c4 : t206 < 0
  · rw [if_pos c4] at H
    have c4b0 : decide (t206 < 0) = true := decide_eq_true c4
    clear c4
    clear H
    go_enter Tryd.func10, Tryd.ntmps10
    go_wp2_with (first | ((with_reducible refine gate_dst (N := 3) rfl ?_); refine box_event ?hg (N := 3) ?hd (cs := #[.int .i64 a1_0, .slice A1_1 l1_1.length c1_1]) (t := 57) ?hr ?_; (case hd => rfl); (case hg => rfl); (case hr => first | (go_simp; done) | (go_simp; rfl)); intro gb205 hg w5 hbox hb; have BK205 := zm (hbox); have GW205 := zm ((by rw [hg]; exact (below_size zl) : w.heap.size ≤ gb205)); have GE205 := zm ((by rw [hg]; exact (below_size zl) : w.heap.size ≤ gb205)); replace HB := zm (below_step zl hb); clear hb hbox hg) | ((with_reducible refine gate_callee (f := 36) rfl ?_); refine zg (some 12) Tryd.func36 #[.slice A0 l0.length c0, .int .i64 1048576] ?_; (with_reducible refine (laws_szRelationS.calls k _ _ l0 1048576 t206 _ ?side1 ?side2 A3.out).mono ?_); (case side1 => exact zc HR0.out); (case side2 => exact HC0.out); rintro e w6 ⟨rfl, hb⟩; refine ⟨_, rfl, ?_⟩; replace BK205 := zm (blk_below (zb BK205.out) hb); replace HB := zm (below_step zl hb); (try clear hb); (try clear hb2); (try clear hk); (try clear hi)))
    go_ret
    exact ⟨by first | rfl | (simp [errW_none, errW_some] <;> rfl) | (simp [*, errW_none, errW_some] <;> rfl), by repeat (first | (with_reducible first | exact HB.out | apply below_alloc | apply pw_below_drewN | apply below_drew1 | refine below_set ?_ GE205.out) | exact HB.out)⟩
  · rw [if_neg c4] at H
    have c4b0 : decide (t206 < 0) = false := decide_eq_false c4
    clear c4
    replace H := Option.bind_eq_some_iff.mp H
    obtain ⟨t207, A70, H⟩ := H
    replace H : (if t207 < 0 then (some true) else ((laws_toRelationS.f k l0).bind fun t208 => ((laws_toFact.f k a1_0 l1_1).bind fun bt211 => ((spec_FormatFact.f k t208 bt211.1 bt211.2).bind fun t215 => ((laws_toRelationS.f k l0).bind fun t216 => ((laws_toFact.f k a1_0 l1_1).bind fun bt219 => ((impl_FormatFact.f k t216 bt219.1 bt219.2).bind fun t224 => (if t224.toList = t215.toList then ((laws_toRelationS.f k l0).bind fun t225 => ((laws_eqRelationS.f k t216 t225).bind fun t228 => (if t228 = true then ((laws_toFact.f k a1_0 l1_1).bind fun bt229 => ((laws_eqFact.f k bt219.1 bt219.2 bt229.1 bt229.2).bind fun t233 => (if t233 = true then (some true) else (some false)))) else (some false)))) else (some false))))))))) = some true := H
    have A7 := Aside0.mk A70
    clear A70
    by_cases c8 : t207 < 0
    · rw [if_pos c8] at H
      have c8b0 : decide (t207 < 0) = true := decide_eq_true c8
      clear c8
      clear H
      go_enter Tryd.func10, Tryd.ntmps10
      go_wp2_with (first | ((with_reducible refine gate_dst (N := 3) rfl ?_); refine box_event ?hg (N := 3) ?hd (cs := #[.int .i64 a1_0, .slice A1_1 l1_1.length c1_1]) (t := 57) ?hr ?_; (case hd => rfl); (case hg => rfl); (case hr => first | (go_simp; done) | (go_simp; rfl)); intro gb205 hg w9 hbox hb; have BK205 := zm (hbox); have GW205 := zm ((by rw [hg]; exact (below_size zl) : w.heap.size ≤ gb205)); have GE205 := zm ((by rw [hg]; exact (below_size zl) : w.heap.size ≤ gb205)); replace HB := zm (below_step zl hb); clear hb hbox hg) | ((with_reducible refine gate_callee (f := 36) rfl ?_); refine zg (some 12) Tryd.func36 #[.slice A0 l0.length c0, .int .i64 1048576] ?_; (with_reducible refine (laws_szRelationS.calls k _ _ l0 1048576 t206 _ ?side1 ?side2 A3.out).mono ?_); (case side1 => exact zc HR0.out); (case side2 => exact HC0.out); rintro e w10 ⟨rfl, hb⟩; refine ⟨_, rfl, ?_⟩; replace BK205 := zm (blk_below (zb BK205.out) hb); replace HB := zm (below_step zl hb); (try clear hb); (try clear hb2); (try clear hk); (try clear hi); have hcz11_0 : w10.cell? ⟨gb205, 0, none⟩ = some (.int .i64 a1_0) := (blk_cell BK205.out 0).trans rfl; have hcz11_1 : w10.cell? ⟨gb205, 1, none⟩ = some (.slice A1_1 l1_1.length c1_1) := (blk_cell BK205.out 1).trans rfl; have hfz11_0 := blk_frozen BK205.out 0; have hfz11_1 := blk_frozen BK205.out 1) | ((with_reducible refine gate_callee (f := 46) rfl ?_); refine zg (some 17) Tryd.func46 #[.agg #[.int .i64 a1_0, .slice A1_1 l1_1.length c1_1], .int .i64 t206] ?_; (with_reducible refine (laws_szFact.calls a1_0 _ _ l1_1 t206 t207 _ ?side1 ?side2 A7.out).mono ?_); (case side1 => exact zc HR1_1.out); (case side2 => exact HC1_1.out); rintro e w12 ⟨rfl, hb⟩; refine ⟨_, rfl, ?_⟩; replace BK205 := zm (blk_below (zb BK205.out) hb); replace HB := zm (below_step zl hb); (try clear hb); (try clear hb2); (try clear hk); (try clear hi)))
      go_ret
      exact ⟨by first | rfl | (simp [errW_none, errW_some] <;> rfl) | (simp [*, errW_none, errW_some] <;> rfl), by repeat (first | (with_reducible first | exact HB.out | apply below_alloc | apply pw_below_drewN | apply below_drew1 | refine below_set ?_ GE205.out) | exact HB.out)⟩
    · rw [if_neg c8] at H
      have c8b0 : decide (t207 < 0) = false := decide_eq_false c8
      clear c8
      replace H := Option.bind_eq_some_iff.mp H
      obtain ⟨t208, A130, H⟩ := H
      replace H : ((laws_toFact.f k a1_0 l1_1).bind fun bt211 => ((spec_FormatFact.f k t208 bt211.1 bt211.2).bind fun t215 => ((laws_toRelationS.f k l0).bind fun t216 => ((laws_toFact.f k a1_0 l1_1).bind fun bt219 => ((impl_FormatFact.f k t216 bt219.1 bt219.2).bind fun t224 => (if t224.toList = t215.toList then ((laws_toRelationS.f k l0).bind fun t225 => ((laws_eqRelationS.f k t216 t225).bind fun t228 => (if t228 = true then ((laws_toFact.f k a1_0 l1_1).bind fun bt229 => ((laws_eqFact.f k bt219.1 bt219.2 bt229.1 bt229.2).bind fun t233 => (if t233 = true then (some true) else (some false)))) else (some false)))) else (some false))))))) = some true := H
      have A13 := Aside0.mk A130
      clear A130
      replace H := Option.bind_eq_some_iff.mp H
      obtain ⟨⟨t211, t212⟩, A140, H⟩ := H
      replace H : ((spec_FormatFact.f k t208 t211 t212).bind fun t215 => ((laws_toRelationS.f k l0).bind fun t216 => ((laws_toFact.f k a1_0 l1_1).bind fun bt219 => ((impl_FormatFact.f k t216 bt219.1 bt219.2).bind fun t224 => (if t224.toList = t215.toList then ((laws_toRelationS.f k l0).bind fun t225 => ((laws_eqRelationS.f k t216 t225).bind fun t228 => (if t228 = true then ((laws_toFact.f k a1_0 l1_1).bind fun bt229 => ((laws_eqFact.f k bt219.1 bt219.2 bt229.1 bt229.2).bind fun t233 => (if t233 = true then (some true) else (some false)))) else (some false)))) else (some false)))))) = some true := H
      have A14 := Aside0.mk A140
      clear A140
      replace H := Option.bind_eq_some_iff.mp H
      obtain ⟨t215, A150, H⟩ := H
      replace H : ((laws_toRelationS.f k l0).bind fun t216 => ((laws_toFact.f k a1_0 l1_1).bind fun bt219 => ((impl_FormatFact.f k t216 bt219.1 bt219.2).bind fun t224 => (if t224.toList = t215.toList then ((laws_toRelationS.f k l0).bind fun t225 => ((laws_eqRelationS.f k t216 t225).bind fun t228 => (if t228 = true then ((laws_toFact.f k a1_0 l1_1).bind fun bt229 => ((laws_eqFact.f k bt219.1 bt219.2 bt229.1 bt229.2).bind fun t233 => (if t233 = true then (some true) else (some false)))) else (some false)))) else (some false))))) = some true := H
      have A15 := Aside0.mk A150
      clear A150
      replace H := Option.bind_eq_some_iff.mp H
      obtain ⟨t216, A160, H⟩ := H
      replace H : ((laws_toFact.f k a1_0 l1_1).bind fun bt219 => ((impl_FormatFact.f k t216 bt219.1 bt219.2).bind fun t224 => (if t224.toList = t215.toList then ((laws_toRelationS.f k l0).bind fun t225 => ((laws_eqRelationS.f k t216 t225).bind fun t228 => (if t228 = true then ((laws_toFact.f k a1_0 l1_1).bind fun bt229 => ((laws_eqFact.f k bt219.1 bt219.2 bt229.1 bt229.2).bind fun t233 => (if t233 = true then (some true) else (some false)))) else (some false)))) else (some false)))) = some true := H
      have A16 := Aside0.mk A160
      clear A160
      replace H := Option.bind_eq_some_iff.mp H
      obtain ⟨⟨t219, t220⟩, A170, H⟩ := H
      replace H : ((impl_FormatFact.f k t216 t219 t220).bind fun t224 => (if t224.toList = t215.toList then ((laws_toRelationS.f k l0).bind fun t225 => ((laws_eqRelationS.f k t216 t225).bind fun t228 => (if t228 = true then ((laws_toFact.f k a1_0 l1_1).bind fun bt229 => ((laws_eqFact.f k t219 t220 bt229.1 bt229.2).bind fun t233 => (if t233 = true then (some true) else (some false)))) else (some false)))) else (some false))) = some true := H
      have A17 := Aside0.mk A170
      clear A170
      replace H := Option.bind_eq_some_iff.mp H
      obtain ⟨t224, A180, H⟩ := H
      replace H : (if t224.toList = t215.toList then ((laws_toRelationS.f k l0).bind fun t225 => ((laws_eqRelationS.f k t216 t225).bind fun t228 => (if t228 = true then ((laws_toFact.f k a1_0 l1_1).bind fun bt229 => ((laws_eqFact.f k t219 t220 bt229.1 bt229.2).bind fun t233 => (if t233 = true then (some true) else (some false)))) else (some false)))) else (some false)) = some true := H
      have A18 := Aside0.mk A180
      clear A180
      by_cases c19 : t224.toList = t215.toList
      · rw [if_pos c19] at H
        have c19b0 : (t224.toList == t215.toList) = true := beq_iff_eq.mpr c19
        have c19b1 : (t224.toList != t215.toList) = false := bne_eq_false_iff_eq.mpr c19
        clear c19
        replace H := Option.bind_eq_some_iff.mp H
        obtain ⟨t225, A200, H⟩ := H
        replace H : ((laws_eqRelationS.f k t216 t225).bind fun t228 => (if t228 = true then ((laws_toFact.f k a1_0 l1_1).bind fun bt229 => ((laws_eqFact.f k t219 t220 bt229.1 bt229.2).bind fun t233 => (if t233 = true then (some true) else (some false)))) else (some false))) = some true := H
        have A20 := Aside0.mk A200
        clear A200
        replace H := Option.bind_eq_some_iff.mp H
        obtain ⟨t228, A210, H⟩ := H
        replace H : (if t228 = true then ((laws_toFact.f k a1_0 l1_1).bind fun bt229 => ((laws_eqFact.f k t219 t220 bt229.1 bt229.2).bind fun t233 => (if t233 = true then (some true) else (some false)))) else (some false)) = some true := H
        have A21 := Aside0.mk A210
        clear A210
        by_cases c22 : t228 = true
        · subst c22
          have H1 : ((laws_toFact.f k a1_0 l1_1).bind fun bt229 => ((laws_eqFact.f k t219 t220 bt229.1 bt229.2).bind fun t233 => (if t233 = true then (some true) else (some false)))) = some true := by first | with_reducible rfl | (rw [if_pos rfl] at H; exact H)
          clear H
          have H := H1
          clear H1
          replace H := Option.bind_eq_some_iff.mp H
          obtain ⟨⟨t229, t230⟩, A230, H⟩ := H
          replace H : ((laws_eqFact.f k t219 t220 t229 t230).bind fun t233 => (if t233 = true then (some true) else (some false))) = some true := H
          have A23 := Aside0.mk A230
          clear A230
          replace H := Option.bind_eq_some_iff.mp H
          obtain ⟨t233, A240, H⟩ := H
          replace H : (if t233 = true then (some true) else (some false)) = some true := H
          have A24 := Aside0.mk A240
          clear A240
          by_cases c25 : t233 = true
          · subst c25
            have H1 : (some true) = some true := by first | with_reducible rfl | (rw [if_pos rfl] at H; exact H)
            clear H
            have H := H1
            clear H1
            clear H
            go_enter Tryd.func10, Tryd.ntmps10
            try go_wp2_with (first | ((with_reducible refine gate_dst (N := 3) rfl ?_); refine box_event ?hg (N := 3) ?hd (cs := #[.int .i64 a1_0, .slice A1_1 l1_1.length c1_1]) (t := 57) ?hr ?_; (case hd => rfl); (case hg => rfl); (case hr => first | (go_simp; done) | (go_simp; rfl)); intro gb205 hg w26 hbox hb; have BK205 := zm (hbox); have GW205 := zm ((by rw [hg]; exact (below_size zl) : w.heap.size ≤ gb205)); have GE205 := zm ((by rw [hg]; exact (below_size zl) : w.heap.size ≤ gb205)); replace HB := zm (below_step zl hb); clear hb hbox hg) | ((with_reducible refine gate_callee (f := 36) rfl ?_); refine zg (some 12) Tryd.func36 #[.slice A0 l0.length c0, .int .i64 1048576] ?_; (with_reducible refine (laws_szRelationS.calls k _ _ l0 1048576 t206 _ ?side1 ?side2 A3.out).mono ?_); (case side1 => exact zc HR0.out); (case side2 => exact HC0.out); rintro e w27 ⟨rfl, hb⟩; refine ⟨_, rfl, ?_⟩; replace BK205 := zm (blk_below (zb BK205.out) hb); replace HB := zm (below_step zl hb); (try clear hb); (try clear hb2); (try clear hk); (try clear hi); have hcz28_0 : w27.cell? ⟨gb205, 0, none⟩ = some (.int .i64 a1_0) := (blk_cell BK205.out 0).trans rfl; have hcz28_1 : w27.cell? ⟨gb205, 1, none⟩ = some (.slice A1_1 l1_1.length c1_1) := (blk_cell BK205.out 1).trans rfl; have hfz28_0 := blk_frozen BK205.out 0; have hfz28_1 := blk_frozen BK205.out 1) | ((with_reducible refine gate_callee (f := 46) rfl ?_); refine zg (some 17) Tryd.func46 #[.agg #[.int .i64 a1_0, .slice A1_1 l1_1.length c1_1], .int .i64 t206] ?_; (with_reducible refine (laws_szFact.calls a1_0 _ _ l1_1 t206 t207 _ ?side1 ?side2 A7.out).mono ?_); (case side1 => exact zc HR1_1.out); (case side2 => exact HC1_1.out); rintro e w29 ⟨rfl, hb⟩; refine ⟨_, rfl, ?_⟩; replace BK205 := zm (blk_below (zb BK205.out) hb); replace HB := zm (below_step zl hb); (try clear hb); (try clear hb2); (try clear hk); (try clear hi)))
            replace BK205 := zm (blk_drew BK205.out)
            replace HB := zm (below_drew1 HB.out)
            refine start_ (n := 6) (S := fun w' => w'.cell? ⟨gb205, 0, none⟩ = some (.int .i64 a1_0) ∧ w'.cell? ⟨gb205, 1, none⟩ = some (.slice A1_1 l1_1.length c1_1)) (ds := []) #[false, false, false, false, false, false] (by kernel_rfl) rfl rfl ⟨(blk_cell BK205.out 0).trans rfl, (blk_cell BK205.out 1).trans rfl⟩ (fun hHeld => ?_)
            generalize w29.drew = w30 at BK205 HB hHeld ⊢
            refine pure_ (i := 0) (N := some 20) (v := ?_) (a' := ?_) #[true, false, false, false, false, false] rfl rfl (by kernel_rfl) (fun _ _ _ h => h) (Or.inl ⟨by rfl, ?_⟩) ?_ ?_
            rotate_left
            · intro w'
              go_simp
              with_reducible rfl
            rotate_left
            · simp only [Act.put, List.setIfInBounds_toArray, List.set_cons_zero, List.set_cons_succ, i64_w, i32_w]
              rfl
            refine take_ (i := 2) (N := some 22) (v := ?_) (a' := ?_) #[true, false, true, false, false, false] rfl rfl (by kernel_rfl) (fun _ _ _ h => h) (Or.inl ⟨by rfl, ?_⟩) hHeld ?_ ?_
            rotate_left
            · rintro w' ⟨s0, s1⟩
              go_simp
              with_reducible rfl
            rotate_left
            · simp only [Act.put, List.setIfInBounds_toArray, List.set_cons_zero, List.set_cons_succ, i64_w, i32_w]
              rfl
            refine one_ (i := 1) (N := some 21) #[true, true, true, false, false, false] rfl rfl (by kernel_rfl) (by decide) (fun K hK => ?_)
            refine goes_ Tryd.func38 (by kernel_rfl) rfl #[.slice A0 l0.length c0] (by rfl) rfl rfl (by (try simp only [List.map_toArray, List.map_cons, List.map_nil]); first | done | rfl | (simp only [List.length_drop, List.length_take]; rfl)) ?_
            with_reducible refine (laws_toRelationS.calls k _ _ l0 t208 _ ?side1 ?side2 A13.out).mono ?_
            (case side1 => exact zc HR0.out)
            (case side2 => exact HC0.out)
            rintro e w31 ⟨v209, rfl, ho0, hb⟩
            refine ⟨_, rfl, ?_⟩
            have HO210 := zm (Kd.R_lower ho0 (below_size zl))
            replace BK205 := zm (blk_below (zb BK205.out) hb)
            replace HB := zm (below_step zl hb)
            (try clear hb)
            (try clear hb2)
            (try clear hk)
            (try clear hi)
            (try clear ho0)
            refine hK.out _ _ ⟨(blk_cell BK205.out 0).trans rfl, (blk_cell BK205.out 1).trans rfl⟩ (fun hHeld => ?_)
            clear hK K
            refine norm_ (a' := ?_) ?_ ?_
            rotate_left
            · show Act.put _ (some 21) _ = _
              simp only [Act.put, List.setIfInBounds_toArray, List.set_cons_zero, List.set_cons_succ, i64_w, i32_w]
              rfl
            refine one_ (i := 3) (N := some 23) #[true, true, true, true, false, false] rfl rfl (by kernel_rfl) (by decide) (fun K hK => ?_)
            refine goes_ Tryd.func48 (by kernel_rfl) rfl #[.agg #[.int .i64 a1_0, .slice A1_1 l1_1.length c1_1]] (by rfl) rfl rfl (by (try simp only [List.map_toArray, List.map_cons, List.map_nil]); first | done | rfl | (simp only [List.length_drop, List.length_take]; rfl)) ?_
            with_reducible refine (laws_toFact.calls k a1_0 _ _ l1_1 t211 t212 _ ?side1 ?side2 A14.out).mono ?_
            (case side1 => exact zc HR1_1.out)
            (case side2 => exact HC1_1.out)
            rintro e w32 ⟨v213, rfl, ho0, hb⟩
            refine ⟨_, rfl, ?_⟩
            replace HO210 := zm (Kd.R_below (zr HO210.out) hb)
            have HO214 := zm (Kd.R_lower ho0 (below_size zl))
            replace BK205 := zm (blk_below (zb BK205.out) hb)
            replace HB := zm (below_step zl hb)
            (try clear hb)
            (try clear hb2)
            (try clear hk)
            (try clear hi)
            (try clear ho0)
            obtain ⟨Ao33, co33, eo33⟩ := Kd.R_slice HO210.out
            (first | subst eo33 | (injection eo33 with f1_ f2_ f3_; have f4_ := f1_.symm; have f5_ := f3_.symm; clear f1_ f2_ f3_; subst f4_; subst f5_))
            obtain ⟨Ao34, co34, eo34⟩ := Kd.R_slice HO214.out
            (first | subst eo34 | (injection eo34 with f1_ f2_ f3_; have f4_ := f1_.symm; have f5_ := f3_.symm; clear f1_ f2_ f3_; subst f4_; subst f5_))
            refine hK.out _ _ ⟨(blk_cell BK205.out 0).trans rfl, (blk_cell BK205.out 1).trans rfl⟩ (fun hHeld => ?_)
            clear hK K
            refine norm_ (a' := ?_) ?_ ?_
            rotate_left
            · show Act.put _ (some 23) _ = _
              simp only [Act.put, List.setIfInBounds_toArray, List.set_cons_zero, List.set_cons_succ, i64_w, i32_w]
              rfl
            refine one_ (i := 4) (N := some 24) #[true, true, true, true, true, false] rfl rfl (by kernel_rfl) (by decide) (fun K hK => ?_)
            refine goes_ Tryd.func47 (by kernel_rfl) rfl #[.slice Ao33 t208.length co33, .agg #[.int .i64 t211, .slice Ao34 t212.length co34]] (by rfl) rfl rfl (by (try simp only [List.map_toArray, List.map_cons, List.map_nil]); first | done | rfl | (simp only [List.length_drop, List.length_take]; rfl)) ?_
            with_reducible refine (spec_FormatFact.calls k _ _ t208 t211 _ _ t212 t215 _ ?side1 ?side2 ?side3 ?side4 A15.out).mono ?_
            (case side1 => repeat (first | exact (Kd.R_reads' HO210.out).2.2 | (with_reducible refine Kd.C_alloc ?_ _) | (with_reducible refine Kd.C_drewN ?_ _) | (with_reducible refine Kd.C_drew ?_)))
            (case side2 => exact (Kd.R_reads' HO210.out).2.1)
            (case side3 => repeat (first | exact (Kd.R_reads' HO214.out).2.2 | (with_reducible refine Kd.C_alloc ?_ _) | (with_reducible refine Kd.C_drewN ?_ _) | (with_reducible refine Kd.C_drew ?_)))
            (case side4 => exact (Kd.R_reads' HO214.out).2.1)
            rintro e w35 ⟨rfl, hb⟩
            refine ⟨_, rfl, ?_⟩
            replace HO210 := zm (Kd.R_below (zr HO210.out) hb)
            replace HO214 := zm (Kd.R_below (zr HO214.out) hb)
            replace BK205 := zm (blk_below (zb BK205.out) hb)
            replace HB := zm (below_step zl hb)
            (try clear hb)
            (try clear hb2)
            (try clear hk)
            (try clear hi)
            refine hK.out _ _ ⟨(blk_cell BK205.out 0).trans rfl, (blk_cell BK205.out 1).trans rfl⟩ (fun hHeld => ?_)
            clear hK K
            refine norm_ (a' := ?_) ?_ ?_
            rotate_left
            · show Act.put _ (some 24) _ = _
              simp only [Act.put, List.setIfInBounds_toArray, List.set_cons_zero, List.set_cons_succ, i64_w, i32_w]
              rfl
            refine pure_ (i := 5) (N := some 6) (v := ?_) (a' := ?_) #[true, true, true, true, true, true] rfl rfl (by kernel_rfl) (fun _ _ _ h => h) (Or.inl ⟨by rfl, ?_⟩) ?_ ?_
            rotate_left
            · intro w'
              go_simp
              with_reducible rfl
            rotate_left
            · simp only [Act.put, List.setIfInBounds_toArray, List.set_cons_zero, List.set_cons_succ, i64_w, i32_w]
              rfl
            refine done_ (by kernel_rfl) ?_
            try go_wp2_with (first | ((with_reducible refine gate_callee (f := 38) rfl ?_); refine zg (some 26) Tryd.func38 #[.slice A0 l0.length c0] ?_; (with_reducible refine (laws_toRelationS.calls k _ _ l0 t216 _ ?side1 ?side2 A16.out).mono ?_); (case side1 => exact zc HR0.out); (case side2 => exact HC0.out); rintro e w36 ⟨v217, rfl, ho0, hb⟩; refine ⟨_, rfl, ?_⟩; replace HO214 := zm (Kd.R_below (zr HO214.out) hb); have HO218 := zm (Kd.R_lower (Kd.R_new' ho0 (Kd.R_lt (zr HO210.out))) (below_size zl)); replace HO210 := zm (Kd.R_elder' (zr HO210.out) (Kd.R_base ho0) hb); replace BK205 := zm (blk_below (zb BK205.out) hb); replace HB := zm (below_step zl hb); (try clear hb); (try clear hb2); (try clear hk); (try clear hi); (try clear ho0); have hcz37_0 : w36.cell? ⟨gb205, 0, none⟩ = some (.int .i64 a1_0) := (blk_cell BK205.out 0).trans rfl; have hcz37_1 : w36.cell? ⟨gb205, 1, none⟩ = some (.slice A1_1 l1_1.length c1_1) := (blk_cell BK205.out 1).trans rfl; have hfz37_0 := blk_frozen BK205.out 0; have hfz37_1 := blk_frozen BK205.out 1) | ((with_reducible refine gate_callee (f := 48) rfl ?_); refine zg (some 28) Tryd.func48 #[.agg #[.int .i64 a1_0, .slice A1_1 l1_1.length c1_1]] ?_; (with_reducible refine (laws_toFact.calls k a1_0 _ _ l1_1 t219 t220 _ ?side1 ?side2 A17.out).mono ?_); (case side1 => exact zc HR1_1.out); (case side2 => exact HC1_1.out); rintro e w38 ⟨v221, rfl, ho0, hb⟩; refine ⟨_, rfl, ?_⟩; replace HO210 := zm (Kd.R_below (zr HO210.out) hb); replace HO218 := zm (Kd.R_below (zr HO218.out) hb); have HO222 := zm (Kd.R_lower (Kd.R_new' ho0 (Kd.R_lt (zr HO214.out))) (below_size zl)); replace HO214 := zm (Kd.R_elder' (zr HO214.out) (Kd.R_base ho0) hb); replace BK205 := zm (blk_below (zb BK205.out) hb); replace HB := zm (below_step zl hb); (try clear hb); (try clear hb2); (try clear hk); (try clear hi); (try clear ho0)) | ((with_reducible refine gate_dst (N := 8) rfl ?_); refine box_event ?hg (N := 8) ?hd (cs := #[.int .i64 0, .slice none 0 0]) (t := 60) ?hr ?_; (case hd => rfl); (case hg => rfl); (case hr => first | (go_simp; done) | (go_simp; rfl)); intro gb223 hg w39 hbox hb; replace HO210 := zm (Kd.R_below (zr HO210.out) hb); replace HO214 := zm (Kd.R_below (zr HO214.out) hb); replace HO218 := zm (Kd.R_below (zr HO218.out) hb); replace HO222 := zm (Kd.R_below (zr HO222.out) hb); have BK223 := zm (hbox); have GW223 := zm ((by rw [hg]; exact (below_size zl) : w.heap.size ≤ gb223)); have GE223 := zm ((by rw [hg]; exact (below_size zl) : w.heap.size ≤ gb223)); replace HB := zm (below_step zl hb); have NB205_223 := zm ((by rw [hg]; exact Nat.ne_of_lt (blk_lt (zb BK205.out)) : gb205 ≠ gb223)); have NB223_205 := zm ((by rw [hg]; exact Nat.ne_of_gt (blk_lt (zb BK205.out)) : gb223 ≠ gb205)); replace BK205 := zm (blk_below (zb BK205.out) hb); clear hb hbox hg; have hnb40 := NB223_205.out; have hnc40 := NB205_223.out; have hcz41_0 : w39.cell? ⟨gb223, 0, none⟩ = some (.int .i64 0) := (blk_cell BK223.out 0).trans rfl; have hcz41_1 : w39.cell? ⟨gb223, 1, none⟩ = some (.slice none 0 0) := (blk_cell BK223.out 1).trans rfl; have hfz41_0 := blk_frozen BK223.out 0; have hfz41_1 := blk_frozen BK223.out 1; obtain ⟨Ao42, co42, eo42⟩ := Kd.R_slice HO222.out; subst eo42; obtain ⟨Ao43, co43, eo43⟩ := Kd.R_slice HO218.out; subst eo43) | ((with_reducible refine gate_callee (f := 49) rfl ?_); refine zg (some 31) Tryd.func49 #[.slice Ao43 t216.length co43, .agg #[.int .i64 t219, .slice Ao42 t220.length co42]] ?_; (with_reducible refine (impl_FormatFact.calls k _ _ t216 t219 _ _ t220 t224 _ ?side1 ?side2 ?side3 ?side4 (zt hT) A18.out).mono ?_); (case side1 => refine (Kd.R_reads' (e := 80) (base := w.heap.size) (ok := fun k_ => (True ∧ some k_ ≠ (.slice Ao33 t208.length co33 : Value).ownBlock)) (n := t216.length) (c := co43) ?_).2.2; exact (zr (Kd.R_mono (Kd.R_far (p := ⟨gb223, 1, none⟩) (Kd.R_far (p := ⟨gb223, 0, none⟩) (Kd.R_types HO218.out BK223.out (by decide)) (fun _ hk => hk.2) (.int .i64 t219)) (fun _ hk => hk.2) (.slice Ao42 t220.length co42)) (fun _ h_ => h_.1)))); (case side2 => exact (Kd.R_reads' HO218.out).2.1); (case side3 => refine (Kd.R_reads' (e := 3) (base := w.heap.size) (ok := fun k_ => (True ∧ some k_ ≠ (.slice Ao34 t212.length co34 : Value).ownBlock)) (n := t220.length) (c := co42) ?_).2.2; exact (zr (Kd.R_mono (Kd.R_far (p := ⟨gb223, 1, none⟩) (Kd.R_far (p := ⟨gb223, 0, none⟩) (Kd.R_types HO222.out BK223.out (by decide)) (fun _ hk => hk.2) (.int .i64 t219)) (fun _ hk => hk.2) (.slice Ao42 t220.length co42)) (fun _ h_ => h_.1)))); (case side4 => exact (Kd.R_reads' HO222.out).2.1); rintro e w44 ⟨rfl, hb⟩; refine ⟨_, rfl, ?_⟩; replace HO210 := zm (Kd.R_below (zr (Kd.R_mono (Kd.R_far (p := ⟨gb223, 1, none⟩) (Kd.R_far (p := ⟨gb223, 0, none⟩) (Kd.R_types HO210.out BK223.out (by decide)) (fun _ hk => hk.2) (.int .i64 t219)) (fun _ hk => hk.2) (.slice Ao42 t220.length co42)) (fun _ h_ => h_.1))) hb); replace HO214 := zm (Kd.R_below (zr (Kd.R_mono (Kd.R_far (p := ⟨gb223, 1, none⟩) (Kd.R_far (p := ⟨gb223, 0, none⟩) (Kd.R_types HO214.out BK223.out (by decide)) (fun _ hk => hk.2) (.int .i64 t219)) (fun _ hk => hk.2) (.slice Ao42 t220.length co42)) (fun _ h_ => h_.1))) hb); replace HO218 := zm (Kd.R_below (zr (Kd.R_mono (Kd.R_far (p := ⟨gb223, 1, none⟩) (Kd.R_far (p := ⟨gb223, 0, none⟩) (Kd.R_types HO218.out BK223.out (by decide)) (fun _ hk => hk.2) (.int .i64 t219)) (fun _ hk => hk.2) (.slice Ao42 t220.length co42)) (fun _ h_ => h_.1))) hb); replace HO222 := zm (Kd.R_below (zr (Kd.R_mono (Kd.R_far (p := ⟨gb223, 1, none⟩) (Kd.R_far (p := ⟨gb223, 0, none⟩) (Kd.R_types HO222.out BK223.out (by decide)) (fun _ hk => hk.2) (.int .i64 t219)) (fun _ hk => hk.2) (.slice Ao42 t220.length co42)) (fun _ h_ => h_.1))) hb); replace BK205 := zm (blk_below (g := gb205) (o := .cells #[.int .i64 a1_0, .slice A1_1 l1_1.length c1_1] 57 (0, 0)) (by (with_reducible repeat (first | refine blk_drewN ?_ _ | refine blk_drew ?_ | refine blk_alloc ?_ _)); refine blk_far ?_ NB205_223.out _; (with_reducible repeat (first | refine blk_drewN ?_ _ | refine blk_drew ?_ | refine blk_alloc ?_ _)); refine blk_far ?_ NB205_223.out _; (with_reducible repeat (first | refine blk_drewN ?_ _ | refine blk_drew ?_ | refine blk_alloc ?_ _)); exact BK205.out) hb); replace BK223 := zm (blk_below (g := gb223) (o := .cells #[.int .i64 t219, .slice Ao42 t220.length co42] 60 (0, 0)) (by (with_reducible repeat (first | refine blk_drewN ?_ _ | refine blk_drew ?_ | refine blk_alloc ?_ _)); refine blk_put (cs := #[.int .i64 t219, .slice none 0 0]) ?_ 1 _ rfl; (with_reducible repeat (first | refine blk_drewN ?_ _ | refine blk_drew ?_ | refine blk_alloc ?_ _)); refine blk_put (cs := #[.int .i64 0, .slice none 0 0]) ?_ 0 _ rfl; (with_reducible repeat (first | refine blk_drewN ?_ _ | refine blk_drew ?_ | refine blk_alloc ?_ _)); exact BK223.out) hb); replace HB := zm (below_step zl hb); (try clear hb); (try clear hb2); (try clear hk); (try clear hi)) | ((with_reducible refine gate_callee (f := 38) rfl ?_); refine zg (some 37) Tryd.func38 #[.slice A0 l0.length c0] ?_; (with_reducible refine (laws_toRelationS.calls k _ _ l0 t225 _ ?side1 ?side2 A20.out).mono ?_); (case side1 => exact zc HR0.out); (case side2 => exact HC0.out); rintro e w45 ⟨v226, rfl, ho0, hb⟩; refine ⟨_, rfl, ?_⟩; replace HO214 := zm (Kd.R_below (zr HO214.out) hb); replace HO222 := zm (Kd.R_below (zr HO222.out) hb); have HO227 := zm (Kd.R_lower (Kd.R_new' (Kd.R_new' ho0 (Kd.R_lt (zr HO210.out))) (Kd.R_lt (zr HO218.out))) (below_size zl)); replace HO210 := zm (Kd.R_elder' (zr HO210.out) (Kd.R_base ho0) hb); replace HO218 := zm (Kd.R_elder' (zr HO218.out) (Kd.R_base ho0) hb); replace BK205 := zm (blk_below (zb BK205.out) hb); replace BK223 := zm (blk_below (zb BK223.out) hb); replace HB := zm (below_step zl hb); (try clear hb); (try clear hb2); (try clear hk); (try clear hi); (try clear ho0); obtain ⟨Ao46, co46, eo46⟩ := Kd.R_slice HO227.out; subst eo46) | ((with_reducible refine gate_callee (f := 40) rfl ?_); refine zg (some 38) Tryd.func40 #[.slice Ao43 t216.length co43, .slice Ao46 t225.length co46] ?_; (with_reducible refine (laws_eqRelationS.calls k _ _ t216 _ _ t225 true _ ?side1 ?side2 ?side3 ?side4 A21.out).mono ?_); (case side1 => repeat (first | exact (Kd.R_reads' HO218.out).2.2 | (with_reducible refine Kd.C_alloc ?_ _) | (with_reducible refine Kd.C_drewN ?_ _) | (with_reducible refine Kd.C_drew ?_))); (case side2 => exact (Kd.R_reads' HO218.out).2.1); (case side3 => repeat (first | exact (Kd.R_reads' HO227.out).2.2 | (with_reducible refine Kd.C_alloc ?_ _) | (with_reducible refine Kd.C_drewN ?_ _) | (with_reducible refine Kd.C_drew ?_))); (case side4 => exact (Kd.R_reads' HO227.out).2.1); rintro e w47 ⟨rfl, hb⟩; refine ⟨_, rfl, ?_⟩; replace HO210 := zm (Kd.R_below (zr HO210.out) hb); replace HO214 := zm (Kd.R_below (zr HO214.out) hb); replace HO218 := zm (Kd.R_below (zr HO218.out) hb); replace HO222 := zm (Kd.R_below (zr HO222.out) hb); replace HO227 := zm (Kd.R_below (zr HO227.out) hb); replace BK205 := zm (blk_below (zb BK205.out) hb); replace BK223 := zm (blk_below (zb BK223.out) hb); replace HB := zm (below_step zl hb); (try clear hb); (try clear hb2); (try clear hk); (try clear hi)))
            replace HO210 := zm (Kd.R_drew HO210.out)
            replace HO214 := zm (Kd.R_drew HO214.out)
            replace HO218 := zm (Kd.R_drew HO218.out)
            replace HO222 := zm (Kd.R_drew HO222.out)
            replace HO227 := zm (Kd.R_drew HO227.out)
            replace BK205 := zm (blk_drew BK205.out)
            replace BK223 := zm (blk_drew BK223.out)
            replace HB := zm (below_drew1 HB.out)
            refine start_ (n := 5) (S := fun w' => w'.cell? ⟨gb223, 0, none⟩ = some (.int .i64 t219) ∧ w'.cell? ⟨gb223, 1, none⟩ = some (.slice Ao42 t220.length co42) ∧ w'.cell? ⟨gb205, 0, none⟩ = some (.int .i64 a1_0) ∧ w'.cell? ⟨gb205, 1, none⟩ = some (.slice A1_1 l1_1.length c1_1)) (ds := []) #[false, false, false, false, false] (by kernel_rfl) rfl rfl ⟨(blk_cell BK223.out 0).trans rfl, (blk_cell BK223.out 1).trans rfl, (blk_cell BK205.out 0).trans rfl, (blk_cell BK205.out 1).trans rfl⟩ (fun hHeld => ?_)
            generalize w47.drew = w48 at HO210 HO214 HO218 HO222 HO227 BK205 BK223 HB hHeld ⊢
            refine take_ (i := 0) (N := some 40) (v := ?_) (a' := ?_) #[true, false, false, false, false] rfl rfl (by kernel_rfl) (fun _ _ _ h => h) (Or.inl ⟨by rfl, ?_⟩) hHeld ?_ ?_
            rotate_left
            · rintro w' ⟨s0, s1, s2, s3⟩
              go_simp
              with_reducible rfl
            rotate_left
            · simp only [Act.put, List.setIfInBounds_toArray, List.set_cons_zero, List.set_cons_succ, i64_w, i32_w]
              rfl
            refine take_ (i := 1) (N := some 41) (v := ?_) (a' := ?_) #[true, true, false, false, false] rfl rfl (by kernel_rfl) (fun _ _ _ h => h) (Or.inl ⟨by rfl, ?_⟩) hHeld ?_ ?_
            rotate_left
            · rintro w' ⟨s0, s1, s2, s3⟩
              go_simp
              with_reducible rfl
            rotate_left
            · simp only [Act.put, List.setIfInBounds_toArray, List.set_cons_zero, List.set_cons_succ, i64_w, i32_w]
              rfl
            refine one_ (i := 2) (N := some 42) #[true, true, true, false, false] rfl rfl (by kernel_rfl) (by decide) (fun K hK => ?_)
            refine goes_ Tryd.func48 (by kernel_rfl) rfl #[.agg #[.int .i64 a1_0, .slice A1_1 l1_1.length c1_1]] (by rfl) rfl rfl (by (try simp only [List.map_toArray, List.map_cons, List.map_nil]); first | done | rfl | (simp only [List.length_drop, List.length_take]; rfl)) ?_
            with_reducible refine (laws_toFact.calls k a1_0 _ _ l1_1 t229 t230 _ ?side1 ?side2 A23.out).mono ?_
            (case side1 => exact zc HR1_1.out)
            (case side2 => exact HC1_1.out)
            rintro e w49 ⟨v231, rfl, ho0, hb⟩
            refine ⟨_, rfl, ?_⟩
            replace HO210 := zm (Kd.R_below (zr HO210.out) hb)
            replace HO218 := zm (Kd.R_below (zr HO218.out) hb)
            replace HO227 := zm (Kd.R_below (zr HO227.out) hb)
            have HO232 := zm (Kd.R_lower (Kd.R_new' (Kd.R_new' ho0 (Kd.R_lt (zr HO214.out))) (Kd.R_lt (zr HO222.out))) (below_size zl))
            replace HO214 := zm (Kd.R_elder' (zr HO214.out) (Kd.R_base ho0) hb)
            replace HO222 := zm (Kd.R_elder' (zr HO222.out) (Kd.R_base ho0) hb)
            replace BK205 := zm (blk_below (zb BK205.out) hb)
            replace BK223 := zm (blk_below (zb BK223.out) hb)
            replace HB := zm (below_step zl hb)
            (try clear hb)
            (try clear hb2)
            (try clear hk)
            (try clear hi)
            (try clear ho0)
            obtain ⟨Ao50, co50, eo50⟩ := Kd.R_slice HO232.out
            (first | subst eo50 | (injection eo50 with f1_ f2_ f3_; have f4_ := f1_.symm; have f5_ := f3_.symm; clear f1_ f2_ f3_; subst f4_; subst f5_))
            refine hK.out _ _ ⟨(blk_cell BK223.out 0).trans rfl, (blk_cell BK223.out 1).trans rfl, (blk_cell BK205.out 0).trans rfl, (blk_cell BK205.out 1).trans rfl⟩ (fun hHeld => ?_)
            clear hK K
            refine norm_ (a' := ?_) ?_ ?_
            rotate_left
            · show Act.put _ (some 42) _ = _
              simp only [Act.put, List.setIfInBounds_toArray, List.set_cons_zero, List.set_cons_succ, i64_w, i32_w]
              rfl
            refine one_ (i := 3) (N := some 43) #[true, true, true, true, false] rfl rfl (by kernel_rfl) (by decide) (fun K hK => ?_)
            refine goes_ Tryd.func50 (by kernel_rfl) rfl #[.agg #[.int .i64 t219, .slice Ao42 t220.length co42], .agg #[.int .i64 t229, .slice Ao50 t230.length co50]] (by rfl) rfl rfl (by (try simp only [List.map_toArray, List.map_cons, List.map_nil]); first | done | rfl | (simp only [List.length_drop, List.length_take]; rfl)) ?_
            with_reducible refine (laws_eqFact.calls k t219 _ _ t220 t229 _ _ t230 true _ ?side1 ?side2 ?side3 ?side4 A24.out).mono ?_
            (case side1 => repeat (first | exact (Kd.R_reads' HO222.out).2.2 | (with_reducible refine Kd.C_alloc ?_ _) | (with_reducible refine Kd.C_drewN ?_ _) | (with_reducible refine Kd.C_drew ?_)))
            (case side2 => exact (Kd.R_reads' HO222.out).2.1)
            (case side3 => repeat (first | exact (Kd.R_reads' HO232.out).2.2 | (with_reducible refine Kd.C_alloc ?_ _) | (with_reducible refine Kd.C_drewN ?_ _) | (with_reducible refine Kd.C_drew ?_)))
            (case side4 => exact (Kd.R_reads' HO232.out).2.1)
            rintro e w51 ⟨rfl, hb⟩
            refine ⟨_, rfl, ?_⟩
            replace HO210 := zm (Kd.R_below (zr HO210.out) hb)
            replace HO214 := zm (Kd.R_below (zr HO214.out) hb)
            replace HO218 := zm (Kd.R_below (zr HO218.out) hb)
            replace HO222 := zm (Kd.R_below (zr HO222.out) hb)
            replace HO227 := zm (Kd.R_below (zr HO227.out) hb)
            replace HO232 := zm (Kd.R_below (zr HO232.out) hb)
            replace BK205 := zm (blk_below (zb BK205.out) hb)
            replace BK223 := zm (blk_below (zb BK223.out) hb)
            replace HB := zm (below_step zl hb)
            (try clear hb)
            (try clear hb2)
            (try clear hk)
            (try clear hi)
            refine hK.out _ _ ⟨(blk_cell BK223.out 0).trans rfl, (blk_cell BK223.out 1).trans rfl, (blk_cell BK205.out 0).trans rfl, (blk_cell BK205.out 1).trans rfl⟩ (fun hHeld => ?_)
            clear hK K
            refine norm_ (a' := ?_) ?_ ?_
            rotate_left
            · show Act.put _ (some 43) _ = _
              simp only [Act.put, List.setIfInBounds_toArray, List.set_cons_zero, List.set_cons_succ, i64_w, i32_w]
              rfl
            refine pure_ (i := 4) (N := some 44) (v := ?_) (a' := ?_) #[true, true, true, true, true] rfl rfl (by kernel_rfl) (fun _ _ _ h => h) (Or.inl ⟨by rfl, ?_⟩) ?_ ?_
            rotate_left
            · intro w'
              go_simp
              with_reducible rfl
            rotate_left
            · simp only [Act.put, List.setIfInBounds_toArray, List.set_cons_zero, List.set_cons_succ, i64_w, i32_w]
              rfl
            refine done_ (by kernel_rfl) ?_
            try go_wp2
            go_ret
            exact ⟨by first | rfl | (simp [errW_none, errW_some] <;> rfl) | (simp [*, errW_none, errW_some] <;> rfl), by repeat (first | (with_reducible first | exact HB.out | apply below_alloc | apply pw_below_drewN | apply below_drew1 | refine below_set ?_ GE205.out | refine below_set ?_ GE223.out) | exact HB.out)⟩
          · replace c25 := Bool.eq_false_iff.mpr c25
            subst c25
            have H1 : (some false) = some true := by first | with_reducible rfl | (rw [if_neg (show ¬ (false = true) by decide)] at H; exact H)
            clear H
            have H := H1
            clear H1
            exact absurd H (by simp)
        · replace c22 := Bool.eq_false_iff.mpr c22
          subst c22
          have H1 : (some false) = some true := by first | with_reducible rfl | (rw [if_neg (show ¬ (false = true) by decide)] at H; exact H)
          clear H
          have H := H1
          clear H1
          exact absurd H (by simp)
      · rw [if_neg c19] at H
        have c19b0 : (t224.toList == t215.toList) = false := beq_eq_false_iff_ne.mpr c19
        have c19b1 : (t224.toList != t215.toList) = true := bne_iff_ne.mpr c19
        exact absurd H (by simp)

end Go.Proofs.YtjphbdnfbkfgiaaDoor.PFnExactFormatFact
