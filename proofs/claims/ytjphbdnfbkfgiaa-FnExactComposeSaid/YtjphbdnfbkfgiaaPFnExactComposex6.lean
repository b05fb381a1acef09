-- Written by a program of this session: the kit's printer, turned by wip/mkprint.py.
import Derived.Test.YtjphbdnfbkfgiaaPFnExactComposex0
import Derived.Test.YtjphbdnfbkfgiaaPFnExactComposex5
namespace Go.Proofs.Ytjphbdnfbkfgiaa.PFnExactCompose
open Go.RowKit Go.Proofs.YtjphbdnfbkfgiaaW.PrintWords Go.Proofs.YtjphbdnfbkfgiaaW.PrintLast Go.Proofs.YtjphbdnfbkfgiaaW.PrintMore
attribute [local go_sem] max2_int min2_int max_two min_two max_three min_three max_four min_four   -- for this text's walks alone
set_option linter.unusedVariables false
set_option linter.unusedSimpArgs false

/-! ### impl_ApplyToValue: function 58 -/
def impl_ApplyToValue.f (k : Nat) (l0_0 : List Int) (l0_1 : List Int) (a1 : Int) : Option (Int) := (impl_NullNumber.f a1).bind fun bt174 => ((slices_Index_int_int.f k l0_0 bt174.1).bind fun t176 => (if bt174.2 = true then (if t176 < 0 then (some a1) else ((impl_IsValidSubstitution.f k l0_0 l0_1).bind fun t177 => (if t177 = true then (if 0 ≤ t176 then (if t176 < (l0_1.length : Int) then (some (rd l0_1 t176)) else (none)) else (none)) else (some a1)))) else (some a1)))
theorem impl_ApplyToValue.mono : ∀ a0 a1 a2 k, LeO (impl_ApplyToValue.f k a0 a1 a2) (impl_ApplyToValue.f (k + 1) a0 a1 a2) := by
 intro a0 a1 a2 k
 unfold impl_ApplyToValue.f
 repeat' first
   | (with_reducible exact impl_IsValidSubstitution.mono _ _ _)
   | (with_reducible exact slices_Index_int_int.mono _ _ _)
   | (with_reducible exact LeO.refl _)
   | (with_reducible exact LeO.none _)
   | (with_reducible refine LeO.ite ?_ ?_)
   | (with_reducible refine LeO.bind ?_ (fun _ => ?_))
   | exact impl_IsValidSubstitution.mono _ _ _
   | exact slices_Index_int_int.mono _ _ _
   | exact LeO.none _
   | refine LeO.ite ?_ ?_
   | refine LeO.bind ?_ (fun _ => ?_)
set_option maxHeartbeats 8000000 in
set_option maxRecDepth 100000 in
theorem impl_ApplyToValue.calls (k : Nat) (A0_0 : Option Addr) (c0_0 : Nat) (l0_0 : List Int) (A0_1 : Option Addr) (c0_1 : Nat) (l0_1 : List Int) (a1 : Int) (r : Int) (w : World) (hr0_0 : Kd.C (Kd.int .i64) w A0_0 l0_0.length l0_0) (hc0_0 : l0_0.length ≤ c0_0) (hr0_1 : Kd.C (Kd.int .i64) w A0_1 l0_1.length l0_1) (hc0_1 : l0_1.length ≤ c0_1) (h : impl_ApplyToValue.f k l0_0 l0_1 a1 = some r) :
  Calls Try.prog 58 #[.agg #[.slice A0_0 l0_0.length c0_0, .slice A0_1 l0_1.length c0_1], .int .i64 a1] w fun e w' => e = .returned (.int .i64 r) ∧ Below w.heap.size w w' := by
 have hu49 := Try.underlying49
 have HR0_0 := Aside0.mk hr0_0
 have HC0_0 := Aside0.mk hc0_0
 clear hr0_0 hc0_0
 have HR0_1 := Aside0.mk hr0_1
 have HC0_1 := Aside0.mk hc0_1
 clear hr0_1 hc0_1
 have HB := Aside0.mk (Below.refl w.heap.size w)
 have H : ((impl_NullNumber.f a1).bind fun bt174 => ((slices_Index_int_int.f k l0_0 bt174.1).bind fun t176 => (if bt174.2 = true then (if t176 < 0 then (some a1) else ((impl_IsValidSubstitution.f k l0_0 l0_1).bind fun t177 => (if t177 = true then (if 0 ≤ t176 then (if t176 < (l0_1.length : Int) then (some (rd l0_1 t176)) else (none)) else (none)) else (some a1)))) else (some a1)))) = some r := h
 clear h
 replace H := Option.bind_eq_some_iff.mp H
 obtain ⟨⟨t174, t175⟩, A30, H⟩ := H
 replace H : ((slices_Index_int_int.f k l0_0 t174).bind fun t176 => (if t175 = true then (if t176 < 0 then (some a1) else ((impl_IsValidSubstitution.f k l0_0 l0_1).bind fun t177 => (if t177 = true then (if 0 ≤ t176 then (if t176 < (l0_1.length : Int) then (some (rd l0_1 t176)) else (none)) else (none)) else (some a1)))) else (some a1))) = some r := H
 have A3 := Aside0.mk A30
 clear A30
 replace H := Option.bind_eq_some_iff.mp H
 obtain ⟨t176, A40, H⟩ := H
 replace H : (if t175 = true then (if t176 < 0 then (some a1) else ((impl_IsValidSubstitution.f k l0_0 l0_1).bind fun t177 => (if t177 = true then (if 0 ≤ t176 then (if t176 < (l0_1.length : Int) then (some (rd l0_1 t176)) else (none)) else (none)) else (some a1)))) else (some a1)) = some r := H
 have A4 := Aside0.mk A40
 clear A40
 by_cases c5 : t175 = true
 ·subst c5
  have H1 : (if t176 < 0 then (some a1) else ((impl_IsValidSubstitution.f k l0_0 l0_1).bind fun t177 => (if t177 = true then (if 0 ≤ t176 then (if t176 < (l0_1.length : Int) then (some (rd l0_1 t176)) else (none)) else (none)) else (some a1)))) = some r := by first | with_reducible rfl | (rw [if_pos rfl] at H; exact H)
  clear H
  have H := H1
  clear H1
  by_cases c6 : t176 < 0
  ·rw [if_pos c6] at H
   have c6b0 : decide (t176 < 0) = true := decide_eq_true c6
   clear c6
   obtain rfl := Option.some.inj H
   go_enter Try.func58, Try.ntmps58
   go_wp2_with (first | ((with_reducible refine gate_dst (N := 2) rfl ?_); refine box_event ?hg (N := 2) ?hd (cs := #[.slice A0_0 l0_0.length c0_0, .slice A0_1 l0_1.length c0_1]) (t := 49) ?hr ?_; (case hd => rfl); (case hg => rfl); (case hr => first | (go_simp; done) | (go_simp; rfl)); intro gb173 hg w7 hbox hb; have BK173 := zm (hbox); have GW173 := zm ((by rw [hg]; exact (below_size zl) : w.heap.size ≤ gb173)); have GE173 := GW173; replace HB := zm (below_step zl hb); clear hb hbox hg) | ((with_reducible refine gate_callee (f := 68) rfl ?_); refine zg (some 10) Try.func68 #[.int .i64 a1] ?_; (with_reducible refine (impl_NullNumber.calls a1 t174 true _ A3.out).mono ?_); rintro e w' ⟨rfl, ⟨nd, rfl⟩⟩; refine ⟨_, rfl, ?_⟩; have hcz8_0 : w7.cell? ⟨gb173, 0, none⟩ = some (.slice A0_0 l0_0.length c0_0) := zcl BK173.out 0; have hcz8_1 : w7.cell? ⟨gb173, 1, none⟩ = some (.slice A0_1 l0_1.length c0_1) := zcl BK173.out 1; have hfz8_0 := blk_frozen BK173.out 0; have hfz8_1 := blk_frozen BK173.out 1) | ((with_reducible refine gate_callee (f := 75) rfl ?_); refine zg (some 16) Try.func75 #[.slice A0_0 l0_0.length c0_0, .int .i64 t174] ?_; (with_reducible refine (slices_Index_int_int.calls k _ _ l0_0 t174 t176 _ ?side1 ?side2 A4.out).mono ?_); (case side1 => repeat (first | exact (Kd.C_below HR0_0.out zl) | (with_reducible refine Kd.C_alloc ?_ _) | (with_reducible refine Kd.C_drewN ?_ _) | (with_reducible refine Kd.C_drew ?_))); (case side2 => exact HC0_0.out); rintro e w' ⟨rfl, ⟨nd, rfl⟩⟩; refine ⟨_, rfl, ?_⟩))
   go_ret
   exact ⟨by first | rfl | (simp [errW_none, errW_some] <;> rfl) | (simp [*, errW_none, errW_some] <;> rfl), zl⟩
  ·rw [if_neg c6] at H
   have c6b0 : decide (t176 < 0) = false := decide_eq_false c6
   clear c6
   replace H := Option.bind_eq_some_iff.mp H
   obtain ⟨t177, A90, H⟩ := H
   replace H : (if t177 = true then (if 0 ≤ t176 then (if t176 < (l0_1.length : Int) then (some (rd l0_1 t176)) else (none)) else (none)) else (some a1)) = some r := H
   have A9 := Aside0.mk A90
   clear A90
   by_cases c10 : t177 = true
   ·subst c10
    have H1 : (if 0 ≤ t176 then (if t176 < (l0_1.length : Int) then (some (rd l0_1 t176)) else (none)) else (none)) = some r := by first | with_reducible rfl | (rw [if_pos rfl] at H; exact H)
    clear H
    have H := H1
    clear H1
    by_cases c11 : 0 ≤ t176
    ·rw [if_pos c11] at H
     have c11b0 : decide (0 ≤ t176) = true := decide_eq_true c11
     clear c11
     by_cases c12 : t176 < (l0_1.length : Int)
     ·rw [if_pos c12] at H
      have c12b0 : decide (t176 < (l0_1.length : Int)) = true := decide_eq_true c12
      clear c12
      obtain rfl := Option.some.inj H
      go_enter Try.func58, Try.ntmps58
      go_wp2_with (first | ((with_reducible refine gate_dst (N := 2) rfl ?_); refine box_event ?hg (N := 2) ?hd (cs := #[.slice A0_0 l0_0.length c0_0, .slice A0_1 l0_1.length c0_1]) (t := 49) ?hr ?_; (case hd => rfl); (case hg => rfl); (case hr => first | (go_simp; done) | (go_simp; rfl)); intro gb173 hg w13 hbox hb; have BK173 := zm (hbox); have GW173 := zm ((by rw [hg]; exact (below_size zl) : w.heap.size ≤ gb173)); have GE173 := GW173; replace HB := zm (below_step zl hb); clear hb hbox hg) | ((with_reducible refine gate_callee (f := 68) rfl ?_); refine zg (some 10) Try.func68 #[.int .i64 a1] ?_; (with_reducible refine (impl_NullNumber.calls a1 t174 true _ A3.out).mono ?_); rintro e w' ⟨rfl, ⟨nd, rfl⟩⟩; refine ⟨_, rfl, ?_⟩; have hcz14_0 : w13.cell? ⟨gb173, 0, none⟩ = some (.slice A0_0 l0_0.length c0_0) := zcl BK173.out 0; have hcz14_1 : w13.cell? ⟨gb173, 1, none⟩ = some (.slice A0_1 l0_1.length c0_1) := zcl BK173.out 1; have hfz14_0 := blk_frozen BK173.out 0; have hfz14_1 := blk_frozen BK173.out 1) | ((with_reducible refine gate_callee (f := 75) rfl ?_); refine zg (some 16) Try.func75 #[.slice A0_0 l0_0.length c0_0, .int .i64 t174] ?_; (with_reducible refine (slices_Index_int_int.calls k _ _ l0_0 t174 t176 _ ?side1 ?side2 A4.out).mono ?_); (case side1 => repeat (first | exact (Kd.C_below HR0_0.out zl) | (with_reducible refine Kd.C_alloc ?_ _) | (with_reducible refine Kd.C_drewN ?_ _) | (with_reducible refine Kd.C_drew ?_))); (case side2 => exact HC0_0.out); rintro e w' ⟨rfl, ⟨nd, rfl⟩⟩; refine ⟨_, rfl, ?_⟩) | (go_at_call 54; (with_reducible refine (impl_IsValidSubstitution.calls k _ _ l0_0 _ _ l0_1 true _ ?side1 ?side2 ?side3 ?side4 A9.out).mono ?_); (case side1 => repeat (first | exact (Kd.C_below HR0_0.out zl) | (with_reducible refine Kd.C_alloc ?_ _) | (with_reducible refine Kd.C_drewN ?_ _) | (with_reducible refine Kd.C_drew ?_))); (case side2 => exact HC0_0.out); (case side3 => repeat (first | exact (Kd.C_below HR0_1.out zl) | (with_reducible refine Kd.C_alloc ?_ _) | (with_reducible refine Kd.C_drewN ?_ _) | (with_reducible refine Kd.C_drew ?_))); (case side4 => exact HC0_1.out); rintro e w15 ⟨rfl, hb⟩; have n0_ := Aside0.mk (blk_below (zb BK173.out) hb); have n1_ := Aside0.mk (below_step zl hb); clear BK173; clear HB; have BK173 := n0_; have HB := n1_; clear n0_ n1_; (try clear hb); have hcz16_0 : w15.cell? ⟨gb173, 0, none⟩ = some (.slice A0_0 l0_0.length c0_0) := zcl BK173.out 0; have hcz16_1 : w15.cell? ⟨gb173, 1, none⟩ = some (.slice A0_1 l0_1.length c0_1) := zcl BK173.out 1; have hfz16_0 := blk_frozen BK173.out 0; have hfz16_1 := blk_frozen BK173.out 1; have p178 : 0 ≤ (t176 : Int) := zd; have q178 : t176 < (l0_1.length : Int) := zd; obtain ⟨ad178, e178, hx178_0⟩ := Kd.at_int HR0_1.out t176 p178 q178; cases e178; replace hx178_0 := (HB.out.cell (World.block_lt_of_cell? w _ hx178_0)).trans hx178_0; replace p178 := eq_true p178; replace q178 := eq_true q178))
      go_ret
      exact ⟨by first | rfl | (simp [errW_none, errW_some] <;> rfl) | (simp [*, errW_none, errW_some] <;> rfl), zl⟩
     ·rw [if_neg c12] at H
      exact absurd H (by simp)
    ·rw [if_neg c11] at H
     exact absurd H (by simp)
   ·replace c10 := Bool.eq_false_iff.mpr c10
    subst c10
    have H1 : (some a1) = some r := by first | with_reducible rfl | (rw [if_neg (show ¬ (false = true) by decide)] at H; exact H)
    clear H
    have H := H1
    clear H1
    obtain rfl := Option.some.inj H
    go_enter Try.func58, Try.ntmps58
    go_wp2_with (first | ((with_reducible refine gate_dst (N := 2) rfl ?_); refine box_event ?hg (N := 2) ?hd (cs := #[.slice A0_0 l0_0.length c0_0, .slice A0_1 l0_1.length c0_1]) (t := 49) ?hr ?_; (case hd => rfl); (case hg => rfl); (case hr => first | (go_simp; done) | (go_simp; rfl)); intro gb173 hg w17 hbox hb; have BK173 := zm (hbox); have GW173 := zm ((by rw [hg]; exact (below_size zl) : w.heap.size ≤ gb173)); have GE173 := GW173; replace HB := zm (below_step zl hb); clear hb hbox hg) | ((with_reducible refine gate_callee (f := 68) rfl ?_); refine zg (some 10) Try.func68 #[.int .i64 a1] ?_; (with_reducible refine (impl_NullNumber.calls a1 t174 true _ A3.out).mono ?_); rintro e w' ⟨rfl, ⟨nd, rfl⟩⟩; refine ⟨_, rfl, ?_⟩; have hcz18_0 : w17.cell? ⟨gb173, 0, none⟩ = some (.slice A0_0 l0_0.length c0_0) := zcl BK173.out 0; have hcz18_1 : w17.cell? ⟨gb173, 1, none⟩ = some (.slice A0_1 l0_1.length c0_1) := zcl BK173.out 1; have hfz18_0 := blk_frozen BK173.out 0; have hfz18_1 := blk_frozen BK173.out 1) | ((with_reducible refine gate_callee (f := 75) rfl ?_); refine zg (some 16) Try.func75 #[.slice A0_0 l0_0.length c0_0, .int .i64 t174] ?_; (with_reducible refine (slices_Index_int_int.calls k _ _ l0_0 t174 t176 _ ?side1 ?side2 A4.out).mono ?_); (case side1 => repeat (first | exact (Kd.C_below HR0_0.out zl) | (with_reducible refine Kd.C_alloc ?_ _) | (with_reducible refine Kd.C_drewN ?_ _) | (with_reducible refine Kd.C_drew ?_))); (case side2 => exact HC0_0.out); rintro e w' ⟨rfl, ⟨nd, rfl⟩⟩; refine ⟨_, rfl, ?_⟩) | (go_at_call 54; (with_reducible refine (impl_IsValidSubstitution.calls k _ _ l0_0 _ _ l0_1 false _ ?side1 ?side2 ?side3 ?side4 A9.out).mono ?_); (case side1 => repeat (first | exact (Kd.C_below HR0_0.out zl) | (with_reducible refine Kd.C_alloc ?_ _) | (with_reducible refine Kd.C_drewN ?_ _) | (with_reducible refine Kd.C_drew ?_))); (case side2 => exact HC0_0.out); (case side3 => repeat (first | exact (Kd.C_below HR0_1.out zl) | (with_reducible refine Kd.C_alloc ?_ _) | (with_reducible refine Kd.C_drewN ?_ _) | (with_reducible refine Kd.C_drew ?_))); (case side4 => exact HC0_1.out); rintro e w19 ⟨rfl, hb⟩; have n0_ := Aside0.mk (blk_below (zb BK173.out) hb); have n1_ := Aside0.mk (below_step zl hb); clear BK173; clear HB; have BK173 := n0_; have HB := n1_; clear n0_ n1_; (try clear hb)))
    go_ret
    exact ⟨by first | rfl | (simp [errW_none, errW_some] <;> rfl) | (simp [*, errW_none, errW_some] <;> rfl), zl⟩
 ·replace c5 := Bool.eq_false_iff.mpr c5
  subst c5
  have H1 : (some a1) = some r := by first | with_reducible rfl | (rw [if_neg (show ¬ (false = true) by decide)] at H; exact H)
  clear H
  have H := H1
  clear H1
  obtain rfl := Option.some.inj H
  go_enter Try.func58, Try.ntmps58
  go_wp2_with (first | ((with_reducible refine gate_dst (N := 2) rfl ?_); refine box_event ?hg (N := 2) ?hd (cs := #[.slice A0_0 l0_0.length c0_0, .slice A0_1 l0_1.length c0_1]) (t := 49) ?hr ?_; (case hd => rfl); (case hg => rfl); (case hr => first | (go_simp; done) | (go_simp; rfl)); intro gb173 hg w20 hbox hb; have BK173 := zm (hbox); have GW173 := zm ((by rw [hg]; exact (below_size zl) : w.heap.size ≤ gb173)); have GE173 := GW173; replace HB := zm (below_step zl hb); clear hb hbox hg) | ((with_reducible refine gate_callee (f := 68) rfl ?_); refine zg (some 10) Try.func68 #[.int .i64 a1] ?_; (with_reducible refine (impl_NullNumber.calls a1 t174 false _ A3.out).mono ?_); rintro e w' ⟨rfl, ⟨nd, rfl⟩⟩; refine ⟨_, rfl, ?_⟩; have hcz21_0 : w20.cell? ⟨gb173, 0, none⟩ = some (.slice A0_0 l0_0.length c0_0) := zcl BK173.out 0; have hcz21_1 : w20.cell? ⟨gb173, 1, none⟩ = some (.slice A0_1 l0_1.length c0_1) := zcl BK173.out 1; have hfz21_0 := blk_frozen BK173.out 0; have hfz21_1 := blk_frozen BK173.out 1) | ((with_reducible refine gate_callee (f := 75) rfl ?_); refine zg (some 16) Try.func75 #[.slice A0_0 l0_0.length c0_0, .int .i64 t174] ?_; (with_reducible refine (slices_Index_int_int.calls k _ _ l0_0 t174 t176 _ ?side1 ?side2 A4.out).mono ?_); (case side1 => repeat (first | exact (Kd.C_below HR0_0.out zl) | (with_reducible refine Kd.C_alloc ?_ _) | (with_reducible refine Kd.C_drewN ?_ _) | (with_reducible refine Kd.C_drew ?_))); (case side2 => exact HC0_0.out); rintro e w' ⟨rfl, ⟨nd, rfl⟩⟩; refine ⟨_, rfl, ?_⟩))
  go_ret
  exact ⟨by first | rfl | (simp [errW_none, errW_some] <;> rfl) | (simp [*, errW_none, errW_some] <;> rfl), zl⟩

/-! ### impl_Compose: function 26 -/
mutual
def impl_Compose.j0 : Nat → Bool → List Int → List Int → List Int → List Int → Option (List Int × List Int × Bool)
 | 0, _, _, _, _, _ => none
 | k + 1, x16, x180000, x180001, x181000, x181001 => if x16 = true then (some (([] : List Int), ([] : List Int), false)) else ((slices_Concat_int_int.f k (([x180000, x181000] : List (List Int)))).bind fun t187 => ((slices_Sort_int_int.f t187).bind fun t191 => ((slices_Compact_int_int.f t191).bind fun t192 => (impl_Compose.l0 k t192 (t192.length : Int) 0 x180000 x180001 x181000 x181001 t192 ([] : List Int)))))
def impl_Compose.l0 : Nat → List Int → Int → Int → List Int → List Int → List Int → List Int → List Int → List Int → Option (List Int × List Int × Bool)
 | 0, _, _, _, _, _, _, _, _, _ => none
 | k + 1, x33, x34, x35, x180000, x180001, x181000, x181001, x191000, x191001 => if x35 < x34 then (if 0 ≤ x35 then (if x35 < (x33.length : Int) then ((impl_NullValue.f (rd x33 x35)).bind fun t196 => ((impl_ApplyToValue.f k x180000 x180001 t196).bind fun t197 => ((impl_ApplyToValue.f k x181000 x181001 t197).bind fun t198 => (if x191001.length < 17592186044416 then (impl_Compose.l0 k x33 x34 (wrap64 (x35 + 1)) x180000 x180001 x181000 x181001 x191000 (x191001 ++ [t198])) else (none))))) else (none)) else (none)) else (some (x191000, x191001, true))
end
def impl_Compose.f (k : Nat) (l0_0 : List Int) (l0_1 : List Int) (l1_0 : List Int) (l1_1 : List Int) : Option (List Int × List Int × Bool) := (impl_IsValidSubstitution.f k l0_0 l0_1).bind fun t182 => (if t182 = true then ((impl_IsValidSubstitution.f k l1_0 l1_1).bind fun t183 => (impl_Compose.j0 k (!t183) l0_0 l0_1 l1_0 l1_1)) else (impl_Compose.j0 k true l0_0 l0_1 l1_0 l1_1))
theorem impl_Compose.mono_l : ∀ k, (∀ y0 y1 y2 y3 y4, LeO (impl_Compose.j0 k y0 y1 y2 y3 y4) (impl_Compose.j0 (k + 1) y0 y1 y2 y3 y4)) ∧ (∀ y0 y1 y2 y3 y4 y5 y6 y7 y8, LeO (impl_Compose.l0 k y0 y1 y2 y3 y4 y5 y6 y7 y8) (impl_Compose.l0 (k + 1) y0 y1 y2 y3 y4 y5 y6 y7 y8))
 | 0 => ⟨fun _ _ _ _ _ r h => by simp [impl_Compose.j0] at h, fun _ _ _ _ _ _ _ _ _ r h => by simp [impl_Compose.l0] at h⟩
 | k + 1 => by
  obtain ⟨ih0, ih1⟩ := impl_Compose.mono_l k
  refine ⟨?_, ?_⟩
  ·intro y0 y1 y2 y3 y4
   unfold impl_Compose.j0
   repeat' first
   | (with_reducible exact ih0 _ _ _ _ _)
   | (with_reducible exact ih1 _ _ _ _ _ _ _ _ _)
   | (with_reducible exact impl_ApplyToValue.mono _ _ _ _)
   | (with_reducible exact impl_IsValidSubstitution.mono _ _ _)
   | (with_reducible exact slices_Concat_int_int.mono _ _)
   | (with_reducible exact LeO.refl _)
   | (with_reducible exact LeO.none _)
   | (with_reducible refine LeO.ite ?_ ?_)
   | (with_reducible refine LeO.bind ?_ (fun _ => ?_))
   | exact ih0 _ _ _ _ _
   | exact ih1 _ _ _ _ _ _ _ _ _
   | exact impl_ApplyToValue.mono _ _ _ _
   | exact impl_IsValidSubstitution.mono _ _ _
   | exact slices_Concat_int_int.mono _ _
   | exact LeO.none _
   | refine LeO.ite ?_ ?_
   | refine LeO.bind ?_ (fun _ => ?_)
  ·intro y0 y1 y2 y3 y4 y5 y6 y7 y8
   unfold impl_Compose.l0
   repeat' first
   | (with_reducible exact ih0 _ _ _ _ _)
   | (with_reducible exact ih1 _ _ _ _ _ _ _ _ _)
   | (with_reducible exact impl_ApplyToValue.mono _ _ _ _)
   | (with_reducible exact impl_IsValidSubstitution.mono _ _ _)
   | (with_reducible exact slices_Concat_int_int.mono _ _)
   | (with_reducible exact LeO.refl _)
   | (with_reducible exact LeO.none _)
   | (with_reducible refine LeO.ite ?_ ?_)
   | (with_reducible refine LeO.bind ?_ (fun _ => ?_))
   | exact ih0 _ _ _ _ _
   | exact ih1 _ _ _ _ _ _ _ _ _
   | exact impl_ApplyToValue.mono _ _ _ _
   | exact impl_IsValidSubstitution.mono _ _ _
   | exact slices_Concat_int_int.mono _ _
   | exact LeO.none _
   | refine LeO.ite ?_ ?_
   | refine LeO.bind ?_ (fun _ => ?_)
theorem impl_Compose.mono : ∀ a0 a1 a2 a3 k, LeO (impl_Compose.f k a0 a1 a2 a3) (impl_Compose.f (k + 1) a0 a1 a2 a3) := by
 intro a0 a1 a2 a3 k
 obtain ⟨ih0, ih1⟩ := impl_Compose.mono_l k
 unfold impl_Compose.f
 repeat' first
   | (with_reducible exact ih0 _ _ _ _ _)
   | (with_reducible exact ih1 _ _ _ _ _ _ _ _ _)
   | (with_reducible exact impl_ApplyToValue.mono _ _ _ _)
   | (with_reducible exact impl_IsValidSubstitution.mono _ _ _)
   | (with_reducible exact slices_Concat_int_int.mono _ _)
   | (with_reducible exact LeO.refl _)
   | (with_reducible exact LeO.none _)
   | (with_reducible refine LeO.ite ?_ ?_)
   | (with_reducible refine LeO.bind ?_ (fun _ => ?_))
   | exact ih0 _ _ _ _ _
   | exact ih1 _ _ _ _ _ _ _ _ _
   | exact impl_ApplyToValue.mono _ _ _ _
   | exact impl_IsValidSubstitution.mono _ _ _
   | exact slices_Concat_int_int.mono _ _
   | exact LeO.none _
   | refine LeO.ite ?_ ?_
   | refine LeO.bind ?_ (fun _ => ?_)
def impl_Compose.T9 : Bool × List (List Nat × List Nat) := (true, [([], []), ([0], [0]), ([], []), ([], []), ([], []), ([4], [4]), ([3, 5, 5], [3, 5]), ([2, 6, 6], [2, 6]), ([7], [7]), ([1, 8, 7], [1, 8]), ([0, 1, 2, 3, 4, 5, 6, 7, 8, 9], []), ([10, 9, 9, 0, 1, 2, 3, 4, 5, 6, 7, 8, 9], [9, 10])])
def impl_Compose.B9 : List Nat := [0, 1, 0, 0, 0, 16, 56, 124, 252, 511, 1023, 2047]
theorem impl_Compose.tab9 : rtab .any (opsOf Try.f26 9) = impl_Compose.T9 := by kernel_rfl
theorem impl_Compose.bits9 : waitsOk impl_Compose.T9.2 impl_Compose.B9 = true := by kernel_rfl
set_option maxHeartbeats 8000000 in
set_option maxRecDepth 100000 in
theorem impl_Compose.calls (k : Nat) (P0_0_ : Nat → Prop) (A0_0 : Option Addr) (c0_0 : Nat) (l0_0 : List Int) (A0_1 : Option Addr) (c0_1 : Nat) (l0_1 : List Int) (P1_0_ : Nat → Prop) (A1_0 : Option Addr) (c1_0 : Nat) (l1_0 : List Int) (A1_1 : Option Addr) (c1_1 : Nat) (l1_1 : List Int) (r1 : List Int) (r2 : List Int) (r3 : Bool) (w : World) (hs0_0 : Kd.V (Kd.int .i64) 3 w w.heap.size (fun k_ => P0_0_ k_) (.slice A0_0 l0_0.length c0_0) l0_0) (hr0_1 : Kd.C (Kd.int .i64) w A0_1 l0_1.length l0_1) (hc0_1 : l0_1.length ≤ c0_1) (hs1_0 : Kd.V (Kd.int .i64) 3 w w.heap.size (fun k_ => P1_0_ k_) (.slice A1_0 l1_0.length c1_0) l1_0) (hr1_1 : Kd.C (Kd.int .i64) w A1_1 l1_1.length l1_1) (hc1_1 : l1_1.length ≤ c1_1) (h : impl_Compose.f k l0_0 l0_1 l1_0 l1_1 = some (r1, r2, r3)) :
  Calls Try.prog 26 #[.agg #[.slice A0_0 l0_0.length c0_0, .slice A0_1 l0_1.length c0_1], .agg #[.slice A1_0 l1_0.length c1_0, .slice A1_1 l1_1.length c1_1]] w fun e w' => ∃ v0_ v1_ : Value, e = .returned (.tuple #[.agg #[v0_, v1_], .bool r3]) ∧ Kd.R (Kd.int .i64) 3 w' w.heap.size (fun k_ => (w.heap.size ≤ k_) ∧ zx v1_ k_) v0_ r1 ∧ Kd.R (Kd.int .i64) 3 w' w.heap.size (fun k_ => (w.heap.size ≤ k_) ∧ zx v0_ k_) v1_ r2 ∧ Below w.heap.size w w' := by
 have hu49 := Try.underlying49
 have HO0_0 := Aside0.mk (show Kd.V (Kd.int .i64) 3 w w.heap.size (fun k_ => ((P0_0_ k_ ∨ P1_0_ k_) ∨ w.heap.size ≤ k_)) (.slice A0_0 l0_0.length c0_0) l0_0 from Kd.V_mono hs0_0 (fun k_ hk => .inl (.inl hk)))
 have HR0_1 := Aside0.mk hr0_1
 have HC0_1 := Aside0.mk hc0_1
 clear hr0_1 hc0_1
 have HO1_0 := Aside0.mk (show Kd.V (Kd.int .i64) 3 w w.heap.size (fun k_ => ((P0_0_ k_ ∨ P1_0_ k_) ∨ w.heap.size ≤ k_)) (.slice A1_0 l1_0.length c1_0) l1_0 from Kd.V_mono hs1_0 (fun k_ hk => .inl (.inr hk)))
 have HR1_1 := Aside0.mk hr1_1
 have HC1_1 := Aside0.mk hc1_1
 clear hr1_1 hc1_1
 have HB := Aside0.mk (Below.refl w.heap.size w)
 have H : ((impl_IsValidSubstitution.f k l0_0 l0_1).bind fun t182 => (if t182 = true then ((impl_IsValidSubstitution.f k l1_0 l1_1).bind fun t183 => (impl_Compose.j0 k (!t183) l0_0 l0_1 l1_0 l1_1)) else (impl_Compose.j0 k true l0_0 l0_1 l1_0 l1_1))) = some (r1, r2, r3) := h
 clear h
 have HC3 := Aside0.mk H
 clear H
 go_enter Try.func26, Try.ntmps26
 go_upto_region 1 with (first | ((with_reducible refine gate_dst (N := 2) rfl ?_); refine box_event ?hg (N := 2) ?hd (cs := #[.slice A0_0 l0_0.length c0_0, .slice A0_1 l0_1.length c0_1]) (t := 49) ?hr ?_; (case hd => rfl); (case hg => rfl); (case hr => first | (go_simp; done) | (go_simp; rfl)); intro gb179 hg w4 hbox hb; replace HO0_0 := zm (Kd.V_below (Kd.V_elderB (by (with_reducible repeat (first | apply Kd.V_alloc | apply Kd.V_drewN | apply Kd.V_drew)); exact HO0_0.out) gb179 (Nat.le_of_eq hg.symm)) hb); replace HO1_0 := zm (Kd.V_below (Kd.V_elderB (by (with_reducible repeat (first | apply Kd.V_alloc | apply Kd.V_drewN | apply Kd.V_drew)); exact HO1_0.out) gb179 (Nat.le_of_eq hg.symm)) hb); have BK179 := zm (hbox); have GW179 := zm ((by rw [hg]; exact (below_size zl) : w.heap.size ≤ gb179)); have GE179 := GW179; replace HB := zm (below_step zl hb); clear hb hbox hg) | ((with_reducible refine gate_dst (N := 3) rfl ?_); refine box_event ?hg (N := 3) ?hd (cs := #[.slice A1_0 l1_0.length c1_0, .slice A1_1 l1_1.length c1_1]) (t := 49) ?hr ?_; (case hd => rfl); (case hg => rfl); (case hr => first | (go_simp; done) | (go_simp; rfl)); intro gb180 hg w5 hbox hb; replace HO0_0 := zm (Kd.V_below (Kd.V_elderB (by (with_reducible repeat (first | apply Kd.V_alloc | apply Kd.V_drewN | apply Kd.V_drew)); exact HO0_0.out) gb180 (Nat.le_of_eq hg.symm)) hb); replace HO1_0 := zm (Kd.V_below (Kd.V_elderB (by (with_reducible repeat (first | apply Kd.V_alloc | apply Kd.V_drewN | apply Kd.V_drew)); exact HO1_0.out) gb180 (Nat.le_of_eq hg.symm)) hb); have BK180 := zm (hbox); have GW180 := zm ((by rw [hg]; exact (below_size zl) : w.heap.size ≤ gb180)); have GE180 := GW180; replace HB := zm (below_step zl hb); have NB179_180 := zm (zl1 hg (zb BK179.out)); have NB180_179 := zm (zl2 hg (zb BK179.out)); replace BK179 := zbk BK179 hb; clear hb hbox hg) | ((with_reducible refine gate_dst (N := 4) rfl ?_); refine box_event ?hg (N := 4) ?hd (cs := #[.slice none 0 0, .slice none 0 0]) (t := 49) ?hr ?_; (case hd => rfl); (case hg => rfl); (case hr => first | (go_simp; done) | (go_simp; rfl)); intro gb181 hg w6 hbox hb; replace HO0_0 := zm (Kd.V_below (Kd.V_elderB (by (with_reducible repeat (first | apply Kd.V_alloc | apply Kd.V_drewN | apply Kd.V_drew)); exact HO0_0.out) gb181 (Nat.le_of_eq hg.symm)) hb); replace HO1_0 := zm (Kd.V_below (Kd.V_elderB (by (with_reducible repeat (first | apply Kd.V_alloc | apply Kd.V_drewN | apply Kd.V_drew)); exact HO1_0.out) gb181 (Nat.le_of_eq hg.symm)) hb); have BK181 := zm (hbox); have GW181 := zm ((by rw [hg]; exact (below_size zl) : w.heap.size ≤ gb181)); have GE181 := GW181; replace HB := zm (below_step zl hb); have NB179_181 := zm (zl1 hg (zb BK179.out)); have NB181_179 := zm (zl2 hg (zb BK179.out)); replace BK179 := zbk BK179 hb; have NB180_181 := zm (zl1 hg (zb BK180.out)); have NB181_180 := zm (zl2 hg (zb BK180.out)); replace BK180 := zbk BK180 hb; clear hb hbox hg))
 (try simp only [Act.put, List.setIfInBounds_toArray, List.set_cons_zero, List.set_cons_succ])
 go_cut [16] (fun v16 wc => ∃ (kq : Nat) (x16_2 : Bool), v16 = .bool x16_2 ∧ Aside0 (impl_Compose.j0 kq x16_2 l0_0 l0_1 l1_0 l1_1 = some (r1, r2, r3)) ∧ Aside0 (kq ≤ k) ∧ Aside0 (Kd.V (Kd.int .i64) 3 wc w.heap.size (fun k_ => ((P0_0_ k_ ∨ P1_0_ k_) ∨ w.heap.size ≤ k_) ∧ k_ ≠ gb179 ∧ k_ ≠ gb180 ∧ k_ ≠ gb181) (.slice A0_0 l0_0.length c0_0) l0_0) ∧ Aside0 (Kd.V (Kd.int .i64) 3 wc w.heap.size (fun k_ => ((P0_0_ k_ ∨ P1_0_ k_) ∨ w.heap.size ≤ k_) ∧ k_ ≠ gb179 ∧ k_ ≠ gb180 ∧ k_ ≠ gb181) (.slice A1_0 l1_0.length c1_0) l1_0) ∧ Aside0 (wc.heap[gb179]? = some (.cells #[(.slice A0_0 l0_0.length c0_0), (.slice A0_1 l0_1.length c0_1)] 49 (0, 0))) ∧ Aside0 (wc.heap[gb180]? = some (.cells #[(.slice A1_0 l1_0.length c1_0), (.slice A1_1 l1_1.length c1_1)] 49 (0, 0))) ∧ Aside0 (wc.heap[gb181]? = some (.cells #[(.slice none 0 0), (.slice none 0 0)] 49 (0, 0))) ∧ Aside0 (Below w.heap.size w wc))
 case first =>
  have H := HC3.out
  clear HC3
  replace H := Option.bind_eq_some_iff.mp H
  obtain ⟨t182, A70, H⟩ := H
  replace H : (if t182 = true then ((impl_IsValidSubstitution.f k l1_0 l1_1).bind fun t183 => (impl_Compose.j0 k (!t183) l0_0 l0_1 l1_0 l1_1)) else (impl_Compose.j0 k true l0_0 l0_1 l1_0 l1_1)) = some (r1, r2, r3) := H
  have A7 := Aside0.mk A70
  clear A70
  by_cases c8 : t182 = true
  ·subst c8
   have H1 : ((impl_IsValidSubstitution.f k l1_0 l1_1).bind fun t183 => (impl_Compose.j0 k (!t183) l0_0 l0_1 l1_0 l1_1)) = some (r1, r2, r3) := by first | with_reducible rfl | (rw [if_pos rfl] at H; exact H)
   clear H
   have H := H1
   clear H1
   replace H := Option.bind_eq_some_iff.mp H
   obtain ⟨t183, A90, H⟩ := H
   replace H : (impl_Compose.j0 k (!t183) l0_0 l0_1 l1_0 l1_1) = some (r1, r2, r3) := H
   have A9 := Aside0.mk A90
   clear A90
   have H' := Aside0.mk H
   clear H
   have hnb10 := NB179_180.out
   have hnc10 := NB180_179.out
   have hnb11 := NB179_181.out
   have hnc11 := NB181_179.out
   have hcz12_0 : w6.cell? ⟨gb179, 0, none⟩ = some (.slice A0_0 l0_0.length c0_0) := zcl BK179.out 0
   have hcz12_1 : w6.cell? ⟨gb179, 1, none⟩ = some (.slice A0_1 l0_1.length c0_1) := zcl BK179.out 1
   have hfz12_0 := blk_frozen BK179.out 0
   have hfz12_1 := blk_frozen BK179.out 1
   go_wp2_with (first | ((with_reducible refine gate_callee (f := 54) rfl ?_); refine zg (some 10) Try.func54 #[.agg #[.slice A0_0 l0_0.length c0_0, .slice A0_1 l0_1.length c0_1]] ?_; (with_reducible refine (impl_IsValidSubstitution.calls k _ _ l0_0 _ _ l0_1 true _ ?side1 ?side2 ?side3 ?side4 A7.out).mono ?_); (case side1 => repeat (first | exact (Kd.V_reads' HO0_0.out).2.2 | (with_reducible refine Kd.C_alloc ?_ _) | (with_reducible refine Kd.C_drewN ?_ _) | (with_reducible refine Kd.C_drew ?_))); (case side2 => exact (Kd.V_reads' HO0_0.out).2.1); (case side3 => exact zc HR0_1.out); (case side4 => exact HC0_1.out); rintro e w13 ⟨rfl, hb⟩; refine ⟨_, rfl, ?_⟩; replace HO0_0 := zm (Kd.V_below (by (with_reducible repeat (first | apply Kd.V_alloc | apply Kd.V_drewN | apply Kd.V_drew)); exact HO0_0.out) hb); replace HO1_0 := zm (Kd.V_below (by (with_reducible repeat (first | apply Kd.V_alloc | apply Kd.V_drewN | apply Kd.V_drew)); exact HO1_0.out) hb); replace BK179 := zbk BK179 hb; replace BK180 := zbk BK180 hb; replace BK181 := zbk BK181 hb; replace HB := zm (below_step zl hb); (try clear hb); have hnb14 := NB180_181.out; have hnc14 := NB181_180.out; have hcz15_0 : w13.cell? ⟨gb180, 0, none⟩ = some (.slice A1_0 l1_0.length c1_0) := zcl BK180.out 0; have hcz15_1 : w13.cell? ⟨gb180, 1, none⟩ = some (.slice A1_1 l1_1.length c1_1) := zcl BK180.out 1; have hfz15_0 := blk_frozen BK180.out 0; have hfz15_1 := blk_frozen BK180.out 1) | (go_at_call 54; (with_reducible refine (impl_IsValidSubstitution.calls k _ _ l1_0 _ _ l1_1 t183 _ ?side1 ?side2 ?side3 ?side4 A9.out).mono ?_); (case side1 => repeat (first | exact (Kd.V_reads' HO1_0.out).2.2 | (with_reducible refine Kd.C_alloc ?_ _) | (with_reducible refine Kd.C_drewN ?_ _) | (with_reducible refine Kd.C_drew ?_))); (case side2 => exact (Kd.V_reads' HO1_0.out).2.1); (case side3 => exact zc HR1_1.out); (case side4 => exact HC1_1.out); rintro e w16 ⟨rfl, hb⟩; have n0_ := Aside0.mk (Kd.V_below (by (with_reducible repeat (first | apply Kd.V_alloc | apply Kd.V_drewN | apply Kd.V_drew)); exact HO0_0.out) hb); have n1_ := Aside0.mk (Kd.V_below (by (with_reducible repeat (first | apply Kd.V_alloc | apply Kd.V_drewN | apply Kd.V_drew)); exact HO1_0.out) hb); have n2_ := Aside0.mk (blk_below (zb BK179.out) hb); have n3_ := Aside0.mk (blk_below (zb BK180.out) hb); have n4_ := Aside0.mk (blk_below (zb BK181.out) hb); have n5_ := Aside0.mk (below_step zl hb); clear HO0_0; clear HO1_0; clear BK179; clear BK180; clear BK181; clear HB; have HO0_0 := n0_; have HO1_0 := n1_; have BK179 := n2_; have BK180 := n3_; have BK181 := n4_; have HB := n5_; clear n0_ n1_ n2_ n3_ n4_ n5_; (try clear hb)))
   go_meet
   case rel => exact ⟨_, (!t183), (by first | rfl | (simp; done) | (simp [*]; done)), H', ⟨by first | omega | exact Nat.le_refl _⟩, ⟨by (with_reducible repeat (first | apply Kd.V_alloc | apply Kd.V_drewN | apply Kd.V_drew)); exact Kd.V_mono HO0_0.out (fun _ hk => ⟨hk.1.1.1, hk.1.1.2, hk.1.2, hk.2⟩)⟩, ⟨by (with_reducible repeat (first | apply Kd.V_alloc | apply Kd.V_drewN | apply Kd.V_drew)); exact Kd.V_mono HO1_0.out (fun _ hk => ⟨hk.1.1.1, hk.1.1.2, hk.1.2, hk.2⟩)⟩, ⟨zb BK179.out⟩, ⟨zb BK180.out⟩, ⟨zb BK181.out⟩, ⟨zl⟩⟩
  ·replace c8 := Bool.eq_false_iff.mpr c8
   subst c8
   have H1 : (impl_Compose.j0 k true l0_0 l0_1 l1_0 l1_1) = some (r1, r2, r3) := by first | with_reducible rfl | (rw [if_neg (show ¬ (false = true) by decide)] at H; exact H)
   clear H
   have H := H1
   clear H1
   have H' := Aside0.mk H
   clear H
   have hnb17 := NB179_180.out
   have hnc17 := NB180_179.out
   have hnb18 := NB179_181.out
   have hnc18 := NB181_179.out
   have hcz19_0 : w6.cell? ⟨gb179, 0, none⟩ = some (.slice A0_0 l0_0.length c0_0) := zcl BK179.out 0
   have hcz19_1 : w6.cell? ⟨gb179, 1, none⟩ = some (.slice A0_1 l0_1.length c0_1) := zcl BK179.out 1
   have hfz19_0 := blk_frozen BK179.out 0
   have hfz19_1 := blk_frozen BK179.out 1
   go_wp2_with (first | ((with_reducible refine gate_callee (f := 54) rfl ?_); refine zg (some 10) Try.func54 #[.agg #[.slice A0_0 l0_0.length c0_0, .slice A0_1 l0_1.length c0_1]] ?_; (with_reducible refine (impl_IsValidSubstitution.calls k _ _ l0_0 _ _ l0_1 false _ ?side1 ?side2 ?side3 ?side4 A7.out).mono ?_); (case side1 => repeat (first | exact (Kd.V_reads' HO0_0.out).2.2 | (with_reducible refine Kd.C_alloc ?_ _) | (with_reducible refine Kd.C_drewN ?_ _) | (with_reducible refine Kd.C_drew ?_))); (case side2 => exact (Kd.V_reads' HO0_0.out).2.1); (case side3 => exact zc HR0_1.out); (case side4 => exact HC0_1.out); rintro e w20 ⟨rfl, hb⟩; refine ⟨_, rfl, ?_⟩; replace HO0_0 := zm (Kd.V_below (by (with_reducible repeat (first | apply Kd.V_alloc | apply Kd.V_drewN | apply Kd.V_drew)); exact HO0_0.out) hb); replace HO1_0 := zm (Kd.V_below (by (with_reducible repeat (first | apply Kd.V_alloc | apply Kd.V_drewN | apply Kd.V_drew)); exact HO1_0.out) hb); replace BK179 := zbk BK179 hb; replace BK180 := zbk BK180 hb; replace BK181 := zbk BK181 hb; replace HB := zm (below_step zl hb); (try clear hb)))
   go_meet
   case rel => exact ⟨_, (true), (by first | rfl | (simp; done) | (simp [*]; done)), H', ⟨by first | omega | exact Nat.le_refl _⟩, ⟨by (with_reducible repeat (first | apply Kd.V_alloc | apply Kd.V_drewN | apply Kd.V_drew)); exact Kd.V_mono HO0_0.out (fun _ hk => ⟨hk.1.1.1, hk.1.1.2, hk.1.2, hk.2⟩)⟩, ⟨by (with_reducible repeat (first | apply Kd.V_alloc | apply Kd.V_drewN | apply Kd.V_drew)); exact Kd.V_mono HO1_0.out (fun _ hk => ⟨hk.1.1.1, hk.1.1.2, hk.1.2, hk.2⟩)⟩, ⟨zb BK179.out⟩, ⟨zb BK180.out⟩, ⟨zb BK181.out⟩, ⟨zl⟩⟩
 case rest =>
  clear HC3
  try clear c1
  try clear c2
  try clear p2
  try clear c5
  try clear c8
  try clear c10
  try clear c11
  try clear c14
  try clear c17
  try clear c18
  try clear hcz12_0
  try clear hcz12_1
  try clear hcz15_0
  try clear hcz15_1
  try clear hcz19_0
  try clear hcz19_1
  try clear hfz12_0
  try clear hfz12_1
  try clear hfz15_0
  try clear hfz15_1
  try clear hfz19_0
  try clear hfz19_1
  obtain ⟨kq, x16_2, rfl, HA, HJ2, HO_180000, HO_181000, BK179, BK180, BK181, HB⟩ := hcut
  cases kq with
  | zero => exact absurd HA.out (by simp [impl_Compose.j0])
  | succ kj2 =>
   have H := HA.out
   clear HA
   simp only [impl_Compose.j0] at H
   by_cases c21 : x16_2 = true
   ·subst c21
    have H1 : (some (([] : List Int), ([] : List Int), false)) = some (r1, r2, r3) := by first | with_reducible rfl | (rw [if_pos rfl] at H; exact H)
    clear H
    have H := H1
    clear H1
    simp only [Option.some.injEq, Prod.mk.injEq] at H
    obtain ⟨rfl, rfl, rfl⟩ := H
    have hnb22 := NB181_179.out
    have hnc22 := NB179_181.out
    have hnb23 := NB181_180.out
    have hnc23 := NB180_181.out
    have hcz24_0 : wc.cell? ⟨gb181, 0, none⟩ = some (.slice none 0 0) := zcl BK181.out 0
    have hcz24_1 : wc.cell? ⟨gb181, 1, none⟩ = some (.slice none 0 0) := zcl BK181.out 1
    have hfz24_0 := blk_frozen BK181.out 0
    have hfz24_1 := blk_frozen BK181.out 1
    go_wp2
    refine bodyPost_ret (results_ct rfl _ _ gb181 49 #[.slice none 0 0, .slice none 0 0] (0, 0) _ rfl (by (with_reducible repeat (first | refine blk_drewN ?_ _ | refine blk_drew ?_ | refine blk_alloc ?_ _)); refine blk_put (cs := #[.slice none 0 0, .slice none 0 0]) ?_ 1 _ rfl; (with_reducible repeat (first | refine blk_drewN ?_ _ | refine blk_drew ?_ | refine blk_alloc ?_ _)); refine blk_put (cs := #[.slice none 0 0, .slice none 0 0]) ?_ 0 _ rfl; (with_reducible repeat (first | refine blk_drewN ?_ _ | refine blk_drew ?_ | refine blk_alloc ?_ _)); exact BK181.out) Try.underlying49 rfl (by kernel_rfl)) rfl ?_
    exact ⟨_, _, by first | rfl | (simp [errW_none, errW_some] <;> rfl) | (simp [*, errW_none, errW_some] <;> rfl), by first | exact Kd.R_nil _ _ _ _ _ | exact Kd.N_nil _ _ _ _ _ | exact Kd.V_nil _ _ _ _ _ | exact Kd.Q_nil _ _ _ _ _ | exact Kd.S_nil _ _ _ _ _, by first | exact Kd.R_nil _ _ _ _ _ | exact Kd.N_nil _ _ _ _ _ | exact Kd.V_nil _ _ _ _ _ | exact Kd.Q_nil _ _ _ _ _ | exact Kd.S_nil _ _ _ _ _, zl⟩
   ·replace c21 := Bool.eq_false_iff.mpr c21
    subst c21
    have H1 : ((slices_Concat_int_int.f kj2 (([l0_0, l1_0] : List (List Int)))).bind fun t187 => ((slices_Sort_int_int.f t187).bind fun t191 => ((slices_Compact_int_int.f t191).bind fun t192 => (impl_Compose.l0 kj2 t192 (t192.length : Int) 0 l0_0 l0_1 l1_0 l1_1 t192 ([] : List Int))))) = some (r1, r2, r3) := by first | with_reducible rfl | (rw [if_neg (show ¬ (false = true) by decide)] at H; exact H)
    clear H
    have H := H1
    clear H1
    obtain ⟨y184, hy184⟩ : ∃ y_ : List (List Int), y_ = (([l0_0, l1_0] : List (List Int))) := ⟨_, rfl⟩
    replace H : ((slices_Concat_int_int.f kj2 y184).bind fun t187 => ((slices_Sort_int_int.f t187).bind fun t191 => ((slices_Compact_int_int.f t191).bind fun t192 => (impl_Compose.l0 kj2 t192 (t192.length : Int) 0 l0_0 l0_1 l1_0 l1_1 t192 ([] : List Int))))) = some (r1, r2, r3) := by first | (rw [hy184]; with_reducible exact H) | (have H2_ := (Option.bind_some _ _).symm.trans H; rw [hy184]; with_reducible exact H2_) | (have H2_ := (Option.bind_some _ _).symm.trans H; with_reducible exact H2_) | with_reducible exact H | (rw [hy184]; exact H) | exact H
    have Ny184 := Aside0.mk hy184
    clear hy184
    replace H := Option.bind_eq_some_iff.mp H
    obtain ⟨t187, A250, H⟩ := H
    replace H : ((slices_Sort_int_int.f t187).bind fun t191 => ((slices_Compact_int_int.f t191).bind fun t192 => (impl_Compose.l0 kj2 t192 (t192.length : Int) 0 l0_0 l0_1 l1_0 l1_1 t192 ([] : List Int)))) = some (r1, r2, r3) := H
    have A25 := Aside0.mk A250
    clear A250
    replace H := Option.bind_eq_some_iff.mp H
    obtain ⟨t191, A260, H⟩ := H
    replace H : ((slices_Compact_int_int.f t191).bind fun t192 => (impl_Compose.l0 kj2 t192 (t192.length : Int) 0 l0_0 l0_1 l1_0 l1_1 t192 ([] : List Int))) = some (r1, r2, r3) := H
    have A26 := Aside0.mk A260
    clear A260
    replace H := Option.bind_eq_some_iff.mp H
    obtain ⟨t192, A270, H⟩ := H
    replace H : (impl_Compose.l0 kj2 t192 (t192.length : Int) 0 l0_0 l0_1 l1_0 l1_1 t192 ([] : List Int)) = some (r1, r2, r3) := H
    have A27 := Aside0.mk A270
    clear A270
    have H' := Aside0.mk H
    clear H
    have hnb28 := NB179_180.out
    have hnc28 := NB180_179.out
    have hnb29 := NB179_181.out
    have hnc29 := NB181_179.out
    have hcz30_0 : wc.cell? ⟨gb179, 0, none⟩ = some (.slice A0_0 l0_0.length c0_0) := zcl BK179.out 0
    have hcz30_1 : wc.cell? ⟨gb179, 1, none⟩ = some (.slice A0_1 l0_1.length c0_1) := zcl BK179.out 1
    have hfz30_0 := blk_frozen BK179.out 0
    have hfz30_1 := blk_frozen BK179.out 1
    have hnb31 := NB180_181.out
    have hnc31 := NB181_180.out
    have hcz32_0 : wc.cell? ⟨gb180, 0, none⟩ = some (.slice A1_0 l1_0.length c1_0) := zcl BK180.out 0
    have hcz32_1 : wc.cell? ⟨gb180, 1, none⟩ = some (.slice A1_1 l1_1.length c1_1) := zcl BK180.out 1
    have hfz32_0 := blk_frozen BK180.out 0
    have hfz32_1 := blk_frozen BK180.out 1
    go_wp2_with (first | ((with_reducible refine gate_dst (N := 22) rfl ?_); refine Kd.N_lit (Kd.slice 3 (Kd.int .i64)) _ 34 ?hg (N' := 22) ?hd (xs := ([l0_0, l1_0] : List (List Int))) (inner := [.slice A0_0 l0_0.length c0_0, .slice A1_0 l1_0.length c1_0]) (ok := (fun k_ => ((P0_0_ k_ ∨ P1_0_ k_) ∨ w.heap.size ≤ k_) ∧ k_ ≠ gb179 ∧ k_ ≠ gb180 ∧ k_ ≠ gb181)) (okp := (fun k_ => ((P0_0_ k_ ∨ P1_0_ k_) ∨ w.heap.size ≤ k_) ∧ k_ ≠ gb179 ∧ k_ ≠ gb180 ∧ k_ ≠ gb181)) ?hr ?hp (fun _ hk => hk) ((show ∀ k_, wc.heap.size ≤ k_ → (fun k_ => ((P0_0_ k_ ∨ P1_0_ k_) ∨ w.heap.size ≤ k_) ∧ k_ ≠ gb179 ∧ k_ ≠ gb180 ∧ k_ ≠ gb181) k_ from fun k_ hk => ⟨(.inr (Nat.le_trans (below_size zl) hk)), Kd.freshB (g := gb179) (o := .cells #[.slice A0_0 l0_0.length c0_0, .slice A0_1 l0_1.length c0_1] 49 (0, 0)) (zb BK179.out) k_ hk, Kd.freshB (g := gb180) (o := .cells #[.slice A1_0 l1_0.length c1_0, .slice A1_1 l1_1.length c1_1] 49 (0, 0)) (zb BK180.out) k_ hk, Kd.freshB (g := gb181) (o := .cells #[.slice none 0 0, .slice none 0 0] 49 (0, 0)) (zb BK181.out) k_ hk⟩) _ (Nat.le_refl _)) (Below.refl _ _) (Nat.le_refl _) (by simp) ?_; (case hd => rfl); (case hg => rfl); (case hr => first | (go_simp; done) | (go_simp; rfl)); (case hp => exact (Reps.one (show Kd.FK (Kd.slice 3 (Kd.int .i64)) _ _ l0_0 [.slice A0_0 l0_0.length c0_0] from (Kd.FK_slice_mk (Kd.V_reads' (Kd.V_mono (ok' := (fun k_ => ((P0_0_ k_ ∨ P1_0_ k_) ∨ w.heap.size ≤ k_) ∧ k_ ≠ gb179 ∧ k_ ≠ gb180 ∧ k_ ≠ gb181)) (HO_180000.out) (fun k_ hk => ⟨hk.1, hk.2.1, hk.2.2.1, hk.2.2.2⟩))).2.1 (Kd.V_F (Kd.V_mono (ok' := (fun k_ => ((P0_0_ k_ ∨ P1_0_ k_) ∨ w.heap.size ≤ k_) ∧ k_ ≠ gb179 ∧ k_ ≠ gb180 ∧ k_ ≠ gb181)) (HO_180000.out) (fun k_ hk => ⟨hk.1, hk.2.1, hk.2.2.1, hk.2.2.2⟩))))) (Reps.one (show Kd.FK (Kd.slice 3 (Kd.int .i64)) _ _ l1_0 [.slice A1_0 l1_0.length c1_0] from (Kd.FK_slice_mk (Kd.V_reads' (Kd.V_mono (ok' := (fun k_ => ((P0_0_ k_ ∨ P1_0_ k_) ∨ w.heap.size ≤ k_) ∧ k_ ≠ gb179 ∧ k_ ≠ gb180 ∧ k_ ≠ gb181)) (HO_181000.out) (fun k_ hk => ⟨hk.1, hk.2.1, hk.2.2.1, hk.2.2.2⟩))).2.1 (Kd.V_F (Kd.V_mono (ok' := (fun k_ => ((P0_0_ k_ ∨ P1_0_ k_) ∨ w.heap.size ≤ k_) ∧ k_ ≠ gb179 ∧ k_ ≠ gb180 ∧ k_ ≠ gb181)) (HO_181000.out) (fun k_ hk => ⟨hk.1, hk.2.1, hk.2.2.1, hk.2.2.2⟩))))) (Reps.none _ _)))); intro v185 w33 ho34 hb hg_ hnew_; clear hg_ hnew_; (first | rw [← Ny184.out] at ho34 | (simp only [Int.reduceToNat] at ho34; rw [← Ny184.out] at ho34)); replace HO_180000 := zm (Kd.V_elder' (by (with_reducible repeat (first | apply Kd.V_alloc | apply Kd.V_drewN | apply Kd.V_drew)); exact HO_180000.out) (Kd.N_base ho34) hb); replace HO_181000 := zm (Kd.V_elder' (by (with_reducible repeat (first | apply Kd.V_alloc | apply Kd.V_drewN | apply Kd.V_drew)); exact HO_181000.out) (Kd.N_base ho34) hb); have HO186 := zm (Kd.N_lower ho34 (below_size zl)); replace BK179 := zbk BK179 hb; replace BK180 := zbk BK180 hb; replace BK181 := zbk BK181 hb; replace HB := zm (below_step zl hb); clear hb ho34; obtain ⟨Ao35, co35, eo35⟩ := Kd.N_slice HO186.out; subst eo35) | ((with_reducible refine gate_callee (f := 55) rfl ?_); refine zg (some 23) Try.func55 #[.slice Ao35 y184.length co35] ?_; (with_reducible refine (slices_Concat_int_int.calls kj2 _ _ y184 t187 _ ?side1 ?side2 A25.out).mono ?_); (case side1 => repeat (first | exact (Kd.N_reads' HO186.out).2.2 | (with_reducible refine Kd.C_alloc ?_ _) | (with_reducible refine Kd.C_drewN ?_ _) | (with_reducible refine Kd.C_drew ?_))); (case side2 => exact (Kd.N_reads' HO186.out).2.1); rintro e w36 ⟨v188, rfl, ho0, hb⟩; refine ⟨_, rfl, ?_⟩; replace HO_180000 := zm (Kd.V_elder' (by (with_reducible repeat (first | apply Kd.V_alloc | apply Kd.V_drewN | apply Kd.V_drew)); exact HO_180000.out) (Kd.R_base ho0) hb); replace HO_181000 := zm (Kd.V_elder' (by (with_reducible repeat (first | apply Kd.V_alloc | apply Kd.V_drewN | apply Kd.V_drew)); exact HO_181000.out) (Kd.R_base ho0) hb); replace HO186 := zm (Kd.N_elder' (by (with_reducible repeat (first | apply Kd.N_alloc | apply Kd.N_drewN | apply Kd.N_drew)); exact HO186.out) (Kd.R_base ho0) hb); have HO189 := zm (Kd.R_lower (Kd.R_newM (M := fun k_ => (w.heap.size ≤ k_)) ho0 (below_size zl) (fun k_ h_ => h_)) (below_size zl)); replace BK179 := zbk BK179 hb; replace BK180 := zbk BK180 hb; replace BK181 := zbk BK181 hb; replace HB := zm (below_step zl hb); (try clear hb); (try clear ho0); obtain ⟨Ao37, co37, eo37⟩ := Kd.R_slice HO189.out; subst eo37) | ((with_reducible refine gate_dst (N := 6) rfl ?_); refine box_event ?hg (N := 6) ?hd (cs := #[.slice none 0 0, .slice none 0 0]) (t := 49) ?hr ?_; (case hd => rfl); (case hg => rfl); (case hr => first | (go_simp; done) | (go_simp; rfl)); intro gb190 hg w38 hbox hb; replace HO_180000 := zm (Kd.V_below (Kd.V_elderB (by (with_reducible repeat (first | apply Kd.V_alloc | apply Kd.V_drewN | apply Kd.V_drew)); exact HO_180000.out) gb190 (Nat.le_of_eq hg.symm)) hb); replace HO_181000 := zm (Kd.V_below (Kd.V_elderB (by (with_reducible repeat (first | apply Kd.V_alloc | apply Kd.V_drewN | apply Kd.V_drew)); exact HO_181000.out) gb190 (Nat.le_of_eq hg.symm)) hb); replace HO186 := zm (Kd.N_below (Kd.N_elderB (by (with_reducible repeat (first | apply Kd.N_alloc | apply Kd.N_drewN | apply Kd.N_drew)); exact HO186.out) gb190 (Nat.le_of_eq hg.symm)) hb); replace HO189 := zRb HO189 hb; have BK190 := zm (hbox); have GW190 := zm ((by rw [hg]; exact (below_size zl) : w.heap.size ≤ gb190)); have GE190 := GW190; replace HB := zm (below_step zl hb); have NB179_190 := zm (zl1 hg (zb BK179.out)); have NB190_179 := zm (zl2 hg (zb BK179.out)); replace BK179 := zbk BK179 hb; have NB180_190 := zm (zl1 hg (zb BK180.out)); have NB190_180 := zm (zl2 hg (zb BK180.out)); replace BK180 := zbk BK180 hb; have NB181_190 := zm (zl1 hg (zb BK181.out)); have NB190_181 := zm (zl2 hg (zb BK181.out)); replace BK181 := zbk BK181 hb; clear hb hbox hg; have hnb39 := NB190_179.out; have hnc39 := NB179_190.out; have hnb40 := NB190_180.out; have hnc40 := NB180_190.out; have hnb41 := NB190_181.out; have hnc41 := NB181_190.out; have hcz42_0 : w38.cell? ⟨gb190, 0, none⟩ = some (.slice none 0 0) := zcl BK190.out 0; have hcz42_1 : w38.cell? ⟨gb190, 1, none⟩ = some (.slice none 0 0) := zcl BK190.out 1; have hfz42_0 := blk_frozen BK190.out 0; have hfz42_1 := blk_frozen BK190.out 1) | ((with_reducible refine gate_store (t := 49) (p := 6) rfl ?_); refine store_event (t := 49) (p := 6) (v := ?vo_w43) (w1 := ((w38.setCell ⟨gb190, 0, none⟩ (.slice Ao37 t187.length co37)).setCell ⟨gb190, 1, none⟩ (.slice none 0 0))) ?hg ?ho ?hn ?hr ?_; (case ho => rfl); (case hg => rfl); (case hn => rfl); (case hr => first | (go_simp; done) | (go_simp; rfl)); intro w43 hw; have n0_ : Aside0 (Kd.V (Kd.int .i64) 3 w43 w.heap.size (fun k_ => ((P0_0_ k_ ∨ P1_0_ k_) ∨ w.heap.size ≤ k_) ∧ zx (.slice Ao35 y184.length co35) k_ ∧ zx (.slice Ao37 t187.length co37) k_ ∧ k_ ≠ gb179 ∧ k_ ≠ gb180 ∧ k_ ≠ gb181 ∧ k_ ≠ gb190) (.slice A0_0 l0_0.length c0_0) l0_0) := ⟨(by rw [hw]; exact (by (with_reducible repeat (first | apply Kd.V_alloc | apply Kd.V_drewN | apply Kd.V_drew)); exact Kd.V_mono (Kd.V_far (p := ⟨gb190, 1, none⟩) (Kd.V_far (p := ⟨gb190, 0, none⟩) (Kd.V_mono HO_180000.out (fun k_ hk => (⟨hk, hk.2⟩ : _ ∧ k_ ≠ gb190))) (fun _ hk => hk.2) (.slice Ao37 t187.length co37)) (fun _ hk => hk.2) (.slice none 0 0)) (fun _ hk => ⟨hk.1.1.1.1.1, hk.1.1.1.2, hk.1.1.2, hk.1.1.1.1.2.1, hk.1.1.1.1.2.2.1, hk.1.1.1.1.2.2.2, hk.1.2⟩)))⟩; have n1_ : Aside0 (Kd.V (Kd.int .i64) 3 w43 w.heap.size (fun k_ => ((P0_0_ k_ ∨ P1_0_ k_) ∨ w.heap.size ≤ k_) ∧ zx (.slice Ao35 y184.length co35) k_ ∧ zx (.slice Ao37 t187.length co37) k_ ∧ k_ ≠ gb179 ∧ k_ ≠ gb180 ∧ k_ ≠ gb181 ∧ k_ ≠ gb190) (.slice A1_0 l1_0.length c1_0) l1_0) := ⟨(by rw [hw]; exact (by (with_reducible repeat (first | apply Kd.V_alloc | apply Kd.V_drewN | apply Kd.V_drew)); exact Kd.V_mono (Kd.V_far (p := ⟨gb190, 1, none⟩) (Kd.V_far (p := ⟨gb190, 0, none⟩) (Kd.V_mono HO_181000.out (fun k_ hk => (⟨hk, hk.2⟩ : _ ∧ k_ ≠ gb190))) (fun _ hk => hk.2) (.slice Ao37 t187.length co37)) (fun _ hk => hk.2) (.slice none 0 0)) (fun _ hk => ⟨hk.1.1.1.1.1, hk.1.1.1.2, hk.1.1.2, hk.1.1.1.1.2.1, hk.1.1.1.1.2.2.1, hk.1.1.1.1.2.2.2, hk.1.2⟩)))⟩; have n2_ : Aside0 (Kd.N (Kd.slice 3 (Kd.int .i64)) 34 w43 w.heap.size (fun k_ => ((P0_0_ k_ ∨ P1_0_ k_) ∨ w.heap.size ≤ k_) ∧ zx (.slice Ao37 t187.length co37) k_ ∧ k_ ≠ gb179 ∧ k_ ≠ gb180 ∧ k_ ≠ gb181 ∧ k_ ≠ gb190) (.slice Ao35 y184.length co35) y184) := ⟨(by rw [hw]; exact (by (with_reducible repeat (first | apply Kd.N_alloc | apply Kd.N_drewN | apply Kd.N_drew)); exact Kd.N_mono (Kd.N_far (p := ⟨gb190, 1, none⟩) (Kd.N_far (p := ⟨gb190, 0, none⟩) (Kd.N_mono HO186.out (fun k_ hk => (⟨hk, hk.2⟩ : _ ∧ k_ ≠ gb190))) (fun _ hk => hk.2) (.slice Ao37 t187.length co37)) (fun _ hk => hk.2) (.slice none 0 0)) (fun _ hk => ⟨hk.1.1.1.1, hk.1.1.2, hk.1.1.1.2.1, hk.1.1.1.2.2.1, hk.1.1.1.2.2.2, hk.1.2⟩)))⟩; have n3_ : Aside0 (Kd.R (Kd.int .i64) 3 w43 w.heap.size (fun k_ => (w.heap.size ≤ k_)) (.slice Ao37 t187.length co37) t187) := ⟨(by rw [hw]; exact (zr (Kd.R_mono (Kd.R_far (p := ⟨gb190, 1, none⟩) (Kd.R_far (p := ⟨gb190, 0, none⟩) (Kd.R_types HO189.out BK190.out (by decide)) (fun _ hk => hk.2) (.slice Ao37 t187.length co37)) (fun _ hk => hk.2) (.slice none 0 0)) (fun _ hk => hk.1.1))))⟩; have n4_ : Aside0 (w43.heap[gb179]? = some (.cells #[.slice A0_0 l0_0.length c0_0, .slice A0_1 l0_1.length c0_1] 49 (0, 0))) := ⟨(by rw [hw]; exact (by (with_reducible repeat (first | refine blk_drewN ?_ _ | refine blk_drew ?_ | refine blk_alloc ?_ _)); refine blk_far ?_ NB179_190.out _; (with_reducible repeat (first | refine blk_drewN ?_ _ | refine blk_drew ?_ | refine blk_alloc ?_ _)); refine blk_far ?_ NB179_190.out _; (with_reducible repeat (first | refine blk_drewN ?_ _ | refine blk_drew ?_ | refine blk_alloc ?_ _)); exact BK179.out))⟩; have n5_ : Aside0 (w43.heap[gb180]? = some (.cells #[.slice A1_0 l1_0.length c1_0, .slice A1_1 l1_1.length c1_1] 49 (0, 0))) := ⟨(by rw [hw]; exact (by (with_reducible repeat (first | refine blk_drewN ?_ _ | refine blk_drew ?_ | refine blk_alloc ?_ _)); refine blk_far ?_ NB180_190.out _; (with_reducible repeat (first | refine blk_drewN ?_ _ | refine blk_drew ?_ | refine blk_alloc ?_ _)); refine blk_far ?_ NB180_190.out _; (with_reducible repeat (first | refine blk_drewN ?_ _ | refine blk_drew ?_ | refine blk_alloc ?_ _)); exact BK180.out))⟩; have n6_ : Aside0 (w43.heap[gb181]? = some (.cells #[.slice none 0 0, .slice none 0 0] 49 (0, 0))) := ⟨(by rw [hw]; exact (by (with_reducible repeat (first | refine blk_drewN ?_ _ | refine blk_drew ?_ | refine blk_alloc ?_ _)); refine blk_far ?_ NB181_190.out _; (with_reducible repeat (first | refine blk_drewN ?_ _ | refine blk_drew ?_ | refine blk_alloc ?_ _)); refine blk_far ?_ NB181_190.out _; (with_reducible repeat (first | refine blk_drewN ?_ _ | refine blk_drew ?_ | refine blk_alloc ?_ _)); exact BK181.out))⟩; have n7_ : Aside0 (w43.heap[gb190]? = some (.cells #[.slice Ao37 t187.length co37, .slice none 0 0] 49 (0, 0))) := ⟨(by rw [hw]; exact (by (with_reducible repeat (first | refine blk_drewN ?_ _ | refine blk_drew ?_ | refine blk_alloc ?_ _)); refine blk_put (cs := #[.slice Ao37 t187.length co37, .slice none 0 0]) ?_ 1 _ rfl; (with_reducible repeat (first | refine blk_drewN ?_ _ | refine blk_drew ?_ | refine blk_alloc ?_ _)); refine blk_put (cs := #[.slice none 0 0, .slice none 0 0]) ?_ 0 _ rfl; (with_reducible repeat (first | refine blk_drewN ?_ _ | refine blk_drew ?_ | refine blk_alloc ?_ _)); exact BK190.out))⟩; have n8_ : Aside0 (Below w.heap.size w w43) := ⟨(by rw [hw]; exact zl)⟩; clear hw; clear HO_180000; clear HO_181000; clear HO186; clear HO189; clear BK179; clear BK180; clear BK181; clear BK190; clear HB; have HO_180000 := n0_; have HO_181000 := n1_; have HO186 := n2_; have HO189 := n3_; have BK179 := n4_; have BK180 := n5_; have BK181 := n6_; have BK190 := n7_; have HB := n8_; clear n0_ n1_ n2_ n3_ n4_ n5_ n6_ n7_ n8_; have hcz44_0 : w43.cell? ⟨gb190, 0, none⟩ = some (.slice Ao37 t187.length co37) := zcl BK190.out 0; have hcz44_1 : w43.cell? ⟨gb190, 1, none⟩ = some (.slice none 0 0) := zcl BK190.out 1; have hfz44_0 := blk_frozen BK190.out 0; have hfz44_1 := blk_frozen BK190.out 1) | ((with_reducible refine gate_callee (f := 56) rfl ?_); refine zg (some 27) Try.func56 #[.slice Ao37 t187.length co37] ?_; (with_reducible refine (slices_Sort_int_int.calls (fun k_ => some k_ = (.slice Ao37 t187.length co37 : Value).ownBlock) (.slice Ao37 t187.length co37) t187 t191 w _ ?side1 ?side2 A26.out).mono ?_); (case side1 => exact zl); (case side2 => exact Kd.R_tight rfl HO189.out); rintro e w45 ⟨rfl, hy0, hb, hkp⟩; refine ⟨_, rfl, ?_⟩; replace HO_180000 := zm (Kd.V_mono (ok' := fun k_ => ((P0_0_ k_ ∨ P1_0_ k_) ∨ w.heap.size ≤ k_) ∧ zx (.slice Ao35 y184.length co35) k_ ∧ zx (.slice Ao37 t187.length co37) k_ ∧ k_ ≠ gb179 ∧ k_ ≠ gb180 ∧ k_ ≠ gb181 ∧ k_ ≠ gb190) (Kd.V_keptB (HO_180000.out) hkp (fun k_ hk_ hs_ => (hk_.2.2.1) hs_)) (fun k_ hk_ => ⟨hk_.1.1, hk_.1.2.1, hk_.1.2.2.1, hk_.1.2.2.2.1, hk_.1.2.2.2.2.1, hk_.1.2.2.2.2.2.1, hk_.1.2.2.2.2.2.2⟩)); replace HO_181000 := zm (Kd.V_mono (ok' := fun k_ => ((P0_0_ k_ ∨ P1_0_ k_) ∨ w.heap.size ≤ k_) ∧ zx (.slice Ao35 y184.length co35) k_ ∧ zx (.slice Ao37 t187.length co37) k_ ∧ k_ ≠ gb179 ∧ k_ ≠ gb180 ∧ k_ ≠ gb181 ∧ k_ ≠ gb190) (Kd.V_keptB (HO_181000.out) hkp (fun k_ hk_ hs_ => (hk_.2.2.1) hs_)) (fun k_ hk_ => ⟨hk_.1.1, hk_.1.2.1, hk_.1.2.2.1, hk_.1.2.2.2.1, hk_.1.2.2.2.2.1, hk_.1.2.2.2.2.2.1, hk_.1.2.2.2.2.2.2⟩)); replace BK179 := zm (blk_kept (zb BK179.out) hkp (fun hs_ => (fun e_ => (Kd.R_ne HO189.out BK179.out (by decide)) e_) hs_)); replace BK180 := zm (blk_kept (zb BK180.out) hkp (fun hs_ => (fun e_ => (Kd.R_ne HO189.out BK180.out (by decide)) e_) hs_)); replace BK181 := zm (blk_kept (zb BK181.out) hkp (fun hs_ => (fun e_ => (Kd.R_ne HO189.out BK181.out (by decide)) e_) hs_)); replace HO186 := zm (Kd.N_mono (ok' := fun k_ => ((P0_0_ k_ ∨ P1_0_ k_) ∨ w.heap.size ≤ k_) ∧ zx (.slice Ao37 t187.length co37) k_ ∧ k_ ≠ gb179 ∧ k_ ≠ gb180 ∧ k_ ≠ gb181 ∧ k_ ≠ gb190) (Kd.N_keptB (HO186.out) hkp (fun k_ hk_ hs_ => (hk_.2.1) hs_)) (fun k_ hk_ => ⟨hk_.1.1, hk_.1.2.1, hk_.1.2.2.1, hk_.1.2.2.2.1, hk_.1.2.2.2.2.1, hk_.1.2.2.2.2.2⟩)); replace BK190 := zm (blk_kept (zb BK190.out) hkp (fun hs_ => (fun e_ => (Kd.R_ne HO189.out BK190.out (by decide)) e_) hs_)); replace HO189 := zm (Kd.R_reok rfl hy0 (fun k_ e_ => HO189.out.1 k_ e_)); replace HB := zm (hb); (try clear hb); (try clear hkp); (try clear hy0); have hcz46_0 : w45.cell? ⟨gb190, 0, none⟩ = some (.slice Ao37 t187.length co37) := zcl BK190.out 0; have hcz46_1 : w45.cell? ⟨gb190, 1, none⟩ = some (.slice none 0 0) := zcl BK190.out 1; have hfz46_0 := blk_frozen BK190.out 0; have hfz46_1 := blk_frozen BK190.out 1) | ((with_reducible refine gate_callee (f := 57) rfl ?_); refine zg (some 30) Try.func57 #[.slice Ao37 t187.length co37] ?_; (with_reducible refine (slices_Compact_int_int.calls (fun k_ => some k_ = (.slice Ao37 t187.length co37 : Value).ownBlock) (.slice Ao37 t187.length co37) t191 t192 w _ ?side1 ?side2 A27.out).mono ?_); (case side1 => exact zl); (case side2 => exact Kd.R_tight rfl HO189.out); rintro e w47 ⟨v193, rfl, ho0, hb, hkp⟩; refine ⟨_, rfl, ?_⟩; have n0_ := Aside0.mk (Kd.V_mono (ok' := fun k_ => ((P0_0_ k_ ∨ P1_0_ k_) ∨ w.heap.size ≤ k_) ∧ zx (.slice Ao35 y184.length co35) k_ ∧ k_ ≠ gb179 ∧ k_ ≠ gb180 ∧ k_ ≠ gb181 ∧ k_ ≠ gb190 ∧ zx v193 k_) (Kd.V_keptB (HO_180000.out) hkp (fun k_ hk_ hs_ => (hk_.2.2.1) hs_)) (fun k_ hk_ => ⟨hk_.1.1, hk_.1.2.1, hk_.1.2.2.2.1, hk_.1.2.2.2.2.1, hk_.1.2.2.2.2.2.1, hk_.1.2.2.2.2.2.2, fun e_ => Or.elim (ho0.1 k_ e_.symm) (fun hs_ => hk_.2.1 hs_) (fun hn_ => Nat.not_le.2 hk_.2.2 hn_)⟩)); have n1_ := Aside0.mk (Kd.V_mono (ok' := fun k_ => ((P0_0_ k_ ∨ P1_0_ k_) ∨ w.heap.size ≤ k_) ∧ zx (.slice Ao35 y184.length co35) k_ ∧ k_ ≠ gb179 ∧ k_ ≠ gb180 ∧ k_ ≠ gb181 ∧ k_ ≠ gb190 ∧ zx v193 k_) (Kd.V_keptB (HO_181000.out) hkp (fun k_ hk_ hs_ => (hk_.2.2.1) hs_)) (fun k_ hk_ => ⟨hk_.1.1, hk_.1.2.1, hk_.1.2.2.2.1, hk_.1.2.2.2.2.1, hk_.1.2.2.2.2.2.1, hk_.1.2.2.2.2.2.2, fun e_ => Or.elim (ho0.1 k_ e_.symm) (fun hs_ => hk_.2.1 hs_) (fun hn_ => Nat.not_le.2 hk_.2.2 hn_)⟩)); have n2_ := Aside0.mk (blk_kept (zb BK179.out) hkp (fun hs_ => (fun e_ => (Kd.R_ne HO189.out BK179.out (by decide)) e_) hs_)); have n3_ := Aside0.mk (blk_kept (zb BK180.out) hkp (fun hs_ => (fun e_ => (Kd.R_ne HO189.out BK180.out (by decide)) e_) hs_)); have n4_ := Aside0.mk (blk_kept (zb BK181.out) hkp (fun hs_ => (fun e_ => (Kd.R_ne HO189.out BK181.out (by decide)) e_) hs_)); have n5_ := Aside0.mk (Kd.N_mono (ok' := fun k_ => ((P0_0_ k_ ∨ P1_0_ k_) ∨ w.heap.size ≤ k_) ∧ k_ ≠ gb179 ∧ k_ ≠ gb180 ∧ k_ ≠ gb181 ∧ k_ ≠ gb190 ∧ zx v193 k_) (Kd.N_keptB (HO186.out) hkp (fun k_ hk_ hs_ => (hk_.2.1) hs_)) (fun k_ hk_ => ⟨hk_.1.1, hk_.1.2.2.1, hk_.1.2.2.2.1, hk_.1.2.2.2.2.1, hk_.1.2.2.2.2.2, fun e_ => Or.elim (ho0.1 k_ e_.symm) (fun hs_ => hk_.2.1 hs_) (fun hn_ => Nat.not_le.2 hk_.2.2 hn_)⟩)); have n6_ := Aside0.mk (blk_kept (zb BK190.out) hkp (fun hs_ => (fun e_ => (Kd.R_ne HO189.out BK190.out (by decide)) e_) hs_)); have n7_ := Aside0.mk (Kd.R_mono (ok' := fun k_ => (w.heap.size ≤ k_)) ho0 (fun k_ hk_ => Or.elim hk_ (fun hs_ => (HO189.out.1 k_ (hs_).symm)) (fun hn_ => (Nat.le_trans (below_size zl) hn_)))); have n8_ := Aside0.mk (hb); clear HO_180000; clear HO_181000; clear BK179; clear BK180; clear BK181; clear HO186; clear BK190; clear HB; clear HO189; have HO_180000 := n0_; have HO_181000 := n1_; have BK179 := n2_; have BK180 := n3_; have BK181 := n4_; have HO186 := n5_; have BK190 := n6_; have HO194 := n7_; have HB := n8_; clear n0_ n1_ n2_ n3_ n4_ n5_ n6_ n7_ n8_; (try clear hb); (try clear hkp); (try clear ho0); obtain ⟨Ao48, co48, eo48⟩ := Kd.R_slice HO194.out; subst eo48; have hcz49_0 : w47.cell? ⟨gb190, 0, none⟩ = some (.slice Ao37 t187.length co37) := zcl BK190.out 0; have hcz49_1 : w47.cell? ⟨gb190, 1, none⟩ = some (.slice none 0 0) := zcl BK190.out 1; have hfz49_0 := blk_frozen BK190.out 0; have hfz49_1 := blk_frozen BK190.out 1))
    go_loopg [35] kj2 (fun kq v35 w' => ∃ (x35_2 : Int) (x191001_2 : List Int) (u191001 : Value), v35 = .int .i64 x35_2 ∧ Aside0 (impl_Compose.l0 kq t192 (t192.length : Int) x35_2 l0_0 l0_1 l1_0 l1_1 t192 x191001_2 = some (r1, r2, r3)) ∧ Aside0 (kq ≤ kj2) ∧ Aside0 (Kd.R (Kd.int .i64) 3 w' w.heap.size (fun k_ => (w.heap.size ≤ k_) ∧ zx u191001 k_) (.slice Ao48 t192.length co48) t192) ∧ Aside0 (Kd.V (Kd.int .i64) 3 w' w.heap.size (fun k_ => ((P0_0_ k_ ∨ P1_0_ k_) ∨ w.heap.size ≤ k_) ∧ zx (.slice Ao48 t192.length co48) k_ ∧ zx (.slice Ao48 t192.length co48) k_ ∧ zx u191001 k_ ∧ k_ ≠ gb179 ∧ k_ ≠ gb180 ∧ k_ ≠ gb181 ∧ k_ ≠ gb190) (.slice A0_0 l0_0.length c0_0) l0_0) ∧ Aside0 (Kd.V (Kd.int .i64) 3 w' w.heap.size (fun k_ => ((P0_0_ k_ ∨ P1_0_ k_) ∨ w.heap.size ≤ k_) ∧ zx (.slice Ao48 t192.length co48) k_ ∧ zx (.slice Ao48 t192.length co48) k_ ∧ zx u191001 k_ ∧ k_ ≠ gb179 ∧ k_ ≠ gb180 ∧ k_ ≠ gb181 ∧ k_ ≠ gb190) (.slice A1_0 l1_0.length c1_0) l1_0) ∧ Aside0 (Kd.R (Kd.int .i64) 3 w' w.heap.size (fun k_ => (w.heap.size ≤ k_) ∧ zx u191001 k_) (.slice Ao48 t192.length co48) t192) ∧ Aside0 (Kd.R (Kd.int .i64) 3 w' w.heap.size (fun k_ => (w.heap.size ≤ k_) ∧ zx (.slice Ao48 t192.length co48) k_ ∧ zx (.slice Ao48 t192.length co48) k_) u191001 x191001_2) ∧ Aside0 (w'.heap[gb179]? = some (.cells #[(.slice A0_0 l0_0.length c0_0), (.slice A0_1 l0_1.length c0_1)] 49 (0, 0))) ∧ Aside0 (w'.heap[gb180]? = some (.cells #[(.slice A1_0 l1_0.length c1_0), (.slice A1_1 l1_1.length c1_1)] 49 (0, 0))) ∧ Aside0 (w'.heap[gb181]? = some (.cells #[(.slice none 0 0), (.slice none 0 0)] 49 (0, 0))) ∧ Aside0 (w'.heap[gb190]? = some (.cells #[(.slice Ao48 t192.length co48), u191001] 49 (0, 0))) ∧ Aside0 (Below w.heap.size w w'))
    case atStart => exact ⟨(0), (([] : List Int)), (.slice none 0 0), (by first | rfl | (simp; done) | (simp [*]; done)), H', ⟨Nat.le_refl _⟩, ⟨zr (Kd.R_mono (Kd.R_far (p := ⟨gb190, 0, none⟩) (Kd.R_types HO194.out BK190.out (by decide)) (fun _ hk => hk.2) (.slice Ao48 t192.length co48)) (fun _ hk => ⟨hk.1, (by simp [Value.ownBlock])⟩))⟩, ⟨by (with_reducible repeat (first | apply Kd.V_alloc | apply Kd.V_drewN | apply Kd.V_drew)); exact Kd.V_mono (Kd.V_far (p := ⟨gb190, 0, none⟩) (Kd.V_mono HO_180000.out (fun k_ hk => (⟨hk, hk.2.2.2.2.2.1⟩ : _ ∧ k_ ≠ gb190))) (fun _ hk => hk.2) (.slice Ao48 t192.length co48)) (fun _ hk => ⟨hk.1.1, ⟨hk.1.2.2.2.2.2.2, ⟨hk.1.2.2.2.2.2.2, ⟨(by simp [Value.ownBlock]), ⟨hk.1.2.2.1, hk.1.2.2.2.1, hk.1.2.2.2.2.1, hk.1.2.2.2.2.2.1⟩⟩⟩⟩⟩)⟩, ⟨by (with_reducible repeat (first | apply Kd.V_alloc | apply Kd.V_drewN | apply Kd.V_drew)); exact Kd.V_mono (Kd.V_far (p := ⟨gb190, 0, none⟩) (Kd.V_mono HO_181000.out (fun k_ hk => (⟨hk, hk.2.2.2.2.2.1⟩ : _ ∧ k_ ≠ gb190))) (fun _ hk => hk.2) (.slice Ao48 t192.length co48)) (fun _ hk => ⟨hk.1.1, ⟨hk.1.2.2.2.2.2.2, ⟨hk.1.2.2.2.2.2.2, ⟨(by simp [Value.ownBlock]), ⟨hk.1.2.2.1, hk.1.2.2.2.1, hk.1.2.2.2.2.1, hk.1.2.2.2.2.2.1⟩⟩⟩⟩⟩)⟩, ⟨zr (Kd.R_mono (Kd.R_far (p := ⟨gb190, 0, none⟩) (Kd.R_types HO194.out BK190.out (by decide)) (fun _ hk => hk.2) (.slice Ao48 t192.length co48)) (fun _ hk => ⟨hk.1, (by simp [Value.ownBlock])⟩))⟩, ⟨by first | exact Kd.R_nil _ _ _ _ _ | exact Kd.N_nil _ _ _ _ _ | exact Kd.V_nil _ _ _ _ _ | exact Kd.Q_nil _ _ _ _ _ | exact Kd.S_nil _ _ _ _ _⟩, ⟨by (with_reducible repeat (first | refine blk_drewN ?_ _ | refine blk_drew ?_ | refine blk_alloc ?_ _)); refine blk_far ?_ NB179_190.out _; (with_reducible repeat (first | refine blk_drewN ?_ _ | refine blk_drew ?_ | refine blk_alloc ?_ _)); exact BK179.out⟩, ⟨by (with_reducible repeat (first | refine blk_drewN ?_ _ | refine blk_drew ?_ | refine blk_alloc ?_ _)); refine blk_far ?_ NB180_190.out _; (with_reducible repeat (first | refine blk_drewN ?_ _ | refine blk_drew ?_ | refine blk_alloc ?_ _)); exact BK180.out⟩, ⟨by (with_reducible repeat (first | refine blk_drewN ?_ _ | refine blk_drew ?_ | refine blk_alloc ?_ _)); refine blk_far ?_ NB181_190.out _; (with_reducible repeat (first | refine blk_drewN ?_ _ | refine blk_drew ?_ | refine blk_alloc ?_ _)); exact BK181.out⟩, ⟨by (with_reducible repeat (first | refine blk_drewN ?_ _ | refine blk_drew ?_ | refine blk_alloc ?_ _)); refine blk_put (cs := #[.slice Ao37 t187.length co37, .slice none 0 0]) ?_ 0 _ rfl; (with_reducible repeat (first | refine blk_drewN ?_ _ | refine blk_drew ?_ | refine blk_alloc ?_ _)); exact BK190.out⟩, ⟨zl⟩⟩
    case round =>
     clear H'
     try clear c1
     try clear c2
     try clear p2
     try clear c3
     try clear c4
     try clear c5
     try clear c8
     try clear c10
     try clear c11
     try clear c14
     try clear c17
     try clear c18
     try clear c21
     try clear c22
     try clear c23
     try clear c26
     try clear c28
     try clear c29
     try clear c31
     try clear c39
     try clear c40
     try clear c41
     try clear hcz12_0
     try clear hcz12_1
     try clear hcz15_0
     try clear hcz15_1
     try clear hcz19_0
     try clear hcz19_1
     try clear hcz24_0
     try clear hcz24_1
     try clear hcz30_0
     try clear hcz30_1
     try clear hcz32_0
     try clear hcz32_1
     try clear hcz42_0
     try clear hcz42_1
     try clear hcz44_0
     try clear hcz44_1
     try clear hcz46_0
     try clear hcz46_1
     try clear hcz49_0
     try clear hcz49_1
     try clear hfz12_0
     try clear hfz12_1
     try clear hfz15_0
     try clear hfz15_1
     try clear hfz19_0
     try clear hfz19_1
     try clear hfz24_0
     try clear hfz24_1
     try clear hfz30_0
     try clear hfz30_1
     try clear hfz32_0
     try clear hfz32_1
     try clear hfz42_0
     try clear hfz42_1
     try clear hfz44_0
     try clear hfz44_1
     try clear hfz46_0
     try clear hfz46_1
     try clear hfz49_0
     try clear hfz49_1
     try clear p2
     obtain ⟨x35_2, x191001_2, u191001, rfl, HA, HK2, HO_33, HO_180000, HO_181000, HO_191000, HO_191001, BK179, BK180, BK181, BK190, HB⟩ := hrel
     cases gk with
     | zero => exact absurd HA.out (by simp [impl_Compose.l0])
     | succ k2 =>
      have H := HA.out
      clear HA
      simp only [impl_Compose.l0] at H
      by_cases c50 : x35_2 < (t192.length : Int)
      ·rw [if_pos c50] at H
       have c50b0 : decide (x35_2 < (t192.length : Int)) = true := decide_eq_true c50
       clear c50
       by_cases c51 : 0 ≤ x35_2
       ·rw [if_pos c51] at H
        have c51b0 : decide (0 ≤ x35_2) = true := decide_eq_true c51
        clear c51
        by_cases c52 : x35_2 < (t192.length : Int)
        ·rw [if_pos c52] at H
         have c52b0 : decide (x35_2 < (t192.length : Int)) = true := decide_eq_true c52
         clear c52
         replace H := Option.bind_eq_some_iff.mp H
         obtain ⟨t196, A530, H⟩ := H
         replace H : ((impl_ApplyToValue.f k2 l0_0 l0_1 t196).bind fun t197 => ((impl_ApplyToValue.f k2 l1_0 l1_1 t197).bind fun t198 => (if x191001_2.length < 17592186044416 then (impl_Compose.l0 k2 t192 (t192.length : Int) (wrap64 (x35_2 + 1)) l0_0 l0_1 l1_0 l1_1 t192 (x191001_2 ++ [t198])) else (none)))) = some (r1, r2, r3) := H
         have A53 := Aside0.mk A530
         clear A530
         replace H := Option.bind_eq_some_iff.mp H
         obtain ⟨t197, A540, H⟩ := H
         replace H : ((impl_ApplyToValue.f k2 l1_0 l1_1 t197).bind fun t198 => (if x191001_2.length < 17592186044416 then (impl_Compose.l0 k2 t192 (t192.length : Int) (wrap64 (x35_2 + 1)) l0_0 l0_1 l1_0 l1_1 t192 (x191001_2 ++ [t198])) else (none))) = some (r1, r2, r3) := H
         have A54 := Aside0.mk A540
         clear A540
         replace H := Option.bind_eq_some_iff.mp H
         obtain ⟨t198, A550, H⟩ := H
         replace H : (if x191001_2.length < 17592186044416 then (impl_Compose.l0 k2 t192 (t192.length : Int) (wrap64 (x35_2 + 1)) l0_0 l0_1 l1_0 l1_1 t192 (x191001_2 ++ [t198])) else (none)) = some (r1, r2, r3) := H
         have A55 := Aside0.mk A550
         clear A550
         by_cases c56 : x191001_2.length < 17592186044416
         ·rw [if_pos c56] at H
          have LMc56 := Aside0.mk c56
          clear c56
          obtain ⟨y199, hy199⟩ : ∃ y_ : List Int, y_ = (x191001_2 ++ [t198]) := ⟨_, rfl⟩
          replace H : (impl_Compose.l0 k2 t192 (t192.length : Int) (wrap64 (x35_2 + 1)) l0_0 l0_1 l1_0 l1_1 t192 y199) = some (r1, r2, r3) := by first | (rw [hy199]; with_reducible exact H) | (have H2_ := (Option.bind_some _ _).symm.trans H; rw [hy199]; with_reducible exact H2_) | (have H2_ := (Option.bind_some _ _).symm.trans H; with_reducible exact H2_) | with_reducible exact H | (rw [hy199]; exact H) | exact H
          have Ny199 := Aside0.mk hy199
          clear hy199
          have H' := Aside0.mk H
          clear H
          have p195 : 0 ≤ (x35_2 : Int) := zd
          have q195 : x35_2 < (t192.length : Int) := zd
          obtain ⟨ad195, e195, hx195_0⟩ := Kd.at_int (Kd.R_reads' HO_33.out).2.2 x35_2 p195 q195
          cases e195
          replace p195 := eq_true p195
          replace q195 := eq_true q195
          try go_wp2
          replace HO_33 := zm (Kd.R_drew HO_33.out)
          replace HO_180000 := zm (Kd.V_drew HO_180000.out)
          replace HO_181000 := zm (Kd.V_drew HO_181000.out)
          replace HO_191000 := zm (Kd.R_drew HO_191000.out)
          replace HO_191001 := zm (Kd.R_drew HO_191001.out)
          replace BK179 := zm (blk_drew BK179.out)
          replace BK180 := zm (blk_drew BK180.out)
          replace BK181 := zm (blk_drew BK181.out)
          replace BK190 := zm (blk_drew BK190.out)
          replace HB := zm (below_drew1 HB.out)
          refine start_ (n := 12) (S := fun w' => w'.cell? ⟨gb190, 0, none⟩ = some (.slice (some ad195) t192.length co48) ∧ w'.cell? ⟨gb190, 1, none⟩ = some (u191001) ∧ w'.cell? ⟨gb180, 0, none⟩ = some (.slice A1_0 l1_0.length c1_0) ∧ w'.cell? ⟨gb180, 1, none⟩ = some (.slice A1_1 l1_1.length c1_1) ∧ w'.cell? ⟨gb179, 0, none⟩ = some (.slice A0_0 l0_0.length c0_0) ∧ w'.cell? ⟨gb179, 1, none⟩ = some (.slice A0_1 l0_1.length c0_1)) (ds := [11]) #[false, false, false, false, false, false, false, false, false, false, false, false] (by kernel_rfl) rfl rfl ⟨zcl BK190.out 0, zcl BK190.out 1, zcl BK180.out 0, zcl BK180.out 1, zcl BK179.out 0, zcl BK179.out 1⟩ (fun hHeld => ?_); refine with_tabW impl_Compose.tab9 impl_Compose.bits9 (fun HT_ HW_ => ?_)
          generalize wr.drew = w57 at HO_33 HO_180000 HO_181000 HO_191000 HO_191001 BK179 BK180 BK181 BK190 HB hHeld ⊢
          refine zP 0 (some 39) (zA 12 1) (any_of HT_.out (by kernel_rfl)) ?_
          refine zP 4 (some 43) (zA 12 17) (any_of HT_.out (by kernel_rfl)) ?_
          refine take_ (i := 1) (N := some 40) (v := ?_) (a' := ?_) (zA 12 19) rfl rfl (take_ofW HT_.out HW_.out (by kernel_rfl)) (fun _ _ _ h => h) (Or.inl ⟨by rfl, ?_⟩) hHeld ?_ ?_
          rotate_left
          ·rintro w' ⟨s0, s1, s2, s3, s4, s5⟩
           go_simp
           with_reducible rfl
          rotate_left
          ·simp only [Act.put, List.setIfInBounds_toArray, List.set_cons_zero, List.set_cons_succ, i64_w, i32_w]
           rfl
          refine take_ (i := 2) (N := some 41) (v := ?_) (a' := ?_) (zA 12 23) rfl rfl (take_ofW HT_.out HW_.out (by kernel_rfl)) (fun _ _ _ h => h) (Or.inl ⟨by rfl, ?_⟩) hHeld ?_ ?_
          rotate_left
          ·rintro w' ⟨s0, s1, s2, s3, s4, s5⟩
           go_simp
           with_reducible rfl
          rotate_left
          ·simp only [Act.put, List.setIfInBounds_toArray, List.set_cons_zero, List.set_cons_succ, i64_w, i32_w]
           rfl
          refine take_ (i := 3) (N := some 42) (v := ?_) (a' := ?_) (zA 12 31) rfl rfl (take_ofW HT_.out HW_.out (by kernel_rfl)) (fun _ _ _ h => h) (Or.inl ⟨by rfl, ?_⟩) hHeld ?_ ?_
          rotate_left
          ·rintro w' ⟨s0, s1, s2, s3, s4, s5⟩
           go_simp
           with_reducible rfl
          rotate_left
          ·simp only [Act.put, List.setIfInBounds_toArray, List.set_cons_zero, List.set_cons_succ, i64_w, i32_w]
           rfl
          refine one_ (i := 5) (N := some 44) (zA 12 63) rfl rfl (one_of HT_.out (by kernel_rfl)) (by decide) (fun K hK => ?_)
          refine goes_ Try.func59 (by kernel_rfl) rfl #[.int .i64 (rd t192 x35_2)] (by rfl) rfl rfl (by (try simp only [List.map_toArray, List.map_cons, List.map_nil]); first | done | rfl | (simp only [List.length_drop, List.length_take]; rfl)) ?_
          with_reducible refine (impl_NullValue.calls (rd t192 x35_2) t196 _ A53.out).mono ?_
          rintro e w' ⟨rfl, ⟨nd, rfl⟩⟩
          refine ⟨_, rfl, ?_⟩
          refine hK.out _ _ ⟨zcl BK190.out 0, zcl BK190.out 1, zcl BK180.out 0, zcl BK180.out 1, zcl BK179.out 0, zcl BK179.out 1⟩ (fun hHeld => ?_)
          clear hK K
          refine zO (some 44) ?_
          refine one_ (i := 6) (N := some 45) (zA 12 127) rfl rfl (one_of HT_.out (by kernel_rfl)) (by decide) (fun K hK => ?_)
          refine goes_ Try.func58 (by kernel_rfl) rfl #[.agg #[.slice A0_0 l0_0.length c0_0, .slice A0_1 l0_1.length c0_1], .int .i64 t196] (by rfl) rfl rfl (by (try simp only [List.map_toArray, List.map_cons, List.map_nil]); first | done | rfl | (simp only [List.length_drop, List.length_take]; rfl)) ?_
          with_reducible refine (impl_ApplyToValue.calls k2 _ _ l0_0 _ _ l0_1 t196 t197 _ ?side1 ?side2 ?side3 ?side4 A54.out).mono ?_
          (case side1 => repeat (first | exact (Kd.V_reads' HO_180000.out).2.2 | (with_reducible refine Kd.C_alloc ?_ _) | (with_reducible refine Kd.C_drewN ?_ _) | (with_reducible refine Kd.C_drew ?_)))
          (case side2 => exact (Kd.V_reads' HO_180000.out).2.1)
          (case side3 => repeat (first | exact (Kd.C_below HR0_1.out zl) | (with_reducible refine Kd.C_alloc ?_ _) | (with_reducible refine Kd.C_drewN ?_ _) | (with_reducible refine Kd.C_drew ?_)))
          (case side4 => exact HC0_1.out)
          rintro e w58 ⟨rfl, hb⟩
          refine ⟨_, rfl, ?_⟩
          replace HO_33 := zRb HO_33 hb
          replace HO_180000 := zm (Kd.V_below (by (with_reducible repeat (first | apply Kd.V_alloc | apply Kd.V_drewN | apply Kd.V_drew)); exact HO_180000.out) hb)
          replace HO_181000 := zm (Kd.V_below (by (with_reducible repeat (first | apply Kd.V_alloc | apply Kd.V_drewN | apply Kd.V_drew)); exact HO_181000.out) hb)
          replace HO_191000 := zRb HO_191000 hb
          replace HO_191001 := zRb HO_191001 hb
          replace BK179 := zbk BK179 hb
          replace BK180 := zbk BK180 hb
          replace BK181 := zbk BK181 hb
          replace BK190 := zbk BK190 hb
          replace HB := zm (below_step zl hb)
          (try clear hb)
          refine hK.out _ _ ⟨zcl BK190.out 0, zcl BK190.out 1, zcl BK180.out 0, zcl BK180.out 1, zcl BK179.out 0, zcl BK179.out 1⟩ (fun hHeld => ?_)
          clear hK K
          refine zO (some 45) ?_
          refine one_ (i := 7) (N := some 46) (zA 12 255) rfl rfl (one_of HT_.out (by kernel_rfl)) (by decide) (fun K hK => ?_)
          refine goes_ Try.func58 (by kernel_rfl) rfl #[.agg #[.slice A1_0 l1_0.length c1_0, .slice A1_1 l1_1.length c1_1], .int .i64 t197] (by rfl) rfl rfl (by (try simp only [List.map_toArray, List.map_cons, List.map_nil]); first | done | rfl | (simp only [List.length_drop, List.length_take]; rfl)) ?_
          with_reducible refine (impl_ApplyToValue.calls k2 _ _ l1_0 _ _ l1_1 t197 t198 _ ?side1 ?side2 ?side3 ?side4 A55.out).mono ?_
          (case side1 => repeat (first | exact (Kd.V_reads' HO_181000.out).2.2 | (with_reducible refine Kd.C_alloc ?_ _) | (with_reducible refine Kd.C_drewN ?_ _) | (with_reducible refine Kd.C_drew ?_)))
          (case side2 => exact (Kd.V_reads' HO_181000.out).2.1)
          (case side3 => exact zc HR1_1.out)
          (case side4 => exact HC1_1.out)
          rintro e w59 ⟨rfl, hb⟩
          refine ⟨_, rfl, ?_⟩
          replace HO_33 := zRb HO_33 hb
          replace HO_180000 := zm (Kd.V_below (by (with_reducible repeat (first | apply Kd.V_alloc | apply Kd.V_drewN | apply Kd.V_drew)); exact HO_180000.out) hb)
          replace HO_181000 := zm (Kd.V_below (by (with_reducible repeat (first | apply Kd.V_alloc | apply Kd.V_drewN | apply Kd.V_drew)); exact HO_181000.out) hb)
          replace HO_191000 := zRb HO_191000 hb
          replace HO_191001 := zRb HO_191001 hb
          replace BK179 := zbk BK179 hb
          replace BK180 := zbk BK180 hb
          replace BK181 := zbk BK181 hb
          replace BK190 := zbk BK190 hb
          replace HB := zm (below_step zl hb)
          (try clear hb)
          refine hK.out _ _ ⟨zcl BK190.out 0, zcl BK190.out 1, zcl BK180.out 0, zcl BK180.out 1, zcl BK179.out 0, zcl BK179.out 1⟩ (fun hHeld => ?_)
          clear hK K
          refine zO (some 46) ?_
          refine one_ (i := 8) (N := some 47) (zA 12 511) rfl rfl (one_of HT_.out (by kernel_rfl)) (by decide) (fun K hK => ?_)
          refine value_ (w1 := ?_) (v := ?_) (by rfl) rfl ?_ ?_
          rotate_left 2
          ·go_simp
           constructor
           ·rfl
           ·rfl
          refine hK.out _ _ ⟨(blk_cell (blk_alloc BK190.out _) 0).trans rfl, (blk_cell (blk_alloc BK190.out _) 1).trans rfl, (blk_cell (blk_alloc BK180.out _) 0).trans rfl, (blk_cell (blk_alloc BK180.out _) 1).trans rfl, (blk_cell (blk_alloc BK179.out _) 0).trans rfl, (blk_cell (blk_alloc BK179.out _) 1).trans rfl⟩ (fun hHeld => ?_)
          clear hK K
          refine zO (some 47) ?_
          refine one_ (i := 9) (N := some 48) (zA 12 1023) rfl rfl (one_of HT_.out (by kernel_rfl)) (by decide) (fun K hK => ?_)
          refine Kd.R_append_step (Kd.int .i64) (w0 := w) w.heap.size (by rfl) (.tmp 40) (.tmp 47) 34 3 (.int .i64 0) 8 rfl Try.underlying34 info3 rfl (by decide) (by omega) u191001 x191001_2 t198 [.int .i64 t198] (fun k_ => (w.heap.size ≤ k_) ∧ zx (.slice (some ad195) t192.length co48) k_ ∧ zx (.slice (some ad195) t192.length co48) k_) (fun _ => False) rfl rfl ?aP (fun _ hk => hk.elim) ?aF ?aO ?aB ?aS ?aL ?_
          (case aP => exact rfl)
          (case aB => exact zl)
          (case aF => exact (fun k_ hk => ⟨(Nat.le_trans (below_size zl) hk), Kd.fresh' (Kd.R_lt (zr HO_33.out)) k_ hk, Kd.fresh' (Kd.R_lt (zr HO_191000.out)) k_ hk⟩))
          (case aO => exact (zr HO_191001.out))
          (case aS => exact (below_size zl))
          (case aL => have := LMc56.out; omega)
          intro v200 w60 ho hb hg hat
          rw [← Ny199.out] at ho
          have n0_ := Aside0.mk (Kd.R_after (ok := (fun k_ => (w.heap.size ≤ k_))) (zr HO_33.out) hg hat)
          have n1_ := Aside0.mk (Kd.V_afterv (ok := (fun k_ => ((P0_0_ k_ ∨ P1_0_ k_) ∨ w.heap.size ≤ k_) ∧ zx (.slice (some ad195) t192.length co48) k_ ∧ zx (.slice (some ad195) t192.length co48) k_ ∧ k_ ≠ gb179 ∧ k_ ≠ gb180 ∧ k_ ≠ gb181 ∧ k_ ≠ gb190)) (by (with_reducible repeat (first | apply Kd.V_alloc | apply Kd.V_drewN | apply Kd.V_drew)); exact Kd.V_mono HO_180000.out (fun _ hk => ⟨⟨hk.1, hk.2.1, hk.2.2.1, hk.2.2.2.2.1, hk.2.2.2.2.2.1, hk.2.2.2.2.2.2.1, hk.2.2.2.2.2.2.2⟩, hk.2.2.2.1⟩)) hg hat)
          have n2_ := Aside0.mk (Kd.V_afterv (ok := (fun k_ => ((P0_0_ k_ ∨ P1_0_ k_) ∨ w.heap.size ≤ k_) ∧ zx (.slice (some ad195) t192.length co48) k_ ∧ zx (.slice (some ad195) t192.length co48) k_ ∧ k_ ≠ gb179 ∧ k_ ≠ gb180 ∧ k_ ≠ gb181 ∧ k_ ≠ gb190)) (by (with_reducible repeat (first | apply Kd.V_alloc | apply Kd.V_drewN | apply Kd.V_drew)); exact Kd.V_mono HO_181000.out (fun _ hk => ⟨⟨hk.1, hk.2.1, hk.2.2.1, hk.2.2.2.2.1, hk.2.2.2.2.2.1, hk.2.2.2.2.2.2.1, hk.2.2.2.2.2.2.2⟩, hk.2.2.2.1⟩)) hg hat)
          have n3_ := Aside0.mk (Kd.R_after (ok := (fun k_ => (w.heap.size ≤ k_))) (zr HO_191000.out) hg hat)
          have n4_ := Aside0.mk (blk_grown (g := gb179) (o := .cells #[.slice A0_0 l0_0.length c0_0, .slice A0_1 l0_1.length c0_1] 49 (0, 0)) (zb BK179.out) hg (Kd.R_ne HO_191001.out BK179.out (by decide)))
          have n5_ := Aside0.mk (blk_grown (g := gb180) (o := .cells #[.slice A1_0 l1_0.length c1_0, .slice A1_1 l1_1.length c1_1] 49 (0, 0)) (zb BK180.out) hg (Kd.R_ne HO_191001.out BK180.out (by decide)))
          have n6_ := Aside0.mk (blk_grown (g := gb181) (o := .cells #[.slice none 0 0, .slice none 0 0] 49 (0, 0)) (zb BK181.out) hg (Kd.R_ne HO_191001.out BK181.out (by decide)))
          have n7_ := Aside0.mk (blk_grown (g := gb190) (o := .cells #[.slice (some ad195) t192.length co48, u191001] 49 (0, 0)) (zb BK190.out) hg (Kd.R_ne HO_191001.out BK190.out (by decide)))
          have n8_ := Aside0.mk (hb)
          have n9_ := Aside0.mk (ho)
          clear HO_33
          clear HO_180000
          clear HO_181000
          clear HO_191000
          clear BK179
          clear BK180
          clear BK181
          clear BK190
          clear HB
          clear HO_191001
          have HO_33 := n0_
          have HO_180000 := n1_
          have HO_181000 := n2_
          have HO_191000 := n3_
          have BK179 := n4_
          have BK180 := n5_
          have BK181 := n6_
          have BK190 := n7_
          have HB := n8_
          have HO201 := n9_
          clear n0_ n1_ n2_ n3_ n4_ n5_ n6_ n7_ n8_ n9_
          clear ho hb hg hat
          obtain ⟨Ao61, co61, eo61⟩ := Kd.R_slice HO201.out
          (first | subst eo61 | (injection eo61 with f1_ f2_ f3_; have f4_ := f1_.symm; have f5_ := f3_.symm; clear f1_ f2_ f3_; subst f4_; subst f5_))
          refine hK.out _ _ ⟨zcl BK190.out 0, zcl BK190.out 1, zcl BK180.out 0, zcl BK180.out 1, zcl BK179.out 0, zcl BK179.out 1⟩ (fun hHeld => ?_)
          clear hK K
          refine zO (some 48) ?_
          refine zP 10 (some 49) (zA 12 2047) (any_of HT_.out (by kernel_rfl)) ?_
          refine last_ (i := 11) (N := none) (zA 12 4095) rfl rfl (one_of HT_.out (by kernel_rfl)) (by decide) (fun K hK => ?_)
          have hs62 : w60.cell? ⟨gb190, 1, none⟩ = some (u191001) := zcl BK190.out 1
          have hfs62 := blk_frozen BK190.out 1
          have hns62_0 := NB179_190.out
          have hns62_1 := NB180_190.out
          have hns62_2 := NB181_190.out
          have hms62_0 := NB190_179.out
          have hms62_1 := NB190_180.out
          have hms62_2 := NB190_181.out
          refine skip_ (w1 := ?_) (by rfl) rfl ?_ ?_
          rotate_left
          ·go_simp
           rfl
          refine hK.out _ _ ?_
          clear hK K
          refine done_ (done_of HT_.out (by kernel_rfl)) ?_
          try go_wp2
          go_roundg k2
          case measure => have := HJ2.out; have := HK2.out; omega
          case rel => exact ⟨(wrap64 (x35_2 + 1)), (y199), (.slice Ao61 y199.length co61), (by first | rfl | (simp; done) | (simp [*]; done)), H', ⟨by have := HJ2.out; have := HK2.out; omega⟩, ⟨zr (Kd.R_mono (Kd.R_far (p := ⟨gb190, 1, none⟩) (Kd.R_types HO_33.out BK190.out (by decide)) (fun _ hk => hk.2) (.slice Ao61 y199.length co61)) (fun _ hk => ⟨hk.1.1, hk.1.2⟩))⟩, ⟨by (with_reducible repeat (first | apply Kd.V_alloc | apply Kd.V_drewN | apply Kd.V_drew)); exact Kd.V_mono (Kd.V_far (p := ⟨gb190, 1, none⟩) (Kd.V_mono HO_180000.out (fun k_ hk => (⟨hk, hk.1.2.2.2.2.2.2⟩ : _ ∧ k_ ≠ gb190))) (fun _ hk => hk.2) (.slice Ao61 y199.length co61)) (fun _ hk => ⟨hk.1.1.1, hk.1.1.2.1, hk.1.1.2.2.1, hk.1.2, hk.1.1.2.2.2.1, hk.1.1.2.2.2.2.1, hk.1.1.2.2.2.2.2.1, hk.1.1.2.2.2.2.2.2⟩)⟩, ⟨by (with_reducible repeat (first | apply Kd.V_alloc | apply Kd.V_drewN | apply Kd.V_drew)); exact Kd.V_mono (Kd.V_far (p := ⟨gb190, 1, none⟩) (Kd.V_mono HO_181000.out (fun k_ hk => (⟨hk, hk.1.2.2.2.2.2.2⟩ : _ ∧ k_ ≠ gb190))) (fun _ hk => hk.2) (.slice Ao61 y199.length co61)) (fun _ hk => ⟨hk.1.1.1, hk.1.1.2.1, hk.1.1.2.2.1, hk.1.2, hk.1.1.2.2.2.1, hk.1.1.2.2.2.2.1, hk.1.1.2.2.2.2.2.1, hk.1.1.2.2.2.2.2.2⟩)⟩, ⟨zr (Kd.R_mono (Kd.R_far (p := ⟨gb190, 1, none⟩) (Kd.R_types HO_191000.out BK190.out (by decide)) (fun _ hk => hk.2) (.slice Ao61 y199.length co61)) (fun _ hk => ⟨hk.1.1, hk.1.2⟩))⟩, ⟨zr (Kd.R_mono (Kd.R_far (p := ⟨gb190, 1, none⟩) (Kd.R_types HO201.out BK190.out (by decide)) (fun _ hk => hk.2) (.slice Ao61 y199.length co61)) (fun _ hk => ⟨hk.1.1, hk.1.2.1, hk.1.2.2⟩))⟩, ⟨by (with_reducible repeat (first | refine blk_drewN ?_ _ | refine blk_drew ?_ | refine blk_alloc ?_ _)); refine blk_far ?_ NB179_190.out _; (with_reducible repeat (first | refine blk_drewN ?_ _ | refine blk_drew ?_ | refine blk_alloc ?_ _)); exact BK179.out⟩, ⟨by (with_reducible repeat (first | refine blk_drewN ?_ _ | refine blk_drew ?_ | refine blk_alloc ?_ _)); refine blk_far ?_ NB180_190.out _; (with_reducible repeat (first | refine blk_drewN ?_ _ | refine blk_drew ?_ | refine blk_alloc ?_ _)); exact BK180.out⟩, ⟨by (with_reducible repeat (first | refine blk_drewN ?_ _ | refine blk_drew ?_ | refine blk_alloc ?_ _)); refine blk_far ?_ NB181_190.out _; (with_reducible repeat (first | refine blk_drewN ?_ _ | refine blk_drew ?_ | refine blk_alloc ?_ _)); exact BK181.out⟩, ⟨by (with_reducible repeat (first | refine blk_drewN ?_ _ | refine blk_drew ?_ | refine blk_alloc ?_ _)); refine blk_put (cs := #[.slice (some ad195) t192.length co48, u191001]) ?_ 1 _ rfl; (with_reducible repeat (first | refine blk_drewN ?_ _ | refine blk_drew ?_ | refine blk_alloc ?_ _)); exact BK190.out⟩, ⟨zl⟩⟩
         ·rw [if_neg c56] at H
          exact absurd H (by simp)
        ·rw [if_neg c52] at H
         exact absurd H (by simp)
       ·rw [if_neg c51] at H
        exact absurd H (by simp)
      ·rw [if_neg c50] at H
       have c50b0 : decide (x35_2 < (t192.length : Int)) = false := decide_eq_false c50
       clear c50
       simp only [Option.some.injEq, Prod.mk.injEq] at H
       obtain ⟨rfl, rfl, rfl⟩ := H
       have hnb63 := NB190_179.out
       have hnc63 := NB179_190.out
       have hnb64 := NB190_180.out
       have hnc64 := NB180_190.out
       have hnb65 := NB190_181.out
       have hnc65 := NB181_190.out
       have hcz66_0 : wr.cell? ⟨gb190, 0, none⟩ = some (.slice Ao48 t192.length co48) := zcl BK190.out 0
       have hcz66_1 : wr.cell? ⟨gb190, 1, none⟩ = some (u191001) := zcl BK190.out 1
       have hfz66_0 := blk_frozen BK190.out 0
       have hfz66_1 := blk_frozen BK190.out 1
       have hnb67 := NB181_179.out
       have hnc67 := NB179_181.out
       have hnb68 := NB181_180.out
       have hnc68 := NB180_181.out
       have hcz69_0 : wr.cell? ⟨gb181, 0, none⟩ = some (.slice none 0 0) := zcl BK181.out 0
       have hcz69_1 : wr.cell? ⟨gb181, 1, none⟩ = some (.slice none 0 0) := zcl BK181.out 1
       have hfz69_0 := blk_frozen BK181.out 0
       have hfz69_1 := blk_frozen BK181.out 1
       obtain ⟨Ao70, co70, eo70⟩ := Kd.R_slice HO_191001.out
       subst eo70
       go_wp2
       refine bodyPost_ret (results_ct rfl _ _ gb181 49 #[.slice Ao48 t192.length co48, .slice Ao70 x191001_2.length co70] (0, 0) _ rfl (by (with_reducible repeat (first | refine blk_drewN ?_ _ | refine blk_drew ?_ | refine blk_alloc ?_ _)); refine blk_put (cs := #[.slice Ao48 t192.length co48, .slice none 0 0]) ?_ 1 _ rfl; (with_reducible repeat (first | refine blk_drewN ?_ _ | refine blk_drew ?_ | refine blk_alloc ?_ _)); refine blk_put (cs := #[.slice none 0 0, .slice none 0 0]) ?_ 0 _ rfl; (with_reducible repeat (first | refine blk_drewN ?_ _ | refine blk_drew ?_ | refine blk_alloc ?_ _)); exact BK181.out) Try.underlying49 rfl (by kernel_rfl)) rfl ?_
       exact ⟨_, _, by first | rfl | (simp [errW_none, errW_some] <;> rfl) | (simp [*, errW_none, errW_some] <;> rfl), by (with_reducible repeat (first | apply Kd.R_alloc | apply Kd.R_drewN | apply Kd.R_drew)); exact Kd.R_mono (Kd.R_far (p := ⟨gb181, 1, none⟩) (Kd.R_far (p := ⟨gb181, 0, none⟩) (Kd.R_types HO_191000.out BK181.out (by decide)) (fun _ hk => hk.2) (.slice Ao48 t192.length co48)) (fun _ hk => hk.2) (.slice Ao70 x191001_2.length co70)) (fun _ hk => ⟨hk.1.1, hk.1.2⟩), by (with_reducible repeat (first | apply Kd.R_alloc | apply Kd.R_drewN | apply Kd.R_drew)); exact Kd.R_mono (Kd.R_far (p := ⟨gb181, 1, none⟩) (Kd.R_far (p := ⟨gb181, 0, none⟩) (Kd.R_types HO_191001.out BK181.out (by decide)) (fun _ hk => hk.2) (.slice Ao48 t192.length co48)) (fun _ hk => hk.2) (.slice Ao70 x191001_2.length co70)) (fun _ hk => ⟨hk.1.1, hk.1.2.2⟩), zl⟩

/-! ### laws_eqIntS: function 18 -/
def laws_eqIntS.l0 : Nat → List Int → List Int → Int → Option (Bool)
 | 0, _, _, _ => none
 | k + 1, x0, x1, x5 => if x5 < (x0.length : Int) then (if 0 ≤ x5 then (if x5 < (x1.length : Int) then (if (rd x0 x5) = (rd x1 x5) then (laws_eqIntS.l0 k x0 x1 (wrap64 (x5 + 1))) else (some false)) else (none)) else (none)) else (some true)
def laws_eqIntS.f (k : Nat) (l0 : List Int) (l1 : List Int) : Option (Bool) := if (l0.length : Int) = (l1.length : Int) then (laws_eqIntS.l0 k l0 l1 0) else (some false)
theorem laws_eqIntS.mono_l : ∀ k, (∀ y0 y1 y2, LeO (laws_eqIntS.l0 k y0 y1 y2) (laws_eqIntS.l0 (k + 1) y0 y1 y2))
 | 0 => fun _ _ _ r h => by simp [laws_eqIntS.l0] at h
 | k + 1 => by
  have ih0 := laws_eqIntS.mono_l k
  ·intro y0 y1 y2
   unfold laws_eqIntS.l0
   repeat' first
   | (with_reducible exact ih0 _ _ _)
   | (with_reducible exact LeO.refl _)
   | (with_reducible exact LeO.none _)
   | (with_reducible refine LeO.ite ?_ ?_)
   | (with_reducible refine LeO.bind ?_ (fun _ => ?_))
   | exact ih0 _ _ _
   | exact LeO.none _
   | refine LeO.ite ?_ ?_
   | refine LeO.bind ?_ (fun _ => ?_)
theorem laws_eqIntS.mono : ∀ a0 a1 k, LeO (laws_eqIntS.f k a0 a1) (laws_eqIntS.f (k + 1) a0 a1) := by
 intro a0 a1 k
 have ih0 := laws_eqIntS.mono_l k
 unfold laws_eqIntS.f
 repeat' first
   | (with_reducible exact ih0 _ _ _)
   | (with_reducible exact LeO.refl _)
   | (with_reducible exact LeO.none _)
   | (with_reducible refine LeO.ite ?_ ?_)
   | (with_reducible refine LeO.bind ?_ (fun _ => ?_))
   | exact ih0 _ _ _
   | exact LeO.none _
   | refine LeO.ite ?_ ?_
   | refine LeO.bind ?_ (fun _ => ?_)
set_option maxHeartbeats 8000000 in
set_option maxRecDepth 100000 in
theorem laws_eqIntS.calls (k : Nat) (A0 : Option Addr) (c0 : Nat) (l0 : List Int) (A1 : Option Addr) (c1 : Nat) (l1 : List Int) (r : Bool) (w : World) (hr0 : Kd.C (Kd.int .i64) w A0 l0.length l0) (hc0 : l0.length ≤ c0) (hr1 : Kd.C (Kd.int .i64) w A1 l1.length l1) (hc1 : l1.length ≤ c1) (h : laws_eqIntS.f k l0 l1 = some r) :
  Calls Try.prog 18 #[.slice A0 l0.length c0, .slice A1 l1.length c1] w fun e w' => e = .returned (.bool r) ∧ Drawn0 w w' := by
 have HR0 := Aside0.mk hr0
 have HC0 := Aside0.mk hc0
 clear hr0 hc0
 have HR1 := Aside0.mk hr1
 have HC1 := Aside0.mk hc1
 clear hr1 hc1
 have H : (if (l0.length : Int) = (l1.length : Int) then (laws_eqIntS.l0 k l0 l1 0) else (some false)) = some r := h
 clear h
 by_cases c3 : (l0.length : Int) = (l1.length : Int)
 ·rw [if_pos c3] at H
  have c3b0 : ((l0.length : Int) == (l1.length : Int)) = true := beq_iff_eq.mpr c3
  have c3b1 : ((l0.length : Int) != (l1.length : Int)) = false := bne_eq_false_iff_eq.mpr c3
  have c3b2 : (l0.length == l1.length) = true := by first | simpa using c3 | (simp at c3 ⊢; omega)
  clear c3
  have H' := Aside0.mk H
  clear H
  go_enter Try.func18, Try.ntmps18
  go_wp2
  repeat (go_quiet (fail); try go_wp2)
  go_loopg [5] k (fun kq v5 w' => ∃ (x5_1 : Int), v5 = .int .i64 x5_1 ∧ Aside0 (laws_eqIntS.l0 kq l0 l1 x5_1 = some r) ∧ Aside0 (kq ≤ k) ∧ Drawn0 w w')
  case atStart => exact ⟨(0), (by first | rfl | (simp; done) | (simp [*]; done)), H', ⟨Nat.le_refl _⟩, by repeat (first | exact Drawn0.refl _ | apply Drawn0.step)⟩
  case round =>
   clear H'
   try clear c1
   try clear p2
   try clear c3
   try clear c3b0
   try clear c3b1
   try clear c3b2
   obtain ⟨x5_1, rfl, HA, HK1, ⟨m1, rfl⟩⟩ := hrel
   cases gk with
   | zero => exact absurd HA.out (by simp [laws_eqIntS.l0])
   | succ k1 =>
    have H := HA.out
    clear HA
    simp only [laws_eqIntS.l0] at H
    by_cases c4 : x5_1 < (l0.length : Int)
    ·rw [if_pos c4] at H
     have c4b0 : decide (x5_1 < (l0.length : Int)) = true := decide_eq_true c4
     clear c4
     by_cases c5 : 0 ≤ x5_1
     ·rw [if_pos c5] at H
      have c5b0 : decide (0 ≤ x5_1) = true := decide_eq_true c5
      clear c5
      by_cases c6 : x5_1 < (l1.length : Int)
      ·rw [if_pos c6] at H
       have c6b0 : decide (x5_1 < (l1.length : Int)) = true := decide_eq_true c6
       clear c6
       by_cases c7 : (rd l0 x5_1) = (rd l1 x5_1)
       ·rw [if_pos c7] at H
        have c7b0 : ((rd l0 x5_1) == (rd l1 x5_1)) = true := beq_iff_eq.mpr c7
        have c7b1 : ((rd l0 x5_1) != (rd l1 x5_1)) = false := bne_eq_false_iff_eq.mpr c7
        clear c7
        have H' := Aside0.mk H
        clear H
        have p202 : 0 ≤ (x5_1 : Int) := zd
        have q202 : x5_1 < (l0.length : Int) := zd
        obtain ⟨ad202, e202, hx202_0⟩ := Kd.at_int HR0.out x5_1 p202 q202
        cases e202
        replace p202 := eq_true p202
        replace q202 := eq_true q202
        have p203 : 0 ≤ (x5_1 : Int) := zd
        have q203 : x5_1 < (l1.length : Int) := zd
        obtain ⟨ad203, e203, hx203_0⟩ := Kd.at_int HR1.out x5_1 p203 q203
        cases e203
        replace p203 := eq_true p203
        replace q203 := eq_true q203
        go_wp2
        repeat (go_quiet (fail); try go_wp2)
        go_roundg k1
        case measure => have := HK1.out; omega
        case rel => exact ⟨(wrap64 (x5_1 + 1)), (by first | rfl | (simp; done) | (simp [*]; done)), H', ⟨by have := HK1.out; omega⟩, by repeat (first | exact Drawn0.refl _ | apply Drawn0.step)⟩
       ·rw [if_neg c7] at H
        have c7b0 : ((rd l0 x5_1) == (rd l1 x5_1)) = false := beq_eq_false_iff_ne.mpr c7
        have c7b1 : ((rd l0 x5_1) != (rd l1 x5_1)) = true := bne_iff_ne.mpr c7
        obtain rfl := Option.some.inj H
        have p202 : 0 ≤ (x5_1 : Int) := zd
        have q202 : x5_1 < (l0.length : Int) := zd
        obtain ⟨ad202, e202, hx202_0⟩ := Kd.at_int HR0.out x5_1 p202 q202
        cases e202
        replace p202 := eq_true p202
        replace q202 := eq_true q202
        have p203 : 0 ≤ (x5_1 : Int) := zd
        have q203 : x5_1 < (l1.length : Int) := zd
        obtain ⟨ad203, e203, hx203_0⟩ := Kd.at_int HR1.out x5_1 p203 q203
        cases e203
        replace p203 := eq_true p203
        replace q203 := eq_true q203
        go_wp2
        repeat (go_quiet (fail); try go_wp2)
        go_ret
        exact ⟨by first | rfl | (simp; done) | (simp [*]; done), by repeat (first | exact Drawn0.refl _ | apply Drawn0.step)⟩
      ·rw [if_neg c6] at H
       exact absurd H (by simp)
     ·rw [if_neg c5] at H
      exact absurd H (by simp)
    ·rw [if_neg c4] at H
     have c4b0 : decide (x5_1 < (l0.length : Int)) = false := decide_eq_false c4
     clear c4
     obtain rfl := Option.some.inj H
     go_wp2
     repeat (go_quiet (fail); try go_wp2)
     go_ret
     exact ⟨by first | rfl | (simp; done) | (simp [*]; done), by repeat (first | exact Drawn0.refl _ | apply Drawn0.step)⟩
 ·rw [if_neg c3] at H
  have c3b0 : ((l0.length : Int) == (l1.length : Int)) = false := beq_eq_false_iff_ne.mpr c3
  have c3b1 : ((l0.length : Int) != (l1.length : Int)) = true := bne_iff_ne.mpr c3
  have c3b2 : (l0.length == l1.length) = false := by first | simpa using c3 | (simp at c3 ⊢; omega)
  obtain rfl := Option.some.inj H
  go_enter Try.func18, Try.ntmps18
  go_wp2
  repeat (go_quiet (fail); try go_wp2)
  go_ret
  exact ⟨by first | rfl | (simp; done) | (simp [*]; done), by repeat (first | exact Drawn0.refl _ | apply Drawn0.step)⟩

end Go.Proofs.Ytjphbdnfbkfgiaa.PFnExactCompose
