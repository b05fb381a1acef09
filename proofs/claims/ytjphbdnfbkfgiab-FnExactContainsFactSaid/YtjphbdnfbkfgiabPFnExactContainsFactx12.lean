-- Written by a program of this session: the kit's printer, turned by wip/mkprint.py.
import Derived.Test.YtjphbdnfbkfgiabPFnExactContainsFactx0
import Derived.Test.YtjphbdnfbkfgiabPFnExactContainsFactx1
import Derived.Test.YtjphbdnfbkfgiabPFnExactContainsFactx2
import Derived.Test.YtjphbdnfbkfgiabPFnExactContainsFactx6
import Derived.Test.YtjphbdnfbkfgiabPFnExactContainsFactx11
namespace Go.Proofs.Ytjphbdnfbkfgiab.PFnExactContainsFact
open Go.RowKit Go.Proofs.YtjphbdnfbkfgiabW.PrintWords Go.Proofs.YtjphbdnfbkfgiabW.PrintLast Go.Proofs.YtjphbdnfbkfgiabW.PrintMore
attribute [local go_sem] max2_int min2_int max_two min_two max_three min_three max_four min_four   -- for this text's walks alone
set_option linter.unusedVariables false
set_option linter.unusedSimpArgs false

/-! ### laws_eqFactS: function 30 -/
def laws_eqFactS.l0 : Nat → List (S44) → List (S44) → Int → Option (Bool)
 | 0, _, _, _ => none
 | k + 1, x0, x1, x5 => if x5 < (x0.length : Int) then (if 0 ≤ x5 then (if x5 < (x1.length : Int) then ((laws_eqFact.f k ((rd_T44 x0 x5).f0) ((rd_T44 x0 x5).f1) ((rd_T44 x1 x5).f0) ((rd_T44 x1 x5).f1)).bind fun t340 => (if t340 = true then (laws_eqFactS.l0 k x0 x1 (wrap64 (x5 + 1))) else (some false))) else (none)) else (none)) else (some true)
def laws_eqFactS.f (k : Nat) (l0 : List (S44)) (l1 : List (S44)) : Option (Bool) := if (l0.length : Int) = (l1.length : Int) then (laws_eqFactS.l0 k l0 l1 0) else (some false)
theorem laws_eqFactS.mono_l : ∀ k, (∀ y0 y1 y2, LeO (laws_eqFactS.l0 k y0 y1 y2) (laws_eqFactS.l0 (k + 1) y0 y1 y2))
 | 0 => fun _ _ _ r h => by simp [laws_eqFactS.l0] at h
 | k + 1 => by
  have ih0 := laws_eqFactS.mono_l k
  ·intro y0 y1 y2
   unfold laws_eqFactS.l0
   repeat' first
   | (with_reducible exact ih0 _ _ _)
   | (with_reducible exact laws_eqFact.mono _ _ _ _ _)
   | (with_reducible exact LeO.refl _)
   | (with_reducible exact LeO.none _)
   | (with_reducible refine LeO.ite ?_ ?_)
   | (with_reducible refine LeO.bind ?_ (fun _ => ?_))
   | exact ih0 _ _ _
   | exact laws_eqFact.mono _ _ _ _ _
   | exact LeO.none _
   | refine LeO.ite ?_ ?_
   | refine LeO.bind ?_ (fun _ => ?_)
theorem laws_eqFactS.mono : ∀ a0 a1 k, LeO (laws_eqFactS.f k a0 a1) (laws_eqFactS.f (k + 1) a0 a1) := by
 intro a0 a1 k
 have ih0 := laws_eqFactS.mono_l k
 unfold laws_eqFactS.f
 repeat' first
   | (with_reducible exact ih0 _ _ _)
   | (with_reducible exact laws_eqFact.mono _ _ _ _ _)
   | (with_reducible exact LeO.refl _)
   | (with_reducible exact LeO.none _)
   | (with_reducible refine LeO.ite ?_ ?_)
   | (with_reducible refine LeO.bind ?_ (fun _ => ?_))
   | exact ih0 _ _ _
   | exact laws_eqFact.mono _ _ _ _ _
   | exact LeO.none _
   | refine LeO.ite ?_ ?_
   | refine LeO.bind ?_ (fun _ => ?_)
def laws_eqFactS.T6 : Bool × List (List Nat × List Nat) := (true, [([], []), ([], []), ([0, 1], [0, 1]), ([2], [2]), ([], []), ([], []), ([4, 5], [4, 5]), ([6], [6]), ([3, 7], [3, 7]), ([8], [8])])
def laws_eqFactS.B6 : List Nat := [0, 0, 3, 7, 0, 0, 48, 112, 255, 511]
theorem laws_eqFactS.tab6 : rtab .any (opsOf Try.f30 6) = laws_eqFactS.T6 := by kernel_rfl
theorem laws_eqFactS.bits6 : waitsOk laws_eqFactS.T6.2 laws_eqFactS.B6 = true := by kernel_rfl
set_option maxHeartbeats 8000000 in
set_option maxRecDepth 100000 in
theorem laws_eqFactS.calls (k : Nat) (A0 : Option Addr) (c0 : Nat) (l0 : List (S44)) (A1 : Option Addr) (c1 : Nat) (l1 : List (S44)) (r : Bool) (w : World) (hr0 : Kd.C k44 w A0 l0.length l0) (hc0 : l0.length ≤ c0) (hr1 : Kd.C k44 w A1 l1.length l1) (hc1 : l1.length ≤ c1) (h : laws_eqFactS.f k l0 l1 = some r) :
  Calls Try.prog 30 #[.slice A0 l0.length c0, .slice A1 l1.length c1] w fun e w' => e = .returned (.bool r) ∧ Below w.heap.size w w' := by
 have hu44 := Try.underlying44
 have HR0 := Aside0.mk hr0
 have HC0 := Aside0.mk hc0
 clear hr0 hc0
 have HR1 := Aside0.mk hr1
 have HC1 := Aside0.mk hc1
 clear hr1 hc1
 have HB := Aside0.mk (Below.refl w.heap.size w)
 have H : (if (l0.length : Int) = (l1.length : Int) then (laws_eqFactS.l0 k l0 l1 0) else (some false)) = some r := h
 clear h
 by_cases c3 : (l0.length : Int) = (l1.length : Int)
 ·rw [if_pos c3] at H
  have c3b0 : ((l0.length : Int) == (l1.length : Int)) = true := beq_iff_eq.mpr c3
  have c3b1 : ((l0.length : Int) != (l1.length : Int)) = false := bne_eq_false_iff_eq.mpr c3
  have c3b2 : (l0.length == l1.length) = true := by first | simpa using c3 | (simp at c3 ⊢; omega)
  clear c3
  have H' := Aside0.mk H
  clear H
  go_enter Try.func30, Try.ntmps30
  go_wp2
  go_loopg [5] k (fun kq v5 w' => ∃ (x5_1 : Int), v5 = .int .i64 x5_1 ∧ Aside0 (laws_eqFactS.l0 kq l0 l1 x5_1 = some r) ∧ Aside0 (kq ≤ k) ∧ Aside0 (Below w.heap.size w w'))
  case atStart => exact ⟨(0), (by first | rfl | (simp; done) | (simp [*]; done)), H', ⟨Nat.le_refl _⟩, ⟨zl⟩⟩
  case round =>
   clear H'
   try clear c1
   try clear p2
   try clear c3
   try clear c3b0
   try clear c3b1
   try clear c3b2
   obtain ⟨x5_1, rfl, HA, HK1, HB⟩ := hrel
   cases gk with
   | zero => exact absurd HA.out (by simp [laws_eqFactS.l0])
   | succ k1 =>
    have H := HA.out
    clear HA
    simp only [laws_eqFactS.l0] at H
    by_cases c4 : x5_1 < (l0.length : Int)
    ·rw [if_pos c4] at H
     have c4b0 : decide (x5_1 < (l0.length : Int)) = true := decide_eq_true c4
     clear c4
     by_cases c5 : 0 ≤ x5_1
     ·rw [if_pos c5] at H
      have c5b0 : decide (0 ≤ x5_1) = true := decide_eq_true c5
      clear c5
      by_cases c6 : x5_1 < (l1.length : Int)
      ·rw [if_pos c6] at H
       have c6b0 : decide (x5_1 < (l1.length : Int)) = true := decide_eq_true c6
       clear c6
       replace H := Option.bind_eq_some_iff.mp H
       obtain ⟨t340, A70, H⟩ := H
       replace H : (if t340 = true then (laws_eqFactS.l0 k1 l0 l1 (wrap64 (x5_1 + 1))) else (some false)) = some r := H
       have A7 := Aside0.mk A70
       clear A70
       by_cases c8 : t340 = true
       ·subst c8
        have H1 : (laws_eqFactS.l0 k1 l0 l1 (wrap64 (x5_1 + 1))) = some r := by first | with_reducible rfl | (rw [if_pos rfl] at H; exact H)
        clear H
        have H := H1
        clear H1
        have H' := Aside0.mk H
        clear H
        try go_wp2
        replace HB := zm (below_drew1 HB.out)
        have p338 : 0 ≤ (x5_1 : Int) := zd
        have q338 : x5_1 < (l0.length : Int) := zd
        obtain ⟨ad338, A338_1, c338_1, e338, hx338_0, hx338_1, hl338_1, hi338_1⟩ := at_T44 HR0.out x5_1 p338 q338
        have hw338_1 := hx338_1
        have hw338_0 := hx338_0
        cases e338
        replace hx338_0 := (HB.out.cell (World.block_lt_of_cell? w _ hx338_0)).trans hx338_0
        replace hx338_1 := (HB.out.cell (World.block_lt_of_cell? w _ hx338_1)).trans hx338_1
        have HR338_1 := Aside0.mk hi338_1
        have HC338_1 := Aside0.mk hl338_1
        clear hi338_1 hl338_1
        replace p338 := eq_true p338
        replace q338 := eq_true q338
        have p339 : 0 ≤ (x5_1 : Int) := zd
        have q339 : x5_1 < (l1.length : Int) := zd
        obtain ⟨ad339, A339_1, c339_1, e339, hx339_0, hx339_1, hl339_1, hi339_1⟩ := at_T44 HR1.out x5_1 p339 q339
        have hw339_1 := hx339_1
        have hw339_0 := hx339_0
        cases e339
        replace hx339_0 := (HB.out.cell (World.block_lt_of_cell? w _ hx339_0)).trans hx339_0
        replace hx339_1 := (HB.out.cell (World.block_lt_of_cell? w _ hx339_1)).trans hx339_1
        have HR339_1 := Aside0.mk hi339_1
        have HC339_1 := Aside0.mk hl339_1
        clear hi339_1 hl339_1
        replace p339 := eq_true p339
        replace q339 := eq_true q339
        refine start_ (n := 10) (S := fun w' => w'.cell? (ad338.add ((x5_1).toNat * 2)) = some (.int .i64 ((rd_T44 l0 x5_1).f0)) ∧ w'.cell? ⟨(ad338.add ((x5_1).toNat * 2)).block, (ad338.add ((x5_1).toNat * 2)).off + 1, none⟩ = some (.slice A338_1 ((rd_T44 l0 x5_1).f1).length c338_1) ∧ w'.cell? (ad339.add ((x5_1).toNat * 2)) = some (.int .i64 ((rd_T44 l1 x5_1).f0)) ∧ w'.cell? ⟨(ad339.add ((x5_1).toNat * 2)).block, (ad339.add ((x5_1).toNat * 2)).off + 1, none⟩ = some (.slice A339_1 ((rd_T44 l1 x5_1).f1).length c339_1)) (ds := []) #[false, false, false, false, false, false, false, false, false, false] (by kernel_rfl) rfl rfl ⟨((HB.out.cell (World.block_lt_of_cell? w _ hw338_0)).trans hw338_0), ((HB.out.cell (World.block_lt_of_cell? w _ hw338_1)).trans hw338_1), ((HB.out.cell (World.block_lt_of_cell? w _ hw339_0)).trans hw339_0), ((HB.out.cell (World.block_lt_of_cell? w _ hw339_1)).trans hw339_1)⟩ (fun hHeld => ?_); refine with_tabW laws_eqFactS.tab6 laws_eqFactS.bits6 (fun HT_ HW_ => ?_)
        generalize wr.drew = w9 at HB HR338_1 HR339_1 hx338_0 hx338_1 hx339_0 hx339_1 hHeld ⊢
        refine zP 0 (some 17) (zA 10 1) (any_of HT_.out (by kernel_rfl)) ?_
        refine zP 1 (some 18) (zA 10 3) (any_of HT_.out (by kernel_rfl)) ?_
        refine zP 2 (some 19) (zA 10 7) (any_of HT_.out (by kernel_rfl)) ?_
        refine zP 4 (some 21) (zA 10 23) (any_of HT_.out (by kernel_rfl)) ?_
        refine zP 5 (some 22) (zA 10 55) (any_of HT_.out (by kernel_rfl)) ?_
        refine zP 6 (some 23) (zA 10 119) (any_of HT_.out (by kernel_rfl)) ?_
        refine take_ (i := 3) (N := some 20) (v := ?_) (a' := ?_) (zA 10 127) rfl rfl (take_ofW HT_.out HW_.out (by kernel_rfl)) (fun _ _ _ h => h) (Or.inl ⟨by rfl, ?_⟩) hHeld ?_ ?_
        rotate_left
        ·rintro w' ⟨s0, s1, s2, s3⟩
         go_simp
         with_reducible rfl
        rotate_left
        ·simp only [Act.put, List.setIfInBounds_toArray, List.set_cons_zero, List.set_cons_succ, i64_w, i32_w]
         rfl
        refine take_ (i := 7) (N := some 24) (v := ?_) (a' := ?_) (zA 10 255) rfl rfl (take_ofW HT_.out HW_.out (by kernel_rfl)) (fun _ _ _ h => h) (Or.inl ⟨by rfl, ?_⟩) hHeld ?_ ?_
        rotate_left
        ·rintro w' ⟨s0, s1, s2, s3⟩
         go_simp
         with_reducible rfl
        rotate_left
        ·simp only [Act.put, List.setIfInBounds_toArray, List.set_cons_zero, List.set_cons_succ, i64_w, i32_w]
         rfl
        refine one_ (i := 8) (N := some 25) (zA 10 511) rfl rfl (one_of HT_.out (by kernel_rfl)) (by decide) (fun K hK => ?_)
        refine goes_ Try.func21 (by kernel_rfl) rfl #[.agg #[.int .i64 ((rd_T44 l0 x5_1).f0), .slice A338_1 ((rd_T44 l0 x5_1).f1).length c338_1], .agg #[.int .i64 ((rd_T44 l1 x5_1).f0), .slice A339_1 ((rd_T44 l1 x5_1).f1).length c339_1]] (by rfl) rfl rfl (by (try simp only [List.map_toArray, List.map_cons, List.map_nil]); first | done | rfl | (simp only [List.length_drop, List.length_take]; rfl)) ?_
        with_reducible refine (laws_eqFact.calls k1 ((rd_T44 l0 x5_1).f0) _ _ ((rd_T44 l0 x5_1).f1) ((rd_T44 l1 x5_1).f0) _ _ ((rd_T44 l1 x5_1).f1) true _ ?side1 ?side2 ?side3 ?side4 A7.out).mono ?_
        (case side1 => exact zc HR338_1.out)
        (case side2 => exact HC338_1.out)
        (case side3 => exact zc HR339_1.out)
        (case side4 => exact HC339_1.out)
        rintro e w10 ⟨rfl, hb⟩
        refine ⟨_, rfl, ?_⟩
        replace HB := zm (below_step zl hb)
        (try clear hb)
        refine hK.out _ _ ⟨((HB.out.cell (World.block_lt_of_cell? w _ hw338_0)).trans hw338_0), ((HB.out.cell (World.block_lt_of_cell? w _ hw338_1)).trans hw338_1), ((HB.out.cell (World.block_lt_of_cell? w _ hw339_0)).trans hw339_0), ((HB.out.cell (World.block_lt_of_cell? w _ hw339_1)).trans hw339_1)⟩ (fun hHeld => ?_)
        clear hK K
        refine zO (some 25) ?_
        refine zP 9 (some 26) (zA 10 1023) (any_of HT_.out (by kernel_rfl)) ?_
        refine done_ (done_of HT_.out (by kernel_rfl)) ?_
        try go_wp2
        go_roundg k1
        case measure => have := HK1.out; omega
        case rel => exact ⟨(wrap64 (x5_1 + 1)), (by first | rfl | (simp; done) | (simp [*]; done)), H', ⟨by have := HK1.out; omega⟩, ⟨zl⟩⟩
       ·replace c8 := Bool.eq_false_iff.mpr c8
        subst c8
        have H1 : (some false) = some r := by first | with_reducible rfl | (rw [if_neg (show ¬ (false = true) by decide)] at H; exact H)
        clear H
        have H := H1
        clear H1
        obtain rfl := Option.some.inj H
        try go_wp2
        replace HB := zm (below_drew1 HB.out)
        have p338 : 0 ≤ (x5_1 : Int) := zd
        have q338 : x5_1 < (l0.length : Int) := zd
        obtain ⟨ad338, A338_1, c338_1, e338, hx338_0, hx338_1, hl338_1, hi338_1⟩ := at_T44 HR0.out x5_1 p338 q338
        have hw338_1 := hx338_1
        have hw338_0 := hx338_0
        cases e338
        replace hx338_0 := (HB.out.cell (World.block_lt_of_cell? w _ hx338_0)).trans hx338_0
        replace hx338_1 := (HB.out.cell (World.block_lt_of_cell? w _ hx338_1)).trans hx338_1
        have HR338_1 := Aside0.mk hi338_1
        have HC338_1 := Aside0.mk hl338_1
        clear hi338_1 hl338_1
        replace p338 := eq_true p338
        replace q338 := eq_true q338
        have p339 : 0 ≤ (x5_1 : Int) := zd
        have q339 : x5_1 < (l1.length : Int) := zd
        obtain ⟨ad339, A339_1, c339_1, e339, hx339_0, hx339_1, hl339_1, hi339_1⟩ := at_T44 HR1.out x5_1 p339 q339
        have hw339_1 := hx339_1
        have hw339_0 := hx339_0
        cases e339
        replace hx339_0 := (HB.out.cell (World.block_lt_of_cell? w _ hx339_0)).trans hx339_0
        replace hx339_1 := (HB.out.cell (World.block_lt_of_cell? w _ hx339_1)).trans hx339_1
        have HR339_1 := Aside0.mk hi339_1
        have HC339_1 := Aside0.mk hl339_1
        clear hi339_1 hl339_1
        replace p339 := eq_true p339
        replace q339 := eq_true q339
        refine start_ (n := 10) (S := fun w' => w'.cell? (ad338.add ((x5_1).toNat * 2)) = some (.int .i64 ((rd_T44 l0 x5_1).f0)) ∧ w'.cell? ⟨(ad338.add ((x5_1).toNat * 2)).block, (ad338.add ((x5_1).toNat * 2)).off + 1, none⟩ = some (.slice A338_1 ((rd_T44 l0 x5_1).f1).length c338_1) ∧ w'.cell? (ad339.add ((x5_1).toNat * 2)) = some (.int .i64 ((rd_T44 l1 x5_1).f0)) ∧ w'.cell? ⟨(ad339.add ((x5_1).toNat * 2)).block, (ad339.add ((x5_1).toNat * 2)).off + 1, none⟩ = some (.slice A339_1 ((rd_T44 l1 x5_1).f1).length c339_1)) (ds := []) #[false, false, false, false, false, false, false, false, false, false] (by kernel_rfl) rfl rfl ⟨((HB.out.cell (World.block_lt_of_cell? w _ hw338_0)).trans hw338_0), ((HB.out.cell (World.block_lt_of_cell? w _ hw338_1)).trans hw338_1), ((HB.out.cell (World.block_lt_of_cell? w _ hw339_0)).trans hw339_0), ((HB.out.cell (World.block_lt_of_cell? w _ hw339_1)).trans hw339_1)⟩ (fun hHeld => ?_); refine with_tabW laws_eqFactS.tab6 laws_eqFactS.bits6 (fun HT_ HW_ => ?_)
        generalize wr.drew = w11 at HB HR338_1 HR339_1 hx338_0 hx338_1 hx339_0 hx339_1 hHeld ⊢
        refine zP 0 (some 17) (zA 10 1) (any_of HT_.out (by kernel_rfl)) ?_
        refine zP 1 (some 18) (zA 10 3) (any_of HT_.out (by kernel_rfl)) ?_
        refine zP 2 (some 19) (zA 10 7) (any_of HT_.out (by kernel_rfl)) ?_
        refine zP 4 (some 21) (zA 10 23) (any_of HT_.out (by kernel_rfl)) ?_
        refine zP 5 (some 22) (zA 10 55) (any_of HT_.out (by kernel_rfl)) ?_
        refine zP 6 (some 23) (zA 10 119) (any_of HT_.out (by kernel_rfl)) ?_
        refine take_ (i := 3) (N := some 20) (v := ?_) (a' := ?_) (zA 10 127) rfl rfl (take_ofW HT_.out HW_.out (by kernel_rfl)) (fun _ _ _ h => h) (Or.inl ⟨by rfl, ?_⟩) hHeld ?_ ?_
        rotate_left
        ·rintro w' ⟨s0, s1, s2, s3⟩
         go_simp
         with_reducible rfl
        rotate_left
        ·simp only [Act.put, List.setIfInBounds_toArray, List.set_cons_zero, List.set_cons_succ, i64_w, i32_w]
         rfl
        refine take_ (i := 7) (N := some 24) (v := ?_) (a' := ?_) (zA 10 255) rfl rfl (take_ofW HT_.out HW_.out (by kernel_rfl)) (fun _ _ _ h => h) (Or.inl ⟨by rfl, ?_⟩) hHeld ?_ ?_
        rotate_left
        ·rintro w' ⟨s0, s1, s2, s3⟩
         go_simp
         with_reducible rfl
        rotate_left
        ·simp only [Act.put, List.setIfInBounds_toArray, List.set_cons_zero, List.set_cons_succ, i64_w, i32_w]
         rfl
        refine one_ (i := 8) (N := some 25) (zA 10 511) rfl rfl (one_of HT_.out (by kernel_rfl)) (by decide) (fun K hK => ?_)
        refine goes_ Try.func21 (by kernel_rfl) rfl #[.agg #[.int .i64 ((rd_T44 l0 x5_1).f0), .slice A338_1 ((rd_T44 l0 x5_1).f1).length c338_1], .agg #[.int .i64 ((rd_T44 l1 x5_1).f0), .slice A339_1 ((rd_T44 l1 x5_1).f1).length c339_1]] (by rfl) rfl rfl (by (try simp only [List.map_toArray, List.map_cons, List.map_nil]); first | done | rfl | (simp only [List.length_drop, List.length_take]; rfl)) ?_
        with_reducible refine (laws_eqFact.calls k1 ((rd_T44 l0 x5_1).f0) _ _ ((rd_T44 l0 x5_1).f1) ((rd_T44 l1 x5_1).f0) _ _ ((rd_T44 l1 x5_1).f1) false _ ?side1 ?side2 ?side3 ?side4 A7.out).mono ?_
        (case side1 => exact zc HR338_1.out)
        (case side2 => exact HC338_1.out)
        (case side3 => exact zc HR339_1.out)
        (case side4 => exact HC339_1.out)
        rintro e w12 ⟨rfl, hb⟩
        refine ⟨_, rfl, ?_⟩
        replace HB := zm (below_step zl hb)
        (try clear hb)
        refine hK.out _ _ ⟨((HB.out.cell (World.block_lt_of_cell? w _ hw338_0)).trans hw338_0), ((HB.out.cell (World.block_lt_of_cell? w _ hw338_1)).trans hw338_1), ((HB.out.cell (World.block_lt_of_cell? w _ hw339_0)).trans hw339_0), ((HB.out.cell (World.block_lt_of_cell? w _ hw339_1)).trans hw339_1)⟩ (fun hHeld => ?_)
        clear hK K
        refine zO (some 25) ?_
        refine zP 9 (some 26) (zA 10 1023) (any_of HT_.out (by kernel_rfl)) ?_
        refine done_ (done_of HT_.out (by kernel_rfl)) ?_
        try go_wp2
        go_ret
        exact ⟨by first | rfl | (simp [errW_none, errW_some] <;> rfl) | (simp [*, errW_none, errW_some] <;> rfl), zl⟩
      ·rw [if_neg c6] at H
       exact absurd H (by simp)
     ·rw [if_neg c5] at H
      exact absurd H (by simp)
    ·rw [if_neg c4] at H
     have c4b0 : decide (x5_1 < (l0.length : Int)) = false := decide_eq_false c4
     clear c4
     obtain rfl := Option.some.inj H
     go_wp2
     go_ret
     exact ⟨by first | rfl | (simp [errW_none, errW_some] <;> rfl) | (simp [*, errW_none, errW_some] <;> rfl), zl⟩
 ·rw [if_neg c3] at H
  have c3b0 : ((l0.length : Int) == (l1.length : Int)) = false := beq_eq_false_iff_ne.mpr c3
  have c3b1 : ((l0.length : Int) != (l1.length : Int)) = true := bne_iff_ne.mpr c3
  have c3b2 : (l0.length == l1.length) = false := by first | simpa using c3 | (simp at c3 ⊢; omega)
  obtain rfl := Option.some.inj H
  go_enter Try.func30, Try.ntmps30
  go_wp2
  go_ret
  exact ⟨by first | rfl | (simp [errW_none, errW_some] <;> rfl) | (simp [*, errW_none, errW_some] <;> rfl), zl⟩

/-! ### laws_eqInstance: function 11 -/
def laws_eqInstance.f (k : Nat) (l0_0 : List (S62)) (l0_1 : List (S44)) (l1_0 : List (S62)) (l1_1 : List (S44)) : Option (Bool) := (laws_eqRelationS.f k l0_0 l1_0).bind fun t343 => (if t343 = true then ((laws_eqFactS.f k l0_1 l1_1).bind fun t344 => (if t344 = true then (some true) else (some false))) else (some false))
theorem laws_eqInstance.mono : ∀ a0 a1 a2 a3 k, LeO (laws_eqInstance.f k a0 a1 a2 a3) (laws_eqInstance.f (k + 1) a0 a1 a2 a3) := by
 intro a0 a1 a2 a3 k
 unfold laws_eqInstance.f
 repeat' first
   | (with_reducible exact laws_eqFactS.mono _ _ _)
   | (with_reducible exact laws_eqRelationS.mono _ _ _)
   | (with_reducible exact LeO.refl _)
   | (with_reducible exact LeO.none _)
   | (with_reducible refine LeO.ite ?_ ?_)
   | (with_reducible refine LeO.bind ?_ (fun _ => ?_))
   | exact laws_eqFactS.mono _ _ _
   | exact laws_eqRelationS.mono _ _ _
   | exact LeO.none _
   | refine LeO.ite ?_ ?_
   | refine LeO.bind ?_ (fun _ => ?_)
set_option maxHeartbeats 8000000 in
set_option maxRecDepth 100000 in
theorem laws_eqInstance.calls (k : Nat) (A0_0 : Option Addr) (c0_0 : Nat) (l0_0 : List (S62)) (A0_1 : Option Addr) (c0_1 : Nat) (l0_1 : List (S44)) (A1_0 : Option Addr) (c1_0 : Nat) (l1_0 : List (S62)) (A1_1 : Option Addr) (c1_1 : Nat) (l1_1 : List (S44)) (r : Bool) (w : World) (hr0_0 : Kd.C k62 w A0_0 l0_0.length l0_0) (hc0_0 : l0_0.length ≤ c0_0) (hr0_1 : Kd.C k44 w A0_1 l0_1.length l0_1) (hc0_1 : l0_1.length ≤ c0_1) (hr1_0 : Kd.C k62 w A1_0 l1_0.length l1_0) (hc1_0 : l1_0.length ≤ c1_0) (hr1_1 : Kd.C k44 w A1_1 l1_1.length l1_1) (hc1_1 : l1_1.length ≤ c1_1) (h : laws_eqInstance.f k l0_0 l0_1 l1_0 l1_1 = some r) :
  Calls Try.prog 11 #[.agg #[.slice A0_0 l0_0.length c0_0, .slice A0_1 l0_1.length c0_1], .agg #[.slice A1_0 l1_0.length c1_0, .slice A1_1 l1_1.length c1_1]] w fun e w' => e = .returned (.bool r) ∧ Below w.heap.size w w' := by
 have hu32 := Try.underlying32
 have HR0_0 := Aside0.mk hr0_0
 have HC0_0 := Aside0.mk hc0_0
 clear hr0_0 hc0_0
 have HR0_1 := Aside0.mk hr0_1
 have HC0_1 := Aside0.mk hc0_1
 clear hr0_1 hc0_1
 have HR1_0 := Aside0.mk hr1_0
 have HC1_0 := Aside0.mk hc1_0
 clear hr1_0 hc1_0
 have HR1_1 := Aside0.mk hr1_1
 have HC1_1 := Aside0.mk hc1_1
 clear hr1_1 hc1_1
 have HB := Aside0.mk (Below.refl w.heap.size w)
 have H : ((laws_eqRelationS.f k l0_0 l1_0).bind fun t343 => (if t343 = true then ((laws_eqFactS.f k l0_1 l1_1).bind fun t344 => (if t344 = true then (some true) else (some false))) else (some false))) = some r := h
 clear h
 replace H := Option.bind_eq_some_iff.mp H
 obtain ⟨t343, A30, H⟩ := H
 replace H : (if t343 = true then ((laws_eqFactS.f k l0_1 l1_1).bind fun t344 => (if t344 = true then (some true) else (some false))) else (some false)) = some r := H
 have A3 := Aside0.mk A30
 clear A30
 by_cases c4 : t343 = true
 ·subst c4
  have H1 : ((laws_eqFactS.f k l0_1 l1_1).bind fun t344 => (if t344 = true then (some true) else (some false))) = some r := by first | with_reducible rfl | (rw [if_pos rfl] at H; exact H)
  clear H
  have H := H1
  clear H1
  replace H := Option.bind_eq_some_iff.mp H
  obtain ⟨t344, A50, H⟩ := H
  replace H : (if t344 = true then (some true) else (some false)) = some r := H
  have A5 := Aside0.mk A50
  clear A50
  by_cases c6 : t344 = true
  ·subst c6
   have H1 : (some true) = some r := by first | with_reducible rfl | (rw [if_pos rfl] at H; exact H)
   clear H
   have H := H1
   clear H1
   obtain rfl := Option.some.inj H
   go_enter Try.func11, Try.ntmps11
   go_wp2_with (first | ((with_reducible refine gate_dst (N := 2) rfl ?_); refine box_event ?hg (N := 2) ?hd (cs := #[.slice A0_0 l0_0.length c0_0, .slice A0_1 l0_1.length c0_1]) (t := 32) ?hr ?_; (case hd => rfl); (case hg => rfl); (case hr => first | (go_simp; done) | (go_simp; rfl)); intro gb341 hg w7 hbox hb; have BK341 := zm (hbox); have GW341 := zm ((by rw [hg]; exact (below_size zl) : w.heap.size ≤ gb341)); have GE341 := zm ((by rw [hg]; exact (below_size zl) : w.heap.size ≤ gb341)); replace HB := zm (below_step zl hb); clear hb hbox hg) | ((with_reducible refine gate_dst (N := 3) rfl ?_); refine box_event ?hg (N := 3) ?hd (cs := #[.slice A1_0 l1_0.length c1_0, .slice A1_1 l1_1.length c1_1]) (t := 32) ?hr ?_; (case hd => rfl); (case hg => rfl); (case hr => first | (go_simp; done) | (go_simp; rfl)); intro gb342 hg w8 hbox hb; have BK342 := zm (hbox); have GW342 := zm ((by rw [hg]; exact (below_size zl) : w.heap.size ≤ gb342)); have GE342 := zm ((by rw [hg]; exact (below_size zl) : w.heap.size ≤ gb342)); replace HB := zm (below_step zl hb); have NB341_342 := zm (zl1 hg (zb BK341.out)); have NB342_341 := zm (zl2 hg (zb BK341.out)); replace BK341 := zm (blk_below (zb BK341.out) hb); clear hb hbox hg; have hnb9 := NB341_342.out; have hnc9 := NB342_341.out; have hcz10_0 : w8.cell? ⟨gb341, 0, none⟩ = some (.slice A0_0 l0_0.length c0_0) := (blk_cell BK341.out 0).trans rfl; have hcz10_1 : w8.cell? ⟨gb341, 1, none⟩ = some (.slice A0_1 l0_1.length c0_1) := (blk_cell BK341.out 1).trans rfl; have hfz10_0 := blk_frozen BK341.out 0; have hfz10_1 := blk_frozen BK341.out 1; have hcz11_0 : w8.cell? ⟨gb342, 0, none⟩ = some (.slice A1_0 l1_0.length c1_0) := (blk_cell BK342.out 0).trans rfl; have hcz11_1 : w8.cell? ⟨gb342, 1, none⟩ = some (.slice A1_1 l1_1.length c1_1) := (blk_cell BK342.out 1).trans rfl; have hfz11_0 := blk_frozen BK342.out 0; have hfz11_1 := blk_frozen BK342.out 1) | ((with_reducible refine gate_callee (f := 29) rfl ?_); refine zg (some 9) Try.func29 #[.slice A0_0 l0_0.length c0_0, .slice A1_0 l1_0.length c1_0] ?_; (with_reducible refine (laws_eqRelationS.calls k _ _ l0_0 _ _ l1_0 true _ ?side1 ?side2 ?side3 ?side4 A3.out).mono ?_); (case side1 => exact zc HR0_0.out); (case side2 => exact HC0_0.out); (case side3 => exact zc HR1_0.out); (case side4 => exact HC1_0.out); rintro e w12 ⟨rfl, hb⟩; refine ⟨_, rfl, ?_⟩; replace BK341 := zm (blk_below (zb BK341.out) hb); replace BK342 := zm (blk_below (zb BK342.out) hb); replace HB := zm (below_step zl hb); (try clear hb); have hcz13_0 : w12.cell? ⟨gb341, 0, none⟩ = some (.slice A0_0 l0_0.length c0_0) := (blk_cell BK341.out 0).trans rfl; have hcz13_1 : w12.cell? ⟨gb341, 1, none⟩ = some (.slice A0_1 l0_1.length c0_1) := (blk_cell BK341.out 1).trans rfl; have hfz13_0 := blk_frozen BK341.out 0; have hfz13_1 := blk_frozen BK341.out 1; have hcz14_0 : w12.cell? ⟨gb342, 0, none⟩ = some (.slice A1_0 l1_0.length c1_0) := (blk_cell BK342.out 0).trans rfl; have hcz14_1 : w12.cell? ⟨gb342, 1, none⟩ = some (.slice A1_1 l1_1.length c1_1) := (blk_cell BK342.out 1).trans rfl; have hfz14_0 := blk_frozen BK342.out 0; have hfz14_1 := blk_frozen BK342.out 1) | ((with_reducible refine gate_callee (f := 30) rfl ?_); refine zg (some 15) Try.func30 #[.slice A0_1 l0_1.length c0_1, .slice A1_1 l1_1.length c1_1] ?_; (with_reducible refine (laws_eqFactS.calls k _ _ l0_1 _ _ l1_1 true _ ?side1 ?side2 ?side3 ?side4 A5.out).mono ?_); (case side1 => exact zc HR0_1.out); (case side2 => exact HC0_1.out); (case side3 => exact zc HR1_1.out); (case side4 => exact HC1_1.out); rintro e w15 ⟨rfl, hb⟩; refine ⟨_, rfl, ?_⟩; replace BK341 := zm (blk_below (zb BK341.out) hb); replace BK342 := zm (blk_below (zb BK342.out) hb); replace HB := zm (below_step zl hb); (try clear hb)))
   go_ret
   exact ⟨by first | rfl | (simp [errW_none, errW_some] <;> rfl) | (simp [*, errW_none, errW_some] <;> rfl), zl⟩
  ·replace c6 := Bool.eq_false_iff.mpr c6
   subst c6
   have H1 : (some false) = some r := by first | with_reducible rfl | (rw [if_neg (show ¬ (false = true) by decide)] at H; exact H)
   clear H
   have H := H1
   clear H1
   obtain rfl := Option.some.inj H
   go_enter Try.func11, Try.ntmps11
   go_wp2_with (first | ((with_reducible refine gate_dst (N := 2) rfl ?_); refine box_event ?hg (N := 2) ?hd (cs := #[.slice A0_0 l0_0.length c0_0, .slice A0_1 l0_1.length c0_1]) (t := 32) ?hr ?_; (case hd => rfl); (case hg => rfl); (case hr => first | (go_simp; done) | (go_simp; rfl)); intro gb341 hg w16 hbox hb; have BK341 := zm (hbox); have GW341 := zm ((by rw [hg]; exact (below_size zl) : w.heap.size ≤ gb341)); have GE341 := zm ((by rw [hg]; exact (below_size zl) : w.heap.size ≤ gb341)); replace HB := zm (below_step zl hb); clear hb hbox hg) | ((with_reducible refine gate_dst (N := 3) rfl ?_); refine box_event ?hg (N := 3) ?hd (cs := #[.slice A1_0 l1_0.length c1_0, .slice A1_1 l1_1.length c1_1]) (t := 32) ?hr ?_; (case hd => rfl); (case hg => rfl); (case hr => first | (go_simp; done) | (go_simp; rfl)); intro gb342 hg w17 hbox hb; have BK342 := zm (hbox); have GW342 := zm ((by rw [hg]; exact (below_size zl) : w.heap.size ≤ gb342)); have GE342 := zm ((by rw [hg]; exact (below_size zl) : w.heap.size ≤ gb342)); replace HB := zm (below_step zl hb); have NB341_342 := zm (zl1 hg (zb BK341.out)); have NB342_341 := zm (zl2 hg (zb BK341.out)); replace BK341 := zm (blk_below (zb BK341.out) hb); clear hb hbox hg; have hnb18 := NB341_342.out; have hnc18 := NB342_341.out; have hcz19_0 : w17.cell? ⟨gb341, 0, none⟩ = some (.slice A0_0 l0_0.length c0_0) := (blk_cell BK341.out 0).trans rfl; have hcz19_1 : w17.cell? ⟨gb341, 1, none⟩ = some (.slice A0_1 l0_1.length c0_1) := (blk_cell BK341.out 1).trans rfl; have hfz19_0 := blk_frozen BK341.out 0; have hfz19_1 := blk_frozen BK341.out 1; have hcz20_0 : w17.cell? ⟨gb342, 0, none⟩ = some (.slice A1_0 l1_0.length c1_0) := (blk_cell BK342.out 0).trans rfl; have hcz20_1 : w17.cell? ⟨gb342, 1, none⟩ = some (.slice A1_1 l1_1.length c1_1) := (blk_cell BK342.out 1).trans rfl; have hfz20_0 := blk_frozen BK342.out 0; have hfz20_1 := blk_frozen BK342.out 1) | ((with_reducible refine gate_callee (f := 29) rfl ?_); refine zg (some 9) Try.func29 #[.slice A0_0 l0_0.length c0_0, .slice A1_0 l1_0.length c1_0] ?_; (with_reducible refine (laws_eqRelationS.calls k _ _ l0_0 _ _ l1_0 true _ ?side1 ?side2 ?side3 ?side4 A3.out).mono ?_); (case side1 => exact zc HR0_0.out); (case side2 => exact HC0_0.out); (case side3 => exact zc HR1_0.out); (case side4 => exact HC1_0.out); rintro e w21 ⟨rfl, hb⟩; refine ⟨_, rfl, ?_⟩; replace BK341 := zm (blk_below (zb BK341.out) hb); replace BK342 := zm (blk_below (zb BK342.out) hb); replace HB := zm (below_step zl hb); (try clear hb); have hcz22_0 : w21.cell? ⟨gb341, 0, none⟩ = some (.slice A0_0 l0_0.length c0_0) := (blk_cell BK341.out 0).trans rfl; have hcz22_1 : w21.cell? ⟨gb341, 1, none⟩ = some (.slice A0_1 l0_1.length c0_1) := (blk_cell BK341.out 1).trans rfl; have hfz22_0 := blk_frozen BK341.out 0; have hfz22_1 := blk_frozen BK341.out 1; have hcz23_0 : w21.cell? ⟨gb342, 0, none⟩ = some (.slice A1_0 l1_0.length c1_0) := (blk_cell BK342.out 0).trans rfl; have hcz23_1 : w21.cell? ⟨gb342, 1, none⟩ = some (.slice A1_1 l1_1.length c1_1) := (blk_cell BK342.out 1).trans rfl; have hfz23_0 := blk_frozen BK342.out 0; have hfz23_1 := blk_frozen BK342.out 1) | ((with_reducible refine gate_callee (f := 30) rfl ?_); refine zg (some 15) Try.func30 #[.slice A0_1 l0_1.length c0_1, .slice A1_1 l1_1.length c1_1] ?_; (with_reducible refine (laws_eqFactS.calls k _ _ l0_1 _ _ l1_1 false _ ?side1 ?side2 ?side3 ?side4 A5.out).mono ?_); (case side1 => exact zc HR0_1.out); (case side2 => exact HC0_1.out); (case side3 => exact zc HR1_1.out); (case side4 => exact HC1_1.out); rintro e w24 ⟨rfl, hb⟩; refine ⟨_, rfl, ?_⟩; replace BK341 := zm (blk_below (zb BK341.out) hb); replace BK342 := zm (blk_below (zb BK342.out) hb); replace HB := zm (below_step zl hb); (try clear hb)))
   go_ret
   exact ⟨by first | rfl | (simp [errW_none, errW_some] <;> rfl) | (simp [*, errW_none, errW_some] <;> rfl), zl⟩
 ·replace c4 := Bool.eq_false_iff.mpr c4
  subst c4
  have H1 : (some false) = some r := by first | with_reducible rfl | (rw [if_neg (show ¬ (false = true) by decide)] at H; exact H)
  clear H
  have H := H1
  clear H1
  obtain rfl := Option.some.inj H
  go_enter Try.func11, Try.ntmps11
  go_wp2_with (first | ((with_reducible refine gate_dst (N := 2) rfl ?_); refine box_event ?hg (N := 2) ?hd (cs := #[.slice A0_0 l0_0.length c0_0, .slice A0_1 l0_1.length c0_1]) (t := 32) ?hr ?_; (case hd => rfl); (case hg => rfl); (case hr => first | (go_simp; done) | (go_simp; rfl)); intro gb341 hg w25 hbox hb; have BK341 := zm (hbox); have GW341 := zm ((by rw [hg]; exact (below_size zl) : w.heap.size ≤ gb341)); have GE341 := zm ((by rw [hg]; exact (below_size zl) : w.heap.size ≤ gb341)); replace HB := zm (below_step zl hb); clear hb hbox hg) | ((with_reducible refine gate_dst (N := 3) rfl ?_); refine box_event ?hg (N := 3) ?hd (cs := #[.slice A1_0 l1_0.length c1_0, .slice A1_1 l1_1.length c1_1]) (t := 32) ?hr ?_; (case hd => rfl); (case hg => rfl); (case hr => first | (go_simp; done) | (go_simp; rfl)); intro gb342 hg w26 hbox hb; have BK342 := zm (hbox); have GW342 := zm ((by rw [hg]; exact (below_size zl) : w.heap.size ≤ gb342)); have GE342 := zm ((by rw [hg]; exact (below_size zl) : w.heap.size ≤ gb342)); replace HB := zm (below_step zl hb); have NB341_342 := zm (zl1 hg (zb BK341.out)); have NB342_341 := zm (zl2 hg (zb BK341.out)); replace BK341 := zm (blk_below (zb BK341.out) hb); clear hb hbox hg; have hnb27 := NB341_342.out; have hnc27 := NB342_341.out; have hcz28_0 : w26.cell? ⟨gb341, 0, none⟩ = some (.slice A0_0 l0_0.length c0_0) := (blk_cell BK341.out 0).trans rfl; have hcz28_1 : w26.cell? ⟨gb341, 1, none⟩ = some (.slice A0_1 l0_1.length c0_1) := (blk_cell BK341.out 1).trans rfl; have hfz28_0 := blk_frozen BK341.out 0; have hfz28_1 := blk_frozen BK341.out 1; have hcz29_0 : w26.cell? ⟨gb342, 0, none⟩ = some (.slice A1_0 l1_0.length c1_0) := (blk_cell BK342.out 0).trans rfl; have hcz29_1 : w26.cell? ⟨gb342, 1, none⟩ = some (.slice A1_1 l1_1.length c1_1) := (blk_cell BK342.out 1).trans rfl; have hfz29_0 := blk_frozen BK342.out 0; have hfz29_1 := blk_frozen BK342.out 1) | ((with_reducible refine gate_callee (f := 29) rfl ?_); refine zg (some 9) Try.func29 #[.slice A0_0 l0_0.length c0_0, .slice A1_0 l1_0.length c1_0] ?_; (with_reducible refine (laws_eqRelationS.calls k _ _ l0_0 _ _ l1_0 false _ ?side1 ?side2 ?side3 ?side4 A3.out).mono ?_); (case side1 => exact zc HR0_0.out); (case side2 => exact HC0_0.out); (case side3 => exact zc HR1_0.out); (case side4 => exact HC1_0.out); rintro e w30 ⟨rfl, hb⟩; refine ⟨_, rfl, ?_⟩; replace BK341 := zm (blk_below (zb BK341.out) hb); replace BK342 := zm (blk_below (zb BK342.out) hb); replace HB := zm (below_step zl hb); (try clear hb)))
  go_ret
  exact ⟨by first | rfl | (simp [errW_none, errW_some] <;> rfl) | (simp [*, errW_none, errW_some] <;> rfl), zl⟩

/-! ### laws_FnExactContainsFact: function 5 -/
def laws_FnExactContainsFact.f (k : Nat) (l0_0 : List (S67)) (l0_1 : List (S41)) (a1_0 : Int) (l1_1 : List Int) : Option (Bool) := (laws_szInstance.f k l0_0 l0_1 1048576).bind fun t347 => (if t347 < 0 then (some true) else ((laws_szFact.f a1_0 l1_1 t347).bind fun t348 => (if t348 < 0 then (some true) else ((laws_toInstance.f k l0_0 l0_1).bind fun bt349 => ((laws_toFact.f k a1_0 l1_1).bind fun bt355 => ((spec_ContainsFact.f k bt349.1 bt349.2 bt355.1 bt355.2).bind fun t359 => ((laws_toInstance.f k l0_0 l0_1).bind fun bt360 => ((laws_toFact.f k a1_0 l1_1).bind fun bt367 => ((impl_ContainsFact.f k bt360.1 bt360.2 bt367.1 bt367.2).bind fun t372 => (if (t372 != t359) = true then (some false) else ((laws_toInstance.f k l0_0 l0_1).bind fun bt373 => ((laws_eqInstance.f k bt360.1 bt360.2 bt373.1 bt373.2).bind fun t379 => (if t379 = true then ((laws_toFact.f k a1_0 l1_1).bind fun bt380 => ((laws_eqFact.f k bt367.1 bt367.2 bt380.1 bt380.2).bind fun t384 => (if t384 = true then (some true) else (some false)))) else (some false))))))))))))))
theorem laws_FnExactContainsFact.mono : ∀ a0 a1 a2 a3 k, LeO (laws_FnExactContainsFact.f k a0 a1 a2 a3) (laws_FnExactContainsFact.f (k + 1) a0 a1 a2 a3) := by
 intro a0 a1 a2 a3 k
 unfold laws_FnExactContainsFact.f
 repeat' first
   | (with_reducible exact impl_ContainsFact.mono _ _ _ _ _)
   | (with_reducible exact laws_eqFact.mono _ _ _ _ _)
   | (with_reducible exact laws_eqInstance.mono _ _ _ _ _)
   | (with_reducible exact laws_szInstance.mono _ _ _ _)
   | (with_reducible exact laws_toFact.mono _ _ _)
   | (with_reducible exact laws_toInstance.mono _ _ _)
   | (with_reducible exact spec_ContainsFact.mono _ _ _ _ _)
   | (with_reducible exact LeO.refl _)
   | (with_reducible exact LeO.none _)
   | (with_reducible refine LeO.ite ?_ ?_)
   | (with_reducible refine LeO.bind ?_ (fun _ => ?_))
   | exact impl_ContainsFact.mono _ _ _ _ _
   | exact laws_eqFact.mono _ _ _ _ _
   | exact laws_eqInstance.mono _ _ _ _ _
   | exact laws_szInstance.mono _ _ _ _
   | exact laws_toFact.mono _ _ _
   | exact laws_toInstance.mono _ _ _
   | exact spec_ContainsFact.mono _ _ _ _ _
   | exact LeO.none _
   | refine LeO.ite ?_ ?_
   | refine LeO.bind ?_ (fun _ => ?_)
set_option maxHeartbeats 8000000 in
set_option maxRecDepth 100000 in
theorem laws_FnExactContainsFact.calls (k : Nat) (A0_0 : Option Addr) (c0_0 : Nat) (l0_0 : List (S67)) (A0_1 : Option Addr) (c0_1 : Nat) (l0_1 : List (S41)) (a1_0 : Int) (A1_1 : Option Addr) (c1_1 : Nat) (l1_1 : List Int) (w : World) (hr0_0 : Kd.C k67 w A0_0 l0_0.length l0_0) (hc0_0 : l0_0.length ≤ c0_0) (hr0_1 : Kd.C k41 w A0_1 l0_1.length l0_1) (hc0_1 : l0_1.length ≤ c0_1) (hr1_1 : Kd.C (Kd.int .i64) w A1_1 l1_1.length l1_1) (hc1_1 : l1_1.length ≤ c1_1) (h : laws_FnExactContainsFact.f k l0_0 l0_1 a1_0 l1_1 = some true) :
  Calls Try.prog 5 #[.agg #[.slice A0_0 l0_0.length c0_0, .slice A0_1 l0_1.length c0_1], .agg #[.int .i64 a1_0, .slice A1_1 l1_1.length c1_1]] w fun e w' => e = .returned (.bool true) ∧ Below w.heap.size w w' := by
 have hu25 := Try.underlying25
 have hu41 := Try.underlying41
 have hu32 := Try.underlying32
 have hu44 := Try.underlying44
 have HR0_0 := Aside0.mk hr0_0
 have HC0_0 := Aside0.mk hc0_0
 clear hr0_0 hc0_0
 have HR0_1 := Aside0.mk hr0_1
 have HC0_1 := Aside0.mk hc0_1
 clear hr0_1 hc0_1
 have HR1_1 := Aside0.mk hr1_1
 have HC1_1 := Aside0.mk hc1_1
 clear hr1_1 hc1_1
 have HB := Aside0.mk (Below.refl w.heap.size w)
 have H : ((laws_szInstance.f k l0_0 l0_1 1048576).bind fun t347 => (if t347 < 0 then (some true) else ((laws_szFact.f a1_0 l1_1 t347).bind fun t348 => (if t348 < 0 then (some true) else ((laws_toInstance.f k l0_0 l0_1).bind fun bt349 => ((laws_toFact.f k a1_0 l1_1).bind fun bt355 => ((spec_ContainsFact.f k bt349.1 bt349.2 bt355.1 bt355.2).bind fun t359 => ((laws_toInstance.f k l0_0 l0_1).bind fun bt360 => ((laws_toFact.f k a1_0 l1_1).bind fun bt367 => ((impl_ContainsFact.f k bt360.1 bt360.2 bt367.1 bt367.2).bind fun t372 => (if (t372 != t359) = true then (some false) else ((laws_toInstance.f k l0_0 l0_1).bind fun bt373 => ((laws_eqInstance.f k bt360.1 bt360.2 bt373.1 bt373.2).bind fun t379 => (if t379 = true then ((laws_toFact.f k a1_0 l1_1).bind fun bt380 => ((laws_eqFact.f k bt367.1 bt367.2 bt380.1 bt380.2).bind fun t384 => (if t384 = true then (some true) else (some false)))) else (some false))))))))))))))) = some true := h
 clear h
 replace H := Option.bind_eq_some_iff.mp H
 obtain ⟨t347, A30, H⟩ := H
 replace H : (if t347 < 0 then (some true) else ((laws_szFact.f a1_0 l1_1 t347).bind fun t348 => (if t348 < 0 then (some true) else ((laws_toInstance.f k l0_0 l0_1).bind fun bt349 => ((laws_toFact.f k a1_0 l1_1).bind fun bt355 => ((spec_ContainsFact.f k bt349.1 bt349.2 bt355.1 bt355.2).bind fun t359 => ((laws_toInstance.f k l0_0 l0_1).bind fun bt360 => ((laws_toFact.f k a1_0 l1_1).bind fun bt367 => ((impl_ContainsFact.f k bt360.1 bt360.2 bt367.1 bt367.2).bind fun t372 => (if (t372 != t359) = true then (some false) else ((laws_toInstance.f k l0_0 l0_1).bind fun bt373 => ((laws_eqInstance.f k bt360.1 bt360.2 bt373.1 bt373.2).bind fun t379 => (if t379 = true then ((laws_toFact.f k a1_0 l1_1).bind fun bt380 => ((laws_eqFact.f k bt367.1 bt367.2 bt380.1 bt380.2).bind fun t384 => (if t384 = true then (some true) else (some false)))) else (some false)))))))))))))) = some true := H
 have A3 := Aside0.mk A30
 clear A30
 by_cases c4 : t347 < 0
 ·rw [if_pos c4] at H
  have c4b0 : decide (t347 < 0) = true := decide_eq_true c4
  clear c4
  clear H
  go_enter Try.func5, Try.ntmps5
  go_wp2_with (first | ((with_reducible refine gate_dst (N := 2) rfl ?_); refine box_event ?hg (N := 2) ?hd (cs := #[.slice A0_0 l0_0.length c0_0, .slice A0_1 l0_1.length c0_1]) (t := 25) ?hr ?_; (case hd => rfl); (case hg => rfl); (case hr => first | (go_simp; done) | (go_simp; rfl)); intro gb345 hg w5 hbox hb; have BK345 := zm (hbox); have GW345 := zm ((by rw [hg]; exact (below_size zl) : w.heap.size ≤ gb345)); have GE345 := zm ((by rw [hg]; exact (below_size zl) : w.heap.size ≤ gb345)); replace HB := zm (below_step zl hb); clear hb hbox hg) | ((with_reducible refine gate_dst (N := 3) rfl ?_); refine box_event ?hg (N := 3) ?hd (cs := #[.int .i64 a1_0, .slice A1_1 l1_1.length c1_1]) (t := 41) ?hr ?_; (case hd => rfl); (case hg => rfl); (case hr => first | (go_simp; done) | (go_simp; rfl)); intro gb346 hg w6 hbox hb; have BK346 := zm (hbox); have GW346 := zm ((by rw [hg]; exact (below_size zl) : w.heap.size ≤ gb346)); have GE346 := zm ((by rw [hg]; exact (below_size zl) : w.heap.size ≤ gb346)); replace HB := zm (below_step zl hb); have NB345_346 := zm (zl1 hg (zb BK345.out)); have NB346_345 := zm (zl2 hg (zb BK345.out)); replace BK345 := zm (blk_below (zb BK345.out) hb); clear hb hbox hg; have hnb7 := NB345_346.out; have hnc7 := NB346_345.out; have hcz8_0 : w6.cell? ⟨gb345, 0, none⟩ = some (.slice A0_0 l0_0.length c0_0) := (blk_cell BK345.out 0).trans rfl; have hcz8_1 : w6.cell? ⟨gb345, 1, none⟩ = some (.slice A0_1 l0_1.length c0_1) := (blk_cell BK345.out 1).trans rfl; have hfz8_0 := blk_frozen BK345.out 0; have hfz8_1 := blk_frozen BK345.out 1) | ((with_reducible refine gate_callee (f := 6) rfl ?_); refine zg (some 12) Try.func6 #[.agg #[.slice A0_0 l0_0.length c0_0, .slice A0_1 l0_1.length c0_1], .int .i64 1048576] ?_; (with_reducible refine (laws_szInstance.calls k _ _ l0_0 _ _ l0_1 1048576 t347 _ ?side1 ?side2 ?side3 ?side4 A3.out).mono ?_); (case side1 => exact zc HR0_0.out); (case side2 => exact HC0_0.out); (case side3 => exact zc HR0_1.out); (case side4 => exact HC0_1.out); rintro e w9 ⟨rfl, hb⟩; refine ⟨_, rfl, ?_⟩; replace BK345 := zm (blk_below (zb BK345.out) hb); replace BK346 := zm (blk_below (zb BK346.out) hb); replace HB := zm (below_step zl hb); (try clear hb)))
  go_ret
  exact ⟨by first | rfl | (simp [errW_none, errW_some] <;> rfl) | (simp [*, errW_none, errW_some] <;> rfl), zl⟩
 ·rw [if_neg c4] at H
  have c4b0 : decide (t347 < 0) = false := decide_eq_false c4
  clear c4
  replace H := Option.bind_eq_some_iff.mp H
  obtain ⟨t348, A100, H⟩ := H
  replace H : (if t348 < 0 then (some true) else ((laws_toInstance.f k l0_0 l0_1).bind fun bt349 => ((laws_toFact.f k a1_0 l1_1).bind fun bt355 => ((spec_ContainsFact.f k bt349.1 bt349.2 bt355.1 bt355.2).bind fun t359 => ((laws_toInstance.f k l0_0 l0_1).bind fun bt360 => ((laws_toFact.f k a1_0 l1_1).bind fun bt367 => ((impl_ContainsFact.f k bt360.1 bt360.2 bt367.1 bt367.2).bind fun t372 => (if (t372 != t359) = true then (some false) else ((laws_toInstance.f k l0_0 l0_1).bind fun bt373 => ((laws_eqInstance.f k bt360.1 bt360.2 bt373.1 bt373.2).bind fun t379 => (if t379 = true then ((laws_toFact.f k a1_0 l1_1).bind fun bt380 => ((laws_eqFact.f k bt367.1 bt367.2 bt380.1 bt380.2).bind fun t384 => (if t384 = true then (some true) else (some false)))) else (some false)))))))))))) = some true := H
  have A10 := Aside0.mk A100
  clear A100
  by_cases c11 : t348 < 0
  ·rw [if_pos c11] at H
   have c11b0 : decide (t348 < 0) = true := decide_eq_true c11
   clear c11
   clear H
   go_enter Try.func5, Try.ntmps5
   go_wp2_with (first | ((with_reducible refine gate_dst (N := 2) rfl ?_); refine box_event ?hg (N := 2) ?hd (cs := #[.slice A0_0 l0_0.length c0_0, .slice A0_1 l0_1.length c0_1]) (t := 25) ?hr ?_; (case hd => rfl); (case hg => rfl); (case hr => first | (go_simp; done) | (go_simp; rfl)); intro gb345 hg w12 hbox hb; have BK345 := zm (hbox); have GW345 := zm ((by rw [hg]; exact (below_size zl) : w.heap.size ≤ gb345)); have GE345 := zm ((by rw [hg]; exact (below_size zl) : w.heap.size ≤ gb345)); replace HB := zm (below_step zl hb); clear hb hbox hg) | ((with_reducible refine gate_dst (N := 3) rfl ?_); refine box_event ?hg (N := 3) ?hd (cs := #[.int .i64 a1_0, .slice A1_1 l1_1.length c1_1]) (t := 41) ?hr ?_; (case hd => rfl); (case hg => rfl); (case hr => first | (go_simp; done) | (go_simp; rfl)); intro gb346 hg w13 hbox hb; have BK346 := zm (hbox); have GW346 := zm ((by rw [hg]; exact (below_size zl) : w.heap.size ≤ gb346)); have GE346 := zm ((by rw [hg]; exact (below_size zl) : w.heap.size ≤ gb346)); replace HB := zm (below_step zl hb); have NB345_346 := zm (zl1 hg (zb BK345.out)); have NB346_345 := zm (zl2 hg (zb BK345.out)); replace BK345 := zm (blk_below (zb BK345.out) hb); clear hb hbox hg; have hnb14 := NB345_346.out; have hnc14 := NB346_345.out; have hcz15_0 : w13.cell? ⟨gb345, 0, none⟩ = some (.slice A0_0 l0_0.length c0_0) := (blk_cell BK345.out 0).trans rfl; have hcz15_1 : w13.cell? ⟨gb345, 1, none⟩ = some (.slice A0_1 l0_1.length c0_1) := (blk_cell BK345.out 1).trans rfl; have hfz15_0 := blk_frozen BK345.out 0; have hfz15_1 := blk_frozen BK345.out 1) | ((with_reducible refine gate_callee (f := 6) rfl ?_); refine zg (some 12) Try.func6 #[.agg #[.slice A0_0 l0_0.length c0_0, .slice A0_1 l0_1.length c0_1], .int .i64 1048576] ?_; (with_reducible refine (laws_szInstance.calls k _ _ l0_0 _ _ l0_1 1048576 t347 _ ?side1 ?side2 ?side3 ?side4 A3.out).mono ?_); (case side1 => exact zc HR0_0.out); (case side2 => exact HC0_0.out); (case side3 => exact zc HR0_1.out); (case side4 => exact HC0_1.out); rintro e w16 ⟨rfl, hb⟩; refine ⟨_, rfl, ?_⟩; replace BK345 := zm (blk_below (zb BK345.out) hb); replace BK346 := zm (blk_below (zb BK346.out) hb); replace HB := zm (below_step zl hb); (try clear hb); have hcz17_0 : w16.cell? ⟨gb346, 0, none⟩ = some (.int .i64 a1_0) := (blk_cell BK346.out 0).trans rfl; have hcz17_1 : w16.cell? ⟨gb346, 1, none⟩ = some (.slice A1_1 l1_1.length c1_1) := (blk_cell BK346.out 1).trans rfl; have hfz17_0 := blk_frozen BK346.out 0; have hfz17_1 := blk_frozen BK346.out 1) | ((with_reducible refine gate_callee (f := 17) rfl ?_); refine zg (some 17) Try.func17 #[.agg #[.int .i64 a1_0, .slice A1_1 l1_1.length c1_1], .int .i64 t347] ?_; (with_reducible refine (laws_szFact.calls a1_0 _ _ l1_1 t347 t348 _ ?side1 ?side2 A10.out).mono ?_); (case side1 => exact zc HR1_1.out); (case side2 => exact HC1_1.out); rintro e w18 ⟨rfl, hb⟩; refine ⟨_, rfl, ?_⟩; replace BK345 := zm (blk_below (zb BK345.out) hb); replace BK346 := zm (blk_below (zb BK346.out) hb); replace HB := zm (below_step zl hb); (try clear hb)))
   go_ret
   exact ⟨by first | rfl | (simp [errW_none, errW_some] <;> rfl) | (simp [*, errW_none, errW_some] <;> rfl), zl⟩
  ·rw [if_neg c11] at H
   have c11b0 : decide (t348 < 0) = false := decide_eq_false c11
   clear c11
   replace H := Option.bind_eq_some_iff.mp H
   obtain ⟨⟨t349, t352⟩, A190, H⟩ := H
   replace H : ((laws_toFact.f k a1_0 l1_1).bind fun bt355 => ((spec_ContainsFact.f k t349 t352 bt355.1 bt355.2).bind fun t359 => ((laws_toInstance.f k l0_0 l0_1).bind fun bt360 => ((laws_toFact.f k a1_0 l1_1).bind fun bt367 => ((impl_ContainsFact.f k bt360.1 bt360.2 bt367.1 bt367.2).bind fun t372 => (if (t372 != t359) = true then (some false) else ((laws_toInstance.f k l0_0 l0_1).bind fun bt373 => ((laws_eqInstance.f k bt360.1 bt360.2 bt373.1 bt373.2).bind fun t379 => (if t379 = true then ((laws_toFact.f k a1_0 l1_1).bind fun bt380 => ((laws_eqFact.f k bt367.1 bt367.2 bt380.1 bt380.2).bind fun t384 => (if t384 = true then (some true) else (some false)))) else (some false)))))))))) = some true := H
   have A19 := Aside0.mk A190
   clear A190
   replace H := Option.bind_eq_some_iff.mp H
   obtain ⟨⟨t355, t356⟩, A200, H⟩ := H
   replace H : ((spec_ContainsFact.f k t349 t352 t355 t356).bind fun t359 => ((laws_toInstance.f k l0_0 l0_1).bind fun bt360 => ((laws_toFact.f k a1_0 l1_1).bind fun bt367 => ((impl_ContainsFact.f k bt360.1 bt360.2 bt367.1 bt367.2).bind fun t372 => (if (t372 != t359) = true then (some false) else ((laws_toInstance.f k l0_0 l0_1).bind fun bt373 => ((laws_eqInstance.f k bt360.1 bt360.2 bt373.1 bt373.2).bind fun t379 => (if t379 = true then ((laws_toFact.f k a1_0 l1_1).bind fun bt380 => ((laws_eqFact.f k bt367.1 bt367.2 bt380.1 bt380.2).bind fun t384 => (if t384 = true then (some true) else (some false)))) else (some false))))))))) = some true := H
   have A20 := Aside0.mk A200
   clear A200
   replace H := Option.bind_eq_some_iff.mp H
   obtain ⟨t359, A210, H⟩ := H
   replace H : ((laws_toInstance.f k l0_0 l0_1).bind fun bt360 => ((laws_toFact.f k a1_0 l1_1).bind fun bt367 => ((impl_ContainsFact.f k bt360.1 bt360.2 bt367.1 bt367.2).bind fun t372 => (if (t372 != t359) = true then (some false) else ((laws_toInstance.f k l0_0 l0_1).bind fun bt373 => ((laws_eqInstance.f k bt360.1 bt360.2 bt373.1 bt373.2).bind fun t379 => (if t379 = true then ((laws_toFact.f k a1_0 l1_1).bind fun bt380 => ((laws_eqFact.f k bt367.1 bt367.2 bt380.1 bt380.2).bind fun t384 => (if t384 = true then (some true) else (some false)))) else (some false)))))))) = some true := H
   have A21 := Aside0.mk A210
   clear A210
   replace H := Option.bind_eq_some_iff.mp H
   obtain ⟨⟨t360, t363⟩, A220, H⟩ := H
   replace H : ((laws_toFact.f k a1_0 l1_1).bind fun bt367 => ((impl_ContainsFact.f k t360 t363 bt367.1 bt367.2).bind fun t372 => (if (t372 != t359) = true then (some false) else ((laws_toInstance.f k l0_0 l0_1).bind fun bt373 => ((laws_eqInstance.f k t360 t363 bt373.1 bt373.2).bind fun t379 => (if t379 = true then ((laws_toFact.f k a1_0 l1_1).bind fun bt380 => ((laws_eqFact.f k bt367.1 bt367.2 bt380.1 bt380.2).bind fun t384 => (if t384 = true then (some true) else (some false)))) else (some false))))))) = some true := H
   have A22 := Aside0.mk A220
   clear A220
   replace H := Option.bind_eq_some_iff.mp H
   obtain ⟨⟨t367, t368⟩, A230, H⟩ := H
   replace H : ((impl_ContainsFact.f k t360 t363 t367 t368).bind fun t372 => (if (t372 != t359) = true then (some false) else ((laws_toInstance.f k l0_0 l0_1).bind fun bt373 => ((laws_eqInstance.f k t360 t363 bt373.1 bt373.2).bind fun t379 => (if t379 = true then ((laws_toFact.f k a1_0 l1_1).bind fun bt380 => ((laws_eqFact.f k t367 t368 bt380.1 bt380.2).bind fun t384 => (if t384 = true then (some true) else (some false)))) else (some false)))))) = some true := H
   have A23 := Aside0.mk A230
   clear A230
   replace H := Option.bind_eq_some_iff.mp H
   obtain ⟨t372, A240, H⟩ := H
   replace H : (if (t372 != t359) = true then (some false) else ((laws_toInstance.f k l0_0 l0_1).bind fun bt373 => ((laws_eqInstance.f k t360 t363 bt373.1 bt373.2).bind fun t379 => (if t379 = true then ((laws_toFact.f k a1_0 l1_1).bind fun bt380 => ((laws_eqFact.f k t367 t368 bt380.1 bt380.2).bind fun t384 => (if t384 = true then (some true) else (some false)))) else (some false))))) = some true := H
   have A24 := Aside0.mk A240
   clear A240
   by_cases c25 : (t372 != t359) = true
   ·rw [if_pos c25] at H
    have c25b0 : (t372 != t359) = true := c25
    (try (have c25b1 : decide (t372 = t359) = false := by simpa using c25))
    (try (have c25b2 : (t372 == t359) = false := by simpa using c25))
    (try (have c25b3 : ¬ (t372 = t359) := by simpa using c25))
    clear c25
    exact absurd H (by simp)
   ·rw [if_neg c25] at H
    have c25b0 : (t372 != t359) = false := by simpa using c25
    (try (have c25b1 : decide (t372 = t359) = true := by simpa using c25))
    (try (have c25b2 : (t372 == t359) = true := by simpa using c25))
    clear c25
    replace H := Option.bind_eq_some_iff.mp H
    obtain ⟨⟨t373, t376⟩, A260, H⟩ := H
    replace H : ((laws_eqInstance.f k t360 t363 t373 t376).bind fun t379 => (if t379 = true then ((laws_toFact.f k a1_0 l1_1).bind fun bt380 => ((laws_eqFact.f k t367 t368 bt380.1 bt380.2).bind fun t384 => (if t384 = true then (some true) else (some false)))) else (some false))) = some true := H
    have A26 := Aside0.mk A260
    clear A260
    replace H := Option.bind_eq_some_iff.mp H
    obtain ⟨t379, A270, H⟩ := H
    replace H : (if t379 = true then ((laws_toFact.f k a1_0 l1_1).bind fun bt380 => ((laws_eqFact.f k t367 t368 bt380.1 bt380.2).bind fun t384 => (if t384 = true then (some true) else (some false)))) else (some false)) = some true := H
    have A27 := Aside0.mk A270
    clear A270
    by_cases c28 : t379 = true
    ·subst c28
     have H1 : ((laws_toFact.f k a1_0 l1_1).bind fun bt380 => ((laws_eqFact.f k t367 t368 bt380.1 bt380.2).bind fun t384 => (if t384 = true then (some true) else (some false)))) = some true := by first | with_reducible rfl | (rw [if_pos rfl] at H; exact H)
     clear H
     have H := H1
     clear H1
     replace H := Option.bind_eq_some_iff.mp H
     obtain ⟨⟨t380, t381⟩, A290, H⟩ := H
     replace H : ((laws_eqFact.f k t367 t368 t380 t381).bind fun t384 => (if t384 = true then (some true) else (some false))) = some true := H
     have A29 := Aside0.mk A290
     clear A290
     replace H := Option.bind_eq_some_iff.mp H
     obtain ⟨t384, A300, H⟩ := H
     replace H : (if t384 = true then (some true) else (some false)) = some true := H
     have A30 := Aside0.mk A300
     clear A300
     by_cases c31 : t384 = true
     ·subst c31
      have H1 : (some true) = some true := by first | with_reducible rfl | (rw [if_pos rfl] at H; exact H)
      clear H
      have H := H1
      clear H1
      clear H
      go_enter Try.func5, Try.ntmps5
      try go_wp2_with (first | ((with_reducible refine gate_dst (N := 2) rfl ?_); refine box_event ?hg (N := 2) ?hd (cs := #[.slice A0_0 l0_0.length c0_0, .slice A0_1 l0_1.length c0_1]) (t := 25) ?hr ?_; (case hd => rfl); (case hg => rfl); (case hr => first | (go_simp; done) | (go_simp; rfl)); intro gb345 hg w32 hbox hb; have BK345 := zm (hbox); have GW345 := zm ((by rw [hg]; exact (below_size zl) : w.heap.size ≤ gb345)); have GE345 := zm ((by rw [hg]; exact (below_size zl) : w.heap.size ≤ gb345)); replace HB := zm (below_step zl hb); clear hb hbox hg) | ((with_reducible refine gate_dst (N := 3) rfl ?_); refine box_event ?hg (N := 3) ?hd (cs := #[.int .i64 a1_0, .slice A1_1 l1_1.length c1_1]) (t := 41) ?hr ?_; (case hd => rfl); (case hg => rfl); (case hr => first | (go_simp; done) | (go_simp; rfl)); intro gb346 hg w33 hbox hb; have BK346 := zm (hbox); have GW346 := zm ((by rw [hg]; exact (below_size zl) : w.heap.size ≤ gb346)); have GE346 := zm ((by rw [hg]; exact (below_size zl) : w.heap.size ≤ gb346)); replace HB := zm (below_step zl hb); have NB345_346 := zm (zl1 hg (zb BK345.out)); have NB346_345 := zm (zl2 hg (zb BK345.out)); replace BK345 := zm (blk_below (zb BK345.out) hb); clear hb hbox hg; have hnb34 := NB345_346.out; have hnc34 := NB346_345.out; have hcz35_0 : w33.cell? ⟨gb345, 0, none⟩ = some (.slice A0_0 l0_0.length c0_0) := (blk_cell BK345.out 0).trans rfl; have hcz35_1 : w33.cell? ⟨gb345, 1, none⟩ = some (.slice A0_1 l0_1.length c0_1) := (blk_cell BK345.out 1).trans rfl; have hfz35_0 := blk_frozen BK345.out 0; have hfz35_1 := blk_frozen BK345.out 1) | ((with_reducible refine gate_callee (f := 6) rfl ?_); refine zg (some 12) Try.func6 #[.agg #[.slice A0_0 l0_0.length c0_0, .slice A0_1 l0_1.length c0_1], .int .i64 1048576] ?_; (with_reducible refine (laws_szInstance.calls k _ _ l0_0 _ _ l0_1 1048576 t347 _ ?side1 ?side2 ?side3 ?side4 A3.out).mono ?_); (case side1 => exact zc HR0_0.out); (case side2 => exact HC0_0.out); (case side3 => exact zc HR0_1.out); (case side4 => exact HC0_1.out); rintro e w36 ⟨rfl, hb⟩; refine ⟨_, rfl, ?_⟩; replace BK345 := zm (blk_below (zb BK345.out) hb); replace BK346 := zm (blk_below (zb BK346.out) hb); replace HB := zm (below_step zl hb); (try clear hb); have hcz37_0 : w36.cell? ⟨gb346, 0, none⟩ = some (.int .i64 a1_0) := (blk_cell BK346.out 0).trans rfl; have hcz37_1 : w36.cell? ⟨gb346, 1, none⟩ = some (.slice A1_1 l1_1.length c1_1) := (blk_cell BK346.out 1).trans rfl; have hfz37_0 := blk_frozen BK346.out 0; have hfz37_1 := blk_frozen BK346.out 1) | ((with_reducible refine gate_callee (f := 17) rfl ?_); refine zg (some 17) Try.func17 #[.agg #[.int .i64 a1_0, .slice A1_1 l1_1.length c1_1], .int .i64 t347] ?_; (with_reducible refine (laws_szFact.calls a1_0 _ _ l1_1 t347 t348 _ ?side1 ?side2 A10.out).mono ?_); (case side1 => exact zc HR1_1.out); (case side2 => exact HC1_1.out); rintro e w38 ⟨rfl, hb⟩; refine ⟨_, rfl, ?_⟩; replace BK345 := zm (blk_below (zb BK345.out) hb); replace BK346 := zm (blk_below (zb BK346.out) hb); replace HB := zm (below_step zl hb); (try clear hb)))
      replace BK345 := zm (blk_drew BK345.out)
      replace BK346 := zm (blk_drew BK346.out)
      replace HB := zm (below_drew1 HB.out)
      refine start_ (n := 6) (S := fun w' => w'.cell? ⟨gb345, 0, none⟩ = some (.slice A0_0 l0_0.length c0_0) ∧ w'.cell? ⟨gb345, 1, none⟩ = some (.slice A0_1 l0_1.length c0_1) ∧ w'.cell? ⟨gb346, 0, none⟩ = some (.int .i64 a1_0) ∧ w'.cell? ⟨gb346, 1, none⟩ = some (.slice A1_1 l1_1.length c1_1)) (ds := []) #[false, false, false, false, false, false] (by kernel_rfl) rfl rfl ⟨(blk_cell BK345.out 0).trans rfl, (blk_cell BK345.out 1).trans rfl, (blk_cell BK346.out 0).trans rfl, (blk_cell BK346.out 1).trans rfl⟩ (fun hHeld => ?_)
      generalize w38.drew = w39 at BK345 BK346 HB hHeld ⊢
      refine take_ (i := 0) (N := some 20) (v := ?_) (a' := ?_) (zA 6 1) rfl rfl (by kernel_rfl) (fun _ _ _ h => h) (Or.inl ⟨by rfl, ?_⟩) hHeld ?_ ?_
      rotate_left
      ·rintro w' ⟨s0, s1, s2, s3⟩
       go_simp
       with_reducible rfl
      rotate_left
      ·simp only [Act.put, List.setIfInBounds_toArray, List.set_cons_zero, List.set_cons_succ, i64_w, i32_w]
       rfl
      refine take_ (i := 2) (N := some 22) (v := ?_) (a' := ?_) (zA 6 5) rfl rfl (by kernel_rfl) (fun _ _ _ h => h) (Or.inl ⟨by rfl, ?_⟩) hHeld ?_ ?_
      rotate_left
      ·rintro w' ⟨s0, s1, s2, s3⟩
       go_simp
       with_reducible rfl
      rotate_left
      ·simp only [Act.put, List.setIfInBounds_toArray, List.set_cons_zero, List.set_cons_succ, i64_w, i32_w]
       rfl
      refine one_ (i := 1) (N := some 21) (zA 6 7) rfl rfl (by kernel_rfl) (by decide) (fun K hK => ?_)
      refine goes_ Try.func8 (by kernel_rfl) rfl #[.agg #[.slice A0_0 l0_0.length c0_0, .slice A0_1 l0_1.length c0_1]] (by rfl) rfl rfl (by (try simp only [List.map_toArray, List.map_cons, List.map_nil]); first | done | rfl | (simp only [List.length_drop, List.length_take]; rfl)) ?_
      with_reducible refine (laws_toInstance.calls k _ _ l0_0 _ _ l0_1 t349 t352 _ ?side1 ?side2 ?side3 ?side4 A19.out).mono ?_
      (case side1 => exact zc HR0_0.out)
      (case side2 => exact HC0_0.out)
      (case side3 => exact zc HR0_1.out)
      (case side4 => exact HC0_1.out)
      rintro e w40 ⟨v350, v353, rfl, ho0, ho1, hb⟩
      refine ⟨_, rfl, ?_⟩
      have HO351 := zm (Kd.R_lower ho0 (below_size zl))
      have HO354 := zm (Kd.S_lower ho1 (below_size zl))
      replace BK345 := zm (blk_below (zb BK345.out) hb)
      replace BK346 := zm (blk_below (zb BK346.out) hb)
      replace HB := zm (below_step zl hb)
      (try clear hb)
      (try clear ho0)
      (try clear ho1)
      refine hK.out _ _ ⟨(blk_cell BK345.out 0).trans rfl, (blk_cell BK345.out 1).trans rfl, (blk_cell BK346.out 0).trans rfl, (blk_cell BK346.out 1).trans rfl⟩ (fun hHeld => ?_)
      clear hK K
      refine zO (some 21) ?_
      refine one_ (i := 3) (N := some 23) (zA 6 15) rfl rfl (by kernel_rfl) (by decide) (fun K hK => ?_)
      refine goes_ Try.func19 (by kernel_rfl) rfl #[.agg #[.int .i64 a1_0, .slice A1_1 l1_1.length c1_1]] (by rfl) rfl rfl (by (try simp only [List.map_toArray, List.map_cons, List.map_nil]); first | done | rfl | (simp only [List.length_drop, List.length_take]; rfl)) ?_
      with_reducible refine (laws_toFact.calls k a1_0 _ _ l1_1 t355 t356 _ ?side1 ?side2 A20.out).mono ?_
      (case side1 => exact zc HR1_1.out)
      (case side2 => exact HC1_1.out)
      rintro e w41 ⟨v357, rfl, ho0, hb⟩
      refine ⟨_, rfl, ?_⟩
      replace HO351 := zm (Kd.R_below (zr HO351.out) hb)
      replace HO354 := zm (Kd.S_elder' (zs HO354.out) (Kd.R_base ho0) hb)
      have HO358 := zm (Kd.R_lower ho0 (below_size zl))
      replace BK345 := zm (blk_below (zb BK345.out) hb)
      replace BK346 := zm (blk_below (zb BK346.out) hb)
      replace HB := zm (below_step zl hb)
      (try clear hb)
      (try clear ho0)
      obtain ⟨Ao42, co42, eo42⟩ := Kd.R_slice HO351.out
      (first | subst eo42 | (injection eo42 with f1_ f2_ f3_; have f4_ := f1_.symm; have f5_ := f3_.symm; clear f1_ f2_ f3_; subst f4_; subst f5_))
      obtain ⟨Ao43, co43, eo43⟩ := Kd.S_slice HO354.out
      (first | subst eo43 | (injection eo43 with f1_ f2_ f3_; have f4_ := f1_.symm; have f5_ := f3_.symm; clear f1_ f2_ f3_; subst f4_; subst f5_))
      obtain ⟨Ao44, co44, eo44⟩ := Kd.R_slice HO358.out
      (first | subst eo44 | (injection eo44 with f1_ f2_ f3_; have f4_ := f1_.symm; have f5_ := f3_.symm; clear f1_ f2_ f3_; subst f4_; subst f5_))
      refine hK.out _ _ ⟨(blk_cell BK345.out 0).trans rfl, (blk_cell BK345.out 1).trans rfl, (blk_cell BK346.out 0).trans rfl, (blk_cell BK346.out 1).trans rfl⟩ (fun hHeld => ?_)
      clear hK K
      refine zO (some 23) ?_
      refine one_ (i := 4) (N := some 24) (zA 6 31) rfl rfl (by kernel_rfl) (by decide) (fun K hK => ?_)
      refine goes_ Try.func18 (by kernel_rfl) rfl #[.agg #[.slice Ao42 t349.length co42, .slice Ao43 t352.length co43], .agg #[.int .i64 t355, .slice Ao44 t356.length co44]] (by rfl) rfl rfl (by (try simp only [List.map_toArray, List.map_cons, List.map_nil]); first | done | rfl | (simp only [List.length_drop, List.length_take]; rfl)) ?_
      with_reducible refine (spec_ContainsFact.calls k _ _ t349 _ _ t352 t355 _ _ t356 t359 _ ?side1 ?side2 ?side3 ?side4 ?side5 ?side6 A21.out).mono ?_
      (case side1 => exact zk HO351.out)
      (case side2 => exact (Kd.R_reads' HO351.out).2.1)
      (case side3 => repeat (first | exact (Kd.S_reads' HO354.out).2.2 | (with_reducible refine Kd.C_alloc ?_ _) | (with_reducible refine Kd.C_drewN ?_ _) | (with_reducible refine Kd.C_drew ?_)))
      (case side4 => exact (Kd.S_reads' HO354.out).2.1)
      (case side5 => exact zk HO358.out)
      (case side6 => exact (Kd.R_reads' HO358.out).2.1)
      rintro e w45 ⟨rfl, hb⟩
      refine ⟨_, rfl, ?_⟩
      replace HO351 := zm (Kd.R_below (zr HO351.out) hb)
      replace HO354 := zm (Kd.S_below (zs HO354.out) hb)
      replace HO358 := zm (Kd.R_below (zr HO358.out) hb)
      replace BK345 := zm (blk_below (zb BK345.out) hb)
      replace BK346 := zm (blk_below (zb BK346.out) hb)
      replace HB := zm (below_step zl hb)
      (try clear hb)
      refine hK.out _ _ ⟨(blk_cell BK345.out 0).trans rfl, (blk_cell BK345.out 1).trans rfl, (blk_cell BK346.out 0).trans rfl, (blk_cell BK346.out 1).trans rfl⟩ (fun hHeld => ?_)
      clear hK K
      refine zO (some 24) ?_
      refine zP 5 (some 6) (zA 6 63) (by kernel_rfl) ?_
      refine done_ (by kernel_rfl) ?_
      have hcz46_0 : w45.cell? ⟨gb345, 0, none⟩ = some (.slice A0_0 l0_0.length c0_0) := (blk_cell BK345.out 0).trans rfl
      have hcz46_1 : w45.cell? ⟨gb345, 1, none⟩ = some (.slice A0_1 l0_1.length c0_1) := (blk_cell BK345.out 1).trans rfl
      have hfz46_0 := blk_frozen BK345.out 0
      have hfz46_1 := blk_frozen BK345.out 1
      try go_wp2_with (first | ((with_reducible refine gate_callee (f := 8) rfl ?_); refine zg (some 26) Try.func8 #[.agg #[.slice A0_0 l0_0.length c0_0, .slice A0_1 l0_1.length c0_1]] ?_; (with_reducible refine (laws_toInstance.calls k _ _ l0_0 _ _ l0_1 t360 t363 _ ?side1 ?side2 ?side3 ?side4 A22.out).mono ?_); (case side1 => exact zc HR0_0.out); (case side2 => exact HC0_0.out); (case side3 => exact zc HR0_1.out); (case side4 => exact HC0_1.out); rintro e w47 ⟨v361, v364, rfl, ho0, ho1, hb⟩; refine ⟨_, rfl, ?_⟩; have HO362 := zm (Kd.R_lower (zn ho0 (zr HO351.out)) (below_size zl)); replace HO351 := zm (zo1 (zr HO351.out) hb ho0); have HO365 := zm (Kd.S_lower (Kd.S_new' (Kd.S_new' ho1 (Kd.S_lt (zs HO354.out))) (Kd.R_lt (zr HO358.out))) (below_size zl)); replace HO354 := zm (Kd.S_elder' (zs HO354.out) (Kd.S_base ho1) hb); replace HO358 := zm (Kd.R_below (zr HO358.out) hb); replace BK345 := zm (blk_below (zb BK345.out) hb); replace BK346 := zm (blk_below (zb BK346.out) hb); replace HB := zm (below_step zl hb); (try clear hb); (try clear ho0); (try clear ho1)) | ((with_reducible refine gate_dst (N := 7) rfl ?_); refine box_event ?hg (N := 7) ?hd (cs := #[.slice none 0 0, .slice none 0 0]) (t := 32) ?hr ?_; (case hd => rfl); (case hg => rfl); (case hr => first | (go_simp; done) | (go_simp; rfl)); intro gb366 hg w48 hbox hb; replace HO351 := zm (Kd.R_below (zr HO351.out) hb); replace HO354 := zm (Kd.S_below (zs HO354.out) hb); replace HO358 := zm (Kd.R_below (zr HO358.out) hb); replace HO362 := zm (Kd.R_below (zr HO362.out) hb); replace HO365 := zm (Kd.S_below (zs HO365.out) hb); have BK366 := zm (hbox); have GW366 := zm ((by rw [hg]; exact (below_size zl) : w.heap.size ≤ gb366)); have GE366 := zm ((by rw [hg]; exact (below_size zl) : w.heap.size ≤ gb366)); replace HB := zm (below_step zl hb); have NB345_366 := zm (zl1 hg (zb BK345.out)); have NB366_345 := zm (zl2 hg (zb BK345.out)); replace BK345 := zm (blk_below (zb BK345.out) hb); have NB346_366 := zm (zl1 hg (zb BK346.out)); have NB366_346 := zm (zl2 hg (zb BK346.out)); replace BK346 := zm (blk_below (zb BK346.out) hb); clear hb hbox hg; obtain ⟨Ao49, co49, eo49⟩ := Kd.R_slice HO362.out; subst eo49; have hnb50 := NB366_345.out; have hnc50 := NB345_366.out; have hnb51 := NB366_346.out; have hnc51 := NB346_366.out; have hcz52_0 : w48.cell? ⟨gb366, 0, none⟩ = some (.slice none 0 0) := (blk_cell BK366.out 0).trans rfl; have hcz52_1 : w48.cell? ⟨gb366, 1, none⟩ = some (.slice none 0 0) := (blk_cell BK366.out 1).trans rfl; have hfz52_0 := blk_frozen BK366.out 0; have hfz52_1 := blk_frozen BK366.out 1; obtain ⟨Ao53, co53, eo53⟩ := Kd.S_slice HO365.out; subst eo53; have hcz54_0 : w48.cell? ⟨gb346, 0, none⟩ = some (.int .i64 a1_0) := (blk_cell BK346.out 0).trans rfl; have hcz54_1 : w48.cell? ⟨gb346, 1, none⟩ = some (.slice A1_1 l1_1.length c1_1) := (blk_cell BK346.out 1).trans rfl; have hfz54_0 := blk_frozen BK346.out 0; have hfz54_1 := blk_frozen BK346.out 1) | ((with_reducible refine gate_callee (f := 19) rfl ?_); have zq0 := zf2 HO358.out BK366.out 0 (.slice Ao49 t360.length co49) 1 (.slice Ao53 t363.length co53); refine zg (some 28) Try.func19 #[.agg #[.int .i64 a1_0, .slice A1_1 l1_1.length c1_1]] ?_; (with_reducible refine (laws_toFact.calls k a1_0 _ _ l1_1 t367 t368 _ ?side1 ?side2 A23.out).mono ?_); (case side1 => exact Kd.C_below HR1_1.out zl); (case side2 => exact HC1_1.out); rintro e w55 ⟨v369, rfl, ho0, hb⟩; refine ⟨_, rfl, ?_⟩; replace HO351 := zm (Kd.R_below (zr (zf2 HO351.out BK366.out 0 (.slice Ao49 t360.length co49) 1 (.slice Ao53 t363.length co53))) hb); replace HO354 := zm (Kd.S_elder' (zs (Kd.S_mono (Kd.S_far (p := ⟨gb366, 1, none⟩) (Kd.S_far (p := ⟨gb366, 0, none⟩) (Kd.S_types HO354.out BK366.out (by decide)) (fun _ hk => hk.2) (.slice Ao49 t360.length co49)) (fun _ hk => hk.2) (.slice Ao53 t363.length co53)) (fun _ h_ => h_.1))) (Kd.R_base ho0) hb); replace HO362 := zm (Kd.R_below (zr (zf2 HO362.out BK366.out 0 (.slice Ao49 t360.length co49) 1 (.slice Ao53 t363.length co53))) hb); replace HO365 := zm (Kd.S_elder' (zs (Kd.S_mono (Kd.S_far (p := ⟨gb366, 1, none⟩) (Kd.S_far (p := ⟨gb366, 0, none⟩) (Kd.S_types HO365.out BK366.out (by decide)) (fun _ hk => hk.2) (.slice Ao49 t360.length co49)) (fun _ hk => hk.2) (.slice Ao53 t363.length co53)) (fun _ h_ => h_.1))) (Kd.R_base ho0) hb); have HO370 := zm (Kd.R_lower (zn ho0 (zr zq0)) (below_size zl)); replace HO358 := zm (Kd.R_elder' (zr zq0) (Kd.R_base ho0) hb); replace BK345 := zm (blk_below (g := gb345) (o := .cells #[.slice A0_0 l0_0.length c0_0, .slice A0_1 l0_1.length c0_1] 25 (0, 0)) zbz hb); replace BK346 := zm (blk_below (g := gb346) (o := .cells #[.int .i64 a1_0, .slice A1_1 l1_1.length c1_1] 41 (0, 0)) zbz hb); replace BK366 := zm (blk_below (g := gb366) (o := .cells #[.slice Ao49 t360.length co49, .slice Ao53 t363.length co53] 32 (0, 0)) (by (with_reducible repeat (first | refine blk_drewN ?_ _ | refine blk_drew ?_ | refine blk_alloc ?_ _)); refine blk_put (cs := #[.slice Ao49 t360.length co49, .slice none 0 0]) ?_ 1 _ rfl; (with_reducible repeat (first | refine blk_drewN ?_ _ | refine blk_drew ?_ | refine blk_alloc ?_ _)); refine blk_put (cs := #[.slice none 0 0, .slice none 0 0]) ?_ 0 _ rfl; (with_reducible repeat (first | refine blk_drewN ?_ _ | refine blk_drew ?_ | refine blk_alloc ?_ _)); exact BK366.out) hb); replace HB := zm (below_step zl hb); (try clear hb); (try clear ho0)) | ((with_reducible refine gate_dst (N := 8) rfl ?_); refine box_event ?hg (N := 8) ?hd (cs := #[.int .i64 0, .slice none 0 0]) (t := 44) ?hr ?_; (case hd => rfl); (case hg => rfl); (case hr => first | (go_simp; done) | (go_simp; rfl)); intro gb371 hg w56 hbox hb; replace HO351 := zm (Kd.R_below (zr HO351.out) hb); replace HO354 := zm (Kd.S_below (Kd.S_elderB (zs HO354.out) gb371 (Nat.le_of_eq hg.symm)) hb); replace HO358 := zm (Kd.R_below (zr HO358.out) hb); replace HO362 := zm (Kd.R_below (zr HO362.out) hb); replace HO365 := zm (Kd.S_below (Kd.S_elderB (zs HO365.out) gb371 (Nat.le_of_eq hg.symm)) hb); replace HO370 := zm (Kd.R_below (zr HO370.out) hb); have BK371 := zm (hbox); have GW371 := zm ((by rw [hg]; exact (below_size zl) : w.heap.size ≤ gb371)); have GE371 := zm ((by rw [hg]; exact (below_size zl) : w.heap.size ≤ gb371)); replace HB := zm (below_step zl hb); have NB345_371 := zm (zl1 hg (zb BK345.out)); have NB371_345 := zm (zl2 hg (zb BK345.out)); replace BK345 := zm (blk_below (zb BK345.out) hb); have NB346_371 := zm (zl1 hg (zb BK346.out)); have NB371_346 := zm (zl2 hg (zb BK346.out)); replace BK346 := zm (blk_below (zb BK346.out) hb); have NB366_371 := zm (zl1 hg (zb BK366.out)); have NB371_366 := zm (zl2 hg (zb BK366.out)); replace BK366 := zm (blk_below (zb BK366.out) hb); clear hb hbox hg; have hnb57 := NB371_345.out; have hnc57 := NB345_371.out; have hnb58 := NB371_346.out; have hnc58 := NB346_371.out; have hnb59 := NB371_366.out; have hnc59 := NB366_371.out; have hcz60_0 : w56.cell? ⟨gb371, 0, none⟩ = some (.int .i64 0) := (blk_cell BK371.out 0).trans rfl; have hcz60_1 : w56.cell? ⟨gb371, 1, none⟩ = some (.slice none 0 0) := (blk_cell BK371.out 1).trans rfl; have hfz60_0 := blk_frozen BK371.out 0; have hfz60_1 := blk_frozen BK371.out 1; obtain ⟨Ao61, co61, eo61⟩ := Kd.R_slice HO370.out; subst eo61; have hcz62_0 : w56.cell? ⟨gb366, 0, none⟩ = some (.slice Ao49 t360.length co49) := (blk_cell BK366.out 0).trans rfl; have hcz62_1 : w56.cell? ⟨gb366, 1, none⟩ = some (.slice Ao53 t363.length co53) := (blk_cell BK366.out 1).trans rfl; have hfz62_0 := blk_frozen BK366.out 0; have hfz62_1 := blk_frozen BK366.out 1) | ((with_reducible refine gate_callee (f := 20) rfl ?_); have zq0 := zf2 HO362.out BK371.out 0 (.int .i64 t367) 1 (.slice Ao61 t368.length co61); have zq1 := zf2 HO370.out BK371.out 0 (.int .i64 t367) 1 (.slice Ao61 t368.length co61); refine zg (some 31) Try.func20 #[.agg #[.slice Ao49 t360.length co49, .slice Ao53 t363.length co53], .agg #[.int .i64 t367, .slice Ao61 t368.length co61]] ?_; (with_reducible refine (impl_ContainsFact.calls k _ _ t360 _ _ t363 t367 _ _ t368 t372 _ ?side1 ?side2 ?side3 ?side4 ?side5 ?side6 A24.out).mono ?_); (case side1 => refine (Kd.R_reads' (e := 62) (base := w.heap.size) (ok := fun k_ => (True ∧ zx (.slice Ao42 t349.length co42) k_)) (n := t360.length) (c := co49) ?_).2.2; exact (zr zq0)); (case side2 => exact (Kd.R_reads' HO362.out).2.1); (case side3 => refine (Kd.S_reads' (e := 44) (base := w.heap.size) (ok := fun k_ => ((((True ∧ zx (.slice Ao43 t352.length co43) k_) ∧ zx (.slice Ao44 t356.length co44) k_) ∧ zx (.slice Ao61 t368.length co61) k_) ∧ k_ ≠ gb371)) (n := t363.length) (c := co53) ?_).2.2; exact (zs (Kd.S_mono (Kd.S_far (p := ⟨gb371, 1, none⟩) (Kd.S_far (p := ⟨gb371, 0, none⟩) (Kd.S_mono HO365.out (fun k_ hk => (⟨hk, hk.2⟩ : _ ∧ k_ ≠ gb371))) (fun _ hk => hk.2) (.int .i64 t367)) (fun _ hk => hk.2) (.slice Ao61 t368.length co61)) (fun _ h_ => h_.1)))); (case side4 => exact (Kd.S_reads' HO365.out).2.1); (case side5 => refine (Kd.R_reads' (e := 3) (base := w.heap.size) (ok := fun k_ => (True ∧ zx (.slice Ao44 t356.length co44) k_)) (n := t368.length) (c := co61) ?_).2.2; exact (zr zq1)); (case side6 => exact (Kd.R_reads' HO370.out).2.1); rintro e w63 ⟨rfl, hb⟩; refine ⟨_, rfl, ?_⟩; replace HO351 := zm (Kd.R_below (zr (zf2 HO351.out BK371.out 0 (.int .i64 t367) 1 (.slice Ao61 t368.length co61))) hb); replace HO354 := zm (Kd.S_below (zs (Kd.S_mono (Kd.S_far (p := ⟨gb371, 1, none⟩) (Kd.S_far (p := ⟨gb371, 0, none⟩) (Kd.S_mono HO354.out (fun k_ hk => (⟨hk, hk.2⟩ : _ ∧ k_ ≠ gb371))) (fun _ hk => hk.2) (.int .i64 t367)) (fun _ hk => hk.2) (.slice Ao61 t368.length co61)) (fun _ h_ => h_.1))) hb); replace HO358 := zm (Kd.R_below (zr (zf2 HO358.out BK371.out 0 (.int .i64 t367) 1 (.slice Ao61 t368.length co61))) hb); replace HO362 := zm (Kd.R_below (zr zq0) hb); replace HO365 := zm (Kd.S_below (zs (Kd.S_mono (Kd.S_far (p := ⟨gb371, 1, none⟩) (Kd.S_far (p := ⟨gb371, 0, none⟩) (Kd.S_mono HO365.out (fun k_ hk => (⟨hk, hk.2⟩ : _ ∧ k_ ≠ gb371))) (fun _ hk => hk.2) (.int .i64 t367)) (fun _ hk => hk.2) (.slice Ao61 t368.length co61)) (fun _ h_ => h_.1))) hb); replace HO370 := zm (Kd.R_below (zr zq1) hb); replace BK345 := zm (blk_below (g := gb345) (o := .cells #[.slice A0_0 l0_0.length c0_0, .slice A0_1 l0_1.length c0_1] 25 (0, 0)) (by (with_reducible repeat (first | refine blk_drewN ?_ _ | refine blk_drew ?_ | refine blk_alloc ?_ _)); refine blk_far ?_ NB345_371.out _; (with_reducible repeat (first | refine blk_drewN ?_ _ | refine blk_drew ?_ | refine blk_alloc ?_ _)); refine blk_far ?_ NB345_371.out _; (with_reducible repeat (first | refine blk_drewN ?_ _ | refine blk_drew ?_ | refine blk_alloc ?_ _)); exact BK345.out) hb); replace BK346 := zm (blk_below (g := gb346) (o := .cells #[.int .i64 a1_0, .slice A1_1 l1_1.length c1_1] 41 (0, 0)) zbz hb); replace BK366 := zm (blk_below (g := gb366) (o := .cells #[.slice Ao49 t360.length co49, .slice Ao53 t363.length co53] 32 (0, 0)) zbz hb); replace BK371 := zm (blk_below (g := gb371) (o := .cells #[.int .i64 t367, .slice Ao61 t368.length co61] 44 (0, 0)) (by (with_reducible repeat (first | refine blk_drewN ?_ _ | refine blk_drew ?_ | refine blk_alloc ?_ _)); refine blk_put (cs := #[.int .i64 t367, .slice none 0 0]) ?_ 1 _ rfl; (with_reducible repeat (first | refine blk_drewN ?_ _ | refine blk_drew ?_ | refine blk_alloc ?_ _)); refine blk_put (cs := #[.int .i64 0, .slice none 0 0]) ?_ 0 _ rfl; (with_reducible repeat (first | refine blk_drewN ?_ _ | refine blk_drew ?_ | refine blk_alloc ?_ _)); exact BK371.out) hb); replace HB := zm (below_step zl hb); (try clear hb)))
      replace HO351 := zm (Kd.R_drew HO351.out)
      replace HO354 := zm (Kd.S_drew HO354.out)
      replace HO358 := zm (Kd.R_drew HO358.out)
      replace HO362 := zm (Kd.R_drew HO362.out)
      replace HO365 := zm (Kd.S_drew HO365.out)
      replace HO370 := zm (Kd.R_drew HO370.out)
      replace BK345 := zm (blk_drew BK345.out)
      replace BK346 := zm (blk_drew BK346.out)
      replace BK366 := zm (blk_drew BK366.out)
      replace BK371 := zm (blk_drew BK371.out)
      replace HB := zm (below_drew1 HB.out)
      refine start_ (n := 5) (S := fun w' => w'.cell? ⟨gb366, 0, none⟩ = some (.slice Ao49 t360.length co49) ∧ w'.cell? ⟨gb366, 1, none⟩ = some (.slice Ao53 t363.length co53) ∧ w'.cell? ⟨gb345, 0, none⟩ = some (.slice A0_0 l0_0.length c0_0) ∧ w'.cell? ⟨gb345, 1, none⟩ = some (.slice A0_1 l0_1.length c0_1)) (ds := []) #[false, false, false, false, false] (by kernel_rfl) rfl rfl ⟨(blk_cell BK366.out 0).trans rfl, (blk_cell BK366.out 1).trans rfl, (blk_cell BK345.out 0).trans rfl, (blk_cell BK345.out 1).trans rfl⟩ (fun hHeld => ?_)
      generalize w63.drew = w64 at HO351 HO354 HO358 HO362 HO365 HO370 BK345 BK346 BK366 BK371 HB hHeld ⊢
      refine take_ (i := 0) (N := some 35) (v := ?_) (a' := ?_) #[true, false, false, false, false] rfl rfl (by kernel_rfl) (fun _ _ _ h => h) (Or.inl ⟨by rfl, ?_⟩) hHeld ?_ ?_
      rotate_left
      ·rintro w' ⟨s0, s1, s2, s3⟩
       go_simp
       with_reducible rfl
      rotate_left
      ·simp only [Act.put, List.setIfInBounds_toArray, List.set_cons_zero, List.set_cons_succ, i64_w, i32_w]
       rfl
      refine take_ (i := 1) (N := some 36) (v := ?_) (a' := ?_) #[true, true, false, false, false] rfl rfl (by kernel_rfl) (fun _ _ _ h => h) (Or.inl ⟨by rfl, ?_⟩) hHeld ?_ ?_
      rotate_left
      ·rintro w' ⟨s0, s1, s2, s3⟩
       go_simp
       with_reducible rfl
      rotate_left
      ·simp only [Act.put, List.setIfInBounds_toArray, List.set_cons_zero, List.set_cons_succ, i64_w, i32_w]
       rfl
      refine one_ (i := 2) (N := some 37) #[true, true, true, false, false] rfl rfl (by kernel_rfl) (by decide) (fun K hK => ?_)
      refine goes_ Try.func8 (by kernel_rfl) rfl #[.agg #[.slice A0_0 l0_0.length c0_0, .slice A0_1 l0_1.length c0_1]] (by rfl) rfl rfl (by (try simp only [List.map_toArray, List.map_cons, List.map_nil]); first | done | rfl | (simp only [List.length_drop, List.length_take]; rfl)) ?_
      with_reducible refine (laws_toInstance.calls k _ _ l0_0 _ _ l0_1 t373 t376 _ ?side1 ?side2 ?side3 ?side4 A26.out).mono ?_
      (case side1 => exact zc HR0_0.out)
      (case side2 => exact HC0_0.out)
      (case side3 => exact zc HR0_1.out)
      (case side4 => exact HC0_1.out)
      rintro e w65 ⟨v374, v377, rfl, ho0, ho1, hb⟩
      refine ⟨_, rfl, ?_⟩
      have HO375 := zm (Kd.R_lower (zn (zn ho0 (zr HO351.out)) (zr HO362.out)) (below_size zl))
      replace HO351 := zm (zo1 (zr HO351.out) hb ho0)
      replace HO362 := zm (zo1 (zr HO362.out) hb ho0)
      have HO378 := zm (Kd.S_lower (Kd.S_newB (Kd.S_new' (Kd.S_new' (Kd.S_new' (Kd.S_new' ho1 (Kd.S_lt (zs HO354.out))) (Kd.R_lt (zr HO358.out))) (Kd.S_lt (zs HO365.out))) (Kd.R_lt (zr HO370.out))) (g := gb371) (o := .cells #[.int .i64 t367, .slice Ao61 t368.length co61] 44 (0, 0)) (zb BK371.out)) (below_size zl))
      replace HO354 := zm (Kd.S_elder' (zs HO354.out) (Kd.S_base ho1) hb)
      replace HO358 := zm (Kd.R_below (zr HO358.out) hb)
      replace HO365 := zm (Kd.S_elder' (zs HO365.out) (Kd.S_base ho1) hb)
      replace HO370 := zm (Kd.R_below (zr HO370.out) hb)
      replace BK345 := zm (blk_below (zb BK345.out) hb)
      replace BK346 := zm (blk_below (zb BK346.out) hb)
      replace BK366 := zm (blk_below (zb BK366.out) hb)
      replace BK371 := zm (blk_below (zb BK371.out) hb)
      replace HB := zm (below_step zl hb)
      (try clear hb)
      (try clear ho0)
      (try clear ho1)
      obtain ⟨Ao66, co66, eo66⟩ := Kd.R_slice HO375.out
      (first | subst eo66 | (injection eo66 with f1_ f2_ f3_; have f4_ := f1_.symm; have f5_ := f3_.symm; clear f1_ f2_ f3_; subst f4_; subst f5_))
      obtain ⟨Ao67, co67, eo67⟩ := Kd.S_slice HO378.out
      (first | subst eo67 | (injection eo67 with f1_ f2_ f3_; have f4_ := f1_.symm; have f5_ := f3_.symm; clear f1_ f2_ f3_; subst f4_; subst f5_))
      refine hK.out _ _ ⟨(blk_cell BK366.out 0).trans rfl, (blk_cell BK366.out 1).trans rfl, (blk_cell BK345.out 0).trans rfl, (blk_cell BK345.out 1).trans rfl⟩ (fun hHeld => ?_)
      clear hK K
      refine zO (some 37) ?_
      refine one_ (i := 3) (N := some 38) #[true, true, true, true, false] rfl rfl (by kernel_rfl) (by decide) (fun K hK => ?_)
      refine goes_ Try.func11 (by kernel_rfl) rfl #[.agg #[.slice Ao49 t360.length co49, .slice Ao53 t363.length co53], .agg #[.slice Ao66 t373.length co66, .slice Ao67 t376.length co67]] (by rfl) rfl rfl (by (try simp only [List.map_toArray, List.map_cons, List.map_nil]); first | done | rfl | (simp only [List.length_drop, List.length_take]; rfl)) ?_
      with_reducible refine (laws_eqInstance.calls k _ _ t360 _ _ t363 _ _ t373 _ _ t376 true _ ?side1 ?side2 ?side3 ?side4 ?side5 ?side6 ?side7 ?side8 A27.out).mono ?_
      (case side1 => exact zk HO362.out)
      (case side2 => exact (Kd.R_reads' HO362.out).2.1)
      (case side3 => repeat (first | exact (Kd.S_reads' HO365.out).2.2 | (with_reducible refine Kd.C_alloc ?_ _) | (with_reducible refine Kd.C_drewN ?_ _) | (with_reducible refine Kd.C_drew ?_)))
      (case side4 => exact (Kd.S_reads' HO365.out).2.1)
      (case side5 => exact zk HO375.out)
      (case side6 => exact (Kd.R_reads' HO375.out).2.1)
      (case side7 => repeat (first | exact (Kd.S_reads' HO378.out).2.2 | (with_reducible refine Kd.C_alloc ?_ _) | (with_reducible refine Kd.C_drewN ?_ _) | (with_reducible refine Kd.C_drew ?_)))
      (case side8 => exact (Kd.S_reads' HO378.out).2.1)
      rintro e w68 ⟨rfl, hb⟩
      refine ⟨_, rfl, ?_⟩
      replace HO351 := zm (Kd.R_below (zr HO351.out) hb)
      replace HO354 := zm (Kd.S_below (zs HO354.out) hb)
      replace HO358 := zm (Kd.R_below (zr HO358.out) hb)
      replace HO362 := zm (Kd.R_below (zr HO362.out) hb)
      replace HO365 := zm (Kd.S_below (zs HO365.out) hb)
      replace HO370 := zm (Kd.R_below (zr HO370.out) hb)
      replace HO375 := zm (Kd.R_below (zr HO375.out) hb)
      replace HO378 := zm (Kd.S_below (zs HO378.out) hb)
      replace BK345 := zm (blk_below (zb BK345.out) hb)
      replace BK346 := zm (blk_below (zb BK346.out) hb)
      replace BK366 := zm (blk_below (zb BK366.out) hb)
      replace BK371 := zm (blk_below (zb BK371.out) hb)
      replace HB := zm (below_step zl hb)
      (try clear hb)
      refine hK.out _ _ ⟨(blk_cell BK366.out 0).trans rfl, (blk_cell BK366.out 1).trans rfl, (blk_cell BK345.out 0).trans rfl, (blk_cell BK345.out 1).trans rfl⟩ (fun hHeld => ?_)
      clear hK K
      refine zO (some 38) ?_
      refine zP 4 (some 39) #[true, true, true, true, true] (by kernel_rfl) ?_
      refine done_ (by kernel_rfl) ?_
      try go_wp2
      replace HO351 := zm (Kd.R_drew HO351.out)
      replace HO354 := zm (Kd.S_drew HO354.out)
      replace HO358 := zm (Kd.R_drew HO358.out)
      replace HO362 := zm (Kd.R_drew HO362.out)
      replace HO365 := zm (Kd.S_drew HO365.out)
      replace HO370 := zm (Kd.R_drew HO370.out)
      replace HO375 := zm (Kd.R_drew HO375.out)
      replace HO378 := zm (Kd.S_drew HO378.out)
      replace BK345 := zm (blk_drew BK345.out)
      replace BK346 := zm (blk_drew BK346.out)
      replace BK366 := zm (blk_drew BK366.out)
      replace BK371 := zm (blk_drew BK371.out)
      replace HB := zm (below_drew1 HB.out)
      refine start_ (n := 5) (S := fun w' => w'.cell? ⟨gb371, 0, none⟩ = some (.int .i64 t367) ∧ w'.cell? ⟨gb371, 1, none⟩ = some (.slice Ao61 t368.length co61) ∧ w'.cell? ⟨gb346, 0, none⟩ = some (.int .i64 a1_0) ∧ w'.cell? ⟨gb346, 1, none⟩ = some (.slice A1_1 l1_1.length c1_1)) (ds := []) #[false, false, false, false, false] (by kernel_rfl) rfl rfl ⟨(blk_cell BK371.out 0).trans rfl, (blk_cell BK371.out 1).trans rfl, (blk_cell BK346.out 0).trans rfl, (blk_cell BK346.out 1).trans rfl⟩ (fun hHeld => ?_)
      generalize w68.drew = w69 at HO351 HO354 HO358 HO362 HO365 HO370 HO375 HO378 BK345 BK346 BK366 BK371 HB hHeld ⊢
      refine take_ (i := 0) (N := some 40) (v := ?_) (a' := ?_) #[true, false, false, false, false] rfl rfl (by kernel_rfl) (fun _ _ _ h => h) (Or.inl ⟨by rfl, ?_⟩) hHeld ?_ ?_
      rotate_left
      ·rintro w' ⟨s0, s1, s2, s3⟩
       go_simp
       with_reducible rfl
      rotate_left
      ·simp only [Act.put, List.setIfInBounds_toArray, List.set_cons_zero, List.set_cons_succ, i64_w, i32_w]
       rfl
      refine take_ (i := 1) (N := some 41) (v := ?_) (a' := ?_) #[true, true, false, false, false] rfl rfl (by kernel_rfl) (fun _ _ _ h => h) (Or.inl ⟨by rfl, ?_⟩) hHeld ?_ ?_
      rotate_left
      ·rintro w' ⟨s0, s1, s2, s3⟩
       go_simp
       with_reducible rfl
      rotate_left
      ·simp only [Act.put, List.setIfInBounds_toArray, List.set_cons_zero, List.set_cons_succ, i64_w, i32_w]
       rfl
      refine one_ (i := 2) (N := some 42) #[true, true, true, false, false] rfl rfl (by kernel_rfl) (by decide) (fun K hK => ?_)
      refine goes_ Try.func19 (by kernel_rfl) rfl #[.agg #[.int .i64 a1_0, .slice A1_1 l1_1.length c1_1]] (by rfl) rfl rfl (by (try simp only [List.map_toArray, List.map_cons, List.map_nil]); first | done | rfl | (simp only [List.length_drop, List.length_take]; rfl)) ?_
      with_reducible refine (laws_toFact.calls k a1_0 _ _ l1_1 t380 t381 _ ?side1 ?side2 A29.out).mono ?_
      (case side1 => exact zc HR1_1.out)
      (case side2 => exact HC1_1.out)
      rintro e w70 ⟨v382, rfl, ho0, hb⟩
      refine ⟨_, rfl, ?_⟩
      replace HO351 := zm (Kd.R_below (zr HO351.out) hb)
      replace HO354 := zm (Kd.S_elder' (zs HO354.out) (Kd.R_base ho0) hb)
      replace HO362 := zm (Kd.R_below (zr HO362.out) hb)
      replace HO365 := zm (Kd.S_elder' (zs HO365.out) (Kd.R_base ho0) hb)
      replace HO375 := zm (Kd.R_below (zr HO375.out) hb)
      replace HO378 := zm (Kd.S_elder' (zs HO378.out) (Kd.R_base ho0) hb)
      have HO383 := zm (Kd.R_lower (zn (zn ho0 (zr HO358.out)) (zr HO370.out)) (below_size zl))
      replace HO358 := zm (zo1 (zr HO358.out) hb ho0)
      replace HO370 := zm (zo1 (zr HO370.out) hb ho0)
      replace BK345 := zm (blk_below (zb BK345.out) hb)
      replace BK346 := zm (blk_below (zb BK346.out) hb)
      replace BK366 := zm (blk_below (zb BK366.out) hb)
      replace BK371 := zm (blk_below (zb BK371.out) hb)
      replace HB := zm (below_step zl hb)
      (try clear hb)
      (try clear ho0)
      obtain ⟨Ao71, co71, eo71⟩ := Kd.R_slice HO383.out
      (first | subst eo71 | (injection eo71 with f1_ f2_ f3_; have f4_ := f1_.symm; have f5_ := f3_.symm; clear f1_ f2_ f3_; subst f4_; subst f5_))
      refine hK.out _ _ ⟨(blk_cell BK371.out 0).trans rfl, (blk_cell BK371.out 1).trans rfl, (blk_cell BK346.out 0).trans rfl, (blk_cell BK346.out 1).trans rfl⟩ (fun hHeld => ?_)
      clear hK K
      refine zO (some 42) ?_
      refine one_ (i := 3) (N := some 43) #[true, true, true, true, false] rfl rfl (by kernel_rfl) (by decide) (fun K hK => ?_)
      refine goes_ Try.func21 (by kernel_rfl) rfl #[.agg #[.int .i64 t367, .slice Ao61 t368.length co61], .agg #[.int .i64 t380, .slice Ao71 t381.length co71]] (by rfl) rfl rfl (by (try simp only [List.map_toArray, List.map_cons, List.map_nil]); first | done | rfl | (simp only [List.length_drop, List.length_take]; rfl)) ?_
      with_reducible refine (laws_eqFact.calls k t367 _ _ t368 t380 _ _ t381 true _ ?side1 ?side2 ?side3 ?side4 A30.out).mono ?_
      (case side1 => exact zk HO370.out)
      (case side2 => exact (Kd.R_reads' HO370.out).2.1)
      (case side3 => exact zk HO383.out)
      (case side4 => exact (Kd.R_reads' HO383.out).2.1)
      rintro e w72 ⟨rfl, hb⟩
      refine ⟨_, rfl, ?_⟩
      replace HO351 := zm (Kd.R_below (zr HO351.out) hb)
      replace HO354 := zm (Kd.S_below (zs HO354.out) hb)
      replace HO358 := zm (Kd.R_below (zr HO358.out) hb)
      replace HO362 := zm (Kd.R_below (zr HO362.out) hb)
      replace HO365 := zm (Kd.S_below (zs HO365.out) hb)
      replace HO370 := zm (Kd.R_below (zr HO370.out) hb)
      replace HO375 := zm (Kd.R_below (zr HO375.out) hb)
      replace HO378 := zm (Kd.S_below (zs HO378.out) hb)
      replace HO383 := zm (Kd.R_below (zr HO383.out) hb)
      replace BK345 := zm (blk_below (zb BK345.out) hb)
      replace BK346 := zm (blk_below (zb BK346.out) hb)
      replace BK366 := zm (blk_below (zb BK366.out) hb)
      replace BK371 := zm (blk_below (zb BK371.out) hb)
      replace HB := zm (below_step zl hb)
      (try clear hb)
      refine hK.out _ _ ⟨(blk_cell BK371.out 0).trans rfl, (blk_cell BK371.out 1).trans rfl, (blk_cell BK346.out 0).trans rfl, (blk_cell BK346.out 1).trans rfl⟩ (fun hHeld => ?_)
      clear hK K
      refine zO (some 43) ?_
      refine zP 4 (some 44) #[true, true, true, true, true] (by kernel_rfl) ?_
      refine done_ (by kernel_rfl) ?_
      try go_wp2
      go_ret
      exact ⟨by first | rfl | (simp [errW_none, errW_some] <;> rfl) | (simp [*, errW_none, errW_some] <;> rfl), zl⟩
     ·replace c31 := Bool.eq_false_iff.mpr c31
      subst c31
      have H1 : (some false) = some true := by first | with_reducible rfl | (rw [if_neg (show ¬ (false = true) by decide)] at H; exact H)
      clear H
      have H := H1
      clear H1
      exact absurd H (by simp)
    ·replace c28 := Bool.eq_false_iff.mpr c28
     subst c28
     have H1 : (some false) = some true := by first | with_reducible rfl | (rw [if_neg (show ¬ (false = true) by decide)] at H; exact H)
     clear H
     have H := H1
     clear H1
     exact absurd H (by simp)

end Go.Proofs.Ytjphbdnfbkfgiab.PFnExactContainsFact
