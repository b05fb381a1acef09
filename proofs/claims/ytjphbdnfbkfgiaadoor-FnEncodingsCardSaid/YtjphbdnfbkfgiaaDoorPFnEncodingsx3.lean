-- Written by a program of this session: the kit's printer, turned by wip/mkprint.py.
import Derived.Test.YtjphbdnfbkfgiaaDoorPFnEncodingsx0
import Derived.Test.YtjphbdnfbkfgiaaDoorPFnEncodingsx1
import Derived.Test.YtjphbdnfbkfgiaaDoorPFnEncodingsx2
namespace Go.Proofs.YtjphbdnfbkfgiaaDoor.PFnEncodings
open Go.RowKit Go.Proofs.YtjphbdnfbkfgiaaDoorW.PrintWords Go.Proofs.YtjphbdnfbkfgiaaDoorW.PrintLast Go.Proofs.YtjphbdnfbkfgiaaDoorW.PrintMore
attribute [local go_sem] max2_int min2_int max_two min_two max_three min_three max_four min_four   -- for this text's walks alone
set_option linter.unusedVariables false
set_option linter.unusedSimpArgs false

/-! ### impl_ParseInt: function 14 -/
mutual
def impl_ParseInt.j0 : Nat → ByteArray → ByteArray → Int → Bool → Option (Int × Bool)
 | 0, _, _, _, _ => none
 | k + 1, x0, x4, x5, x16 => if x16 = true then (if 1 ≤ (x0.size : Int) then (impl_ParseInt.j1 k x0 (x0.extract 1 x0.size) (-1)) else (none)) else (impl_ParseInt.j1 k x0 x4 x5)
def impl_ParseInt.j1 : Nat → ByteArray → ByteArray → Int → Option (Int × Bool)
 | 0, _, _, _ => none
 | k + 1, x0, x4, x5 => (impl_within.f (x4.size : Int) 1 9).bind fun t200 => (if t200 = true then (impl_ParseInt.l0 k x0 x4 x5 0 (x4.size : Int) 0) else (some (0, false)))
def impl_ParseInt.l0 : Nat → ByteArray → ByteArray → Int → Int → Int → Int → Option (Int × Bool)
 | 0, _, _, _, _, _, _ => none
 | k + 1, x0, x4, x5, x6, x24, x25 => if x25 < x24 then (if 0 ≤ x25 then (if x25 < (x4.size : Int) then (if (bt x4 x25) < 48 then (some (0, false)) else (if (bt x4 x25) > 57 then (some (0, false)) else (impl_ParseInt.l0 k x0 x4 x5 (wrap64 ((wrap64 (10 * x6)) + (((bt x4 x25) - 48) % 256))) x24 (wrap64 (x25 + 1))))) else (none)) else (none)) else ((impl_FormatInt.f (wrap64 (x5 * x6))).bind fun t201 => (if t201.toList = x0.toList then (some (wrap64 (x5 * x6), true)) else (some (0, false))))
end
def impl_ParseInt.f (k : Nat) (a0 : ByteArray) : Option (Int × Bool) := if (a0.size : Int) > 0 then (if 0 < (a0.size : Int) then (impl_ParseInt.j0 k a0 a0 1 ((bt a0 0) == 45)) else (none)) else (impl_ParseInt.j0 k a0 a0 1 false)
theorem impl_ParseInt.mono_l : ∀ k, (∀ y0 y1 y2 y3, LeO (impl_ParseInt.j0 k y0 y1 y2 y3) (impl_ParseInt.j0 (k + 1) y0 y1 y2 y3)) ∧ (∀ y0 y1 y2, LeO (impl_ParseInt.j1 k y0 y1 y2) (impl_ParseInt.j1 (k + 1) y0 y1 y2)) ∧ (∀ y0 y1 y2 y3 y4 y5, LeO (impl_ParseInt.l0 k y0 y1 y2 y3 y4 y5) (impl_ParseInt.l0 (k + 1) y0 y1 y2 y3 y4 y5))
 | 0 => ⟨fun _ _ _ _ r h => by simp [impl_ParseInt.j0] at h, fun _ _ _ r h => by simp [impl_ParseInt.j1] at h, fun _ _ _ _ _ _ r h => by simp [impl_ParseInt.l0] at h⟩
 | k + 1 => by
  obtain ⟨ih0, ih1, ih2⟩ := impl_ParseInt.mono_l k
  refine ⟨?_, ?_, ?_⟩
  ·intro y0 y1 y2 y3
   unfold impl_ParseInt.j0
   repeat' first
   | (with_reducible exact ih0 _ _ _ _)
   | (with_reducible exact ih1 _ _ _)
   | (with_reducible exact ih2 _ _ _ _ _ _)
   | (with_reducible exact LeO.refl _)
   | (with_reducible exact LeO.none _)
   | (with_reducible refine LeO.ite ?_ ?_)
   | (with_reducible refine LeO.bind ?_ (fun _ => ?_))
   | exact ih0 _ _ _ _
   | exact ih1 _ _ _
   | exact ih2 _ _ _ _ _ _
   | exact LeO.none _
   | refine LeO.ite ?_ ?_
   | refine LeO.bind ?_ (fun _ => ?_)
  ·intro y0 y1 y2
   unfold impl_ParseInt.j1
   repeat' first
   | (with_reducible exact ih0 _ _ _ _)
   | (with_reducible exact ih1 _ _ _)
   | (with_reducible exact ih2 _ _ _ _ _ _)
   | (with_reducible exact LeO.refl _)
   | (with_reducible exact LeO.none _)
   | (with_reducible refine LeO.ite ?_ ?_)
   | (with_reducible refine LeO.bind ?_ (fun _ => ?_))
   | exact ih0 _ _ _ _
   | exact ih1 _ _ _
   | exact ih2 _ _ _ _ _ _
   | exact LeO.none _
   | refine LeO.ite ?_ ?_
   | refine LeO.bind ?_ (fun _ => ?_)
  ·intro y0 y1 y2 y3 y4 y5
   unfold impl_ParseInt.l0
   repeat' first
   | (with_reducible exact ih0 _ _ _ _)
   | (with_reducible exact ih1 _ _ _)
   | (with_reducible exact ih2 _ _ _ _ _ _)
   | (with_reducible exact LeO.refl _)
   | (with_reducible exact LeO.none _)
   | (with_reducible refine LeO.ite ?_ ?_)
   | (with_reducible refine LeO.bind ?_ (fun _ => ?_))
   | exact ih0 _ _ _ _
   | exact ih1 _ _ _
   | exact ih2 _ _ _ _ _ _
   | exact LeO.none _
   | refine LeO.ite ?_ ?_
   | refine LeO.bind ?_ (fun _ => ?_)
theorem impl_ParseInt.mono : ∀ a0 k, LeO (impl_ParseInt.f k a0) (impl_ParseInt.f (k + 1) a0) := by
 intro a0 k
 obtain ⟨ih0, ih1, ih2⟩ := impl_ParseInt.mono_l k
 unfold impl_ParseInt.f
 repeat' first
   | (with_reducible exact ih0 _ _ _ _)
   | (with_reducible exact ih1 _ _ _)
   | (with_reducible exact ih2 _ _ _ _ _ _)
   | (with_reducible exact LeO.refl _)
   | (with_reducible exact LeO.none _)
   | (with_reducible refine LeO.ite ?_ ?_)
   | (with_reducible refine LeO.bind ?_ (fun _ => ?_))
   | exact ih0 _ _ _ _
   | exact ih1 _ _ _
   | exact ih2 _ _ _ _ _ _
   | exact LeO.none _
   | refine LeO.ite ?_ ?_
   | refine LeO.bind ?_ (fun _ => ?_)
set_option maxHeartbeats 8000000 in
set_option maxRecDepth 100000 in
theorem impl_ParseInt.calls (k : Nat) (a0 : ByteArray) (r1 : Int) (r2 : Bool) (w : World) (hT : GT w) (h : impl_ParseInt.f k a0 = some (r1, r2)) :
  Calls Tryd.prog 14 #[.string a0] w fun e w' => e = .returned (.tuple #[.int .i64 r1, .bool r2]) ∧ Below w.heap.size w w' := by
 have HB := Aside0.mk (Below.refl w.heap.size w)
 have H : (if (a0.size : Int) > 0 then (if 0 < (a0.size : Int) then (impl_ParseInt.j0 k a0 a0 1 ((bt a0 0) == 45)) else (none)) else (impl_ParseInt.j0 k a0 a0 1 false)) = some (r1, r2) := h
 clear h
 have HC2 := Aside0.mk H
 clear H
 go_enter Tryd.func14, Tryd.ntmps14
 go_upto_region 2 with (fail)
 go_cut [16] (fun v16 wc => ∃ (kq : Nat) (x16_1 : Bool), v16 = .bool x16_1 ∧ Aside0 (impl_ParseInt.j0 kq a0 a0 1 x16_1 = some (r1, r2)) ∧ Aside0 (kq ≤ k) ∧ Aside0 (Below w.heap.size w wc))
 case first =>
  have H := HC2.out
  clear HC2
  by_cases c3 : (a0.size : Int) > 0
  ·rw [if_pos c3] at H
   have c3b0 : decide (0 < (a0.size : Int)) = true := decide_eq_true c3
   have c3b1 : decide (0 < a0.size) = true := decide_eq_true (by omega)
   clear c3
   (first | rw [c3b0] | (simp only [i64_w, i32_w]; rw [c3b0]) | skip)
   by_cases c4 : 0 < (a0.size : Int)
   ·rw [if_pos c4] at H
    have c4b0 : decide (0 < (a0.size : Int)) = true := decide_eq_true c4
    have c4b1 : decide (0 < a0.size) = true := decide_eq_true (by omega)
    clear c4
    have H' := Aside0.mk H
    clear H
    have p5 : 0 ≤ (0 : Int) := (by omega)
    have q5 : 0 < a0.size := (by have : (0 : Int) < (a0.size : Int) := zd; omega)
    have hx5 : ∀ h : 0 < a0.size, ((a0[0]'h).toNat : Int) = bt a0 0 := bt_at a0 0
    clear p5
    have qi5 : (0 < (a0.size : Int)) = True := eq_true zd
    replace q5 := eq_true q5
    go_wp2
    go_meet
    case rel => exact ⟨_, (((bt a0 0) == 45)), (by first | rfl | (simp; done) | (simp [*]; done)), H', ⟨by first | omega | exact Nat.le_refl _⟩, ⟨zl⟩⟩
   ·rw [if_neg c4] at H
    exact absurd H (by simp)
  ·rw [if_neg c3] at H
   have c3b0 : decide (0 < (a0.size : Int)) = false := decide_eq_false c3
   have c3b1 : decide (0 < a0.size) = false := decide_eq_false (by omega)
   clear c3
   (first | rw [c3b0] | (simp only [i64_w, i32_w]; rw [c3b0]) | skip)
   have H' := Aside0.mk H
   clear H
   go_wp2
   go_meet
   case rel => exact ⟨_, (false), (by first | rfl | (simp; done) | (simp [*]; done)), H', ⟨by first | omega | exact Nat.le_refl _⟩, ⟨zl⟩⟩
 case rest =>
  clear HC2
  try clear c1
  try clear p2
  try clear c3
  try clear c3b0
  try clear c3b1
  try clear c4
  try clear c4b0
  try clear c4b1
  try clear p5
  try clear q5
  try clear hx5
  try clear qi5
  try clear p5
  try clear q5
  obtain ⟨kq, x16_1, rfl, HA, HJ1, HB⟩ := hcut
  cases kq with
  | zero => exact absurd HA.out (by simp [impl_ParseInt.j0])
  | succ kj1 =>
   have H := HA.out
   clear HA
   simp only [impl_ParseInt.j0] at H
   have HC6 := Aside0.mk H
   clear H
   go_upto_if 16 with (fail)
   go_cut [4, 5] (fun v4 v5 wc => ∃ (kq : Nat) (x4_5 : ByteArray) (x5_5 : Int), v4 = .string x4_5 ∧ v5 = .int .i64 x5_5 ∧ Aside0 (impl_ParseInt.j1 kq a0 x4_5 x5_5 = some (r1, r2)) ∧ Aside0 (kq ≤ kj1) ∧ Aside0 (Below w.heap.size w wc))
   case first =>
    have H := HC6.out
    clear HC6
    by_cases c7 : x16_1 = true
    ·subst c7
     have H1 : (if 1 ≤ (a0.size : Int) then (impl_ParseInt.j1 kj1 a0 (a0.extract 1 a0.size) (-1)) else (none)) = some (r1, r2) := by first | with_reducible rfl | (rw [if_pos rfl] at H; exact H)
     clear H
     have H := H1
     clear H1
     by_cases c8 : 1 ≤ (a0.size : Int)
     ·rw [if_pos c8] at H
      have c8b0 := eq_true c8
      have c8b1 : decide (1 ≤ (a0.size : Int)) = true := decide_eq_true c8
      clear c8
      have H' := Aside0.mk H
      clear H
      go_wp2
      go_meet
      case rel => exact ⟨_, (a0.extract 1 a0.size), ((-1)), (by first | rfl | (simp; done) | (simp [*]; done)), (by first | rfl | (simp; done) | (simp [*]; done)), H', ⟨by have := HJ1.out; first | omega | exact Nat.le_refl _⟩, ⟨zl⟩⟩
     ·rw [if_neg c8] at H
      exact absurd H (by simp)
    ·replace c7 := Bool.eq_false_iff.mpr c7
     subst c7
     have H1 : (impl_ParseInt.j1 kj1 a0 a0 1) = some (r1, r2) := by first | with_reducible rfl | (rw [if_neg (show ¬ (false = true) by decide)] at H; exact H)
     clear H
     have H := H1
     clear H1
     have H' := Aside0.mk H
     clear H
     go_wp2
     go_meet
     case rel => exact ⟨_, (a0), (1), (by first | rfl | (simp; done) | (simp [*]; done)), (by first | rfl | (simp; done) | (simp [*]; done)), H', ⟨by have := HJ1.out; first | omega | exact Nat.le_refl _⟩, ⟨zl⟩⟩
   case rest =>
    clear HC6
    try clear c1
    try clear p2
    try clear c3
    try clear c3b0
    try clear c3b1
    try clear c4
    try clear c4b0
    try clear c4b1
    try clear p5
    try clear q5
    try clear hx5
    try clear qi5
    try clear c7
    try clear c8
    try clear c8b0
    try clear c8b1
    try clear p2
    try clear p5
    try clear q5
    obtain ⟨kq, x4_5, x5_5, rfl, rfl, HA, HJ5, HB⟩ := hcut
    cases kq with
    | zero => exact absurd HA.out (by simp [impl_ParseInt.j1])
    | succ kj5 =>
     have H := HA.out
     clear HA
     simp only [impl_ParseInt.j1] at H
     replace H := Option.bind_eq_some_iff.mp H
     obtain ⟨t200, A90, H⟩ := H
     replace H : (if t200 = true then (impl_ParseInt.l0 kj5 a0 x4_5 x5_5 0 (x4_5.size : Int) 0) else (some (0, false))) = some (r1, r2) := H
     have A9 := Aside0.mk A90
     clear A90
     by_cases c10 : t200 = true
     ·subst c10
      have H1 : (impl_ParseInt.l0 kj5 a0 x4_5 x5_5 0 (x4_5.size : Int) 0) = some (r1, r2) := by first | with_reducible rfl | (rw [if_pos rfl] at H; exact H)
      clear H
      have H := H1
      clear H1
      have H' := Aside0.mk H
      clear H
      go_wp2_with (first | ((with_reducible refine gate_callee (f := 54) rfl ?_); refine zg (some 21) Tryd.func54 #[.int .i64 (x4_5.size : Int), .int .i64 1, .int .i64 9] ?_; (with_reducible refine (impl_within.calls (x4_5.size : Int) 1 9 true _ A9.out).mono ?_); rintro e w' ⟨rfl, ⟨nd, rfl⟩⟩; refine ⟨_, rfl, ?_⟩))
      go_loopg [6, 25] kj5 (fun kq v6 v25 w' => ∃ (x6_3 : Int) (x25_3 : Int), v6 = .int .i64 x6_3 ∧ v25 = .int .i64 x25_3 ∧ Aside0 (impl_ParseInt.l0 kq a0 x4_5 x5_5 x6_3 (x4_5.size : Int) x25_3 = some (r1, r2)) ∧ Aside0 (kq ≤ kj5) ∧ Aside0 (Below w.heap.size w w'))
      case atStart => exact ⟨(0), (0), (by first | rfl | (simp; done) | (simp [*]; done)), (by first | rfl | (simp; done) | (simp [*]; done)), H', ⟨Nat.le_refl _⟩, ⟨zl⟩⟩
      case round =>
       clear H'
       try clear c1
       try clear p2
       try clear c3
       try clear c3b0
       try clear c3b1
       try clear c4
       try clear c4b0
       try clear c4b1
       try clear c5
       try clear p5
       try clear q5
       try clear hx5
       try clear qi5
       try clear c7
       try clear c8
       try clear c8b0
       try clear c8b1
       try clear c10
       try clear p2
       try clear p5
       try clear q5
       obtain ⟨x6_3, x25_3, rfl, rfl, HA, HK3, HB⟩ := hrel
       cases gk with
       | zero => exact absurd HA.out (by simp [impl_ParseInt.l0])
       | succ k3 =>
        have H := HA.out
        clear HA
        simp only [impl_ParseInt.l0] at H
        by_cases c11 : x25_3 < (x4_5.size : Int)
        ·rw [if_pos c11] at H
         have c11b0 : decide (x25_3 < (x4_5.size : Int)) = true := decide_eq_true c11
         clear c11
         by_cases c12 : 0 ≤ x25_3
         ·rw [if_pos c12] at H
          have c12b0 : decide (0 ≤ x25_3) = true := decide_eq_true c12
          clear c12
          by_cases c13 : x25_3 < (x4_5.size : Int)
          ·rw [if_pos c13] at H
           have c13b0 : decide (x25_3 < (x4_5.size : Int)) = true := decide_eq_true c13
           clear c13
           by_cases c15 : (bt x4_5 x25_3) < 48
           ·rw [if_pos c15] at H
            have c15b0 : decide ((bt x4_5 x25_3) < 48) = true := decide_eq_true c15
            clear c15
            simp only [Option.some.injEq, Prod.mk.injEq] at H
            obtain ⟨rfl, rfl⟩ := H
            have p14 : 0 ≤ (x25_3 : Int) := zd
            have q14 : x25_3 < (x4_5.size : Int) := zd
            have hx14 := bt_at x4_5 x25_3
            replace p14 := eq_true p14
            replace q14 := eq_true q14
            go_wp2
            go_ret2
            exact ⟨by first | rfl | (simp [errW_none, errW_some] <;> rfl) | (simp [*, errW_none, errW_some] <;> rfl), zl⟩
           ·rw [if_neg c15] at H
            have c15b0 : decide ((bt x4_5 x25_3) < 48) = false := decide_eq_false c15
            clear c15
            by_cases c17 : (bt x4_5 x25_3) > 57
            ·rw [if_pos c17] at H
             have c17b0 : decide (57 < (bt x4_5 x25_3)) = true := decide_eq_true c17
             clear c17
             simp only [Option.some.injEq, Prod.mk.injEq] at H
             obtain ⟨rfl, rfl⟩ := H
             have p14 : 0 ≤ (x25_3 : Int) := zd
             have q14 : x25_3 < (x4_5.size : Int) := zd
             have hx14 := bt_at x4_5 x25_3
             replace p14 := eq_true p14
             replace q14 := eq_true q14
             have p16 : 0 ≤ (x25_3 : Int) := zd
             have q16 : x25_3 < (x4_5.size : Int) := zd
             have hx16 := bt_at x4_5 x25_3
             replace p16 := eq_true p16
             replace q16 := eq_true q16
             go_wp2
             go_ret2
             exact ⟨by first | rfl | (simp [errW_none, errW_some] <;> rfl) | (simp [*, errW_none, errW_some] <;> rfl), zl⟩
            ·rw [if_neg c17] at H
             have c17b0 : decide (57 < (bt x4_5 x25_3)) = false := decide_eq_false c17
             clear c17
             have H' := Aside0.mk H
             clear H
             have p14 : 0 ≤ (x25_3 : Int) := zd
             have q14 : x25_3 < (x4_5.size : Int) := zd
             have hx14 := bt_at x4_5 x25_3
             replace p14 := eq_true p14
             replace q14 := eq_true q14
             have p16 : 0 ≤ (x25_3 : Int) := zd
             have q16 : x25_3 < (x4_5.size : Int) := zd
             have hx16 := bt_at x4_5 x25_3
             replace p16 := eq_true p16
             replace q16 := eq_true q16
             have p18 : 0 ≤ (x25_3 : Int) := zd
             have q18 : x25_3 < (x4_5.size : Int) := zd
             have hx18 := bt_at x4_5 x25_3
             replace p18 := eq_true p18
             replace q18 := eq_true q18
             go_wp2
             go_roundg k3
             case measure => have := HJ1.out; have := HJ5.out; have := HK3.out; omega
             case rel => exact ⟨(wrap64 ((wrap64 (10 * x6_3)) + (((bt x4_5 x25_3) - 48) % 256))), (wrap64 (x25_3 + 1)), (by first | rfl | (simp; done) | (simp [*]; done)), (by first | rfl | (simp; done) | (simp [*]; done)), H', ⟨by have := HJ1.out; have := HJ5.out; have := HK3.out; omega⟩, ⟨zl⟩⟩
          ·rw [if_neg c13] at H
           exact absurd H (by simp)
         ·rw [if_neg c12] at H
          exact absurd H (by simp)
        ·rw [if_neg c11] at H
         have c11b0 : decide (x25_3 < (x4_5.size : Int)) = false := decide_eq_false c11
         clear c11
         replace H := Option.bind_eq_some_iff.mp H
         obtain ⟨t201, A190, H⟩ := H
         replace H : (if t201.toList = a0.toList then (some (wrap64 (x5_5 * x6_3), true)) else (some (0, false))) = some (r1, r2) := H
         have A19 := Aside0.mk A190
         clear A190
         by_cases c20 : t201.toList = a0.toList
         ·rw [if_pos c20] at H
          have c20b0 : (t201.toList == a0.toList) = true := beq_iff_eq.mpr c20
          have c20b1 : (t201.toList != a0.toList) = false := bne_eq_false_iff_eq.mpr c20
          clear c20
          simp only [Option.some.injEq, Prod.mk.injEq] at H
          obtain ⟨rfl, rfl⟩ := H
          go_wp2_with (first | ((with_reducible refine gate_callee (f := 32) rfl ?_); refine zg (some 50) Tryd.func32 #[.int .i64 (wrap64 (x5_5 * x6_3))] ?_; (with_reducible refine (impl_FormatInt.calls (wrap64 (x5_5 * x6_3)) t201 _ (zt hT) A19.out).mono ?_); rintro e w21 ⟨rfl, hb⟩; refine ⟨_, rfl, ?_⟩; replace HB := zm (below_step zl hb); (try clear hb)))
          go_ret2
          exact ⟨by first | rfl | (simp [errW_none, errW_some] <;> rfl) | (simp [*, errW_none, errW_some] <;> rfl), zl⟩
         ·rw [if_neg c20] at H
          have c20b0 : (t201.toList == a0.toList) = false := beq_eq_false_iff_ne.mpr c20
          have c20b1 : (t201.toList != a0.toList) = true := bne_iff_ne.mpr c20
          simp only [Option.some.injEq, Prod.mk.injEq] at H
          obtain ⟨rfl, rfl⟩ := H
          go_wp2_with (first | ((with_reducible refine gate_callee (f := 32) rfl ?_); refine zg (some 50) Tryd.func32 #[.int .i64 (wrap64 (x5_5 * x6_3))] ?_; (with_reducible refine (impl_FormatInt.calls (wrap64 (x5_5 * x6_3)) t201 _ (zt hT) A19.out).mono ?_); rintro e w22 ⟨rfl, hb⟩; refine ⟨_, rfl, ?_⟩; replace HB := zm (below_step zl hb); (try clear hb)))
          go_ret2
          exact ⟨by first | rfl | (simp [errW_none, errW_some] <;> rfl) | (simp [*, errW_none, errW_some] <;> rfl), zl⟩
     ·replace c10 := Bool.eq_false_iff.mpr c10
      subst c10
      have H1 : (some (0, false)) = some (r1, r2) := by first | with_reducible rfl | (rw [if_neg (show ¬ (false = true) by decide)] at H; exact H)
      clear H
      have H := H1
      clear H1
      simp only [Option.some.injEq, Prod.mk.injEq] at H
      obtain ⟨rfl, rfl⟩ := H
      go_wp2_with (first | ((with_reducible refine gate_callee (f := 54) rfl ?_); refine zg (some 21) Tryd.func54 #[.int .i64 (x4_5.size : Int), .int .i64 1, .int .i64 9] ?_; (with_reducible refine (impl_within.calls (x4_5.size : Int) 1 9 false _ A9.out).mono ?_); rintro e w' ⟨rfl, ⟨nd, rfl⟩⟩; refine ⟨_, rfl, ?_⟩))
      go_ret2
      exact ⟨by first | rfl | (simp [errW_none, errW_some] <;> rfl) | (simp [*, errW_none, errW_some] <;> rfl), zl⟩

/-! ### impl_EncodeHex: function 34 -/
def impl_EncodeHex.l0 : Nat → ByteArray → List Int → Int → Int → Option (ByteArray)
 | 0, _, _, _, _ => none
 | k + 1, x0, x3, x7, x8 => if x8 < x7 then (if 0 ≤ x8 then (if x8 < (x0.size : Int) then (if 0 ≤ ((bt x0 x8) / 16) then (if ((bt x0 x8) / 16) < 16 then (if 0 ≤ (Go.bits .and .u8 (bt x0 x8) 15) then (if (Go.bits .and .u8 (bt x0 x8) 15) < 16 then ((some (([bt (⟨#[48, 49, 50, 51, 52, 53, 54, 55, 56, 57, 97, 98, 99, 100, 101, 102]⟩ : ByteArray) ((bt x0 x8) / 16), bt (⟨#[48, 49, 50, 51, 52, 53, 54, 55, 56, 57, 97, 98, 99, 100, 101, 102]⟩ : ByteArray) (Go.bits .and .u8 (bt x0 x8) 15)] : List Int) : List Int)).bind fun y205 => (if x3.length + y205.length < 140737488355328 then (impl_EncodeHex.l0 k x0 (x3 ++ y205) x7 (wrap64 (x8 + 1))) else (none))) else (none)) else (none)) else (none)) else (none)) else (none)) else (none)) else (some (strOfNums x3))
def impl_EncodeHex.f (k : Nat) (a0 : ByteArray) : Option (ByteArray) := impl_EncodeHex.l0 k a0 (([] : List Int)) (a0.size : Int) 0
theorem impl_EncodeHex.mono_l : ∀ k, (∀ y0 y1 y2 y3, LeO (impl_EncodeHex.l0 k y0 y1 y2 y3) (impl_EncodeHex.l0 (k + 1) y0 y1 y2 y3))
 | 0 => fun _ _ _ _ r h => by simp [impl_EncodeHex.l0] at h
 | k + 1 => by
  have ih0 := impl_EncodeHex.mono_l k
  ·intro y0 y1 y2 y3
   unfold impl_EncodeHex.l0
   repeat' first
   | (with_reducible exact ih0 _ _ _ _)
   | (with_reducible exact LeO.refl _)
   | (with_reducible exact LeO.none _)
   | (with_reducible refine LeO.ite ?_ ?_)
   | (with_reducible refine LeO.bind ?_ (fun _ => ?_))
   | exact ih0 _ _ _ _
   | exact LeO.none _
   | refine LeO.ite ?_ ?_
   | refine LeO.bind ?_ (fun _ => ?_)
theorem impl_EncodeHex.mono : ∀ a0 k, LeO (impl_EncodeHex.f k a0) (impl_EncodeHex.f (k + 1) a0) := by
 intro a0 k
 have ih0 := impl_EncodeHex.mono_l k
 unfold impl_EncodeHex.f
 repeat' first
   | (with_reducible exact ih0 _ _ _ _)
   | (with_reducible exact LeO.refl _)
   | (with_reducible exact LeO.none _)
   | (with_reducible refine LeO.ite ?_ ?_)
   | (with_reducible refine LeO.bind ?_ (fun _ => ?_))
   | exact ih0 _ _ _ _
   | exact LeO.none _
   | refine LeO.ite ?_ ?_
   | refine LeO.bind ?_ (fun _ => ?_)
def impl_EncodeHex.T5 : Bool × List (List Nat × List Nat) := (true, [([], []), ([], []), ([], []), ([1, 2], [1, 2]), ([3], [3]), ([4], [4]), ([], []), ([], []), ([6, 7], [6, 7]), ([8], [8]), ([9], [9]), ([5, 10], [5, 10]), ([0, 11], [0, 11]), ([12, 12, 0, 1, 2, 3, 4, 5, 6, 7, 8, 9, 10, 11, 12], [0, 12])])
def impl_EncodeHex.B5 : List Nat := [0, 0, 0, 6, 14, 30, 0, 0, 192, 448, 960, 2046, 4095, 8191]
theorem impl_EncodeHex.tab5 : rtab .any (opsOf Tryd.f34 5) = impl_EncodeHex.T5 := by kernel_rfl
theorem impl_EncodeHex.bits5 : waitsOk impl_EncodeHex.T5.2 impl_EncodeHex.B5 = true := by kernel_rfl
set_option maxHeartbeats 8000000 in
set_option maxRecDepth 100000 in
theorem impl_EncodeHex.calls (k : Nat) (a0 : ByteArray) (r : ByteArray) (w : World) (h : impl_EncodeHex.f k a0 = some r) :
  Calls Tryd.prog 34 #[.string a0] w fun e w' => e = .returned (.string r) ∧ Below w.heap.size w w' := by
 have HB := Aside0.mk (Below.refl w.heap.size w)
 have H : (impl_EncodeHex.l0 k a0 (([] : List Int)) (a0.size : Int) 0) = some r := h
 clear h
 obtain ⟨y202, hy202⟩ : ∃ y_ : List Int, y_ = (([] : List Int)) := ⟨_, rfl⟩
 replace H : (impl_EncodeHex.l0 k a0 y202 (a0.size : Int) 0) = some r := by first | (rw [hy202]; with_reducible exact H) | (have H2_ := (Option.bind_some _ _).symm.trans H; rw [hy202]; with_reducible exact H2_) | (have H2_ := (Option.bind_some _ _).symm.trans H; with_reducible exact H2_) | with_reducible exact H | (rw [hy202]; exact H) | exact H
 have Ny202 := Aside0.mk hy202
 clear hy202
 have H' := Aside0.mk H
 clear H
 go_enter Tryd.func34, Tryd.ntmps34
 go_wp2_with (first | ((with_reducible refine gate_dst (N := 5) rfl ?_); refine Kd.R_lit (Kd.int .u8) _ 5 ?hg (N := 5) ?hd (xs := ([] : List Int)) (inner := []) (ok := fun _ => True) (okp := fun _ => True) ?hr ?hp (fun _ hk => hk) trivial (Below.refl _ _) (Nat.le_refl _) (by simp) ?_; (case hd => rfl); (case hg => rfl); (case hr => first | (go_simp; done) | (go_simp; rfl)); (case hp => exact (Reps.none _ _)); intro v203 w2 ho3 hb hg_ hnew_; clear hg_ hnew_; (first | rw [← Ny202.out] at ho3 | (simp only [Int.reduceToNat] at ho3; rw [← Ny202.out] at ho3)); have HO204 := zm (Kd.R_lower ho3 (below_size zl)); replace HB := zm (below_step zl hb); clear hb ho3))
 go_loopg [3, 8] k (fun kq v3 v8 w' => ∃ (x3_1 : List Int) (x8_1 : Int), v8 = .int .i64 x8_1 ∧ Aside0 (impl_EncodeHex.l0 kq a0 x3_1 (a0.size : Int) x8_1 = some r) ∧ Aside0 (kq ≤ k) ∧ Aside0 (Kd.R (Kd.int .u8) 5 w' w.heap.size (fun _ => True) v3 x3_1) ∧ Aside0 (Below w.heap.size w w'))
 case atStart => exact ⟨(y202), (0), (by first | rfl | (simp; done) | (simp [*]; done)), H', ⟨Nat.le_refl _⟩, ⟨zr HO204.out⟩, ⟨zl⟩⟩
 case round =>
  clear H'
  try clear p2
  try clear c3
  obtain ⟨x3_1, x8_1, rfl, HA, HK1, HO_3, HB⟩ := hrel
  cases gk with
  | zero => exact absurd HA.out (by simp [impl_EncodeHex.l0])
  | succ k1 =>
   have H := HA.out
   clear HA
   simp only [impl_EncodeHex.l0] at H
   by_cases c4 : x8_1 < (a0.size : Int)
   ·rw [if_pos c4] at H
    have c4b0 : decide (x8_1 < (a0.size : Int)) = true := decide_eq_true c4
    clear c4
    by_cases c5 : 0 ≤ x8_1
    ·rw [if_pos c5] at H
     have c5b0 : decide (0 ≤ x8_1) = true := decide_eq_true c5
     clear c5
     by_cases c6 : x8_1 < (a0.size : Int)
     ·rw [if_pos c6] at H
      have c6b0 : decide (x8_1 < (a0.size : Int)) = true := decide_eq_true c6
      clear c6
      obtain ⟨ji8, hji8⟩ : ∃ j_ : Int, ((bt a0 x8_1) / 16) = j_ := ⟨_, rfl⟩
      replace H : (if 0 ≤ (ji8) then (if (ji8) < 16 then (if 0 ≤ (Go.bits .and .u8 (bt a0 x8_1) 15) then (if (Go.bits .and .u8 (bt a0 x8_1) 15) < 16 then ((some (([bt (⟨#[48, 49, 50, 51, 52, 53, 54, 55, 56, 57, 97, 98, 99, 100, 101, 102]⟩ : ByteArray) (ji8), bt (⟨#[48, 49, 50, 51, 52, 53, 54, 55, 56, 57, 97, 98, 99, 100, 101, 102]⟩ : ByteArray) (Go.bits .and .u8 (bt a0 x8_1) 15)] : List Int) : List Int)).bind fun y205 => (if x3_1.length + y205.length < 140737488355328 then (impl_EncodeHex.l0 k1 a0 (x3_1 ++ y205) (a0.size : Int) (wrap64 (x8_1 + 1))) else (none))) else (none)) else (none)) else (none)) else (none)) = some r := by first | (rw [hji8] at H; exact H) | (simp only [hji8] at H ⊢; exact H)
      by_cases c9 : 0 ≤ (ji8)
      ·rw [if_pos c9] at H
       have c9b0 : decide (0 ≤ (ji8)) = true := decide_eq_true c9
       clear c9
       by_cases c10 : (ji8) < 16
       ·rw [if_pos c10] at H
        have c10b0 : decide ((ji8) < 16) = true := decide_eq_true c10
        clear c10
        by_cases c13 : 0 ≤ (Go.bits .and .u8 (bt a0 x8_1) 15)
        ·rw [if_pos c13] at H
         have c13b0 : decide (0 ≤ (Go.bits .and .u8 (bt a0 x8_1) 15)) = true := decide_eq_true c13
         clear c13
         by_cases c14 : (Go.bits .and .u8 (bt a0 x8_1) 15) < 16
         ·rw [if_pos c14] at H
          have c14b0 : decide ((Go.bits .and .u8 (bt a0 x8_1) 15) < 16) = true := decide_eq_true c14
          clear c14
          obtain ⟨y205, hy205⟩ : ∃ y_ : List Int, y_ = (([bt (⟨#[48, 49, 50, 51, 52, 53, 54, 55, 56, 57, 97, 98, 99, 100, 101, 102]⟩ : ByteArray) (ji8), bt (⟨#[48, 49, 50, 51, 52, 53, 54, 55, 56, 57, 97, 98, 99, 100, 101, 102]⟩ : ByteArray) (Go.bits .and .u8 (bt a0 x8_1) 15)] : List Int)) := ⟨_, rfl⟩
          replace H : (if x3_1.length + y205.length < 140737488355328 then (impl_EncodeHex.l0 k1 a0 (x3_1 ++ y205) (a0.size : Int) (wrap64 (x8_1 + 1))) else (none)) = some r := by first | (rw [hy205]; with_reducible exact H) | (have H2_ := (Option.bind_some _ _).symm.trans H; rw [hy205]; with_reducible exact H2_) | (have H2_ := (Option.bind_some _ _).symm.trans H; with_reducible exact H2_) | with_reducible exact H | (rw [hy205]; exact H) | exact H
          have Ny205 := Aside0.mk hy205
          clear hy205
          by_cases c16 : x3_1.length + y205.length < 140737488355328
          ·rw [if_pos c16] at H
           have LMc16 := Aside0.mk c16
           clear c16
           obtain ⟨y208, hy208⟩ : ∃ y_ : List Int, y_ = (x3_1 ++ y205) := ⟨_, rfl⟩
           replace H : (impl_EncodeHex.l0 k1 a0 y208 (a0.size : Int) (wrap64 (x8_1 + 1))) = some r := by first | (rw [hy208]; with_reducible exact H) | (have H2_ := (Option.bind_some _ _).symm.trans H; rw [hy208]; with_reducible exact H2_) | (have H2_ := (Option.bind_some _ _).symm.trans H; with_reducible exact H2_) | with_reducible exact H | (rw [hy208]; exact H) | exact H
           have Ny208 := Aside0.mk hy208
           clear hy208
           have H' := Aside0.mk H
           clear H
           try go_wp2
           replace HO_3 := zm (Kd.R_drew HO_3.out)
           replace HB := zm (below_drew1 HB.out)
           have p7 : 0 ≤ (x8_1 : Int) := zd
           have q7 : x8_1 < (a0.size : Int) := zd
           have hx7 := bt_at a0 x8_1
           replace p7 := eq_true p7
           replace q7 := eq_true q7
           have p11 : 0 ≤ ((ji8) : Int) := zd
           have q11 : (ji8) < (16 : Int) := zd
           have hx11 := bt_at (⟨#[48, 49, 50, 51, 52, 53, 54, 55, 56, 57, 97, 98, 99, 100, 101, 102]⟩ : ByteArray) (ji8)
           replace p11 := eq_true p11
           replace q11 := eq_true q11
           have p12 : 0 ≤ (x8_1 : Int) := zd
           have q12 : x8_1 < (a0.size : Int) := zd
           have hx12 := bt_at a0 x8_1
           replace p12 := eq_true p12
           replace q12 := eq_true q12
           have p15 : 0 ≤ ((Go.bits .and .u8 (bt a0 x8_1) 15) : Int) := zd
           have q15 : (Go.bits .and .u8 (bt a0 x8_1) 15) < (16 : Int) := zd
           have hx15 := bt_at (⟨#[48, 49, 50, 51, 52, 53, 54, 55, 56, 57, 97, 98, 99, 100, 101, 102]⟩ : ByteArray) (Go.bits .and .u8 (bt a0 x8_1) 15)
           replace p15 := eq_true p15
           replace q15 := eq_true q15
           refine start_ (n := 14) (S := fun w' => True) (ds := []) #[false, false, false, false, false, false, false, false, false, false, false, false, false, false] (by kernel_rfl) rfl rfl trivial (fun hHeld => ?_); refine with_tabW impl_EncodeHex.tab5 impl_EncodeHex.bits5 (fun HT_ HW_ => ?_)
           generalize wr.drew = w17 at HO_3 HB hHeld ⊢
           refine zP 0 (some 11) (zA 14 1) (any_of HT_.out (by kernel_rfl)) ?_
           refine zP 1 (some 12) (zA 14 3) (any_of HT_.out (by kernel_rfl)) ?_
           refine zP 2 (some 13) (zA 14 7) (any_of HT_.out (by kernel_rfl)) ?_
           refine zP 6 (some 17) (zA 14 71) (any_of HT_.out (by kernel_rfl)) ?_
           refine zP 7 (some 18) (zA 14 199) (any_of HT_.out (by kernel_rfl)) ?_
           refine take_ (i := 3) (N := some 14) (v := ?_) (a' := ?_) (zA 14 207) rfl rfl (take_ofW HT_.out HW_.out (by kernel_rfl)) (fun _ _ _ h => h) (Or.inl ⟨by rfl, ?_⟩) hHeld ?_ ?_
           rotate_left
           ·intro w' _
            go_simp
            with_reducible rfl
           rotate_left
           ·simp only [Act.put, List.setIfInBounds_toArray, List.set_cons_zero, List.set_cons_succ, i64_w, i32_w]
            rfl
           refine zP 4 (some 15) (zA 14 223) (any_of HT_.out (by kernel_rfl)) ?_
           refine take_ (i := 5) (N := some 16) (v := ?_) (a' := ?_) (zA 14 255) rfl rfl (take_ofW HT_.out HW_.out (by kernel_rfl)) (fun _ _ _ h => h) (Or.inl ⟨by rfl, ?_⟩) hHeld ?_ ?_
           rotate_left
           ·intro w' _
            go_simp
            with_reducible rfl
           rotate_left
           ·simp only [Act.put, List.setIfInBounds_toArray, List.set_cons_zero, List.set_cons_succ, i64_w, i32_w]
            rfl
           refine take_ (i := 8) (N := some 19) (v := ?_) (a' := ?_) (zA 14 511) rfl rfl (take_ofW HT_.out HW_.out (by kernel_rfl)) (fun _ _ _ h => h) (Or.inl ⟨by rfl, ?_⟩) hHeld ?_ ?_
           rotate_left
           ·intro w' _
            go_simp
            with_reducible rfl
           rotate_left
           ·simp only [Act.put, List.setIfInBounds_toArray, List.set_cons_zero, List.set_cons_succ, i64_w, i32_w]
            rfl
           refine zP 9 (some 20) (zA 14 1023) (any_of HT_.out (by kernel_rfl)) ?_
           refine take_ (i := 10) (N := some 21) (v := ?_) (a' := ?_) (zA 14 2047) rfl rfl (take_ofW HT_.out HW_.out (by kernel_rfl)) (fun _ _ _ h => h) (Or.inl ⟨by rfl, ?_⟩) hHeld ?_ ?_
           rotate_left
           ·intro w' _
            go_simp
            with_reducible rfl
           rotate_left
           ·simp only [Act.put, List.setIfInBounds_toArray, List.set_cons_zero, List.set_cons_succ, i64_w, i32_w]
            rfl
           refine one_ (i := 11) (N := some 22) (zA 14 4095) rfl rfl (one_of HT_.out (by kernel_rfl)) (by decide) (fun K hK => ?_)
           refine Kd.R_lit_step (Kd.int .u8) _ 5 ?hg (N := 22) ?hd (xs := ([bt (⟨#[48, 49, 50, 51, 52, 53, 54, 55, 56, 57, 97, 98, 99, 100, 101, 102]⟩ : ByteArray) (ji8), bt (⟨#[48, 49, 50, 51, 52, 53, 54, 55, 56, 57, 97, 98, 99, 100, 101, 102]⟩ : ByteArray) (Go.bits .and .u8 (bt a0 x8_1) 15)] : List Int)) (inner := [.int .u8 (bt (⟨#[48, 49, 50, 51, 52, 53, 54, 55, 56, 57, 97, 98, 99, 100, 101, 102]⟩ : ByteArray) (ji8)), .int .u8 (bt (⟨#[48, 49, 50, 51, 52, 53, 54, 55, 56, 57, 97, 98, 99, 100, 101, 102]⟩ : ByteArray) (Go.bits .and .u8 (bt a0 x8_1) 15))]) (ok := fun _ => True) (okp := fun _ => True) ?hr ?hp (fun _ hk => hk) trivial (Below.refl _ _) (Nat.le_refl _) (by simp) ?_; (case hd => rfl); (case hg => rfl); (case hr => first | (go_simp; done) | (go_simp; rfl)); (case hp => exact (Reps.one (show Kd.M (Kd.int .u8) _ _ _ (bt (⟨#[48, 49, 50, 51, 52, 53, 54, 55, 56, 57, 97, 98, 99, 100, 101, 102]⟩ : ByteArray) (ji8)) [.int .u8 (bt (⟨#[48, 49, 50, 51, 52, 53, 54, 55, 56, 57, 97, 98, 99, 100, 101, 102]⟩ : ByteArray) (ji8))] from rfl) (Reps.one (show Kd.M (Kd.int .u8) _ _ _ (bt (⟨#[48, 49, 50, 51, 52, 53, 54, 55, 56, 57, 97, 98, 99, 100, 101, 102]⟩ : ByteArray) (Go.bits .and .u8 (bt a0 x8_1) 15)) [.int .u8 (bt (⟨#[48, 49, 50, 51, 52, 53, 54, 55, 56, 57, 97, 98, 99, 100, 101, 102]⟩ : ByteArray) (Go.bits .and .u8 (bt a0 x8_1) 15))] from rfl) (Reps.none _ _))))
           intro v206 w18 ho19 hb hg_ hnew_
           clear hg_ hnew_
           (first | rw [← Ny205.out] at ho19 | (simp only [Int.reduceToNat] at ho19; rw [← Ny205.out] at ho19))
           have HO207 := zm (Kd.R_lower (zn ho19 (zr HO_3.out)) (below_size zl))
           replace HO_3 := zm (zo1 (zr HO_3.out) hb ho19)
           replace HB := zm (below_step zl hb)
           clear hb ho19
           obtain ⟨Ao21, co21, eo21⟩ := Kd.R_slice HO207.out
           (first | subst eo21 | (injection eo21 with f1_ f2_ f3_; have f4_ := f1_.symm; have f5_ := f3_.symm; clear f1_ f2_ f3_; subst f4_; subst f5_))
           refine hK.out _ _ trivial (fun hHeld => ?_)
           clear hK K
           refine zO (some 22) ?_
           refine one_ (i := 12) (N := some 23) (zA 14 8191) rfl rfl (one_of HT_.out (by kernel_rfl)) (by decide) (fun K hK => ?_)
           refine Kd.R_append_rows_step (Kd.int .u8) (w0 := w) w.heap.size (by rfl) (.tmp 11) (.tmp 22) 27 5 (.int .u8 0) 1 rfl Tryd.underlying27 info5 rfl (by decide) (by omega) u3 x3_1 y205 _ _ _ (fun k_ => zx (.slice Ao21 y205.length co21) k_) (fun _ => False) rfl rfl ?aO ?aR (fun _ _ h => h) (fun _ h => h.elim) ?aF ?aB ?aS ?aL ?_
           (case aR => repeat (first | exact (Kd.R_reads' HO207.out).2.2 | (with_reducible refine Kd.C_alloc ?_ _) | (with_reducible refine Kd.C_drewN ?_ _) | (with_reducible refine Kd.C_drew ?_)))
           (case aB => exact zl)
           (case aF => exact (fun k_ hk => Kd.fresh' (Kd.R_lt (zr HO207.out)) k_ hk))
           (case aO => exact (zr (Kd.R_mono HO_3.out (fun _ hk => hk.2))))
           (case aS => exact (below_size zl))
           (case aL => have := LMc16.out; omega)
           intro v209 w20 ho hb hg hat
           rw [← Ny208.out] at ho
           have n0_ := Aside0.mk (Kd.R_after (ok := (fun _ => True)) (zr HO207.out) hg hat)
           have n1_ := Aside0.mk (hb)
           have n2_ := Aside0.mk (ho)
           clear HO207
           clear HB
           clear HO_3
           have HO207 := n0_
           have HB := n1_
           have HO210 := n2_
           clear n0_ n1_ n2_
           clear ho hb hg hat
           refine hK.out _ _ trivial (fun hHeld => ?_)
           clear hK K
           refine zO (some 23) ?_
           refine zP 13 (some 3) (zA 14 16383) (any_of HT_.out (by kernel_rfl)) ?_
           refine done_ (done_of HT_.out (by kernel_rfl)) ?_
           try go_wp2
           go_roundg k1
           case measure => have := HK1.out; omega
           case rel => exact ⟨(y208), (wrap64 (x8_1 + 1)), (by first | rfl | (simp; done) | (simp [*]; done)), H', ⟨by have := HK1.out; omega⟩, ⟨zr (Kd.R_mono HO210.out (fun _ hk => trivial))⟩, ⟨zl⟩⟩
          ·rw [if_neg c16] at H
           exact absurd H (by simp)
         ·rw [if_neg c14] at H
          exact absurd H (by simp)
        ·rw [if_neg c13] at H
         exact absurd H (by simp)
       ·rw [if_neg c10] at H
        exact absurd H (by simp)
      ·rw [if_neg c9] at H
       exact absurd H (by simp)
     ·rw [if_neg c6] at H
      exact absurd H (by simp)
    ·rw [if_neg c5] at H
     exact absurd H (by simp)
   ·rw [if_neg c4] at H
    have c4b0 : decide (x8_1 < (a0.size : Int)) = false := decide_eq_false c4
    clear c4
    obtain rfl := Option.some.inj H
    have hcv22 := own_string (P := Tryd.prog) Tryd.underlying27 Tryd.underlying5 Tryd.underlying9 (Kd.own_of_R HO_3.out)
    go_wp2
    go_ret
    exact ⟨by first | rfl | (simp [errW_none, errW_some] <;> rfl) | (simp [*, errW_none, errW_some] <;> rfl), zl⟩

/-! ### impl_half: function 62 -/
def impl_half.j0 : Nat → Int → Bool → Option (Int)
 | 0, _, _ => none
 | k + 1, x0, x3 => if x3 = true then (some ((x0 - 48) % 256)) else (if x0 ≥ 97 then (if x0 ≤ 102 then (some (((x0 - 97) % 256) + 10)) else (some (-1))) else (some (-1)))
def impl_half.f (k : Nat) (a0 : Int) : Option (Int) := if a0 ≥ 48 then (impl_half.j0 k a0 (decide (a0 ≤ 57))) else (impl_half.j0 k a0 false)
theorem impl_half.mono_l : ∀ k, (∀ y0 y1, LeO (impl_half.j0 k y0 y1) (impl_half.j0 (k + 1) y0 y1))
 | 0 => fun _ _ r h => by simp [impl_half.j0] at h
 | k + 1 => by
  have ih0 := impl_half.mono_l k
  ·intro y0 y1
   unfold impl_half.j0
   repeat' first
   | (with_reducible exact ih0 _ _)
   | (with_reducible exact LeO.refl _)
   | (with_reducible exact LeO.none _)
   | (with_reducible refine LeO.ite ?_ ?_)
   | (with_reducible refine LeO.bind ?_ (fun _ => ?_))
   | exact ih0 _ _
   | exact LeO.none _
   | refine LeO.ite ?_ ?_
   | refine LeO.bind ?_ (fun _ => ?_)
theorem impl_half.mono : ∀ a0 k, LeO (impl_half.f k a0) (impl_half.f (k + 1) a0) := by
 intro a0 k
 have ih0 := impl_half.mono_l k
 unfold impl_half.f
 repeat' first
   | (with_reducible exact ih0 _ _)
   | (with_reducible exact LeO.refl _)
   | (with_reducible exact LeO.none _)
   | (with_reducible refine LeO.ite ?_ ?_)
   | (with_reducible refine LeO.bind ?_ (fun _ => ?_))
   | exact ih0 _ _
   | exact LeO.none _
   | refine LeO.ite ?_ ?_
   | refine LeO.bind ?_ (fun _ => ?_)
set_option maxHeartbeats 8000000 in
set_option maxRecDepth 100000 in
theorem impl_half.calls (k : Nat) (a0 : Int) (r : Int) (w : World) (h : impl_half.f k a0 = some r) :
  Calls Tryd.prog 62 #[.int .u8 a0] w fun e w' => e = .returned (.int .i64 r) ∧ Drawn0 w w' := by
 have H : (if a0 ≥ 48 then (impl_half.j0 k a0 (decide (a0 ≤ 57))) else (impl_half.j0 k a0 false)) = some r := h
 clear h
 have HC2 := Aside0.mk H
 clear H
 go_enter Tryd.func62, Tryd.ntmps62
 go_upto_region 1 with (fail)
 go_cut [3] (fun v3 wc => ∃ (kq : Nat) (x3_1 : Bool), v3 = .bool x3_1 ∧ Aside0 (impl_half.j0 kq a0 x3_1 = some r) ∧ Aside0 (kq ≤ k) ∧ Drawn0 w wc)
 case first =>
  have H := HC2.out
  clear HC2
  by_cases c3 : a0 ≥ 48
  ·rw [if_pos c3] at H
   have c3b0 : decide (48 ≤ a0) = true := decide_eq_true c3
   clear c3
   (first | rw [c3b0] | (simp only [i64_w, i32_w]; rw [c3b0]) | skip)
   have H' := Aside0.mk H
   clear H
   go_wp2
   go_meet
   case rel => exact ⟨_, (decide (a0 ≤ 57)), (by first | rfl | (simp; done) | (simp [*]; done)), H', ⟨by first | omega | exact Nat.le_refl _⟩, by repeat (first | exact Drawn0.refl _ | apply Drawn0.step)⟩
  ·rw [if_neg c3] at H
   have c3b0 : decide (48 ≤ a0) = false := decide_eq_false c3
   clear c3
   (first | rw [c3b0] | (simp only [i64_w, i32_w]; rw [c3b0]) | skip)
   have H' := Aside0.mk H
   clear H
   go_wp2
   go_meet
   case rel => exact ⟨_, (false), (by first | rfl | (simp; done) | (simp [*]; done)), H', ⟨by first | omega | exact Nat.le_refl _⟩, by repeat (first | exact Drawn0.refl _ | apply Drawn0.step)⟩
 case rest =>
  clear HC2
  try clear p2
  try clear c3
  try clear c3b0
  obtain ⟨kq, x3_1, rfl, HA, HJ1, ⟨mc1, rfl⟩⟩ := hcut
  cases kq with
  | zero => exact absurd HA.out (by simp [impl_half.j0])
  | succ kj1 =>
   have H := HA.out
   clear HA
   simp only [impl_half.j0] at H
   by_cases c4 : x3_1 = true
   ·subst c4
    have H1 : (some ((a0 - 48) % 256)) = some r := by first | with_reducible rfl | (rw [if_pos rfl] at H; exact H)
    clear H
    have H := H1
    clear H1
    obtain rfl := Option.some.inj H
    go_wp2
    go_ret
    exact ⟨by first | rfl | (simp; done) | (simp [*]; done), by repeat (first | exact Drawn0.refl _ | apply Drawn0.step)⟩
   ·replace c4 := Bool.eq_false_iff.mpr c4
    subst c4
    have H1 : (if a0 ≥ 97 then (if a0 ≤ 102 then (some (((a0 - 97) % 256) + 10)) else (some (-1))) else (some (-1))) = some r := by first | with_reducible rfl | (rw [if_neg (show ¬ (false = true) by decide)] at H; exact H)
    clear H
    have H := H1
    clear H1
    by_cases c5 : a0 ≥ 97
    ·rw [if_pos c5] at H
     have c5b0 : decide (97 ≤ a0) = true := decide_eq_true c5
     clear c5
     by_cases c6 : a0 ≤ 102
     ·rw [if_pos c6] at H
      have c6b0 : decide (a0 ≤ 102) = true := decide_eq_true c6
      clear c6
      obtain rfl := Option.some.inj H
      go_wp2
      go_ret
      exact ⟨by first | rfl | (simp; done) | (simp [*]; done), by repeat (first | exact Drawn0.refl _ | apply Drawn0.step)⟩
     ·rw [if_neg c6] at H
      have c6b0 : decide (a0 ≤ 102) = false := decide_eq_false c6
      clear c6
      obtain rfl := Option.some.inj H
      go_wp2
      go_ret
      exact ⟨by first | rfl | (simp; done) | (simp [*]; done), by repeat (first | exact Drawn0.refl _ | apply Drawn0.step)⟩
    ·rw [if_neg c5] at H
     have c5b0 : decide (97 ≤ a0) = false := decide_eq_false c5
     clear c5
     obtain rfl := Option.some.inj H
     go_wp2
     go_ret
     exact ⟨by first | rfl | (simp; done) | (simp [*]; done), by repeat (first | exact Drawn0.refl _ | apply Drawn0.step)⟩

end Go.Proofs.YtjphbdnfbkfgiaaDoor.PFnEncodings
