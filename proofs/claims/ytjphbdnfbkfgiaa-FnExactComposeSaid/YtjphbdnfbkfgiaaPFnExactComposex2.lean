-- Written by a program of this session: the kit's printer, turned by wip/mkprint.py.
import Derived.Test.YtjphbdnfbkfgiaaPFnExactComposex0
import Derived.Test.YtjphbdnfbkfgiaaPFnExactComposex1
namespace Go.Proofs.Ytjphbdnfbkfgiaa.PFnExactCompose
open Go.RowKit Go.Proofs.YtjphbdnfbkfgiaaW.PrintWords Go.Proofs.YtjphbdnfbkfgiaaW.PrintLast Go.Proofs.YtjphbdnfbkfgiaaW.PrintMore
attribute [local go_sem] max2_int min2_int max_two min_two max_three min_three max_four min_four   -- for this text's walks alone
set_option linter.unusedVariables false
set_option linter.unusedSimpArgs false

/-! ### spec_IsValidSubstitution: function 50 -/
def spec_IsValidSubstitution.l0 : Nat → Int → List Int → List Int → Option (Bool)
 | 0, _, _, _ => none
 | k + 1, x3, x123000, x123001 => if x3 < (x123000.length : Int) then (if 0 ≤ x3 then ((spec_l1In.f (rd x123000 x3) 0 39).bind fun t124 => (if t124 = true then (if x3 > 0 then (if 0 ≤ (wrap64 (x3 - 1)) then (if (wrap64 (x3 - 1)) < (x123000.length : Int) then (if (rd x123000 x3) ≤ (rd x123000 (wrap64 (x3 - 1))) then (some false) else (if x3 < (x123001.length : Int) then ((spec_IsValidValue.f (rd x123001 x3)).bind fun t128 => (if t128 = true then (spec_IsValidSubstitution.l0 k (wrap64 (x3 + 1)) x123000 x123001) else (some false))) else (none))) else (none)) else (none)) else (if x3 < (x123001.length : Int) then ((spec_IsValidValue.f (rd x123001 x3)).bind fun t130 => (if t130 = true then (spec_IsValidSubstitution.l0 k (wrap64 (x3 + 1)) x123000 x123001) else (some false))) else (none))) else (some false))) else (none)) else (some true)
def spec_IsValidSubstitution.f (k : Nat) (l0_0 : List Int) (l0_1 : List Int) : Option (Bool) := if (l0_0.length : Int) = (l0_1.length : Int) then (spec_IsValidSubstitution.l0 k 0 l0_0 l0_1) else (some false)
theorem spec_IsValidSubstitution.mono_l : ∀ k, (∀ y0 y1 y2, LeO (spec_IsValidSubstitution.l0 k y0 y1 y2) (spec_IsValidSubstitution.l0 (k + 1) y0 y1 y2))
 | 0 => fun _ _ _ r h => by simp [spec_IsValidSubstitution.l0] at h
 | k + 1 => by
  have ih0 := spec_IsValidSubstitution.mono_l k
  ·intro y0 y1 y2
   unfold spec_IsValidSubstitution.l0
   repeat' first
   | (with_reducible exact ih0 _ _ _)
   | (with_reducible exact LeO.refl _)
   | (with_reducible exact LeO.none _)
   | (with_reducible refine LeO.ite ?_ ?_)
   | (with_reducible refine LeO.bind ?_ (fun _ => ?_))
   | exact ih0 _ _ _
   | exact LeO.none _
   | refine LeO.ite ?_ ?_
   | refine LeO.bind ?_ (fun _ => ?_)
theorem spec_IsValidSubstitution.mono : ∀ a0 a1 k, LeO (spec_IsValidSubstitution.f k a0 a1) (spec_IsValidSubstitution.f (k + 1) a0 a1) := by
 intro a0 a1 k
 have ih0 := spec_IsValidSubstitution.mono_l k
 unfold spec_IsValidSubstitution.f
 repeat' first
   | (with_reducible exact ih0 _ _ _)
   | (with_reducible exact LeO.refl _)
   | (with_reducible exact LeO.none _)
   | (with_reducible refine LeO.ite ?_ ?_)
   | (with_reducible refine LeO.bind ?_ (fun _ => ?_))
   | exact ih0 _ _ _
   | exact LeO.none _
   | refine LeO.ite ?_ ?_
   | refine LeO.bind ?_ (fun _ => ?_)
def spec_IsValidSubstitution.T6 : Bool × List (List Nat × List Nat) := (true, [([], []), ([0], [0]), ([], []), ([1, 2], [1, 2]), ([3], [3]), ([4], [4]), ([5], [5]), ([6, 5], [6]), ([7], [7]), ([8, 7], [7, 8]), ([9, 7, 7], [7, 9]), ([10], [10]), ([11, 10], [10, 11]), ([10], [10]), ([12, 13, 10], [10, 12, 13]), ([14, 10], [10, 14]), ([10], [10]), ([16, 10], [10, 16]), ([10], [10]), ([18, 10], [10, 18]), ([17, 19, 10], [10, 17, 19]), ([20, 10], [10, 20]), ([15, 21, 10], [10, 15, 21]), ([10, 22, 7], [7, 10, 22]), ([7, 23], [7, 23]), ([24, 10], [24]), ([25], [25]), ([26, 25], [25, 26]), ([25], [25]), ([27, 28, 25], [25, 27, 28]), ([29, 25], [25, 29]), ([30, 25, 25], [25, 30]), ([31, 25], [25, 31]), ([25, 32], [25, 32])])
def spec_IsValidSubstitution.B6 : List Nat := [0, 1, 0, 7, 15, 31, 63, 127, 255, 511, 1023, 2047, 4095, 2047, 16383, 32767, 2047, 67583, 2047, 264191, 985087, 2033663, 4194303, 8388607, 16777215, 33554431, 67108863, 134217727, 67108863, 536870911, 1073741823, 2147483647, 4294967295, 8589934591]
theorem spec_IsValidSubstitution.tab6 : rtab .any (opsOf Try.f50 6) = spec_IsValidSubstitution.T6 := by kernel_rfl
theorem spec_IsValidSubstitution.bits6 : waitsOk spec_IsValidSubstitution.T6.2 spec_IsValidSubstitution.B6 = true := by kernel_rfl
set_option maxHeartbeats 8000000 in
set_option maxRecDepth 100000 in
theorem spec_IsValidSubstitution.calls (k : Nat) (A0_0 : Option Addr) (c0_0 : Nat) (l0_0 : List Int) (A0_1 : Option Addr) (c0_1 : Nat) (l0_1 : List Int) (r : Bool) (w : World) (hr0_0 : Kd.C (Kd.int .i64) w A0_0 l0_0.length l0_0) (hc0_0 : l0_0.length ≤ c0_0) (hr0_1 : Kd.C (Kd.int .i64) w A0_1 l0_1.length l0_1) (hc0_1 : l0_1.length ≤ c0_1) (h : spec_IsValidSubstitution.f k l0_0 l0_1 = some r) :
  Calls Try.prog 50 #[.agg #[.slice A0_0 l0_0.length c0_0, .slice A0_1 l0_1.length c0_1]] w fun e w' => e = .returned (.bool r) ∧ Below w.heap.size w w' := by
 have hu49 := Try.underlying49
 have HR0_0 := Aside0.mk hr0_0
 have HC0_0 := Aside0.mk hc0_0
 clear hr0_0 hc0_0
 have HR0_1 := Aside0.mk hr0_1
 have HC0_1 := Aside0.mk hc0_1
 clear hr0_1 hc0_1
 have HB := Aside0.mk (Below.refl w.heap.size w)
 have H : (if (l0_0.length : Int) = (l0_1.length : Int) then (spec_IsValidSubstitution.l0 k 0 l0_0 l0_1) else (some false)) = some r := h
 clear h
 by_cases c2 : (l0_0.length : Int) = (l0_1.length : Int)
 ·rw [if_pos c2] at H
  have c2b0 : ((l0_0.length : Int) == (l0_1.length : Int)) = true := beq_iff_eq.mpr c2
  have c2b1 : ((l0_0.length : Int) != (l0_1.length : Int)) = false := bne_eq_false_iff_eq.mpr c2
  have c2b2 : (l0_0.length == l0_1.length) = true := by first | simpa using c2 | (simp at c2 ⊢; omega)
  clear c2
  have H' := Aside0.mk H
  clear H
  go_enter Try.func50, Try.ntmps50
  go_wp2_with (first | ((with_reducible refine gate_dst (N := 1) rfl ?_); refine box_event ?hg (N := 1) ?hd (cs := #[.slice A0_0 l0_0.length c0_0, .slice A0_1 l0_1.length c0_1]) (t := 49) ?hr ?_; (case hd => rfl); (case hg => rfl); (case hr => first | (go_simp; done) | (go_simp; rfl)); intro gb122 hg w3 hbox hb; have BK122 := zm (hbox); have GW122 := zm ((by rw [hg]; exact (below_size zl) : w.heap.size ≤ gb122)); have GE122 := GW122; replace HB := zm (below_step zl hb); clear hb hbox hg; have hcz4_0 : w3.cell? ⟨gb122, 0, none⟩ = some (.slice A0_0 l0_0.length c0_0) := zcl BK122.out 0; have hcz4_1 : w3.cell? ⟨gb122, 1, none⟩ = some (.slice A0_1 l0_1.length c0_1) := zcl BK122.out 1; have hfz4_0 := blk_frozen BK122.out 0; have hfz4_1 := blk_frozen BK122.out 1))
  go_loopg [3] k (fun kq v3 w' => ∃ (x3_1 : Int), v3 = .int .i64 x3_1 ∧ Aside0 (spec_IsValidSubstitution.l0 kq x3_1 l0_0 l0_1 = some r) ∧ Aside0 (kq ≤ k) ∧ Aside0 (w'.heap[gb122]? = some (.cells #[(.slice A0_0 l0_0.length c0_0), (.slice A0_1 l0_1.length c0_1)] 49 (0, 0))) ∧ Aside0 (Below w.heap.size w w'))
  case atStart => exact ⟨(0), (by first | rfl | (simp; done) | (simp [*]; done)), H', ⟨Nat.le_refl _⟩, ⟨zb BK122.out⟩, ⟨zl⟩⟩
  case round =>
   clear H'
   try clear c2
   try clear c2b0
   try clear c2b1
   try clear c2b2
   try clear p2
   try clear hcz4_0
   try clear hcz4_1
   try clear hfz4_0
   try clear hfz4_1
   obtain ⟨x3_1, rfl, HA, HK1, BK122, HB⟩ := hrel
   cases gk with
   | zero => exact absurd HA.out (by simp [spec_IsValidSubstitution.l0])
   | succ k1 =>
    have H := HA.out
    clear HA
    simp only [spec_IsValidSubstitution.l0] at H
    by_cases c5 : x3_1 < (l0_0.length : Int)
    ·rw [if_pos c5] at H
     have c5b0 : decide (x3_1 < (l0_0.length : Int)) = true := decide_eq_true c5
     clear c5
     by_cases c6 : 0 ≤ x3_1
     ·rw [if_pos c6] at H
      have c6b0 : decide (0 ≤ x3_1) = true := decide_eq_true c6
      clear c6
      replace H := Option.bind_eq_some_iff.mp H
      obtain ⟨t124, A70, H⟩ := H
      replace H : (if t124 = true then (if x3_1 > 0 then (if 0 ≤ (wrap64 (x3_1 - 1)) then (if (wrap64 (x3_1 - 1)) < (l0_0.length : Int) then (if (rd l0_0 x3_1) ≤ (rd l0_0 (wrap64 (x3_1 - 1))) then (some false) else (if x3_1 < (l0_1.length : Int) then ((spec_IsValidValue.f (rd l0_1 x3_1)).bind fun t128 => (if t128 = true then (spec_IsValidSubstitution.l0 k1 (wrap64 (x3_1 + 1)) l0_0 l0_1) else (some false))) else (none))) else (none)) else (none)) else (if x3_1 < (l0_1.length : Int) then ((spec_IsValidValue.f (rd l0_1 x3_1)).bind fun t130 => (if t130 = true then (spec_IsValidSubstitution.l0 k1 (wrap64 (x3_1 + 1)) l0_0 l0_1) else (some false))) else (none))) else (some false)) = some r := H
      have A7 := Aside0.mk A70
      clear A70
      by_cases c8 : t124 = true
      ·subst c8
       have H1 : (if x3_1 > 0 then (if 0 ≤ (wrap64 (x3_1 - 1)) then (if (wrap64 (x3_1 - 1)) < (l0_0.length : Int) then (if (rd l0_0 x3_1) ≤ (rd l0_0 (wrap64 (x3_1 - 1))) then (some false) else (if x3_1 < (l0_1.length : Int) then ((spec_IsValidValue.f (rd l0_1 x3_1)).bind fun t128 => (if t128 = true then (spec_IsValidSubstitution.l0 k1 (wrap64 (x3_1 + 1)) l0_0 l0_1) else (some false))) else (none))) else (none)) else (none)) else (if x3_1 < (l0_1.length : Int) then ((spec_IsValidValue.f (rd l0_1 x3_1)).bind fun t130 => (if t130 = true then (spec_IsValidSubstitution.l0 k1 (wrap64 (x3_1 + 1)) l0_0 l0_1) else (some false))) else (none))) = some r := by first | with_reducible rfl | (rw [if_pos rfl] at H; exact H)
       clear H
       have H := H1
       clear H1
       by_cases c9 : x3_1 > 0
       ·rw [if_pos c9] at H
        have c9b0 : decide (0 < x3_1) = true := decide_eq_true c9
        clear c9
        obtain ⟨ji10, hji10⟩ : ∃ j_ : Int, (wrap64 (x3_1 - 1)) = j_ := ⟨_, rfl⟩
        replace H : (if 0 ≤ (ji10) then (if (ji10) < (l0_0.length : Int) then (if (rd l0_0 x3_1) ≤ (rd l0_0 (ji10)) then (some false) else (if x3_1 < (l0_1.length : Int) then ((spec_IsValidValue.f (rd l0_1 x3_1)).bind fun t128 => (if t128 = true then (spec_IsValidSubstitution.l0 k1 (wrap64 (x3_1 + 1)) l0_0 l0_1) else (some false))) else (none))) else (none)) else (none)) = some r := by first | (rw [hji10] at H; exact H) | (simp only [hji10] at H ⊢; exact H)
        (try rw [hji10] at A7)
        have hji10w : (IntKind.i64.wrap (x3_1 - 1)) = ji10 := (i64_w _).trans hji10
        by_cases c11 : 0 ≤ (ji10)
        ·rw [if_pos c11] at H
         have c11b0 : decide (0 ≤ (ji10)) = true := decide_eq_true c11
         clear c11
         by_cases c12 : (ji10) < (l0_0.length : Int)
         ·rw [if_pos c12] at H
          have c12b0 : decide ((ji10) < (l0_0.length : Int)) = true := decide_eq_true c12
          clear c12
          by_cases c13 : (rd l0_0 x3_1) ≤ (rd l0_0 (ji10))
          ·rw [if_pos c13] at H
           have c13b0 : decide ((rd l0_0 x3_1) ≤ (rd l0_0 (ji10))) = true := decide_eq_true c13
           clear c13
           obtain rfl := Option.some.inj H
           have hcz14_0 : wr.cell? ⟨gb122, 0, none⟩ = some (.slice A0_0 l0_0.length c0_0) := zcl BK122.out 0
           have hcz14_1 : wr.cell? ⟨gb122, 1, none⟩ = some (.slice A0_1 l0_1.length c0_1) := zcl BK122.out 1
           have hfz14_0 := blk_frozen BK122.out 0
           have hfz14_1 := blk_frozen BK122.out 1
           try go_wp2
           replace BK122 := zm (blk_drew BK122.out)
           replace HB := zm (below_drew1 HB.out)
           have p123 : 0 ≤ (x3_1 : Int) := zd
           have q123 : x3_1 < (l0_0.length : Int) := zd
           obtain ⟨ad123, e123, hx123_0⟩ := Kd.at_int HR0_0.out x3_1 p123 q123
           have hw123_0 := hx123_0
           cases e123
           replace hx123_0 := (HB.out.cell (World.block_lt_of_cell? w _ hx123_0)).trans hx123_0
           replace p123 := eq_true p123
           replace q123 := eq_true q123
           have p125 : 0 ≤ (x3_1 : Int) := zd
           have q125 : x3_1 < (l0_0.length : Int) := zd
           obtain ⟨ad125, e125, hx125_0⟩ := Kd.at_int HR0_0.out x3_1 p125 q125
           have hw125_0 := hx125_0
           obtain rfl : ad123 = ad125 := (by injection e125)
           replace hx125_0 := (HB.out.cell (World.block_lt_of_cell? w _ hx125_0)).trans hx125_0
           replace p125 := eq_true p125
           replace q125 := eq_true q125
           have p126 : 0 ≤ ((ji10) : Int) := zd
           have q126 : (ji10) < (l0_0.length : Int) := zd
           obtain ⟨ad126, e126, hx126_0⟩ := Kd.at_int HR0_0.out (ji10) p126 q126
           have hw126_0 := hx126_0
           obtain rfl : ad123 = ad126 := (by injection e126)
           replace hx126_0 := (HB.out.cell (World.block_lt_of_cell? w _ hx126_0)).trans hx126_0
           replace p126 := eq_true p126
           replace q126 := eq_true q126
           refine start_ (n := 34) (S := fun w' => w'.cell? ⟨gb122, 0, none⟩ = some (.slice (some ad123) l0_0.length c0_0) ∧ w'.cell? ⟨gb122, 1, none⟩ = some (.slice A0_1 l0_1.length c0_1) ∧ w'.cell? (ad123.add (x3_1).toNat) = some (.int .i64 (rd l0_0 x3_1)) ∧ w'.cell? (ad123.add (x3_1).toNat) = some (.int .i64 (rd l0_0 x3_1)) ∧ w'.cell? (ad123.add ((ji10)).toNat) = some (.int .i64 (rd l0_0 (ji10)))) (ds := []) #[false, false, false, false, false, false, false, false, false, false, false, false, false, false, false, false, false, false, false, false, false, false, false, false, false, false, false, false, false, false, false, false, false, false] (by kernel_rfl) rfl rfl ⟨zcl BK122.out 0, zcl BK122.out 1, ((HB.out.cell (World.block_lt_of_cell? w _ hw123_0)).trans hw123_0), ((HB.out.cell (World.block_lt_of_cell? w _ hw125_0)).trans hw125_0), ((HB.out.cell (World.block_lt_of_cell? w _ hw126_0)).trans hw126_0)⟩ (fun hHeld => ?_); refine with_tabW spec_IsValidSubstitution.tab6 spec_IsValidSubstitution.bits6 (fun HT_ HW_ => ?_)
           generalize wr.drew = w15 at BK122 HB hx123_0 hx125_0 hx126_0 hHeld ⊢
           refine zP 0 (some 18) (zA 34 1) (any_of HT_.out (by kernel_rfl)) ?_
           refine zP 2 (some 20) (zA 34 5) (any_of HT_.out (by kernel_rfl)) ?_
           refine take_ (i := 1) (N := some 19) (v := ?_) (a' := ?_) (zA 34 7) rfl rfl (take_ofW HT_.out HW_.out (by kernel_rfl)) (fun _ _ _ h => h) (Or.inl ⟨by rfl, ?_⟩) hHeld ?_ ?_
           rotate_left
           ·rintro w' ⟨s0, s1, s2, s3, s4⟩
            go_simp
            with_reducible rfl
           rotate_left
           ·simp only [Act.put, List.setIfInBounds_toArray, List.set_cons_zero, List.set_cons_succ, i64_w, i32_w]
            rfl
           refine zP 3 (some 21) (zA 34 15) (any_of HT_.out (by kernel_rfl)) ?_
           refine take_ (i := 4) (N := some 22) (v := ?_) (a' := ?_) (zA 34 31) rfl rfl (take_ofW HT_.out HW_.out (by kernel_rfl)) (fun _ _ _ h => h) (Or.inl ⟨by rfl, ?_⟩) hHeld ?_ ?_
           rotate_left
           ·rintro w' ⟨s0, s1, s2, s3, s4⟩
            go_simp
            with_reducible rfl
           rotate_left
           ·simp only [Act.put, List.setIfInBounds_toArray, List.set_cons_zero, List.set_cons_succ, i64_w, i32_w]
            rfl
           refine one_ (i := 5) (N := some 23) (zA 34 63) rfl rfl (one_of HT_.out (by kernel_rfl)) (by decide) (fun K hK => ?_)
           refine goes_ Try.func67 (by kernel_rfl) rfl #[.int .i64 (rd l0_0 x3_1), .int .i64 0, .int .i64 39] (by rfl) rfl rfl (by (try simp only [List.map_toArray, List.map_cons, List.map_nil]); first | done | rfl | (simp only [List.length_drop, List.length_take]; rfl)) ?_
           with_reducible refine (spec_l1In.calls (rd l0_0 x3_1) 0 39 true _ A7.out).mono ?_
           rintro e w' ⟨rfl, ⟨nd, rfl⟩⟩
           refine ⟨_, rfl, ?_⟩
           refine hK.out _ _ ⟨zcl BK122.out 0, zcl BK122.out 1, ((HB.out.cell (World.block_lt_of_cell? w _ hw123_0)).trans hw123_0), ((HB.out.cell (World.block_lt_of_cell? w _ hw125_0)).trans hw125_0), ((HB.out.cell (World.block_lt_of_cell? w _ hw126_0)).trans hw126_0)⟩ (fun hHeld => ?_)
           clear hK K
           refine zO (some 23) ?_
           refine zP 6 (some 24) (zA 34 127) (any_of HT_.out (by kernel_rfl)) ?_
           refine zP 7 (some 25) (zA 34 255) (any_of HT_.out (by kernel_rfl)) ?_
           refine zP 8 (some 26) (zA 34 511) (any_of HT_.out (by kernel_rfl)) ?_
           refine zP 9 (some 27) (zA 34 1023) (any_of HT_.out (by kernel_rfl)) ?_
           refine zP 10 (some 28) (zA 34 2047) (any_of HT_.out (by kernel_rfl)) ?_
           refine zP 11 (some 29) (zA 34 4095) (any_of HT_.out (by kernel_rfl)) ?_
           refine zP 13 (some 31) (zA 34 12287) (any_of HT_.out (by kernel_rfl)) ?_
           refine zP 16 (some 34) (zA 34 77823) (any_of HT_.out (by kernel_rfl)) ?_
           refine zP 18 (some 36) (zA 34 339967) (any_of HT_.out (by kernel_rfl)) ?_
           refine zP 19 (some 37) (zA 34 864255) (any_of HT_.out (by kernel_rfl)) ?_
           refine take_ (i := 12) (N := some 30) (v := ?_) (a' := ?_) (zA 34 868351) rfl rfl (take_ofW HT_.out HW_.out (by kernel_rfl)) (fun _ _ _ h => h) (Or.inl ⟨by rfl, ?_⟩) hHeld ?_ ?_
           rotate_left
           ·rintro w' ⟨s0, s1, s2, s3, s4⟩
            go_simp
            with_reducible rfl
           rotate_left
           ·simp only [Act.put, List.setIfInBounds_toArray, List.set_cons_zero, List.set_cons_succ, i64_w, i32_w]
            rfl
           refine zP 14 (some 32) (zA 34 884735) (any_of HT_.out (by kernel_rfl)) ?_
           refine take_ (i := 15) (N := some 33) (v := ?_) (a' := ?_) (zA 34 917503) rfl rfl (take_ofW HT_.out HW_.out (by kernel_rfl)) (fun _ _ _ h => h) (Or.inl ⟨by rfl, ?_⟩) hHeld ?_ ?_
           rotate_left
           ·rintro w' ⟨s0, s1, s2, s3, s4⟩
            go_simp
            with_reducible rfl
           rotate_left
           ·simp only [Act.put, List.setIfInBounds_toArray, List.set_cons_zero, List.set_cons_succ, i64_w, i32_w]
            rfl
           refine take_ (i := 17) (N := some 35) (v := ?_) (a' := ?_) (zA 34 1048575) rfl rfl (take_ofW HT_.out HW_.out (by kernel_rfl)) (fun _ _ _ h => h) (Or.inl ⟨by rfl, ?_⟩) hHeld ?_ ?_
           rotate_left
           ·rintro w' ⟨s0, s1, s2, s3, s4⟩
            go_simp
            with_reducible rfl
           rotate_left
           ·simp only [Act.put, List.setIfInBounds_toArray, List.set_cons_zero, List.set_cons_succ, i64_w, i32_w]
            rfl
           refine zP 20 (some 38) (zA 34 2097151) (any_of HT_.out (by kernel_rfl)) ?_
           refine take_ (i := 21) (N := some 39) (v := ?_) (a' := ?_) (zA 34 4194303) rfl rfl (take_ofW HT_.out HW_.out (by kernel_rfl)) (fun _ _ _ h => h) (Or.inl ⟨by rfl, ?_⟩) hHeld ?_ ?_
           rotate_left
           ·rintro w' ⟨s0, s1, s2, s3, s4⟩
            go_simp
            with_reducible rfl
           rotate_left
           ·simp only [Act.put, List.setIfInBounds_toArray, List.set_cons_zero, List.set_cons_succ, i64_w, i32_w]
            rfl
           refine zP 22 (some 40) (zA 34 8388607) (any_of HT_.out (by kernel_rfl)) ?_
           refine zP 23 (some 41) (zA 34 16777215) (any_of HT_.out (by kernel_rfl)) ?_
           refine zP 24 (some 42) (zA 34 33554431) (any_of HT_.out (by kernel_rfl)) ?_
           refine zP 25 (some 43) (zA 34 67108863) (any_of HT_.out (by kernel_rfl)) ?_
           refine pure_ (i := 26) (N := some 44) (v := undef) (a' := ?_) (zA 34 134217727) rfl rfl (any_of HT_.out (by kernel_rfl)) (fun _ _ _ h => h) (Or.inr ⟨by rfl, rfl⟩) ?_ ?_
           rotate_left
           ·simp only [Act.put, List.setIfInBounds_toArray, List.set_cons_zero, List.set_cons_succ, i64_w, i32_w]
            rfl
           refine pure_ (i := 27) (N := some 45) (v := undef) (a' := ?_) (zA 34 268435455) rfl rfl (any_of HT_.out (by kernel_rfl)) (fun _ _ _ h => h) (Or.inr ⟨by rfl, rfl⟩) ?_ ?_
           rotate_left
           ·simp only [Act.put, List.setIfInBounds_toArray, List.set_cons_zero, List.set_cons_succ, i64_w, i32_w]
            rfl
           refine pure_ (i := 28) (N := some 46) (v := undef) (a' := ?_) (zA 34 536870911) rfl rfl (any_of HT_.out (by kernel_rfl)) (fun _ _ _ h => h) (Or.inr ⟨by rfl, rfl⟩) ?_ ?_
           rotate_left
           ·simp only [Act.put, List.setIfInBounds_toArray, List.set_cons_zero, List.set_cons_succ, i64_w, i32_w]
            rfl
           refine pure_ (i := 29) (N := some 47) (v := undef) (a' := ?_) (zA 34 1073741823) rfl rfl (any_of HT_.out (by kernel_rfl)) (fun _ _ _ h => h) (Or.inr ⟨by rfl, rfl⟩) ?_ ?_
           rotate_left
           ·simp only [Act.put, List.setIfInBounds_toArray, List.set_cons_zero, List.set_cons_succ, i64_w, i32_w]
            rfl
           refine pure_ (i := 30) (N := some 48) (v := undef) (a' := ?_) (zA 34 2147483647) rfl rfl (any_of HT_.out (by kernel_rfl)) (fun _ _ _ h => h) (Or.inr ⟨by rfl, rfl⟩) ?_ ?_
           rotate_left
           ·simp only [Act.put, List.setIfInBounds_toArray, List.set_cons_zero, List.set_cons_succ, i64_w, i32_w]
            rfl
           refine pure_ (i := 31) (N := some 49) (v := undef) (a' := ?_) (zA 34 4294967295) rfl rfl (any_of HT_.out (by kernel_rfl)) (fun _ _ _ h => h) (Or.inr ⟨by rfl, rfl⟩) ?_ ?_
           rotate_left
           ·simp only [Act.put, List.setIfInBounds_toArray, List.set_cons_zero, List.set_cons_succ, i64_w, i32_w]
            rfl
           refine pure_ (i := 32) (N := some 50) (v := undef) (a' := ?_) (zA 34 8589934591) rfl rfl (any_of HT_.out (by kernel_rfl)) (fun _ _ _ h => h) (Or.inr ⟨by rfl, rfl⟩) ?_ ?_
           rotate_left
           ·simp only [Act.put, List.setIfInBounds_toArray, List.set_cons_zero, List.set_cons_succ, i64_w, i32_w]
            rfl
           refine zP 33 (some 51) (zA 34 17179869183) (any_of HT_.out (by kernel_rfl)) ?_
           refine done_ (done_of HT_.out (by kernel_rfl)) ?_
           try go_wp2
           go_ret
           exact ⟨by first | rfl | (simp [errW_none, errW_some] <;> rfl) | (simp only [← hji10]; first | rfl | (simp [errW_none, errW_some] <;> rfl)) | (simp [*, errW_none, errW_some] <;> rfl), zl⟩
          ·rw [if_neg c13] at H
           have c13b0 : decide ((rd l0_0 x3_1) ≤ (rd l0_0 (ji10))) = false := decide_eq_false c13
           clear c13
           by_cases c16 : x3_1 < (l0_1.length : Int)
           ·rw [if_pos c16] at H
            have c16b0 : decide (x3_1 < (l0_1.length : Int)) = true := decide_eq_true c16
            clear c16
            replace H := Option.bind_eq_some_iff.mp H
            obtain ⟨t128, A170, H⟩ := H
            replace H : (if t128 = true then (spec_IsValidSubstitution.l0 k1 (wrap64 (x3_1 + 1)) l0_0 l0_1) else (some false)) = some r := H
            have A17 := Aside0.mk A170
            clear A170
            by_cases c18 : t128 = true
            ·subst c18
             have H1 : (spec_IsValidSubstitution.l0 k1 (wrap64 (x3_1 + 1)) l0_0 l0_1) = some r := by first | with_reducible rfl | (rw [if_pos rfl] at H; exact H)
             clear H
             have H := H1
             clear H1
             have H' := Aside0.mk H
             clear H
             have hcz19_0 : wr.cell? ⟨gb122, 0, none⟩ = some (.slice A0_0 l0_0.length c0_0) := zcl BK122.out 0
             have hcz19_1 : wr.cell? ⟨gb122, 1, none⟩ = some (.slice A0_1 l0_1.length c0_1) := zcl BK122.out 1
             have hfz19_0 := blk_frozen BK122.out 0
             have hfz19_1 := blk_frozen BK122.out 1
             try go_wp2
             replace BK122 := zm (blk_drew BK122.out)
             replace HB := zm (below_drew1 HB.out)
             have p123 : 0 ≤ (x3_1 : Int) := zd
             have q123 : x3_1 < (l0_0.length : Int) := zd
             obtain ⟨ad123, e123, hx123_0⟩ := Kd.at_int HR0_0.out x3_1 p123 q123
             have hw123_0 := hx123_0
             cases e123
             replace hx123_0 := (HB.out.cell (World.block_lt_of_cell? w _ hx123_0)).trans hx123_0
             replace p123 := eq_true p123
             replace q123 := eq_true q123
             have p125 : 0 ≤ (x3_1 : Int) := zd
             have q125 : x3_1 < (l0_0.length : Int) := zd
             obtain ⟨ad125, e125, hx125_0⟩ := Kd.at_int HR0_0.out x3_1 p125 q125
             have hw125_0 := hx125_0
             obtain rfl : ad123 = ad125 := (by injection e125)
             replace hx125_0 := (HB.out.cell (World.block_lt_of_cell? w _ hx125_0)).trans hx125_0
             replace p125 := eq_true p125
             replace q125 := eq_true q125
             have p126 : 0 ≤ ((ji10) : Int) := zd
             have q126 : (ji10) < (l0_0.length : Int) := zd
             obtain ⟨ad126, e126, hx126_0⟩ := Kd.at_int HR0_0.out (ji10) p126 q126
             have hw126_0 := hx126_0
             obtain rfl : ad123 = ad126 := (by injection e126)
             replace hx126_0 := (HB.out.cell (World.block_lt_of_cell? w _ hx126_0)).trans hx126_0
             replace p126 := eq_true p126
             replace q126 := eq_true q126
             have p127 : 0 ≤ (x3_1 : Int) := zd
             have q127 : x3_1 < (l0_1.length : Int) := zd
             obtain ⟨ad127, e127, hx127_0⟩ := Kd.at_int HR0_1.out x3_1 p127 q127
             have hw127_0 := hx127_0
             cases e127
             replace hx127_0 := (HB.out.cell (World.block_lt_of_cell? w _ hx127_0)).trans hx127_0
             replace p127 := eq_true p127
             replace q127 := eq_true q127
             refine start_ (n := 34) (S := fun w' => w'.cell? ⟨gb122, 0, none⟩ = some (.slice (some ad123) l0_0.length c0_0) ∧ w'.cell? ⟨gb122, 1, none⟩ = some (.slice (some ad127) l0_1.length c0_1) ∧ w'.cell? (ad123.add (x3_1).toNat) = some (.int .i64 (rd l0_0 x3_1)) ∧ w'.cell? (ad123.add (x3_1).toNat) = some (.int .i64 (rd l0_0 x3_1)) ∧ w'.cell? (ad123.add ((ji10)).toNat) = some (.int .i64 (rd l0_0 (ji10))) ∧ w'.cell? (ad127.add (x3_1).toNat) = some (.int .i64 (rd l0_1 x3_1))) (ds := []) #[false, false, false, false, false, false, false, false, false, false, false, false, false, false, false, false, false, false, false, false, false, false, false, false, false, false, false, false, false, false, false, false, false, false] (by kernel_rfl) rfl rfl ⟨zcl BK122.out 0, zcl BK122.out 1, ((HB.out.cell (World.block_lt_of_cell? w _ hw123_0)).trans hw123_0), ((HB.out.cell (World.block_lt_of_cell? w _ hw125_0)).trans hw125_0), ((HB.out.cell (World.block_lt_of_cell? w _ hw126_0)).trans hw126_0), ((HB.out.cell (World.block_lt_of_cell? w _ hw127_0)).trans hw127_0)⟩ (fun hHeld => ?_); refine with_tabW spec_IsValidSubstitution.tab6 spec_IsValidSubstitution.bits6 (fun HT_ HW_ => ?_)
             generalize wr.drew = w20 at BK122 HB hx123_0 hx125_0 hx126_0 hx127_0 hHeld ⊢
             refine zP 0 (some 18) (zA 34 1) (any_of HT_.out (by kernel_rfl)) ?_
             refine zP 2 (some 20) (zA 34 5) (any_of HT_.out (by kernel_rfl)) ?_
             refine take_ (i := 1) (N := some 19) (v := ?_) (a' := ?_) (zA 34 7) rfl rfl (take_ofW HT_.out HW_.out (by kernel_rfl)) (fun _ _ _ h => h) (Or.inl ⟨by rfl, ?_⟩) hHeld ?_ ?_
             rotate_left
             ·rintro w' ⟨s0, s1, s2, s3, s4, s5⟩
              go_simp
              with_reducible rfl
             rotate_left
             ·simp only [Act.put, List.setIfInBounds_toArray, List.set_cons_zero, List.set_cons_succ, i64_w, i32_w]
              rfl
             refine zP 3 (some 21) (zA 34 15) (any_of HT_.out (by kernel_rfl)) ?_
             refine take_ (i := 4) (N := some 22) (v := ?_) (a' := ?_) (zA 34 31) rfl rfl (take_ofW HT_.out HW_.out (by kernel_rfl)) (fun _ _ _ h => h) (Or.inl ⟨by rfl, ?_⟩) hHeld ?_ ?_
             rotate_left
             ·rintro w' ⟨s0, s1, s2, s3, s4, s5⟩
              go_simp
              with_reducible rfl
             rotate_left
             ·simp only [Act.put, List.setIfInBounds_toArray, List.set_cons_zero, List.set_cons_succ, i64_w, i32_w]
              rfl
             refine one_ (i := 5) (N := some 23) (zA 34 63) rfl rfl (one_of HT_.out (by kernel_rfl)) (by decide) (fun K hK => ?_)
             refine goes_ Try.func67 (by kernel_rfl) rfl #[.int .i64 (rd l0_0 x3_1), .int .i64 0, .int .i64 39] (by rfl) rfl rfl (by (try simp only [List.map_toArray, List.map_cons, List.map_nil]); first | done | rfl | (simp only [List.length_drop, List.length_take]; rfl)) ?_
             with_reducible refine (spec_l1In.calls (rd l0_0 x3_1) 0 39 true _ A7.out).mono ?_
             rintro e w' ⟨rfl, ⟨nd, rfl⟩⟩
             refine ⟨_, rfl, ?_⟩
             refine hK.out _ _ ⟨zcl BK122.out 0, zcl BK122.out 1, ((HB.out.cell (World.block_lt_of_cell? w _ hw123_0)).trans hw123_0), ((HB.out.cell (World.block_lt_of_cell? w _ hw125_0)).trans hw125_0), ((HB.out.cell (World.block_lt_of_cell? w _ hw126_0)).trans hw126_0), ((HB.out.cell (World.block_lt_of_cell? w _ hw127_0)).trans hw127_0)⟩ (fun hHeld => ?_)
             clear hK K
             refine zO (some 23) ?_
             refine zP 6 (some 24) (zA 34 127) (any_of HT_.out (by kernel_rfl)) ?_
             refine zP 7 (some 25) (zA 34 255) (any_of HT_.out (by kernel_rfl)) ?_
             refine zP 8 (some 26) (zA 34 511) (any_of HT_.out (by kernel_rfl)) ?_
             refine zP 9 (some 27) (zA 34 1023) (any_of HT_.out (by kernel_rfl)) ?_
             refine zP 10 (some 28) (zA 34 2047) (any_of HT_.out (by kernel_rfl)) ?_
             refine zP 11 (some 29) (zA 34 4095) (any_of HT_.out (by kernel_rfl)) ?_
             refine zP 13 (some 31) (zA 34 12287) (any_of HT_.out (by kernel_rfl)) ?_
             refine zP 16 (some 34) (zA 34 77823) (any_of HT_.out (by kernel_rfl)) ?_
             refine zP 18 (some 36) (zA 34 339967) (any_of HT_.out (by kernel_rfl)) ?_
             refine zP 19 (some 37) (zA 34 864255) (any_of HT_.out (by kernel_rfl)) ?_
             refine take_ (i := 12) (N := some 30) (v := ?_) (a' := ?_) (zA 34 868351) rfl rfl (take_ofW HT_.out HW_.out (by kernel_rfl)) (fun _ _ _ h => h) (Or.inl ⟨by rfl, ?_⟩) hHeld ?_ ?_
             rotate_left
             ·rintro w' ⟨s0, s1, s2, s3, s4, s5⟩
              go_simp
              with_reducible rfl
             rotate_left
             ·simp only [Act.put, List.setIfInBounds_toArray, List.set_cons_zero, List.set_cons_succ, i64_w, i32_w]
              rfl
             refine zP 14 (some 32) (zA 34 884735) (any_of HT_.out (by kernel_rfl)) ?_
             refine take_ (i := 15) (N := some 33) (v := ?_) (a' := ?_) (zA 34 917503) rfl rfl (take_ofW HT_.out HW_.out (by kernel_rfl)) (fun _ _ _ h => h) (Or.inl ⟨by rfl, ?_⟩) hHeld ?_ ?_
             rotate_left
             ·rintro w' ⟨s0, s1, s2, s3, s4, s5⟩
              go_simp
              with_reducible rfl
             rotate_left
             ·simp only [Act.put, List.setIfInBounds_toArray, List.set_cons_zero, List.set_cons_succ, i64_w, i32_w]
              rfl
             refine take_ (i := 17) (N := some 35) (v := ?_) (a' := ?_) (zA 34 1048575) rfl rfl (take_ofW HT_.out HW_.out (by kernel_rfl)) (fun _ _ _ h => h) (Or.inl ⟨by rfl, ?_⟩) hHeld ?_ ?_
             rotate_left
             ·rintro w' ⟨s0, s1, s2, s3, s4, s5⟩
              go_simp
              with_reducible rfl
             rotate_left
             ·simp only [Act.put, List.setIfInBounds_toArray, List.set_cons_zero, List.set_cons_succ, i64_w, i32_w]
              rfl
             refine zP 20 (some 38) (zA 34 2097151) (any_of HT_.out (by kernel_rfl)) ?_
             refine take_ (i := 21) (N := some 39) (v := ?_) (a' := ?_) (zA 34 4194303) rfl rfl (take_ofW HT_.out HW_.out (by kernel_rfl)) (fun _ _ _ h => h) (Or.inl ⟨by rfl, ?_⟩) hHeld ?_ ?_
             rotate_left
             ·rintro w' ⟨s0, s1, s2, s3, s4, s5⟩
              go_simp
              with_reducible rfl
             rotate_left
             ·simp only [Act.put, List.setIfInBounds_toArray, List.set_cons_zero, List.set_cons_succ, i64_w, i32_w]
              rfl
             refine zP 22 (some 40) (zA 34 8388607) (any_of HT_.out (by kernel_rfl)) ?_
             refine zP 23 (some 41) (zA 34 16777215) (any_of HT_.out (by kernel_rfl)) ?_
             refine zP 24 (some 42) (zA 34 33554431) (any_of HT_.out (by kernel_rfl)) ?_
             refine zP 25 (some 43) (zA 34 67108863) (any_of HT_.out (by kernel_rfl)) ?_
             refine zP 26 (some 44) (zA 34 134217727) (any_of HT_.out (by kernel_rfl)) ?_
             refine zP 28 (some 46) (zA 34 402653183) (any_of HT_.out (by kernel_rfl)) ?_
             refine take_ (i := 27) (N := some 45) (v := ?_) (a' := ?_) (zA 34 536870911) rfl rfl (take_ofW HT_.out HW_.out (by kernel_rfl)) (fun _ _ _ h => h) (Or.inl ⟨by rfl, ?_⟩) hHeld ?_ ?_
             rotate_left
             ·rintro w' ⟨s0, s1, s2, s3, s4, s5⟩
              go_simp
              with_reducible rfl
             rotate_left
             ·simp only [Act.put, List.setIfInBounds_toArray, List.set_cons_zero, List.set_cons_succ, i64_w, i32_w]
              rfl
             refine zP 29 (some 47) (zA 34 1073741823) (any_of HT_.out (by kernel_rfl)) ?_
             refine take_ (i := 30) (N := some 48) (v := ?_) (a' := ?_) (zA 34 2147483647) rfl rfl (take_ofW HT_.out HW_.out (by kernel_rfl)) (fun _ _ _ h => h) (Or.inl ⟨by rfl, ?_⟩) hHeld ?_ ?_
             rotate_left
             ·rintro w' ⟨s0, s1, s2, s3, s4, s5⟩
              go_simp
              with_reducible rfl
             rotate_left
             ·simp only [Act.put, List.setIfInBounds_toArray, List.set_cons_zero, List.set_cons_succ, i64_w, i32_w]
              rfl
             refine one_ (i := 31) (N := some 49) (zA 34 4294967295) rfl rfl (one_of HT_.out (by kernel_rfl)) (by decide) (fun K hK => ?_)
             refine goes_ Try.func69 (by kernel_rfl) rfl #[.int .i64 (rd l0_1 x3_1)] (by rfl) rfl rfl (by (try simp only [List.map_toArray, List.map_cons, List.map_nil]); first | done | rfl | (simp only [List.length_drop, List.length_take]; rfl)) ?_
             with_reducible refine (spec_IsValidValue.calls (rd l0_1 x3_1) true _ A17.out).mono ?_
             rintro e w' ⟨rfl, ⟨nd, rfl⟩⟩
             refine ⟨_, rfl, ?_⟩
             refine hK.out _ _ ⟨zcl BK122.out 0, zcl BK122.out 1, ((HB.out.cell (World.block_lt_of_cell? w _ hw123_0)).trans hw123_0), ((HB.out.cell (World.block_lt_of_cell? w _ hw125_0)).trans hw125_0), ((HB.out.cell (World.block_lt_of_cell? w _ hw126_0)).trans hw126_0), ((HB.out.cell (World.block_lt_of_cell? w _ hw127_0)).trans hw127_0)⟩ (fun hHeld => ?_)
             clear hK K
             refine zO (some 49) ?_
             refine zP 32 (some 50) (zA 34 8589934591) (any_of HT_.out (by kernel_rfl)) ?_
             refine zP 33 (some 51) (zA 34 17179869183) (any_of HT_.out (by kernel_rfl)) ?_
             refine done_ (done_of HT_.out (by kernel_rfl)) ?_
             try go_wp2
             go_roundg k1
             case measure => have := HK1.out; omega
             case rel => exact ⟨(wrap64 (x3_1 + 1)), (by first | rfl | (simp; done) | (simp [*]; done)), H', ⟨by have := HK1.out; omega⟩, ⟨zb BK122.out⟩, ⟨zl⟩⟩
            ·replace c18 := Bool.eq_false_iff.mpr c18
             subst c18
             have H1 : (some false) = some r := by first | with_reducible rfl | (rw [if_neg (show ¬ (false = true) by decide)] at H; exact H)
             clear H
             have H := H1
             clear H1
             obtain rfl := Option.some.inj H
             have hcz21_0 : wr.cell? ⟨gb122, 0, none⟩ = some (.slice A0_0 l0_0.length c0_0) := zcl BK122.out 0
             have hcz21_1 : wr.cell? ⟨gb122, 1, none⟩ = some (.slice A0_1 l0_1.length c0_1) := zcl BK122.out 1
             have hfz21_0 := blk_frozen BK122.out 0
             have hfz21_1 := blk_frozen BK122.out 1
             try go_wp2
             replace BK122 := zm (blk_drew BK122.out)
             replace HB := zm (below_drew1 HB.out)
             have p123 : 0 ≤ (x3_1 : Int) := zd
             have q123 : x3_1 < (l0_0.length : Int) := zd
             obtain ⟨ad123, e123, hx123_0⟩ := Kd.at_int HR0_0.out x3_1 p123 q123
             have hw123_0 := hx123_0
             cases e123
             replace hx123_0 := (HB.out.cell (World.block_lt_of_cell? w _ hx123_0)).trans hx123_0
             replace p123 := eq_true p123
             replace q123 := eq_true q123
             have p125 : 0 ≤ (x3_1 : Int) := zd
             have q125 : x3_1 < (l0_0.length : Int) := zd
             obtain ⟨ad125, e125, hx125_0⟩ := Kd.at_int HR0_0.out x3_1 p125 q125
             have hw125_0 := hx125_0
             obtain rfl : ad123 = ad125 := (by injection e125)
             replace hx125_0 := (HB.out.cell (World.block_lt_of_cell? w _ hx125_0)).trans hx125_0
             replace p125 := eq_true p125
             replace q125 := eq_true q125
             have p126 : 0 ≤ ((ji10) : Int) := zd
             have q126 : (ji10) < (l0_0.length : Int) := zd
             obtain ⟨ad126, e126, hx126_0⟩ := Kd.at_int HR0_0.out (ji10) p126 q126
             have hw126_0 := hx126_0
             obtain rfl : ad123 = ad126 := (by injection e126)
             replace hx126_0 := (HB.out.cell (World.block_lt_of_cell? w _ hx126_0)).trans hx126_0
             replace p126 := eq_true p126
             replace q126 := eq_true q126
             have p127 : 0 ≤ (x3_1 : Int) := zd
             have q127 : x3_1 < (l0_1.length : Int) := zd
             obtain ⟨ad127, e127, hx127_0⟩ := Kd.at_int HR0_1.out x3_1 p127 q127
             have hw127_0 := hx127_0
             cases e127
             replace hx127_0 := (HB.out.cell (World.block_lt_of_cell? w _ hx127_0)).trans hx127_0
             replace p127 := eq_true p127
             replace q127 := eq_true q127
             refine start_ (n := 34) (S := fun w' => w'.cell? ⟨gb122, 0, none⟩ = some (.slice (some ad123) l0_0.length c0_0) ∧ w'.cell? ⟨gb122, 1, none⟩ = some (.slice (some ad127) l0_1.length c0_1) ∧ w'.cell? (ad123.add (x3_1).toNat) = some (.int .i64 (rd l0_0 x3_1)) ∧ w'.cell? (ad123.add (x3_1).toNat) = some (.int .i64 (rd l0_0 x3_1)) ∧ w'.cell? (ad123.add ((ji10)).toNat) = some (.int .i64 (rd l0_0 (ji10))) ∧ w'.cell? (ad127.add (x3_1).toNat) = some (.int .i64 (rd l0_1 x3_1))) (ds := []) #[false, false, false, false, false, false, false, false, false, false, false, false, false, false, false, false, false, false, false, false, false, false, false, false, false, false, false, false, false, false, false, false, false, false] (by kernel_rfl) rfl rfl ⟨zcl BK122.out 0, zcl BK122.out 1, ((HB.out.cell (World.block_lt_of_cell? w _ hw123_0)).trans hw123_0), ((HB.out.cell (World.block_lt_of_cell? w _ hw125_0)).trans hw125_0), ((HB.out.cell (World.block_lt_of_cell? w _ hw126_0)).trans hw126_0), ((HB.out.cell (World.block_lt_of_cell? w _ hw127_0)).trans hw127_0)⟩ (fun hHeld => ?_); refine with_tabW spec_IsValidSubstitution.tab6 spec_IsValidSubstitution.bits6 (fun HT_ HW_ => ?_)
             generalize wr.drew = w22 at BK122 HB hx123_0 hx125_0 hx126_0 hx127_0 hHeld ⊢
             refine zP 0 (some 18) (zA 34 1) (any_of HT_.out (by kernel_rfl)) ?_
             refine zP 2 (some 20) (zA 34 5) (any_of HT_.out (by kernel_rfl)) ?_
             refine take_ (i := 1) (N := some 19) (v := ?_) (a' := ?_) (zA 34 7) rfl rfl (take_ofW HT_.out HW_.out (by kernel_rfl)) (fun _ _ _ h => h) (Or.inl ⟨by rfl, ?_⟩) hHeld ?_ ?_
             rotate_left
             ·rintro w' ⟨s0, s1, s2, s3, s4, s5⟩
              go_simp
              with_reducible rfl
             rotate_left
             ·simp only [Act.put, List.setIfInBounds_toArray, List.set_cons_zero, List.set_cons_succ, i64_w, i32_w]
              rfl
             refine zP 3 (some 21) (zA 34 15) (any_of HT_.out (by kernel_rfl)) ?_
             refine take_ (i := 4) (N := some 22) (v := ?_) (a' := ?_) (zA 34 31) rfl rfl (take_ofW HT_.out HW_.out (by kernel_rfl)) (fun _ _ _ h => h) (Or.inl ⟨by rfl, ?_⟩) hHeld ?_ ?_
             rotate_left
             ·rintro w' ⟨s0, s1, s2, s3, s4, s5⟩
              go_simp
              with_reducible rfl
             rotate_left
             ·simp only [Act.put, List.setIfInBounds_toArray, List.set_cons_zero, List.set_cons_succ, i64_w, i32_w]
              rfl
             refine one_ (i := 5) (N := some 23) (zA 34 63) rfl rfl (one_of HT_.out (by kernel_rfl)) (by decide) (fun K hK => ?_)
             refine goes_ Try.func67 (by kernel_rfl) rfl #[.int .i64 (rd l0_0 x3_1), .int .i64 0, .int .i64 39] (by rfl) rfl rfl (by (try simp only [List.map_toArray, List.map_cons, List.map_nil]); first | done | rfl | (simp only [List.length_drop, List.length_take]; rfl)) ?_
             with_reducible refine (spec_l1In.calls (rd l0_0 x3_1) 0 39 true _ A7.out).mono ?_
             rintro e w' ⟨rfl, ⟨nd, rfl⟩⟩
             refine ⟨_, rfl, ?_⟩
             refine hK.out _ _ ⟨zcl BK122.out 0, zcl BK122.out 1, ((HB.out.cell (World.block_lt_of_cell? w _ hw123_0)).trans hw123_0), ((HB.out.cell (World.block_lt_of_cell? w _ hw125_0)).trans hw125_0), ((HB.out.cell (World.block_lt_of_cell? w _ hw126_0)).trans hw126_0), ((HB.out.cell (World.block_lt_of_cell? w _ hw127_0)).trans hw127_0)⟩ (fun hHeld => ?_)
             clear hK K
             refine zO (some 23) ?_
             refine zP 6 (some 24) (zA 34 127) (any_of HT_.out (by kernel_rfl)) ?_
             refine zP 7 (some 25) (zA 34 255) (any_of HT_.out (by kernel_rfl)) ?_
             refine zP 8 (some 26) (zA 34 511) (any_of HT_.out (by kernel_rfl)) ?_
             refine zP 9 (some 27) (zA 34 1023) (any_of HT_.out (by kernel_rfl)) ?_
             refine zP 10 (some 28) (zA 34 2047) (any_of HT_.out (by kernel_rfl)) ?_
             refine zP 11 (some 29) (zA 34 4095) (any_of HT_.out (by kernel_rfl)) ?_
             refine zP 13 (some 31) (zA 34 12287) (any_of HT_.out (by kernel_rfl)) ?_
             refine zP 16 (some 34) (zA 34 77823) (any_of HT_.out (by kernel_rfl)) ?_
             refine zP 18 (some 36) (zA 34 339967) (any_of HT_.out (by kernel_rfl)) ?_
             refine zP 19 (some 37) (zA 34 864255) (any_of HT_.out (by kernel_rfl)) ?_
             refine take_ (i := 12) (N := some 30) (v := ?_) (a' := ?_) (zA 34 868351) rfl rfl (take_ofW HT_.out HW_.out (by kernel_rfl)) (fun _ _ _ h => h) (Or.inl ⟨by rfl, ?_⟩) hHeld ?_ ?_
             rotate_left
             ·rintro w' ⟨s0, s1, s2, s3, s4, s5⟩
              go_simp
              with_reducible rfl
             rotate_left
             ·simp only [Act.put, List.setIfInBounds_toArray, List.set_cons_zero, List.set_cons_succ, i64_w, i32_w]
              rfl
             refine zP 14 (some 32) (zA 34 884735) (any_of HT_.out (by kernel_rfl)) ?_
             refine take_ (i := 15) (N := some 33) (v := ?_) (a' := ?_) (zA 34 917503) rfl rfl (take_ofW HT_.out HW_.out (by kernel_rfl)) (fun _ _ _ h => h) (Or.inl ⟨by rfl, ?_⟩) hHeld ?_ ?_
             rotate_left
             ·rintro w' ⟨s0, s1, s2, s3, s4, s5⟩
              go_simp
              with_reducible rfl
             rotate_left
             ·simp only [Act.put, List.setIfInBounds_toArray, List.set_cons_zero, List.set_cons_succ, i64_w, i32_w]
              rfl
             refine take_ (i := 17) (N := some 35) (v := ?_) (a' := ?_) (zA 34 1048575) rfl rfl (take_ofW HT_.out HW_.out (by kernel_rfl)) (fun _ _ _ h => h) (Or.inl ⟨by rfl, ?_⟩) hHeld ?_ ?_
             rotate_left
             ·rintro w' ⟨s0, s1, s2, s3, s4, s5⟩
              go_simp
              with_reducible rfl
             rotate_left
             ·simp only [Act.put, List.setIfInBounds_toArray, List.set_cons_zero, List.set_cons_succ, i64_w, i32_w]
              rfl
             refine zP 20 (some 38) (zA 34 2097151) (any_of HT_.out (by kernel_rfl)) ?_
             refine take_ (i := 21) (N := some 39) (v := ?_) (a' := ?_) (zA 34 4194303) rfl rfl (take_ofW HT_.out HW_.out (by kernel_rfl)) (fun _ _ _ h => h) (Or.inl ⟨by rfl, ?_⟩) hHeld ?_ ?_
             rotate_left
             ·rintro w' ⟨s0, s1, s2, s3, s4, s5⟩
              go_simp
              with_reducible rfl
             rotate_left
             ·simp only [Act.put, List.setIfInBounds_toArray, List.set_cons_zero, List.set_cons_succ, i64_w, i32_w]
              rfl
             refine zP 22 (some 40) (zA 34 8388607) (any_of HT_.out (by kernel_rfl)) ?_
             refine zP 23 (some 41) (zA 34 16777215) (any_of HT_.out (by kernel_rfl)) ?_
             refine zP 24 (some 42) (zA 34 33554431) (any_of HT_.out (by kernel_rfl)) ?_
             refine zP 25 (some 43) (zA 34 67108863) (any_of HT_.out (by kernel_rfl)) ?_
             refine zP 26 (some 44) (zA 34 134217727) (any_of HT_.out (by kernel_rfl)) ?_
             refine zP 28 (some 46) (zA 34 402653183) (any_of HT_.out (by kernel_rfl)) ?_
             refine take_ (i := 27) (N := some 45) (v := ?_) (a' := ?_) (zA 34 536870911) rfl rfl (take_ofW HT_.out HW_.out (by kernel_rfl)) (fun _ _ _ h => h) (Or.inl ⟨by rfl, ?_⟩) hHeld ?_ ?_
             rotate_left
             ·rintro w' ⟨s0, s1, s2, s3, s4, s5⟩
              go_simp
              with_reducible rfl
             rotate_left
             ·simp only [Act.put, List.setIfInBounds_toArray, List.set_cons_zero, List.set_cons_succ, i64_w, i32_w]
              rfl
             refine zP 29 (some 47) (zA 34 1073741823) (any_of HT_.out (by kernel_rfl)) ?_
             refine take_ (i := 30) (N := some 48) (v := ?_) (a' := ?_) (zA 34 2147483647) rfl rfl (take_ofW HT_.out HW_.out (by kernel_rfl)) (fun _ _ _ h => h) (Or.inl ⟨by rfl, ?_⟩) hHeld ?_ ?_
             rotate_left
             ·rintro w' ⟨s0, s1, s2, s3, s4, s5⟩
              go_simp
              with_reducible rfl
             rotate_left
             ·simp only [Act.put, List.setIfInBounds_toArray, List.set_cons_zero, List.set_cons_succ, i64_w, i32_w]
              rfl
             refine one_ (i := 31) (N := some 49) (zA 34 4294967295) rfl rfl (one_of HT_.out (by kernel_rfl)) (by decide) (fun K hK => ?_)
             refine goes_ Try.func69 (by kernel_rfl) rfl #[.int .i64 (rd l0_1 x3_1)] (by rfl) rfl rfl (by (try simp only [List.map_toArray, List.map_cons, List.map_nil]); first | done | rfl | (simp only [List.length_drop, List.length_take]; rfl)) ?_
             with_reducible refine (spec_IsValidValue.calls (rd l0_1 x3_1) false _ A17.out).mono ?_
             rintro e w' ⟨rfl, ⟨nd, rfl⟩⟩
             refine ⟨_, rfl, ?_⟩
             refine hK.out _ _ ⟨zcl BK122.out 0, zcl BK122.out 1, ((HB.out.cell (World.block_lt_of_cell? w _ hw123_0)).trans hw123_0), ((HB.out.cell (World.block_lt_of_cell? w _ hw125_0)).trans hw125_0), ((HB.out.cell (World.block_lt_of_cell? w _ hw126_0)).trans hw126_0), ((HB.out.cell (World.block_lt_of_cell? w _ hw127_0)).trans hw127_0)⟩ (fun hHeld => ?_)
             clear hK K
             refine zO (some 49) ?_
             refine zP 32 (some 50) (zA 34 8589934591) (any_of HT_.out (by kernel_rfl)) ?_
             refine zP 33 (some 51) (zA 34 17179869183) (any_of HT_.out (by kernel_rfl)) ?_
             refine done_ (done_of HT_.out (by kernel_rfl)) ?_
             try go_wp2
             go_ret
             exact ⟨by first | rfl | (simp [errW_none, errW_some] <;> rfl) | (simp only [← hji10]; first | rfl | (simp [errW_none, errW_some] <;> rfl)) | (simp [*, errW_none, errW_some] <;> rfl), zl⟩
           ·rw [if_neg c16] at H
            exact absurd H (by simp)
         ·rw [if_neg c12] at H
          exact absurd H (by simp)
        ·rw [if_neg c11] at H
         exact absurd H (by simp)
       ·rw [if_neg c9] at H
        have c9b0 : decide (0 < x3_1) = false := decide_eq_false c9
        clear c9
        by_cases c23 : x3_1 < (l0_1.length : Int)
        ·rw [if_pos c23] at H
         have c23b0 : decide (x3_1 < (l0_1.length : Int)) = true := decide_eq_true c23
         clear c23
         replace H := Option.bind_eq_some_iff.mp H
         obtain ⟨t130, A240, H⟩ := H
         replace H : (if t130 = true then (spec_IsValidSubstitution.l0 k1 (wrap64 (x3_1 + 1)) l0_0 l0_1) else (some false)) = some r := H
         have A24 := Aside0.mk A240
         clear A240
         by_cases c25 : t130 = true
         ·subst c25
          have H1 : (spec_IsValidSubstitution.l0 k1 (wrap64 (x3_1 + 1)) l0_0 l0_1) = some r := by first | with_reducible rfl | (rw [if_pos rfl] at H; exact H)
          clear H
          have H := H1
          clear H1
          have H' := Aside0.mk H
          clear H
          have hcz26_0 : wr.cell? ⟨gb122, 0, none⟩ = some (.slice A0_0 l0_0.length c0_0) := zcl BK122.out 0
          have hcz26_1 : wr.cell? ⟨gb122, 1, none⟩ = some (.slice A0_1 l0_1.length c0_1) := zcl BK122.out 1
          have hfz26_0 := blk_frozen BK122.out 0
          have hfz26_1 := blk_frozen BK122.out 1
          try go_wp2
          replace BK122 := zm (blk_drew BK122.out)
          replace HB := zm (below_drew1 HB.out)
          have p123 : 0 ≤ (x3_1 : Int) := zd
          have q123 : x3_1 < (l0_0.length : Int) := zd
          obtain ⟨ad123, e123, hx123_0⟩ := Kd.at_int HR0_0.out x3_1 p123 q123
          have hw123_0 := hx123_0
          cases e123
          replace hx123_0 := (HB.out.cell (World.block_lt_of_cell? w _ hx123_0)).trans hx123_0
          replace p123 := eq_true p123
          replace q123 := eq_true q123
          have p129 : 0 ≤ (x3_1 : Int) := zd
          have q129 : x3_1 < (l0_1.length : Int) := zd
          obtain ⟨ad129, e129, hx129_0⟩ := Kd.at_int HR0_1.out x3_1 p129 q129
          have hw129_0 := hx129_0
          cases e129
          replace hx129_0 := (HB.out.cell (World.block_lt_of_cell? w _ hx129_0)).trans hx129_0
          replace p129 := eq_true p129
          replace q129 := eq_true q129
          refine start_ (n := 34) (S := fun w' => w'.cell? ⟨gb122, 0, none⟩ = some (.slice (some ad123) l0_0.length c0_0) ∧ w'.cell? ⟨gb122, 1, none⟩ = some (.slice (some ad129) l0_1.length c0_1) ∧ w'.cell? (ad123.add (x3_1).toNat) = some (.int .i64 (rd l0_0 x3_1)) ∧ w'.cell? (ad129.add (x3_1).toNat) = some (.int .i64 (rd l0_1 x3_1))) (ds := []) #[false, false, false, false, false, false, false, false, false, false, false, false, false, false, false, false, false, false, false, false, false, false, false, false, false, false, false, false, false, false, false, false, false, false] (by kernel_rfl) rfl rfl ⟨zcl BK122.out 0, zcl BK122.out 1, ((HB.out.cell (World.block_lt_of_cell? w _ hw123_0)).trans hw123_0), ((HB.out.cell (World.block_lt_of_cell? w _ hw129_0)).trans hw129_0)⟩ (fun hHeld => ?_); refine with_tabW spec_IsValidSubstitution.tab6 spec_IsValidSubstitution.bits6 (fun HT_ HW_ => ?_)
          generalize wr.drew = w27 at BK122 HB hx123_0 hx129_0 hHeld ⊢
          refine zP 0 (some 18) (zA 34 1) (any_of HT_.out (by kernel_rfl)) ?_
          refine zP 2 (some 20) (zA 34 5) (any_of HT_.out (by kernel_rfl)) ?_
          refine take_ (i := 1) (N := some 19) (v := ?_) (a' := ?_) (zA 34 7) rfl rfl (take_ofW HT_.out HW_.out (by kernel_rfl)) (fun _ _ _ h => h) (Or.inl ⟨by rfl, ?_⟩) hHeld ?_ ?_
          rotate_left
          ·rintro w' ⟨s0, s1, s2, s3⟩
           go_simp
           with_reducible rfl
          rotate_left
          ·simp only [Act.put, List.setIfInBounds_toArray, List.set_cons_zero, List.set_cons_succ, i64_w, i32_w]
           rfl
          refine zP 3 (some 21) (zA 34 15) (any_of HT_.out (by kernel_rfl)) ?_
          refine take_ (i := 4) (N := some 22) (v := ?_) (a' := ?_) (zA 34 31) rfl rfl (take_ofW HT_.out HW_.out (by kernel_rfl)) (fun _ _ _ h => h) (Or.inl ⟨by rfl, ?_⟩) hHeld ?_ ?_
          rotate_left
          ·rintro w' ⟨s0, s1, s2, s3⟩
           go_simp
           with_reducible rfl
          rotate_left
          ·simp only [Act.put, List.setIfInBounds_toArray, List.set_cons_zero, List.set_cons_succ, i64_w, i32_w]
           rfl
          refine one_ (i := 5) (N := some 23) (zA 34 63) rfl rfl (one_of HT_.out (by kernel_rfl)) (by decide) (fun K hK => ?_)
          refine goes_ Try.func67 (by kernel_rfl) rfl #[.int .i64 (rd l0_0 x3_1), .int .i64 0, .int .i64 39] (by rfl) rfl rfl (by (try simp only [List.map_toArray, List.map_cons, List.map_nil]); first | done | rfl | (simp only [List.length_drop, List.length_take]; rfl)) ?_
          with_reducible refine (spec_l1In.calls (rd l0_0 x3_1) 0 39 true _ A7.out).mono ?_
          rintro e w' ⟨rfl, ⟨nd, rfl⟩⟩
          refine ⟨_, rfl, ?_⟩
          refine hK.out _ _ ⟨zcl BK122.out 0, zcl BK122.out 1, ((HB.out.cell (World.block_lt_of_cell? w _ hw123_0)).trans hw123_0), ((HB.out.cell (World.block_lt_of_cell? w _ hw129_0)).trans hw129_0)⟩ (fun hHeld => ?_)
          clear hK K
          refine zO (some 23) ?_
          refine zP 6 (some 24) (zA 34 127) (any_of HT_.out (by kernel_rfl)) ?_
          refine zP 7 (some 25) (zA 34 255) (any_of HT_.out (by kernel_rfl)) ?_
          refine zP 8 (some 26) (zA 34 511) (any_of HT_.out (by kernel_rfl)) ?_
          refine zP 9 (some 27) (zA 34 1023) (any_of HT_.out (by kernel_rfl)) ?_
          refine zP 10 (some 28) (zA 34 2047) (any_of HT_.out (by kernel_rfl)) ?_
          refine pure_ (i := 11) (N := some 29) (v := undef) (a' := ?_) (zA 34 4095) rfl rfl (any_of HT_.out (by kernel_rfl)) (fun _ _ _ h => h) (Or.inr ⟨by rfl, rfl⟩) ?_ ?_
          rotate_left
          ·simp only [Act.put, List.setIfInBounds_toArray, List.set_cons_zero, List.set_cons_succ, i64_w, i32_w]
           rfl
          refine pure_ (i := 12) (N := some 30) (v := undef) (a' := ?_) (zA 34 8191) rfl rfl (any_of HT_.out (by kernel_rfl)) (fun _ _ _ h => h) (Or.inr ⟨by rfl, rfl⟩) ?_ ?_
          rotate_left
          ·simp only [Act.put, List.setIfInBounds_toArray, List.set_cons_zero, List.set_cons_succ, i64_w, i32_w]
           rfl
          refine pure_ (i := 13) (N := some 31) (v := undef) (a' := ?_) (zA 34 16383) rfl rfl (any_of HT_.out (by kernel_rfl)) (fun _ _ _ h => h) (Or.inr ⟨by rfl, rfl⟩) ?_ ?_
          rotate_left
          ·simp only [Act.put, List.setIfInBounds_toArray, List.set_cons_zero, List.set_cons_succ, i64_w, i32_w]
           rfl
          refine pure_ (i := 14) (N := some 32) (v := undef) (a' := ?_) (zA 34 32767) rfl rfl (any_of HT_.out (by kernel_rfl)) (fun _ _ _ h => h) (Or.inr ⟨by rfl, rfl⟩) ?_ ?_
          rotate_left
          ·simp only [Act.put, List.setIfInBounds_toArray, List.set_cons_zero, List.set_cons_succ, i64_w, i32_w]
           rfl
          refine pure_ (i := 15) (N := some 33) (v := undef) (a' := ?_) (zA 34 65535) rfl rfl (any_of HT_.out (by kernel_rfl)) (fun _ _ _ h => h) (Or.inr ⟨by rfl, rfl⟩) ?_ ?_
          rotate_left
          ·simp only [Act.put, List.setIfInBounds_toArray, List.set_cons_zero, List.set_cons_succ, i64_w, i32_w]
           rfl
          refine pure_ (i := 16) (N := some 34) (v := undef) (a' := ?_) (zA 34 131071) rfl rfl (any_of HT_.out (by kernel_rfl)) (fun _ _ _ h => h) (Or.inr ⟨by rfl, rfl⟩) ?_ ?_
          rotate_left
          ·simp only [Act.put, List.setIfInBounds_toArray, List.set_cons_zero, List.set_cons_succ, i64_w, i32_w]
           rfl
          refine pure_ (i := 17) (N := some 35) (v := undef) (a' := ?_) (zA 34 262143) rfl rfl (any_of HT_.out (by kernel_rfl)) (fun _ _ _ h => h) (Or.inr ⟨by rfl, rfl⟩) ?_ ?_
          rotate_left
          ·simp only [Act.put, List.setIfInBounds_toArray, List.set_cons_zero, List.set_cons_succ, i64_w, i32_w]
           rfl
          refine pure_ (i := 18) (N := some 36) (v := undef) (a' := ?_) (zA 34 524287) rfl rfl (any_of HT_.out (by kernel_rfl)) (fun _ _ _ h => h) (Or.inr ⟨by rfl, rfl⟩) ?_ ?_
          rotate_left
          ·simp only [Act.put, List.setIfInBounds_toArray, List.set_cons_zero, List.set_cons_succ, i64_w, i32_w]
           rfl
          refine pure_ (i := 19) (N := some 37) (v := undef) (a' := ?_) (zA 34 1048575) rfl rfl (any_of HT_.out (by kernel_rfl)) (fun _ _ _ h => h) (Or.inr ⟨by rfl, rfl⟩) ?_ ?_
          rotate_left
          ·simp only [Act.put, List.setIfInBounds_toArray, List.set_cons_zero, List.set_cons_succ, i64_w, i32_w]
           rfl
          refine pure_ (i := 20) (N := some 38) (v := undef) (a' := ?_) (zA 34 2097151) rfl rfl (any_of HT_.out (by kernel_rfl)) (fun _ _ _ h => h) (Or.inr ⟨by rfl, rfl⟩) ?_ ?_
          rotate_left
          ·simp only [Act.put, List.setIfInBounds_toArray, List.set_cons_zero, List.set_cons_succ, i64_w, i32_w]
           rfl
          refine pure_ (i := 21) (N := some 39) (v := undef) (a' := ?_) (zA 34 4194303) rfl rfl (any_of HT_.out (by kernel_rfl)) (fun _ _ _ h => h) (Or.inr ⟨by rfl, rfl⟩) ?_ ?_
          rotate_left
          ·simp only [Act.put, List.setIfInBounds_toArray, List.set_cons_zero, List.set_cons_succ, i64_w, i32_w]
           rfl
          refine pure_ (i := 22) (N := some 40) (v := undef) (a' := ?_) (zA 34 8388607) rfl rfl (any_of HT_.out (by kernel_rfl)) (fun _ _ _ h => h) (Or.inr ⟨by rfl, rfl⟩) ?_ ?_
          rotate_left
          ·simp only [Act.put, List.setIfInBounds_toArray, List.set_cons_zero, List.set_cons_succ, i64_w, i32_w]
           rfl
          refine zP 23 (some 41) (zA 34 16777215) (any_of HT_.out (by kernel_rfl)) ?_
          refine zP 24 (some 42) (zA 34 33554431) (any_of HT_.out (by kernel_rfl)) ?_
          refine zP 25 (some 43) (zA 34 67108863) (any_of HT_.out (by kernel_rfl)) ?_
          refine zP 26 (some 44) (zA 34 134217727) (any_of HT_.out (by kernel_rfl)) ?_
          refine zP 28 (some 46) (zA 34 402653183) (any_of HT_.out (by kernel_rfl)) ?_
          refine take_ (i := 27) (N := some 45) (v := ?_) (a' := ?_) (zA 34 536870911) rfl rfl (take_ofW HT_.out HW_.out (by kernel_rfl)) (fun _ _ _ h => h) (Or.inl ⟨by rfl, ?_⟩) hHeld ?_ ?_
          rotate_left
          ·rintro w' ⟨s0, s1, s2, s3⟩
           go_simp
           with_reducible rfl
          rotate_left
          ·simp only [Act.put, List.setIfInBounds_toArray, List.set_cons_zero, List.set_cons_succ, i64_w, i32_w]
           rfl
          refine zP 29 (some 47) (zA 34 1073741823) (any_of HT_.out (by kernel_rfl)) ?_
          refine take_ (i := 30) (N := some 48) (v := ?_) (a' := ?_) (zA 34 2147483647) rfl rfl (take_ofW HT_.out HW_.out (by kernel_rfl)) (fun _ _ _ h => h) (Or.inl ⟨by rfl, ?_⟩) hHeld ?_ ?_
          rotate_left
          ·rintro w' ⟨s0, s1, s2, s3⟩
           go_simp
           with_reducible rfl
          rotate_left
          ·simp only [Act.put, List.setIfInBounds_toArray, List.set_cons_zero, List.set_cons_succ, i64_w, i32_w]
           rfl
          refine one_ (i := 31) (N := some 49) (zA 34 4294967295) rfl rfl (one_of HT_.out (by kernel_rfl)) (by decide) (fun K hK => ?_)
          refine goes_ Try.func69 (by kernel_rfl) rfl #[.int .i64 (rd l0_1 x3_1)] (by rfl) rfl rfl (by (try simp only [List.map_toArray, List.map_cons, List.map_nil]); first | done | rfl | (simp only [List.length_drop, List.length_take]; rfl)) ?_
          with_reducible refine (spec_IsValidValue.calls (rd l0_1 x3_1) true _ A24.out).mono ?_
          rintro e w' ⟨rfl, ⟨nd, rfl⟩⟩
          refine ⟨_, rfl, ?_⟩
          refine hK.out _ _ ⟨zcl BK122.out 0, zcl BK122.out 1, ((HB.out.cell (World.block_lt_of_cell? w _ hw123_0)).trans hw123_0), ((HB.out.cell (World.block_lt_of_cell? w _ hw129_0)).trans hw129_0)⟩ (fun hHeld => ?_)
          clear hK K
          refine zO (some 49) ?_
          refine zP 32 (some 50) (zA 34 8589934591) (any_of HT_.out (by kernel_rfl)) ?_
          refine zP 33 (some 51) (zA 34 17179869183) (any_of HT_.out (by kernel_rfl)) ?_
          refine done_ (done_of HT_.out (by kernel_rfl)) ?_
          try go_wp2
          go_roundg k1
          case measure => have := HK1.out; omega
          case rel => exact ⟨(wrap64 (x3_1 + 1)), (by first | rfl | (simp; done) | (simp [*]; done)), H', ⟨by have := HK1.out; omega⟩, ⟨zb BK122.out⟩, ⟨zl⟩⟩
         ·replace c25 := Bool.eq_false_iff.mpr c25
          subst c25
          have H1 : (some false) = some r := by first | with_reducible rfl | (rw [if_neg (show ¬ (false = true) by decide)] at H; exact H)
          clear H
          have H := H1
          clear H1
          obtain rfl := Option.some.inj H
          have hcz28_0 : wr.cell? ⟨gb122, 0, none⟩ = some (.slice A0_0 l0_0.length c0_0) := zcl BK122.out 0
          have hcz28_1 : wr.cell? ⟨gb122, 1, none⟩ = some (.slice A0_1 l0_1.length c0_1) := zcl BK122.out 1
          have hfz28_0 := blk_frozen BK122.out 0
          have hfz28_1 := blk_frozen BK122.out 1
          try go_wp2
          replace BK122 := zm (blk_drew BK122.out)
          replace HB := zm (below_drew1 HB.out)
          have p123 : 0 ≤ (x3_1 : Int) := zd
          have q123 : x3_1 < (l0_0.length : Int) := zd
          obtain ⟨ad123, e123, hx123_0⟩ := Kd.at_int HR0_0.out x3_1 p123 q123
          have hw123_0 := hx123_0
          cases e123
          replace hx123_0 := (HB.out.cell (World.block_lt_of_cell? w _ hx123_0)).trans hx123_0
          replace p123 := eq_true p123
          replace q123 := eq_true q123
          have p129 : 0 ≤ (x3_1 : Int) := zd
          have q129 : x3_1 < (l0_1.length : Int) := zd
          obtain ⟨ad129, e129, hx129_0⟩ := Kd.at_int HR0_1.out x3_1 p129 q129
          have hw129_0 := hx129_0
          cases e129
          replace hx129_0 := (HB.out.cell (World.block_lt_of_cell? w _ hx129_0)).trans hx129_0
          replace p129 := eq_true p129
          replace q129 := eq_true q129
          refine start_ (n := 34) (S := fun w' => w'.cell? ⟨gb122, 0, none⟩ = some (.slice (some ad123) l0_0.length c0_0) ∧ w'.cell? ⟨gb122, 1, none⟩ = some (.slice (some ad129) l0_1.length c0_1) ∧ w'.cell? (ad123.add (x3_1).toNat) = some (.int .i64 (rd l0_0 x3_1)) ∧ w'.cell? (ad129.add (x3_1).toNat) = some (.int .i64 (rd l0_1 x3_1))) (ds := []) #[false, false, false, false, false, false, false, false, false, false, false, false, false, false, false, false, false, false, false, false, false, false, false, false, false, false, false, false, false, false, false, false, false, false] (by kernel_rfl) rfl rfl ⟨zcl BK122.out 0, zcl BK122.out 1, ((HB.out.cell (World.block_lt_of_cell? w _ hw123_0)).trans hw123_0), ((HB.out.cell (World.block_lt_of_cell? w _ hw129_0)).trans hw129_0)⟩ (fun hHeld => ?_); refine with_tabW spec_IsValidSubstitution.tab6 spec_IsValidSubstitution.bits6 (fun HT_ HW_ => ?_)
          generalize wr.drew = w29 at BK122 HB hx123_0 hx129_0 hHeld ⊢
          refine zP 0 (some 18) (zA 34 1) (any_of HT_.out (by kernel_rfl)) ?_
          refine zP 2 (some 20) (zA 34 5) (any_of HT_.out (by kernel_rfl)) ?_
          refine take_ (i := 1) (N := some 19) (v := ?_) (a' := ?_) (zA 34 7) rfl rfl (take_ofW HT_.out HW_.out (by kernel_rfl)) (fun _ _ _ h => h) (Or.inl ⟨by rfl, ?_⟩) hHeld ?_ ?_
          rotate_left
          ·rintro w' ⟨s0, s1, s2, s3⟩
           go_simp
           with_reducible rfl
          rotate_left
          ·simp only [Act.put, List.setIfInBounds_toArray, List.set_cons_zero, List.set_cons_succ, i64_w, i32_w]
           rfl
          refine zP 3 (some 21) (zA 34 15) (any_of HT_.out (by kernel_rfl)) ?_
          refine take_ (i := 4) (N := some 22) (v := ?_) (a' := ?_) (zA 34 31) rfl rfl (take_ofW HT_.out HW_.out (by kernel_rfl)) (fun _ _ _ h => h) (Or.inl ⟨by rfl, ?_⟩) hHeld ?_ ?_
          rotate_left
          ·rintro w' ⟨s0, s1, s2, s3⟩
           go_simp
           with_reducible rfl
          rotate_left
          ·simp only [Act.put, List.setIfInBounds_toArray, List.set_cons_zero, List.set_cons_succ, i64_w, i32_w]
           rfl
          refine one_ (i := 5) (N := some 23) (zA 34 63) rfl rfl (one_of HT_.out (by kernel_rfl)) (by decide) (fun K hK => ?_)
          refine goes_ Try.func67 (by kernel_rfl) rfl #[.int .i64 (rd l0_0 x3_1), .int .i64 0, .int .i64 39] (by rfl) rfl rfl (by (try simp only [List.map_toArray, List.map_cons, List.map_nil]); first | done | rfl | (simp only [List.length_drop, List.length_take]; rfl)) ?_
          with_reducible refine (spec_l1In.calls (rd l0_0 x3_1) 0 39 true _ A7.out).mono ?_
          rintro e w' ⟨rfl, ⟨nd, rfl⟩⟩
          refine ⟨_, rfl, ?_⟩
          refine hK.out _ _ ⟨zcl BK122.out 0, zcl BK122.out 1, ((HB.out.cell (World.block_lt_of_cell? w _ hw123_0)).trans hw123_0), ((HB.out.cell (World.block_lt_of_cell? w _ hw129_0)).trans hw129_0)⟩ (fun hHeld => ?_)
          clear hK K
          refine zO (some 23) ?_
          refine zP 6 (some 24) (zA 34 127) (any_of HT_.out (by kernel_rfl)) ?_
          refine zP 7 (some 25) (zA 34 255) (any_of HT_.out (by kernel_rfl)) ?_
          refine zP 8 (some 26) (zA 34 511) (any_of HT_.out (by kernel_rfl)) ?_
          refine zP 9 (some 27) (zA 34 1023) (any_of HT_.out (by kernel_rfl)) ?_
          refine zP 10 (some 28) (zA 34 2047) (any_of HT_.out (by kernel_rfl)) ?_
          refine pure_ (i := 11) (N := some 29) (v := undef) (a' := ?_) (zA 34 4095) rfl rfl (any_of HT_.out (by kernel_rfl)) (fun _ _ _ h => h) (Or.inr ⟨by rfl, rfl⟩) ?_ ?_
          rotate_left
          ·simp only [Act.put, List.setIfInBounds_toArray, List.set_cons_zero, List.set_cons_succ, i64_w, i32_w]
           rfl
          refine pure_ (i := 12) (N := some 30) (v := undef) (a' := ?_) (zA 34 8191) rfl rfl (any_of HT_.out (by kernel_rfl)) (fun _ _ _ h => h) (Or.inr ⟨by rfl, rfl⟩) ?_ ?_
          rotate_left
          ·simp only [Act.put, List.setIfInBounds_toArray, List.set_cons_zero, List.set_cons_succ, i64_w, i32_w]
           rfl
          refine pure_ (i := 13) (N := some 31) (v := undef) (a' := ?_) (zA 34 16383) rfl rfl (any_of HT_.out (by kernel_rfl)) (fun _ _ _ h => h) (Or.inr ⟨by rfl, rfl⟩) ?_ ?_
          rotate_left
          ·simp only [Act.put, List.setIfInBounds_toArray, List.set_cons_zero, List.set_cons_succ, i64_w, i32_w]
           rfl
          refine pure_ (i := 14) (N := some 32) (v := undef) (a' := ?_) (zA 34 32767) rfl rfl (any_of HT_.out (by kernel_rfl)) (fun _ _ _ h => h) (Or.inr ⟨by rfl, rfl⟩) ?_ ?_
          rotate_left
          ·simp only [Act.put, List.setIfInBounds_toArray, List.set_cons_zero, List.set_cons_succ, i64_w, i32_w]
           rfl
          refine pure_ (i := 15) (N := some 33) (v := undef) (a' := ?_) (zA 34 65535) rfl rfl (any_of HT_.out (by kernel_rfl)) (fun _ _ _ h => h) (Or.inr ⟨by rfl, rfl⟩) ?_ ?_
          rotate_left
          ·simp only [Act.put, List.setIfInBounds_toArray, List.set_cons_zero, List.set_cons_succ, i64_w, i32_w]
           rfl
          refine pure_ (i := 16) (N := some 34) (v := undef) (a' := ?_) (zA 34 131071) rfl rfl (any_of HT_.out (by kernel_rfl)) (fun _ _ _ h => h) (Or.inr ⟨by rfl, rfl⟩) ?_ ?_
          rotate_left
          ·simp only [Act.put, List.setIfInBounds_toArray, List.set_cons_zero, List.set_cons_succ, i64_w, i32_w]
           rfl
          refine pure_ (i := 17) (N := some 35) (v := undef) (a' := ?_) (zA 34 262143) rfl rfl (any_of HT_.out (by kernel_rfl)) (fun _ _ _ h => h) (Or.inr ⟨by rfl, rfl⟩) ?_ ?_
          rotate_left
          ·simp only [Act.put, List.setIfInBounds_toArray, List.set_cons_zero, List.set_cons_succ, i64_w, i32_w]
           rfl
          refine pure_ (i := 18) (N := some 36) (v := undef) (a' := ?_) (zA 34 524287) rfl rfl (any_of HT_.out (by kernel_rfl)) (fun _ _ _ h => h) (Or.inr ⟨by rfl, rfl⟩) ?_ ?_
          rotate_left
          ·simp only [Act.put, List.setIfInBounds_toArray, List.set_cons_zero, List.set_cons_succ, i64_w, i32_w]
           rfl
          refine pure_ (i := 19) (N := some 37) (v := undef) (a' := ?_) (zA 34 1048575) rfl rfl (any_of HT_.out (by kernel_rfl)) (fun _ _ _ h => h) (Or.inr ⟨by rfl, rfl⟩) ?_ ?_
          rotate_left
          ·simp only [Act.put, List.setIfInBounds_toArray, List.set_cons_zero, List.set_cons_succ, i64_w, i32_w]
           rfl
          refine pure_ (i := 20) (N := some 38) (v := undef) (a' := ?_) (zA 34 2097151) rfl rfl (any_of HT_.out (by kernel_rfl)) (fun _ _ _ h => h) (Or.inr ⟨by rfl, rfl⟩) ?_ ?_
          rotate_left
          ·simp only [Act.put, List.setIfInBounds_toArray, List.set_cons_zero, List.set_cons_succ, i64_w, i32_w]
           rfl
          refine pure_ (i := 21) (N := some 39) (v := undef) (a' := ?_) (zA 34 4194303) rfl rfl (any_of HT_.out (by kernel_rfl)) (fun _ _ _ h => h) (Or.inr ⟨by rfl, rfl⟩) ?_ ?_
          rotate_left
          ·simp only [Act.put, List.setIfInBounds_toArray, List.set_cons_zero, List.set_cons_succ, i64_w, i32_w]
           rfl
          refine pure_ (i := 22) (N := some 40) (v := undef) (a' := ?_) (zA 34 8388607) rfl rfl (any_of HT_.out (by kernel_rfl)) (fun _ _ _ h => h) (Or.inr ⟨by rfl, rfl⟩) ?_ ?_
          rotate_left
          ·simp only [Act.put, List.setIfInBounds_toArray, List.set_cons_zero, List.set_cons_succ, i64_w, i32_w]
           rfl
          refine zP 23 (some 41) (zA 34 16777215) (any_of HT_.out (by kernel_rfl)) ?_
          refine zP 24 (some 42) (zA 34 33554431) (any_of HT_.out (by kernel_rfl)) ?_
          refine zP 25 (some 43) (zA 34 67108863) (any_of HT_.out (by kernel_rfl)) ?_
          refine zP 26 (some 44) (zA 34 134217727) (any_of HT_.out (by kernel_rfl)) ?_
          refine zP 28 (some 46) (zA 34 402653183) (any_of HT_.out (by kernel_rfl)) ?_
          refine take_ (i := 27) (N := some 45) (v := ?_) (a' := ?_) (zA 34 536870911) rfl rfl (take_ofW HT_.out HW_.out (by kernel_rfl)) (fun _ _ _ h => h) (Or.inl ⟨by rfl, ?_⟩) hHeld ?_ ?_
          rotate_left
          ·rintro w' ⟨s0, s1, s2, s3⟩
           go_simp
           with_reducible rfl
          rotate_left
          ·simp only [Act.put, List.setIfInBounds_toArray, List.set_cons_zero, List.set_cons_succ, i64_w, i32_w]
           rfl
          refine zP 29 (some 47) (zA 34 1073741823) (any_of HT_.out (by kernel_rfl)) ?_
          refine take_ (i := 30) (N := some 48) (v := ?_) (a' := ?_) (zA 34 2147483647) rfl rfl (take_ofW HT_.out HW_.out (by kernel_rfl)) (fun _ _ _ h => h) (Or.inl ⟨by rfl, ?_⟩) hHeld ?_ ?_
          rotate_left
          ·rintro w' ⟨s0, s1, s2, s3⟩
           go_simp
           with_reducible rfl
          rotate_left
          ·simp only [Act.put, List.setIfInBounds_toArray, List.set_cons_zero, List.set_cons_succ, i64_w, i32_w]
           rfl
          refine one_ (i := 31) (N := some 49) (zA 34 4294967295) rfl rfl (one_of HT_.out (by kernel_rfl)) (by decide) (fun K hK => ?_)
          refine goes_ Try.func69 (by kernel_rfl) rfl #[.int .i64 (rd l0_1 x3_1)] (by rfl) rfl rfl (by (try simp only [List.map_toArray, List.map_cons, List.map_nil]); first | done | rfl | (simp only [List.length_drop, List.length_take]; rfl)) ?_
          with_reducible refine (spec_IsValidValue.calls (rd l0_1 x3_1) false _ A24.out).mono ?_
          rintro e w' ⟨rfl, ⟨nd, rfl⟩⟩
          refine ⟨_, rfl, ?_⟩
          refine hK.out _ _ ⟨zcl BK122.out 0, zcl BK122.out 1, ((HB.out.cell (World.block_lt_of_cell? w _ hw123_0)).trans hw123_0), ((HB.out.cell (World.block_lt_of_cell? w _ hw129_0)).trans hw129_0)⟩ (fun hHeld => ?_)
          clear hK K
          refine zO (some 49) ?_
          refine zP 32 (some 50) (zA 34 8589934591) (any_of HT_.out (by kernel_rfl)) ?_
          refine zP 33 (some 51) (zA 34 17179869183) (any_of HT_.out (by kernel_rfl)) ?_
          refine done_ (done_of HT_.out (by kernel_rfl)) ?_
          try go_wp2
          go_ret
          exact ⟨by first | rfl | (simp [errW_none, errW_some] <;> rfl) | (simp [*, errW_none, errW_some] <;> rfl), zl⟩
        ·rw [if_neg c23] at H
         exact absurd H (by simp)
      ·replace c8 := Bool.eq_false_iff.mpr c8
       subst c8
       have H1 : (some false) = some r := by first | with_reducible rfl | (rw [if_neg (show ¬ (false = true) by decide)] at H; exact H)
       clear H
       have H := H1
       clear H1
       obtain rfl := Option.some.inj H
       have hcz30_0 : wr.cell? ⟨gb122, 0, none⟩ = some (.slice A0_0 l0_0.length c0_0) := zcl BK122.out 0
       have hcz30_1 : wr.cell? ⟨gb122, 1, none⟩ = some (.slice A0_1 l0_1.length c0_1) := zcl BK122.out 1
       have hfz30_0 := blk_frozen BK122.out 0
       have hfz30_1 := blk_frozen BK122.out 1
       try go_wp2
       replace BK122 := zm (blk_drew BK122.out)
       replace HB := zm (below_drew1 HB.out)
       have p123 : 0 ≤ (x3_1 : Int) := zd
       have q123 : x3_1 < (l0_0.length : Int) := zd
       obtain ⟨ad123, e123, hx123_0⟩ := Kd.at_int HR0_0.out x3_1 p123 q123
       have hw123_0 := hx123_0
       cases e123
       replace hx123_0 := (HB.out.cell (World.block_lt_of_cell? w _ hx123_0)).trans hx123_0
       replace p123 := eq_true p123
       replace q123 := eq_true q123
       refine start_ (n := 34) (S := fun w' => w'.cell? ⟨gb122, 0, none⟩ = some (.slice (some ad123) l0_0.length c0_0) ∧ w'.cell? ⟨gb122, 1, none⟩ = some (.slice A0_1 l0_1.length c0_1) ∧ w'.cell? (ad123.add (x3_1).toNat) = some (.int .i64 (rd l0_0 x3_1))) (ds := []) #[false, false, false, false, false, false, false, false, false, false, false, false, false, false, false, false, false, false, false, false, false, false, false, false, false, false, false, false, false, false, false, false, false, false] (by kernel_rfl) rfl rfl ⟨zcl BK122.out 0, zcl BK122.out 1, ((HB.out.cell (World.block_lt_of_cell? w _ hw123_0)).trans hw123_0)⟩ (fun hHeld => ?_); refine with_tabW spec_IsValidSubstitution.tab6 spec_IsValidSubstitution.bits6 (fun HT_ HW_ => ?_)
       generalize wr.drew = w31 at BK122 HB hx123_0 hHeld ⊢
       refine zP 0 (some 18) (zA 34 1) (any_of HT_.out (by kernel_rfl)) ?_
       refine zP 2 (some 20) (zA 34 5) (any_of HT_.out (by kernel_rfl)) ?_
       refine take_ (i := 1) (N := some 19) (v := ?_) (a' := ?_) (zA 34 7) rfl rfl (take_ofW HT_.out HW_.out (by kernel_rfl)) (fun _ _ _ h => h) (Or.inl ⟨by rfl, ?_⟩) hHeld ?_ ?_
       rotate_left
       ·rintro w' ⟨s0, s1, s2⟩
        go_simp
        with_reducible rfl
       rotate_left
       ·simp only [Act.put, List.setIfInBounds_toArray, List.set_cons_zero, List.set_cons_succ, i64_w, i32_w]
        rfl
       refine zP 3 (some 21) (zA 34 15) (any_of HT_.out (by kernel_rfl)) ?_
       refine take_ (i := 4) (N := some 22) (v := ?_) (a' := ?_) (zA 34 31) rfl rfl (take_ofW HT_.out HW_.out (by kernel_rfl)) (fun _ _ _ h => h) (Or.inl ⟨by rfl, ?_⟩) hHeld ?_ ?_
       rotate_left
       ·rintro w' ⟨s0, s1, s2⟩
        go_simp
        with_reducible rfl
       rotate_left
       ·simp only [Act.put, List.setIfInBounds_toArray, List.set_cons_zero, List.set_cons_succ, i64_w, i32_w]
        rfl
       refine one_ (i := 5) (N := some 23) (zA 34 63) rfl rfl (one_of HT_.out (by kernel_rfl)) (by decide) (fun K hK => ?_)
       refine goes_ Try.func67 (by kernel_rfl) rfl #[.int .i64 (rd l0_0 x3_1), .int .i64 0, .int .i64 39] (by rfl) rfl rfl (by (try simp only [List.map_toArray, List.map_cons, List.map_nil]); first | done | rfl | (simp only [List.length_drop, List.length_take]; rfl)) ?_
       with_reducible refine (spec_l1In.calls (rd l0_0 x3_1) 0 39 false _ A7.out).mono ?_
       rintro e w' ⟨rfl, ⟨nd, rfl⟩⟩
       refine ⟨_, rfl, ?_⟩
       refine hK.out _ _ ⟨zcl BK122.out 0, zcl BK122.out 1, ((HB.out.cell (World.block_lt_of_cell? w _ hw123_0)).trans hw123_0)⟩ (fun hHeld => ?_)
       clear hK K
       refine zO (some 23) ?_
       refine zP 6 (some 24) (zA 34 127) (any_of HT_.out (by kernel_rfl)) ?_
       refine zP 7 (some 25) (zA 34 255) (any_of HT_.out (by kernel_rfl)) ?_
       refine pure_ (i := 8) (N := some 26) (v := undef) (a' := ?_) (zA 34 511) rfl rfl (any_of HT_.out (by kernel_rfl)) (fun _ _ _ h => h) (Or.inr ⟨by rfl, rfl⟩) ?_ ?_
       rotate_left
       ·simp only [Act.put, List.setIfInBounds_toArray, List.set_cons_zero, List.set_cons_succ, i64_w, i32_w]
        rfl
       refine pure_ (i := 9) (N := some 27) (v := undef) (a' := ?_) (zA 34 1023) rfl rfl (any_of HT_.out (by kernel_rfl)) (fun _ _ _ h => h) (Or.inr ⟨by rfl, rfl⟩) ?_ ?_
       rotate_left
       ·simp only [Act.put, List.setIfInBounds_toArray, List.set_cons_zero, List.set_cons_succ, i64_w, i32_w]
        rfl
       refine pure_ (i := 10) (N := some 28) (v := undef) (a' := ?_) (zA 34 2047) rfl rfl (any_of HT_.out (by kernel_rfl)) (fun _ _ _ h => h) (Or.inr ⟨by rfl, rfl⟩) ?_ ?_
       rotate_left
       ·simp only [Act.put, List.setIfInBounds_toArray, List.set_cons_zero, List.set_cons_succ, i64_w, i32_w]
        rfl
       refine pure_ (i := 11) (N := some 29) (v := undef) (a' := ?_) (zA 34 4095) rfl rfl (any_of HT_.out (by kernel_rfl)) (fun _ _ _ h => h) (Or.inr ⟨by rfl, rfl⟩) ?_ ?_
       rotate_left
       ·simp only [Act.put, List.setIfInBounds_toArray, List.set_cons_zero, List.set_cons_succ, i64_w, i32_w]
        rfl
       refine pure_ (i := 12) (N := some 30) (v := undef) (a' := ?_) (zA 34 8191) rfl rfl (any_of HT_.out (by kernel_rfl)) (fun _ _ _ h => h) (Or.inr ⟨by rfl, rfl⟩) ?_ ?_
       rotate_left
       ·simp only [Act.put, List.setIfInBounds_toArray, List.set_cons_zero, List.set_cons_succ, i64_w, i32_w]
        rfl
       refine pure_ (i := 13) (N := some 31) (v := undef) (a' := ?_) (zA 34 16383) rfl rfl (any_of HT_.out (by kernel_rfl)) (fun _ _ _ h => h) (Or.inr ⟨by rfl, rfl⟩) ?_ ?_
       rotate_left
       ·simp only [Act.put, List.setIfInBounds_toArray, List.set_cons_zero, List.set_cons_succ, i64_w, i32_w]
        rfl
       refine pure_ (i := 14) (N := some 32) (v := undef) (a' := ?_) (zA 34 32767) rfl rfl (any_of HT_.out (by kernel_rfl)) (fun _ _ _ h => h) (Or.inr ⟨by rfl, rfl⟩) ?_ ?_
       rotate_left
       ·simp only [Act.put, List.setIfInBounds_toArray, List.set_cons_zero, List.set_cons_succ, i64_w, i32_w]
        rfl
       refine pure_ (i := 15) (N := some 33) (v := undef) (a' := ?_) (zA 34 65535) rfl rfl (any_of HT_.out (by kernel_rfl)) (fun _ _ _ h => h) (Or.inr ⟨by rfl, rfl⟩) ?_ ?_
       rotate_left
       ·simp only [Act.put, List.setIfInBounds_toArray, List.set_cons_zero, List.set_cons_succ, i64_w, i32_w]
        rfl
       refine pure_ (i := 16) (N := some 34) (v := undef) (a' := ?_) (zA 34 131071) rfl rfl (any_of HT_.out (by kernel_rfl)) (fun _ _ _ h => h) (Or.inr ⟨by rfl, rfl⟩) ?_ ?_
       rotate_left
       ·simp only [Act.put, List.setIfInBounds_toArray, List.set_cons_zero, List.set_cons_succ, i64_w, i32_w]
        rfl
       refine pure_ (i := 17) (N := some 35) (v := undef) (a' := ?_) (zA 34 262143) rfl rfl (any_of HT_.out (by kernel_rfl)) (fun _ _ _ h => h) (Or.inr ⟨by rfl, rfl⟩) ?_ ?_
       rotate_left
       ·simp only [Act.put, List.setIfInBounds_toArray, List.set_cons_zero, List.set_cons_succ, i64_w, i32_w]
        rfl
       refine pure_ (i := 18) (N := some 36) (v := undef) (a' := ?_) (zA 34 524287) rfl rfl (any_of HT_.out (by kernel_rfl)) (fun _ _ _ h => h) (Or.inr ⟨by rfl, rfl⟩) ?_ ?_
       rotate_left
       ·simp only [Act.put, List.setIfInBounds_toArray, List.set_cons_zero, List.set_cons_succ, i64_w, i32_w]
        rfl
       refine pure_ (i := 19) (N := some 37) (v := undef) (a' := ?_) (zA 34 1048575) rfl rfl (any_of HT_.out (by kernel_rfl)) (fun _ _ _ h => h) (Or.inr ⟨by rfl, rfl⟩) ?_ ?_
       rotate_left
       ·simp only [Act.put, List.setIfInBounds_toArray, List.set_cons_zero, List.set_cons_succ, i64_w, i32_w]
        rfl
       refine pure_ (i := 20) (N := some 38) (v := undef) (a' := ?_) (zA 34 2097151) rfl rfl (any_of HT_.out (by kernel_rfl)) (fun _ _ _ h => h) (Or.inr ⟨by rfl, rfl⟩) ?_ ?_
       rotate_left
       ·simp only [Act.put, List.setIfInBounds_toArray, List.set_cons_zero, List.set_cons_succ, i64_w, i32_w]
        rfl
       refine pure_ (i := 21) (N := some 39) (v := undef) (a' := ?_) (zA 34 4194303) rfl rfl (any_of HT_.out (by kernel_rfl)) (fun _ _ _ h => h) (Or.inr ⟨by rfl, rfl⟩) ?_ ?_
       rotate_left
       ·simp only [Act.put, List.setIfInBounds_toArray, List.set_cons_zero, List.set_cons_succ, i64_w, i32_w]
        rfl
       refine pure_ (i := 22) (N := some 40) (v := undef) (a' := ?_) (zA 34 8388607) rfl rfl (any_of HT_.out (by kernel_rfl)) (fun _ _ _ h => h) (Or.inr ⟨by rfl, rfl⟩) ?_ ?_
       rotate_left
       ·simp only [Act.put, List.setIfInBounds_toArray, List.set_cons_zero, List.set_cons_succ, i64_w, i32_w]
        rfl
       refine pure_ (i := 23) (N := some 41) (v := undef) (a' := ?_) (zA 34 16777215) rfl rfl (any_of HT_.out (by kernel_rfl)) (fun _ _ _ h => h) (Or.inr ⟨by rfl, rfl⟩) ?_ ?_
       rotate_left
       ·simp only [Act.put, List.setIfInBounds_toArray, List.set_cons_zero, List.set_cons_succ, i64_w, i32_w]
        rfl
       refine zP 24 (some 42) (zA 34 33554431) (any_of HT_.out (by kernel_rfl)) ?_
       refine zP 25 (some 43) (zA 34 67108863) (any_of HT_.out (by kernel_rfl)) ?_
       refine pure_ (i := 26) (N := some 44) (v := undef) (a' := ?_) (zA 34 134217727) rfl rfl (any_of HT_.out (by kernel_rfl)) (fun _ _ _ h => h) (Or.inr ⟨by rfl, rfl⟩) ?_ ?_
       rotate_left
       ·simp only [Act.put, List.setIfInBounds_toArray, List.set_cons_zero, List.set_cons_succ, i64_w, i32_w]
        rfl
       refine pure_ (i := 27) (N := some 45) (v := undef) (a' := ?_) (zA 34 268435455) rfl rfl (any_of HT_.out (by kernel_rfl)) (fun _ _ _ h => h) (Or.inr ⟨by rfl, rfl⟩) ?_ ?_
       rotate_left
       ·simp only [Act.put, List.setIfInBounds_toArray, List.set_cons_zero, List.set_cons_succ, i64_w, i32_w]
        rfl
       refine pure_ (i := 28) (N := some 46) (v := undef) (a' := ?_) (zA 34 536870911) rfl rfl (any_of HT_.out (by kernel_rfl)) (fun _ _ _ h => h) (Or.inr ⟨by rfl, rfl⟩) ?_ ?_
       rotate_left
       ·simp only [Act.put, List.setIfInBounds_toArray, List.set_cons_zero, List.set_cons_succ, i64_w, i32_w]
        rfl
       refine pure_ (i := 29) (N := some 47) (v := undef) (a' := ?_) (zA 34 1073741823) rfl rfl (any_of HT_.out (by kernel_rfl)) (fun _ _ _ h => h) (Or.inr ⟨by rfl, rfl⟩) ?_ ?_
       rotate_left
       ·simp only [Act.put, List.setIfInBounds_toArray, List.set_cons_zero, List.set_cons_succ, i64_w, i32_w]
        rfl
       refine pure_ (i := 30) (N := some 48) (v := undef) (a' := ?_) (zA 34 2147483647) rfl rfl (any_of HT_.out (by kernel_rfl)) (fun _ _ _ h => h) (Or.inr ⟨by rfl, rfl⟩) ?_ ?_
       rotate_left
       ·simp only [Act.put, List.setIfInBounds_toArray, List.set_cons_zero, List.set_cons_succ, i64_w, i32_w]
        rfl
       refine pure_ (i := 31) (N := some 49) (v := undef) (a' := ?_) (zA 34 4294967295) rfl rfl (any_of HT_.out (by kernel_rfl)) (fun _ _ _ h => h) (Or.inr ⟨by rfl, rfl⟩) ?_ ?_
       rotate_left
       ·simp only [Act.put, List.setIfInBounds_toArray, List.set_cons_zero, List.set_cons_succ, i64_w, i32_w]
        rfl
       refine pure_ (i := 32) (N := some 50) (v := undef) (a' := ?_) (zA 34 8589934591) rfl rfl (any_of HT_.out (by kernel_rfl)) (fun _ _ _ h => h) (Or.inr ⟨by rfl, rfl⟩) ?_ ?_
       rotate_left
       ·simp only [Act.put, List.setIfInBounds_toArray, List.set_cons_zero, List.set_cons_succ, i64_w, i32_w]
        rfl
       refine zP 33 (some 51) (zA 34 17179869183) (any_of HT_.out (by kernel_rfl)) ?_
       refine done_ (done_of HT_.out (by kernel_rfl)) ?_
       try go_wp2
       go_ret
       exact ⟨by first | rfl | (simp [errW_none, errW_some] <;> rfl) | (simp [*, errW_none, errW_some] <;> rfl), zl⟩
     ·rw [if_neg c6] at H
      exact absurd H (by simp)
    ·rw [if_neg c5] at H
     have c5b0 : decide (x3_1 < (l0_0.length : Int)) = false := decide_eq_false c5
     clear c5
     obtain rfl := Option.some.inj H
     have hcz32_0 : wr.cell? ⟨gb122, 0, none⟩ = some (.slice A0_0 l0_0.length c0_0) := zcl BK122.out 0
     have hcz32_1 : wr.cell? ⟨gb122, 1, none⟩ = some (.slice A0_1 l0_1.length c0_1) := zcl BK122.out 1
     have hfz32_0 := blk_frozen BK122.out 0
     have hfz32_1 := blk_frozen BK122.out 1
     go_wp2
     go_ret
     exact ⟨by first | rfl | (simp [errW_none, errW_some] <;> rfl) | (simp [*, errW_none, errW_some] <;> rfl), zl⟩
 ·rw [if_neg c2] at H
  have c2b0 : ((l0_0.length : Int) == (l0_1.length : Int)) = false := beq_eq_false_iff_ne.mpr c2
  have c2b1 : ((l0_0.length : Int) != (l0_1.length : Int)) = true := bne_iff_ne.mpr c2
  have c2b2 : (l0_0.length == l0_1.length) = false := by first | simpa using c2 | (simp at c2 ⊢; omega)
  obtain rfl := Option.some.inj H
  go_enter Try.func50, Try.ntmps50
  go_wp2_with (first | ((with_reducible refine gate_dst (N := 1) rfl ?_); refine box_event ?hg (N := 1) ?hd (cs := #[.slice A0_0 l0_0.length c0_0, .slice A0_1 l0_1.length c0_1]) (t := 49) ?hr ?_; (case hd => rfl); (case hg => rfl); (case hr => first | (go_simp; done) | (go_simp; rfl)); intro gb122 hg w33 hbox hb; have BK122 := zm (hbox); have GW122 := zm ((by rw [hg]; exact (below_size zl) : w.heap.size ≤ gb122)); have GE122 := GW122; replace HB := zm (below_step zl hb); clear hb hbox hg; have hcz34_0 : w33.cell? ⟨gb122, 0, none⟩ = some (.slice A0_0 l0_0.length c0_0) := zcl BK122.out 0; have hcz34_1 : w33.cell? ⟨gb122, 1, none⟩ = some (.slice A0_1 l0_1.length c0_1) := zcl BK122.out 1; have hfz34_0 := blk_frozen BK122.out 0; have hfz34_1 := blk_frozen BK122.out 1))
  go_ret
  exact ⟨by first | rfl | (simp [errW_none, errW_some] <;> rfl) | (simp [*, errW_none, errW_some] <;> rfl), zl⟩

end Go.Proofs.Ytjphbdnfbkfgiaa.PFnExactCompose
