-- Written by a program of this session: the kit's printer, turned by wip/mkprint.py.
import Derived.Test.YtjphbdnfbkfgiabPFnExactContainsFactx0
import Derived.Test.YtjphbdnfbkfgiabPFnExactContainsFactx2
import Derived.Test.YtjphbdnfbkfgiabPFnExactContainsFactx3
import Derived.Test.YtjphbdnfbkfgiabPFnExactContainsFactx4
namespace Go.Proofs.Ytjphbdnfbkfgiab.PFnExactContainsFact
open Go.RowKit Go.Proofs.YtjphbdnfbkfgiabW.PrintWords Go.Proofs.YtjphbdnfbkfgiabW.PrintLast Go.Proofs.YtjphbdnfbkfgiabW.PrintMore
attribute [local go_sem] max2_int min2_int max_two min_two max_three min_three max_four min_four   -- for this text's walks alone
set_option linter.unusedVariables false
set_option linter.unusedSimpArgs false

/-! ### spec_IsValidInstance: function 15 -/
def spec_IsValidInstance.l0 : Nat → Int → List (S62) → List (S44) → Option (Bool)
 | 0, _, _, _ => none
 | k + 1, x3, x233000, x233001 => if x3 < (x233001.length : Int) then (if 0 ≤ x3 then ((spec_IsValidFact.f k x233000 ((rd_T44 x233001 x3).f0) ((rd_T44 x233001 x3).f1)).bind fun t236 => (if t236 = true then (if x3 > 0 then (if 0 ≤ (wrap64 (x3 - 1)) then (if (wrap64 (x3 - 1)) < (x233001.length : Int) then ((spec_CompareFacts.f k ((rd_T44 x233001 (wrap64 (x3 - 1))).f0) ((rd_T44 x233001 (wrap64 (x3 - 1))).f1) ((rd_T44 x233001 x3).f0) ((rd_T44 x233001 x3).f1)).bind fun t238 => (if t238 ≥ 0 then (some false) else (if 0 ≤ ((rd_T44 x233001 x3).f0) then (if ((rd_T44 x233001 x3).f0) < (x233000.length : Int) then (if (rd_T62 x233000 ((rd_T44 x233001 x3).f0)).f2 = true then ((spec_NullsOfFact.f k ((rd_T44 x233001 x3).f0) ((rd_T44 x233001 x3).f1)).bind fun t240 => (if (t240.length : Int) > 0 then (some false) else (spec_IsValidInstance.l0 k (wrap64 (x3 + 1)) x233000 x233001))) else (spec_IsValidInstance.l0 k (wrap64 (x3 + 1)) x233000 x233001)) else (none)) else (none)))) else (none)) else (none)) else (if 0 ≤ ((rd_T44 x233001 x3).f0) then (if ((rd_T44 x233001 x3).f0) < (x233000.length : Int) then (if (rd_T62 x233000 ((rd_T44 x233001 x3).f0)).f2 = true then ((spec_NullsOfFact.f k ((rd_T44 x233001 x3).f0) ((rd_T44 x233001 x3).f1)).bind fun t244 => (if (t244.length : Int) > 0 then (some false) else (spec_IsValidInstance.l0 k (wrap64 (x3 + 1)) x233000 x233001))) else (spec_IsValidInstance.l0 k (wrap64 (x3 + 1)) x233000 x233001)) else (none)) else (none))) else (some false))) else (none)) else ((spec_AreValidRelations.f k x233000).bind fun t233 => (if t233 = true then (some (decide ((x233001.length : Int) ≤ 30))) else (some false)))
def spec_IsValidInstance.f (k : Nat) (l0_0 : List (S62)) (l0_1 : List (S44)) : Option (Bool) := spec_IsValidInstance.l0 k 0 l0_0 l0_1
theorem spec_IsValidInstance.mono_l : ∀ k, (∀ y0 y1 y2, LeO (spec_IsValidInstance.l0 k y0 y1 y2) (spec_IsValidInstance.l0 (k + 1) y0 y1 y2))
 | 0 => fun _ _ _ r h => by simp [spec_IsValidInstance.l0] at h
 | k + 1 => by
  have ih0 := spec_IsValidInstance.mono_l k
  ·intro y0 y1 y2
   unfold spec_IsValidInstance.l0
   repeat' first
   | (with_reducible exact ih0 _ _ _)
   | (with_reducible exact spec_AreValidRelations.mono _ _)
   | (with_reducible exact spec_CompareFacts.mono _ _ _ _ _)
   | (with_reducible exact spec_IsValidFact.mono _ _ _ _)
   | (with_reducible exact spec_NullsOfFact.mono _ _ _)
   | (with_reducible exact LeO.refl _)
   | (with_reducible exact LeO.none _)
   | (with_reducible refine LeO.ite ?_ ?_)
   | (with_reducible refine LeO.bind ?_ (fun _ => ?_))
   | exact ih0 _ _ _
   | exact spec_AreValidRelations.mono _ _
   | exact spec_CompareFacts.mono _ _ _ _ _
   | exact spec_IsValidFact.mono _ _ _ _
   | exact spec_NullsOfFact.mono _ _ _
   | exact LeO.none _
   | refine LeO.ite ?_ ?_
   | refine LeO.bind ?_ (fun _ => ?_)
theorem spec_IsValidInstance.mono : ∀ a0 a1 k, LeO (spec_IsValidInstance.f k a0 a1) (spec_IsValidInstance.f (k + 1) a0 a1) := by
 intro a0 a1 k
 have ih0 := spec_IsValidInstance.mono_l k
 unfold spec_IsValidInstance.f
 repeat' first
   | (with_reducible exact ih0 _ _ _)
   | (with_reducible exact spec_AreValidRelations.mono _ _)
   | (with_reducible exact spec_CompareFacts.mono _ _ _ _ _)
   | (with_reducible exact spec_IsValidFact.mono _ _ _ _)
   | (with_reducible exact spec_NullsOfFact.mono _ _ _)
   | (with_reducible exact LeO.refl _)
   | (with_reducible exact LeO.none _)
   | (with_reducible refine LeO.ite ?_ ?_)
   | (with_reducible refine LeO.bind ?_ (fun _ => ?_))
   | exact ih0 _ _ _
   | exact spec_AreValidRelations.mono _ _
   | exact spec_CompareFacts.mono _ _ _ _ _
   | exact spec_IsValidFact.mono _ _ _ _
   | exact spec_NullsOfFact.mono _ _ _
   | exact LeO.none _
   | refine LeO.ite ?_ ?_
   | refine LeO.bind ?_ (fun _ => ?_)
def spec_IsValidInstance.T5 : Bool × List (List Nat × List Nat) := (true, [([], []), ([0], [0]), ([], []), ([1, 2], [1, 2]), ([3], [3]), ([4, 3], [4]), ([5], [5]), ([6, 5], [5, 6]), ([7, 5, 5], [5, 7]), ([8], [8]), ([9, 8], [8, 9]), ([8], [8]), ([11, 8], [8, 11]), ([10, 12, 8], [8, 10, 12]), ([13, 8], [8, 13]), ([8], [8]), ([14, 15, 8, 8], [8, 14, 15]), ([16, 8], [8, 16]), ([8, 17, 5], [5, 8, 17]), ([5, 18], [5, 18]), ([19, 16], [19]), ([20], [20]), ([21, 20], [20, 21]), ([20], [20]), ([23, 20], [20, 23]), ([22, 24, 20], [20, 22, 24]), ([25, 20], [20, 25]), ([26, 20], [20, 26]), ([27, 20, 20], [20, 27]), ([28], [28]), ([29, 28, 28], [28, 29]), ([30, 28], [28, 30]), ([31, 28], [28, 31]), ([28, 32, 20], [20, 28, 32]), ([20, 33], [20, 33])])
def spec_IsValidInstance.B5 : List Nat := [0, 1, 0, 7, 15, 31, 63, 127, 255, 511, 1023, 511, 2559, 8191, 16383, 511, 65535, 131071, 262143, 524287, 1048575, 2097151, 4194303, 2097151, 10485759, 33554431, 67108863, 134217727, 268435455, 536870911, 1073741823, 2147483647, 4294967295, 8589934591, 17179869183]
theorem spec_IsValidInstance.tab5 : rtab .any (opsOf Try.f15 5) = spec_IsValidInstance.T5 := by kernel_rfl
theorem spec_IsValidInstance.bits5 : waitsOk spec_IsValidInstance.T5.2 spec_IsValidInstance.B5 = true := by kernel_rfl
set_option maxHeartbeats 8000000 in
set_option maxRecDepth 100000 in
theorem spec_IsValidInstance.calls (k : Nat) (A0_0 : Option Addr) (c0_0 : Nat) (l0_0 : List (S62)) (A0_1 : Option Addr) (c0_1 : Nat) (l0_1 : List (S44)) (r : Bool) (w : World) (hr0_0 : Kd.C k62 w A0_0 l0_0.length l0_0) (hc0_0 : l0_0.length ≤ c0_0) (hr0_1 : Kd.C k44 w A0_1 l0_1.length l0_1) (hc0_1 : l0_1.length ≤ c0_1) (h : spec_IsValidInstance.f k l0_0 l0_1 = some r) :
  Calls Try.prog 15 #[.agg #[.slice A0_0 l0_0.length c0_0, .slice A0_1 l0_1.length c0_1]] w fun e w' => e = .returned (.bool r) ∧ Below w.heap.size w w' := by
 have hu32 := Try.underlying32
 have hu44 := Try.underlying44
 have HR0_0 := Aside0.mk hr0_0
 have HC0_0 := Aside0.mk hc0_0
 clear hr0_0 hc0_0
 have HR0_1 := Aside0.mk hr0_1
 have HC0_1 := Aside0.mk hc0_1
 clear hr0_1 hc0_1
 have HB := Aside0.mk (Below.refl w.heap.size w)
 have H : (spec_IsValidInstance.l0 k 0 l0_0 l0_1) = some r := h
 clear h
 have H' := Aside0.mk H
 clear H
 go_enter Try.func15, Try.ntmps15
 go_wp2_with (first | ((with_reducible refine gate_dst (N := 1) rfl ?_); (try (refine gate_guard (by rfl) ?_; dsimp only)); refine box_event ?hg (N := 1) ?hd (cs := #[.slice A0_0 l0_0.length c0_0, .slice A0_1 l0_1.length c0_1]) (t := 32) ?hr ?_; (case hd => rfl); (case hg => rfl); (case hr => first | (go_simp; done) | (go_simp; rfl)); intro gb232 hg w2 hbox hb; have BK232 := zm (hbox); have GW232 := zm ((by rw [hg]; exact (below_size zl) : w.heap.size ≤ gb232)); have GE232 := zm ((by rw [hg]; exact (below_size zl) : w.heap.size ≤ gb232)); replace HB := zm (below_step zl hb); clear hb hbox hg))
 go_loopg [3] k (fun kq v3 w' => ∃ (x3_1 : Int), v3 = .int .i64 x3_1 ∧ Aside0 (spec_IsValidInstance.l0 kq x3_1 l0_0 l0_1 = some r) ∧ Aside0 (kq ≤ k) ∧ Aside0 (w'.heap[gb232]? = some (.cells #[(.slice A0_0 l0_0.length c0_0), (.slice A0_1 l0_1.length c0_1)] 32 (0, 0))) ∧ Aside0 (Below w.heap.size w w'))
 case atStart => exact ⟨(0), (by first | rfl | (simp; done) | (simp [*]; done)), H', ⟨Nat.le_refl _⟩, ⟨zb BK232.out⟩, ⟨zl⟩⟩
 case round =>
  clear H'
  try clear c1
  try clear p2
  obtain ⟨x3_1, rfl, HA, HK1, BK232, HB⟩ := hrel
  cases gk with
  | zero => exact absurd HA.out (by simp [spec_IsValidInstance.l0])
  | succ k1 =>
   have H := HA.out
   clear HA
   simp only [spec_IsValidInstance.l0] at H
   by_cases c3 : x3_1 < (l0_1.length : Int)
   ·rw [if_pos c3] at H
    have c3b0 : decide (x3_1 < (l0_1.length : Int)) = true := decide_eq_true c3
    clear c3
    by_cases c4 : 0 ≤ x3_1
    ·rw [if_pos c4] at H
     have c4b0 : decide (0 ≤ x3_1) = true := decide_eq_true c4
     clear c4
     replace H := Option.bind_eq_some_iff.mp H
     obtain ⟨t236, A50, H⟩ := H
     replace H : (if t236 = true then (if x3_1 > 0 then (if 0 ≤ (wrap64 (x3_1 - 1)) then (if (wrap64 (x3_1 - 1)) < (l0_1.length : Int) then ((spec_CompareFacts.f k1 ((rd_T44 l0_1 (wrap64 (x3_1 - 1))).f0) ((rd_T44 l0_1 (wrap64 (x3_1 - 1))).f1) ((rd_T44 l0_1 x3_1).f0) ((rd_T44 l0_1 x3_1).f1)).bind fun t238 => (if t238 ≥ 0 then (some false) else (if 0 ≤ ((rd_T44 l0_1 x3_1).f0) then (if ((rd_T44 l0_1 x3_1).f0) < (l0_0.length : Int) then (if (rd_T62 l0_0 ((rd_T44 l0_1 x3_1).f0)).f2 = true then ((spec_NullsOfFact.f k1 ((rd_T44 l0_1 x3_1).f0) ((rd_T44 l0_1 x3_1).f1)).bind fun t240 => (if (t240.length : Int) > 0 then (some false) else (spec_IsValidInstance.l0 k1 (wrap64 (x3_1 + 1)) l0_0 l0_1))) else (spec_IsValidInstance.l0 k1 (wrap64 (x3_1 + 1)) l0_0 l0_1)) else (none)) else (none)))) else (none)) else (none)) else (if 0 ≤ ((rd_T44 l0_1 x3_1).f0) then (if ((rd_T44 l0_1 x3_1).f0) < (l0_0.length : Int) then (if (rd_T62 l0_0 ((rd_T44 l0_1 x3_1).f0)).f2 = true then ((spec_NullsOfFact.f k1 ((rd_T44 l0_1 x3_1).f0) ((rd_T44 l0_1 x3_1).f1)).bind fun t244 => (if (t244.length : Int) > 0 then (some false) else (spec_IsValidInstance.l0 k1 (wrap64 (x3_1 + 1)) l0_0 l0_1))) else (spec_IsValidInstance.l0 k1 (wrap64 (x3_1 + 1)) l0_0 l0_1)) else (none)) else (none))) else (some false)) = some r := H
     have A5 := Aside0.mk A50
     clear A50
     by_cases c6 : t236 = true
     ·subst c6
      have H1 : (if x3_1 > 0 then (if 0 ≤ (wrap64 (x3_1 - 1)) then (if (wrap64 (x3_1 - 1)) < (l0_1.length : Int) then ((spec_CompareFacts.f k1 ((rd_T44 l0_1 (wrap64 (x3_1 - 1))).f0) ((rd_T44 l0_1 (wrap64 (x3_1 - 1))).f1) ((rd_T44 l0_1 x3_1).f0) ((rd_T44 l0_1 x3_1).f1)).bind fun t238 => (if t238 ≥ 0 then (some false) else (if 0 ≤ ((rd_T44 l0_1 x3_1).f0) then (if ((rd_T44 l0_1 x3_1).f0) < (l0_0.length : Int) then (if (rd_T62 l0_0 ((rd_T44 l0_1 x3_1).f0)).f2 = true then ((spec_NullsOfFact.f k1 ((rd_T44 l0_1 x3_1).f0) ((rd_T44 l0_1 x3_1).f1)).bind fun t240 => (if (t240.length : Int) > 0 then (some false) else (spec_IsValidInstance.l0 k1 (wrap64 (x3_1 + 1)) l0_0 l0_1))) else (spec_IsValidInstance.l0 k1 (wrap64 (x3_1 + 1)) l0_0 l0_1)) else (none)) else (none)))) else (none)) else (none)) else (if 0 ≤ ((rd_T44 l0_1 x3_1).f0) then (if ((rd_T44 l0_1 x3_1).f0) < (l0_0.length : Int) then (if (rd_T62 l0_0 ((rd_T44 l0_1 x3_1).f0)).f2 = true then ((spec_NullsOfFact.f k1 ((rd_T44 l0_1 x3_1).f0) ((rd_T44 l0_1 x3_1).f1)).bind fun t244 => (if (t244.length : Int) > 0 then (some false) else (spec_IsValidInstance.l0 k1 (wrap64 (x3_1 + 1)) l0_0 l0_1))) else (spec_IsValidInstance.l0 k1 (wrap64 (x3_1 + 1)) l0_0 l0_1)) else (none)) else (none))) = some r := by first | with_reducible rfl | (rw [if_pos rfl] at H; exact H)
      clear H
      have H := H1
      clear H1
      by_cases c7 : x3_1 > 0
      ·rw [if_pos c7] at H
       have c7b0 : decide (0 < x3_1) = true := decide_eq_true c7
       clear c7
       obtain ⟨ji8, hji8⟩ : ∃ j_ : Int, (wrap64 (x3_1 - 1)) = j_ := ⟨_, rfl⟩
       replace H : (if 0 ≤ (ji8) then (if (ji8) < (l0_1.length : Int) then ((spec_CompareFacts.f k1 ((rd_T44 l0_1 (ji8)).f0) ((rd_T44 l0_1 (ji8)).f1) ((rd_T44 l0_1 x3_1).f0) ((rd_T44 l0_1 x3_1).f1)).bind fun t238 => (if t238 ≥ 0 then (some false) else (if 0 ≤ ((rd_T44 l0_1 x3_1).f0) then (if ((rd_T44 l0_1 x3_1).f0) < (l0_0.length : Int) then (if (rd_T62 l0_0 ((rd_T44 l0_1 x3_1).f0)).f2 = true then ((spec_NullsOfFact.f k1 ((rd_T44 l0_1 x3_1).f0) ((rd_T44 l0_1 x3_1).f1)).bind fun t240 => (if (t240.length : Int) > 0 then (some false) else (spec_IsValidInstance.l0 k1 (wrap64 (x3_1 + 1)) l0_0 l0_1))) else (spec_IsValidInstance.l0 k1 (wrap64 (x3_1 + 1)) l0_0 l0_1)) else (none)) else (none)))) else (none)) else (none)) = some r := by first | (rw [hji8] at H; exact H) | (simp only [hji8] at H ⊢; exact H)
       (try rw [hji8] at A5)
       have hji8w : (IntKind.i64.wrap (x3_1 - 1)) = ji8 := (i64_w _).trans hji8
       by_cases c9 : 0 ≤ (ji8)
       ·rw [if_pos c9] at H
        have c9b0 : decide (0 ≤ (ji8)) = true := decide_eq_true c9
        clear c9
        by_cases c10 : (ji8) < (l0_1.length : Int)
        ·rw [if_pos c10] at H
         have c10b0 : decide ((ji8) < (l0_1.length : Int)) = true := decide_eq_true c10
         clear c10
         replace H := Option.bind_eq_some_iff.mp H
         obtain ⟨t238, A110, H⟩ := H
         replace H : (if t238 ≥ 0 then (some false) else (if 0 ≤ ((rd_T44 l0_1 x3_1).f0) then (if ((rd_T44 l0_1 x3_1).f0) < (l0_0.length : Int) then (if (rd_T62 l0_0 ((rd_T44 l0_1 x3_1).f0)).f2 = true then ((spec_NullsOfFact.f k1 ((rd_T44 l0_1 x3_1).f0) ((rd_T44 l0_1 x3_1).f1)).bind fun t240 => (if (t240.length : Int) > 0 then (some false) else (spec_IsValidInstance.l0 k1 (wrap64 (x3_1 + 1)) l0_0 l0_1))) else (spec_IsValidInstance.l0 k1 (wrap64 (x3_1 + 1)) l0_0 l0_1)) else (none)) else (none))) = some r := H
         have A11 := Aside0.mk A110
         clear A110
         by_cases c12 : t238 ≥ 0
         ·rw [if_pos c12] at H
          have c12b0 : decide (0 ≤ t238) = true := decide_eq_true c12
          clear c12
          obtain rfl := Option.some.inj H
          have hcz13_0 : wr.cell? ⟨gb232, 0, none⟩ = some (.slice A0_0 l0_0.length c0_0) := (blk_cell BK232.out 0).trans rfl
          have hcz13_1 : wr.cell? ⟨gb232, 1, none⟩ = some (.slice A0_1 l0_1.length c0_1) := (blk_cell BK232.out 1).trans rfl
          have hfz13_0 := blk_frozen BK232.out 0
          have hfz13_1 := blk_frozen BK232.out 1
          have p234 : 0 ≤ (x3_1 : Int) := zd
          have q234 : x3_1 < (l0_1.length : Int) := zd
          obtain ⟨ad234, A234_1, c234_1, e234, hx234_0, hx234_1, hl234_1, hi234_1⟩ := at_T44 HR0_1.out x3_1 p234 q234
          cases e234
          replace hx234_0 := (HB.out.cell (World.block_lt_of_cell? w _ hx234_0)).trans hx234_0
          replace hx234_1 := (HB.out.cell (World.block_lt_of_cell? w _ hx234_1)).trans hx234_1
          have HR234_1 := Aside0.mk hi234_1
          have HC234_1 := Aside0.mk hl234_1
          clear hi234_1 hl234_1
          replace p234 := eq_true p234
          replace q234 := eq_true q234
          try go_wp2_with (first | ((with_reducible refine gate_dst (N := 4) rfl ?_); (try (refine gate_guard (by rfl) ?_; dsimp only)); refine box_event ?hg (N := 4) ?hd (cs := #[.int .i64 0, .slice none 0 0]) (t := 44) ?hr ?_; (case hd => rfl); (case hg => rfl); (case hr => first | (go_simp; done) | (go_simp; rfl)); intro gb235 hg w14 hbox hb; have BK235 := zm (hbox); have GW235 := zm ((by rw [hg]; exact (below_size zl) : w.heap.size ≤ gb235)); have GE235 := zm ((by rw [hg]; exact (below_size zl) : w.heap.size ≤ gb235)); replace HB := zm (below_step zl hb); have NB232_235 := zm (zl1 hg (zb BK232.out)); have NB235_232 := zm (zl2 hg (zb BK232.out)); replace BK232 := zm (blk_below (zb BK232.out) hb); clear hb hbox hg; have hnb15 := NB235_232.out; have hnc15 := NB232_235.out; have hcz16_0 : w14.cell? ⟨gb235, 0, none⟩ = some (.int .i64 0) := (blk_cell BK235.out 0).trans rfl; have hcz16_1 : w14.cell? ⟨gb235, 1, none⟩ = some (.slice none 0 0) := (blk_cell BK235.out 1).trans rfl; have hfz16_0 := blk_frozen BK235.out 0; have hfz16_1 := blk_frozen BK235.out 1))
          have n0_ : Aside0 (((w14.setCell ⟨gb235, 0, none⟩ (.int .i64 ((rd_T44 l0_1 x3_1).f0))).setCell ⟨gb235, 1, none⟩ (.slice A234_1 ((rd_T44 l0_1 x3_1).f1).length c234_1)).heap[gb232]? = some (.cells #[.slice A0_0 l0_0.length c0_0, .slice (some ad234) l0_1.length c0_1] 32 (0, 0))) := ⟨by (with_reducible repeat (first | refine blk_drewN ?_ _ | refine blk_drew ?_ | refine blk_alloc ?_ _)); refine blk_far ?_ NB232_235.out _; (with_reducible repeat (first | refine blk_drewN ?_ _ | refine blk_drew ?_ | refine blk_alloc ?_ _)); refine blk_far ?_ NB232_235.out _; (with_reducible repeat (first | refine blk_drewN ?_ _ | refine blk_drew ?_ | refine blk_alloc ?_ _)); exact BK232.out⟩
          have n1_ : Aside0 (((w14.setCell ⟨gb235, 0, none⟩ (.int .i64 ((rd_T44 l0_1 x3_1).f0))).setCell ⟨gb235, 1, none⟩ (.slice A234_1 ((rd_T44 l0_1 x3_1).f1).length c234_1)).heap[gb235]? = some (.cells #[.int .i64 ((rd_T44 l0_1 x3_1).f0), .slice A234_1 ((rd_T44 l0_1 x3_1).f1).length c234_1] 44 (0, 0))) := ⟨by (with_reducible repeat (first | refine blk_drewN ?_ _ | refine blk_drew ?_ | refine blk_alloc ?_ _)); refine blk_put (cs := #[.int .i64 ((rd_T44 l0_1 x3_1).f0), .slice none 0 0]) ?_ 1 _ rfl; (with_reducible repeat (first | refine blk_drewN ?_ _ | refine blk_drew ?_ | refine blk_alloc ?_ _)); refine blk_put (cs := #[.int .i64 0, .slice none 0 0]) ?_ 0 _ rfl; (with_reducible repeat (first | refine blk_drewN ?_ _ | refine blk_drew ?_ | refine blk_alloc ?_ _)); exact BK235.out⟩
          have n2_ : Aside0 (Below w.heap.size w ((w14.setCell ⟨gb235, 0, none⟩ (.int .i64 ((rd_T44 l0_1 x3_1).f0))).setCell ⟨gb235, 1, none⟩ (.slice A234_1 ((rd_T44 l0_1 x3_1).f1).length c234_1))) := ⟨zl⟩
          (try clear BK232)
          (try clear BK235)
          (try clear HB)
          generalize ((w14.setCell ⟨gb235, 0, none⟩ (.int .i64 ((rd_T44 l0_1 x3_1).f0))).setCell ⟨gb235, 1, none⟩ (.slice A234_1 ((rd_T44 l0_1 x3_1).f1).length c234_1)) = w17 at n0_ n1_ n2_ ⊢
          have BK232 := n0_
          have BK235 := n1_
          have HB := n2_
          clear n0_ n1_ n2_
          replace BK232 := zm (blk_drew BK232.out)
          replace BK235 := zm (blk_drew BK235.out)
          replace HB := zm (below_drew1 HB.out)
          have p237 : 0 ≤ ((ji8) : Int) := zd
          have q237 : (ji8) < (l0_1.length : Int) := zd
          obtain ⟨ad237, A237_1, c237_1, e237, hx237_0, hx237_1, hl237_1, hi237_1⟩ := at_T44 HR0_1.out (ji8) p237 q237
          have hw237_1 := hx237_1
          have hw237_0 := hx237_0
          obtain rfl : ad234 = ad237 := (by injection e237)
          replace hx237_0 := (HB.out.cell (World.block_lt_of_cell? w _ hx237_0)).trans hx237_0
          replace hx237_1 := (HB.out.cell (World.block_lt_of_cell? w _ hx237_1)).trans hx237_1
          have HR237_1 := Aside0.mk hi237_1
          have HC237_1 := Aside0.mk hl237_1
          clear hi237_1 hl237_1
          replace p237 := eq_true p237
          replace q237 := eq_true q237
          refine start_ (n := 35) (S := fun w' => w'.cell? ⟨gb232, 0, none⟩ = some (.slice A0_0 l0_0.length c0_0) ∧ w'.cell? ⟨gb232, 1, none⟩ = some (.slice (some ad234) l0_1.length c0_1) ∧ w'.cell? ⟨gb235, 0, none⟩ = some (.int .i64 ((rd_T44 l0_1 x3_1).f0)) ∧ w'.cell? ⟨gb235, 1, none⟩ = some (.slice A234_1 ((rd_T44 l0_1 x3_1).f1).length c234_1) ∧ w'.cell? (ad234.add (((ji8)).toNat * 2)) = some (.int .i64 ((rd_T44 l0_1 (ji8)).f0)) ∧ w'.cell? ⟨(ad234.add (((ji8)).toNat * 2)).block, (ad234.add (((ji8)).toNat * 2)).off + 1, none⟩ = some (.slice A237_1 ((rd_T44 l0_1 (ji8)).f1).length c237_1)) (ds := []) #[false, false, false, false, false, false, false, false, false, false, false, false, false, false, false, false, false, false, false, false, false, false, false, false, false, false, false, false, false, false, false, false, false, false, false] (by kernel_rfl) rfl rfl ⟨(blk_cell BK232.out 0).trans rfl, (blk_cell BK232.out 1).trans rfl, (blk_cell BK235.out 0).trans rfl, (blk_cell BK235.out 1).trans rfl, ((HB.out.cell (World.block_lt_of_cell? w _ hw237_0)).trans hw237_0), ((HB.out.cell (World.block_lt_of_cell? w _ hw237_1)).trans hw237_1)⟩ (fun hHeld => ?_); refine with_tabW spec_IsValidInstance.tab5 spec_IsValidInstance.bits5 (fun HT_ HW_ => ?_)
          generalize w17.drew = w18 at BK232 BK235 HB HR237_1 hx237_0 hx237_1 hHeld ⊢
          refine zP 0 (some 17) (zA 35 1) (any_of HT_.out (by kernel_rfl)) ?_
          refine take_ (i := 1) (N := some 18) (v := ?_) (a' := ?_) (zA 35 3) rfl rfl (take_ofW HT_.out HW_.out (by kernel_rfl)) (fun _ _ _ h => h) (Or.inl ⟨by rfl, ?_⟩) hHeld ?_ ?_
          rotate_left
          ·rintro w' ⟨s0, s1, s2, s3, s4, s5⟩
           go_simp
           with_reducible rfl
          rotate_left
          ·simp only [Act.put, List.setIfInBounds_toArray, List.set_cons_zero, List.set_cons_succ, i64_w, i32_w]
           rfl
          refine take_ (i := 2) (N := some 19) (v := ?_) (a' := ?_) (zA 35 7) rfl rfl (take_ofW HT_.out HW_.out (by kernel_rfl)) (fun _ _ _ h => h) (Or.inl ⟨by rfl, ?_⟩) hHeld ?_ ?_
          rotate_left
          ·rintro w' ⟨s0, s1, s2, s3, s4, s5⟩
           go_simp
           with_reducible rfl
          rotate_left
          ·simp only [Act.put, List.setIfInBounds_toArray, List.set_cons_zero, List.set_cons_succ, i64_w, i32_w]
           rfl
          refine one_ (i := 3) (N := some 20) (zA 35 15) rfl rfl (one_of HT_.out (by kernel_rfl)) (by decide) (fun K hK => ?_)
          refine goes_ Try.func33 (by kernel_rfl) rfl #[.slice A0_0 l0_0.length c0_0, .agg #[.int .i64 ((rd_T44 l0_1 x3_1).f0), .slice A234_1 ((rd_T44 l0_1 x3_1).f1).length c234_1]] (by rfl) rfl rfl (by (try simp only [List.map_toArray, List.map_cons, List.map_nil]); first | done | rfl | (simp only [List.length_drop, List.length_take]; rfl)) ?_
          with_reducible refine (spec_IsValidFact.calls k1 _ _ l0_0 ((rd_T44 l0_1 x3_1).f0) _ _ ((rd_T44 l0_1 x3_1).f1) true _ ?side1 ?side2 ?side3 ?side4 A5.out).mono ?_
          (case side1 => exact zc HR0_0.out)
          (case side2 => exact HC0_0.out)
          (case side3 => exact zc HR234_1.out)
          (case side4 => exact HC234_1.out)
          rintro e w19 ⟨rfl, hb⟩
          refine ⟨_, rfl, ?_⟩
          replace BK232 := zm (blk_below (zb BK232.out) hb)
          replace BK235 := zm (blk_below (zb BK235.out) hb)
          replace HB := zm (below_step zl hb)
          (try clear hb)
          refine hK.out _ _ ⟨(blk_cell BK232.out 0).trans rfl, (blk_cell BK232.out 1).trans rfl, (blk_cell BK235.out 0).trans rfl, (blk_cell BK235.out 1).trans rfl, ((HB.out.cell (World.block_lt_of_cell? w _ hw237_0)).trans hw237_0), ((HB.out.cell (World.block_lt_of_cell? w _ hw237_1)).trans hw237_1)⟩ (fun hHeld => ?_)
          clear hK K
          refine zO (some 20) ?_
          refine zP 4 (some 21) (zA 35 31) (any_of HT_.out (by kernel_rfl)) ?_
          refine zP 5 (some 22) (zA 35 63) (any_of HT_.out (by kernel_rfl)) ?_
          refine zP 6 (some 23) (zA 35 127) (any_of HT_.out (by kernel_rfl)) ?_
          refine zP 7 (some 24) (zA 35 255) (any_of HT_.out (by kernel_rfl)) ?_
          refine zP 8 (some 25) (zA 35 511) (any_of HT_.out (by kernel_rfl)) ?_
          refine zP 9 (some 26) (zA 35 1023) (any_of HT_.out (by kernel_rfl)) ?_
          refine zP 11 (some 28) (zA 35 3071) (any_of HT_.out (by kernel_rfl)) ?_
          refine zP 12 (some 29) (zA 35 7167) (any_of HT_.out (by kernel_rfl)) ?_
          refine take_ (i := 10) (N := some 27) (v := ?_) (a' := ?_) (zA 35 8191) rfl rfl (take_ofW HT_.out HW_.out (by kernel_rfl)) (fun _ _ _ h => h) (Or.inl ⟨by rfl, ?_⟩) hHeld ?_ ?_
          rotate_left
          ·rintro w' ⟨s0, s1, s2, s3, s4, s5⟩
           go_simp
           with_reducible rfl
          rotate_left
          ·simp only [Act.put, List.setIfInBounds_toArray, List.set_cons_zero, List.set_cons_succ, i64_w, i32_w]
           rfl
          refine zP 13 (some 30) (zA 35 16383) (any_of HT_.out (by kernel_rfl)) ?_
          refine take_ (i := 14) (N := some 31) (v := ?_) (a' := ?_) (zA 35 32767) rfl rfl (take_ofW HT_.out HW_.out (by kernel_rfl)) (fun _ _ _ h => h) (Or.inl ⟨by rfl, ?_⟩) hHeld ?_ ?_
          rotate_left
          ·rintro w' ⟨s0, s1, s2, s3, s4, s5⟩
           go_simp
           with_reducible rfl
          rotate_left
          ·simp only [Act.put, List.setIfInBounds_toArray, List.set_cons_zero, List.set_cons_succ, i64_w, i32_w]
           rfl
          refine take_ (i := 15) (N := some 32) (v := ?_) (a' := ?_) (zA 35 65535) rfl rfl (take_ofW HT_.out HW_.out (by kernel_rfl)) (fun _ _ _ h => h) (Or.inl ⟨by rfl, ?_⟩) hHeld ?_ ?_
          rotate_left
          ·rintro w' ⟨s0, s1, s2, s3, s4, s5⟩
           go_simp
           with_reducible rfl
          rotate_left
          ·simp only [Act.put, List.setIfInBounds_toArray, List.set_cons_zero, List.set_cons_succ, i64_w, i32_w]
           rfl
          refine one_ (i := 16) (N := some 33) (zA 35 131071) rfl rfl (one_of HT_.out (by kernel_rfl)) (by decide) (fun K hK => ?_)
          refine goes_ Try.func34 (by kernel_rfl) rfl #[.agg #[.int .i64 ((rd_T44 l0_1 (ji8)).f0), .slice A237_1 ((rd_T44 l0_1 (ji8)).f1).length c237_1], .agg #[.int .i64 ((rd_T44 l0_1 x3_1).f0), .slice A234_1 ((rd_T44 l0_1 x3_1).f1).length c234_1]] (by rfl) rfl rfl (by (try simp only [List.map_toArray, List.map_cons, List.map_nil]); first | done | (simp only [hji8]; rfl) | rfl | (simp only [List.length_drop, List.length_take]; rfl)) ?_
          with_reducible refine (spec_CompareFacts.calls k1 ((rd_T44 l0_1 (ji8)).f0) _ _ ((rd_T44 l0_1 (ji8)).f1) ((rd_T44 l0_1 x3_1).f0) _ _ ((rd_T44 l0_1 x3_1).f1) t238 _ ?side1 ?side2 ?side3 ?side4 A11.out).mono ?_
          (case side1 => exact zc HR237_1.out)
          (case side2 => exact HC237_1.out)
          (case side3 => exact zc HR234_1.out)
          (case side4 => exact HC234_1.out)
          rintro e w20 ⟨rfl, hb⟩
          refine ⟨_, rfl, ?_⟩
          replace BK232 := zm (blk_below (zb BK232.out) hb)
          replace BK235 := zm (blk_below (zb BK235.out) hb)
          replace HB := zm (below_step zl hb)
          (try clear hb)
          refine hK.out _ _ ⟨(blk_cell BK232.out 0).trans rfl, (blk_cell BK232.out 1).trans rfl, (blk_cell BK235.out 0).trans rfl, (blk_cell BK235.out 1).trans rfl, ((HB.out.cell (World.block_lt_of_cell? w _ hw237_0)).trans hw237_0), ((HB.out.cell (World.block_lt_of_cell? w _ hw237_1)).trans hw237_1)⟩ (fun hHeld => ?_)
          clear hK K
          refine zO (some 33) ?_
          refine zP 17 (some 34) (zA 35 262143) (any_of HT_.out (by kernel_rfl)) ?_
          refine zP 18 (some 35) (zA 35 524287) (any_of HT_.out (by kernel_rfl)) ?_
          refine zP 19 (some 36) (zA 35 1048575) (any_of HT_.out (by kernel_rfl)) ?_
          refine zP 20 (some 37) (zA 35 2097151) (any_of HT_.out (by kernel_rfl)) ?_
          refine pure_ (i := 21) (N := some 38) (v := undef) (a' := ?_) (zA 35 4194303) rfl rfl (any_of HT_.out (by kernel_rfl)) (fun _ _ _ h => h) (Or.inr ⟨by rfl, rfl⟩) ?_ ?_
          rotate_left
          ·simp only [Act.put, List.setIfInBounds_toArray, List.set_cons_zero, List.set_cons_succ, i64_w, i32_w]
           rfl
          refine pure_ (i := 22) (N := some 39) (v := undef) (a' := ?_) (zA 35 8388607) rfl rfl (any_of HT_.out (by kernel_rfl)) (fun _ _ _ h => h) (Or.inr ⟨by rfl, rfl⟩) ?_ ?_
          rotate_left
          ·simp only [Act.put, List.setIfInBounds_toArray, List.set_cons_zero, List.set_cons_succ, i64_w, i32_w]
           rfl
          refine pure_ (i := 23) (N := some 40) (v := undef) (a' := ?_) (zA 35 16777215) rfl rfl (any_of HT_.out (by kernel_rfl)) (fun _ _ _ h => h) (Or.inr ⟨by rfl, rfl⟩) ?_ ?_
          rotate_left
          ·simp only [Act.put, List.setIfInBounds_toArray, List.set_cons_zero, List.set_cons_succ, i64_w, i32_w]
           rfl
          refine pure_ (i := 24) (N := some 41) (v := undef) (a' := ?_) (zA 35 33554431) rfl rfl (any_of HT_.out (by kernel_rfl)) (fun _ _ _ h => h) (Or.inr ⟨by rfl, rfl⟩) ?_ ?_
          rotate_left
          ·simp only [Act.put, List.setIfInBounds_toArray, List.set_cons_zero, List.set_cons_succ, i64_w, i32_w]
           rfl
          refine pure_ (i := 25) (N := some 42) (v := undef) (a' := ?_) (zA 35 67108863) rfl rfl (any_of HT_.out (by kernel_rfl)) (fun _ _ _ h => h) (Or.inr ⟨by rfl, rfl⟩) ?_ ?_
          rotate_left
          ·simp only [Act.put, List.setIfInBounds_toArray, List.set_cons_zero, List.set_cons_succ, i64_w, i32_w]
           rfl
          refine pure_ (i := 26) (N := some 43) (v := undef) (a' := ?_) (zA 35 134217727) rfl rfl (any_of HT_.out (by kernel_rfl)) (fun _ _ _ h => h) (Or.inr ⟨by rfl, rfl⟩) ?_ ?_
          rotate_left
          ·simp only [Act.put, List.setIfInBounds_toArray, List.set_cons_zero, List.set_cons_succ, i64_w, i32_w]
           rfl
          refine pure_ (i := 27) (N := some 44) (v := undef) (a' := ?_) (zA 35 268435455) rfl rfl (any_of HT_.out (by kernel_rfl)) (fun _ _ _ h => h) (Or.inr ⟨by rfl, rfl⟩) ?_ ?_
          rotate_left
          ·simp only [Act.put, List.setIfInBounds_toArray, List.set_cons_zero, List.set_cons_succ, i64_w, i32_w]
           rfl
          refine pure_ (i := 28) (N := some 45) (v := undef) (a' := ?_) (zA 35 536870911) rfl rfl (any_of HT_.out (by kernel_rfl)) (fun _ _ _ h => h) (Or.inr ⟨by rfl, rfl⟩) ?_ ?_
          rotate_left
          ·simp only [Act.put, List.setIfInBounds_toArray, List.set_cons_zero, List.set_cons_succ, i64_w, i32_w]
           rfl
          refine pure_ (i := 29) (N := some 46) (v := undef) (a' := ?_) (zA 35 1073741823) rfl rfl (any_of HT_.out (by kernel_rfl)) (fun _ _ _ h => h) (Or.inr ⟨by rfl, rfl⟩) ?_ ?_
          rotate_left
          ·simp only [Act.put, List.setIfInBounds_toArray, List.set_cons_zero, List.set_cons_succ, i64_w, i32_w]
           rfl
          refine pure_ (i := 30) (N := some 47) (v := undef) (a' := ?_) (zA 35 2147483647) rfl rfl (any_of HT_.out (by kernel_rfl)) (fun _ _ _ h => h) (Or.inr ⟨by rfl, rfl⟩) ?_ ?_
          rotate_left
          ·simp only [Act.put, List.setIfInBounds_toArray, List.set_cons_zero, List.set_cons_succ, i64_w, i32_w]
           rfl
          refine pure_ (i := 31) (N := some 48) (v := undef) (a' := ?_) (zA 35 4294967295) rfl rfl (any_of HT_.out (by kernel_rfl)) (fun _ _ _ h => h) (Or.inr ⟨by rfl, rfl⟩) ?_ ?_
          rotate_left
          ·simp only [Act.put, List.setIfInBounds_toArray, List.set_cons_zero, List.set_cons_succ, i64_w, i32_w]
           rfl
          refine pure_ (i := 32) (N := some 49) (v := undef) (a' := ?_) (zA 35 8589934591) rfl rfl (any_of HT_.out (by kernel_rfl)) (fun _ _ _ h => h) (Or.inr ⟨by rfl, rfl⟩) ?_ ?_
          rotate_left
          ·simp only [Act.put, List.setIfInBounds_toArray, List.set_cons_zero, List.set_cons_succ, i64_w, i32_w]
           rfl
          refine pure_ (i := 33) (N := some 50) (v := undef) (a' := ?_) (zA 35 17179869183) rfl rfl (any_of HT_.out (by kernel_rfl)) (fun _ _ _ h => h) (Or.inr ⟨by rfl, rfl⟩) ?_ ?_
          rotate_left
          ·simp only [Act.put, List.setIfInBounds_toArray, List.set_cons_zero, List.set_cons_succ, i64_w, i32_w]
           rfl
          refine zP 34 (some 51) (zA 35 34359738367) (any_of HT_.out (by kernel_rfl)) ?_
          refine done_ (done_of HT_.out (by kernel_rfl)) ?_
          try go_wp2
          go_ret
          exact ⟨by first | rfl | (simp [errW_none, errW_some] <;> rfl) | (simp only [← hji8]; first | rfl | (simp [errW_none, errW_some] <;> rfl)) | (simp [*, errW_none, errW_some] <;> rfl), zl⟩
         ·rw [if_neg c12] at H
          have c12b0 : decide (0 ≤ t238) = false := decide_eq_false c12
          clear c12
          by_cases c21 : 0 ≤ ((rd_T44 l0_1 x3_1).f0)
          ·rw [if_pos c21] at H
           have c21b0 : decide (0 ≤ ((rd_T44 l0_1 x3_1).f0)) = true := decide_eq_true c21
           clear c21
           by_cases c22 : ((rd_T44 l0_1 x3_1).f0) < (l0_0.length : Int)
           ·rw [if_pos c22] at H
            have c22b0 : decide (((rd_T44 l0_1 x3_1).f0) < (l0_0.length : Int)) = true := decide_eq_true c22
            clear c22
            obtain ⟨bq23, hbq23⟩ : ∃ b_ : Bool, b_ = ((rd_T62 l0_0 ((rd_T44 l0_1 x3_1).f0)).f2) := ⟨_, rfl⟩
            replace H : (if bq23 = true then ((spec_NullsOfFact.f k1 ((rd_T44 l0_1 x3_1).f0) ((rd_T44 l0_1 x3_1).f1)).bind fun t240 => (if (t240.length : Int) > 0 then (some false) else (spec_IsValidInstance.l0 k1 (wrap64 (x3_1 + 1)) l0_0 l0_1))) else (spec_IsValidInstance.l0 k1 (wrap64 (x3_1 + 1)) l0_0 l0_1)) = some r := by rw [← hbq23] at H; exact H
            have Nbq23 := Aside0.mk hbq23
            clear hbq23
            by_cases c24 : bq23 = true
            ·subst c24
             have H1 : ((spec_NullsOfFact.f k1 ((rd_T44 l0_1 x3_1).f0) ((rd_T44 l0_1 x3_1).f1)).bind fun t240 => (if (t240.length : Int) > 0 then (some false) else (spec_IsValidInstance.l0 k1 (wrap64 (x3_1 + 1)) l0_0 l0_1))) = some r := by first | with_reducible rfl | (rw [if_pos rfl] at H; exact H)
             clear H
             have H := H1
             clear H1
             replace H := Option.bind_eq_some_iff.mp H
             obtain ⟨t240, A250, H⟩ := H
             replace H : (if (t240.length : Int) > 0 then (some false) else (spec_IsValidInstance.l0 k1 (wrap64 (x3_1 + 1)) l0_0 l0_1)) = some r := H
             have A25 := Aside0.mk A250
             clear A250
             by_cases c26 : (t240.length : Int) > 0
             ·rw [if_pos c26] at H
              have c26b0 : decide (0 < (t240.length : Int)) = true := decide_eq_true c26
              have c26b1 : decide (0 < t240.length) = true := decide_eq_true (by omega)
              clear c26
              obtain rfl := Option.some.inj H
              have hcz27_0 : wr.cell? ⟨gb232, 0, none⟩ = some (.slice A0_0 l0_0.length c0_0) := (blk_cell BK232.out 0).trans rfl
              have hcz27_1 : wr.cell? ⟨gb232, 1, none⟩ = some (.slice A0_1 l0_1.length c0_1) := (blk_cell BK232.out 1).trans rfl
              have hfz27_0 := blk_frozen BK232.out 0
              have hfz27_1 := blk_frozen BK232.out 1
              have p234 : 0 ≤ (x3_1 : Int) := zd
              have q234 : x3_1 < (l0_1.length : Int) := zd
              obtain ⟨ad234, A234_1, c234_1, e234, hx234_0, hx234_1, hl234_1, hi234_1⟩ := at_T44 HR0_1.out x3_1 p234 q234
              cases e234
              replace hx234_0 := (HB.out.cell (World.block_lt_of_cell? w _ hx234_0)).trans hx234_0
              replace hx234_1 := (HB.out.cell (World.block_lt_of_cell? w _ hx234_1)).trans hx234_1
              have HR234_1 := Aside0.mk hi234_1
              have HC234_1 := Aside0.mk hl234_1
              clear hi234_1 hl234_1
              replace p234 := eq_true p234
              replace q234 := eq_true q234
              try go_wp2_with (first | ((with_reducible refine gate_dst (N := 4) rfl ?_); (try (refine gate_guard (by rfl) ?_; dsimp only)); refine box_event ?hg (N := 4) ?hd (cs := #[.int .i64 0, .slice none 0 0]) (t := 44) ?hr ?_; (case hd => rfl); (case hg => rfl); (case hr => first | (go_simp; done) | (go_simp; rfl)); intro gb235 hg w28 hbox hb; have BK235 := zm (hbox); have GW235 := zm ((by rw [hg]; exact (below_size zl) : w.heap.size ≤ gb235)); have GE235 := zm ((by rw [hg]; exact (below_size zl) : w.heap.size ≤ gb235)); replace HB := zm (below_step zl hb); have NB232_235 := zm (zl1 hg (zb BK232.out)); have NB235_232 := zm (zl2 hg (zb BK232.out)); replace BK232 := zm (blk_below (zb BK232.out) hb); clear hb hbox hg; have hnb29 := NB235_232.out; have hnc29 := NB232_235.out; have hcz30_0 : w28.cell? ⟨gb235, 0, none⟩ = some (.int .i64 0) := (blk_cell BK235.out 0).trans rfl; have hcz30_1 : w28.cell? ⟨gb235, 1, none⟩ = some (.slice none 0 0) := (blk_cell BK235.out 1).trans rfl; have hfz30_0 := blk_frozen BK235.out 0; have hfz30_1 := blk_frozen BK235.out 1))
              have n0_ : Aside0 (((w28.setCell ⟨gb235, 0, none⟩ (.int .i64 ((rd_T44 l0_1 x3_1).f0))).setCell ⟨gb235, 1, none⟩ (.slice A234_1 ((rd_T44 l0_1 x3_1).f1).length c234_1)).heap[gb232]? = some (.cells #[.slice A0_0 l0_0.length c0_0, .slice (some ad234) l0_1.length c0_1] 32 (0, 0))) := ⟨by (with_reducible repeat (first | refine blk_drewN ?_ _ | refine blk_drew ?_ | refine blk_alloc ?_ _)); refine blk_far ?_ NB232_235.out _; (with_reducible repeat (first | refine blk_drewN ?_ _ | refine blk_drew ?_ | refine blk_alloc ?_ _)); refine blk_far ?_ NB232_235.out _; (with_reducible repeat (first | refine blk_drewN ?_ _ | refine blk_drew ?_ | refine blk_alloc ?_ _)); exact BK232.out⟩
              have n1_ : Aside0 (((w28.setCell ⟨gb235, 0, none⟩ (.int .i64 ((rd_T44 l0_1 x3_1).f0))).setCell ⟨gb235, 1, none⟩ (.slice A234_1 ((rd_T44 l0_1 x3_1).f1).length c234_1)).heap[gb235]? = some (.cells #[.int .i64 ((rd_T44 l0_1 x3_1).f0), .slice A234_1 ((rd_T44 l0_1 x3_1).f1).length c234_1] 44 (0, 0))) := ⟨by (with_reducible repeat (first | refine blk_drewN ?_ _ | refine blk_drew ?_ | refine blk_alloc ?_ _)); refine blk_put (cs := #[.int .i64 ((rd_T44 l0_1 x3_1).f0), .slice none 0 0]) ?_ 1 _ rfl; (with_reducible repeat (first | refine blk_drewN ?_ _ | refine blk_drew ?_ | refine blk_alloc ?_ _)); refine blk_put (cs := #[.int .i64 0, .slice none 0 0]) ?_ 0 _ rfl; (with_reducible repeat (first | refine blk_drewN ?_ _ | refine blk_drew ?_ | refine blk_alloc ?_ _)); exact BK235.out⟩
              have n2_ : Aside0 (Below w.heap.size w ((w28.setCell ⟨gb235, 0, none⟩ (.int .i64 ((rd_T44 l0_1 x3_1).f0))).setCell ⟨gb235, 1, none⟩ (.slice A234_1 ((rd_T44 l0_1 x3_1).f1).length c234_1))) := ⟨zl⟩
              (try clear BK232)
              (try clear BK235)
              (try clear HB)
              generalize ((w28.setCell ⟨gb235, 0, none⟩ (.int .i64 ((rd_T44 l0_1 x3_1).f0))).setCell ⟨gb235, 1, none⟩ (.slice A234_1 ((rd_T44 l0_1 x3_1).f1).length c234_1)) = w31 at n0_ n1_ n2_ ⊢
              have BK232 := n0_
              have BK235 := n1_
              have HB := n2_
              clear n0_ n1_ n2_
              replace BK232 := zm (blk_drew BK232.out)
              replace BK235 := zm (blk_drew BK235.out)
              replace HB := zm (below_drew1 HB.out)
              have p237 : 0 ≤ ((ji8) : Int) := zd
              have q237 : (ji8) < (l0_1.length : Int) := zd
              obtain ⟨ad237, A237_1, c237_1, e237, hx237_0, hx237_1, hl237_1, hi237_1⟩ := at_T44 HR0_1.out (ji8) p237 q237
              have hw237_1 := hx237_1
              have hw237_0 := hx237_0
              obtain rfl : ad234 = ad237 := (by injection e237)
              replace hx237_0 := (HB.out.cell (World.block_lt_of_cell? w _ hx237_0)).trans hx237_0
              replace hx237_1 := (HB.out.cell (World.block_lt_of_cell? w _ hx237_1)).trans hx237_1
              have HR237_1 := Aside0.mk hi237_1
              have HC237_1 := Aside0.mk hl237_1
              clear hi237_1 hl237_1
              replace p237 := eq_true p237
              replace q237 := eq_true q237
              have p239 : 0 ≤ (((rd_T44 l0_1 x3_1).f0) : Int) := zd
              have q239 : ((rd_T44 l0_1 x3_1).f0) < (l0_0.length : Int) := zd
              obtain ⟨ad239, e239, hx239_0, hx239_1, hx239_2⟩ := at_T62 HR0_0.out ((rd_T44 l0_1 x3_1).f0) p239 q239
              have hw239_2 := hx239_2
              have hw239_1 := hx239_1
              have hw239_0 := hx239_0
              (try rw [← Nbq23.out] at hx239_2)
              (try rw [← Nbq23.out] at hw239_2)
              cases e239
              replace hx239_0 := (HB.out.cell (World.block_lt_of_cell? w _ hx239_0)).trans hx239_0
              replace hx239_1 := (HB.out.cell (World.block_lt_of_cell? w _ hx239_1)).trans hx239_1
              replace hx239_2 := (HB.out.cell (World.block_lt_of_cell? w _ hx239_2)).trans hx239_2
              replace p239 := eq_true p239
              replace q239 := eq_true q239
              refine start_ (n := 35) (S := fun w' => w'.cell? ⟨gb232, 0, none⟩ = some (.slice (some ad239) l0_0.length c0_0) ∧ w'.cell? ⟨gb232, 1, none⟩ = some (.slice (some ad234) l0_1.length c0_1) ∧ w'.cell? ⟨gb235, 0, none⟩ = some (.int .i64 ((rd_T44 l0_1 x3_1).f0)) ∧ w'.cell? ⟨gb235, 1, none⟩ = some (.slice A234_1 ((rd_T44 l0_1 x3_1).f1).length c234_1) ∧ w'.cell? (ad234.add (((ji8)).toNat * 2)) = some (.int .i64 ((rd_T44 l0_1 (ji8)).f0)) ∧ w'.cell? ⟨(ad234.add (((ji8)).toNat * 2)).block, (ad234.add (((ji8)).toNat * 2)).off + 1, none⟩ = some (.slice A237_1 ((rd_T44 l0_1 (ji8)).f1).length c237_1) ∧ w'.cell? (ad239.add ((((rd_T44 l0_1 x3_1).f0)).toNat * 3)) = some (.string ((rd_T62 l0_0 ((rd_T44 l0_1 x3_1).f0)).f0)) ∧ w'.cell? ⟨(ad239.add ((((rd_T44 l0_1 x3_1).f0)).toNat * 3)).block, (ad239.add ((((rd_T44 l0_1 x3_1).f0)).toNat * 3)).off + 1, none⟩ = some (.int .i64 ((rd_T62 l0_0 ((rd_T44 l0_1 x3_1).f0)).f1)) ∧ w'.cell? ⟨(ad239.add ((((rd_T44 l0_1 x3_1).f0)).toNat * 3)).block, (ad239.add ((((rd_T44 l0_1 x3_1).f0)).toNat * 3)).off + 2, none⟩ = some (.bool true)) (ds := []) #[false, false, false, false, false, false, false, false, false, false, false, false, false, false, false, false, false, false, false, false, false, false, false, false, false, false, false, false, false, false, false, false, false, false, false] (by kernel_rfl) rfl rfl ⟨(blk_cell BK232.out 0).trans rfl, (blk_cell BK232.out 1).trans rfl, (blk_cell BK235.out 0).trans rfl, (blk_cell BK235.out 1).trans rfl, ((HB.out.cell (World.block_lt_of_cell? w _ hw237_0)).trans hw237_0), ((HB.out.cell (World.block_lt_of_cell? w _ hw237_1)).trans hw237_1), ((HB.out.cell (World.block_lt_of_cell? w _ hw239_0)).trans hw239_0), ((HB.out.cell (World.block_lt_of_cell? w _ hw239_1)).trans hw239_1), ((HB.out.cell (World.block_lt_of_cell? w _ hw239_2)).trans hw239_2)⟩ (fun hHeld => ?_); refine with_tabW spec_IsValidInstance.tab5 spec_IsValidInstance.bits5 (fun HT_ HW_ => ?_)
              generalize w31.drew = w32 at BK232 BK235 HB HR237_1 hx237_0 hx237_1 hx239_0 hx239_1 hx239_2 hHeld ⊢
              refine zP 0 (some 17) (zA 35 1) (any_of HT_.out (by kernel_rfl)) ?_
              refine take_ (i := 1) (N := some 18) (v := ?_) (a' := ?_) (zA 35 3) rfl rfl (take_ofW HT_.out HW_.out (by kernel_rfl)) (fun _ _ _ h => h) (Or.inl ⟨by rfl, ?_⟩) hHeld ?_ ?_
              rotate_left
              ·rintro w' ⟨s0, s1, s2, s3, s4, s5, s6, s7, s8⟩
               go_simp
               with_reducible rfl
              rotate_left
              ·simp only [Act.put, List.setIfInBounds_toArray, List.set_cons_zero, List.set_cons_succ, i64_w, i32_w]
               rfl
              refine take_ (i := 2) (N := some 19) (v := ?_) (a' := ?_) (zA 35 7) rfl rfl (take_ofW HT_.out HW_.out (by kernel_rfl)) (fun _ _ _ h => h) (Or.inl ⟨by rfl, ?_⟩) hHeld ?_ ?_
              rotate_left
              ·rintro w' ⟨s0, s1, s2, s3, s4, s5, s6, s7, s8⟩
               go_simp
               with_reducible rfl
              rotate_left
              ·simp only [Act.put, List.setIfInBounds_toArray, List.set_cons_zero, List.set_cons_succ, i64_w, i32_w]
               rfl
              refine one_ (i := 3) (N := some 20) (zA 35 15) rfl rfl (one_of HT_.out (by kernel_rfl)) (by decide) (fun K hK => ?_)
              refine goes_ Try.func33 (by kernel_rfl) rfl #[.slice (some ad239) l0_0.length c0_0, .agg #[.int .i64 ((rd_T44 l0_1 x3_1).f0), .slice A234_1 ((rd_T44 l0_1 x3_1).f1).length c234_1]] (by rfl) rfl rfl (by (try simp only [List.map_toArray, List.map_cons, List.map_nil]); first | done | rfl | (simp only [List.length_drop, List.length_take]; rfl)) ?_
              with_reducible refine (spec_IsValidFact.calls k1 _ _ l0_0 ((rd_T44 l0_1 x3_1).f0) _ _ ((rd_T44 l0_1 x3_1).f1) true _ ?side1 ?side2 ?side3 ?side4 A5.out).mono ?_
              (case side1 => exact zc HR0_0.out)
              (case side2 => exact HC0_0.out)
              (case side3 => exact zc HR234_1.out)
              (case side4 => exact HC234_1.out)
              rintro e w33 ⟨rfl, hb⟩
              refine ⟨_, rfl, ?_⟩
              replace BK232 := zm (blk_below (zb BK232.out) hb)
              replace BK235 := zm (blk_below (zb BK235.out) hb)
              replace HB := zm (below_step zl hb)
              (try clear hb)
              refine hK.out _ _ ⟨(blk_cell BK232.out 0).trans rfl, (blk_cell BK232.out 1).trans rfl, (blk_cell BK235.out 0).trans rfl, (blk_cell BK235.out 1).trans rfl, ((HB.out.cell (World.block_lt_of_cell? w _ hw237_0)).trans hw237_0), ((HB.out.cell (World.block_lt_of_cell? w _ hw237_1)).trans hw237_1), ((HB.out.cell (World.block_lt_of_cell? w _ hw239_0)).trans hw239_0), ((HB.out.cell (World.block_lt_of_cell? w _ hw239_1)).trans hw239_1), ((HB.out.cell (World.block_lt_of_cell? w _ hw239_2)).trans hw239_2)⟩ (fun hHeld => ?_)
              clear hK K
              refine zO (some 20) ?_
              refine zP 4 (some 21) (zA 35 31) (any_of HT_.out (by kernel_rfl)) ?_
              refine zP 5 (some 22) (zA 35 63) (any_of HT_.out (by kernel_rfl)) ?_
              refine zP 6 (some 23) (zA 35 127) (any_of HT_.out (by kernel_rfl)) ?_
              refine zP 7 (some 24) (zA 35 255) (any_of HT_.out (by kernel_rfl)) ?_
              refine zP 8 (some 25) (zA 35 511) (any_of HT_.out (by kernel_rfl)) ?_
              refine zP 9 (some 26) (zA 35 1023) (any_of HT_.out (by kernel_rfl)) ?_
              refine zP 11 (some 28) (zA 35 3071) (any_of HT_.out (by kernel_rfl)) ?_
              refine zP 12 (some 29) (zA 35 7167) (any_of HT_.out (by kernel_rfl)) ?_
              refine take_ (i := 10) (N := some 27) (v := ?_) (a' := ?_) (zA 35 8191) rfl rfl (take_ofW HT_.out HW_.out (by kernel_rfl)) (fun _ _ _ h => h) (Or.inl ⟨by rfl, ?_⟩) hHeld ?_ ?_
              rotate_left
              ·rintro w' ⟨s0, s1, s2, s3, s4, s5, s6, s7, s8⟩
               go_simp
               with_reducible rfl
              rotate_left
              ·simp only [Act.put, List.setIfInBounds_toArray, List.set_cons_zero, List.set_cons_succ, i64_w, i32_w]
               rfl
              refine zP 13 (some 30) (zA 35 16383) (any_of HT_.out (by kernel_rfl)) ?_
              refine take_ (i := 14) (N := some 31) (v := ?_) (a' := ?_) (zA 35 32767) rfl rfl (take_ofW HT_.out HW_.out (by kernel_rfl)) (fun _ _ _ h => h) (Or.inl ⟨by rfl, ?_⟩) hHeld ?_ ?_
              rotate_left
              ·rintro w' ⟨s0, s1, s2, s3, s4, s5, s6, s7, s8⟩
               go_simp
               with_reducible rfl
              rotate_left
              ·simp only [Act.put, List.setIfInBounds_toArray, List.set_cons_zero, List.set_cons_succ, i64_w, i32_w]
               rfl
              refine take_ (i := 15) (N := some 32) (v := ?_) (a' := ?_) (zA 35 65535) rfl rfl (take_ofW HT_.out HW_.out (by kernel_rfl)) (fun _ _ _ h => h) (Or.inl ⟨by rfl, ?_⟩) hHeld ?_ ?_
              rotate_left
              ·rintro w' ⟨s0, s1, s2, s3, s4, s5, s6, s7, s8⟩
               go_simp
               with_reducible rfl
              rotate_left
              ·simp only [Act.put, List.setIfInBounds_toArray, List.set_cons_zero, List.set_cons_succ, i64_w, i32_w]
               rfl
              refine one_ (i := 16) (N := some 33) (zA 35 131071) rfl rfl (one_of HT_.out (by kernel_rfl)) (by decide) (fun K hK => ?_)
              refine goes_ Try.func34 (by kernel_rfl) rfl #[.agg #[.int .i64 ((rd_T44 l0_1 (ji8)).f0), .slice A237_1 ((rd_T44 l0_1 (ji8)).f1).length c237_1], .agg #[.int .i64 ((rd_T44 l0_1 x3_1).f0), .slice A234_1 ((rd_T44 l0_1 x3_1).f1).length c234_1]] (by rfl) rfl rfl (by (try simp only [List.map_toArray, List.map_cons, List.map_nil]); first | done | (simp only [hji8]; rfl) | rfl | (simp only [List.length_drop, List.length_take]; rfl)) ?_
              with_reducible refine (spec_CompareFacts.calls k1 ((rd_T44 l0_1 (ji8)).f0) _ _ ((rd_T44 l0_1 (ji8)).f1) ((rd_T44 l0_1 x3_1).f0) _ _ ((rd_T44 l0_1 x3_1).f1) t238 _ ?side1 ?side2 ?side3 ?side4 A11.out).mono ?_
              (case side1 => exact zc HR237_1.out)
              (case side2 => exact HC237_1.out)
              (case side3 => exact zc HR234_1.out)
              (case side4 => exact HC234_1.out)
              rintro e w34 ⟨rfl, hb⟩
              refine ⟨_, rfl, ?_⟩
              replace BK232 := zm (blk_below (zb BK232.out) hb)
              replace BK235 := zm (blk_below (zb BK235.out) hb)
              replace HB := zm (below_step zl hb)
              (try clear hb)
              refine hK.out _ _ ⟨(blk_cell BK232.out 0).trans rfl, (blk_cell BK232.out 1).trans rfl, (blk_cell BK235.out 0).trans rfl, (blk_cell BK235.out 1).trans rfl, ((HB.out.cell (World.block_lt_of_cell? w _ hw237_0)).trans hw237_0), ((HB.out.cell (World.block_lt_of_cell? w _ hw237_1)).trans hw237_1), ((HB.out.cell (World.block_lt_of_cell? w _ hw239_0)).trans hw239_0), ((HB.out.cell (World.block_lt_of_cell? w _ hw239_1)).trans hw239_1), ((HB.out.cell (World.block_lt_of_cell? w _ hw239_2)).trans hw239_2)⟩ (fun hHeld => ?_)
              clear hK K
              refine zO (some 33) ?_
              refine zP 17 (some 34) (zA 35 262143) (any_of HT_.out (by kernel_rfl)) ?_
              refine zP 18 (some 35) (zA 35 524287) (any_of HT_.out (by kernel_rfl)) ?_
              refine zP 19 (some 36) (zA 35 1048575) (any_of HT_.out (by kernel_rfl)) ?_
              refine zP 20 (some 37) (zA 35 2097151) (any_of HT_.out (by kernel_rfl)) ?_
              refine zP 21 (some 38) (zA 35 4194303) (any_of HT_.out (by kernel_rfl)) ?_
              refine zP 23 (some 40) (zA 35 12582911) (any_of HT_.out (by kernel_rfl)) ?_
              refine take_ (i := 22) (N := some 39) (v := ?_) (a' := ?_) (zA 35 16777215) rfl rfl (take_ofW HT_.out HW_.out (by kernel_rfl)) (fun _ _ _ h => h) (Or.inl ⟨by rfl, ?_⟩) hHeld ?_ ?_
              rotate_left
              ·rintro w' ⟨s0, s1, s2, s3, s4, s5, s6, s7, s8⟩
               go_simp
               with_reducible rfl
              rotate_left
              ·simp only [Act.put, List.setIfInBounds_toArray, List.set_cons_zero, List.set_cons_succ, i64_w, i32_w]
               rfl
              refine take_ (i := 24) (N := some 41) (v := ?_) (a' := ?_) (zA 35 33554431) rfl rfl (take_ofW HT_.out HW_.out (by kernel_rfl)) (fun _ _ _ h => h) (Or.inl ⟨by rfl, ?_⟩) hHeld ?_ ?_
              rotate_left
              ·rintro w' ⟨s0, s1, s2, s3, s4, s5, s6, s7, s8⟩
               go_simp
               with_reducible rfl
              rotate_left
              ·simp only [Act.put, List.setIfInBounds_toArray, List.set_cons_zero, List.set_cons_succ, i64_w, i32_w]
               rfl
              refine zP 25 (some 42) (zA 35 67108863) (any_of HT_.out (by kernel_rfl)) ?_
              refine zP 26 (some 43) (zA 35 134217727) (any_of HT_.out (by kernel_rfl)) ?_
              refine take_ (i := 27) (N := some 44) (v := ?_) (a' := ?_) (zA 35 268435455) rfl rfl (take_ofW HT_.out HW_.out (by kernel_rfl)) (fun _ _ _ h => h) (Or.inl ⟨by rfl, ?_⟩) hHeld ?_ ?_
              rotate_left
              ·rintro w' ⟨s0, s1, s2, s3, s4, s5, s6, s7, s8⟩
               go_simp
               with_reducible rfl
              rotate_left
              ·simp only [Act.put, List.setIfInBounds_toArray, List.set_cons_zero, List.set_cons_succ, i64_w, i32_w]
               rfl
              refine zP 28 (some 45) (zA 35 536870911) (any_of HT_.out (by kernel_rfl)) ?_
              refine take_ (i := 29) (N := some 46) (v := ?_) (a' := ?_) (zA 35 1073741823) rfl rfl (take_ofW HT_.out HW_.out (by kernel_rfl)) (fun _ _ _ h => h) (Or.inl ⟨by rfl, ?_⟩) hHeld ?_ ?_
              rotate_left
              ·rintro w' ⟨s0, s1, s2, s3, s4, s5, s6, s7, s8⟩
               go_simp
               with_reducible rfl
              rotate_left
              ·simp only [Act.put, List.setIfInBounds_toArray, List.set_cons_zero, List.set_cons_succ, i64_w, i32_w]
               rfl
              refine one_ (i := 30) (N := some 47) (zA 35 2147483647) rfl rfl (one_of HT_.out (by kernel_rfl)) (by decide) (fun K hK => ?_)
              refine goes_ Try.func24 (by kernel_rfl) rfl #[.agg #[.int .i64 ((rd_T44 l0_1 x3_1).f0), .slice A234_1 ((rd_T44 l0_1 x3_1).f1).length c234_1]] (by rfl) rfl rfl (by (try simp only [List.map_toArray, List.map_cons, List.map_nil]); first | done | rfl | (simp only [List.length_drop, List.length_take]; rfl)) ?_
              with_reducible refine (spec_NullsOfFact.calls k1 ((rd_T44 l0_1 x3_1).f0) _ _ ((rd_T44 l0_1 x3_1).f1) t240 _ ?side1 ?side2 A25.out).mono ?_
              (case side1 => exact zc HR234_1.out)
              (case side2 => exact HC234_1.out)
              rintro e w35 ⟨v241, rfl, ho0, hb⟩
              refine ⟨_, rfl, ?_⟩
              have HO242 := zm (Kd.R_lower ho0 (below_size zl))
              replace BK232 := zm (blk_below (zb BK232.out) hb)
              replace BK235 := zm (blk_below (zb BK235.out) hb)
              replace HB := zm (below_step zl hb)
              (try clear hb)
              (try clear ho0)
              obtain ⟨Ao36, co36, eo36⟩ := Kd.R_slice HO242.out
              (first | subst eo36 | (injection eo36 with f1_ f2_ f3_; have f4_ := f1_.symm; have f5_ := f3_.symm; clear f1_ f2_ f3_; subst f4_; subst f5_))
              refine hK.out _ _ ⟨(blk_cell BK232.out 0).trans rfl, (blk_cell BK232.out 1).trans rfl, (blk_cell BK235.out 0).trans rfl, (blk_cell BK235.out 1).trans rfl, ((HB.out.cell (World.block_lt_of_cell? w _ hw237_0)).trans hw237_0), ((HB.out.cell (World.block_lt_of_cell? w _ hw237_1)).trans hw237_1), ((HB.out.cell (World.block_lt_of_cell? w _ hw239_0)).trans hw239_0), ((HB.out.cell (World.block_lt_of_cell? w _ hw239_1)).trans hw239_1), ((HB.out.cell (World.block_lt_of_cell? w _ hw239_2)).trans hw239_2)⟩ (fun hHeld => ?_)
              clear hK K
              refine zO (some 47) ?_
              refine zP 31 (some 48) (zA 35 4294967295) (any_of HT_.out (by kernel_rfl)) ?_
              refine zP 32 (some 49) (zA 35 8589934591) (any_of HT_.out (by kernel_rfl)) ?_
              refine zP 33 (some 50) (zA 35 17179869183) (any_of HT_.out (by kernel_rfl)) ?_
              refine zP 34 (some 51) (zA 35 34359738367) (any_of HT_.out (by kernel_rfl)) ?_
              refine done_ (done_of HT_.out (by kernel_rfl)) ?_
              try go_wp2
              go_ret
              exact ⟨by first | rfl | (simp [errW_none, errW_some] <;> rfl) | (simp only [← hji8]; first | rfl | (simp [errW_none, errW_some] <;> rfl)) | (simp [*, errW_none, errW_some] <;> rfl), zl⟩
             ·rw [if_neg c26] at H
              have c26b0 : decide (0 < (t240.length : Int)) = false := decide_eq_false c26
              have c26b1 : decide (0 < t240.length) = false := decide_eq_false (by omega)
              clear c26
              have H' := Aside0.mk H
              clear H
              have hcz37_0 : wr.cell? ⟨gb232, 0, none⟩ = some (.slice A0_0 l0_0.length c0_0) := (blk_cell BK232.out 0).trans rfl
              have hcz37_1 : wr.cell? ⟨gb232, 1, none⟩ = some (.slice A0_1 l0_1.length c0_1) := (blk_cell BK232.out 1).trans rfl
              have hfz37_0 := blk_frozen BK232.out 0
              have hfz37_1 := blk_frozen BK232.out 1
              have p234 : 0 ≤ (x3_1 : Int) := zd
              have q234 : x3_1 < (l0_1.length : Int) := zd
              obtain ⟨ad234, A234_1, c234_1, e234, hx234_0, hx234_1, hl234_1, hi234_1⟩ := at_T44 HR0_1.out x3_1 p234 q234
              cases e234
              replace hx234_0 := (HB.out.cell (World.block_lt_of_cell? w _ hx234_0)).trans hx234_0
              replace hx234_1 := (HB.out.cell (World.block_lt_of_cell? w _ hx234_1)).trans hx234_1
              have HR234_1 := Aside0.mk hi234_1
              have HC234_1 := Aside0.mk hl234_1
              clear hi234_1 hl234_1
              replace p234 := eq_true p234
              replace q234 := eq_true q234
              try go_wp2_with (first | ((with_reducible refine gate_dst (N := 4) rfl ?_); (try (refine gate_guard (by rfl) ?_; dsimp only)); refine box_event ?hg (N := 4) ?hd (cs := #[.int .i64 0, .slice none 0 0]) (t := 44) ?hr ?_; (case hd => rfl); (case hg => rfl); (case hr => first | (go_simp; done) | (go_simp; rfl)); intro gb235 hg w38 hbox hb; have BK235 := zm (hbox); have GW235 := zm ((by rw [hg]; exact (below_size zl) : w.heap.size ≤ gb235)); have GE235 := zm ((by rw [hg]; exact (below_size zl) : w.heap.size ≤ gb235)); replace HB := zm (below_step zl hb); have NB232_235 := zm (zl1 hg (zb BK232.out)); have NB235_232 := zm (zl2 hg (zb BK232.out)); replace BK232 := zm (blk_below (zb BK232.out) hb); clear hb hbox hg; have hnb39 := NB235_232.out; have hnc39 := NB232_235.out; have hcz40_0 : w38.cell? ⟨gb235, 0, none⟩ = some (.int .i64 0) := (blk_cell BK235.out 0).trans rfl; have hcz40_1 : w38.cell? ⟨gb235, 1, none⟩ = some (.slice none 0 0) := (blk_cell BK235.out 1).trans rfl; have hfz40_0 := blk_frozen BK235.out 0; have hfz40_1 := blk_frozen BK235.out 1))
              have n0_ : Aside0 (((w38.setCell ⟨gb235, 0, none⟩ (.int .i64 ((rd_T44 l0_1 x3_1).f0))).setCell ⟨gb235, 1, none⟩ (.slice A234_1 ((rd_T44 l0_1 x3_1).f1).length c234_1)).heap[gb232]? = some (.cells #[.slice A0_0 l0_0.length c0_0, .slice (some ad234) l0_1.length c0_1] 32 (0, 0))) := ⟨by (with_reducible repeat (first | refine blk_drewN ?_ _ | refine blk_drew ?_ | refine blk_alloc ?_ _)); refine blk_far ?_ NB232_235.out _; (with_reducible repeat (first | refine blk_drewN ?_ _ | refine blk_drew ?_ | refine blk_alloc ?_ _)); refine blk_far ?_ NB232_235.out _; (with_reducible repeat (first | refine blk_drewN ?_ _ | refine blk_drew ?_ | refine blk_alloc ?_ _)); exact BK232.out⟩
              have n1_ : Aside0 (((w38.setCell ⟨gb235, 0, none⟩ (.int .i64 ((rd_T44 l0_1 x3_1).f0))).setCell ⟨gb235, 1, none⟩ (.slice A234_1 ((rd_T44 l0_1 x3_1).f1).length c234_1)).heap[gb235]? = some (.cells #[.int .i64 ((rd_T44 l0_1 x3_1).f0), .slice A234_1 ((rd_T44 l0_1 x3_1).f1).length c234_1] 44 (0, 0))) := ⟨by (with_reducible repeat (first | refine blk_drewN ?_ _ | refine blk_drew ?_ | refine blk_alloc ?_ _)); refine blk_put (cs := #[.int .i64 ((rd_T44 l0_1 x3_1).f0), .slice none 0 0]) ?_ 1 _ rfl; (with_reducible repeat (first | refine blk_drewN ?_ _ | refine blk_drew ?_ | refine blk_alloc ?_ _)); refine blk_put (cs := #[.int .i64 0, .slice none 0 0]) ?_ 0 _ rfl; (with_reducible repeat (first | refine blk_drewN ?_ _ | refine blk_drew ?_ | refine blk_alloc ?_ _)); exact BK235.out⟩
              have n2_ : Aside0 (Below w.heap.size w ((w38.setCell ⟨gb235, 0, none⟩ (.int .i64 ((rd_T44 l0_1 x3_1).f0))).setCell ⟨gb235, 1, none⟩ (.slice A234_1 ((rd_T44 l0_1 x3_1).f1).length c234_1))) := ⟨zl⟩
              (try clear BK232)
              (try clear BK235)
              (try clear HB)
              generalize ((w38.setCell ⟨gb235, 0, none⟩ (.int .i64 ((rd_T44 l0_1 x3_1).f0))).setCell ⟨gb235, 1, none⟩ (.slice A234_1 ((rd_T44 l0_1 x3_1).f1).length c234_1)) = w41 at n0_ n1_ n2_ ⊢
              have BK232 := n0_
              have BK235 := n1_
              have HB := n2_
              clear n0_ n1_ n2_
              replace BK232 := zm (blk_drew BK232.out)
              replace BK235 := zm (blk_drew BK235.out)
              replace HB := zm (below_drew1 HB.out)
              have p237 : 0 ≤ ((ji8) : Int) := zd
              have q237 : (ji8) < (l0_1.length : Int) := zd
              obtain ⟨ad237, A237_1, c237_1, e237, hx237_0, hx237_1, hl237_1, hi237_1⟩ := at_T44 HR0_1.out (ji8) p237 q237
              have hw237_1 := hx237_1
              have hw237_0 := hx237_0
              obtain rfl : ad234 = ad237 := (by injection e237)
              replace hx237_0 := (HB.out.cell (World.block_lt_of_cell? w _ hx237_0)).trans hx237_0
              replace hx237_1 := (HB.out.cell (World.block_lt_of_cell? w _ hx237_1)).trans hx237_1
              have HR237_1 := Aside0.mk hi237_1
              have HC237_1 := Aside0.mk hl237_1
              clear hi237_1 hl237_1
              replace p237 := eq_true p237
              replace q237 := eq_true q237
              have p239 : 0 ≤ (((rd_T44 l0_1 x3_1).f0) : Int) := zd
              have q239 : ((rd_T44 l0_1 x3_1).f0) < (l0_0.length : Int) := zd
              obtain ⟨ad239, e239, hx239_0, hx239_1, hx239_2⟩ := at_T62 HR0_0.out ((rd_T44 l0_1 x3_1).f0) p239 q239
              have hw239_2 := hx239_2
              have hw239_1 := hx239_1
              have hw239_0 := hx239_0
              (try rw [← Nbq23.out] at hx239_2)
              (try rw [← Nbq23.out] at hw239_2)
              cases e239
              replace hx239_0 := (HB.out.cell (World.block_lt_of_cell? w _ hx239_0)).trans hx239_0
              replace hx239_1 := (HB.out.cell (World.block_lt_of_cell? w _ hx239_1)).trans hx239_1
              replace hx239_2 := (HB.out.cell (World.block_lt_of_cell? w _ hx239_2)).trans hx239_2
              replace p239 := eq_true p239
              replace q239 := eq_true q239
              refine start_ (n := 35) (S := fun w' => w'.cell? ⟨gb232, 0, none⟩ = some (.slice (some ad239) l0_0.length c0_0) ∧ w'.cell? ⟨gb232, 1, none⟩ = some (.slice (some ad234) l0_1.length c0_1) ∧ w'.cell? ⟨gb235, 0, none⟩ = some (.int .i64 ((rd_T44 l0_1 x3_1).f0)) ∧ w'.cell? ⟨gb235, 1, none⟩ = some (.slice A234_1 ((rd_T44 l0_1 x3_1).f1).length c234_1) ∧ w'.cell? (ad234.add (((ji8)).toNat * 2)) = some (.int .i64 ((rd_T44 l0_1 (ji8)).f0)) ∧ w'.cell? ⟨(ad234.add (((ji8)).toNat * 2)).block, (ad234.add (((ji8)).toNat * 2)).off + 1, none⟩ = some (.slice A237_1 ((rd_T44 l0_1 (ji8)).f1).length c237_1) ∧ w'.cell? (ad239.add ((((rd_T44 l0_1 x3_1).f0)).toNat * 3)) = some (.string ((rd_T62 l0_0 ((rd_T44 l0_1 x3_1).f0)).f0)) ∧ w'.cell? ⟨(ad239.add ((((rd_T44 l0_1 x3_1).f0)).toNat * 3)).block, (ad239.add ((((rd_T44 l0_1 x3_1).f0)).toNat * 3)).off + 1, none⟩ = some (.int .i64 ((rd_T62 l0_0 ((rd_T44 l0_1 x3_1).f0)).f1)) ∧ w'.cell? ⟨(ad239.add ((((rd_T44 l0_1 x3_1).f0)).toNat * 3)).block, (ad239.add ((((rd_T44 l0_1 x3_1).f0)).toNat * 3)).off + 2, none⟩ = some (.bool true)) (ds := []) #[false, false, false, false, false, false, false, false, false, false, false, false, false, false, false, false, false, false, false, false, false, false, false, false, false, false, false, false, false, false, false, false, false, false, false] (by kernel_rfl) rfl rfl ⟨(blk_cell BK232.out 0).trans rfl, (blk_cell BK232.out 1).trans rfl, (blk_cell BK235.out 0).trans rfl, (blk_cell BK235.out 1).trans rfl, ((HB.out.cell (World.block_lt_of_cell? w _ hw237_0)).trans hw237_0), ((HB.out.cell (World.block_lt_of_cell? w _ hw237_1)).trans hw237_1), ((HB.out.cell (World.block_lt_of_cell? w _ hw239_0)).trans hw239_0), ((HB.out.cell (World.block_lt_of_cell? w _ hw239_1)).trans hw239_1), ((HB.out.cell (World.block_lt_of_cell? w _ hw239_2)).trans hw239_2)⟩ (fun hHeld => ?_); refine with_tabW spec_IsValidInstance.tab5 spec_IsValidInstance.bits5 (fun HT_ HW_ => ?_)
              generalize w41.drew = w42 at BK232 BK235 HB HR237_1 hx237_0 hx237_1 hx239_0 hx239_1 hx239_2 hHeld ⊢
              refine zP 0 (some 17) (zA 35 1) (any_of HT_.out (by kernel_rfl)) ?_
              refine take_ (i := 1) (N := some 18) (v := ?_) (a' := ?_) (zA 35 3) rfl rfl (take_ofW HT_.out HW_.out (by kernel_rfl)) (fun _ _ _ h => h) (Or.inl ⟨by rfl, ?_⟩) hHeld ?_ ?_
              rotate_left
              ·rintro w' ⟨s0, s1, s2, s3, s4, s5, s6, s7, s8⟩
               go_simp
               with_reducible rfl
              rotate_left
              ·simp only [Act.put, List.setIfInBounds_toArray, List.set_cons_zero, List.set_cons_succ, i64_w, i32_w]
               rfl
              refine take_ (i := 2) (N := some 19) (v := ?_) (a' := ?_) (zA 35 7) rfl rfl (take_ofW HT_.out HW_.out (by kernel_rfl)) (fun _ _ _ h => h) (Or.inl ⟨by rfl, ?_⟩) hHeld ?_ ?_
              rotate_left
              ·rintro w' ⟨s0, s1, s2, s3, s4, s5, s6, s7, s8⟩
               go_simp
               with_reducible rfl
              rotate_left
              ·simp only [Act.put, List.setIfInBounds_toArray, List.set_cons_zero, List.set_cons_succ, i64_w, i32_w]
               rfl
              refine one_ (i := 3) (N := some 20) (zA 35 15) rfl rfl (one_of HT_.out (by kernel_rfl)) (by decide) (fun K hK => ?_)
              refine goes_ Try.func33 (by kernel_rfl) rfl #[.slice (some ad239) l0_0.length c0_0, .agg #[.int .i64 ((rd_T44 l0_1 x3_1).f0), .slice A234_1 ((rd_T44 l0_1 x3_1).f1).length c234_1]] (by rfl) rfl rfl (by (try simp only [List.map_toArray, List.map_cons, List.map_nil]); first | done | rfl | (simp only [List.length_drop, List.length_take]; rfl)) ?_
              with_reducible refine (spec_IsValidFact.calls k1 _ _ l0_0 ((rd_T44 l0_1 x3_1).f0) _ _ ((rd_T44 l0_1 x3_1).f1) true _ ?side1 ?side2 ?side3 ?side4 A5.out).mono ?_
              (case side1 => exact zc HR0_0.out)
              (case side2 => exact HC0_0.out)
              (case side3 => exact zc HR234_1.out)
              (case side4 => exact HC234_1.out)
              rintro e w43 ⟨rfl, hb⟩
              refine ⟨_, rfl, ?_⟩
              replace BK232 := zm (blk_below (zb BK232.out) hb)
              replace BK235 := zm (blk_below (zb BK235.out) hb)
              replace HB := zm (below_step zl hb)
              (try clear hb)
              refine hK.out _ _ ⟨(blk_cell BK232.out 0).trans rfl, (blk_cell BK232.out 1).trans rfl, (blk_cell BK235.out 0).trans rfl, (blk_cell BK235.out 1).trans rfl, ((HB.out.cell (World.block_lt_of_cell? w _ hw237_0)).trans hw237_0), ((HB.out.cell (World.block_lt_of_cell? w _ hw237_1)).trans hw237_1), ((HB.out.cell (World.block_lt_of_cell? w _ hw239_0)).trans hw239_0), ((HB.out.cell (World.block_lt_of_cell? w _ hw239_1)).trans hw239_1), ((HB.out.cell (World.block_lt_of_cell? w _ hw239_2)).trans hw239_2)⟩ (fun hHeld => ?_)
              clear hK K
              refine zO (some 20) ?_
              refine zP 4 (some 21) (zA 35 31) (any_of HT_.out (by kernel_rfl)) ?_
              refine zP 5 (some 22) (zA 35 63) (any_of HT_.out (by kernel_rfl)) ?_
              refine zP 6 (some 23) (zA 35 127) (any_of HT_.out (by kernel_rfl)) ?_
              refine zP 7 (some 24) (zA 35 255) (any_of HT_.out (by kernel_rfl)) ?_
              refine zP 8 (some 25) (zA 35 511) (any_of HT_.out (by kernel_rfl)) ?_
              refine zP 9 (some 26) (zA 35 1023) (any_of HT_.out (by kernel_rfl)) ?_
              refine zP 11 (some 28) (zA 35 3071) (any_of HT_.out (by kernel_rfl)) ?_
              refine zP 12 (some 29) (zA 35 7167) (any_of HT_.out (by kernel_rfl)) ?_
              refine take_ (i := 10) (N := some 27) (v := ?_) (a' := ?_) (zA 35 8191) rfl rfl (take_ofW HT_.out HW_.out (by kernel_rfl)) (fun _ _ _ h => h) (Or.inl ⟨by rfl, ?_⟩) hHeld ?_ ?_
              rotate_left
              ·rintro w' ⟨s0, s1, s2, s3, s4, s5, s6, s7, s8⟩
               go_simp
               with_reducible rfl
              rotate_left
              ·simp only [Act.put, List.setIfInBounds_toArray, List.set_cons_zero, List.set_cons_succ, i64_w, i32_w]
               rfl
              refine zP 13 (some 30) (zA 35 16383) (any_of HT_.out (by kernel_rfl)) ?_
              refine take_ (i := 14) (N := some 31) (v := ?_) (a' := ?_) (zA 35 32767) rfl rfl (take_ofW HT_.out HW_.out (by kernel_rfl)) (fun _ _ _ h => h) (Or.inl ⟨by rfl, ?_⟩) hHeld ?_ ?_
              rotate_left
              ·rintro w' ⟨s0, s1, s2, s3, s4, s5, s6, s7, s8⟩
               go_simp
               with_reducible rfl
              rotate_left
              ·simp only [Act.put, List.setIfInBounds_toArray, List.set_cons_zero, List.set_cons_succ, i64_w, i32_w]
               rfl
              refine take_ (i := 15) (N := some 32) (v := ?_) (a' := ?_) (zA 35 65535) rfl rfl (take_ofW HT_.out HW_.out (by kernel_rfl)) (fun _ _ _ h => h) (Or.inl ⟨by rfl, ?_⟩) hHeld ?_ ?_
              rotate_left
              ·rintro w' ⟨s0, s1, s2, s3, s4, s5, s6, s7, s8⟩
               go_simp
               with_reducible rfl
              rotate_left
              ·simp only [Act.put, List.setIfInBounds_toArray, List.set_cons_zero, List.set_cons_succ, i64_w, i32_w]
               rfl
              refine one_ (i := 16) (N := some 33) (zA 35 131071) rfl rfl (one_of HT_.out (by kernel_rfl)) (by decide) (fun K hK => ?_)
              refine goes_ Try.func34 (by kernel_rfl) rfl #[.agg #[.int .i64 ((rd_T44 l0_1 (ji8)).f0), .slice A237_1 ((rd_T44 l0_1 (ji8)).f1).length c237_1], .agg #[.int .i64 ((rd_T44 l0_1 x3_1).f0), .slice A234_1 ((rd_T44 l0_1 x3_1).f1).length c234_1]] (by rfl) rfl rfl (by (try simp only [List.map_toArray, List.map_cons, List.map_nil]); first | done | (simp only [hji8]; rfl) | rfl | (simp only [List.length_drop, List.length_take]; rfl)) ?_
              with_reducible refine (spec_CompareFacts.calls k1 ((rd_T44 l0_1 (ji8)).f0) _ _ ((rd_T44 l0_1 (ji8)).f1) ((rd_T44 l0_1 x3_1).f0) _ _ ((rd_T44 l0_1 x3_1).f1) t238 _ ?side1 ?side2 ?side3 ?side4 A11.out).mono ?_
              (case side1 => exact zc HR237_1.out)
              (case side2 => exact HC237_1.out)
              (case side3 => exact zc HR234_1.out)
              (case side4 => exact HC234_1.out)
              rintro e w44 ⟨rfl, hb⟩
              refine ⟨_, rfl, ?_⟩
              replace BK232 := zm (blk_below (zb BK232.out) hb)
              replace BK235 := zm (blk_below (zb BK235.out) hb)
              replace HB := zm (below_step zl hb)
              (try clear hb)
              refine hK.out _ _ ⟨(blk_cell BK232.out 0).trans rfl, (blk_cell BK232.out 1).trans rfl, (blk_cell BK235.out 0).trans rfl, (blk_cell BK235.out 1).trans rfl, ((HB.out.cell (World.block_lt_of_cell? w _ hw237_0)).trans hw237_0), ((HB.out.cell (World.block_lt_of_cell? w _ hw237_1)).trans hw237_1), ((HB.out.cell (World.block_lt_of_cell? w _ hw239_0)).trans hw239_0), ((HB.out.cell (World.block_lt_of_cell? w _ hw239_1)).trans hw239_1), ((HB.out.cell (World.block_lt_of_cell? w _ hw239_2)).trans hw239_2)⟩ (fun hHeld => ?_)
              clear hK K
              refine zO (some 33) ?_
              refine zP 17 (some 34) (zA 35 262143) (any_of HT_.out (by kernel_rfl)) ?_
              refine zP 18 (some 35) (zA 35 524287) (any_of HT_.out (by kernel_rfl)) ?_
              refine zP 19 (some 36) (zA 35 1048575) (any_of HT_.out (by kernel_rfl)) ?_
              refine zP 20 (some 37) (zA 35 2097151) (any_of HT_.out (by kernel_rfl)) ?_
              refine zP 21 (some 38) (zA 35 4194303) (any_of HT_.out (by kernel_rfl)) ?_
              refine zP 23 (some 40) (zA 35 12582911) (any_of HT_.out (by kernel_rfl)) ?_
              refine take_ (i := 22) (N := some 39) (v := ?_) (a' := ?_) (zA 35 16777215) rfl rfl (take_ofW HT_.out HW_.out (by kernel_rfl)) (fun _ _ _ h => h) (Or.inl ⟨by rfl, ?_⟩) hHeld ?_ ?_
              rotate_left
              ·rintro w' ⟨s0, s1, s2, s3, s4, s5, s6, s7, s8⟩
               go_simp
               with_reducible rfl
              rotate_left
              ·simp only [Act.put, List.setIfInBounds_toArray, List.set_cons_zero, List.set_cons_succ, i64_w, i32_w]
               rfl
              refine take_ (i := 24) (N := some 41) (v := ?_) (a' := ?_) (zA 35 33554431) rfl rfl (take_ofW HT_.out HW_.out (by kernel_rfl)) (fun _ _ _ h => h) (Or.inl ⟨by rfl, ?_⟩) hHeld ?_ ?_
              rotate_left
              ·rintro w' ⟨s0, s1, s2, s3, s4, s5, s6, s7, s8⟩
               go_simp
               with_reducible rfl
              rotate_left
              ·simp only [Act.put, List.setIfInBounds_toArray, List.set_cons_zero, List.set_cons_succ, i64_w, i32_w]
               rfl
              refine zP 25 (some 42) (zA 35 67108863) (any_of HT_.out (by kernel_rfl)) ?_
              refine zP 26 (some 43) (zA 35 134217727) (any_of HT_.out (by kernel_rfl)) ?_
              refine take_ (i := 27) (N := some 44) (v := ?_) (a' := ?_) (zA 35 268435455) rfl rfl (take_ofW HT_.out HW_.out (by kernel_rfl)) (fun _ _ _ h => h) (Or.inl ⟨by rfl, ?_⟩) hHeld ?_ ?_
              rotate_left
              ·rintro w' ⟨s0, s1, s2, s3, s4, s5, s6, s7, s8⟩
               go_simp
               with_reducible rfl
              rotate_left
              ·simp only [Act.put, List.setIfInBounds_toArray, List.set_cons_zero, List.set_cons_succ, i64_w, i32_w]
               rfl
              refine zP 28 (some 45) (zA 35 536870911) (any_of HT_.out (by kernel_rfl)) ?_
              refine take_ (i := 29) (N := some 46) (v := ?_) (a' := ?_) (zA 35 1073741823) rfl rfl (take_ofW HT_.out HW_.out (by kernel_rfl)) (fun _ _ _ h => h) (Or.inl ⟨by rfl, ?_⟩) hHeld ?_ ?_
              rotate_left
              ·rintro w' ⟨s0, s1, s2, s3, s4, s5, s6, s7, s8⟩
               go_simp
               with_reducible rfl
              rotate_left
              ·simp only [Act.put, List.setIfInBounds_toArray, List.set_cons_zero, List.set_cons_succ, i64_w, i32_w]
               rfl
              refine one_ (i := 30) (N := some 47) (zA 35 2147483647) rfl rfl (one_of HT_.out (by kernel_rfl)) (by decide) (fun K hK => ?_)
              refine goes_ Try.func24 (by kernel_rfl) rfl #[.agg #[.int .i64 ((rd_T44 l0_1 x3_1).f0), .slice A234_1 ((rd_T44 l0_1 x3_1).f1).length c234_1]] (by rfl) rfl rfl (by (try simp only [List.map_toArray, List.map_cons, List.map_nil]); first | done | rfl | (simp only [List.length_drop, List.length_take]; rfl)) ?_
              with_reducible refine (spec_NullsOfFact.calls k1 ((rd_T44 l0_1 x3_1).f0) _ _ ((rd_T44 l0_1 x3_1).f1) t240 _ ?side1 ?side2 A25.out).mono ?_
              (case side1 => exact zc HR234_1.out)
              (case side2 => exact HC234_1.out)
              rintro e w45 ⟨v241, rfl, ho0, hb⟩
              refine ⟨_, rfl, ?_⟩
              have HO242 := zm (Kd.R_lower ho0 (below_size zl))
              replace BK232 := zm (blk_below (zb BK232.out) hb)
              replace BK235 := zm (blk_below (zb BK235.out) hb)
              replace HB := zm (below_step zl hb)
              (try clear hb)
              (try clear ho0)
              obtain ⟨Ao46, co46, eo46⟩ := Kd.R_slice HO242.out
              (first | subst eo46 | (injection eo46 with f1_ f2_ f3_; have f4_ := f1_.symm; have f5_ := f3_.symm; clear f1_ f2_ f3_; subst f4_; subst f5_))
              refine hK.out _ _ ⟨(blk_cell BK232.out 0).trans rfl, (blk_cell BK232.out 1).trans rfl, (blk_cell BK235.out 0).trans rfl, (blk_cell BK235.out 1).trans rfl, ((HB.out.cell (World.block_lt_of_cell? w _ hw237_0)).trans hw237_0), ((HB.out.cell (World.block_lt_of_cell? w _ hw237_1)).trans hw237_1), ((HB.out.cell (World.block_lt_of_cell? w _ hw239_0)).trans hw239_0), ((HB.out.cell (World.block_lt_of_cell? w _ hw239_1)).trans hw239_1), ((HB.out.cell (World.block_lt_of_cell? w _ hw239_2)).trans hw239_2)⟩ (fun hHeld => ?_)
              clear hK K
              refine zO (some 47) ?_
              refine zP 31 (some 48) (zA 35 4294967295) (any_of HT_.out (by kernel_rfl)) ?_
              refine zP 32 (some 49) (zA 35 8589934591) (any_of HT_.out (by kernel_rfl)) ?_
              refine zP 33 (some 50) (zA 35 17179869183) (any_of HT_.out (by kernel_rfl)) ?_
              refine zP 34 (some 51) (zA 35 34359738367) (any_of HT_.out (by kernel_rfl)) ?_
              refine done_ (done_of HT_.out (by kernel_rfl)) ?_
              try go_wp2
              go_roundg k1
              case measure => have := HK1.out; omega
              case rel => exact ⟨(wrap64 (x3_1 + 1)), (by first | rfl | (simp; done) | (simp [*]; done)), H', ⟨by have := HK1.out; omega⟩, ⟨zb BK232.out⟩, ⟨zl⟩⟩
            ·replace c24 := Bool.eq_false_iff.mpr c24
             subst c24
             have H1 : (spec_IsValidInstance.l0 k1 (wrap64 (x3_1 + 1)) l0_0 l0_1) = some r := by first | with_reducible rfl | (rw [if_neg (show ¬ (false = true) by decide)] at H; exact H)
             clear H
             have H := H1
             clear H1
             have H' := Aside0.mk H
             clear H
             have hcz47_0 : wr.cell? ⟨gb232, 0, none⟩ = some (.slice A0_0 l0_0.length c0_0) := (blk_cell BK232.out 0).trans rfl
             have hcz47_1 : wr.cell? ⟨gb232, 1, none⟩ = some (.slice A0_1 l0_1.length c0_1) := (blk_cell BK232.out 1).trans rfl
             have hfz47_0 := blk_frozen BK232.out 0
             have hfz47_1 := blk_frozen BK232.out 1
             have p234 : 0 ≤ (x3_1 : Int) := zd
             have q234 : x3_1 < (l0_1.length : Int) := zd
             obtain ⟨ad234, A234_1, c234_1, e234, hx234_0, hx234_1, hl234_1, hi234_1⟩ := at_T44 HR0_1.out x3_1 p234 q234
             cases e234
             replace hx234_0 := (HB.out.cell (World.block_lt_of_cell? w _ hx234_0)).trans hx234_0
             replace hx234_1 := (HB.out.cell (World.block_lt_of_cell? w _ hx234_1)).trans hx234_1
             have HR234_1 := Aside0.mk hi234_1
             have HC234_1 := Aside0.mk hl234_1
             clear hi234_1 hl234_1
             replace p234 := eq_true p234
             replace q234 := eq_true q234
             try go_wp2_with (first | ((with_reducible refine gate_dst (N := 4) rfl ?_); (try (refine gate_guard (by rfl) ?_; dsimp only)); refine box_event ?hg (N := 4) ?hd (cs := #[.int .i64 0, .slice none 0 0]) (t := 44) ?hr ?_; (case hd => rfl); (case hg => rfl); (case hr => first | (go_simp; done) | (go_simp; rfl)); intro gb235 hg w48 hbox hb; have BK235 := zm (hbox); have GW235 := zm ((by rw [hg]; exact (below_size zl) : w.heap.size ≤ gb235)); have GE235 := zm ((by rw [hg]; exact (below_size zl) : w.heap.size ≤ gb235)); replace HB := zm (below_step zl hb); have NB232_235 := zm (zl1 hg (zb BK232.out)); have NB235_232 := zm (zl2 hg (zb BK232.out)); replace BK232 := zm (blk_below (zb BK232.out) hb); clear hb hbox hg; have hnb49 := NB235_232.out; have hnc49 := NB232_235.out; have hcz50_0 : w48.cell? ⟨gb235, 0, none⟩ = some (.int .i64 0) := (blk_cell BK235.out 0).trans rfl; have hcz50_1 : w48.cell? ⟨gb235, 1, none⟩ = some (.slice none 0 0) := (blk_cell BK235.out 1).trans rfl; have hfz50_0 := blk_frozen BK235.out 0; have hfz50_1 := blk_frozen BK235.out 1))
             have n0_ : Aside0 (((w48.setCell ⟨gb235, 0, none⟩ (.int .i64 ((rd_T44 l0_1 x3_1).f0))).setCell ⟨gb235, 1, none⟩ (.slice A234_1 ((rd_T44 l0_1 x3_1).f1).length c234_1)).heap[gb232]? = some (.cells #[.slice A0_0 l0_0.length c0_0, .slice (some ad234) l0_1.length c0_1] 32 (0, 0))) := ⟨by (with_reducible repeat (first | refine blk_drewN ?_ _ | refine blk_drew ?_ | refine blk_alloc ?_ _)); refine blk_far ?_ NB232_235.out _; (with_reducible repeat (first | refine blk_drewN ?_ _ | refine blk_drew ?_ | refine blk_alloc ?_ _)); refine blk_far ?_ NB232_235.out _; (with_reducible repeat (first | refine blk_drewN ?_ _ | refine blk_drew ?_ | refine blk_alloc ?_ _)); exact BK232.out⟩
             have n1_ : Aside0 (((w48.setCell ⟨gb235, 0, none⟩ (.int .i64 ((rd_T44 l0_1 x3_1).f0))).setCell ⟨gb235, 1, none⟩ (.slice A234_1 ((rd_T44 l0_1 x3_1).f1).length c234_1)).heap[gb235]? = some (.cells #[.int .i64 ((rd_T44 l0_1 x3_1).f0), .slice A234_1 ((rd_T44 l0_1 x3_1).f1).length c234_1] 44 (0, 0))) := ⟨by (with_reducible repeat (first | refine blk_drewN ?_ _ | refine blk_drew ?_ | refine blk_alloc ?_ _)); refine blk_put (cs := #[.int .i64 ((rd_T44 l0_1 x3_1).f0), .slice none 0 0]) ?_ 1 _ rfl; (with_reducible repeat (first | refine blk_drewN ?_ _ | refine blk_drew ?_ | refine blk_alloc ?_ _)); refine blk_put (cs := #[.int .i64 0, .slice none 0 0]) ?_ 0 _ rfl; (with_reducible repeat (first | refine blk_drewN ?_ _ | refine blk_drew ?_ | refine blk_alloc ?_ _)); exact BK235.out⟩
             have n2_ : Aside0 (Below w.heap.size w ((w48.setCell ⟨gb235, 0, none⟩ (.int .i64 ((rd_T44 l0_1 x3_1).f0))).setCell ⟨gb235, 1, none⟩ (.slice A234_1 ((rd_T44 l0_1 x3_1).f1).length c234_1))) := ⟨zl⟩
             (try clear BK232)
             (try clear BK235)
             (try clear HB)
             generalize ((w48.setCell ⟨gb235, 0, none⟩ (.int .i64 ((rd_T44 l0_1 x3_1).f0))).setCell ⟨gb235, 1, none⟩ (.slice A234_1 ((rd_T44 l0_1 x3_1).f1).length c234_1)) = w51 at n0_ n1_ n2_ ⊢
             have BK232 := n0_
             have BK235 := n1_
             have HB := n2_
             clear n0_ n1_ n2_
             replace BK232 := zm (blk_drew BK232.out)
             replace BK235 := zm (blk_drew BK235.out)
             replace HB := zm (below_drew1 HB.out)
             have p237 : 0 ≤ ((ji8) : Int) := zd
             have q237 : (ji8) < (l0_1.length : Int) := zd
             obtain ⟨ad237, A237_1, c237_1, e237, hx237_0, hx237_1, hl237_1, hi237_1⟩ := at_T44 HR0_1.out (ji8) p237 q237
             have hw237_1 := hx237_1
             have hw237_0 := hx237_0
             obtain rfl : ad234 = ad237 := (by injection e237)
             replace hx237_0 := (HB.out.cell (World.block_lt_of_cell? w _ hx237_0)).trans hx237_0
             replace hx237_1 := (HB.out.cell (World.block_lt_of_cell? w _ hx237_1)).trans hx237_1
             have HR237_1 := Aside0.mk hi237_1
             have HC237_1 := Aside0.mk hl237_1
             clear hi237_1 hl237_1
             replace p237 := eq_true p237
             replace q237 := eq_true q237
             have p239 : 0 ≤ (((rd_T44 l0_1 x3_1).f0) : Int) := zd
             have q239 : ((rd_T44 l0_1 x3_1).f0) < (l0_0.length : Int) := zd
             obtain ⟨ad239, e239, hx239_0, hx239_1, hx239_2⟩ := at_T62 HR0_0.out ((rd_T44 l0_1 x3_1).f0) p239 q239
             have hw239_2 := hx239_2
             have hw239_1 := hx239_1
             have hw239_0 := hx239_0
             (try rw [← Nbq23.out] at hx239_2)
             (try rw [← Nbq23.out] at hw239_2)
             cases e239
             replace hx239_0 := (HB.out.cell (World.block_lt_of_cell? w _ hx239_0)).trans hx239_0
             replace hx239_1 := (HB.out.cell (World.block_lt_of_cell? w _ hx239_1)).trans hx239_1
             replace hx239_2 := (HB.out.cell (World.block_lt_of_cell? w _ hx239_2)).trans hx239_2
             replace p239 := eq_true p239
             replace q239 := eq_true q239
             refine start_ (n := 35) (S := fun w' => w'.cell? ⟨gb232, 0, none⟩ = some (.slice (some ad239) l0_0.length c0_0) ∧ w'.cell? ⟨gb232, 1, none⟩ = some (.slice (some ad234) l0_1.length c0_1) ∧ w'.cell? ⟨gb235, 0, none⟩ = some (.int .i64 ((rd_T44 l0_1 x3_1).f0)) ∧ w'.cell? ⟨gb235, 1, none⟩ = some (.slice A234_1 ((rd_T44 l0_1 x3_1).f1).length c234_1) ∧ w'.cell? (ad234.add (((ji8)).toNat * 2)) = some (.int .i64 ((rd_T44 l0_1 (ji8)).f0)) ∧ w'.cell? ⟨(ad234.add (((ji8)).toNat * 2)).block, (ad234.add (((ji8)).toNat * 2)).off + 1, none⟩ = some (.slice A237_1 ((rd_T44 l0_1 (ji8)).f1).length c237_1) ∧ w'.cell? (ad239.add ((((rd_T44 l0_1 x3_1).f0)).toNat * 3)) = some (.string ((rd_T62 l0_0 ((rd_T44 l0_1 x3_1).f0)).f0)) ∧ w'.cell? ⟨(ad239.add ((((rd_T44 l0_1 x3_1).f0)).toNat * 3)).block, (ad239.add ((((rd_T44 l0_1 x3_1).f0)).toNat * 3)).off + 1, none⟩ = some (.int .i64 ((rd_T62 l0_0 ((rd_T44 l0_1 x3_1).f0)).f1)) ∧ w'.cell? ⟨(ad239.add ((((rd_T44 l0_1 x3_1).f0)).toNat * 3)).block, (ad239.add ((((rd_T44 l0_1 x3_1).f0)).toNat * 3)).off + 2, none⟩ = some (.bool false)) (ds := []) #[false, false, false, false, false, false, false, false, false, false, false, false, false, false, false, false, false, false, false, false, false, false, false, false, false, false, false, false, false, false, false, false, false, false, false] (by kernel_rfl) rfl rfl ⟨(blk_cell BK232.out 0).trans rfl, (blk_cell BK232.out 1).trans rfl, (blk_cell BK235.out 0).trans rfl, (blk_cell BK235.out 1).trans rfl, ((HB.out.cell (World.block_lt_of_cell? w _ hw237_0)).trans hw237_0), ((HB.out.cell (World.block_lt_of_cell? w _ hw237_1)).trans hw237_1), ((HB.out.cell (World.block_lt_of_cell? w _ hw239_0)).trans hw239_0), ((HB.out.cell (World.block_lt_of_cell? w _ hw239_1)).trans hw239_1), ((HB.out.cell (World.block_lt_of_cell? w _ hw239_2)).trans hw239_2)⟩ (fun hHeld => ?_); refine with_tabW spec_IsValidInstance.tab5 spec_IsValidInstance.bits5 (fun HT_ HW_ => ?_)
             generalize w51.drew = w52 at BK232 BK235 HB HR237_1 hx237_0 hx237_1 hx239_0 hx239_1 hx239_2 hHeld ⊢
             refine zP 0 (some 17) (zA 35 1) (any_of HT_.out (by kernel_rfl)) ?_
             refine take_ (i := 1) (N := some 18) (v := ?_) (a' := ?_) (zA 35 3) rfl rfl (take_ofW HT_.out HW_.out (by kernel_rfl)) (fun _ _ _ h => h) (Or.inl ⟨by rfl, ?_⟩) hHeld ?_ ?_
             rotate_left
             ·rintro w' ⟨s0, s1, s2, s3, s4, s5, s6, s7, s8⟩
              go_simp
              with_reducible rfl
             rotate_left
             ·simp only [Act.put, List.setIfInBounds_toArray, List.set_cons_zero, List.set_cons_succ, i64_w, i32_w]
              rfl
             refine take_ (i := 2) (N := some 19) (v := ?_) (a' := ?_) (zA 35 7) rfl rfl (take_ofW HT_.out HW_.out (by kernel_rfl)) (fun _ _ _ h => h) (Or.inl ⟨by rfl, ?_⟩) hHeld ?_ ?_
             rotate_left
             ·rintro w' ⟨s0, s1, s2, s3, s4, s5, s6, s7, s8⟩
              go_simp
              with_reducible rfl
             rotate_left
             ·simp only [Act.put, List.setIfInBounds_toArray, List.set_cons_zero, List.set_cons_succ, i64_w, i32_w]
              rfl
             refine one_ (i := 3) (N := some 20) (zA 35 15) rfl rfl (one_of HT_.out (by kernel_rfl)) (by decide) (fun K hK => ?_)
             refine goes_ Try.func33 (by kernel_rfl) rfl #[.slice (some ad239) l0_0.length c0_0, .agg #[.int .i64 ((rd_T44 l0_1 x3_1).f0), .slice A234_1 ((rd_T44 l0_1 x3_1).f1).length c234_1]] (by rfl) rfl rfl (by (try simp only [List.map_toArray, List.map_cons, List.map_nil]); first | done | rfl | (simp only [List.length_drop, List.length_take]; rfl)) ?_
             with_reducible refine (spec_IsValidFact.calls k1 _ _ l0_0 ((rd_T44 l0_1 x3_1).f0) _ _ ((rd_T44 l0_1 x3_1).f1) true _ ?side1 ?side2 ?side3 ?side4 A5.out).mono ?_
             (case side1 => exact zc HR0_0.out)
             (case side2 => exact HC0_0.out)
             (case side3 => exact zc HR234_1.out)
             (case side4 => exact HC234_1.out)
             rintro e w53 ⟨rfl, hb⟩
             refine ⟨_, rfl, ?_⟩
             replace BK232 := zm (blk_below (zb BK232.out) hb)
             replace BK235 := zm (blk_below (zb BK235.out) hb)
             replace HB := zm (below_step zl hb)
             (try clear hb)
             refine hK.out _ _ ⟨(blk_cell BK232.out 0).trans rfl, (blk_cell BK232.out 1).trans rfl, (blk_cell BK235.out 0).trans rfl, (blk_cell BK235.out 1).trans rfl, ((HB.out.cell (World.block_lt_of_cell? w _ hw237_0)).trans hw237_0), ((HB.out.cell (World.block_lt_of_cell? w _ hw237_1)).trans hw237_1), ((HB.out.cell (World.block_lt_of_cell? w _ hw239_0)).trans hw239_0), ((HB.out.cell (World.block_lt_of_cell? w _ hw239_1)).trans hw239_1), ((HB.out.cell (World.block_lt_of_cell? w _ hw239_2)).trans hw239_2)⟩ (fun hHeld => ?_)
             clear hK K
             refine zO (some 20) ?_
             refine zP 4 (some 21) (zA 35 31) (any_of HT_.out (by kernel_rfl)) ?_
             refine zP 5 (some 22) (zA 35 63) (any_of HT_.out (by kernel_rfl)) ?_
             refine zP 6 (some 23) (zA 35 127) (any_of HT_.out (by kernel_rfl)) ?_
             refine zP 7 (some 24) (zA 35 255) (any_of HT_.out (by kernel_rfl)) ?_
             refine zP 8 (some 25) (zA 35 511) (any_of HT_.out (by kernel_rfl)) ?_
             refine zP 9 (some 26) (zA 35 1023) (any_of HT_.out (by kernel_rfl)) ?_
             refine zP 11 (some 28) (zA 35 3071) (any_of HT_.out (by kernel_rfl)) ?_
             refine zP 12 (some 29) (zA 35 7167) (any_of HT_.out (by kernel_rfl)) ?_
             refine take_ (i := 10) (N := some 27) (v := ?_) (a' := ?_) (zA 35 8191) rfl rfl (take_ofW HT_.out HW_.out (by kernel_rfl)) (fun _ _ _ h => h) (Or.inl ⟨by rfl, ?_⟩) hHeld ?_ ?_
             rotate_left
             ·rintro w' ⟨s0, s1, s2, s3, s4, s5, s6, s7, s8⟩
              go_simp
              with_reducible rfl
             rotate_left
             ·simp only [Act.put, List.setIfInBounds_toArray, List.set_cons_zero, List.set_cons_succ, i64_w, i32_w]
              rfl
             refine zP 13 (some 30) (zA 35 16383) (any_of HT_.out (by kernel_rfl)) ?_
             refine take_ (i := 14) (N := some 31) (v := ?_) (a' := ?_) (zA 35 32767) rfl rfl (take_ofW HT_.out HW_.out (by kernel_rfl)) (fun _ _ _ h => h) (Or.inl ⟨by rfl, ?_⟩) hHeld ?_ ?_
             rotate_left
             ·rintro w' ⟨s0, s1, s2, s3, s4, s5, s6, s7, s8⟩
              go_simp
              with_reducible rfl
             rotate_left
             ·simp only [Act.put, List.setIfInBounds_toArray, List.set_cons_zero, List.set_cons_succ, i64_w, i32_w]
              rfl
             refine take_ (i := 15) (N := some 32) (v := ?_) (a' := ?_) (zA 35 65535) rfl rfl (take_ofW HT_.out HW_.out (by kernel_rfl)) (fun _ _ _ h => h) (Or.inl ⟨by rfl, ?_⟩) hHeld ?_ ?_
             rotate_left
             ·rintro w' ⟨s0, s1, s2, s3, s4, s5, s6, s7, s8⟩
              go_simp
              with_reducible rfl
             rotate_left
             ·simp only [Act.put, List.setIfInBounds_toArray, List.set_cons_zero, List.set_cons_succ, i64_w, i32_w]
              rfl
             refine one_ (i := 16) (N := some 33) (zA 35 131071) rfl rfl (one_of HT_.out (by kernel_rfl)) (by decide) (fun K hK => ?_)
             refine goes_ Try.func34 (by kernel_rfl) rfl #[.agg #[.int .i64 ((rd_T44 l0_1 (ji8)).f0), .slice A237_1 ((rd_T44 l0_1 (ji8)).f1).length c237_1], .agg #[.int .i64 ((rd_T44 l0_1 x3_1).f0), .slice A234_1 ((rd_T44 l0_1 x3_1).f1).length c234_1]] (by rfl) rfl rfl (by (try simp only [List.map_toArray, List.map_cons, List.map_nil]); first | done | (simp only [hji8]; rfl) | rfl | (simp only [List.length_drop, List.length_take]; rfl)) ?_
             with_reducible refine (spec_CompareFacts.calls k1 ((rd_T44 l0_1 (ji8)).f0) _ _ ((rd_T44 l0_1 (ji8)).f1) ((rd_T44 l0_1 x3_1).f0) _ _ ((rd_T44 l0_1 x3_1).f1) t238 _ ?side1 ?side2 ?side3 ?side4 A11.out).mono ?_
             (case side1 => exact zc HR237_1.out)
             (case side2 => exact HC237_1.out)
             (case side3 => exact zc HR234_1.out)
             (case side4 => exact HC234_1.out)
             rintro e w54 ⟨rfl, hb⟩
             refine ⟨_, rfl, ?_⟩
             replace BK232 := zm (blk_below (zb BK232.out) hb)
             replace BK235 := zm (blk_below (zb BK235.out) hb)
             replace HB := zm (below_step zl hb)
             (try clear hb)
             refine hK.out _ _ ⟨(blk_cell BK232.out 0).trans rfl, (blk_cell BK232.out 1).trans rfl, (blk_cell BK235.out 0).trans rfl, (blk_cell BK235.out 1).trans rfl, ((HB.out.cell (World.block_lt_of_cell? w _ hw237_0)).trans hw237_0), ((HB.out.cell (World.block_lt_of_cell? w _ hw237_1)).trans hw237_1), ((HB.out.cell (World.block_lt_of_cell? w _ hw239_0)).trans hw239_0), ((HB.out.cell (World.block_lt_of_cell? w _ hw239_1)).trans hw239_1), ((HB.out.cell (World.block_lt_of_cell? w _ hw239_2)).trans hw239_2)⟩ (fun hHeld => ?_)
             clear hK K
             refine zO (some 33) ?_
             refine zP 17 (some 34) (zA 35 262143) (any_of HT_.out (by kernel_rfl)) ?_
             refine zP 18 (some 35) (zA 35 524287) (any_of HT_.out (by kernel_rfl)) ?_
             refine zP 19 (some 36) (zA 35 1048575) (any_of HT_.out (by kernel_rfl)) ?_
             refine zP 20 (some 37) (zA 35 2097151) (any_of HT_.out (by kernel_rfl)) ?_
             refine zP 21 (some 38) (zA 35 4194303) (any_of HT_.out (by kernel_rfl)) ?_
             refine zP 23 (some 40) (zA 35 12582911) (any_of HT_.out (by kernel_rfl)) ?_
             refine take_ (i := 22) (N := some 39) (v := ?_) (a' := ?_) (zA 35 16777215) rfl rfl (take_ofW HT_.out HW_.out (by kernel_rfl)) (fun _ _ _ h => h) (Or.inl ⟨by rfl, ?_⟩) hHeld ?_ ?_
             rotate_left
             ·rintro w' ⟨s0, s1, s2, s3, s4, s5, s6, s7, s8⟩
              go_simp
              with_reducible rfl
             rotate_left
             ·simp only [Act.put, List.setIfInBounds_toArray, List.set_cons_zero, List.set_cons_succ, i64_w, i32_w]
              rfl
             refine take_ (i := 24) (N := some 41) (v := ?_) (a' := ?_) (zA 35 33554431) rfl rfl (take_ofW HT_.out HW_.out (by kernel_rfl)) (fun _ _ _ h => h) (Or.inl ⟨by rfl, ?_⟩) hHeld ?_ ?_
             rotate_left
             ·rintro w' ⟨s0, s1, s2, s3, s4, s5, s6, s7, s8⟩
              go_simp
              with_reducible rfl
             rotate_left
             ·simp only [Act.put, List.setIfInBounds_toArray, List.set_cons_zero, List.set_cons_succ, i64_w, i32_w]
              rfl
             refine zP 25 (some 42) (zA 35 67108863) (any_of HT_.out (by kernel_rfl)) ?_
             refine zP 26 (some 43) (zA 35 134217727) (any_of HT_.out (by kernel_rfl)) ?_
             refine take_ (i := 27) (N := some 44) (v := ?_) (a' := ?_) (zA 35 268435455) rfl rfl (take_ofW HT_.out HW_.out (by kernel_rfl)) (fun _ _ _ h => h) (Or.inl ⟨by rfl, ?_⟩) hHeld ?_ ?_
             rotate_left
             ·rintro w' ⟨s0, s1, s2, s3, s4, s5, s6, s7, s8⟩
              go_simp
              with_reducible rfl
             rotate_left
             ·simp only [Act.put, List.setIfInBounds_toArray, List.set_cons_zero, List.set_cons_succ, i64_w, i32_w]
              rfl
             refine zP 28 (some 45) (zA 35 536870911) (any_of HT_.out (by kernel_rfl)) ?_
             refine pure_ (i := 29) (N := some 46) (v := undef) (a' := ?_) (zA 35 1073741823) rfl rfl (any_of HT_.out (by kernel_rfl)) (fun _ _ _ h => h) (Or.inr ⟨by rfl, rfl⟩) ?_ ?_
             rotate_left
             ·simp only [Act.put, List.setIfInBounds_toArray, List.set_cons_zero, List.set_cons_succ, i64_w, i32_w]
              rfl
             refine pure_ (i := 30) (N := some 47) (v := undef) (a' := ?_) (zA 35 2147483647) rfl rfl (any_of HT_.out (by kernel_rfl)) (fun _ _ _ h => h) (Or.inr ⟨by rfl, rfl⟩) ?_ ?_
             rotate_left
             ·simp only [Act.put, List.setIfInBounds_toArray, List.set_cons_zero, List.set_cons_succ, i64_w, i32_w]
              rfl
             refine pure_ (i := 31) (N := some 48) (v := undef) (a' := ?_) (zA 35 4294967295) rfl rfl (any_of HT_.out (by kernel_rfl)) (fun _ _ _ h => h) (Or.inr ⟨by rfl, rfl⟩) ?_ ?_
             rotate_left
             ·simp only [Act.put, List.setIfInBounds_toArray, List.set_cons_zero, List.set_cons_succ, i64_w, i32_w]
              rfl
             refine pure_ (i := 32) (N := some 49) (v := undef) (a' := ?_) (zA 35 8589934591) rfl rfl (any_of HT_.out (by kernel_rfl)) (fun _ _ _ h => h) (Or.inr ⟨by rfl, rfl⟩) ?_ ?_
             rotate_left
             ·simp only [Act.put, List.setIfInBounds_toArray, List.set_cons_zero, List.set_cons_succ, i64_w, i32_w]
              rfl
             refine zP 33 (some 50) (zA 35 17179869183) (any_of HT_.out (by kernel_rfl)) ?_
             refine zP 34 (some 51) (zA 35 34359738367) (any_of HT_.out (by kernel_rfl)) ?_
             refine done_ (done_of HT_.out (by kernel_rfl)) ?_
             try go_wp2
             go_roundg k1
             case measure => have := HK1.out; omega
             case rel => exact ⟨(wrap64 (x3_1 + 1)), (by first | rfl | (simp; done) | (simp [*]; done)), H', ⟨by have := HK1.out; omega⟩, ⟨zb BK232.out⟩, ⟨zl⟩⟩
           ·rw [if_neg c22] at H
            exact absurd H (by simp)
          ·rw [if_neg c21] at H
           exact absurd H (by simp)
        ·rw [if_neg c10] at H
         exact absurd H (by simp)
       ·rw [if_neg c9] at H
        exact absurd H (by simp)
      ·rw [if_neg c7] at H
       have c7b0 : decide (0 < x3_1) = false := decide_eq_false c7
       clear c7
       by_cases c55 : 0 ≤ ((rd_T44 l0_1 x3_1).f0)
       ·rw [if_pos c55] at H
        have c55b0 : decide (0 ≤ ((rd_T44 l0_1 x3_1).f0)) = true := decide_eq_true c55
        clear c55
        by_cases c56 : ((rd_T44 l0_1 x3_1).f0) < (l0_0.length : Int)
        ·rw [if_pos c56] at H
         have c56b0 : decide (((rd_T44 l0_1 x3_1).f0) < (l0_0.length : Int)) = true := decide_eq_true c56
         clear c56
         obtain ⟨bq57, hbq57⟩ : ∃ b_ : Bool, b_ = ((rd_T62 l0_0 ((rd_T44 l0_1 x3_1).f0)).f2) := ⟨_, rfl⟩
         replace H : (if bq57 = true then ((spec_NullsOfFact.f k1 ((rd_T44 l0_1 x3_1).f0) ((rd_T44 l0_1 x3_1).f1)).bind fun t244 => (if (t244.length : Int) > 0 then (some false) else (spec_IsValidInstance.l0 k1 (wrap64 (x3_1 + 1)) l0_0 l0_1))) else (spec_IsValidInstance.l0 k1 (wrap64 (x3_1 + 1)) l0_0 l0_1)) = some r := by rw [← hbq57] at H; exact H
         have Nbq57 := Aside0.mk hbq57
         clear hbq57
         by_cases c58 : bq57 = true
         ·subst c58
          have H1 : ((spec_NullsOfFact.f k1 ((rd_T44 l0_1 x3_1).f0) ((rd_T44 l0_1 x3_1).f1)).bind fun t244 => (if (t244.length : Int) > 0 then (some false) else (spec_IsValidInstance.l0 k1 (wrap64 (x3_1 + 1)) l0_0 l0_1))) = some r := by first | with_reducible rfl | (rw [if_pos rfl] at H; exact H)
          clear H
          have H := H1
          clear H1
          replace H := Option.bind_eq_some_iff.mp H
          obtain ⟨t244, A590, H⟩ := H
          replace H : (if (t244.length : Int) > 0 then (some false) else (spec_IsValidInstance.l0 k1 (wrap64 (x3_1 + 1)) l0_0 l0_1)) = some r := H
          have A59 := Aside0.mk A590
          clear A590
          by_cases c60 : (t244.length : Int) > 0
          ·rw [if_pos c60] at H
           have c60b0 : decide (0 < (t244.length : Int)) = true := decide_eq_true c60
           have c60b1 : decide (0 < t244.length) = true := decide_eq_true (by omega)
           clear c60
           obtain rfl := Option.some.inj H
           have hcz61_0 : wr.cell? ⟨gb232, 0, none⟩ = some (.slice A0_0 l0_0.length c0_0) := (blk_cell BK232.out 0).trans rfl
           have hcz61_1 : wr.cell? ⟨gb232, 1, none⟩ = some (.slice A0_1 l0_1.length c0_1) := (blk_cell BK232.out 1).trans rfl
           have hfz61_0 := blk_frozen BK232.out 0
           have hfz61_1 := blk_frozen BK232.out 1
           have p234 : 0 ≤ (x3_1 : Int) := zd
           have q234 : x3_1 < (l0_1.length : Int) := zd
           obtain ⟨ad234, A234_1, c234_1, e234, hx234_0, hx234_1, hl234_1, hi234_1⟩ := at_T44 HR0_1.out x3_1 p234 q234
           cases e234
           replace hx234_0 := (HB.out.cell (World.block_lt_of_cell? w _ hx234_0)).trans hx234_0
           replace hx234_1 := (HB.out.cell (World.block_lt_of_cell? w _ hx234_1)).trans hx234_1
           have HR234_1 := Aside0.mk hi234_1
           have HC234_1 := Aside0.mk hl234_1
           clear hi234_1 hl234_1
           replace p234 := eq_true p234
           replace q234 := eq_true q234
           try go_wp2_with (first | ((with_reducible refine gate_dst (N := 4) rfl ?_); (try (refine gate_guard (by rfl) ?_; dsimp only)); refine box_event ?hg (N := 4) ?hd (cs := #[.int .i64 0, .slice none 0 0]) (t := 44) ?hr ?_; (case hd => rfl); (case hg => rfl); (case hr => first | (go_simp; done) | (go_simp; rfl)); intro gb235 hg w62 hbox hb; have BK235 := zm (hbox); have GW235 := zm ((by rw [hg]; exact (below_size zl) : w.heap.size ≤ gb235)); have GE235 := zm ((by rw [hg]; exact (below_size zl) : w.heap.size ≤ gb235)); replace HB := zm (below_step zl hb); have NB232_235 := zm (zl1 hg (zb BK232.out)); have NB235_232 := zm (zl2 hg (zb BK232.out)); replace BK232 := zm (blk_below (zb BK232.out) hb); clear hb hbox hg; have hnb63 := NB235_232.out; have hnc63 := NB232_235.out; have hcz64_0 : w62.cell? ⟨gb235, 0, none⟩ = some (.int .i64 0) := (blk_cell BK235.out 0).trans rfl; have hcz64_1 : w62.cell? ⟨gb235, 1, none⟩ = some (.slice none 0 0) := (blk_cell BK235.out 1).trans rfl; have hfz64_0 := blk_frozen BK235.out 0; have hfz64_1 := blk_frozen BK235.out 1))
           have n0_ : Aside0 (((w62.setCell ⟨gb235, 0, none⟩ (.int .i64 ((rd_T44 l0_1 x3_1).f0))).setCell ⟨gb235, 1, none⟩ (.slice A234_1 ((rd_T44 l0_1 x3_1).f1).length c234_1)).heap[gb232]? = some (.cells #[.slice A0_0 l0_0.length c0_0, .slice (some ad234) l0_1.length c0_1] 32 (0, 0))) := ⟨by (with_reducible repeat (first | refine blk_drewN ?_ _ | refine blk_drew ?_ | refine blk_alloc ?_ _)); refine blk_far ?_ NB232_235.out _; (with_reducible repeat (first | refine blk_drewN ?_ _ | refine blk_drew ?_ | refine blk_alloc ?_ _)); refine blk_far ?_ NB232_235.out _; (with_reducible repeat (first | refine blk_drewN ?_ _ | refine blk_drew ?_ | refine blk_alloc ?_ _)); exact BK232.out⟩
           have n1_ : Aside0 (((w62.setCell ⟨gb235, 0, none⟩ (.int .i64 ((rd_T44 l0_1 x3_1).f0))).setCell ⟨gb235, 1, none⟩ (.slice A234_1 ((rd_T44 l0_1 x3_1).f1).length c234_1)).heap[gb235]? = some (.cells #[.int .i64 ((rd_T44 l0_1 x3_1).f0), .slice A234_1 ((rd_T44 l0_1 x3_1).f1).length c234_1] 44 (0, 0))) := ⟨by (with_reducible repeat (first | refine blk_drewN ?_ _ | refine blk_drew ?_ | refine blk_alloc ?_ _)); refine blk_put (cs := #[.int .i64 ((rd_T44 l0_1 x3_1).f0), .slice none 0 0]) ?_ 1 _ rfl; (with_reducible repeat (first | refine blk_drewN ?_ _ | refine blk_drew ?_ | refine blk_alloc ?_ _)); refine blk_put (cs := #[.int .i64 0, .slice none 0 0]) ?_ 0 _ rfl; (with_reducible repeat (first | refine blk_drewN ?_ _ | refine blk_drew ?_ | refine blk_alloc ?_ _)); exact BK235.out⟩
           have n2_ : Aside0 (Below w.heap.size w ((w62.setCell ⟨gb235, 0, none⟩ (.int .i64 ((rd_T44 l0_1 x3_1).f0))).setCell ⟨gb235, 1, none⟩ (.slice A234_1 ((rd_T44 l0_1 x3_1).f1).length c234_1))) := ⟨zl⟩
           (try clear BK232)
           (try clear BK235)
           (try clear HB)
           generalize ((w62.setCell ⟨gb235, 0, none⟩ (.int .i64 ((rd_T44 l0_1 x3_1).f0))).setCell ⟨gb235, 1, none⟩ (.slice A234_1 ((rd_T44 l0_1 x3_1).f1).length c234_1)) = w65 at n0_ n1_ n2_ ⊢
           have BK232 := n0_
           have BK235 := n1_
           have HB := n2_
           clear n0_ n1_ n2_
           replace BK232 := zm (blk_drew BK232.out)
           replace BK235 := zm (blk_drew BK235.out)
           replace HB := zm (below_drew1 HB.out)
           have p243 : 0 ≤ (((rd_T44 l0_1 x3_1).f0) : Int) := zd
           have q243 : ((rd_T44 l0_1 x3_1).f0) < (l0_0.length : Int) := zd
           obtain ⟨ad243, e243, hx243_0, hx243_1, hx243_2⟩ := at_T62 HR0_0.out ((rd_T44 l0_1 x3_1).f0) p243 q243
           have hw243_2 := hx243_2
           have hw243_1 := hx243_1
           have hw243_0 := hx243_0
           (try rw [← Nbq57.out] at hx243_2)
           (try rw [← Nbq57.out] at hw243_2)
           cases e243
           replace hx243_0 := (HB.out.cell (World.block_lt_of_cell? w _ hx243_0)).trans hx243_0
           replace hx243_1 := (HB.out.cell (World.block_lt_of_cell? w _ hx243_1)).trans hx243_1
           replace hx243_2 := (HB.out.cell (World.block_lt_of_cell? w _ hx243_2)).trans hx243_2
           replace p243 := eq_true p243
           replace q243 := eq_true q243
           refine start_ (n := 35) (S := fun w' => w'.cell? ⟨gb232, 0, none⟩ = some (.slice (some ad243) l0_0.length c0_0) ∧ w'.cell? ⟨gb232, 1, none⟩ = some (.slice (some ad234) l0_1.length c0_1) ∧ w'.cell? ⟨gb235, 0, none⟩ = some (.int .i64 ((rd_T44 l0_1 x3_1).f0)) ∧ w'.cell? ⟨gb235, 1, none⟩ = some (.slice A234_1 ((rd_T44 l0_1 x3_1).f1).length c234_1) ∧ w'.cell? (ad243.add ((((rd_T44 l0_1 x3_1).f0)).toNat * 3)) = some (.string ((rd_T62 l0_0 ((rd_T44 l0_1 x3_1).f0)).f0)) ∧ w'.cell? ⟨(ad243.add ((((rd_T44 l0_1 x3_1).f0)).toNat * 3)).block, (ad243.add ((((rd_T44 l0_1 x3_1).f0)).toNat * 3)).off + 1, none⟩ = some (.int .i64 ((rd_T62 l0_0 ((rd_T44 l0_1 x3_1).f0)).f1)) ∧ w'.cell? ⟨(ad243.add ((((rd_T44 l0_1 x3_1).f0)).toNat * 3)).block, (ad243.add ((((rd_T44 l0_1 x3_1).f0)).toNat * 3)).off + 2, none⟩ = some (.bool true)) (ds := []) #[false, false, false, false, false, false, false, false, false, false, false, false, false, false, false, false, false, false, false, false, false, false, false, false, false, false, false, false, false, false, false, false, false, false, false] (by kernel_rfl) rfl rfl ⟨(blk_cell BK232.out 0).trans rfl, (blk_cell BK232.out 1).trans rfl, (blk_cell BK235.out 0).trans rfl, (blk_cell BK235.out 1).trans rfl, ((HB.out.cell (World.block_lt_of_cell? w _ hw243_0)).trans hw243_0), ((HB.out.cell (World.block_lt_of_cell? w _ hw243_1)).trans hw243_1), ((HB.out.cell (World.block_lt_of_cell? w _ hw243_2)).trans hw243_2)⟩ (fun hHeld => ?_); refine with_tabW spec_IsValidInstance.tab5 spec_IsValidInstance.bits5 (fun HT_ HW_ => ?_)
           generalize w65.drew = w66 at BK232 BK235 HB hx243_0 hx243_1 hx243_2 hHeld ⊢
           refine zP 0 (some 17) (zA 35 1) (any_of HT_.out (by kernel_rfl)) ?_
           refine take_ (i := 1) (N := some 18) (v := ?_) (a' := ?_) (zA 35 3) rfl rfl (take_ofW HT_.out HW_.out (by kernel_rfl)) (fun _ _ _ h => h) (Or.inl ⟨by rfl, ?_⟩) hHeld ?_ ?_
           rotate_left
           ·rintro w' ⟨s0, s1, s2, s3, s4, s5, s6⟩
            go_simp
            with_reducible rfl
           rotate_left
           ·simp only [Act.put, List.setIfInBounds_toArray, List.set_cons_zero, List.set_cons_succ, i64_w, i32_w]
            rfl
           refine take_ (i := 2) (N := some 19) (v := ?_) (a' := ?_) (zA 35 7) rfl rfl (take_ofW HT_.out HW_.out (by kernel_rfl)) (fun _ _ _ h => h) (Or.inl ⟨by rfl, ?_⟩) hHeld ?_ ?_
           rotate_left
           ·rintro w' ⟨s0, s1, s2, s3, s4, s5, s6⟩
            go_simp
            with_reducible rfl
           rotate_left
           ·simp only [Act.put, List.setIfInBounds_toArray, List.set_cons_zero, List.set_cons_succ, i64_w, i32_w]
            rfl
           refine one_ (i := 3) (N := some 20) (zA 35 15) rfl rfl (one_of HT_.out (by kernel_rfl)) (by decide) (fun K hK => ?_)
           refine goes_ Try.func33 (by kernel_rfl) rfl #[.slice (some ad243) l0_0.length c0_0, .agg #[.int .i64 ((rd_T44 l0_1 x3_1).f0), .slice A234_1 ((rd_T44 l0_1 x3_1).f1).length c234_1]] (by rfl) rfl rfl (by (try simp only [List.map_toArray, List.map_cons, List.map_nil]); first | done | rfl | (simp only [List.length_drop, List.length_take]; rfl)) ?_
           with_reducible refine (spec_IsValidFact.calls k1 _ _ l0_0 ((rd_T44 l0_1 x3_1).f0) _ _ ((rd_T44 l0_1 x3_1).f1) true _ ?side1 ?side2 ?side3 ?side4 A5.out).mono ?_
           (case side1 => exact zc HR0_0.out)
           (case side2 => exact HC0_0.out)
           (case side3 => exact zc HR234_1.out)
           (case side4 => exact HC234_1.out)
           rintro e w67 ⟨rfl, hb⟩
           refine ⟨_, rfl, ?_⟩
           replace BK232 := zm (blk_below (zb BK232.out) hb)
           replace BK235 := zm (blk_below (zb BK235.out) hb)
           replace HB := zm (below_step zl hb)
           (try clear hb)
           refine hK.out _ _ ⟨(blk_cell BK232.out 0).trans rfl, (blk_cell BK232.out 1).trans rfl, (blk_cell BK235.out 0).trans rfl, (blk_cell BK235.out 1).trans rfl, ((HB.out.cell (World.block_lt_of_cell? w _ hw243_0)).trans hw243_0), ((HB.out.cell (World.block_lt_of_cell? w _ hw243_1)).trans hw243_1), ((HB.out.cell (World.block_lt_of_cell? w _ hw243_2)).trans hw243_2)⟩ (fun hHeld => ?_)
           clear hK K
           refine zO (some 20) ?_
           refine zP 4 (some 21) (zA 35 31) (any_of HT_.out (by kernel_rfl)) ?_
           refine zP 5 (some 22) (zA 35 63) (any_of HT_.out (by kernel_rfl)) ?_
           refine zP 6 (some 23) (zA 35 127) (any_of HT_.out (by kernel_rfl)) ?_
           refine zP 7 (some 24) (zA 35 255) (any_of HT_.out (by kernel_rfl)) ?_
           refine zP 8 (some 25) (zA 35 511) (any_of HT_.out (by kernel_rfl)) ?_
           refine pure_ (i := 9) (N := some 26) (v := undef) (a' := ?_) (zA 35 1023) rfl rfl (any_of HT_.out (by kernel_rfl)) (fun _ _ _ h => h) (Or.inr ⟨by rfl, rfl⟩) ?_ ?_
           rotate_left
           ·simp only [Act.put, List.setIfInBounds_toArray, List.set_cons_zero, List.set_cons_succ, i64_w, i32_w]
            rfl
           refine pure_ (i := 10) (N := some 27) (v := undef) (a' := ?_) (zA 35 2047) rfl rfl (any_of HT_.out (by kernel_rfl)) (fun _ _ _ h => h) (Or.inr ⟨by rfl, rfl⟩) ?_ ?_
           rotate_left
           ·simp only [Act.put, List.setIfInBounds_toArray, List.set_cons_zero, List.set_cons_succ, i64_w, i32_w]
            rfl
           refine pure_ (i := 11) (N := some 28) (v := undef) (a' := ?_) (zA 35 4095) rfl rfl (any_of HT_.out (by kernel_rfl)) (fun _ _ _ h => h) (Or.inr ⟨by rfl, rfl⟩) ?_ ?_
           rotate_left
           ·simp only [Act.put, List.setIfInBounds_toArray, List.set_cons_zero, List.set_cons_succ, i64_w, i32_w]
            rfl
           refine pure_ (i := 12) (N := some 29) (v := undef) (a' := ?_) (zA 35 8191) rfl rfl (any_of HT_.out (by kernel_rfl)) (fun _ _ _ h => h) (Or.inr ⟨by rfl, rfl⟩) ?_ ?_
           rotate_left
           ·simp only [Act.put, List.setIfInBounds_toArray, List.set_cons_zero, List.set_cons_succ, i64_w, i32_w]
            rfl
           refine pure_ (i := 13) (N := some 30) (v := undef) (a' := ?_) (zA 35 16383) rfl rfl (any_of HT_.out (by kernel_rfl)) (fun _ _ _ h => h) (Or.inr ⟨by rfl, rfl⟩) ?_ ?_
           rotate_left
           ·simp only [Act.put, List.setIfInBounds_toArray, List.set_cons_zero, List.set_cons_succ, i64_w, i32_w]
            rfl
           refine pure_ (i := 14) (N := some 31) (v := undef) (a' := ?_) (zA 35 32767) rfl rfl (any_of HT_.out (by kernel_rfl)) (fun _ _ _ h => h) (Or.inr ⟨by rfl, rfl⟩) ?_ ?_
           rotate_left
           ·simp only [Act.put, List.setIfInBounds_toArray, List.set_cons_zero, List.set_cons_succ, i64_w, i32_w]
            rfl
           refine pure_ (i := 15) (N := some 32) (v := undef) (a' := ?_) (zA 35 65535) rfl rfl (any_of HT_.out (by kernel_rfl)) (fun _ _ _ h => h) (Or.inr ⟨by rfl, rfl⟩) ?_ ?_
           rotate_left
           ·simp only [Act.put, List.setIfInBounds_toArray, List.set_cons_zero, List.set_cons_succ, i64_w, i32_w]
            rfl
           refine pure_ (i := 16) (N := some 33) (v := undef) (a' := ?_) (zA 35 131071) rfl rfl (any_of HT_.out (by kernel_rfl)) (fun _ _ _ h => h) (Or.inr ⟨by rfl, rfl⟩) ?_ ?_
           rotate_left
           ·simp only [Act.put, List.setIfInBounds_toArray, List.set_cons_zero, List.set_cons_succ, i64_w, i32_w]
            rfl
           refine pure_ (i := 17) (N := some 34) (v := undef) (a' := ?_) (zA 35 262143) rfl rfl (any_of HT_.out (by kernel_rfl)) (fun _ _ _ h => h) (Or.inr ⟨by rfl, rfl⟩) ?_ ?_
           rotate_left
           ·simp only [Act.put, List.setIfInBounds_toArray, List.set_cons_zero, List.set_cons_succ, i64_w, i32_w]
            rfl
           refine zP 18 (some 35) (zA 35 524287) (any_of HT_.out (by kernel_rfl)) ?_
           refine zP 19 (some 36) (zA 35 1048575) (any_of HT_.out (by kernel_rfl)) ?_
           refine zP 20 (some 37) (zA 35 2097151) (any_of HT_.out (by kernel_rfl)) ?_
           refine zP 21 (some 38) (zA 35 4194303) (any_of HT_.out (by kernel_rfl)) ?_
           refine zP 23 (some 40) (zA 35 12582911) (any_of HT_.out (by kernel_rfl)) ?_
           refine take_ (i := 22) (N := some 39) (v := ?_) (a' := ?_) (zA 35 16777215) rfl rfl (take_ofW HT_.out HW_.out (by kernel_rfl)) (fun _ _ _ h => h) (Or.inl ⟨by rfl, ?_⟩) hHeld ?_ ?_
           rotate_left
           ·rintro w' ⟨s0, s1, s2, s3, s4, s5, s6⟩
            go_simp
            with_reducible rfl
           rotate_left
           ·simp only [Act.put, List.setIfInBounds_toArray, List.set_cons_zero, List.set_cons_succ, i64_w, i32_w]
            rfl
           refine take_ (i := 24) (N := some 41) (v := ?_) (a' := ?_) (zA 35 33554431) rfl rfl (take_ofW HT_.out HW_.out (by kernel_rfl)) (fun _ _ _ h => h) (Or.inl ⟨by rfl, ?_⟩) hHeld ?_ ?_
           rotate_left
           ·rintro w' ⟨s0, s1, s2, s3, s4, s5, s6⟩
            go_simp
            with_reducible rfl
           rotate_left
           ·simp only [Act.put, List.setIfInBounds_toArray, List.set_cons_zero, List.set_cons_succ, i64_w, i32_w]
            rfl
           refine zP 25 (some 42) (zA 35 67108863) (any_of HT_.out (by kernel_rfl)) ?_
           refine zP 26 (some 43) (zA 35 134217727) (any_of HT_.out (by kernel_rfl)) ?_
           refine take_ (i := 27) (N := some 44) (v := ?_) (a' := ?_) (zA 35 268435455) rfl rfl (take_ofW HT_.out HW_.out (by kernel_rfl)) (fun _ _ _ h => h) (Or.inl ⟨by rfl, ?_⟩) hHeld ?_ ?_
           rotate_left
           ·rintro w' ⟨s0, s1, s2, s3, s4, s5, s6⟩
            go_simp
            with_reducible rfl
           rotate_left
           ·simp only [Act.put, List.setIfInBounds_toArray, List.set_cons_zero, List.set_cons_succ, i64_w, i32_w]
            rfl
           refine zP 28 (some 45) (zA 35 536870911) (any_of HT_.out (by kernel_rfl)) ?_
           refine take_ (i := 29) (N := some 46) (v := ?_) (a' := ?_) (zA 35 1073741823) rfl rfl (take_ofW HT_.out HW_.out (by kernel_rfl)) (fun _ _ _ h => h) (Or.inl ⟨by rfl, ?_⟩) hHeld ?_ ?_
           rotate_left
           ·rintro w' ⟨s0, s1, s2, s3, s4, s5, s6⟩
            go_simp
            with_reducible rfl
           rotate_left
           ·simp only [Act.put, List.setIfInBounds_toArray, List.set_cons_zero, List.set_cons_succ, i64_w, i32_w]
            rfl
           refine one_ (i := 30) (N := some 47) (zA 35 2147483647) rfl rfl (one_of HT_.out (by kernel_rfl)) (by decide) (fun K hK => ?_)
           refine goes_ Try.func24 (by kernel_rfl) rfl #[.agg #[.int .i64 ((rd_T44 l0_1 x3_1).f0), .slice A234_1 ((rd_T44 l0_1 x3_1).f1).length c234_1]] (by rfl) rfl rfl (by (try simp only [List.map_toArray, List.map_cons, List.map_nil]); first | done | rfl | (simp only [List.length_drop, List.length_take]; rfl)) ?_
           with_reducible refine (spec_NullsOfFact.calls k1 ((rd_T44 l0_1 x3_1).f0) _ _ ((rd_T44 l0_1 x3_1).f1) t244 _ ?side1 ?side2 A59.out).mono ?_
           (case side1 => exact zc HR234_1.out)
           (case side2 => exact HC234_1.out)
           rintro e w68 ⟨v245, rfl, ho0, hb⟩
           refine ⟨_, rfl, ?_⟩
           have HO246 := zm (Kd.R_lower ho0 (below_size zl))
           replace BK232 := zm (blk_below (zb BK232.out) hb)
           replace BK235 := zm (blk_below (zb BK235.out) hb)
           replace HB := zm (below_step zl hb)
           (try clear hb)
           (try clear ho0)
           obtain ⟨Ao69, co69, eo69⟩ := Kd.R_slice HO246.out
           (first | subst eo69 | (injection eo69 with f1_ f2_ f3_; have f4_ := f1_.symm; have f5_ := f3_.symm; clear f1_ f2_ f3_; subst f4_; subst f5_))
           refine hK.out _ _ ⟨(blk_cell BK232.out 0).trans rfl, (blk_cell BK232.out 1).trans rfl, (blk_cell BK235.out 0).trans rfl, (blk_cell BK235.out 1).trans rfl, ((HB.out.cell (World.block_lt_of_cell? w _ hw243_0)).trans hw243_0), ((HB.out.cell (World.block_lt_of_cell? w _ hw243_1)).trans hw243_1), ((HB.out.cell (World.block_lt_of_cell? w _ hw243_2)).trans hw243_2)⟩ (fun hHeld => ?_)
           clear hK K
           refine zO (some 47) ?_
           refine zP 31 (some 48) (zA 35 4294967295) (any_of HT_.out (by kernel_rfl)) ?_
           refine zP 32 (some 49) (zA 35 8589934591) (any_of HT_.out (by kernel_rfl)) ?_
           refine zP 33 (some 50) (zA 35 17179869183) (any_of HT_.out (by kernel_rfl)) ?_
           refine zP 34 (some 51) (zA 35 34359738367) (any_of HT_.out (by kernel_rfl)) ?_
           refine done_ (done_of HT_.out (by kernel_rfl)) ?_
           try go_wp2
           go_ret
           exact ⟨by first | rfl | (simp [errW_none, errW_some] <;> rfl) | (simp [*, errW_none, errW_some] <;> rfl), zl⟩
          ·rw [if_neg c60] at H
           have c60b0 : decide (0 < (t244.length : Int)) = false := decide_eq_false c60
           have c60b1 : decide (0 < t244.length) = false := decide_eq_false (by omega)
           clear c60
           have H' := Aside0.mk H
           clear H
           have hcz70_0 : wr.cell? ⟨gb232, 0, none⟩ = some (.slice A0_0 l0_0.length c0_0) := (blk_cell BK232.out 0).trans rfl
           have hcz70_1 : wr.cell? ⟨gb232, 1, none⟩ = some (.slice A0_1 l0_1.length c0_1) := (blk_cell BK232.out 1).trans rfl
           have hfz70_0 := blk_frozen BK232.out 0
           have hfz70_1 := blk_frozen BK232.out 1
           have p234 : 0 ≤ (x3_1 : Int) := zd
           have q234 : x3_1 < (l0_1.length : Int) := zd
           obtain ⟨ad234, A234_1, c234_1, e234, hx234_0, hx234_1, hl234_1, hi234_1⟩ := at_T44 HR0_1.out x3_1 p234 q234
           cases e234
           replace hx234_0 := (HB.out.cell (World.block_lt_of_cell? w _ hx234_0)).trans hx234_0
           replace hx234_1 := (HB.out.cell (World.block_lt_of_cell? w _ hx234_1)).trans hx234_1
           have HR234_1 := Aside0.mk hi234_1
           have HC234_1 := Aside0.mk hl234_1
           clear hi234_1 hl234_1
           replace p234 := eq_true p234
           replace q234 := eq_true q234
           try go_wp2_with (first | ((with_reducible refine gate_dst (N := 4) rfl ?_); (try (refine gate_guard (by rfl) ?_; dsimp only)); refine box_event ?hg (N := 4) ?hd (cs := #[.int .i64 0, .slice none 0 0]) (t := 44) ?hr ?_; (case hd => rfl); (case hg => rfl); (case hr => first | (go_simp; done) | (go_simp; rfl)); intro gb235 hg w71 hbox hb; have BK235 := zm (hbox); have GW235 := zm ((by rw [hg]; exact (below_size zl) : w.heap.size ≤ gb235)); have GE235 := zm ((by rw [hg]; exact (below_size zl) : w.heap.size ≤ gb235)); replace HB := zm (below_step zl hb); have NB232_235 := zm (zl1 hg (zb BK232.out)); have NB235_232 := zm (zl2 hg (zb BK232.out)); replace BK232 := zm (blk_below (zb BK232.out) hb); clear hb hbox hg; have hnb72 := NB235_232.out; have hnc72 := NB232_235.out; have hcz73_0 : w71.cell? ⟨gb235, 0, none⟩ = some (.int .i64 0) := (blk_cell BK235.out 0).trans rfl; have hcz73_1 : w71.cell? ⟨gb235, 1, none⟩ = some (.slice none 0 0) := (blk_cell BK235.out 1).trans rfl; have hfz73_0 := blk_frozen BK235.out 0; have hfz73_1 := blk_frozen BK235.out 1))
           have n0_ : Aside0 (((w71.setCell ⟨gb235, 0, none⟩ (.int .i64 ((rd_T44 l0_1 x3_1).f0))).setCell ⟨gb235, 1, none⟩ (.slice A234_1 ((rd_T44 l0_1 x3_1).f1).length c234_1)).heap[gb232]? = some (.cells #[.slice A0_0 l0_0.length c0_0, .slice (some ad234) l0_1.length c0_1] 32 (0, 0))) := ⟨by (with_reducible repeat (first | refine blk_drewN ?_ _ | refine blk_drew ?_ | refine blk_alloc ?_ _)); refine blk_far ?_ NB232_235.out _; (with_reducible repeat (first | refine blk_drewN ?_ _ | refine blk_drew ?_ | refine blk_alloc ?_ _)); refine blk_far ?_ NB232_235.out _; (with_reducible repeat (first | refine blk_drewN ?_ _ | refine blk_drew ?_ | refine blk_alloc ?_ _)); exact BK232.out⟩
           have n1_ : Aside0 (((w71.setCell ⟨gb235, 0, none⟩ (.int .i64 ((rd_T44 l0_1 x3_1).f0))).setCell ⟨gb235, 1, none⟩ (.slice A234_1 ((rd_T44 l0_1 x3_1).f1).length c234_1)).heap[gb235]? = some (.cells #[.int .i64 ((rd_T44 l0_1 x3_1).f0), .slice A234_1 ((rd_T44 l0_1 x3_1).f1).length c234_1] 44 (0, 0))) := ⟨by (with_reducible repeat (first | refine blk_drewN ?_ _ | refine blk_drew ?_ | refine blk_alloc ?_ _)); refine blk_put (cs := #[.int .i64 ((rd_T44 l0_1 x3_1).f0), .slice none 0 0]) ?_ 1 _ rfl; (with_reducible repeat (first | refine blk_drewN ?_ _ | refine blk_drew ?_ | refine blk_alloc ?_ _)); refine blk_put (cs := #[.int .i64 0, .slice none 0 0]) ?_ 0 _ rfl; (with_reducible repeat (first | refine blk_drewN ?_ _ | refine blk_drew ?_ | refine blk_alloc ?_ _)); exact BK235.out⟩
           have n2_ : Aside0 (Below w.heap.size w ((w71.setCell ⟨gb235, 0, none⟩ (.int .i64 ((rd_T44 l0_1 x3_1).f0))).setCell ⟨gb235, 1, none⟩ (.slice A234_1 ((rd_T44 l0_1 x3_1).f1).length c234_1))) := ⟨zl⟩
           (try clear BK232)
           (try clear BK235)
           (try clear HB)
           generalize ((w71.setCell ⟨gb235, 0, none⟩ (.int .i64 ((rd_T44 l0_1 x3_1).f0))).setCell ⟨gb235, 1, none⟩ (.slice A234_1 ((rd_T44 l0_1 x3_1).f1).length c234_1)) = w74 at n0_ n1_ n2_ ⊢
           have BK232 := n0_
           have BK235 := n1_
           have HB := n2_
           clear n0_ n1_ n2_
           replace BK232 := zm (blk_drew BK232.out)
           replace BK235 := zm (blk_drew BK235.out)
           replace HB := zm (below_drew1 HB.out)
           have p243 : 0 ≤ (((rd_T44 l0_1 x3_1).f0) : Int) := zd
           have q243 : ((rd_T44 l0_1 x3_1).f0) < (l0_0.length : Int) := zd
           obtain ⟨ad243, e243, hx243_0, hx243_1, hx243_2⟩ := at_T62 HR0_0.out ((rd_T44 l0_1 x3_1).f0) p243 q243
           have hw243_2 := hx243_2
           have hw243_1 := hx243_1
           have hw243_0 := hx243_0
           (try rw [← Nbq57.out] at hx243_2)
           (try rw [← Nbq57.out] at hw243_2)
           cases e243
           replace hx243_0 := (HB.out.cell (World.block_lt_of_cell? w _ hx243_0)).trans hx243_0
           replace hx243_1 := (HB.out.cell (World.block_lt_of_cell? w _ hx243_1)).trans hx243_1
           replace hx243_2 := (HB.out.cell (World.block_lt_of_cell? w _ hx243_2)).trans hx243_2
           replace p243 := eq_true p243
           replace q243 := eq_true q243
           refine start_ (n := 35) (S := fun w' => w'.cell? ⟨gb232, 0, none⟩ = some (.slice (some ad243) l0_0.length c0_0) ∧ w'.cell? ⟨gb232, 1, none⟩ = some (.slice (some ad234) l0_1.length c0_1) ∧ w'.cell? ⟨gb235, 0, none⟩ = some (.int .i64 ((rd_T44 l0_1 x3_1).f0)) ∧ w'.cell? ⟨gb235, 1, none⟩ = some (.slice A234_1 ((rd_T44 l0_1 x3_1).f1).length c234_1) ∧ w'.cell? (ad243.add ((((rd_T44 l0_1 x3_1).f0)).toNat * 3)) = some (.string ((rd_T62 l0_0 ((rd_T44 l0_1 x3_1).f0)).f0)) ∧ w'.cell? ⟨(ad243.add ((((rd_T44 l0_1 x3_1).f0)).toNat * 3)).block, (ad243.add ((((rd_T44 l0_1 x3_1).f0)).toNat * 3)).off + 1, none⟩ = some (.int .i64 ((rd_T62 l0_0 ((rd_T44 l0_1 x3_1).f0)).f1)) ∧ w'.cell? ⟨(ad243.add ((((rd_T44 l0_1 x3_1).f0)).toNat * 3)).block, (ad243.add ((((rd_T44 l0_1 x3_1).f0)).toNat * 3)).off + 2, none⟩ = some (.bool true)) (ds := []) #[false, false, false, false, false, false, false, false, false, false, false, false, false, false, false, false, false, false, false, false, false, false, false, false, false, false, false, false, false, false, false, false, false, false, false] (by kernel_rfl) rfl rfl ⟨(blk_cell BK232.out 0).trans rfl, (blk_cell BK232.out 1).trans rfl, (blk_cell BK235.out 0).trans rfl, (blk_cell BK235.out 1).trans rfl, ((HB.out.cell (World.block_lt_of_cell? w _ hw243_0)).trans hw243_0), ((HB.out.cell (World.block_lt_of_cell? w _ hw243_1)).trans hw243_1), ((HB.out.cell (World.block_lt_of_cell? w _ hw243_2)).trans hw243_2)⟩ (fun hHeld => ?_); refine with_tabW spec_IsValidInstance.tab5 spec_IsValidInstance.bits5 (fun HT_ HW_ => ?_)
           generalize w74.drew = w75 at BK232 BK235 HB hx243_0 hx243_1 hx243_2 hHeld ⊢
           refine zP 0 (some 17) (zA 35 1) (any_of HT_.out (by kernel_rfl)) ?_
           refine take_ (i := 1) (N := some 18) (v := ?_) (a' := ?_) (zA 35 3) rfl rfl (take_ofW HT_.out HW_.out (by kernel_rfl)) (fun _ _ _ h => h) (Or.inl ⟨by rfl, ?_⟩) hHeld ?_ ?_
           rotate_left
           ·rintro w' ⟨s0, s1, s2, s3, s4, s5, s6⟩
            go_simp
            with_reducible rfl
           rotate_left
           ·simp only [Act.put, List.setIfInBounds_toArray, List.set_cons_zero, List.set_cons_succ, i64_w, i32_w]
            rfl
           refine take_ (i := 2) (N := some 19) (v := ?_) (a' := ?_) (zA 35 7) rfl rfl (take_ofW HT_.out HW_.out (by kernel_rfl)) (fun _ _ _ h => h) (Or.inl ⟨by rfl, ?_⟩) hHeld ?_ ?_
           rotate_left
           ·rintro w' ⟨s0, s1, s2, s3, s4, s5, s6⟩
            go_simp
            with_reducible rfl
           rotate_left
           ·simp only [Act.put, List.setIfInBounds_toArray, List.set_cons_zero, List.set_cons_succ, i64_w, i32_w]
            rfl
           refine one_ (i := 3) (N := some 20) (zA 35 15) rfl rfl (one_of HT_.out (by kernel_rfl)) (by decide) (fun K hK => ?_)
           refine goes_ Try.func33 (by kernel_rfl) rfl #[.slice (some ad243) l0_0.length c0_0, .agg #[.int .i64 ((rd_T44 l0_1 x3_1).f0), .slice A234_1 ((rd_T44 l0_1 x3_1).f1).length c234_1]] (by rfl) rfl rfl (by (try simp only [List.map_toArray, List.map_cons, List.map_nil]); first | done | rfl | (simp only [List.length_drop, List.length_take]; rfl)) ?_
           with_reducible refine (spec_IsValidFact.calls k1 _ _ l0_0 ((rd_T44 l0_1 x3_1).f0) _ _ ((rd_T44 l0_1 x3_1).f1) true _ ?side1 ?side2 ?side3 ?side4 A5.out).mono ?_
           (case side1 => exact zc HR0_0.out)
           (case side2 => exact HC0_0.out)
           (case side3 => exact zc HR234_1.out)
           (case side4 => exact HC234_1.out)
           rintro e w76 ⟨rfl, hb⟩
           refine ⟨_, rfl, ?_⟩
           replace BK232 := zm (blk_below (zb BK232.out) hb)
           replace BK235 := zm (blk_below (zb BK235.out) hb)
           replace HB := zm (below_step zl hb)
           (try clear hb)
           refine hK.out _ _ ⟨(blk_cell BK232.out 0).trans rfl, (blk_cell BK232.out 1).trans rfl, (blk_cell BK235.out 0).trans rfl, (blk_cell BK235.out 1).trans rfl, ((HB.out.cell (World.block_lt_of_cell? w _ hw243_0)).trans hw243_0), ((HB.out.cell (World.block_lt_of_cell? w _ hw243_1)).trans hw243_1), ((HB.out.cell (World.block_lt_of_cell? w _ hw243_2)).trans hw243_2)⟩ (fun hHeld => ?_)
           clear hK K
           refine zO (some 20) ?_
           refine zP 4 (some 21) (zA 35 31) (any_of HT_.out (by kernel_rfl)) ?_
           refine zP 5 (some 22) (zA 35 63) (any_of HT_.out (by kernel_rfl)) ?_
           refine zP 6 (some 23) (zA 35 127) (any_of HT_.out (by kernel_rfl)) ?_
           refine zP 7 (some 24) (zA 35 255) (any_of HT_.out (by kernel_rfl)) ?_
           refine zP 8 (some 25) (zA 35 511) (any_of HT_.out (by kernel_rfl)) ?_
           refine pure_ (i := 9) (N := some 26) (v := undef) (a' := ?_) (zA 35 1023) rfl rfl (any_of HT_.out (by kernel_rfl)) (fun _ _ _ h => h) (Or.inr ⟨by rfl, rfl⟩) ?_ ?_
           rotate_left
           ·simp only [Act.put, List.setIfInBounds_toArray, List.set_cons_zero, List.set_cons_succ, i64_w, i32_w]
            rfl
           refine pure_ (i := 10) (N := some 27) (v := undef) (a' := ?_) (zA 35 2047) rfl rfl (any_of HT_.out (by kernel_rfl)) (fun _ _ _ h => h) (Or.inr ⟨by rfl, rfl⟩) ?_ ?_
           rotate_left
           ·simp only [Act.put, List.setIfInBounds_toArray, List.set_cons_zero, List.set_cons_succ, i64_w, i32_w]
            rfl
           refine pure_ (i := 11) (N := some 28) (v := undef) (a' := ?_) (zA 35 4095) rfl rfl (any_of HT_.out (by kernel_rfl)) (fun _ _ _ h => h) (Or.inr ⟨by rfl, rfl⟩) ?_ ?_
           rotate_left
           ·simp only [Act.put, List.setIfInBounds_toArray, List.set_cons_zero, List.set_cons_succ, i64_w, i32_w]
            rfl
           refine pure_ (i := 12) (N := some 29) (v := undef) (a' := ?_) (zA 35 8191) rfl rfl (any_of HT_.out (by kernel_rfl)) (fun _ _ _ h => h) (Or.inr ⟨by rfl, rfl⟩) ?_ ?_
           rotate_left
           ·simp only [Act.put, List.setIfInBounds_toArray, List.set_cons_zero, List.set_cons_succ, i64_w, i32_w]
            rfl
           refine pure_ (i := 13) (N := some 30) (v := undef) (a' := ?_) (zA 35 16383) rfl rfl (any_of HT_.out (by kernel_rfl)) (fun _ _ _ h => h) (Or.inr ⟨by rfl, rfl⟩) ?_ ?_
           rotate_left
           ·simp only [Act.put, List.setIfInBounds_toArray, List.set_cons_zero, List.set_cons_succ, i64_w, i32_w]
            rfl
           refine pure_ (i := 14) (N := some 31) (v := undef) (a' := ?_) (zA 35 32767) rfl rfl (any_of HT_.out (by kernel_rfl)) (fun _ _ _ h => h) (Or.inr ⟨by rfl, rfl⟩) ?_ ?_
           rotate_left
           ·simp only [Act.put, List.setIfInBounds_toArray, List.set_cons_zero, List.set_cons_succ, i64_w, i32_w]
            rfl
           refine pure_ (i := 15) (N := some 32) (v := undef) (a' := ?_) (zA 35 65535) rfl rfl (any_of HT_.out (by kernel_rfl)) (fun _ _ _ h => h) (Or.inr ⟨by rfl, rfl⟩) ?_ ?_
           rotate_left
           ·simp only [Act.put, List.setIfInBounds_toArray, List.set_cons_zero, List.set_cons_succ, i64_w, i32_w]
            rfl
           refine pure_ (i := 16) (N := some 33) (v := undef) (a' := ?_) (zA 35 131071) rfl rfl (any_of HT_.out (by kernel_rfl)) (fun _ _ _ h => h) (Or.inr ⟨by rfl, rfl⟩) ?_ ?_
           rotate_left
           ·simp only [Act.put, List.setIfInBounds_toArray, List.set_cons_zero, List.set_cons_succ, i64_w, i32_w]
            rfl
           refine pure_ (i := 17) (N := some 34) (v := undef) (a' := ?_) (zA 35 262143) rfl rfl (any_of HT_.out (by kernel_rfl)) (fun _ _ _ h => h) (Or.inr ⟨by rfl, rfl⟩) ?_ ?_
           rotate_left
           ·simp only [Act.put, List.setIfInBounds_toArray, List.set_cons_zero, List.set_cons_succ, i64_w, i32_w]
            rfl
           refine zP 18 (some 35) (zA 35 524287) (any_of HT_.out (by kernel_rfl)) ?_
           refine zP 19 (some 36) (zA 35 1048575) (any_of HT_.out (by kernel_rfl)) ?_
           refine zP 20 (some 37) (zA 35 2097151) (any_of HT_.out (by kernel_rfl)) ?_
           refine zP 21 (some 38) (zA 35 4194303) (any_of HT_.out (by kernel_rfl)) ?_
           refine zP 23 (some 40) (zA 35 12582911) (any_of HT_.out (by kernel_rfl)) ?_
           refine take_ (i := 22) (N := some 39) (v := ?_) (a' := ?_) (zA 35 16777215) rfl rfl (take_ofW HT_.out HW_.out (by kernel_rfl)) (fun _ _ _ h => h) (Or.inl ⟨by rfl, ?_⟩) hHeld ?_ ?_
           rotate_left
           ·rintro w' ⟨s0, s1, s2, s3, s4, s5, s6⟩
            go_simp
            with_reducible rfl
           rotate_left
           ·simp only [Act.put, List.setIfInBounds_toArray, List.set_cons_zero, List.set_cons_succ, i64_w, i32_w]
            rfl
           refine take_ (i := 24) (N := some 41) (v := ?_) (a' := ?_) (zA 35 33554431) rfl rfl (take_ofW HT_.out HW_.out (by kernel_rfl)) (fun _ _ _ h => h) (Or.inl ⟨by rfl, ?_⟩) hHeld ?_ ?_
           rotate_left
           ·rintro w' ⟨s0, s1, s2, s3, s4, s5, s6⟩
            go_simp
            with_reducible rfl
           rotate_left
           ·simp only [Act.put, List.setIfInBounds_toArray, List.set_cons_zero, List.set_cons_succ, i64_w, i32_w]
            rfl
           refine zP 25 (some 42) (zA 35 67108863) (any_of HT_.out (by kernel_rfl)) ?_
           refine zP 26 (some 43) (zA 35 134217727) (any_of HT_.out (by kernel_rfl)) ?_
           refine take_ (i := 27) (N := some 44) (v := ?_) (a' := ?_) (zA 35 268435455) rfl rfl (take_ofW HT_.out HW_.out (by kernel_rfl)) (fun _ _ _ h => h) (Or.inl ⟨by rfl, ?_⟩) hHeld ?_ ?_
           rotate_left
           ·rintro w' ⟨s0, s1, s2, s3, s4, s5, s6⟩
            go_simp
            with_reducible rfl
           rotate_left
           ·simp only [Act.put, List.setIfInBounds_toArray, List.set_cons_zero, List.set_cons_succ, i64_w, i32_w]
            rfl
           refine zP 28 (some 45) (zA 35 536870911) (any_of HT_.out (by kernel_rfl)) ?_
           refine take_ (i := 29) (N := some 46) (v := ?_) (a' := ?_) (zA 35 1073741823) rfl rfl (take_ofW HT_.out HW_.out (by kernel_rfl)) (fun _ _ _ h => h) (Or.inl ⟨by rfl, ?_⟩) hHeld ?_ ?_
           rotate_left
           ·rintro w' ⟨s0, s1, s2, s3, s4, s5, s6⟩
            go_simp
            with_reducible rfl
           rotate_left
           ·simp only [Act.put, List.setIfInBounds_toArray, List.set_cons_zero, List.set_cons_succ, i64_w, i32_w]
            rfl
           refine one_ (i := 30) (N := some 47) (zA 35 2147483647) rfl rfl (one_of HT_.out (by kernel_rfl)) (by decide) (fun K hK => ?_)
           refine goes_ Try.func24 (by kernel_rfl) rfl #[.agg #[.int .i64 ((rd_T44 l0_1 x3_1).f0), .slice A234_1 ((rd_T44 l0_1 x3_1).f1).length c234_1]] (by rfl) rfl rfl (by (try simp only [List.map_toArray, List.map_cons, List.map_nil]); first | done | rfl | (simp only [List.length_drop, List.length_take]; rfl)) ?_
           with_reducible refine (spec_NullsOfFact.calls k1 ((rd_T44 l0_1 x3_1).f0) _ _ ((rd_T44 l0_1 x3_1).f1) t244 _ ?side1 ?side2 A59.out).mono ?_
           (case side1 => exact zc HR234_1.out)
           (case side2 => exact HC234_1.out)
           rintro e w77 ⟨v245, rfl, ho0, hb⟩
           refine ⟨_, rfl, ?_⟩
           have HO246 := zm (Kd.R_lower ho0 (below_size zl))
           replace BK232 := zm (blk_below (zb BK232.out) hb)
           replace BK235 := zm (blk_below (zb BK235.out) hb)
           replace HB := zm (below_step zl hb)
           (try clear hb)
           (try clear ho0)
           obtain ⟨Ao78, co78, eo78⟩ := Kd.R_slice HO246.out
           (first | subst eo78 | (injection eo78 with f1_ f2_ f3_; have f4_ := f1_.symm; have f5_ := f3_.symm; clear f1_ f2_ f3_; subst f4_; subst f5_))
           refine hK.out _ _ ⟨(blk_cell BK232.out 0).trans rfl, (blk_cell BK232.out 1).trans rfl, (blk_cell BK235.out 0).trans rfl, (blk_cell BK235.out 1).trans rfl, ((HB.out.cell (World.block_lt_of_cell? w _ hw243_0)).trans hw243_0), ((HB.out.cell (World.block_lt_of_cell? w _ hw243_1)).trans hw243_1), ((HB.out.cell (World.block_lt_of_cell? w _ hw243_2)).trans hw243_2)⟩ (fun hHeld => ?_)
           clear hK K
           refine zO (some 47) ?_
           refine zP 31 (some 48) (zA 35 4294967295) (any_of HT_.out (by kernel_rfl)) ?_
           refine zP 32 (some 49) (zA 35 8589934591) (any_of HT_.out (by kernel_rfl)) ?_
           refine zP 33 (some 50) (zA 35 17179869183) (any_of HT_.out (by kernel_rfl)) ?_
           refine zP 34 (some 51) (zA 35 34359738367) (any_of HT_.out (by kernel_rfl)) ?_
           refine done_ (done_of HT_.out (by kernel_rfl)) ?_
           try go_wp2
           go_roundg k1
           case measure => have := HK1.out; omega
           case rel => exact ⟨(wrap64 (x3_1 + 1)), (by first | rfl | (simp; done) | (simp [*]; done)), H', ⟨by have := HK1.out; omega⟩, ⟨zb BK232.out⟩, ⟨zl⟩⟩
         ·replace c58 := Bool.eq_false_iff.mpr c58
          subst c58
          have H1 : (spec_IsValidInstance.l0 k1 (wrap64 (x3_1 + 1)) l0_0 l0_1) = some r := by first | with_reducible rfl | (rw [if_neg (show ¬ (false = true) by decide)] at H; exact H)
          clear H
          have H := H1
          clear H1
          have H' := Aside0.mk H
          clear H
          have hcz79_0 : wr.cell? ⟨gb232, 0, none⟩ = some (.slice A0_0 l0_0.length c0_0) := (blk_cell BK232.out 0).trans rfl
          have hcz79_1 : wr.cell? ⟨gb232, 1, none⟩ = some (.slice A0_1 l0_1.length c0_1) := (blk_cell BK232.out 1).trans rfl
          have hfz79_0 := blk_frozen BK232.out 0
          have hfz79_1 := blk_frozen BK232.out 1
          have p234 : 0 ≤ (x3_1 : Int) := zd
          have q234 : x3_1 < (l0_1.length : Int) := zd
          obtain ⟨ad234, A234_1, c234_1, e234, hx234_0, hx234_1, hl234_1, hi234_1⟩ := at_T44 HR0_1.out x3_1 p234 q234
          cases e234
          replace hx234_0 := (HB.out.cell (World.block_lt_of_cell? w _ hx234_0)).trans hx234_0
          replace hx234_1 := (HB.out.cell (World.block_lt_of_cell? w _ hx234_1)).trans hx234_1
          have HR234_1 := Aside0.mk hi234_1
          have HC234_1 := Aside0.mk hl234_1
          clear hi234_1 hl234_1
          replace p234 := eq_true p234
          replace q234 := eq_true q234
          try go_wp2_with (first | ((with_reducible refine gate_dst (N := 4) rfl ?_); (try (refine gate_guard (by rfl) ?_; dsimp only)); refine box_event ?hg (N := 4) ?hd (cs := #[.int .i64 0, .slice none 0 0]) (t := 44) ?hr ?_; (case hd => rfl); (case hg => rfl); (case hr => first | (go_simp; done) | (go_simp; rfl)); intro gb235 hg w80 hbox hb; have BK235 := zm (hbox); have GW235 := zm ((by rw [hg]; exact (below_size zl) : w.heap.size ≤ gb235)); have GE235 := zm ((by rw [hg]; exact (below_size zl) : w.heap.size ≤ gb235)); replace HB := zm (below_step zl hb); have NB232_235 := zm (zl1 hg (zb BK232.out)); have NB235_232 := zm (zl2 hg (zb BK232.out)); replace BK232 := zm (blk_below (zb BK232.out) hb); clear hb hbox hg; have hnb81 := NB235_232.out; have hnc81 := NB232_235.out; have hcz82_0 : w80.cell? ⟨gb235, 0, none⟩ = some (.int .i64 0) := (blk_cell BK235.out 0).trans rfl; have hcz82_1 : w80.cell? ⟨gb235, 1, none⟩ = some (.slice none 0 0) := (blk_cell BK235.out 1).trans rfl; have hfz82_0 := blk_frozen BK235.out 0; have hfz82_1 := blk_frozen BK235.out 1))
          have n0_ : Aside0 (((w80.setCell ⟨gb235, 0, none⟩ (.int .i64 ((rd_T44 l0_1 x3_1).f0))).setCell ⟨gb235, 1, none⟩ (.slice A234_1 ((rd_T44 l0_1 x3_1).f1).length c234_1)).heap[gb232]? = some (.cells #[.slice A0_0 l0_0.length c0_0, .slice (some ad234) l0_1.length c0_1] 32 (0, 0))) := ⟨by (with_reducible repeat (first | refine blk_drewN ?_ _ | refine blk_drew ?_ | refine blk_alloc ?_ _)); refine blk_far ?_ NB232_235.out _; (with_reducible repeat (first | refine blk_drewN ?_ _ | refine blk_drew ?_ | refine blk_alloc ?_ _)); refine blk_far ?_ NB232_235.out _; (with_reducible repeat (first | refine blk_drewN ?_ _ | refine blk_drew ?_ | refine blk_alloc ?_ _)); exact BK232.out⟩
          have n1_ : Aside0 (((w80.setCell ⟨gb235, 0, none⟩ (.int .i64 ((rd_T44 l0_1 x3_1).f0))).setCell ⟨gb235, 1, none⟩ (.slice A234_1 ((rd_T44 l0_1 x3_1).f1).length c234_1)).heap[gb235]? = some (.cells #[.int .i64 ((rd_T44 l0_1 x3_1).f0), .slice A234_1 ((rd_T44 l0_1 x3_1).f1).length c234_1] 44 (0, 0))) := ⟨by (with_reducible repeat (first | refine blk_drewN ?_ _ | refine blk_drew ?_ | refine blk_alloc ?_ _)); refine blk_put (cs := #[.int .i64 ((rd_T44 l0_1 x3_1).f0), .slice none 0 0]) ?_ 1 _ rfl; (with_reducible repeat (first | refine blk_drewN ?_ _ | refine blk_drew ?_ | refine blk_alloc ?_ _)); refine blk_put (cs := #[.int .i64 0, .slice none 0 0]) ?_ 0 _ rfl; (with_reducible repeat (first | refine blk_drewN ?_ _ | refine blk_drew ?_ | refine blk_alloc ?_ _)); exact BK235.out⟩
          have n2_ : Aside0 (Below w.heap.size w ((w80.setCell ⟨gb235, 0, none⟩ (.int .i64 ((rd_T44 l0_1 x3_1).f0))).setCell ⟨gb235, 1, none⟩ (.slice A234_1 ((rd_T44 l0_1 x3_1).f1).length c234_1))) := ⟨zl⟩
          (try clear BK232)
          (try clear BK235)
          (try clear HB)
          generalize ((w80.setCell ⟨gb235, 0, none⟩ (.int .i64 ((rd_T44 l0_1 x3_1).f0))).setCell ⟨gb235, 1, none⟩ (.slice A234_1 ((rd_T44 l0_1 x3_1).f1).length c234_1)) = w83 at n0_ n1_ n2_ ⊢
          have BK232 := n0_
          have BK235 := n1_
          have HB := n2_
          clear n0_ n1_ n2_
          replace BK232 := zm (blk_drew BK232.out)
          replace BK235 := zm (blk_drew BK235.out)
          replace HB := zm (below_drew1 HB.out)
          have p243 : 0 ≤ (((rd_T44 l0_1 x3_1).f0) : Int) := zd
          have q243 : ((rd_T44 l0_1 x3_1).f0) < (l0_0.length : Int) := zd
          obtain ⟨ad243, e243, hx243_0, hx243_1, hx243_2⟩ := at_T62 HR0_0.out ((rd_T44 l0_1 x3_1).f0) p243 q243
          have hw243_2 := hx243_2
          have hw243_1 := hx243_1
          have hw243_0 := hx243_0
          (try rw [← Nbq57.out] at hx243_2)
          (try rw [← Nbq57.out] at hw243_2)
          cases e243
          replace hx243_0 := (HB.out.cell (World.block_lt_of_cell? w _ hx243_0)).trans hx243_0
          replace hx243_1 := (HB.out.cell (World.block_lt_of_cell? w _ hx243_1)).trans hx243_1
          replace hx243_2 := (HB.out.cell (World.block_lt_of_cell? w _ hx243_2)).trans hx243_2
          replace p243 := eq_true p243
          replace q243 := eq_true q243
          refine start_ (n := 35) (S := fun w' => w'.cell? ⟨gb232, 0, none⟩ = some (.slice (some ad243) l0_0.length c0_0) ∧ w'.cell? ⟨gb232, 1, none⟩ = some (.slice (some ad234) l0_1.length c0_1) ∧ w'.cell? ⟨gb235, 0, none⟩ = some (.int .i64 ((rd_T44 l0_1 x3_1).f0)) ∧ w'.cell? ⟨gb235, 1, none⟩ = some (.slice A234_1 ((rd_T44 l0_1 x3_1).f1).length c234_1) ∧ w'.cell? (ad243.add ((((rd_T44 l0_1 x3_1).f0)).toNat * 3)) = some (.string ((rd_T62 l0_0 ((rd_T44 l0_1 x3_1).f0)).f0)) ∧ w'.cell? ⟨(ad243.add ((((rd_T44 l0_1 x3_1).f0)).toNat * 3)).block, (ad243.add ((((rd_T44 l0_1 x3_1).f0)).toNat * 3)).off + 1, none⟩ = some (.int .i64 ((rd_T62 l0_0 ((rd_T44 l0_1 x3_1).f0)).f1)) ∧ w'.cell? ⟨(ad243.add ((((rd_T44 l0_1 x3_1).f0)).toNat * 3)).block, (ad243.add ((((rd_T44 l0_1 x3_1).f0)).toNat * 3)).off + 2, none⟩ = some (.bool false)) (ds := []) #[false, false, false, false, false, false, false, false, false, false, false, false, false, false, false, false, false, false, false, false, false, false, false, false, false, false, false, false, false, false, false, false, false, false, false] (by kernel_rfl) rfl rfl ⟨(blk_cell BK232.out 0).trans rfl, (blk_cell BK232.out 1).trans rfl, (blk_cell BK235.out 0).trans rfl, (blk_cell BK235.out 1).trans rfl, ((HB.out.cell (World.block_lt_of_cell? w _ hw243_0)).trans hw243_0), ((HB.out.cell (World.block_lt_of_cell? w _ hw243_1)).trans hw243_1), ((HB.out.cell (World.block_lt_of_cell? w _ hw243_2)).trans hw243_2)⟩ (fun hHeld => ?_); refine with_tabW spec_IsValidInstance.tab5 spec_IsValidInstance.bits5 (fun HT_ HW_ => ?_)
          generalize w83.drew = w84 at BK232 BK235 HB hx243_0 hx243_1 hx243_2 hHeld ⊢
          refine zP 0 (some 17) (zA 35 1) (any_of HT_.out (by kernel_rfl)) ?_
          refine take_ (i := 1) (N := some 18) (v := ?_) (a' := ?_) (zA 35 3) rfl rfl (take_ofW HT_.out HW_.out (by kernel_rfl)) (fun _ _ _ h => h) (Or.inl ⟨by rfl, ?_⟩) hHeld ?_ ?_
          rotate_left
          ·rintro w' ⟨s0, s1, s2, s3, s4, s5, s6⟩
           go_simp
           with_reducible rfl
          rotate_left
          ·simp only [Act.put, List.setIfInBounds_toArray, List.set_cons_zero, List.set_cons_succ, i64_w, i32_w]
           rfl
          refine take_ (i := 2) (N := some 19) (v := ?_) (a' := ?_) (zA 35 7) rfl rfl (take_ofW HT_.out HW_.out (by kernel_rfl)) (fun _ _ _ h => h) (Or.inl ⟨by rfl, ?_⟩) hHeld ?_ ?_
          rotate_left
          ·rintro w' ⟨s0, s1, s2, s3, s4, s5, s6⟩
           go_simp
           with_reducible rfl
          rotate_left
          ·simp only [Act.put, List.setIfInBounds_toArray, List.set_cons_zero, List.set_cons_succ, i64_w, i32_w]
           rfl
          refine one_ (i := 3) (N := some 20) (zA 35 15) rfl rfl (one_of HT_.out (by kernel_rfl)) (by decide) (fun K hK => ?_)
          refine goes_ Try.func33 (by kernel_rfl) rfl #[.slice (some ad243) l0_0.length c0_0, .agg #[.int .i64 ((rd_T44 l0_1 x3_1).f0), .slice A234_1 ((rd_T44 l0_1 x3_1).f1).length c234_1]] (by rfl) rfl rfl (by (try simp only [List.map_toArray, List.map_cons, List.map_nil]); first | done | rfl | (simp only [List.length_drop, List.length_take]; rfl)) ?_
          with_reducible refine (spec_IsValidFact.calls k1 _ _ l0_0 ((rd_T44 l0_1 x3_1).f0) _ _ ((rd_T44 l0_1 x3_1).f1) true _ ?side1 ?side2 ?side3 ?side4 A5.out).mono ?_
          (case side1 => exact zc HR0_0.out)
          (case side2 => exact HC0_0.out)
          (case side3 => exact zc HR234_1.out)
          (case side4 => exact HC234_1.out)
          rintro e w85 ⟨rfl, hb⟩
          refine ⟨_, rfl, ?_⟩
          replace BK232 := zm (blk_below (zb BK232.out) hb)
          replace BK235 := zm (blk_below (zb BK235.out) hb)
          replace HB := zm (below_step zl hb)
          (try clear hb)
          refine hK.out _ _ ⟨(blk_cell BK232.out 0).trans rfl, (blk_cell BK232.out 1).trans rfl, (blk_cell BK235.out 0).trans rfl, (blk_cell BK235.out 1).trans rfl, ((HB.out.cell (World.block_lt_of_cell? w _ hw243_0)).trans hw243_0), ((HB.out.cell (World.block_lt_of_cell? w _ hw243_1)).trans hw243_1), ((HB.out.cell (World.block_lt_of_cell? w _ hw243_2)).trans hw243_2)⟩ (fun hHeld => ?_)
          clear hK K
          refine zO (some 20) ?_
          refine zP 4 (some 21) (zA 35 31) (any_of HT_.out (by kernel_rfl)) ?_
          refine zP 5 (some 22) (zA 35 63) (any_of HT_.out (by kernel_rfl)) ?_
          refine zP 6 (some 23) (zA 35 127) (any_of HT_.out (by kernel_rfl)) ?_
          refine zP 7 (some 24) (zA 35 255) (any_of HT_.out (by kernel_rfl)) ?_
          refine zP 8 (some 25) (zA 35 511) (any_of HT_.out (by kernel_rfl)) ?_
          refine pure_ (i := 9) (N := some 26) (v := undef) (a' := ?_) (zA 35 1023) rfl rfl (any_of HT_.out (by kernel_rfl)) (fun _ _ _ h => h) (Or.inr ⟨by rfl, rfl⟩) ?_ ?_
          rotate_left
          ·simp only [Act.put, List.setIfInBounds_toArray, List.set_cons_zero, List.set_cons_succ, i64_w, i32_w]
           rfl
          refine pure_ (i := 10) (N := some 27) (v := undef) (a' := ?_) (zA 35 2047) rfl rfl (any_of HT_.out (by kernel_rfl)) (fun _ _ _ h => h) (Or.inr ⟨by rfl, rfl⟩) ?_ ?_
          rotate_left
          ·simp only [Act.put, List.setIfInBounds_toArray, List.set_cons_zero, List.set_cons_succ, i64_w, i32_w]
           rfl
          refine pure_ (i := 11) (N := some 28) (v := undef) (a' := ?_) (zA 35 4095) rfl rfl (any_of HT_.out (by kernel_rfl)) (fun _ _ _ h => h) (Or.inr ⟨by rfl, rfl⟩) ?_ ?_
          rotate_left
          ·simp only [Act.put, List.setIfInBounds_toArray, List.set_cons_zero, List.set_cons_succ, i64_w, i32_w]
           rfl
          refine pure_ (i := 12) (N := some 29) (v := undef) (a' := ?_) (zA 35 8191) rfl rfl (any_of HT_.out (by kernel_rfl)) (fun _ _ _ h => h) (Or.inr ⟨by rfl, rfl⟩) ?_ ?_
          rotate_left
          ·simp only [Act.put, List.setIfInBounds_toArray, List.set_cons_zero, List.set_cons_succ, i64_w, i32_w]
           rfl
          refine pure_ (i := 13) (N := some 30) (v := undef) (a' := ?_) (zA 35 16383) rfl rfl (any_of HT_.out (by kernel_rfl)) (fun _ _ _ h => h) (Or.inr ⟨by rfl, rfl⟩) ?_ ?_
          rotate_left
          ·simp only [Act.put, List.setIfInBounds_toArray, List.set_cons_zero, List.set_cons_succ, i64_w, i32_w]
           rfl
          refine pure_ (i := 14) (N := some 31) (v := undef) (a' := ?_) (zA 35 32767) rfl rfl (any_of HT_.out (by kernel_rfl)) (fun _ _ _ h => h) (Or.inr ⟨by rfl, rfl⟩) ?_ ?_
          rotate_left
          ·simp only [Act.put, List.setIfInBounds_toArray, List.set_cons_zero, List.set_cons_succ, i64_w, i32_w]
           rfl
          refine pure_ (i := 15) (N := some 32) (v := undef) (a' := ?_) (zA 35 65535) rfl rfl (any_of HT_.out (by kernel_rfl)) (fun _ _ _ h => h) (Or.inr ⟨by rfl, rfl⟩) ?_ ?_
          rotate_left
          ·simp only [Act.put, List.setIfInBounds_toArray, List.set_cons_zero, List.set_cons_succ, i64_w, i32_w]
           rfl
          refine pure_ (i := 16) (N := some 33) (v := undef) (a' := ?_) (zA 35 131071) rfl rfl (any_of HT_.out (by kernel_rfl)) (fun _ _ _ h => h) (Or.inr ⟨by rfl, rfl⟩) ?_ ?_
          rotate_left
          ·simp only [Act.put, List.setIfInBounds_toArray, List.set_cons_zero, List.set_cons_succ, i64_w, i32_w]
           rfl
          refine pure_ (i := 17) (N := some 34) (v := undef) (a' := ?_) (zA 35 262143) rfl rfl (any_of HT_.out (by kernel_rfl)) (fun _ _ _ h => h) (Or.inr ⟨by rfl, rfl⟩) ?_ ?_
          rotate_left
          ·simp only [Act.put, List.setIfInBounds_toArray, List.set_cons_zero, List.set_cons_succ, i64_w, i32_w]
           rfl
          refine zP 18 (some 35) (zA 35 524287) (any_of HT_.out (by kernel_rfl)) ?_
          refine zP 19 (some 36) (zA 35 1048575) (any_of HT_.out (by kernel_rfl)) ?_
          refine zP 20 (some 37) (zA 35 2097151) (any_of HT_.out (by kernel_rfl)) ?_
          refine zP 21 (some 38) (zA 35 4194303) (any_of HT_.out (by kernel_rfl)) ?_
          refine zP 23 (some 40) (zA 35 12582911) (any_of HT_.out (by kernel_rfl)) ?_
          refine take_ (i := 22) (N := some 39) (v := ?_) (a' := ?_) (zA 35 16777215) rfl rfl (take_ofW HT_.out HW_.out (by kernel_rfl)) (fun _ _ _ h => h) (Or.inl ⟨by rfl, ?_⟩) hHeld ?_ ?_
          rotate_left
          ·rintro w' ⟨s0, s1, s2, s3, s4, s5, s6⟩
           go_simp
           with_reducible rfl
          rotate_left
          ·simp only [Act.put, List.setIfInBounds_toArray, List.set_cons_zero, List.set_cons_succ, i64_w, i32_w]
           rfl
          refine take_ (i := 24) (N := some 41) (v := ?_) (a' := ?_) (zA 35 33554431) rfl rfl (take_ofW HT_.out HW_.out (by kernel_rfl)) (fun _ _ _ h => h) (Or.inl ⟨by rfl, ?_⟩) hHeld ?_ ?_
          rotate_left
          ·rintro w' ⟨s0, s1, s2, s3, s4, s5, s6⟩
           go_simp
           with_reducible rfl
          rotate_left
          ·simp only [Act.put, List.setIfInBounds_toArray, List.set_cons_zero, List.set_cons_succ, i64_w, i32_w]
           rfl
          refine zP 25 (some 42) (zA 35 67108863) (any_of HT_.out (by kernel_rfl)) ?_
          refine zP 26 (some 43) (zA 35 134217727) (any_of HT_.out (by kernel_rfl)) ?_
          refine take_ (i := 27) (N := some 44) (v := ?_) (a' := ?_) (zA 35 268435455) rfl rfl (take_ofW HT_.out HW_.out (by kernel_rfl)) (fun _ _ _ h => h) (Or.inl ⟨by rfl, ?_⟩) hHeld ?_ ?_
          rotate_left
          ·rintro w' ⟨s0, s1, s2, s3, s4, s5, s6⟩
           go_simp
           with_reducible rfl
          rotate_left
          ·simp only [Act.put, List.setIfInBounds_toArray, List.set_cons_zero, List.set_cons_succ, i64_w, i32_w]
           rfl
          refine zP 28 (some 45) (zA 35 536870911) (any_of HT_.out (by kernel_rfl)) ?_
          refine pure_ (i := 29) (N := some 46) (v := undef) (a' := ?_) (zA 35 1073741823) rfl rfl (any_of HT_.out (by kernel_rfl)) (fun _ _ _ h => h) (Or.inr ⟨by rfl, rfl⟩) ?_ ?_
          rotate_left
          ·simp only [Act.put, List.setIfInBounds_toArray, List.set_cons_zero, List.set_cons_succ, i64_w, i32_w]
           rfl
          refine pure_ (i := 30) (N := some 47) (v := undef) (a' := ?_) (zA 35 2147483647) rfl rfl (any_of HT_.out (by kernel_rfl)) (fun _ _ _ h => h) (Or.inr ⟨by rfl, rfl⟩) ?_ ?_
          rotate_left
          ·simp only [Act.put, List.setIfInBounds_toArray, List.set_cons_zero, List.set_cons_succ, i64_w, i32_w]
           rfl
          refine pure_ (i := 31) (N := some 48) (v := undef) (a' := ?_) (zA 35 4294967295) rfl rfl (any_of HT_.out (by kernel_rfl)) (fun _ _ _ h => h) (Or.inr ⟨by rfl, rfl⟩) ?_ ?_
          rotate_left
          ·simp only [Act.put, List.setIfInBounds_toArray, List.set_cons_zero, List.set_cons_succ, i64_w, i32_w]
           rfl
          refine pure_ (i := 32) (N := some 49) (v := undef) (a' := ?_) (zA 35 8589934591) rfl rfl (any_of HT_.out (by kernel_rfl)) (fun _ _ _ h => h) (Or.inr ⟨by rfl, rfl⟩) ?_ ?_
          rotate_left
          ·simp only [Act.put, List.setIfInBounds_toArray, List.set_cons_zero, List.set_cons_succ, i64_w, i32_w]
           rfl
          refine zP 33 (some 50) (zA 35 17179869183) (any_of HT_.out (by kernel_rfl)) ?_
          refine zP 34 (some 51) (zA 35 34359738367) (any_of HT_.out (by kernel_rfl)) ?_
          refine done_ (done_of HT_.out (by kernel_rfl)) ?_
          try go_wp2
          go_roundg k1
          case measure => have := HK1.out; omega
          case rel => exact ⟨(wrap64 (x3_1 + 1)), (by first | rfl | (simp; done) | (simp [*]; done)), H', ⟨by have := HK1.out; omega⟩, ⟨zb BK232.out⟩, ⟨zl⟩⟩
        ·rw [if_neg c56] at H
         exact absurd H (by simp)
       ·rw [if_neg c55] at H
        exact absurd H (by simp)
     ·replace c6 := Bool.eq_false_iff.mpr c6
      subst c6
      have H1 : (some false) = some r := by first | with_reducible rfl | (rw [if_neg (show ¬ (false = true) by decide)] at H; exact H)
      clear H
      have H := H1
      clear H1
      obtain rfl := Option.some.inj H
      have hcz86_0 : wr.cell? ⟨gb232, 0, none⟩ = some (.slice A0_0 l0_0.length c0_0) := (blk_cell BK232.out 0).trans rfl
      have hcz86_1 : wr.cell? ⟨gb232, 1, none⟩ = some (.slice A0_1 l0_1.length c0_1) := (blk_cell BK232.out 1).trans rfl
      have hfz86_0 := blk_frozen BK232.out 0
      have hfz86_1 := blk_frozen BK232.out 1
      have p234 : 0 ≤ (x3_1 : Int) := zd
      have q234 : x3_1 < (l0_1.length : Int) := zd
      obtain ⟨ad234, A234_1, c234_1, e234, hx234_0, hx234_1, hl234_1, hi234_1⟩ := at_T44 HR0_1.out x3_1 p234 q234
      cases e234
      replace hx234_0 := (HB.out.cell (World.block_lt_of_cell? w _ hx234_0)).trans hx234_0
      replace hx234_1 := (HB.out.cell (World.block_lt_of_cell? w _ hx234_1)).trans hx234_1
      have HR234_1 := Aside0.mk hi234_1
      have HC234_1 := Aside0.mk hl234_1
      clear hi234_1 hl234_1
      replace p234 := eq_true p234
      replace q234 := eq_true q234
      try go_wp2_with (first | ((with_reducible refine gate_dst (N := 4) rfl ?_); (try (refine gate_guard (by rfl) ?_; dsimp only)); refine box_event ?hg (N := 4) ?hd (cs := #[.int .i64 0, .slice none 0 0]) (t := 44) ?hr ?_; (case hd => rfl); (case hg => rfl); (case hr => first | (go_simp; done) | (go_simp; rfl)); intro gb235 hg w87 hbox hb; have BK235 := zm (hbox); have GW235 := zm ((by rw [hg]; exact (below_size zl) : w.heap.size ≤ gb235)); have GE235 := zm ((by rw [hg]; exact (below_size zl) : w.heap.size ≤ gb235)); replace HB := zm (below_step zl hb); have NB232_235 := zm (zl1 hg (zb BK232.out)); have NB235_232 := zm (zl2 hg (zb BK232.out)); replace BK232 := zm (blk_below (zb BK232.out) hb); clear hb hbox hg; have hnb88 := NB235_232.out; have hnc88 := NB232_235.out; have hcz89_0 : w87.cell? ⟨gb235, 0, none⟩ = some (.int .i64 0) := (blk_cell BK235.out 0).trans rfl; have hcz89_1 : w87.cell? ⟨gb235, 1, none⟩ = some (.slice none 0 0) := (blk_cell BK235.out 1).trans rfl; have hfz89_0 := blk_frozen BK235.out 0; have hfz89_1 := blk_frozen BK235.out 1))
      have n0_ : Aside0 (((w87.setCell ⟨gb235, 0, none⟩ (.int .i64 ((rd_T44 l0_1 x3_1).f0))).setCell ⟨gb235, 1, none⟩ (.slice A234_1 ((rd_T44 l0_1 x3_1).f1).length c234_1)).heap[gb232]? = some (.cells #[.slice A0_0 l0_0.length c0_0, .slice (some ad234) l0_1.length c0_1] 32 (0, 0))) := ⟨by (with_reducible repeat (first | refine blk_drewN ?_ _ | refine blk_drew ?_ | refine blk_alloc ?_ _)); refine blk_far ?_ NB232_235.out _; (with_reducible repeat (first | refine blk_drewN ?_ _ | refine blk_drew ?_ | refine blk_alloc ?_ _)); refine blk_far ?_ NB232_235.out _; (with_reducible repeat (first | refine blk_drewN ?_ _ | refine blk_drew ?_ | refine blk_alloc ?_ _)); exact BK232.out⟩
      have n1_ : Aside0 (((w87.setCell ⟨gb235, 0, none⟩ (.int .i64 ((rd_T44 l0_1 x3_1).f0))).setCell ⟨gb235, 1, none⟩ (.slice A234_1 ((rd_T44 l0_1 x3_1).f1).length c234_1)).heap[gb235]? = some (.cells #[.int .i64 ((rd_T44 l0_1 x3_1).f0), .slice A234_1 ((rd_T44 l0_1 x3_1).f1).length c234_1] 44 (0, 0))) := ⟨by (with_reducible repeat (first | refine blk_drewN ?_ _ | refine blk_drew ?_ | refine blk_alloc ?_ _)); refine blk_put (cs := #[.int .i64 ((rd_T44 l0_1 x3_1).f0), .slice none 0 0]) ?_ 1 _ rfl; (with_reducible repeat (first | refine blk_drewN ?_ _ | refine blk_drew ?_ | refine blk_alloc ?_ _)); refine blk_put (cs := #[.int .i64 0, .slice none 0 0]) ?_ 0 _ rfl; (with_reducible repeat (first | refine blk_drewN ?_ _ | refine blk_drew ?_ | refine blk_alloc ?_ _)); exact BK235.out⟩
      have n2_ : Aside0 (Below w.heap.size w ((w87.setCell ⟨gb235, 0, none⟩ (.int .i64 ((rd_T44 l0_1 x3_1).f0))).setCell ⟨gb235, 1, none⟩ (.slice A234_1 ((rd_T44 l0_1 x3_1).f1).length c234_1))) := ⟨zl⟩
      (try clear BK232)
      (try clear BK235)
      (try clear HB)
      generalize ((w87.setCell ⟨gb235, 0, none⟩ (.int .i64 ((rd_T44 l0_1 x3_1).f0))).setCell ⟨gb235, 1, none⟩ (.slice A234_1 ((rd_T44 l0_1 x3_1).f1).length c234_1)) = w90 at n0_ n1_ n2_ ⊢
      have BK232 := n0_
      have BK235 := n1_
      have HB := n2_
      clear n0_ n1_ n2_
      replace BK232 := zm (blk_drew BK232.out)
      replace BK235 := zm (blk_drew BK235.out)
      replace HB := zm (below_drew1 HB.out)
      refine start_ (n := 35) (S := fun w' => w'.cell? ⟨gb232, 0, none⟩ = some (.slice A0_0 l0_0.length c0_0) ∧ w'.cell? ⟨gb232, 1, none⟩ = some (.slice (some ad234) l0_1.length c0_1) ∧ w'.cell? ⟨gb235, 0, none⟩ = some (.int .i64 ((rd_T44 l0_1 x3_1).f0)) ∧ w'.cell? ⟨gb235, 1, none⟩ = some (.slice A234_1 ((rd_T44 l0_1 x3_1).f1).length c234_1)) (ds := []) #[false, false, false, false, false, false, false, false, false, false, false, false, false, false, false, false, false, false, false, false, false, false, false, false, false, false, false, false, false, false, false, false, false, false, false] (by kernel_rfl) rfl rfl ⟨(blk_cell BK232.out 0).trans rfl, (blk_cell BK232.out 1).trans rfl, (blk_cell BK235.out 0).trans rfl, (blk_cell BK235.out 1).trans rfl⟩ (fun hHeld => ?_); refine with_tabW spec_IsValidInstance.tab5 spec_IsValidInstance.bits5 (fun HT_ HW_ => ?_)
      generalize w90.drew = w91 at BK232 BK235 HB hHeld ⊢
      refine zP 0 (some 17) (zA 35 1) (any_of HT_.out (by kernel_rfl)) ?_
      refine take_ (i := 1) (N := some 18) (v := ?_) (a' := ?_) (zA 35 3) rfl rfl (take_ofW HT_.out HW_.out (by kernel_rfl)) (fun _ _ _ h => h) (Or.inl ⟨by rfl, ?_⟩) hHeld ?_ ?_
      rotate_left
      ·rintro w' ⟨s0, s1, s2, s3⟩
       go_simp
       with_reducible rfl
      rotate_left
      ·simp only [Act.put, List.setIfInBounds_toArray, List.set_cons_zero, List.set_cons_succ, i64_w, i32_w]
       rfl
      refine take_ (i := 2) (N := some 19) (v := ?_) (a' := ?_) (zA 35 7) rfl rfl (take_ofW HT_.out HW_.out (by kernel_rfl)) (fun _ _ _ h => h) (Or.inl ⟨by rfl, ?_⟩) hHeld ?_ ?_
      rotate_left
      ·rintro w' ⟨s0, s1, s2, s3⟩
       go_simp
       with_reducible rfl
      rotate_left
      ·simp only [Act.put, List.setIfInBounds_toArray, List.set_cons_zero, List.set_cons_succ, i64_w, i32_w]
       rfl
      refine one_ (i := 3) (N := some 20) (zA 35 15) rfl rfl (one_of HT_.out (by kernel_rfl)) (by decide) (fun K hK => ?_)
      refine goes_ Try.func33 (by kernel_rfl) rfl #[.slice A0_0 l0_0.length c0_0, .agg #[.int .i64 ((rd_T44 l0_1 x3_1).f0), .slice A234_1 ((rd_T44 l0_1 x3_1).f1).length c234_1]] (by rfl) rfl rfl (by (try simp only [List.map_toArray, List.map_cons, List.map_nil]); first | done | rfl | (simp only [List.length_drop, List.length_take]; rfl)) ?_
      with_reducible refine (spec_IsValidFact.calls k1 _ _ l0_0 ((rd_T44 l0_1 x3_1).f0) _ _ ((rd_T44 l0_1 x3_1).f1) false _ ?side1 ?side2 ?side3 ?side4 A5.out).mono ?_
      (case side1 => exact zc HR0_0.out)
      (case side2 => exact HC0_0.out)
      (case side3 => exact zc HR234_1.out)
      (case side4 => exact HC234_1.out)
      rintro e w92 ⟨rfl, hb⟩
      refine ⟨_, rfl, ?_⟩
      replace BK232 := zm (blk_below (zb BK232.out) hb)
      replace BK235 := zm (blk_below (zb BK235.out) hb)
      replace HB := zm (below_step zl hb)
      (try clear hb)
      refine hK.out _ _ ⟨(blk_cell BK232.out 0).trans rfl, (blk_cell BK232.out 1).trans rfl, (blk_cell BK235.out 0).trans rfl, (blk_cell BK235.out 1).trans rfl⟩ (fun hHeld => ?_)
      clear hK K
      refine zO (some 20) ?_
      refine zP 4 (some 21) (zA 35 31) (any_of HT_.out (by kernel_rfl)) ?_
      refine zP 5 (some 22) (zA 35 63) (any_of HT_.out (by kernel_rfl)) ?_
      refine pure_ (i := 6) (N := some 23) (v := undef) (a' := ?_) (zA 35 127) rfl rfl (any_of HT_.out (by kernel_rfl)) (fun _ _ _ h => h) (Or.inr ⟨by rfl, rfl⟩) ?_ ?_
      rotate_left
      ·simp only [Act.put, List.setIfInBounds_toArray, List.set_cons_zero, List.set_cons_succ, i64_w, i32_w]
       rfl
      refine pure_ (i := 7) (N := some 24) (v := undef) (a' := ?_) (zA 35 255) rfl rfl (any_of HT_.out (by kernel_rfl)) (fun _ _ _ h => h) (Or.inr ⟨by rfl, rfl⟩) ?_ ?_
      rotate_left
      ·simp only [Act.put, List.setIfInBounds_toArray, List.set_cons_zero, List.set_cons_succ, i64_w, i32_w]
       rfl
      refine pure_ (i := 8) (N := some 25) (v := undef) (a' := ?_) (zA 35 511) rfl rfl (any_of HT_.out (by kernel_rfl)) (fun _ _ _ h => h) (Or.inr ⟨by rfl, rfl⟩) ?_ ?_
      rotate_left
      ·simp only [Act.put, List.setIfInBounds_toArray, List.set_cons_zero, List.set_cons_succ, i64_w, i32_w]
       rfl
      refine pure_ (i := 9) (N := some 26) (v := undef) (a' := ?_) (zA 35 1023) rfl rfl (any_of HT_.out (by kernel_rfl)) (fun _ _ _ h => h) (Or.inr ⟨by rfl, rfl⟩) ?_ ?_
      rotate_left
      ·simp only [Act.put, List.setIfInBounds_toArray, List.set_cons_zero, List.set_cons_succ, i64_w, i32_w]
       rfl
      refine pure_ (i := 10) (N := some 27) (v := undef) (a' := ?_) (zA 35 2047) rfl rfl (any_of HT_.out (by kernel_rfl)) (fun _ _ _ h => h) (Or.inr ⟨by rfl, rfl⟩) ?_ ?_
      rotate_left
      ·simp only [Act.put, List.setIfInBounds_toArray, List.set_cons_zero, List.set_cons_succ, i64_w, i32_w]
       rfl
      refine pure_ (i := 11) (N := some 28) (v := undef) (a' := ?_) (zA 35 4095) rfl rfl (any_of HT_.out (by kernel_rfl)) (fun _ _ _ h => h) (Or.inr ⟨by rfl, rfl⟩) ?_ ?_
      rotate_left
      ·simp only [Act.put, List.setIfInBounds_toArray, List.set_cons_zero, List.set_cons_succ, i64_w, i32_w]
       rfl
      refine pure_ (i := 12) (N := some 29) (v := undef) (a' := ?_) (zA 35 8191) rfl rfl (any_of HT_.out (by kernel_rfl)) (fun _ _ _ h => h) (Or.inr ⟨by rfl, rfl⟩) ?_ ?_
      rotate_left
      ·simp only [Act.put, List.setIfInBounds_toArray, List.set_cons_zero, List.set_cons_succ, i64_w, i32_w]
       rfl
      refine pure_ (i := 13) (N := some 30) (v := undef) (a' := ?_) (zA 35 16383) rfl rfl (any_of HT_.out (by kernel_rfl)) (fun _ _ _ h => h) (Or.inr ⟨by rfl, rfl⟩) ?_ ?_
      rotate_left
      ·simp only [Act.put, List.setIfInBounds_toArray, List.set_cons_zero, List.set_cons_succ, i64_w, i32_w]
       rfl
      refine pure_ (i := 14) (N := some 31) (v := undef) (a' := ?_) (zA 35 32767) rfl rfl (any_of HT_.out (by kernel_rfl)) (fun _ _ _ h => h) (Or.inr ⟨by rfl, rfl⟩) ?_ ?_
      rotate_left
      ·simp only [Act.put, List.setIfInBounds_toArray, List.set_cons_zero, List.set_cons_succ, i64_w, i32_w]
       rfl
      refine pure_ (i := 15) (N := some 32) (v := undef) (a' := ?_) (zA 35 65535) rfl rfl (any_of HT_.out (by kernel_rfl)) (fun _ _ _ h => h) (Or.inr ⟨by rfl, rfl⟩) ?_ ?_
      rotate_left
      ·simp only [Act.put, List.setIfInBounds_toArray, List.set_cons_zero, List.set_cons_succ, i64_w, i32_w]
       rfl
      refine pure_ (i := 16) (N := some 33) (v := undef) (a' := ?_) (zA 35 131071) rfl rfl (any_of HT_.out (by kernel_rfl)) (fun _ _ _ h => h) (Or.inr ⟨by rfl, rfl⟩) ?_ ?_
      rotate_left
      ·simp only [Act.put, List.setIfInBounds_toArray, List.set_cons_zero, List.set_cons_succ, i64_w, i32_w]
       rfl
      refine pure_ (i := 17) (N := some 34) (v := undef) (a' := ?_) (zA 35 262143) rfl rfl (any_of HT_.out (by kernel_rfl)) (fun _ _ _ h => h) (Or.inr ⟨by rfl, rfl⟩) ?_ ?_
      rotate_left
      ·simp only [Act.put, List.setIfInBounds_toArray, List.set_cons_zero, List.set_cons_succ, i64_w, i32_w]
       rfl
      refine pure_ (i := 18) (N := some 35) (v := undef) (a' := ?_) (zA 35 524287) rfl rfl (any_of HT_.out (by kernel_rfl)) (fun _ _ _ h => h) (Or.inr ⟨by rfl, rfl⟩) ?_ ?_
      rotate_left
      ·simp only [Act.put, List.setIfInBounds_toArray, List.set_cons_zero, List.set_cons_succ, i64_w, i32_w]
       rfl
      refine zP 19 (some 36) (zA 35 1048575) (any_of HT_.out (by kernel_rfl)) ?_
      refine zP 20 (some 37) (zA 35 2097151) (any_of HT_.out (by kernel_rfl)) ?_
      refine pure_ (i := 21) (N := some 38) (v := undef) (a' := ?_) (zA 35 4194303) rfl rfl (any_of HT_.out (by kernel_rfl)) (fun _ _ _ h => h) (Or.inr ⟨by rfl, rfl⟩) ?_ ?_
      rotate_left
      ·simp only [Act.put, List.setIfInBounds_toArray, List.set_cons_zero, List.set_cons_succ, i64_w, i32_w]
       rfl
      refine pure_ (i := 22) (N := some 39) (v := undef) (a' := ?_) (zA 35 8388607) rfl rfl (any_of HT_.out (by kernel_rfl)) (fun _ _ _ h => h) (Or.inr ⟨by rfl, rfl⟩) ?_ ?_
      rotate_left
      ·simp only [Act.put, List.setIfInBounds_toArray, List.set_cons_zero, List.set_cons_succ, i64_w, i32_w]
       rfl
      refine pure_ (i := 23) (N := some 40) (v := undef) (a' := ?_) (zA 35 16777215) rfl rfl (any_of HT_.out (by kernel_rfl)) (fun _ _ _ h => h) (Or.inr ⟨by rfl, rfl⟩) ?_ ?_
      rotate_left
      ·simp only [Act.put, List.setIfInBounds_toArray, List.set_cons_zero, List.set_cons_succ, i64_w, i32_w]
       rfl
      refine pure_ (i := 24) (N := some 41) (v := undef) (a' := ?_) (zA 35 33554431) rfl rfl (any_of HT_.out (by kernel_rfl)) (fun _ _ _ h => h) (Or.inr ⟨by rfl, rfl⟩) ?_ ?_
      rotate_left
      ·simp only [Act.put, List.setIfInBounds_toArray, List.set_cons_zero, List.set_cons_succ, i64_w, i32_w]
       rfl
      refine pure_ (i := 25) (N := some 42) (v := undef) (a' := ?_) (zA 35 67108863) rfl rfl (any_of HT_.out (by kernel_rfl)) (fun _ _ _ h => h) (Or.inr ⟨by rfl, rfl⟩) ?_ ?_
      rotate_left
      ·simp only [Act.put, List.setIfInBounds_toArray, List.set_cons_zero, List.set_cons_succ, i64_w, i32_w]
       rfl
      refine pure_ (i := 26) (N := some 43) (v := undef) (a' := ?_) (zA 35 134217727) rfl rfl (any_of HT_.out (by kernel_rfl)) (fun _ _ _ h => h) (Or.inr ⟨by rfl, rfl⟩) ?_ ?_
      rotate_left
      ·simp only [Act.put, List.setIfInBounds_toArray, List.set_cons_zero, List.set_cons_succ, i64_w, i32_w]
       rfl
      refine pure_ (i := 27) (N := some 44) (v := undef) (a' := ?_) (zA 35 268435455) rfl rfl (any_of HT_.out (by kernel_rfl)) (fun _ _ _ h => h) (Or.inr ⟨by rfl, rfl⟩) ?_ ?_
      rotate_left
      ·simp only [Act.put, List.setIfInBounds_toArray, List.set_cons_zero, List.set_cons_succ, i64_w, i32_w]
       rfl
      refine pure_ (i := 28) (N := some 45) (v := undef) (a' := ?_) (zA 35 536870911) rfl rfl (any_of HT_.out (by kernel_rfl)) (fun _ _ _ h => h) (Or.inr ⟨by rfl, rfl⟩) ?_ ?_
      rotate_left
      ·simp only [Act.put, List.setIfInBounds_toArray, List.set_cons_zero, List.set_cons_succ, i64_w, i32_w]
       rfl
      refine pure_ (i := 29) (N := some 46) (v := undef) (a' := ?_) (zA 35 1073741823) rfl rfl (any_of HT_.out (by kernel_rfl)) (fun _ _ _ h => h) (Or.inr ⟨by rfl, rfl⟩) ?_ ?_
      rotate_left
      ·simp only [Act.put, List.setIfInBounds_toArray, List.set_cons_zero, List.set_cons_succ, i64_w, i32_w]
       rfl
      refine pure_ (i := 30) (N := some 47) (v := undef) (a' := ?_) (zA 35 2147483647) rfl rfl (any_of HT_.out (by kernel_rfl)) (fun _ _ _ h => h) (Or.inr ⟨by rfl, rfl⟩) ?_ ?_
      rotate_left
      ·simp only [Act.put, List.setIfInBounds_toArray, List.set_cons_zero, List.set_cons_succ, i64_w, i32_w]
       rfl
      refine pure_ (i := 31) (N := some 48) (v := undef) (a' := ?_) (zA 35 4294967295) rfl rfl (any_of HT_.out (by kernel_rfl)) (fun _ _ _ h => h) (Or.inr ⟨by rfl, rfl⟩) ?_ ?_
      rotate_left
      ·simp only [Act.put, List.setIfInBounds_toArray, List.set_cons_zero, List.set_cons_succ, i64_w, i32_w]
       rfl
      refine pure_ (i := 32) (N := some 49) (v := undef) (a' := ?_) (zA 35 8589934591) rfl rfl (any_of HT_.out (by kernel_rfl)) (fun _ _ _ h => h) (Or.inr ⟨by rfl, rfl⟩) ?_ ?_
      rotate_left
      ·simp only [Act.put, List.setIfInBounds_toArray, List.set_cons_zero, List.set_cons_succ, i64_w, i32_w]
       rfl
      refine pure_ (i := 33) (N := some 50) (v := undef) (a' := ?_) (zA 35 17179869183) rfl rfl (any_of HT_.out (by kernel_rfl)) (fun _ _ _ h => h) (Or.inr ⟨by rfl, rfl⟩) ?_ ?_
      rotate_left
      ·simp only [Act.put, List.setIfInBounds_toArray, List.set_cons_zero, List.set_cons_succ, i64_w, i32_w]
       rfl
      refine zP 34 (some 51) (zA 35 34359738367) (any_of HT_.out (by kernel_rfl)) ?_
      refine done_ (done_of HT_.out (by kernel_rfl)) ?_
      try go_wp2
      go_ret
      exact ⟨by first | rfl | (simp [errW_none, errW_some] <;> rfl) | (simp [*, errW_none, errW_some] <;> rfl), zl⟩
    ·rw [if_neg c4] at H
     exact absurd H (by simp)
   ·rw [if_neg c3] at H
    have c3b0 : decide (x3_1 < (l0_1.length : Int)) = false := decide_eq_false c3
    clear c3
    replace H := Option.bind_eq_some_iff.mp H
    obtain ⟨t233, A930, H⟩ := H
    replace H : (if t233 = true then (some (decide ((l0_1.length : Int) ≤ 30))) else (some false)) = some r := H
    have A93 := Aside0.mk A930
    clear A930
    by_cases c94 : t233 = true
    ·subst c94
     have H1 : (some (decide ((l0_1.length : Int) ≤ 30))) = some r := by first | with_reducible rfl | (rw [if_pos rfl] at H; exact H)
     clear H
     have H := H1
     clear H1
     obtain rfl := Option.some.inj H
     have hcz95_0 : wr.cell? ⟨gb232, 0, none⟩ = some (.slice A0_0 l0_0.length c0_0) := (blk_cell BK232.out 0).trans rfl
     have hcz95_1 : wr.cell? ⟨gb232, 1, none⟩ = some (.slice A0_1 l0_1.length c0_1) := (blk_cell BK232.out 1).trans rfl
     have hfz95_0 := blk_frozen BK232.out 0
     have hfz95_1 := blk_frozen BK232.out 1
     go_wp2_with (first | (go_at_call 35; (with_reducible refine (spec_AreValidRelations.calls k1 _ _ l0_0 true _ ?side1 ?side2 A93.out).mono ?_); (case side1 => exact zc HR0_0.out); (case side2 => exact HC0_0.out); rintro e w96 ⟨rfl, hb⟩; have n0_ := Aside0.mk (blk_below (zb BK232.out) hb); have n1_ := Aside0.mk (below_step zl hb); clear BK232; clear HB; have BK232 := n0_; have HB := n1_; clear n0_ n1_; (try clear hb)) | ((with_reducible refine gate_callee (f := 35) rfl ?_); refine zg (some 54) Try.func35 #[.slice A0_0 l0_0.length c0_0] ?_; (with_reducible refine (spec_AreValidRelations.calls k1 _ _ l0_0 true _ ?side1 ?side2 A93.out).mono ?_); (case side1 => exact zc HR0_0.out); (case side2 => exact HC0_0.out); rintro e w96 ⟨rfl, hb⟩; refine ⟨_, rfl, ?_⟩; replace BK232 := zm (blk_below (zb BK232.out) hb); replace HB := zm (below_step zl hb); (try clear hb); have hcz97_0 : w96.cell? ⟨gb232, 0, none⟩ = some (.slice A0_0 l0_0.length c0_0) := (blk_cell BK232.out 0).trans rfl; have hcz97_1 : w96.cell? ⟨gb232, 1, none⟩ = some (.slice A0_1 l0_1.length c0_1) := (blk_cell BK232.out 1).trans rfl; have hfz97_0 := blk_frozen BK232.out 0; have hfz97_1 := blk_frozen BK232.out 1))
     go_ret
     exact ⟨by first | rfl | (simp [errW_none, errW_some] <;> rfl) | (simp [*, errW_none, errW_some] <;> rfl), zl⟩
    ·replace c94 := Bool.eq_false_iff.mpr c94
     subst c94
     have H1 : (some false) = some r := by first | with_reducible rfl | (rw [if_neg (show ¬ (false = true) by decide)] at H; exact H)
     clear H
     have H := H1
     clear H1
     obtain rfl := Option.some.inj H
     have hcz98_0 : wr.cell? ⟨gb232, 0, none⟩ = some (.slice A0_0 l0_0.length c0_0) := (blk_cell BK232.out 0).trans rfl
     have hcz98_1 : wr.cell? ⟨gb232, 1, none⟩ = some (.slice A0_1 l0_1.length c0_1) := (blk_cell BK232.out 1).trans rfl
     have hfz98_0 := blk_frozen BK232.out 0
     have hfz98_1 := blk_frozen BK232.out 1
     go_wp2_with (first | (go_at_call 35; (with_reducible refine (spec_AreValidRelations.calls k1 _ _ l0_0 false _ ?side1 ?side2 A93.out).mono ?_); (case side1 => exact zc HR0_0.out); (case side2 => exact HC0_0.out); rintro e w99 ⟨rfl, hb⟩; have n0_ := Aside0.mk (blk_below (zb BK232.out) hb); have n1_ := Aside0.mk (below_step zl hb); clear BK232; clear HB; have BK232 := n0_; have HB := n1_; clear n0_ n1_; (try clear hb)) | ((with_reducible refine gate_callee (f := 35) rfl ?_); refine zg (some 54) Try.func35 #[.slice A0_0 l0_0.length c0_0] ?_; (with_reducible refine (spec_AreValidRelations.calls k1 _ _ l0_0 false _ ?side1 ?side2 A93.out).mono ?_); (case side1 => exact zc HR0_0.out); (case side2 => exact HC0_0.out); rintro e w99 ⟨rfl, hb⟩; refine ⟨_, rfl, ?_⟩; replace BK232 := zm (blk_below (zb BK232.out) hb); replace HB := zm (below_step zl hb); (try clear hb)))
     go_ret
     exact ⟨by first | rfl | (simp [errW_none, errW_some] <;> rfl) | (simp [*, errW_none, errW_some] <;> rfl), zl⟩

end Go.Proofs.Ytjphbdnfbkfgiab.PFnExactContainsFact
