-- Written by a program of this session: the kit's printer, turned by wip/mkprint.py.
import Derived.Test.YtjphbdnfbkfgiabPFnExactContainsFactx0
import Derived.Test.YtjphbdnfbkfgiabPFnExactContainsFactx4
import Derived.Test.YtjphbdnfbkfgiabPFnExactContainsFactx5
namespace Go.Proofs.Ytjphbdnfbkfgiab.PFnExactContainsFact
open Go.RowKit Go.Proofs.YtjphbdnfbkfgiabW.PrintWords Go.Proofs.YtjphbdnfbkfgiabW.PrintLast Go.Proofs.YtjphbdnfbkfgiabW.PrintMore
attribute [local go_sem] max2_int min2_int max_two min_two max_three min_three max_four min_four   -- for this text's walks alone
set_option linter.unusedVariables false
set_option linter.unusedSimpArgs false

/-! ### spec_l5Place: function 41 -/
def spec_l5Place.l0 : Nat → Int → List (S62) → List (S44) → Int → List Int → Option (Int)
 | 0, _, _, _, _, _ => none
 | k + 1, x5, x248000, x248001, x249000, x249001 => if x5 < (x248001.length : Int) then (if 0 ≤ x5 then ((spec_CompareFacts.f k ((rd_T44 x248001 x5).f0) ((rd_T44 x248001 x5).f1) x249000 x249001).bind fun t250 => (if t250 = 0 then (some x5) else (spec_l5Place.l0 k (wrap64 (x5 + 1)) x248000 x248001 x249000 x249001))) else (none)) else (some (-1))
def spec_l5Place.f (k : Nat) (l0_0 : List (S62)) (l0_1 : List (S44)) (a1_0 : Int) (l1_1 : List Int) : Option (Int) := spec_l5Place.l0 k 0 l0_0 l0_1 a1_0 l1_1
theorem spec_l5Place.mono_l : ∀ k, (∀ y0 y1 y2 y3 y4, LeO (spec_l5Place.l0 k y0 y1 y2 y3 y4) (spec_l5Place.l0 (k + 1) y0 y1 y2 y3 y4))
 | 0 => fun _ _ _ _ _ r h => by simp [spec_l5Place.l0] at h
 | k + 1 => by
  have ih0 := spec_l5Place.mono_l k
  ·intro y0 y1 y2 y3 y4
   unfold spec_l5Place.l0
   repeat' first
   | (with_reducible exact ih0 _ _ _ _ _)
   | (with_reducible exact spec_CompareFacts.mono _ _ _ _ _)
   | (with_reducible exact LeO.refl _)
   | (with_reducible exact LeO.none _)
   | (with_reducible refine LeO.ite ?_ ?_)
   | (with_reducible refine LeO.bind ?_ (fun _ => ?_))
   | exact ih0 _ _ _ _ _
   | exact spec_CompareFacts.mono _ _ _ _ _
   | exact LeO.none _
   | refine LeO.ite ?_ ?_
   | refine LeO.bind ?_ (fun _ => ?_)
theorem spec_l5Place.mono : ∀ a0 a1 a2 a3 k, LeO (spec_l5Place.f k a0 a1 a2 a3) (spec_l5Place.f (k + 1) a0 a1 a2 a3) := by
 intro a0 a1 a2 a3 k
 have ih0 := spec_l5Place.mono_l k
 unfold spec_l5Place.f
 repeat' first
   | (with_reducible exact ih0 _ _ _ _ _)
   | (with_reducible exact spec_CompareFacts.mono _ _ _ _ _)
   | (with_reducible exact LeO.refl _)
   | (with_reducible exact LeO.none _)
   | (with_reducible refine LeO.ite ?_ ?_)
   | (with_reducible refine LeO.bind ?_ (fun _ => ?_))
   | exact ih0 _ _ _ _ _
   | exact spec_CompareFacts.mono _ _ _ _ _
   | exact LeO.none _
   | refine LeO.ite ?_ ?_
   | refine LeO.bind ?_ (fun _ => ?_)
def spec_l5Place.T4 : Bool × List (List Nat × List Nat) := (true, [([], []), ([0], [0]), ([], []), ([1, 2], [1, 2]), ([3], [3]), ([], []), ([4, 5], [4, 5]), ([6], [6])])
def spec_l5Place.B4 : List Nat := [0, 1, 0, 7, 15, 0, 63, 127]
theorem spec_l5Place.tab4 : rtab .any (opsOf Try.f41 4) = spec_l5Place.T4 := by kernel_rfl
theorem spec_l5Place.bits4 : waitsOk spec_l5Place.T4.2 spec_l5Place.B4 = true := by kernel_rfl
set_option maxHeartbeats 8000000 in
set_option maxRecDepth 100000 in
theorem spec_l5Place.calls (k : Nat) (A0_0 : Option Addr) (c0_0 : Nat) (l0_0 : List (S62)) (A0_1 : Option Addr) (c0_1 : Nat) (l0_1 : List (S44)) (a1_0 : Int) (A1_1 : Option Addr) (c1_1 : Nat) (l1_1 : List Int) (r : Int) (w : World) (hr0_0 : Kd.C k62 w A0_0 l0_0.length l0_0) (hc0_0 : l0_0.length ≤ c0_0) (hr0_1 : Kd.C k44 w A0_1 l0_1.length l0_1) (hc0_1 : l0_1.length ≤ c0_1) (hr1_1 : Kd.C (Kd.int .i64) w A1_1 l1_1.length l1_1) (hc1_1 : l1_1.length ≤ c1_1) (h : spec_l5Place.f k l0_0 l0_1 a1_0 l1_1 = some r) :
  Calls Try.prog 41 #[.agg #[.slice A0_0 l0_0.length c0_0, .slice A0_1 l0_1.length c0_1], .agg #[.int .i64 a1_0, .slice A1_1 l1_1.length c1_1]] w fun e w' => e = .returned (.int .i64 r) ∧ Below w.heap.size w w' := by
 have hu32 := Try.underlying32
 have hu44 := Try.underlying44
 have HR0_0 := Aside0.mk hr0_0
 have HC0_0 := Aside0.mk hc0_0
 clear hr0_0 hc0_0
 have HR0_1 := Aside0.mk hr0_1
 have HC0_1 := Aside0.mk hc0_1
 clear hr0_1 hc0_1
 have HR1_1 := Aside0.mk hr1_1
 have HC1_1 := Aside0.mk hc1_1
 clear hr1_1 hc1_1
 have HB := Aside0.mk (Below.refl w.heap.size w)
 have H : (spec_l5Place.l0 k 0 l0_0 l0_1 a1_0 l1_1) = some r := h
 clear h
 have H' := Aside0.mk H
 clear H
 go_enter Try.func41, Try.ntmps41
 go_wp2_with (first | ((with_reducible refine gate_dst (N := 2) rfl ?_); refine box_event ?hg (N := 2) ?hd (cs := #[.slice A0_0 l0_0.length c0_0, .slice A0_1 l0_1.length c0_1]) (t := 32) ?hr ?_; (case hd => rfl); (case hg => rfl); (case hr => first | (go_simp; done) | (go_simp; rfl)); intro gb247 hg w3 hbox hb; have BK247 := zm (hbox); have GW247 := zm ((by rw [hg]; exact (below_size zl) : w.heap.size ≤ gb247)); have GE247 := zm ((by rw [hg]; exact (below_size zl) : w.heap.size ≤ gb247)); replace HB := zm (below_step zl hb); clear hb hbox hg) | ((with_reducible refine gate_dst (N := 3) rfl ?_); refine box_event ?hg (N := 3) ?hd (cs := #[.int .i64 a1_0, .slice A1_1 l1_1.length c1_1]) (t := 44) ?hr ?_; (case hd => rfl); (case hg => rfl); (case hr => first | (go_simp; done) | (go_simp; rfl)); intro gb248 hg w4 hbox hb; have BK248 := zm (hbox); have GW248 := zm ((by rw [hg]; exact (below_size zl) : w.heap.size ≤ gb248)); have GE248 := zm ((by rw [hg]; exact (below_size zl) : w.heap.size ≤ gb248)); replace HB := zm (below_step zl hb); have NB247_248 := zm (zl1 hg (zb BK247.out)); have NB248_247 := zm (zl2 hg (zb BK247.out)); replace BK247 := zm (blk_below (zb BK247.out) hb); clear hb hbox hg))
 go_loopg [5] k (fun kq v5 w' => ∃ (x5_1 : Int), v5 = .int .i64 x5_1 ∧ Aside0 (spec_l5Place.l0 kq x5_1 l0_0 l0_1 a1_0 l1_1 = some r) ∧ Aside0 (kq ≤ k) ∧ Aside0 (w'.heap[gb247]? = some (.cells #[(.slice A0_0 l0_0.length c0_0), (.slice A0_1 l0_1.length c0_1)] 32 (0, 0))) ∧ Aside0 (w'.heap[gb248]? = some (.cells #[.int .i64 a1_0, (.slice A1_1 l1_1.length c1_1)] 44 (0, 0))) ∧ Aside0 (Below w.heap.size w w'))
 case atStart => exact ⟨(0), (by first | rfl | (simp; done) | (simp [*]; done)), H', ⟨Nat.le_refl _⟩, ⟨zb BK247.out⟩, ⟨zb BK248.out⟩, ⟨zl⟩⟩
 case round =>
  clear H'
  try clear c1
  try clear p2
  try clear c4
  obtain ⟨x5_1, rfl, HA, HK1, BK247, BK248, HB⟩ := hrel
  cases gk with
  | zero => exact absurd HA.out (by simp [spec_l5Place.l0])
  | succ k1 =>
   have H := HA.out
   clear HA
   simp only [spec_l5Place.l0] at H
   by_cases c5 : x5_1 < (l0_1.length : Int)
   ·rw [if_pos c5] at H
    have c5b0 : decide (x5_1 < (l0_1.length : Int)) = true := decide_eq_true c5
    clear c5
    by_cases c6 : 0 ≤ x5_1
    ·rw [if_pos c6] at H
     have c6b0 : decide (0 ≤ x5_1) = true := decide_eq_true c6
     clear c6
     replace H := Option.bind_eq_some_iff.mp H
     obtain ⟨t250, A70, H⟩ := H
     replace H : (if t250 = 0 then (some x5_1) else (spec_l5Place.l0 k1 (wrap64 (x5_1 + 1)) l0_0 l0_1 a1_0 l1_1)) = some r := H
     have A7 := Aside0.mk A70
     clear A70
     by_cases c8 : t250 = 0
     ·rw [if_pos c8] at H
      have c8b0 : (t250 == 0) = true := beq_iff_eq.mpr c8
      have c8b1 : (t250 != 0) = false := bne_eq_false_iff_eq.mpr c8
      clear c8
      obtain rfl := Option.some.inj H
      have hnb9 := NB247_248.out
      have hnc9 := NB248_247.out
      have hcz10_0 : wr.cell? ⟨gb247, 0, none⟩ = some (.slice A0_0 l0_0.length c0_0) := (blk_cell BK247.out 0).trans rfl
      have hcz10_1 : wr.cell? ⟨gb247, 1, none⟩ = some (.slice A0_1 l0_1.length c0_1) := (blk_cell BK247.out 1).trans rfl
      have hfz10_0 := blk_frozen BK247.out 0
      have hfz10_1 := blk_frozen BK247.out 1
      try go_wp2
      replace BK247 := zm (blk_drew BK247.out)
      replace BK248 := zm (blk_drew BK248.out)
      replace HB := zm (below_drew1 HB.out)
      have p249 : 0 ≤ (x5_1 : Int) := zd
      have q249 : x5_1 < (l0_1.length : Int) := zd
      obtain ⟨ad249, A249_1, c249_1, e249, hx249_0, hx249_1, hl249_1, hi249_1⟩ := at_T44 HR0_1.out x5_1 p249 q249
      have hw249_1 := hx249_1
      have hw249_0 := hx249_0
      cases e249
      replace hx249_0 := (HB.out.cell (World.block_lt_of_cell? w _ hx249_0)).trans hx249_0
      replace hx249_1 := (HB.out.cell (World.block_lt_of_cell? w _ hx249_1)).trans hx249_1
      have HR249_1 := Aside0.mk hi249_1
      have HC249_1 := Aside0.mk hl249_1
      clear hi249_1 hl249_1
      replace p249 := eq_true p249
      replace q249 := eq_true q249
      refine start_ (n := 8) (S := fun w' => w'.cell? ⟨gb247, 0, none⟩ = some (.slice A0_0 l0_0.length c0_0) ∧ w'.cell? ⟨gb247, 1, none⟩ = some (.slice (some ad249) l0_1.length c0_1) ∧ w'.cell? ⟨gb248, 0, none⟩ = some (.int .i64 a1_0) ∧ w'.cell? ⟨gb248, 1, none⟩ = some (.slice A1_1 l1_1.length c1_1) ∧ w'.cell? (ad249.add ((x5_1).toNat * 2)) = some (.int .i64 ((rd_T44 l0_1 x5_1).f0)) ∧ w'.cell? ⟨(ad249.add ((x5_1).toNat * 2)).block, (ad249.add ((x5_1).toNat * 2)).off + 1, none⟩ = some (.slice A249_1 ((rd_T44 l0_1 x5_1).f1).length c249_1)) (ds := []) #[false, false, false, false, false, false, false, false] (by kernel_rfl) rfl rfl ⟨(blk_cell BK247.out 0).trans rfl, (blk_cell BK247.out 1).trans rfl, (blk_cell BK248.out 0).trans rfl, (blk_cell BK248.out 1).trans rfl, ((HB.out.cell (World.block_lt_of_cell? w _ hw249_0)).trans hw249_0), ((HB.out.cell (World.block_lt_of_cell? w _ hw249_1)).trans hw249_1)⟩ (fun hHeld => ?_); refine with_tabW spec_l5Place.tab4 spec_l5Place.bits4 (fun HT_ HW_ => ?_)
      generalize wr.drew = w11 at BK247 BK248 HB HR249_1 hx249_0 hx249_1 hHeld ⊢
      refine zP 0 (some 13) (zA 8 1) (any_of HT_.out (by kernel_rfl)) ?_
      refine zP 2 (some 15) (zA 8 5) (any_of HT_.out (by kernel_rfl)) ?_
      refine take_ (i := 1) (N := some 14) (v := ?_) (a' := ?_) (zA 8 7) rfl rfl (take_ofW HT_.out HW_.out (by kernel_rfl)) (fun _ _ _ h => h) (Or.inl ⟨by rfl, ?_⟩) hHeld ?_ ?_
      rotate_left
      ·rintro w' ⟨s0, s1, s2, s3, s4, s5⟩
       go_simp
       with_reducible rfl
      rotate_left
      ·simp only [Act.put, List.setIfInBounds_toArray, List.set_cons_zero, List.set_cons_succ, i64_w, i32_w]
       rfl
      refine zP 3 (some 16) (zA 8 15) (any_of HT_.out (by kernel_rfl)) ?_
      refine take_ (i := 4) (N := some 17) (v := ?_) (a' := ?_) (zA 8 31) rfl rfl (take_ofW HT_.out HW_.out (by kernel_rfl)) (fun _ _ _ h => h) (Or.inl ⟨by rfl, ?_⟩) hHeld ?_ ?_
      rotate_left
      ·rintro w' ⟨s0, s1, s2, s3, s4, s5⟩
       go_simp
       with_reducible rfl
      rotate_left
      ·simp only [Act.put, List.setIfInBounds_toArray, List.set_cons_zero, List.set_cons_succ, i64_w, i32_w]
       rfl
      refine take_ (i := 5) (N := some 18) (v := ?_) (a' := ?_) (zA 8 63) rfl rfl (take_ofW HT_.out HW_.out (by kernel_rfl)) (fun _ _ _ h => h) (Or.inl ⟨by rfl, ?_⟩) hHeld ?_ ?_
      rotate_left
      ·rintro w' ⟨s0, s1, s2, s3, s4, s5⟩
       go_simp
       with_reducible rfl
      rotate_left
      ·simp only [Act.put, List.setIfInBounds_toArray, List.set_cons_zero, List.set_cons_succ, i64_w, i32_w]
       rfl
      refine one_ (i := 6) (N := some 19) (zA 8 127) rfl rfl (one_of HT_.out (by kernel_rfl)) (by decide) (fun K hK => ?_)
      refine goes_ Try.func34 (by kernel_rfl) rfl #[.agg #[.int .i64 ((rd_T44 l0_1 x5_1).f0), .slice A249_1 ((rd_T44 l0_1 x5_1).f1).length c249_1], .agg #[.int .i64 a1_0, .slice A1_1 l1_1.length c1_1]] (by rfl) rfl rfl (by (try simp only [List.map_toArray, List.map_cons, List.map_nil]); first | done | rfl | (simp only [List.length_drop, List.length_take]; rfl)) ?_
      with_reducible refine (spec_CompareFacts.calls k1 ((rd_T44 l0_1 x5_1).f0) _ _ ((rd_T44 l0_1 x5_1).f1) a1_0 _ _ l1_1 t250 _ ?side1 ?side2 ?side3 ?side4 A7.out).mono ?_
      (case side1 => exact zc HR249_1.out)
      (case side2 => exact HC249_1.out)
      (case side3 => exact zc HR1_1.out)
      (case side4 => exact HC1_1.out)
      rintro e w12 ⟨rfl, hb⟩
      refine ⟨_, rfl, ?_⟩
      replace BK247 := zm (blk_below (zb BK247.out) hb)
      replace BK248 := zm (blk_below (zb BK248.out) hb)
      replace HB := zm (below_step zl hb)
      (try clear hb)
      refine hK.out _ _ ⟨(blk_cell BK247.out 0).trans rfl, (blk_cell BK247.out 1).trans rfl, (blk_cell BK248.out 0).trans rfl, (blk_cell BK248.out 1).trans rfl, ((HB.out.cell (World.block_lt_of_cell? w _ hw249_0)).trans hw249_0), ((HB.out.cell (World.block_lt_of_cell? w _ hw249_1)).trans hw249_1)⟩ (fun hHeld => ?_)
      clear hK K
      refine zO (some 19) ?_
      refine zP 7 (some 20) (zA 8 255) (any_of HT_.out (by kernel_rfl)) ?_
      refine done_ (done_of HT_.out (by kernel_rfl)) ?_
      try go_wp2
      go_ret
      exact ⟨by first | rfl | (simp [errW_none, errW_some] <;> rfl) | (simp [*, errW_none, errW_some] <;> rfl), zl⟩
     ·rw [if_neg c8] at H
      have c8b0 : (t250 == 0) = false := beq_eq_false_iff_ne.mpr c8
      have c8b1 : (t250 != 0) = true := bne_iff_ne.mpr c8
      have H' := Aside0.mk H
      clear H
      have hnb13 := NB247_248.out
      have hnc13 := NB248_247.out
      have hcz14_0 : wr.cell? ⟨gb247, 0, none⟩ = some (.slice A0_0 l0_0.length c0_0) := (blk_cell BK247.out 0).trans rfl
      have hcz14_1 : wr.cell? ⟨gb247, 1, none⟩ = some (.slice A0_1 l0_1.length c0_1) := (blk_cell BK247.out 1).trans rfl
      have hfz14_0 := blk_frozen BK247.out 0
      have hfz14_1 := blk_frozen BK247.out 1
      try go_wp2
      replace BK247 := zm (blk_drew BK247.out)
      replace BK248 := zm (blk_drew BK248.out)
      replace HB := zm (below_drew1 HB.out)
      have p249 : 0 ≤ (x5_1 : Int) := zd
      have q249 : x5_1 < (l0_1.length : Int) := zd
      obtain ⟨ad249, A249_1, c249_1, e249, hx249_0, hx249_1, hl249_1, hi249_1⟩ := at_T44 HR0_1.out x5_1 p249 q249
      have hw249_1 := hx249_1
      have hw249_0 := hx249_0
      cases e249
      replace hx249_0 := (HB.out.cell (World.block_lt_of_cell? w _ hx249_0)).trans hx249_0
      replace hx249_1 := (HB.out.cell (World.block_lt_of_cell? w _ hx249_1)).trans hx249_1
      have HR249_1 := Aside0.mk hi249_1
      have HC249_1 := Aside0.mk hl249_1
      clear hi249_1 hl249_1
      replace p249 := eq_true p249
      replace q249 := eq_true q249
      refine start_ (n := 8) (S := fun w' => w'.cell? ⟨gb247, 0, none⟩ = some (.slice A0_0 l0_0.length c0_0) ∧ w'.cell? ⟨gb247, 1, none⟩ = some (.slice (some ad249) l0_1.length c0_1) ∧ w'.cell? ⟨gb248, 0, none⟩ = some (.int .i64 a1_0) ∧ w'.cell? ⟨gb248, 1, none⟩ = some (.slice A1_1 l1_1.length c1_1) ∧ w'.cell? (ad249.add ((x5_1).toNat * 2)) = some (.int .i64 ((rd_T44 l0_1 x5_1).f0)) ∧ w'.cell? ⟨(ad249.add ((x5_1).toNat * 2)).block, (ad249.add ((x5_1).toNat * 2)).off + 1, none⟩ = some (.slice A249_1 ((rd_T44 l0_1 x5_1).f1).length c249_1)) (ds := []) #[false, false, false, false, false, false, false, false] (by kernel_rfl) rfl rfl ⟨(blk_cell BK247.out 0).trans rfl, (blk_cell BK247.out 1).trans rfl, (blk_cell BK248.out 0).trans rfl, (blk_cell BK248.out 1).trans rfl, ((HB.out.cell (World.block_lt_of_cell? w _ hw249_0)).trans hw249_0), ((HB.out.cell (World.block_lt_of_cell? w _ hw249_1)).trans hw249_1)⟩ (fun hHeld => ?_); refine with_tabW spec_l5Place.tab4 spec_l5Place.bits4 (fun HT_ HW_ => ?_)
      generalize wr.drew = w15 at BK247 BK248 HB HR249_1 hx249_0 hx249_1 hHeld ⊢
      refine zP 0 (some 13) (zA 8 1) (any_of HT_.out (by kernel_rfl)) ?_
      refine zP 2 (some 15) (zA 8 5) (any_of HT_.out (by kernel_rfl)) ?_
      refine take_ (i := 1) (N := some 14) (v := ?_) (a' := ?_) (zA 8 7) rfl rfl (take_ofW HT_.out HW_.out (by kernel_rfl)) (fun _ _ _ h => h) (Or.inl ⟨by rfl, ?_⟩) hHeld ?_ ?_
      rotate_left
      ·rintro w' ⟨s0, s1, s2, s3, s4, s5⟩
       go_simp
       with_reducible rfl
      rotate_left
      ·simp only [Act.put, List.setIfInBounds_toArray, List.set_cons_zero, List.set_cons_succ, i64_w, i32_w]
       rfl
      refine zP 3 (some 16) (zA 8 15) (any_of HT_.out (by kernel_rfl)) ?_
      refine take_ (i := 4) (N := some 17) (v := ?_) (a' := ?_) (zA 8 31) rfl rfl (take_ofW HT_.out HW_.out (by kernel_rfl)) (fun _ _ _ h => h) (Or.inl ⟨by rfl, ?_⟩) hHeld ?_ ?_
      rotate_left
      ·rintro w' ⟨s0, s1, s2, s3, s4, s5⟩
       go_simp
       with_reducible rfl
      rotate_left
      ·simp only [Act.put, List.setIfInBounds_toArray, List.set_cons_zero, List.set_cons_succ, i64_w, i32_w]
       rfl
      refine take_ (i := 5) (N := some 18) (v := ?_) (a' := ?_) (zA 8 63) rfl rfl (take_ofW HT_.out HW_.out (by kernel_rfl)) (fun _ _ _ h => h) (Or.inl ⟨by rfl, ?_⟩) hHeld ?_ ?_
      rotate_left
      ·rintro w' ⟨s0, s1, s2, s3, s4, s5⟩
       go_simp
       with_reducible rfl
      rotate_left
      ·simp only [Act.put, List.setIfInBounds_toArray, List.set_cons_zero, List.set_cons_succ, i64_w, i32_w]
       rfl
      refine one_ (i := 6) (N := some 19) (zA 8 127) rfl rfl (one_of HT_.out (by kernel_rfl)) (by decide) (fun K hK => ?_)
      refine goes_ Try.func34 (by kernel_rfl) rfl #[.agg #[.int .i64 ((rd_T44 l0_1 x5_1).f0), .slice A249_1 ((rd_T44 l0_1 x5_1).f1).length c249_1], .agg #[.int .i64 a1_0, .slice A1_1 l1_1.length c1_1]] (by rfl) rfl rfl (by (try simp only [List.map_toArray, List.map_cons, List.map_nil]); first | done | rfl | (simp only [List.length_drop, List.length_take]; rfl)) ?_
      with_reducible refine (spec_CompareFacts.calls k1 ((rd_T44 l0_1 x5_1).f0) _ _ ((rd_T44 l0_1 x5_1).f1) a1_0 _ _ l1_1 t250 _ ?side1 ?side2 ?side3 ?side4 A7.out).mono ?_
      (case side1 => exact zc HR249_1.out)
      (case side2 => exact HC249_1.out)
      (case side3 => exact zc HR1_1.out)
      (case side4 => exact HC1_1.out)
      rintro e w16 ⟨rfl, hb⟩
      refine ⟨_, rfl, ?_⟩
      replace BK247 := zm (blk_below (zb BK247.out) hb)
      replace BK248 := zm (blk_below (zb BK248.out) hb)
      replace HB := zm (below_step zl hb)
      (try clear hb)
      refine hK.out _ _ ⟨(blk_cell BK247.out 0).trans rfl, (blk_cell BK247.out 1).trans rfl, (blk_cell BK248.out 0).trans rfl, (blk_cell BK248.out 1).trans rfl, ((HB.out.cell (World.block_lt_of_cell? w _ hw249_0)).trans hw249_0), ((HB.out.cell (World.block_lt_of_cell? w _ hw249_1)).trans hw249_1)⟩ (fun hHeld => ?_)
      clear hK K
      refine zO (some 19) ?_
      refine zP 7 (some 20) (zA 8 255) (any_of HT_.out (by kernel_rfl)) ?_
      refine done_ (done_of HT_.out (by kernel_rfl)) ?_
      try go_wp2
      go_roundg k1
      case measure => have := HK1.out; omega
      case rel => exact ⟨(wrap64 (x5_1 + 1)), (by first | rfl | (simp; done) | (simp [*]; done)), H', ⟨by have := HK1.out; omega⟩, ⟨zb BK247.out⟩, ⟨zb BK248.out⟩, ⟨zl⟩⟩
    ·rw [if_neg c6] at H
     exact absurd H (by simp)
   ·rw [if_neg c5] at H
    have c5b0 : decide (x5_1 < (l0_1.length : Int)) = false := decide_eq_false c5
    clear c5
    obtain rfl := Option.some.inj H
    have hnb17 := NB247_248.out
    have hnc17 := NB248_247.out
    have hcz18_0 : wr.cell? ⟨gb247, 0, none⟩ = some (.slice A0_0 l0_0.length c0_0) := (blk_cell BK247.out 0).trans rfl
    have hcz18_1 : wr.cell? ⟨gb247, 1, none⟩ = some (.slice A0_1 l0_1.length c0_1) := (blk_cell BK247.out 1).trans rfl
    have hfz18_0 := blk_frozen BK247.out 0
    have hfz18_1 := blk_frozen BK247.out 1
    go_wp2
    go_ret
    exact ⟨by first | rfl | (simp [errW_none, errW_some] <;> rfl) | (simp [*, errW_none, errW_some] <;> rfl), zl⟩

/-! ### spec_ContainsFact: function 18 -/
def spec_ContainsFact.f (k : Nat) (l0_0 : List (S62)) (l0_1 : List (S44)) (a1_0 : Int) (l1_1 : List Int) : Option (Bool) := (spec_IsValidInstance.f k l0_0 l0_1).bind fun t253 => (if t253 = true then ((spec_l5Place.f k l0_0 l0_1 a1_0 l1_1).bind fun t254 => (some (decide (t254 ≥ 0)))) else (some false))
theorem spec_ContainsFact.mono : ∀ a0 a1 a2 a3 k, LeO (spec_ContainsFact.f k a0 a1 a2 a3) (spec_ContainsFact.f (k + 1) a0 a1 a2 a3) := by
 intro a0 a1 a2 a3 k
 unfold spec_ContainsFact.f
 repeat' first
   | (with_reducible exact spec_IsValidInstance.mono _ _ _)
   | (with_reducible exact spec_l5Place.mono _ _ _ _ _)
   | (with_reducible exact LeO.refl _)
   | (with_reducible exact LeO.none _)
   | (with_reducible refine LeO.ite ?_ ?_)
   | (with_reducible refine LeO.bind ?_ (fun _ => ?_))
   | exact spec_IsValidInstance.mono _ _ _
   | exact spec_l5Place.mono _ _ _ _ _
   | exact LeO.none _
   | refine LeO.ite ?_ ?_
   | refine LeO.bind ?_ (fun _ => ?_)
set_option maxHeartbeats 8000000 in
set_option maxRecDepth 100000 in
theorem spec_ContainsFact.calls (k : Nat) (A0_0 : Option Addr) (c0_0 : Nat) (l0_0 : List (S62)) (A0_1 : Option Addr) (c0_1 : Nat) (l0_1 : List (S44)) (a1_0 : Int) (A1_1 : Option Addr) (c1_1 : Nat) (l1_1 : List Int) (r : Bool) (w : World) (hr0_0 : Kd.C k62 w A0_0 l0_0.length l0_0) (hc0_0 : l0_0.length ≤ c0_0) (hr0_1 : Kd.C k44 w A0_1 l0_1.length l0_1) (hc0_1 : l0_1.length ≤ c0_1) (hr1_1 : Kd.C (Kd.int .i64) w A1_1 l1_1.length l1_1) (hc1_1 : l1_1.length ≤ c1_1) (h : spec_ContainsFact.f k l0_0 l0_1 a1_0 l1_1 = some r) :
  Calls Try.prog 18 #[.agg #[.slice A0_0 l0_0.length c0_0, .slice A0_1 l0_1.length c0_1], .agg #[.int .i64 a1_0, .slice A1_1 l1_1.length c1_1]] w fun e w' => e = .returned (.bool r) ∧ Below w.heap.size w w' := by
 have hu32 := Try.underlying32
 have hu44 := Try.underlying44
 have HR0_0 := Aside0.mk hr0_0
 have HC0_0 := Aside0.mk hc0_0
 clear hr0_0 hc0_0
 have HR0_1 := Aside0.mk hr0_1
 have HC0_1 := Aside0.mk hc0_1
 clear hr0_1 hc0_1
 have HR1_1 := Aside0.mk hr1_1
 have HC1_1 := Aside0.mk hc1_1
 clear hr1_1 hc1_1
 have HB := Aside0.mk (Below.refl w.heap.size w)
 have H : ((spec_IsValidInstance.f k l0_0 l0_1).bind fun t253 => (if t253 = true then ((spec_l5Place.f k l0_0 l0_1 a1_0 l1_1).bind fun t254 => (some (decide (t254 ≥ 0)))) else (some false))) = some r := h
 clear h
 replace H := Option.bind_eq_some_iff.mp H
 obtain ⟨t253, A30, H⟩ := H
 replace H : (if t253 = true then ((spec_l5Place.f k l0_0 l0_1 a1_0 l1_1).bind fun t254 => (some (decide (t254 ≥ 0)))) else (some false)) = some r := H
 have A3 := Aside0.mk A30
 clear A30
 by_cases c4 : t253 = true
 ·subst c4
  have H1 : ((spec_l5Place.f k l0_0 l0_1 a1_0 l1_1).bind fun t254 => (some (decide (t254 ≥ 0)))) = some r := by first | with_reducible rfl | (rw [if_pos rfl] at H; exact H)
  clear H
  have H := H1
  clear H1
  replace H := Option.bind_eq_some_iff.mp H
  obtain ⟨t254, A50, H⟩ := H
  replace H : (some (decide (t254 ≥ 0))) = some r := H
  have A5 := Aside0.mk A50
  clear A50
  obtain rfl := Option.some.inj H
  go_enter Try.func18, Try.ntmps18
  go_wp2_with (first | ((with_reducible refine gate_dst (N := 2) rfl ?_); refine box_event ?hg (N := 2) ?hd (cs := #[.slice A0_0 l0_0.length c0_0, .slice A0_1 l0_1.length c0_1]) (t := 32) ?hr ?_; (case hd => rfl); (case hg => rfl); (case hr => first | (go_simp; done) | (go_simp; rfl)); intro gb251 hg w6 hbox hb; have BK251 := zm (hbox); have GW251 := zm ((by rw [hg]; exact (below_size zl) : w.heap.size ≤ gb251)); have GE251 := zm ((by rw [hg]; exact (below_size zl) : w.heap.size ≤ gb251)); replace HB := zm (below_step zl hb); clear hb hbox hg) | ((with_reducible refine gate_dst (N := 3) rfl ?_); refine box_event ?hg (N := 3) ?hd (cs := #[.int .i64 a1_0, .slice A1_1 l1_1.length c1_1]) (t := 44) ?hr ?_; (case hd => rfl); (case hg => rfl); (case hr => first | (go_simp; done) | (go_simp; rfl)); intro gb252 hg w7 hbox hb; have BK252 := zm (hbox); have GW252 := zm ((by rw [hg]; exact (below_size zl) : w.heap.size ≤ gb252)); have GE252 := zm ((by rw [hg]; exact (below_size zl) : w.heap.size ≤ gb252)); replace HB := zm (below_step zl hb); have NB251_252 := zm (zl1 hg (zb BK251.out)); have NB252_251 := zm (zl2 hg (zb BK251.out)); replace BK251 := zm (blk_below (zb BK251.out) hb); clear hb hbox hg; have hnb8 := NB251_252.out; have hnc8 := NB252_251.out; have hcz9_0 : w7.cell? ⟨gb251, 0, none⟩ = some (.slice A0_0 l0_0.length c0_0) := (blk_cell BK251.out 0).trans rfl; have hcz9_1 : w7.cell? ⟨gb251, 1, none⟩ = some (.slice A0_1 l0_1.length c0_1) := (blk_cell BK251.out 1).trans rfl; have hfz9_0 := blk_frozen BK251.out 0; have hfz9_1 := blk_frozen BK251.out 1) | (go_at_call 15; (with_reducible refine (spec_IsValidInstance.calls k _ _ l0_0 _ _ l0_1 true _ ?side1 ?side2 ?side3 ?side4 A3.out).mono ?_); (case side1 => exact zc HR0_0.out); (case side2 => exact HC0_0.out); (case side3 => exact zc HR0_1.out); (case side4 => exact HC0_1.out); rintro e w10 ⟨rfl, hb⟩; have n0_ := Aside0.mk (blk_below (zb BK251.out) hb); have n1_ := Aside0.mk (blk_below (zb BK252.out) hb); have n2_ := Aside0.mk (below_step zl hb); clear BK251; clear BK252; clear HB; have BK251 := n0_; have BK252 := n1_; have HB := n2_; clear n0_ n1_ n2_; (try clear hb)) | ((with_reducible refine gate_callee (f := 15) rfl ?_); refine zg (some 6) Try.func15 #[.agg #[.slice A0_0 l0_0.length c0_0, .slice A0_1 l0_1.length c0_1]] ?_; (with_reducible refine (spec_IsValidInstance.calls k _ _ l0_0 _ _ l0_1 true _ ?side1 ?side2 ?side3 ?side4 A3.out).mono ?_); (case side1 => exact zc HR0_0.out); (case side2 => exact HC0_0.out); (case side3 => exact zc HR0_1.out); (case side4 => exact HC0_1.out); rintro e w10 ⟨rfl, hb⟩; refine ⟨_, rfl, ?_⟩; replace BK251 := zm (blk_below (zb BK251.out) hb); replace BK252 := zm (blk_below (zb BK252.out) hb); replace HB := zm (below_step zl hb); (try clear hb); have hcz11_0 : w10.cell? ⟨gb251, 0, none⟩ = some (.slice A0_0 l0_0.length c0_0) := (blk_cell BK251.out 0).trans rfl; have hcz11_1 : w10.cell? ⟨gb251, 1, none⟩ = some (.slice A0_1 l0_1.length c0_1) := (blk_cell BK251.out 1).trans rfl; have hfz11_0 := blk_frozen BK251.out 0; have hfz11_1 := blk_frozen BK251.out 1; have hcz12_0 : w10.cell? ⟨gb252, 0, none⟩ = some (.int .i64 a1_0) := (blk_cell BK252.out 0).trans rfl; have hcz12_1 : w10.cell? ⟨gb252, 1, none⟩ = some (.slice A1_1 l1_1.length c1_1) := (blk_cell BK252.out 1).trans rfl; have hfz12_0 := blk_frozen BK252.out 0; have hfz12_1 := blk_frozen BK252.out 1) | (go_at_call 41; (with_reducible refine (spec_l5Place.calls k _ _ l0_0 _ _ l0_1 a1_0 _ _ l1_1 t254 _ ?side1 ?side2 ?side3 ?side4 ?side5 ?side6 A5.out).mono ?_); (case side1 => exact zc HR0_0.out); (case side2 => exact HC0_0.out); (case side3 => exact zc HR0_1.out); (case side4 => exact HC0_1.out); (case side5 => exact zc HR1_1.out); (case side6 => exact HC1_1.out); rintro e w13 ⟨rfl, hb⟩; have n0_ := Aside0.mk (blk_below (zb BK251.out) hb); have n1_ := Aside0.mk (blk_below (zb BK252.out) hb); have n2_ := Aside0.mk (below_step zl hb); clear BK251; clear BK252; clear HB; have BK251 := n0_; have BK252 := n1_; have HB := n2_; clear n0_ n1_ n2_; (try clear hb)))
  go_ret
  exact ⟨by first | rfl | (simp [errW_none, errW_some] <;> rfl) | (simp [*, errW_none, errW_some] <;> rfl), zl⟩
 ·replace c4 := Bool.eq_false_iff.mpr c4
  subst c4
  have H1 : (some false) = some r := by first | with_reducible rfl | (rw [if_neg (show ¬ (false = true) by decide)] at H; exact H)
  clear H
  have H := H1
  clear H1
  obtain rfl := Option.some.inj H
  go_enter Try.func18, Try.ntmps18
  go_wp2_with (first | ((with_reducible refine gate_dst (N := 2) rfl ?_); refine box_event ?hg (N := 2) ?hd (cs := #[.slice A0_0 l0_0.length c0_0, .slice A0_1 l0_1.length c0_1]) (t := 32) ?hr ?_; (case hd => rfl); (case hg => rfl); (case hr => first | (go_simp; done) | (go_simp; rfl)); intro gb251 hg w14 hbox hb; have BK251 := zm (hbox); have GW251 := zm ((by rw [hg]; exact (below_size zl) : w.heap.size ≤ gb251)); have GE251 := zm ((by rw [hg]; exact (below_size zl) : w.heap.size ≤ gb251)); replace HB := zm (below_step zl hb); clear hb hbox hg) | ((with_reducible refine gate_dst (N := 3) rfl ?_); refine box_event ?hg (N := 3) ?hd (cs := #[.int .i64 a1_0, .slice A1_1 l1_1.length c1_1]) (t := 44) ?hr ?_; (case hd => rfl); (case hg => rfl); (case hr => first | (go_simp; done) | (go_simp; rfl)); intro gb252 hg w15 hbox hb; have BK252 := zm (hbox); have GW252 := zm ((by rw [hg]; exact (below_size zl) : w.heap.size ≤ gb252)); have GE252 := zm ((by rw [hg]; exact (below_size zl) : w.heap.size ≤ gb252)); replace HB := zm (below_step zl hb); have NB251_252 := zm (zl1 hg (zb BK251.out)); have NB252_251 := zm (zl2 hg (zb BK251.out)); replace BK251 := zm (blk_below (zb BK251.out) hb); clear hb hbox hg; have hnb16 := NB251_252.out; have hnc16 := NB252_251.out; have hcz17_0 : w15.cell? ⟨gb251, 0, none⟩ = some (.slice A0_0 l0_0.length c0_0) := (blk_cell BK251.out 0).trans rfl; have hcz17_1 : w15.cell? ⟨gb251, 1, none⟩ = some (.slice A0_1 l0_1.length c0_1) := (blk_cell BK251.out 1).trans rfl; have hfz17_0 := blk_frozen BK251.out 0; have hfz17_1 := blk_frozen BK251.out 1) | (go_at_call 15; (with_reducible refine (spec_IsValidInstance.calls k _ _ l0_0 _ _ l0_1 false _ ?side1 ?side2 ?side3 ?side4 A3.out).mono ?_); (case side1 => exact zc HR0_0.out); (case side2 => exact HC0_0.out); (case side3 => exact zc HR0_1.out); (case side4 => exact HC0_1.out); rintro e w18 ⟨rfl, hb⟩; have n0_ := Aside0.mk (blk_below (zb BK251.out) hb); have n1_ := Aside0.mk (blk_below (zb BK252.out) hb); have n2_ := Aside0.mk (below_step zl hb); clear BK251; clear BK252; clear HB; have BK251 := n0_; have BK252 := n1_; have HB := n2_; clear n0_ n1_ n2_; (try clear hb)) | ((with_reducible refine gate_callee (f := 15) rfl ?_); refine zg (some 6) Try.func15 #[.agg #[.slice A0_0 l0_0.length c0_0, .slice A0_1 l0_1.length c0_1]] ?_; (with_reducible refine (spec_IsValidInstance.calls k _ _ l0_0 _ _ l0_1 false _ ?side1 ?side2 ?side3 ?side4 A3.out).mono ?_); (case side1 => exact zc HR0_0.out); (case side2 => exact HC0_0.out); (case side3 => exact zc HR0_1.out); (case side4 => exact HC0_1.out); rintro e w18 ⟨rfl, hb⟩; refine ⟨_, rfl, ?_⟩; replace BK251 := zm (blk_below (zb BK251.out) hb); replace BK252 := zm (blk_below (zb BK252.out) hb); replace HB := zm (below_step zl hb); (try clear hb)))
  go_ret
  exact ⟨by first | rfl | (simp [errW_none, errW_some] <;> rfl) | (simp [*, errW_none, errW_some] <;> rfl), zl⟩

/-! ### impl_within: function 57 -/
def impl_within.f (a0 : Int) (a1 : Int) (a2 : Int) : Option (Bool) := if a1 ≤ a0 then (some (decide (a0 ≤ a2))) else (some false)
set_option maxHeartbeats 8000000 in
set_option maxRecDepth 100000 in
theorem impl_within.calls (a0 : Int) (a1 : Int) (a2 : Int) (r : Bool) (w : World) (h : impl_within.f a0 a1 a2 = some r) :
  Calls Try.prog 57 #[.int .i64 a0, .int .i64 a1, .int .i64 a2] w fun e w' => e = .returned (.bool r) ∧ Drawn0 w w' := by
 have H : (if a1 ≤ a0 then (some (decide (a0 ≤ a2))) else (some false)) = some r := h
 clear h
 by_cases c4 : a1 ≤ a0
 ·rw [if_pos c4] at H
  have c4b0 : decide (a1 ≤ a0) = true := decide_eq_true c4
  clear c4
  obtain rfl := Option.some.inj H
  go_enter Try.func57, Try.ntmps57
  go_wp2
  go_ret
  exact ⟨by first | rfl | (simp; done) | (simp [*]; done), by repeat (first | exact Drawn0.refl _ | apply Drawn0.step)⟩
 ·rw [if_neg c4] at H
  have c4b0 : decide (a1 ≤ a0) = false := decide_eq_false c4
  clear c4
  obtain rfl := Option.some.inj H
  go_enter Try.func57, Try.ntmps57
  go_wp2
  go_ret
  exact ⟨by first | rfl | (simp; done) | (simp [*]; done), by repeat (first | exact Drawn0.refl _ | apply Drawn0.step)⟩

/-! ### impl_IsValidRelation: function 56 -/
def impl_IsValidRelation.f (a0_0 : ByteArray) (a0_1 : Int) (a0_2 : Bool) : Option (Bool) := if (a0_0.size : Int) = 1 then (if ((Op.bytesLess a0_0.toList ([97] : List UInt8)) = true) then (some false) else (if ((Op.bytesLess ([122] : List UInt8) a0_0.toList) = true) then (some false) else ((impl_within.f a0_1 1 3).bind fun t256 => (some t256)))) else (some false)
set_option maxHeartbeats 8000000 in
set_option maxRecDepth 100000 in
theorem impl_IsValidRelation.calls (a0_0 : ByteArray) (a0_1 : Int) (a0_2 : Bool) (r : Bool) (w : World) (h : impl_IsValidRelation.f a0_0 a0_1 a0_2 = some r) :
  Calls Try.prog 56 #[.agg #[.string a0_0, .int .i64 a0_1, .bool a0_2]] w fun e w' => e = .returned (.bool r) ∧ Below w.heap.size w w' := by
 have hu62 := Try.underlying62
 have HB := Aside0.mk (Below.refl w.heap.size w)
 have H : (if (a0_0.size : Int) = 1 then (if ((Op.bytesLess a0_0.toList ([97] : List UInt8)) = true) then (some false) else (if ((Op.bytesLess ([122] : List UInt8) a0_0.toList) = true) then (some false) else ((impl_within.f a0_1 1 3).bind fun t256 => (some t256)))) else (some false)) = some r := h
 clear h
 by_cases c2 : (a0_0.size : Int) = 1
 ·rw [if_pos c2] at H
  have c2b0 : ((a0_0.size : Int) == 1) = true := beq_iff_eq.mpr c2
  have c2b1 : ((a0_0.size : Int) != 1) = false := bne_eq_false_iff_eq.mpr c2
  clear c2
  by_cases c3 : ((Op.bytesLess a0_0.toList ([97] : List UInt8)) = true)
  ·rw [if_pos c3] at H
   have c3b0 : (Op.bytesLess a0_0.toList ([97] : List UInt8)) = true := c3
   (try (have c3b1 : Op.bytesLess ([97] : List UInt8) a0_0.toList = false := bl_asymm _ _ c3))
   (try (have c3b2 : (([97] : List UInt8) == a0_0.toList) = false := bl_ne c3))
   (try (have c3b3 : (a0_0.toList == ([97] : List UInt8)) = false := bl_ne' c3))
   clear c3
   obtain rfl := Option.some.inj H
   go_enter Try.func56, Try.ntmps56
   go_wp2_with (first | ((with_reducible refine gate_dst (N := 1) rfl ?_); refine box_event ?hg (N := 1) ?hd (cs := #[.string a0_0, .int .i64 a0_1, .bool a0_2]) (t := 62) ?hr ?_; (case hd => rfl); (case hg => rfl); (case hr => first | (go_simp; done) | (go_simp; rfl)); intro gb255 hg w4 hbox hb; have BK255 := zm (hbox); have GW255 := zm ((by rw [hg]; exact (below_size zl) : w.heap.size ≤ gb255)); have GE255 := zm ((by rw [hg]; exact (below_size zl) : w.heap.size ≤ gb255)); replace HB := zm (below_step zl hb); clear hb hbox hg; have hcz5_0 : w4.cell? ⟨gb255, 0, none⟩ = some (.string a0_0) := (blk_cell BK255.out 0).trans rfl; have hcz5_1 : w4.cell? ⟨gb255, 1, none⟩ = some (.int .i64 a0_1) := (blk_cell BK255.out 1).trans rfl; have hcz5_2 : w4.cell? ⟨gb255, 2, none⟩ = some (.bool a0_2) := (blk_cell BK255.out 2).trans rfl; have hfz5_0 := blk_frozen BK255.out 0; have hfz5_1 := blk_frozen BK255.out 1; have hfz5_2 := blk_frozen BK255.out 2))
   go_ret
   exact ⟨by first | rfl | (simp [errW_none, errW_some] <;> rfl) | (simp [*, errW_none, errW_some] <;> rfl), zl⟩
  ·rw [if_neg c3] at H
   have c3b0 : (Op.bytesLess a0_0.toList ([97] : List UInt8)) = false := by simpa using c3
   (try (have c3b1 : (Op.bytesLess ([97] : List UInt8) a0_0.toList || ([97] : List UInt8) == a0_0.toList) = true := bl_total _ _ (by simpa using c3)))
   clear c3
   by_cases c6 : ((Op.bytesLess ([122] : List UInt8) a0_0.toList) = true)
   ·rw [if_pos c6] at H
    have c6b0 : (Op.bytesLess ([122] : List UInt8) a0_0.toList) = true := c6
    (try (have c6b1 : Op.bytesLess a0_0.toList ([122] : List UInt8) = false := bl_asymm _ _ c6))
    (try (have c6b2 : (a0_0.toList == ([122] : List UInt8)) = false := bl_ne c6))
    (try (have c6b3 : (([122] : List UInt8) == a0_0.toList) = false := bl_ne' c6))
    clear c6
    obtain rfl := Option.some.inj H
    go_enter Try.func56, Try.ntmps56
    go_wp2_with (first | ((with_reducible refine gate_dst (N := 1) rfl ?_); refine box_event ?hg (N := 1) ?hd (cs := #[.string a0_0, .int .i64 a0_1, .bool a0_2]) (t := 62) ?hr ?_; (case hd => rfl); (case hg => rfl); (case hr => first | (go_simp; done) | (go_simp; rfl)); intro gb255 hg w7 hbox hb; have BK255 := zm (hbox); have GW255 := zm ((by rw [hg]; exact (below_size zl) : w.heap.size ≤ gb255)); have GE255 := zm ((by rw [hg]; exact (below_size zl) : w.heap.size ≤ gb255)); replace HB := zm (below_step zl hb); clear hb hbox hg; have hcz8_0 : w7.cell? ⟨gb255, 0, none⟩ = some (.string a0_0) := (blk_cell BK255.out 0).trans rfl; have hcz8_1 : w7.cell? ⟨gb255, 1, none⟩ = some (.int .i64 a0_1) := (blk_cell BK255.out 1).trans rfl; have hcz8_2 : w7.cell? ⟨gb255, 2, none⟩ = some (.bool a0_2) := (blk_cell BK255.out 2).trans rfl; have hfz8_0 := blk_frozen BK255.out 0; have hfz8_1 := blk_frozen BK255.out 1; have hfz8_2 := blk_frozen BK255.out 2))
    go_ret
    exact ⟨by first | rfl | (simp [errW_none, errW_some] <;> rfl) | (simp [*, errW_none, errW_some] <;> rfl), zl⟩
   ·rw [if_neg c6] at H
    have c6b0 : (Op.bytesLess ([122] : List UInt8) a0_0.toList) = false := by simpa using c6
    (try (have c6b1 : (Op.bytesLess a0_0.toList ([122] : List UInt8) || a0_0.toList == ([122] : List UInt8)) = true := bl_total _ _ (by simpa using c6)))
    clear c6
    replace H := Option.bind_eq_some_iff.mp H
    obtain ⟨t256, A90, H⟩ := H
    replace H : (some t256) = some r := H
    have A9 := Aside0.mk A90
    clear A90
    obtain rfl := Option.some.inj H
    go_enter Try.func56, Try.ntmps56
    go_wp2_with (first | ((with_reducible refine gate_dst (N := 1) rfl ?_); refine box_event ?hg (N := 1) ?hd (cs := #[.string a0_0, .int .i64 a0_1, .bool a0_2]) (t := 62) ?hr ?_; (case hd => rfl); (case hg => rfl); (case hr => first | (go_simp; done) | (go_simp; rfl)); intro gb255 hg w10 hbox hb; have BK255 := zm (hbox); have GW255 := zm ((by rw [hg]; exact (below_size zl) : w.heap.size ≤ gb255)); have GE255 := zm ((by rw [hg]; exact (below_size zl) : w.heap.size ≤ gb255)); replace HB := zm (below_step zl hb); clear hb hbox hg; have hcz11_0 : w10.cell? ⟨gb255, 0, none⟩ = some (.string a0_0) := (blk_cell BK255.out 0).trans rfl; have hcz11_1 : w10.cell? ⟨gb255, 1, none⟩ = some (.int .i64 a0_1) := (blk_cell BK255.out 1).trans rfl; have hcz11_2 : w10.cell? ⟨gb255, 2, none⟩ = some (.bool a0_2) := (blk_cell BK255.out 2).trans rfl; have hfz11_0 := blk_frozen BK255.out 0; have hfz11_1 := blk_frozen BK255.out 1; have hfz11_2 := blk_frozen BK255.out 2) | (go_at_call 57; (with_reducible refine (impl_within.calls a0_1 1 3 t256 _ A9.out).mono ?_); rintro e w' ⟨rfl, ⟨nd, rfl⟩⟩))
    go_ret
    exact ⟨by first | rfl | (simp [errW_none, errW_some] <;> rfl) | (simp [*, errW_none, errW_some] <;> rfl), zl⟩
 ·rw [if_neg c2] at H
  have c2b0 : ((a0_0.size : Int) == 1) = false := beq_eq_false_iff_ne.mpr c2
  have c2b1 : ((a0_0.size : Int) != 1) = true := bne_iff_ne.mpr c2
  obtain rfl := Option.some.inj H
  go_enter Try.func56, Try.ntmps56
  go_wp2_with (first | ((with_reducible refine gate_dst (N := 1) rfl ?_); refine box_event ?hg (N := 1) ?hd (cs := #[.string a0_0, .int .i64 a0_1, .bool a0_2]) (t := 62) ?hr ?_; (case hd => rfl); (case hg => rfl); (case hr => first | (go_simp; done) | (go_simp; rfl)); intro gb255 hg w12 hbox hb; have BK255 := zm (hbox); have GW255 := zm ((by rw [hg]; exact (below_size zl) : w.heap.size ≤ gb255)); have GE255 := zm ((by rw [hg]; exact (below_size zl) : w.heap.size ≤ gb255)); replace HB := zm (below_step zl hb); clear hb hbox hg; have hcz13_0 : w12.cell? ⟨gb255, 0, none⟩ = some (.string a0_0) := (blk_cell BK255.out 0).trans rfl; have hcz13_1 : w12.cell? ⟨gb255, 1, none⟩ = some (.int .i64 a0_1) := (blk_cell BK255.out 1).trans rfl; have hcz13_2 : w12.cell? ⟨gb255, 2, none⟩ = some (.bool a0_2) := (blk_cell BK255.out 2).trans rfl; have hfz13_0 := blk_frozen BK255.out 0; have hfz13_1 := blk_frozen BK255.out 1; have hfz13_2 := blk_frozen BK255.out 2))
  go_ret
  exact ⟨by first | rfl | (simp [errW_none, errW_some] <;> rfl) | (simp [*, errW_none, errW_some] <;> rfl), zl⟩

end Go.Proofs.Ytjphbdnfbkfgiab.PFnExactContainsFact
