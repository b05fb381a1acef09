-- Written by a program of this session: the kit's printer, turned by wip/mkprint.py.
import Derived.Test.YtjphbdnfbkfgiabPFnExactContainsFactx0
import Derived.Test.YtjphbdnfbkfgiabPFnExactContainsFactx7
import Derived.Test.YtjphbdnfbkfgiabPFnExactContainsFactx8
import Derived.Test.YtjphbdnfbkfgiabPFnExactContainsFactx9
namespace Go.Proofs.Ytjphbdnfbkfgiab.PFnExactContainsFact
open Go.RowKit Go.Proofs.YtjphbdnfbkfgiabW.PrintWords Go.Proofs.YtjphbdnfbkfgiabW.PrintLast Go.Proofs.YtjphbdnfbkfgiabW.PrintMore
attribute [local go_sem] max2_int min2_int max_two min_two max_three min_three max_four min_four   -- for this text's walks alone
set_option linter.unusedVariables false
set_option linter.unusedSimpArgs false

/-! ### impl_IsValidInstance: function 16 -/
mutual
def impl_IsValidInstance.j0 : Nat → Bool → List (S62) → List (S44) → Option (Bool)
 | 0, _, _, _ => none
 | k + 1, x14, x304000, x304001 => if x14 = true then (some false) else (impl_IsValidInstance.l0 k x304001 (x304001.length : Int) 0 x304000 x304001)
def impl_IsValidInstance.l0 : Nat → List (S44) → Int → Int → List (S62) → List (S44) → Option (Bool)
 | 0, _, _, _, _, _ => none
 | k + 1, x16, x17, x18, x304000, x304001 => if x18 < x17 then (if 0 ≤ x18 then (if x18 < (x16.length : Int) then ((impl_IsValidFact.f k x304000 ((rd_T44 x16 x18).f0) ((rd_T44 x16 x18).f1)).bind fun t307 => (if t307 = true then (if x18 > 0 then (if 0 ≤ (wrap64 (x18 - 1)) then (if (wrap64 (x18 - 1)) < (x304001.length : Int) then ((impl_CompareFacts.f k ((rd_T44 x304001 (wrap64 (x18 - 1))).f0) ((rd_T44 x304001 (wrap64 (x18 - 1))).f1) ((rd_T44 x16 x18).f0) ((rd_T44 x16 x18).f1)).bind fun t309 => (impl_IsValidInstance.j2 k x16 x17 x18 (decide (t309 ≥ 0)) x304000 x304001 ((rd_T44 x16 x18).f0) ((rd_T44 x16 x18).f1))) else (none)) else (none)) else (impl_IsValidInstance.j2 k x16 x17 x18 false x304000 x304001 ((rd_T44 x16 x18).f0) ((rd_T44 x16 x18).f1))) else (impl_IsValidInstance.j2 k x16 x17 x18 true x304000 x304001 ((rd_T44 x16 x18).f0) ((rd_T44 x16 x18).f1)))) else (none)) else (none)) else (some true)
def impl_IsValidInstance.j2 : Nat → List (S44) → Int → Int → Bool → List (S62) → List (S44) → Int → List Int → Option (Bool)
 | 0, _, _, _, _, _, _, _, _ => none
 | k + 1, x16, x17, x18, x42, x304000, x304001, x307000, x307001 => if x42 = true then (some false) else (if 0 ≤ x307000 then (if x307000 < (x304000.length : Int) then (if (rd_T62 x304000 x307000).f2 = true then ((impl_NullsOfFact.f k x307000 x307001).bind fun t311 => (if (t311.length : Int) > 0 then (some false) else (impl_IsValidInstance.l0 k x16 x17 (wrap64 (x18 + 1)) x304000 x304001))) else (impl_IsValidInstance.l0 k x16 x17 (wrap64 (x18 + 1)) x304000 x304001)) else (none)) else (none))
end
def impl_IsValidInstance.f (k : Nat) (l0_0 : List (S62)) (l0_1 : List (S44)) : Option (Bool) := (impl_AreValidRelations.f k l0_0).bind fun t304 => (if t304 = true then (impl_IsValidInstance.j0 k (decide ((l0_1.length : Int) > 30)) l0_0 l0_1) else (impl_IsValidInstance.j0 k true l0_0 l0_1))
theorem impl_IsValidInstance.mono_l : ∀ k, (∀ y0 y1 y2, LeO (impl_IsValidInstance.j0 k y0 y1 y2) (impl_IsValidInstance.j0 (k + 1) y0 y1 y2)) ∧ (∀ y0 y1 y2 y3 y4, LeO (impl_IsValidInstance.l0 k y0 y1 y2 y3 y4) (impl_IsValidInstance.l0 (k + 1) y0 y1 y2 y3 y4)) ∧ (∀ y0 y1 y2 y3 y4 y5 y6 y7, LeO (impl_IsValidInstance.j2 k y0 y1 y2 y3 y4 y5 y6 y7) (impl_IsValidInstance.j2 (k + 1) y0 y1 y2 y3 y4 y5 y6 y7))
 | 0 => ⟨fun _ _ _ r h => by simp [impl_IsValidInstance.j0] at h, fun _ _ _ _ _ r h => by simp [impl_IsValidInstance.l0] at h, fun _ _ _ _ _ _ _ _ r h => by simp [impl_IsValidInstance.j2] at h⟩
 | k + 1 => by
  obtain ⟨ih0, ih1, ih2⟩ := impl_IsValidInstance.mono_l k
  refine ⟨?_, ?_, ?_⟩
  ·intro y0 y1 y2
   unfold impl_IsValidInstance.j0
   repeat' first
   | (with_reducible exact ih0 _ _ _)
   | (with_reducible exact ih1 _ _ _ _ _)
   | (with_reducible exact ih2 _ _ _ _ _ _ _ _)
   | (with_reducible exact impl_AreValidRelations.mono _ _)
   | (with_reducible exact impl_CompareFacts.mono _ _ _ _ _)
   | (with_reducible exact impl_IsValidFact.mono _ _ _ _)
   | (with_reducible exact impl_NullsOfFact.mono _ _ _)
   | (with_reducible exact LeO.refl _)
   | (with_reducible exact LeO.none _)
   | (with_reducible refine LeO.ite ?_ ?_)
   | (with_reducible refine LeO.bind ?_ (fun _ => ?_))
   | exact ih0 _ _ _
   | exact ih1 _ _ _ _ _
   | exact ih2 _ _ _ _ _ _ _ _
   | exact impl_AreValidRelations.mono _ _
   | exact impl_CompareFacts.mono _ _ _ _ _
   | exact impl_IsValidFact.mono _ _ _ _
   | exact impl_NullsOfFact.mono _ _ _
   | exact LeO.none _
   | refine LeO.ite ?_ ?_
   | refine LeO.bind ?_ (fun _ => ?_)
  ·intro y0 y1 y2 y3 y4
   unfold impl_IsValidInstance.l0
   repeat' first
   | (with_reducible exact ih0 _ _ _)
   | (with_reducible exact ih1 _ _ _ _ _)
   | (with_reducible exact ih2 _ _ _ _ _ _ _ _)
   | (with_reducible exact impl_AreValidRelations.mono _ _)
   | (with_reducible exact impl_CompareFacts.mono _ _ _ _ _)
   | (with_reducible exact impl_IsValidFact.mono _ _ _ _)
   | (with_reducible exact impl_NullsOfFact.mono _ _ _)
   | (with_reducible exact LeO.refl _)
   | (with_reducible exact LeO.none _)
   | (with_reducible refine LeO.ite ?_ ?_)
   | (with_reducible refine LeO.bind ?_ (fun _ => ?_))
   | exact ih0 _ _ _
   | exact ih1 _ _ _ _ _
   | exact ih2 _ _ _ _ _ _ _ _
   | exact impl_AreValidRelations.mono _ _
   | exact impl_CompareFacts.mono _ _ _ _ _
   | exact impl_IsValidFact.mono _ _ _ _
   | exact impl_NullsOfFact.mono _ _ _
   | exact LeO.none _
   | refine LeO.ite ?_ ?_
   | refine LeO.bind ?_ (fun _ => ?_)
  ·intro y0 y1 y2 y3 y4 y5 y6 y7
   unfold impl_IsValidInstance.j2
   repeat' first
   | (with_reducible exact ih0 _ _ _)
   | (with_reducible exact ih1 _ _ _ _ _)
   | (with_reducible exact ih2 _ _ _ _ _ _ _ _)
   | (with_reducible exact impl_AreValidRelations.mono _ _)
   | (with_reducible exact impl_CompareFacts.mono _ _ _ _ _)
   | (with_reducible exact impl_IsValidFact.mono _ _ _ _)
   | (with_reducible exact impl_NullsOfFact.mono _ _ _)
   | (with_reducible exact LeO.refl _)
   | (with_reducible exact LeO.none _)
   | (with_reducible refine LeO.ite ?_ ?_)
   | (with_reducible refine LeO.bind ?_ (fun _ => ?_))
   | exact ih0 _ _ _
   | exact ih1 _ _ _ _ _
   | exact ih2 _ _ _ _ _ _ _ _
   | exact impl_AreValidRelations.mono _ _
   | exact impl_CompareFacts.mono _ _ _ _ _
   | exact impl_IsValidFact.mono _ _ _ _
   | exact impl_NullsOfFact.mono _ _ _
   | exact LeO.none _
   | refine LeO.ite ?_ ?_
   | refine LeO.bind ?_ (fun _ => ?_)
theorem impl_IsValidInstance.mono : ∀ a0 a1 k, LeO (impl_IsValidInstance.f k a0 a1) (impl_IsValidInstance.f (k + 1) a0 a1) := by
 intro a0 a1 k
 obtain ⟨ih0, ih1, ih2⟩ := impl_IsValidInstance.mono_l k
 unfold impl_IsValidInstance.f
 repeat' first
   | (with_reducible exact ih0 _ _ _)
   | (with_reducible exact ih1 _ _ _ _ _)
   | (with_reducible exact ih2 _ _ _ _ _ _ _ _)
   | (with_reducible exact impl_AreValidRelations.mono _ _)
   | (with_reducible exact impl_CompareFacts.mono _ _ _ _ _)
   | (with_reducible exact impl_IsValidFact.mono _ _ _ _)
   | (with_reducible exact impl_NullsOfFact.mono _ _ _)
   | (with_reducible exact LeO.refl _)
   | (with_reducible exact LeO.none _)
   | (with_reducible refine LeO.ite ?_ ?_)
   | (with_reducible refine LeO.bind ?_ (fun _ => ?_))
   | exact ih0 _ _ _
   | exact ih1 _ _ _ _ _
   | exact ih2 _ _ _ _ _ _ _ _
   | exact impl_AreValidRelations.mono _ _
   | exact impl_CompareFacts.mono _ _ _ _ _
   | exact impl_IsValidFact.mono _ _ _ _
   | exact impl_NullsOfFact.mono _ _ _
   | exact LeO.none _
   | refine LeO.ite ?_ ?_
   | refine LeO.bind ?_ (fun _ => ?_)
def impl_IsValidInstance.T6 : Bool × List (List Nat × List Nat) := (true, [([], []), ([0], [0]), ([], []), ([1, 2], [1, 2]), ([3], [3]), ([4, 3], [4]), ([5], [5]), ([6, 5], [5, 6]), ([7, 5, 5], [5, 7]), ([8], [8]), ([9, 8], [8, 9]), ([8], [8]), ([11, 8], [8, 11]), ([10, 12, 8], [8, 10, 12]), ([13, 8], [8, 13]), ([8], [8]), ([14, 15, 8, 8], [8, 14, 15]), ([16, 8], [8, 16]), ([8, 17, 5], [5, 8, 17]), ([5, 18], [5, 18])])
def impl_IsValidInstance.B6 : List Nat := [0, 1, 0, 7, 15, 31, 63, 127, 255, 511, 1023, 511, 2559, 8191, 16383, 511, 65535, 131071, 262143, 524287]
theorem impl_IsValidInstance.tab6 : rtab .any (opsOf Try.f16 6) = impl_IsValidInstance.T6 := by kernel_rfl
theorem impl_IsValidInstance.bits6 : waitsOk impl_IsValidInstance.T6.2 impl_IsValidInstance.B6 = true := by kernel_rfl
set_option maxHeartbeats 8000000 in
set_option maxRecDepth 100000 in
theorem impl_IsValidInstance.calls (k : Nat) (A0_0 : Option Addr) (c0_0 : Nat) (l0_0 : List (S62)) (A0_1 : Option Addr) (c0_1 : Nat) (l0_1 : List (S44)) (r : Bool) (w : World) (hr0_0 : Kd.C k62 w A0_0 l0_0.length l0_0) (hc0_0 : l0_0.length ≤ c0_0) (hr0_1 : Kd.C k44 w A0_1 l0_1.length l0_1) (hc0_1 : l0_1.length ≤ c0_1) (h : impl_IsValidInstance.f k l0_0 l0_1 = some r) :
  Calls Try.prog 16 #[.agg #[.slice A0_0 l0_0.length c0_0, .slice A0_1 l0_1.length c0_1]] w fun e w' => e = .returned (.bool r) ∧ Below w.heap.size w w' := by
 have hu32 := Try.underlying32
 have hu44 := Try.underlying44
 have HR0_0 := Aside0.mk hr0_0
 have HC0_0 := Aside0.mk hc0_0
 clear hr0_0 hc0_0
 have HR0_1 := Aside0.mk hr0_1
 have HC0_1 := Aside0.mk hc0_1
 clear hr0_1 hc0_1
 have HB := Aside0.mk (Below.refl w.heap.size w)
 have H : ((impl_AreValidRelations.f k l0_0).bind fun t304 => (if t304 = true then (impl_IsValidInstance.j0 k (decide ((l0_1.length : Int) > 30)) l0_0 l0_1) else (impl_IsValidInstance.j0 k true l0_0 l0_1))) = some r := h
 clear h
 have HC2 := Aside0.mk H
 clear H
 go_enter Try.func16, Try.ntmps16
 go_upto_region 1 with (first | ((with_reducible refine gate_dst (N := 1) rfl ?_); (try (refine gate_guard (by rfl) ?_; dsimp only)); refine box_event ?hg (N := 1) ?hd (cs := #[.slice A0_0 l0_0.length c0_0, .slice A0_1 l0_1.length c0_1]) (t := 32) ?hr ?_; (case hd => rfl); (case hg => rfl); (case hr => first | (go_simp; done) | (go_simp; rfl)); intro gb303 hg w3 hbox hb; have BK303 := zm (hbox); have GW303 := zm ((by rw [hg]; exact (below_size zl) : w.heap.size ≤ gb303)); have GE303 := zm ((by rw [hg]; exact (below_size zl) : w.heap.size ≤ gb303)); replace HB := zm (below_step zl hb); clear hb hbox hg))
 (try simp only [Act.put, List.setIfInBounds_toArray, List.set_cons_zero, List.set_cons_succ])
 go_cut [14] (fun v14 wc => ∃ (kq : Nat) (x14_1 : Bool), v14 = .bool x14_1 ∧ Aside0 (impl_IsValidInstance.j0 kq x14_1 l0_0 l0_1 = some r) ∧ Aside0 (kq ≤ k) ∧ Aside0 (wc.heap[gb303]? = some (.cells #[(.slice A0_0 l0_0.length c0_0), (.slice A0_1 l0_1.length c0_1)] 32 (0, 0))) ∧ Aside0 (Below w.heap.size w wc))
 case first =>
  have H := HC2.out
  clear HC2
  replace H := Option.bind_eq_some_iff.mp H
  obtain ⟨t304, A40, H⟩ := H
  replace H : (if t304 = true then (impl_IsValidInstance.j0 k (decide ((l0_1.length : Int) > 30)) l0_0 l0_1) else (impl_IsValidInstance.j0 k true l0_0 l0_1)) = some r := H
  have A4 := Aside0.mk A40
  clear A40
  by_cases c5 : t304 = true
  ·subst c5
   have H1 : (impl_IsValidInstance.j0 k (decide ((l0_1.length : Int) > 30)) l0_0 l0_1) = some r := by first | with_reducible rfl | (rw [if_pos rfl] at H; exact H)
   clear H
   have H := H1
   clear H1
   have H' := Aside0.mk H
   clear H
   have hcz6_0 : w3.cell? ⟨gb303, 0, none⟩ = some (.slice A0_0 l0_0.length c0_0) := (blk_cell BK303.out 0).trans rfl
   have hcz6_1 : w3.cell? ⟨gb303, 1, none⟩ = some (.slice A0_1 l0_1.length c0_1) := (blk_cell BK303.out 1).trans rfl
   have hfz6_0 := blk_frozen BK303.out 0
   have hfz6_1 := blk_frozen BK303.out 1
   go_wp2_with (first | (go_at_call 36; (with_reducible refine (impl_AreValidRelations.calls k _ _ l0_0 true _ ?side1 ?side2 A4.out).mono ?_); (case side1 => exact zc HR0_0.out); (case side2 => exact HC0_0.out); rintro e w7 ⟨rfl, hb⟩; have n0_ := Aside0.mk (blk_below (zb BK303.out) hb); have n1_ := Aside0.mk (below_step zl hb); clear BK303; clear HB; have BK303 := n0_; have HB := n1_; clear n0_ n1_; (try clear hb)) | ((with_reducible refine gate_callee (f := 36) rfl ?_); refine zg (some 7) Try.func36 #[.slice A0_0 l0_0.length c0_0] ?_; (with_reducible refine (impl_AreValidRelations.calls k _ _ l0_0 true _ ?side1 ?side2 A4.out).mono ?_); (case side1 => exact zc HR0_0.out); (case side2 => exact HC0_0.out); rintro e w7 ⟨rfl, hb⟩; refine ⟨_, rfl, ?_⟩; replace BK303 := zm (blk_below (zb BK303.out) hb); replace HB := zm (below_step zl hb); (try clear hb); have hcz8_0 : w7.cell? ⟨gb303, 0, none⟩ = some (.slice A0_0 l0_0.length c0_0) := (blk_cell BK303.out 0).trans rfl; have hcz8_1 : w7.cell? ⟨gb303, 1, none⟩ = some (.slice A0_1 l0_1.length c0_1) := (blk_cell BK303.out 1).trans rfl; have hfz8_0 := blk_frozen BK303.out 0; have hfz8_1 := blk_frozen BK303.out 1))
   go_meet
   case rel => exact ⟨_, (decide ((l0_1.length : Int) > 30)), (by first | rfl | (simp; done) | (simp [*]; done)), H', ⟨by first | omega | exact Nat.le_refl _⟩, ⟨zb BK303.out⟩, ⟨zl⟩⟩
  ·replace c5 := Bool.eq_false_iff.mpr c5
   subst c5
   have H1 : (impl_IsValidInstance.j0 k true l0_0 l0_1) = some r := by first | with_reducible rfl | (rw [if_neg (show ¬ (false = true) by decide)] at H; exact H)
   clear H
   have H := H1
   clear H1
   have H' := Aside0.mk H
   clear H
   have hcz9_0 : w3.cell? ⟨gb303, 0, none⟩ = some (.slice A0_0 l0_0.length c0_0) := (blk_cell BK303.out 0).trans rfl
   have hcz9_1 : w3.cell? ⟨gb303, 1, none⟩ = some (.slice A0_1 l0_1.length c0_1) := (blk_cell BK303.out 1).trans rfl
   have hfz9_0 := blk_frozen BK303.out 0
   have hfz9_1 := blk_frozen BK303.out 1
   go_wp2_with (first | (go_at_call 36; (with_reducible refine (impl_AreValidRelations.calls k _ _ l0_0 false _ ?side1 ?side2 A4.out).mono ?_); (case side1 => exact zc HR0_0.out); (case side2 => exact HC0_0.out); rintro e w10 ⟨rfl, hb⟩; have n0_ := Aside0.mk (blk_below (zb BK303.out) hb); have n1_ := Aside0.mk (below_step zl hb); clear BK303; clear HB; have BK303 := n0_; have HB := n1_; clear n0_ n1_; (try clear hb)) | ((with_reducible refine gate_callee (f := 36) rfl ?_); refine zg (some 7) Try.func36 #[.slice A0_0 l0_0.length c0_0] ?_; (with_reducible refine (impl_AreValidRelations.calls k _ _ l0_0 false _ ?side1 ?side2 A4.out).mono ?_); (case side1 => exact zc HR0_0.out); (case side2 => exact HC0_0.out); rintro e w10 ⟨rfl, hb⟩; refine ⟨_, rfl, ?_⟩; replace BK303 := zm (blk_below (zb BK303.out) hb); replace HB := zm (below_step zl hb); (try clear hb)))
   go_meet
   case rel => exact ⟨_, (true), (by first | rfl | (simp; done) | (simp [*]; done)), H', ⟨by first | omega | exact Nat.le_refl _⟩, ⟨zb BK303.out⟩, ⟨zl⟩⟩
 case rest =>
  clear HC2
  try clear c1
  try clear p2
  try clear c3
  try clear c5
  try clear hcz6_0
  try clear hcz6_1
  try clear hcz8_0
  try clear hcz8_1
  try clear hcz9_0
  try clear hcz9_1
  try clear hfz6_0
  try clear hfz6_1
  try clear hfz8_0
  try clear hfz8_1
  try clear hfz9_0
  try clear hfz9_1
  obtain ⟨kq, x14_1, rfl, HA, HJ1, BK303, HB⟩ := hcut
  cases kq with
  | zero => exact absurd HA.out (by simp [impl_IsValidInstance.j0])
  | succ kj1 =>
   have H := HA.out
   clear HA
   simp only [impl_IsValidInstance.j0] at H
   by_cases c11 : x14_1 = true
   ·subst c11
    have H1 : (some false) = some r := by first | with_reducible rfl | (rw [if_pos rfl] at H; exact H)
    clear H
    have H := H1
    clear H1
    obtain rfl := Option.some.inj H
    go_wp2
    go_ret
    exact ⟨by first | rfl | (simp [errW_none, errW_some] <;> rfl) | (simp [*, errW_none, errW_some] <;> rfl), zl⟩
   ·replace c11 := Bool.eq_false_iff.mpr c11
    subst c11
    have H1 : (impl_IsValidInstance.l0 kj1 l0_1 (l0_1.length : Int) 0 l0_0 l0_1) = some r := by first | with_reducible rfl | (rw [if_neg (show ¬ (false = true) by decide)] at H; exact H)
    clear H
    have H := H1
    clear H1
    have H' := Aside0.mk H
    clear H
    have hcz12_0 : wc.cell? ⟨gb303, 0, none⟩ = some (.slice A0_0 l0_0.length c0_0) := (blk_cell BK303.out 0).trans rfl
    have hcz12_1 : wc.cell? ⟨gb303, 1, none⟩ = some (.slice A0_1 l0_1.length c0_1) := (blk_cell BK303.out 1).trans rfl
    have hfz12_0 := blk_frozen BK303.out 0
    have hfz12_1 := blk_frozen BK303.out 1
    go_wp2
    go_loopg [18] kj1 (fun kq v18 w' => ∃ (x18_2 : Int), v18 = .int .i64 x18_2 ∧ Aside0 (impl_IsValidInstance.l0 kq l0_1 (l0_1.length : Int) x18_2 l0_0 l0_1 = some r) ∧ Aside0 (kq ≤ kj1) ∧ Aside0 (w'.heap[gb303]? = some (.cells #[(.slice A0_0 l0_0.length c0_0), (.slice A0_1 l0_1.length c0_1)] 32 (0, 0))) ∧ Aside0 (Below w.heap.size w w'))
    case atStart => exact ⟨(0), (by first | rfl | (simp; done) | (simp [*]; done)), H', ⟨Nat.le_refl _⟩, ⟨zb BK303.out⟩, ⟨zl⟩⟩
    case round =>
     clear H'
     try clear c1
     try clear p2
     try clear c3
     try clear c5
     try clear c11
     try clear hcz12_0
     try clear hcz12_1
     try clear hcz6_0
     try clear hcz6_1
     try clear hcz8_0
     try clear hcz8_1
     try clear hcz9_0
     try clear hcz9_1
     try clear hfz12_0
     try clear hfz12_1
     try clear hfz6_0
     try clear hfz6_1
     try clear hfz8_0
     try clear hfz8_1
     try clear hfz9_0
     try clear hfz9_1
     try clear p2
     obtain ⟨x18_2, rfl, HA, HK2, BK303, HB⟩ := hrel
     cases gk with
     | zero => exact absurd HA.out (by simp [impl_IsValidInstance.l0])
     | succ k2 =>
      have H := HA.out
      clear HA
      simp only [impl_IsValidInstance.l0] at H
      by_cases c13 : x18_2 < (l0_1.length : Int)
      ·rw [if_pos c13] at H
       have c13b0 : decide (x18_2 < (l0_1.length : Int)) = true := decide_eq_true c13
       clear c13
       by_cases c14 : 0 ≤ x18_2
       ·rw [if_pos c14] at H
        have c14b0 : decide (0 ≤ x18_2) = true := decide_eq_true c14
        clear c14
        by_cases c15 : x18_2 < (l0_1.length : Int)
        ·rw [if_pos c15] at H
         have c15b0 : decide (x18_2 < (l0_1.length : Int)) = true := decide_eq_true c15
         clear c15
         have HC16 := Aside0.mk H
         clear H
         have p305 : 0 ≤ (x18_2 : Int) := zd
         have q305 : x18_2 < (l0_1.length : Int) := zd
         obtain ⟨ad305, A305_1, c305_1, e305, hx305_0, hx305_1, hl305_1, hi305_1⟩ := at_T44 HR0_1.out x18_2 p305 q305
         cases e305
         replace hx305_0 := (HB.out.cell (World.block_lt_of_cell? w _ hx305_0)).trans hx305_0
         replace hx305_1 := (HB.out.cell (World.block_lt_of_cell? w _ hx305_1)).trans hx305_1
         have HR305_1 := Aside0.mk hi305_1
         have HC305_1 := Aside0.mk hl305_1
         clear hi305_1 hl305_1
         replace p305 := eq_true p305
         replace q305 := eq_true q305
         go_upto_region 6 with (first | ((with_reducible refine gate_dst (N := 4) rfl ?_); (try (refine gate_guard (by rfl) ?_; dsimp only)); refine box_event ?hg (N := 4) ?hd (cs := #[.int .i64 0, .slice none 0 0]) (t := 44) ?hr ?_; (case hd => rfl); (case hg => rfl); (case hr => first | (go_simp; done) | (go_simp; rfl)); intro gb306 hg w17 hbox hb; have BK306 := zm (hbox); have GW306 := zm ((by rw [hg]; exact (below_size zl) : w.heap.size ≤ gb306)); have GE306 := zm ((by rw [hg]; exact (below_size zl) : w.heap.size ≤ gb306)); replace HB := zm (below_step zl hb); have NB303_306 := zm (zl1 hg (zb BK303.out)); have NB306_303 := zm (zl2 hg (zb BK303.out)); replace BK303 := zm (blk_below (zb BK303.out) hb); clear hb hbox hg; have hnb18 := NB306_303.out; have hnc18 := NB303_306.out; have hcz19_0 : w17.cell? ⟨gb306, 0, none⟩ = some (.int .i64 0) := (blk_cell BK306.out 0).trans rfl; have hcz19_1 : w17.cell? ⟨gb306, 1, none⟩ = some (.slice none 0 0) := (blk_cell BK306.out 1).trans rfl; have hfz19_0 := blk_frozen BK306.out 0; have hfz19_1 := blk_frozen BK306.out 1))
         (try simp only [Act.put, List.setIfInBounds_toArray, List.set_cons_zero, List.set_cons_succ])
         go_cut [42] (fun v42 wc => ∃ (kq : Nat) (x42_15 : Bool), v42 = .bool x42_15 ∧ Aside0 (impl_IsValidInstance.j2 kq l0_1 (l0_1.length : Int) x18_2 x42_15 l0_0 l0_1 ((rd_T44 l0_1 x18_2).f0) ((rd_T44 l0_1 x18_2).f1) = some r) ∧ Aside0 (kq ≤ k2) ∧ Aside0 (wc.heap[gb303]? = some (.cells #[(.slice A0_0 l0_0.length c0_0), (.slice (some ad305) l0_1.length c0_1)] 32 (0, 0))) ∧ Aside0 (wc.heap[gb306]? = some (.cells #[.int .i64 ((rd_T44 l0_1 x18_2).f0), (.slice A305_1 ((rd_T44 l0_1 x18_2).f1).length c305_1)] 44 (0, 0))) ∧ Aside0 (Below w.heap.size w wc))
         case first =>
          have H := HC16.out
          clear HC16
          replace H := Option.bind_eq_some_iff.mp H
          obtain ⟨t307, A200, H⟩ := H
          replace H : (if t307 = true then (if x18_2 > 0 then (if 0 ≤ (wrap64 (x18_2 - 1)) then (if (wrap64 (x18_2 - 1)) < (l0_1.length : Int) then ((impl_CompareFacts.f k2 ((rd_T44 l0_1 (wrap64 (x18_2 - 1))).f0) ((rd_T44 l0_1 (wrap64 (x18_2 - 1))).f1) ((rd_T44 l0_1 x18_2).f0) ((rd_T44 l0_1 x18_2).f1)).bind fun t309 => (impl_IsValidInstance.j2 k2 l0_1 (l0_1.length : Int) x18_2 (decide (t309 ≥ 0)) l0_0 l0_1 ((rd_T44 l0_1 x18_2).f0) ((rd_T44 l0_1 x18_2).f1))) else (none)) else (none)) else (impl_IsValidInstance.j2 k2 l0_1 (l0_1.length : Int) x18_2 false l0_0 l0_1 ((rd_T44 l0_1 x18_2).f0) ((rd_T44 l0_1 x18_2).f1))) else (impl_IsValidInstance.j2 k2 l0_1 (l0_1.length : Int) x18_2 true l0_0 l0_1 ((rd_T44 l0_1 x18_2).f0) ((rd_T44 l0_1 x18_2).f1))) = some r := H
          have A20 := Aside0.mk A200
          clear A200
          by_cases c21 : t307 = true
          ·subst c21
           have H1 : (if x18_2 > 0 then (if 0 ≤ (wrap64 (x18_2 - 1)) then (if (wrap64 (x18_2 - 1)) < (l0_1.length : Int) then ((impl_CompareFacts.f k2 ((rd_T44 l0_1 (wrap64 (x18_2 - 1))).f0) ((rd_T44 l0_1 (wrap64 (x18_2 - 1))).f1) ((rd_T44 l0_1 x18_2).f0) ((rd_T44 l0_1 x18_2).f1)).bind fun t309 => (impl_IsValidInstance.j2 k2 l0_1 (l0_1.length : Int) x18_2 (decide (t309 ≥ 0)) l0_0 l0_1 ((rd_T44 l0_1 x18_2).f0) ((rd_T44 l0_1 x18_2).f1))) else (none)) else (none)) else (impl_IsValidInstance.j2 k2 l0_1 (l0_1.length : Int) x18_2 false l0_0 l0_1 ((rd_T44 l0_1 x18_2).f0) ((rd_T44 l0_1 x18_2).f1))) = some r := by first | with_reducible rfl | (rw [if_pos rfl] at H; exact H)
           clear H
           have H := H1
           clear H1
           by_cases c22 : x18_2 > 0
           ·rw [if_pos c22] at H
            have c22b0 : decide (0 < x18_2) = true := decide_eq_true c22
            clear c22
            (first | rw [c22b0] | (simp only [i64_w, i32_w]; rw [c22b0]) | skip)
            obtain ⟨ji23, hji23⟩ : ∃ j_ : Int, (wrap64 (x18_2 - 1)) = j_ := ⟨_, rfl⟩
            replace H : (if 0 ≤ (ji23) then (if (ji23) < (l0_1.length : Int) then ((impl_CompareFacts.f k2 ((rd_T44 l0_1 (ji23)).f0) ((rd_T44 l0_1 (ji23)).f1) ((rd_T44 l0_1 x18_2).f0) ((rd_T44 l0_1 x18_2).f1)).bind fun t309 => (impl_IsValidInstance.j2 k2 l0_1 (l0_1.length : Int) x18_2 (decide (t309 ≥ 0)) l0_0 l0_1 ((rd_T44 l0_1 x18_2).f0) ((rd_T44 l0_1 x18_2).f1))) else (none)) else (none)) = some r := by first | (rw [hji23] at H; exact H) | (simp only [hji23] at H ⊢; exact H)
            (try rw [hji23] at A20)
            have hji23w : (IntKind.i64.wrap (x18_2 - 1)) = ji23 := (i64_w _).trans hji23
            by_cases c24 : 0 ≤ (ji23)
            ·rw [if_pos c24] at H
             have c24b0 : decide (0 ≤ (ji23)) = true := decide_eq_true c24
             clear c24
             by_cases c25 : (ji23) < (l0_1.length : Int)
             ·rw [if_pos c25] at H
              have c25b0 : decide ((ji23) < (l0_1.length : Int)) = true := decide_eq_true c25
              clear c25
              replace H := Option.bind_eq_some_iff.mp H
              obtain ⟨t309, A260, H⟩ := H
              replace H : (impl_IsValidInstance.j2 k2 l0_1 (l0_1.length : Int) x18_2 (decide (t309 ≥ 0)) l0_0 l0_1 ((rd_T44 l0_1 x18_2).f0) ((rd_T44 l0_1 x18_2).f1)) = some r := H
              have A26 := Aside0.mk A260
              clear A260
              have H' := Aside0.mk H
              clear H
              try go_wp2
              have n0_ : Aside0 (((w17.setCell ⟨gb306, 0, none⟩ (.int .i64 ((rd_T44 l0_1 x18_2).f0))).setCell ⟨gb306, 1, none⟩ (.slice A305_1 ((rd_T44 l0_1 x18_2).f1).length c305_1)).heap[gb303]? = some (.cells #[.slice A0_0 l0_0.length c0_0, .slice (some ad305) l0_1.length c0_1] 32 (0, 0))) := ⟨by (with_reducible repeat (first | refine blk_drewN ?_ _ | refine blk_drew ?_ | refine blk_alloc ?_ _)); refine blk_far ?_ NB303_306.out _; (with_reducible repeat (first | refine blk_drewN ?_ _ | refine blk_drew ?_ | refine blk_alloc ?_ _)); refine blk_far ?_ NB303_306.out _; (with_reducible repeat (first | refine blk_drewN ?_ _ | refine blk_drew ?_ | refine blk_alloc ?_ _)); exact BK303.out⟩
              have n1_ : Aside0 (((w17.setCell ⟨gb306, 0, none⟩ (.int .i64 ((rd_T44 l0_1 x18_2).f0))).setCell ⟨gb306, 1, none⟩ (.slice A305_1 ((rd_T44 l0_1 x18_2).f1).length c305_1)).heap[gb306]? = some (.cells #[.int .i64 ((rd_T44 l0_1 x18_2).f0), .slice A305_1 ((rd_T44 l0_1 x18_2).f1).length c305_1] 44 (0, 0))) := ⟨by (with_reducible repeat (first | refine blk_drewN ?_ _ | refine blk_drew ?_ | refine blk_alloc ?_ _)); refine blk_put (cs := #[.int .i64 ((rd_T44 l0_1 x18_2).f0), .slice none 0 0]) ?_ 1 _ rfl; (with_reducible repeat (first | refine blk_drewN ?_ _ | refine blk_drew ?_ | refine blk_alloc ?_ _)); refine blk_put (cs := #[.int .i64 0, .slice none 0 0]) ?_ 0 _ rfl; (with_reducible repeat (first | refine blk_drewN ?_ _ | refine blk_drew ?_ | refine blk_alloc ?_ _)); exact BK306.out⟩
              have n2_ : Aside0 (Below w.heap.size w ((w17.setCell ⟨gb306, 0, none⟩ (.int .i64 ((rd_T44 l0_1 x18_2).f0))).setCell ⟨gb306, 1, none⟩ (.slice A305_1 ((rd_T44 l0_1 x18_2).f1).length c305_1))) := ⟨zl⟩
              (try clear BK303)
              (try clear BK306)
              (try clear HB)
              generalize ((w17.setCell ⟨gb306, 0, none⟩ (.int .i64 ((rd_T44 l0_1 x18_2).f0))).setCell ⟨gb306, 1, none⟩ (.slice A305_1 ((rd_T44 l0_1 x18_2).f1).length c305_1)) = w27 at n0_ n1_ n2_ ⊢
              have BK303 := n0_
              have BK306 := n1_
              have HB := n2_
              clear n0_ n1_ n2_
              replace BK303 := zm (blk_drew BK303.out)
              replace BK306 := zm (blk_drew BK306.out)
              replace HB := zm (below_drew1 HB.out)
              have p308 : 0 ≤ ((ji23) : Int) := zd
              have q308 : (ji23) < (l0_1.length : Int) := zd
              obtain ⟨ad308, A308_1, c308_1, e308, hx308_0, hx308_1, hl308_1, hi308_1⟩ := at_T44 HR0_1.out (ji23) p308 q308
              have hw308_1 := hx308_1
              have hw308_0 := hx308_0
              obtain rfl : ad305 = ad308 := (by injection e308)
              replace hx308_0 := (HB.out.cell (World.block_lt_of_cell? w _ hx308_0)).trans hx308_0
              replace hx308_1 := (HB.out.cell (World.block_lt_of_cell? w _ hx308_1)).trans hx308_1
              have HR308_1 := Aside0.mk hi308_1
              have HC308_1 := Aside0.mk hl308_1
              clear hi308_1 hl308_1
              replace p308 := eq_true p308
              replace q308 := eq_true q308
              refine start_ (n := 20) (S := fun w' => w'.cell? ⟨gb303, 0, none⟩ = some (.slice A0_0 l0_0.length c0_0) ∧ w'.cell? ⟨gb303, 1, none⟩ = some (.slice (some ad305) l0_1.length c0_1) ∧ w'.cell? ⟨gb306, 0, none⟩ = some (.int .i64 ((rd_T44 l0_1 x18_2).f0)) ∧ w'.cell? ⟨gb306, 1, none⟩ = some (.slice A305_1 ((rd_T44 l0_1 x18_2).f1).length c305_1) ∧ w'.cell? (ad305.add (((ji23)).toNat * 2)) = some (.int .i64 ((rd_T44 l0_1 (ji23)).f0)) ∧ w'.cell? ⟨(ad305.add (((ji23)).toNat * 2)).block, (ad305.add (((ji23)).toNat * 2)).off + 1, none⟩ = some (.slice A308_1 ((rd_T44 l0_1 (ji23)).f1).length c308_1)) (ds := []) #[false, false, false, false, false, false, false, false, false, false, false, false, false, false, false, false, false, false, false, false] (by kernel_rfl) rfl rfl ⟨(blk_cell BK303.out 0).trans rfl, (blk_cell BK303.out 1).trans rfl, (blk_cell BK306.out 0).trans rfl, (blk_cell BK306.out 1).trans rfl, ((HB.out.cell (World.block_lt_of_cell? w _ hw308_0)).trans hw308_0), ((HB.out.cell (World.block_lt_of_cell? w _ hw308_1)).trans hw308_1)⟩ (fun hHeld => ?_); refine with_tabW impl_IsValidInstance.tab6 impl_IsValidInstance.bits6 (fun HT_ HW_ => ?_)
              generalize w27.drew = w28 at BK303 BK306 HB HR308_1 hx308_0 hx308_1 hHeld ⊢
              refine zP 0 (some 23) (zA 20 1) (any_of HT_.out (by kernel_rfl)) ?_
              refine take_ (i := 1) (N := some 24) (v := ?_) (a' := ?_) (zA 20 3) rfl rfl (take_ofW HT_.out HW_.out (by kernel_rfl)) (fun _ _ _ h => h) (Or.inl ⟨by rfl, ?_⟩) hHeld ?_ ?_
              rotate_left
              ·rintro w' ⟨s0, s1, s2, s3, s4, s5⟩
               go_simp
               with_reducible rfl
              rotate_left
              ·simp only [Act.put, List.setIfInBounds_toArray, List.set_cons_zero, List.set_cons_succ, i64_w, i32_w]
               rfl
              refine take_ (i := 2) (N := some 25) (v := ?_) (a' := ?_) (zA 20 7) rfl rfl (take_ofW HT_.out HW_.out (by kernel_rfl)) (fun _ _ _ h => h) (Or.inl ⟨by rfl, ?_⟩) hHeld ?_ ?_
              rotate_left
              ·rintro w' ⟨s0, s1, s2, s3, s4, s5⟩
               go_simp
               with_reducible rfl
              rotate_left
              ·simp only [Act.put, List.setIfInBounds_toArray, List.set_cons_zero, List.set_cons_succ, i64_w, i32_w]
               rfl
              refine one_ (i := 3) (N := some 26) (zA 20 15) rfl rfl (one_of HT_.out (by kernel_rfl)) (by decide) (fun K hK => ?_)
              refine goes_ Try.func37 (by kernel_rfl) rfl #[.slice A0_0 l0_0.length c0_0, .agg #[.int .i64 ((rd_T44 l0_1 x18_2).f0), .slice A305_1 ((rd_T44 l0_1 x18_2).f1).length c305_1]] (by rfl) rfl rfl (by (try simp only [List.map_toArray, List.map_cons, List.map_nil]); first | done | rfl | (simp only [List.length_drop, List.length_take]; rfl)) ?_
              with_reducible refine (impl_IsValidFact.calls k2 _ _ l0_0 ((rd_T44 l0_1 x18_2).f0) _ _ ((rd_T44 l0_1 x18_2).f1) true _ ?side1 ?side2 ?side3 ?side4 A20.out).mono ?_
              (case side1 => exact zc HR0_0.out)
              (case side2 => exact HC0_0.out)
              (case side3 => exact zc HR305_1.out)
              (case side4 => exact HC305_1.out)
              rintro e w29 ⟨rfl, hb⟩
              refine ⟨_, rfl, ?_⟩
              replace BK303 := zm (blk_below (zb BK303.out) hb)
              replace BK306 := zm (blk_below (zb BK306.out) hb)
              replace HB := zm (below_step zl hb)
              (try clear hb)
              refine hK.out _ _ ⟨(blk_cell BK303.out 0).trans rfl, (blk_cell BK303.out 1).trans rfl, (blk_cell BK306.out 0).trans rfl, (blk_cell BK306.out 1).trans rfl, ((HB.out.cell (World.block_lt_of_cell? w _ hw308_0)).trans hw308_0), ((HB.out.cell (World.block_lt_of_cell? w _ hw308_1)).trans hw308_1)⟩ (fun hHeld => ?_)
              clear hK K
              refine zO (some 26) ?_
              refine zP 4 (some 27) (zA 20 31) (any_of HT_.out (by kernel_rfl)) ?_
              refine zP 5 (some 28) (zA 20 63) (any_of HT_.out (by kernel_rfl)) ?_
              refine zP 6 (some 29) (zA 20 127) (any_of HT_.out (by kernel_rfl)) ?_
              refine zP 7 (some 30) (zA 20 255) (any_of HT_.out (by kernel_rfl)) ?_
              refine zP 8 (some 31) (zA 20 511) (any_of HT_.out (by kernel_rfl)) ?_
              refine zP 9 (some 32) (zA 20 1023) (any_of HT_.out (by kernel_rfl)) ?_
              refine zP 11 (some 34) (zA 20 3071) (any_of HT_.out (by kernel_rfl)) ?_
              refine zP 12 (some 35) (zA 20 7167) (any_of HT_.out (by kernel_rfl)) ?_
              refine take_ (i := 10) (N := some 33) (v := ?_) (a' := ?_) (zA 20 8191) rfl rfl (take_ofW HT_.out HW_.out (by kernel_rfl)) (fun _ _ _ h => h) (Or.inl ⟨by rfl, ?_⟩) hHeld ?_ ?_
              rotate_left
              ·rintro w' ⟨s0, s1, s2, s3, s4, s5⟩
               go_simp
               with_reducible rfl
              rotate_left
              ·simp only [Act.put, List.setIfInBounds_toArray, List.set_cons_zero, List.set_cons_succ, i64_w, i32_w]
               rfl
              refine zP 13 (some 36) (zA 20 16383) (any_of HT_.out (by kernel_rfl)) ?_
              refine take_ (i := 14) (N := some 37) (v := ?_) (a' := ?_) (zA 20 32767) rfl rfl (take_ofW HT_.out HW_.out (by kernel_rfl)) (fun _ _ _ h => h) (Or.inl ⟨by rfl, ?_⟩) hHeld ?_ ?_
              rotate_left
              ·rintro w' ⟨s0, s1, s2, s3, s4, s5⟩
               go_simp
               with_reducible rfl
              rotate_left
              ·simp only [Act.put, List.setIfInBounds_toArray, List.set_cons_zero, List.set_cons_succ, i64_w, i32_w]
               rfl
              refine take_ (i := 15) (N := some 38) (v := ?_) (a' := ?_) (zA 20 65535) rfl rfl (take_ofW HT_.out HW_.out (by kernel_rfl)) (fun _ _ _ h => h) (Or.inl ⟨by rfl, ?_⟩) hHeld ?_ ?_
              rotate_left
              ·rintro w' ⟨s0, s1, s2, s3, s4, s5⟩
               go_simp
               with_reducible rfl
              rotate_left
              ·simp only [Act.put, List.setIfInBounds_toArray, List.set_cons_zero, List.set_cons_succ, i64_w, i32_w]
               rfl
              refine one_ (i := 16) (N := some 39) (zA 20 131071) rfl rfl (one_of HT_.out (by kernel_rfl)) (by decide) (fun K hK => ?_)
              refine goes_ Try.func38 (by kernel_rfl) rfl #[.agg #[.int .i64 ((rd_T44 l0_1 (ji23)).f0), .slice A308_1 ((rd_T44 l0_1 (ji23)).f1).length c308_1], .agg #[.int .i64 ((rd_T44 l0_1 x18_2).f0), .slice A305_1 ((rd_T44 l0_1 x18_2).f1).length c305_1]] (by rfl) rfl rfl (by (try simp only [List.map_toArray, List.map_cons, List.map_nil]); first | done | (simp only [hji23]; rfl) | rfl | (simp only [List.length_drop, List.length_take]; rfl)) ?_
              with_reducible refine (impl_CompareFacts.calls k2 ((rd_T44 l0_1 (ji23)).f0) _ _ ((rd_T44 l0_1 (ji23)).f1) ((rd_T44 l0_1 x18_2).f0) _ _ ((rd_T44 l0_1 x18_2).f1) t309 _ ?side1 ?side2 ?side3 ?side4 A26.out).mono ?_
              (case side1 => exact zc HR308_1.out)
              (case side2 => exact HC308_1.out)
              (case side3 => exact zc HR305_1.out)
              (case side4 => exact HC305_1.out)
              rintro e w30 ⟨rfl, hb⟩
              refine ⟨_, rfl, ?_⟩
              replace BK303 := zm (blk_below (zb BK303.out) hb)
              replace BK306 := zm (blk_below (zb BK306.out) hb)
              replace HB := zm (below_step zl hb)
              (try clear hb)
              refine hK.out _ _ ⟨(blk_cell BK303.out 0).trans rfl, (blk_cell BK303.out 1).trans rfl, (blk_cell BK306.out 0).trans rfl, (blk_cell BK306.out 1).trans rfl, ((HB.out.cell (World.block_lt_of_cell? w _ hw308_0)).trans hw308_0), ((HB.out.cell (World.block_lt_of_cell? w _ hw308_1)).trans hw308_1)⟩ (fun hHeld => ?_)
              clear hK K
              refine zO (some 39) ?_
              refine zP 17 (some 40) (zA 20 262143) (any_of HT_.out (by kernel_rfl)) ?_
              refine zP 18 (some 41) (zA 20 524287) (any_of HT_.out (by kernel_rfl)) ?_
              refine zP 19 (some 42) (zA 20 1048575) (any_of HT_.out (by kernel_rfl)) ?_
              refine done_ (done_of HT_.out (by kernel_rfl)) ?_
              try go_wp2
              go_meet
              case rel => exact ⟨_, (decide (t309 ≥ 0)), (by first | rfl | (simp; done) | (simp [*]; done)), H', ⟨by have := HJ1.out; have := HK2.out; first | omega | exact Nat.le_refl _⟩, ⟨zb BK303.out⟩, ⟨zb BK306.out⟩, ⟨zl⟩⟩
             ·rw [if_neg c25] at H
              exact absurd H (by simp)
            ·rw [if_neg c24] at H
             exact absurd H (by simp)
           ·rw [if_neg c22] at H
            have c22b0 : decide (0 < x18_2) = false := decide_eq_false c22
            clear c22
            (first | rw [c22b0] | (simp only [i64_w, i32_w]; rw [c22b0]) | skip)
            have H' := Aside0.mk H
            clear H
            try go_wp2
            have n0_ : Aside0 (((w17.setCell ⟨gb306, 0, none⟩ (.int .i64 ((rd_T44 l0_1 x18_2).f0))).setCell ⟨gb306, 1, none⟩ (.slice A305_1 ((rd_T44 l0_1 x18_2).f1).length c305_1)).heap[gb303]? = some (.cells #[.slice A0_0 l0_0.length c0_0, .slice (some ad305) l0_1.length c0_1] 32 (0, 0))) := ⟨by (with_reducible repeat (first | refine blk_drewN ?_ _ | refine blk_drew ?_ | refine blk_alloc ?_ _)); refine blk_far ?_ NB303_306.out _; (with_reducible repeat (first | refine blk_drewN ?_ _ | refine blk_drew ?_ | refine blk_alloc ?_ _)); refine blk_far ?_ NB303_306.out _; (with_reducible repeat (first | refine blk_drewN ?_ _ | refine blk_drew ?_ | refine blk_alloc ?_ _)); exact BK303.out⟩
            have n1_ : Aside0 (((w17.setCell ⟨gb306, 0, none⟩ (.int .i64 ((rd_T44 l0_1 x18_2).f0))).setCell ⟨gb306, 1, none⟩ (.slice A305_1 ((rd_T44 l0_1 x18_2).f1).length c305_1)).heap[gb306]? = some (.cells #[.int .i64 ((rd_T44 l0_1 x18_2).f0), .slice A305_1 ((rd_T44 l0_1 x18_2).f1).length c305_1] 44 (0, 0))) := ⟨by (with_reducible repeat (first | refine blk_drewN ?_ _ | refine blk_drew ?_ | refine blk_alloc ?_ _)); refine blk_put (cs := #[.int .i64 ((rd_T44 l0_1 x18_2).f0), .slice none 0 0]) ?_ 1 _ rfl; (with_reducible repeat (first | refine blk_drewN ?_ _ | refine blk_drew ?_ | refine blk_alloc ?_ _)); refine blk_put (cs := #[.int .i64 0, .slice none 0 0]) ?_ 0 _ rfl; (with_reducible repeat (first | refine blk_drewN ?_ _ | refine blk_drew ?_ | refine blk_alloc ?_ _)); exact BK306.out⟩
            have n2_ : Aside0 (Below w.heap.size w ((w17.setCell ⟨gb306, 0, none⟩ (.int .i64 ((rd_T44 l0_1 x18_2).f0))).setCell ⟨gb306, 1, none⟩ (.slice A305_1 ((rd_T44 l0_1 x18_2).f1).length c305_1))) := ⟨zl⟩
            (try clear BK303)
            (try clear BK306)
            (try clear HB)
            generalize ((w17.setCell ⟨gb306, 0, none⟩ (.int .i64 ((rd_T44 l0_1 x18_2).f0))).setCell ⟨gb306, 1, none⟩ (.slice A305_1 ((rd_T44 l0_1 x18_2).f1).length c305_1)) = w31 at n0_ n1_ n2_ ⊢
            have BK303 := n0_
            have BK306 := n1_
            have HB := n2_
            clear n0_ n1_ n2_
            replace BK303 := zm (blk_drew BK303.out)
            replace BK306 := zm (blk_drew BK306.out)
            replace HB := zm (below_drew1 HB.out)
            refine start_ (n := 20) (S := fun w' => w'.cell? ⟨gb303, 0, none⟩ = some (.slice A0_0 l0_0.length c0_0) ∧ w'.cell? ⟨gb303, 1, none⟩ = some (.slice (some ad305) l0_1.length c0_1) ∧ w'.cell? ⟨gb306, 0, none⟩ = some (.int .i64 ((rd_T44 l0_1 x18_2).f0)) ∧ w'.cell? ⟨gb306, 1, none⟩ = some (.slice A305_1 ((rd_T44 l0_1 x18_2).f1).length c305_1)) (ds := []) #[false, false, false, false, false, false, false, false, false, false, false, false, false, false, false, false, false, false, false, false] (by kernel_rfl) rfl rfl ⟨(blk_cell BK303.out 0).trans rfl, (blk_cell BK303.out 1).trans rfl, (blk_cell BK306.out 0).trans rfl, (blk_cell BK306.out 1).trans rfl⟩ (fun hHeld => ?_); refine with_tabW impl_IsValidInstance.tab6 impl_IsValidInstance.bits6 (fun HT_ HW_ => ?_)
            generalize w31.drew = w32 at BK303 BK306 HB hHeld ⊢
            refine zP 0 (some 23) (zA 20 1) (any_of HT_.out (by kernel_rfl)) ?_
            refine take_ (i := 1) (N := some 24) (v := ?_) (a' := ?_) (zA 20 3) rfl rfl (take_ofW HT_.out HW_.out (by kernel_rfl)) (fun _ _ _ h => h) (Or.inl ⟨by rfl, ?_⟩) hHeld ?_ ?_
            rotate_left
            ·rintro w' ⟨s0, s1, s2, s3⟩
             go_simp
             with_reducible rfl
            rotate_left
            ·simp only [Act.put, List.setIfInBounds_toArray, List.set_cons_zero, List.set_cons_succ, i64_w, i32_w]
             rfl
            refine take_ (i := 2) (N := some 25) (v := ?_) (a' := ?_) (zA 20 7) rfl rfl (take_ofW HT_.out HW_.out (by kernel_rfl)) (fun _ _ _ h => h) (Or.inl ⟨by rfl, ?_⟩) hHeld ?_ ?_
            rotate_left
            ·rintro w' ⟨s0, s1, s2, s3⟩
             go_simp
             with_reducible rfl
            rotate_left
            ·simp only [Act.put, List.setIfInBounds_toArray, List.set_cons_zero, List.set_cons_succ, i64_w, i32_w]
             rfl
            refine one_ (i := 3) (N := some 26) (zA 20 15) rfl rfl (one_of HT_.out (by kernel_rfl)) (by decide) (fun K hK => ?_)
            refine goes_ Try.func37 (by kernel_rfl) rfl #[.slice A0_0 l0_0.length c0_0, .agg #[.int .i64 ((rd_T44 l0_1 x18_2).f0), .slice A305_1 ((rd_T44 l0_1 x18_2).f1).length c305_1]] (by rfl) rfl rfl (by (try simp only [List.map_toArray, List.map_cons, List.map_nil]); first | done | rfl | (simp only [List.length_drop, List.length_take]; rfl)) ?_
            with_reducible refine (impl_IsValidFact.calls k2 _ _ l0_0 ((rd_T44 l0_1 x18_2).f0) _ _ ((rd_T44 l0_1 x18_2).f1) true _ ?side1 ?side2 ?side3 ?side4 A20.out).mono ?_
            (case side1 => exact zc HR0_0.out)
            (case side2 => exact HC0_0.out)
            (case side3 => exact zc HR305_1.out)
            (case side4 => exact HC305_1.out)
            rintro e w33 ⟨rfl, hb⟩
            refine ⟨_, rfl, ?_⟩
            replace BK303 := zm (blk_below (zb BK303.out) hb)
            replace BK306 := zm (blk_below (zb BK306.out) hb)
            replace HB := zm (below_step zl hb)
            (try clear hb)
            refine hK.out _ _ ⟨(blk_cell BK303.out 0).trans rfl, (blk_cell BK303.out 1).trans rfl, (blk_cell BK306.out 0).trans rfl, (blk_cell BK306.out 1).trans rfl⟩ (fun hHeld => ?_)
            clear hK K
            refine zO (some 26) ?_
            refine zP 4 (some 27) (zA 20 31) (any_of HT_.out (by kernel_rfl)) ?_
            refine zP 5 (some 28) (zA 20 63) (any_of HT_.out (by kernel_rfl)) ?_
            refine zP 6 (some 29) (zA 20 127) (any_of HT_.out (by kernel_rfl)) ?_
            refine zP 7 (some 30) (zA 20 255) (any_of HT_.out (by kernel_rfl)) ?_
            refine zP 8 (some 31) (zA 20 511) (any_of HT_.out (by kernel_rfl)) ?_
            refine pure_ (i := 9) (N := some 32) (v := undef) (a' := ?_) (zA 20 1023) rfl rfl (any_of HT_.out (by kernel_rfl)) (fun _ _ _ h => h) (Or.inr ⟨by rfl, rfl⟩) ?_ ?_
            rotate_left
            ·simp only [Act.put, List.setIfInBounds_toArray, List.set_cons_zero, List.set_cons_succ, i64_w, i32_w]
             rfl
            refine pure_ (i := 10) (N := some 33) (v := undef) (a' := ?_) (zA 20 2047) rfl rfl (any_of HT_.out (by kernel_rfl)) (fun _ _ _ h => h) (Or.inr ⟨by rfl, rfl⟩) ?_ ?_
            rotate_left
            ·simp only [Act.put, List.setIfInBounds_toArray, List.set_cons_zero, List.set_cons_succ, i64_w, i32_w]
             rfl
            refine pure_ (i := 11) (N := some 34) (v := undef) (a' := ?_) (zA 20 4095) rfl rfl (any_of HT_.out (by kernel_rfl)) (fun _ _ _ h => h) (Or.inr ⟨by rfl, rfl⟩) ?_ ?_
            rotate_left
            ·simp only [Act.put, List.setIfInBounds_toArray, List.set_cons_zero, List.set_cons_succ, i64_w, i32_w]
             rfl
            refine pure_ (i := 12) (N := some 35) (v := undef) (a' := ?_) (zA 20 8191) rfl rfl (any_of HT_.out (by kernel_rfl)) (fun _ _ _ h => h) (Or.inr ⟨by rfl, rfl⟩) ?_ ?_
            rotate_left
            ·simp only [Act.put, List.setIfInBounds_toArray, List.set_cons_zero, List.set_cons_succ, i64_w, i32_w]
             rfl
            refine pure_ (i := 13) (N := some 36) (v := undef) (a' := ?_) (zA 20 16383) rfl rfl (any_of HT_.out (by kernel_rfl)) (fun _ _ _ h => h) (Or.inr ⟨by rfl, rfl⟩) ?_ ?_
            rotate_left
            ·simp only [Act.put, List.setIfInBounds_toArray, List.set_cons_zero, List.set_cons_succ, i64_w, i32_w]
             rfl
            refine pure_ (i := 14) (N := some 37) (v := undef) (a' := ?_) (zA 20 32767) rfl rfl (any_of HT_.out (by kernel_rfl)) (fun _ _ _ h => h) (Or.inr ⟨by rfl, rfl⟩) ?_ ?_
            rotate_left
            ·simp only [Act.put, List.setIfInBounds_toArray, List.set_cons_zero, List.set_cons_succ, i64_w, i32_w]
             rfl
            refine pure_ (i := 15) (N := some 38) (v := undef) (a' := ?_) (zA 20 65535) rfl rfl (any_of HT_.out (by kernel_rfl)) (fun _ _ _ h => h) (Or.inr ⟨by rfl, rfl⟩) ?_ ?_
            rotate_left
            ·simp only [Act.put, List.setIfInBounds_toArray, List.set_cons_zero, List.set_cons_succ, i64_w, i32_w]
             rfl
            refine pure_ (i := 16) (N := some 39) (v := undef) (a' := ?_) (zA 20 131071) rfl rfl (any_of HT_.out (by kernel_rfl)) (fun _ _ _ h => h) (Or.inr ⟨by rfl, rfl⟩) ?_ ?_
            rotate_left
            ·simp only [Act.put, List.setIfInBounds_toArray, List.set_cons_zero, List.set_cons_succ, i64_w, i32_w]
             rfl
            refine pure_ (i := 17) (N := some 40) (v := undef) (a' := ?_) (zA 20 262143) rfl rfl (any_of HT_.out (by kernel_rfl)) (fun _ _ _ h => h) (Or.inr ⟨by rfl, rfl⟩) ?_ ?_
            rotate_left
            ·simp only [Act.put, List.setIfInBounds_toArray, List.set_cons_zero, List.set_cons_succ, i64_w, i32_w]
             rfl
            refine zP 18 (some 41) (zA 20 524287) (any_of HT_.out (by kernel_rfl)) ?_
            refine zP 19 (some 42) (zA 20 1048575) (any_of HT_.out (by kernel_rfl)) ?_
            refine done_ (done_of HT_.out (by kernel_rfl)) ?_
            try go_wp2
            go_meet
            case rel => exact ⟨_, (false), (by first | rfl | (simp; done) | (simp [*]; done)), H', ⟨by have := HJ1.out; have := HK2.out; first | omega | exact Nat.le_refl _⟩, ⟨zb BK303.out⟩, ⟨zb BK306.out⟩, ⟨zl⟩⟩
          ·replace c21 := Bool.eq_false_iff.mpr c21
           subst c21
           have H1 : (impl_IsValidInstance.j2 k2 l0_1 (l0_1.length : Int) x18_2 true l0_0 l0_1 ((rd_T44 l0_1 x18_2).f0) ((rd_T44 l0_1 x18_2).f1)) = some r := by first | with_reducible rfl | (rw [if_neg (show ¬ (false = true) by decide)] at H; exact H)
           clear H
           have H := H1
           clear H1
           have H' := Aside0.mk H
           clear H
           try go_wp2
           have n0_ : Aside0 (((w17.setCell ⟨gb306, 0, none⟩ (.int .i64 ((rd_T44 l0_1 x18_2).f0))).setCell ⟨gb306, 1, none⟩ (.slice A305_1 ((rd_T44 l0_1 x18_2).f1).length c305_1)).heap[gb303]? = some (.cells #[.slice A0_0 l0_0.length c0_0, .slice (some ad305) l0_1.length c0_1] 32 (0, 0))) := ⟨by (with_reducible repeat (first | refine blk_drewN ?_ _ | refine blk_drew ?_ | refine blk_alloc ?_ _)); refine blk_far ?_ NB303_306.out _; (with_reducible repeat (first | refine blk_drewN ?_ _ | refine blk_drew ?_ | refine blk_alloc ?_ _)); refine blk_far ?_ NB303_306.out _; (with_reducible repeat (first | refine blk_drewN ?_ _ | refine blk_drew ?_ | refine blk_alloc ?_ _)); exact BK303.out⟩
           have n1_ : Aside0 (((w17.setCell ⟨gb306, 0, none⟩ (.int .i64 ((rd_T44 l0_1 x18_2).f0))).setCell ⟨gb306, 1, none⟩ (.slice A305_1 ((rd_T44 l0_1 x18_2).f1).length c305_1)).heap[gb306]? = some (.cells #[.int .i64 ((rd_T44 l0_1 x18_2).f0), .slice A305_1 ((rd_T44 l0_1 x18_2).f1).length c305_1] 44 (0, 0))) := ⟨by (with_reducible repeat (first | refine blk_drewN ?_ _ | refine blk_drew ?_ | refine blk_alloc ?_ _)); refine blk_put (cs := #[.int .i64 ((rd_T44 l0_1 x18_2).f0), .slice none 0 0]) ?_ 1 _ rfl; (with_reducible repeat (first | refine blk_drewN ?_ _ | refine blk_drew ?_ | refine blk_alloc ?_ _)); refine blk_put (cs := #[.int .i64 0, .slice none 0 0]) ?_ 0 _ rfl; (with_reducible repeat (first | refine blk_drewN ?_ _ | refine blk_drew ?_ | refine blk_alloc ?_ _)); exact BK306.out⟩
           have n2_ : Aside0 (Below w.heap.size w ((w17.setCell ⟨gb306, 0, none⟩ (.int .i64 ((rd_T44 l0_1 x18_2).f0))).setCell ⟨gb306, 1, none⟩ (.slice A305_1 ((rd_T44 l0_1 x18_2).f1).length c305_1))) := ⟨zl⟩
           (try clear BK303)
           (try clear BK306)
           (try clear HB)
           generalize ((w17.setCell ⟨gb306, 0, none⟩ (.int .i64 ((rd_T44 l0_1 x18_2).f0))).setCell ⟨gb306, 1, none⟩ (.slice A305_1 ((rd_T44 l0_1 x18_2).f1).length c305_1)) = w34 at n0_ n1_ n2_ ⊢
           have BK303 := n0_
           have BK306 := n1_
           have HB := n2_
           clear n0_ n1_ n2_
           replace BK303 := zm (blk_drew BK303.out)
           replace BK306 := zm (blk_drew BK306.out)
           replace HB := zm (below_drew1 HB.out)
           refine start_ (n := 20) (S := fun w' => w'.cell? ⟨gb303, 0, none⟩ = some (.slice A0_0 l0_0.length c0_0) ∧ w'.cell? ⟨gb303, 1, none⟩ = some (.slice (some ad305) l0_1.length c0_1) ∧ w'.cell? ⟨gb306, 0, none⟩ = some (.int .i64 ((rd_T44 l0_1 x18_2).f0)) ∧ w'.cell? ⟨gb306, 1, none⟩ = some (.slice A305_1 ((rd_T44 l0_1 x18_2).f1).length c305_1)) (ds := []) #[false, false, false, false, false, false, false, false, false, false, false, false, false, false, false, false, false, false, false, false] (by kernel_rfl) rfl rfl ⟨(blk_cell BK303.out 0).trans rfl, (blk_cell BK303.out 1).trans rfl, (blk_cell BK306.out 0).trans rfl, (blk_cell BK306.out 1).trans rfl⟩ (fun hHeld => ?_); refine with_tabW impl_IsValidInstance.tab6 impl_IsValidInstance.bits6 (fun HT_ HW_ => ?_)
           generalize w34.drew = w35 at BK303 BK306 HB hHeld ⊢
           refine zP 0 (some 23) (zA 20 1) (any_of HT_.out (by kernel_rfl)) ?_
           refine take_ (i := 1) (N := some 24) (v := ?_) (a' := ?_) (zA 20 3) rfl rfl (take_ofW HT_.out HW_.out (by kernel_rfl)) (fun _ _ _ h => h) (Or.inl ⟨by rfl, ?_⟩) hHeld ?_ ?_
           rotate_left
           ·rintro w' ⟨s0, s1, s2, s3⟩
            go_simp
            with_reducible rfl
           rotate_left
           ·simp only [Act.put, List.setIfInBounds_toArray, List.set_cons_zero, List.set_cons_succ, i64_w, i32_w]
            rfl
           refine take_ (i := 2) (N := some 25) (v := ?_) (a' := ?_) (zA 20 7) rfl rfl (take_ofW HT_.out HW_.out (by kernel_rfl)) (fun _ _ _ h => h) (Or.inl ⟨by rfl, ?_⟩) hHeld ?_ ?_
           rotate_left
           ·rintro w' ⟨s0, s1, s2, s3⟩
            go_simp
            with_reducible rfl
           rotate_left
           ·simp only [Act.put, List.setIfInBounds_toArray, List.set_cons_zero, List.set_cons_succ, i64_w, i32_w]
            rfl
           refine one_ (i := 3) (N := some 26) (zA 20 15) rfl rfl (one_of HT_.out (by kernel_rfl)) (by decide) (fun K hK => ?_)
           refine goes_ Try.func37 (by kernel_rfl) rfl #[.slice A0_0 l0_0.length c0_0, .agg #[.int .i64 ((rd_T44 l0_1 x18_2).f0), .slice A305_1 ((rd_T44 l0_1 x18_2).f1).length c305_1]] (by rfl) rfl rfl (by (try simp only [List.map_toArray, List.map_cons, List.map_nil]); first | done | rfl | (simp only [List.length_drop, List.length_take]; rfl)) ?_
           with_reducible refine (impl_IsValidFact.calls k2 _ _ l0_0 ((rd_T44 l0_1 x18_2).f0) _ _ ((rd_T44 l0_1 x18_2).f1) false _ ?side1 ?side2 ?side3 ?side4 A20.out).mono ?_
           (case side1 => exact zc HR0_0.out)
           (case side2 => exact HC0_0.out)
           (case side3 => exact zc HR305_1.out)
           (case side4 => exact HC305_1.out)
           rintro e w36 ⟨rfl, hb⟩
           refine ⟨_, rfl, ?_⟩
           replace BK303 := zm (blk_below (zb BK303.out) hb)
           replace BK306 := zm (blk_below (zb BK306.out) hb)
           replace HB := zm (below_step zl hb)
           (try clear hb)
           refine hK.out _ _ ⟨(blk_cell BK303.out 0).trans rfl, (blk_cell BK303.out 1).trans rfl, (blk_cell BK306.out 0).trans rfl, (blk_cell BK306.out 1).trans rfl⟩ (fun hHeld => ?_)
           clear hK K
           refine zO (some 26) ?_
           refine zP 4 (some 27) (zA 20 31) (any_of HT_.out (by kernel_rfl)) ?_
           refine zP 5 (some 28) (zA 20 63) (any_of HT_.out (by kernel_rfl)) ?_
           refine pure_ (i := 6) (N := some 29) (v := undef) (a' := ?_) (zA 20 127) rfl rfl (any_of HT_.out (by kernel_rfl)) (fun _ _ _ h => h) (Or.inr ⟨by rfl, rfl⟩) ?_ ?_
           rotate_left
           ·simp only [Act.put, List.setIfInBounds_toArray, List.set_cons_zero, List.set_cons_succ, i64_w, i32_w]
            rfl
           refine pure_ (i := 7) (N := some 30) (v := undef) (a' := ?_) (zA 20 255) rfl rfl (any_of HT_.out (by kernel_rfl)) (fun _ _ _ h => h) (Or.inr ⟨by rfl, rfl⟩) ?_ ?_
           rotate_left
           ·simp only [Act.put, List.setIfInBounds_toArray, List.set_cons_zero, List.set_cons_succ, i64_w, i32_w]
            rfl
           refine pure_ (i := 8) (N := some 31) (v := undef) (a' := ?_) (zA 20 511) rfl rfl (any_of HT_.out (by kernel_rfl)) (fun _ _ _ h => h) (Or.inr ⟨by rfl, rfl⟩) ?_ ?_
           rotate_left
           ·simp only [Act.put, List.setIfInBounds_toArray, List.set_cons_zero, List.set_cons_succ, i64_w, i32_w]
            rfl
           refine pure_ (i := 9) (N := some 32) (v := undef) (a' := ?_) (zA 20 1023) rfl rfl (any_of HT_.out (by kernel_rfl)) (fun _ _ _ h => h) (Or.inr ⟨by rfl, rfl⟩) ?_ ?_
           rotate_left
           ·simp only [Act.put, List.setIfInBounds_toArray, List.set_cons_zero, List.set_cons_succ, i64_w, i32_w]
            rfl
           refine pure_ (i := 10) (N := some 33) (v := undef) (a' := ?_) (zA 20 2047) rfl rfl (any_of HT_.out (by kernel_rfl)) (fun _ _ _ h => h) (Or.inr ⟨by rfl, rfl⟩) ?_ ?_
           rotate_left
           ·simp only [Act.put, List.setIfInBounds_toArray, List.set_cons_zero, List.set_cons_succ, i64_w, i32_w]
            rfl
           refine pure_ (i := 11) (N := some 34) (v := undef) (a' := ?_) (zA 20 4095) rfl rfl (any_of HT_.out (by kernel_rfl)) (fun _ _ _ h => h) (Or.inr ⟨by rfl, rfl⟩) ?_ ?_
           rotate_left
           ·simp only [Act.put, List.setIfInBounds_toArray, List.set_cons_zero, List.set_cons_succ, i64_w, i32_w]
            rfl
           refine pure_ (i := 12) (N := some 35) (v := undef) (a' := ?_) (zA 20 8191) rfl rfl (any_of HT_.out (by kernel_rfl)) (fun _ _ _ h => h) (Or.inr ⟨by rfl, rfl⟩) ?_ ?_
           rotate_left
           ·simp only [Act.put, List.setIfInBounds_toArray, List.set_cons_zero, List.set_cons_succ, i64_w, i32_w]
            rfl
           refine pure_ (i := 13) (N := some 36) (v := undef) (a' := ?_) (zA 20 16383) rfl rfl (any_of HT_.out (by kernel_rfl)) (fun _ _ _ h => h) (Or.inr ⟨by rfl, rfl⟩) ?_ ?_
           rotate_left
           ·simp only [Act.put, List.setIfInBounds_toArray, List.set_cons_zero, List.set_cons_succ, i64_w, i32_w]
            rfl
           refine pure_ (i := 14) (N := some 37) (v := undef) (a' := ?_) (zA 20 32767) rfl rfl (any_of HT_.out (by kernel_rfl)) (fun _ _ _ h => h) (Or.inr ⟨by rfl, rfl⟩) ?_ ?_
           rotate_left
           ·simp only [Act.put, List.setIfInBounds_toArray, List.set_cons_zero, List.set_cons_succ, i64_w, i32_w]
            rfl
           refine pure_ (i := 15) (N := some 38) (v := undef) (a' := ?_) (zA 20 65535) rfl rfl (any_of HT_.out (by kernel_rfl)) (fun _ _ _ h => h) (Or.inr ⟨by rfl, rfl⟩) ?_ ?_
           rotate_left
           ·simp only [Act.put, List.setIfInBounds_toArray, List.set_cons_zero, List.set_cons_succ, i64_w, i32_w]
            rfl
           refine pure_ (i := 16) (N := some 39) (v := undef) (a' := ?_) (zA 20 131071) rfl rfl (any_of HT_.out (by kernel_rfl)) (fun _ _ _ h => h) (Or.inr ⟨by rfl, rfl⟩) ?_ ?_
           rotate_left
           ·simp only [Act.put, List.setIfInBounds_toArray, List.set_cons_zero, List.set_cons_succ, i64_w, i32_w]
            rfl
           refine pure_ (i := 17) (N := some 40) (v := undef) (a' := ?_) (zA 20 262143) rfl rfl (any_of HT_.out (by kernel_rfl)) (fun _ _ _ h => h) (Or.inr ⟨by rfl, rfl⟩) ?_ ?_
           rotate_left
           ·simp only [Act.put, List.setIfInBounds_toArray, List.set_cons_zero, List.set_cons_succ, i64_w, i32_w]
            rfl
           refine pure_ (i := 18) (N := some 41) (v := undef) (a' := ?_) (zA 20 524287) rfl rfl (any_of HT_.out (by kernel_rfl)) (fun _ _ _ h => h) (Or.inr ⟨by rfl, rfl⟩) ?_ ?_
           rotate_left
           ·simp only [Act.put, List.setIfInBounds_toArray, List.set_cons_zero, List.set_cons_succ, i64_w, i32_w]
            rfl
           refine zP 19 (some 42) (zA 20 1048575) (any_of HT_.out (by kernel_rfl)) ?_
           refine done_ (done_of HT_.out (by kernel_rfl)) ?_
           try go_wp2
           go_meet
           case rel => exact ⟨_, (true), (by first | rfl | (simp; done) | (simp [*]; done)), H', ⟨by have := HJ1.out; have := HK2.out; first | omega | exact Nat.le_refl _⟩, ⟨zb BK303.out⟩, ⟨zb BK306.out⟩, ⟨zl⟩⟩
         case rest =>
          clear HC16
          try clear c2
          try clear p2
          try clear c3
          try clear p3
          try clear q3
          try clear hx3
          try clear c21
          try clear c22
          try clear c22b0
          try clear c24
          try clear c25
          try clear c30
          try clear p30
          try clear q30
          try clear hx30
          try clear hx308_0
          try clear hx308_1
          try clear p308
          try clear q308
          obtain ⟨kq, x42_15, rfl, HA, HJ15, BK303, BK306, HB⟩ := hcut
          cases kq with
          | zero => exact absurd HA.out (by simp [impl_IsValidInstance.j2])
          | succ kj15 =>
           have H := HA.out
           clear HA
           simp only [impl_IsValidInstance.j2] at H
           by_cases c37 : x42_15 = true
           ·subst c37
            have H1 : (some false) = some r := by first | with_reducible rfl | (rw [if_pos rfl] at H; exact H)
            clear H
            have H := H1
            clear H1
            obtain rfl := Option.some.inj H
            go_wp2
            go_ret
            exact ⟨by first | rfl | (simp [errW_none, errW_some] <;> rfl) | (simp [*, errW_none, errW_some] <;> rfl), zl⟩
           ·replace c37 := Bool.eq_false_iff.mpr c37
            subst c37
            have H1 : (if 0 ≤ ((rd_T44 l0_1 x18_2).f0) then (if ((rd_T44 l0_1 x18_2).f0) < (l0_0.length : Int) then (if (rd_T62 l0_0 ((rd_T44 l0_1 x18_2).f0)).f2 = true then ((impl_NullsOfFact.f kj15 ((rd_T44 l0_1 x18_2).f0) ((rd_T44 l0_1 x18_2).f1)).bind fun t311 => (if (t311.length : Int) > 0 then (some false) else (impl_IsValidInstance.l0 kj15 l0_1 (l0_1.length : Int) (wrap64 (x18_2 + 1)) l0_0 l0_1))) else (impl_IsValidInstance.l0 kj15 l0_1 (l0_1.length : Int) (wrap64 (x18_2 + 1)) l0_0 l0_1)) else (none)) else (none)) = some r := by first | with_reducible rfl | (rw [if_neg (show ¬ (false = true) by decide)] at H; exact H)
            clear H
            have H := H1
            clear H1
            by_cases c38 : 0 ≤ ((rd_T44 l0_1 x18_2).f0)
            ·rw [if_pos c38] at H
             have c38b0 : decide (0 ≤ ((rd_T44 l0_1 x18_2).f0)) = true := decide_eq_true c38
             clear c38
             by_cases c39 : ((rd_T44 l0_1 x18_2).f0) < (l0_0.length : Int)
             ·rw [if_pos c39] at H
              have c39b0 : decide (((rd_T44 l0_1 x18_2).f0) < (l0_0.length : Int)) = true := decide_eq_true c39
              clear c39
              obtain ⟨bq40, hbq40⟩ : ∃ b_ : Bool, b_ = ((rd_T62 l0_0 ((rd_T44 l0_1 x18_2).f0)).f2) := ⟨_, rfl⟩
              replace H : (if bq40 = true then ((impl_NullsOfFact.f kj15 ((rd_T44 l0_1 x18_2).f0) ((rd_T44 l0_1 x18_2).f1)).bind fun t311 => (if (t311.length : Int) > 0 then (some false) else (impl_IsValidInstance.l0 kj15 l0_1 (l0_1.length : Int) (wrap64 (x18_2 + 1)) l0_0 l0_1))) else (impl_IsValidInstance.l0 kj15 l0_1 (l0_1.length : Int) (wrap64 (x18_2 + 1)) l0_0 l0_1)) = some r := by rw [← hbq40] at H; exact H
              have Nbq40 := Aside0.mk hbq40
              clear hbq40
              by_cases c41 : bq40 = true
              ·subst c41
               have H1 : ((impl_NullsOfFact.f kj15 ((rd_T44 l0_1 x18_2).f0) ((rd_T44 l0_1 x18_2).f1)).bind fun t311 => (if (t311.length : Int) > 0 then (some false) else (impl_IsValidInstance.l0 kj15 l0_1 (l0_1.length : Int) (wrap64 (x18_2 + 1)) l0_0 l0_1))) = some r := by first | with_reducible rfl | (rw [if_pos rfl] at H; exact H)
               clear H
               have H := H1
               clear H1
               replace H := Option.bind_eq_some_iff.mp H
               obtain ⟨t311, A420, H⟩ := H
               replace H : (if (t311.length : Int) > 0 then (some false) else (impl_IsValidInstance.l0 kj15 l0_1 (l0_1.length : Int) (wrap64 (x18_2 + 1)) l0_0 l0_1)) = some r := H
               have A42 := Aside0.mk A420
               clear A420
               by_cases c43 : (t311.length : Int) > 0
               ·rw [if_pos c43] at H
                have c43b0 : decide (0 < (t311.length : Int)) = true := decide_eq_true c43
                have c43b1 : decide (0 < t311.length) = true := decide_eq_true (by omega)
                clear c43
                obtain rfl := Option.some.inj H
                have hnb44 := NB303_306.out
                have hnc44 := NB306_303.out
                have hcz45_0 : wc.cell? ⟨gb303, 0, none⟩ = some (.slice A0_0 l0_0.length c0_0) := (blk_cell BK303.out 0).trans rfl
                have hcz45_1 : wc.cell? ⟨gb303, 1, none⟩ = some (.slice (some ad305) l0_1.length c0_1) := (blk_cell BK303.out 1).trans rfl
                have hfz45_0 := blk_frozen BK303.out 0
                have hfz45_1 := blk_frozen BK303.out 1
                have hcz46_0 : wc.cell? ⟨gb306, 0, none⟩ = some (.int .i64 ((rd_T44 l0_1 x18_2).f0)) := (blk_cell BK306.out 0).trans rfl
                have hcz46_1 : wc.cell? ⟨gb306, 1, none⟩ = some (.slice A305_1 ((rd_T44 l0_1 x18_2).f1).length c305_1) := (blk_cell BK306.out 1).trans rfl
                have hfz46_0 := blk_frozen BK306.out 0
                have hfz46_1 := blk_frozen BK306.out 1
                have p310 : 0 ≤ (((rd_T44 l0_1 x18_2).f0) : Int) := zd
                have q310 : ((rd_T44 l0_1 x18_2).f0) < (l0_0.length : Int) := zd
                obtain ⟨ad310, e310, hx310_0, hx310_1, hx310_2⟩ := at_T62 HR0_0.out ((rd_T44 l0_1 x18_2).f0) p310 q310
                (try rw [← Nbq40.out] at hx310_2)
                (try rw [← Nbq40.out] at hw310_2)
                cases e310
                replace hx310_0 := (HB.out.cell (World.block_lt_of_cell? w _ hx310_0)).trans hx310_0
                replace hx310_1 := (HB.out.cell (World.block_lt_of_cell? w _ hx310_1)).trans hx310_1
                replace hx310_2 := (HB.out.cell (World.block_lt_of_cell? w _ hx310_2)).trans hx310_2
                replace p310 := eq_true p310
                replace q310 := eq_true q310
                go_wp2_with (first | (go_at_call 39; (with_reducible refine (impl_NullsOfFact.calls kj15 ((rd_T44 l0_1 x18_2).f0) _ _ ((rd_T44 l0_1 x18_2).f1) t311 _ ?side1 ?side2 A42.out).mono ?_); (case side1 => exact zc HR305_1.out); (case side2 => exact HC305_1.out); rintro e w47 ⟨v312, rfl, ho0, hb⟩; have n0_ := Aside0.mk (Kd.R_lower ho0 (below_size zl)); have n1_ := Aside0.mk (blk_below (zb BK303.out) hb); have n2_ := Aside0.mk (blk_below (zb BK306.out) hb); have n3_ := Aside0.mk (below_step zl hb); clear BK303; clear BK306; clear HB; have HO313 := n0_; have BK303 := n1_; have BK306 := n2_; have HB := n3_; clear n0_ n1_ n2_ n3_; (try clear hb); (try clear ho0); obtain ⟨Ao48, co48, eo48⟩ := Kd.R_slice HO313.out; subst eo48))
                go_ret
                exact ⟨by first | rfl | (simp [errW_none, errW_some] <;> rfl) | (simp [*, errW_none, errW_some] <;> rfl), zl⟩
               ·rw [if_neg c43] at H
                have c43b0 : decide (0 < (t311.length : Int)) = false := decide_eq_false c43
                have c43b1 : decide (0 < t311.length) = false := decide_eq_false (by omega)
                clear c43
                have H' := Aside0.mk H
                clear H
                have hnb49 := NB303_306.out
                have hnc49 := NB306_303.out
                have hcz50_0 : wc.cell? ⟨gb303, 0, none⟩ = some (.slice A0_0 l0_0.length c0_0) := (blk_cell BK303.out 0).trans rfl
                have hcz50_1 : wc.cell? ⟨gb303, 1, none⟩ = some (.slice (some ad305) l0_1.length c0_1) := (blk_cell BK303.out 1).trans rfl
                have hfz50_0 := blk_frozen BK303.out 0
                have hfz50_1 := blk_frozen BK303.out 1
                have hcz51_0 : wc.cell? ⟨gb306, 0, none⟩ = some (.int .i64 ((rd_T44 l0_1 x18_2).f0)) := (blk_cell BK306.out 0).trans rfl
                have hcz51_1 : wc.cell? ⟨gb306, 1, none⟩ = some (.slice A305_1 ((rd_T44 l0_1 x18_2).f1).length c305_1) := (blk_cell BK306.out 1).trans rfl
                have hfz51_0 := blk_frozen BK306.out 0
                have hfz51_1 := blk_frozen BK306.out 1
                have p310 : 0 ≤ (((rd_T44 l0_1 x18_2).f0) : Int) := zd
                have q310 : ((rd_T44 l0_1 x18_2).f0) < (l0_0.length : Int) := zd
                obtain ⟨ad310, e310, hx310_0, hx310_1, hx310_2⟩ := at_T62 HR0_0.out ((rd_T44 l0_1 x18_2).f0) p310 q310
                (try rw [← Nbq40.out] at hx310_2)
                (try rw [← Nbq40.out] at hw310_2)
                cases e310
                replace hx310_0 := (HB.out.cell (World.block_lt_of_cell? w _ hx310_0)).trans hx310_0
                replace hx310_1 := (HB.out.cell (World.block_lt_of_cell? w _ hx310_1)).trans hx310_1
                replace hx310_2 := (HB.out.cell (World.block_lt_of_cell? w _ hx310_2)).trans hx310_2
                replace p310 := eq_true p310
                replace q310 := eq_true q310
                go_wp2_with (first | (go_at_call 39; (with_reducible refine (impl_NullsOfFact.calls kj15 ((rd_T44 l0_1 x18_2).f0) _ _ ((rd_T44 l0_1 x18_2).f1) t311 _ ?side1 ?side2 A42.out).mono ?_); (case side1 => exact zc HR305_1.out); (case side2 => exact HC305_1.out); rintro e w52 ⟨v312, rfl, ho0, hb⟩; have n0_ := Aside0.mk (Kd.R_lower ho0 (below_size zl)); have n1_ := Aside0.mk (blk_below (zb BK303.out) hb); have n2_ := Aside0.mk (blk_below (zb BK306.out) hb); have n3_ := Aside0.mk (below_step zl hb); clear BK303; clear BK306; clear HB; have HO313 := n0_; have BK303 := n1_; have BK306 := n2_; have HB := n3_; clear n0_ n1_ n2_ n3_; (try clear hb); (try clear ho0); obtain ⟨Ao53, co53, eo53⟩ := Kd.R_slice HO313.out; subst eo53))
                go_roundg kj15
                case measure => have := HJ1.out; have := HK2.out; have := HJ15.out; omega
                case rel => exact ⟨(wrap64 (x18_2 + 1)), (by first | rfl | (simp; done) | (simp [*]; done)), H', ⟨by have := HJ1.out; have := HK2.out; have := HJ15.out; omega⟩, ⟨zb BK303.out⟩, ⟨zl⟩⟩
              ·replace c41 := Bool.eq_false_iff.mpr c41
               subst c41
               have H1 : (impl_IsValidInstance.l0 kj15 l0_1 (l0_1.length : Int) (wrap64 (x18_2 + 1)) l0_0 l0_1) = some r := by first | with_reducible rfl | (rw [if_neg (show ¬ (false = true) by decide)] at H; exact H)
               clear H
               have H := H1
               clear H1
               have H' := Aside0.mk H
               clear H
               have hnb54 := NB303_306.out
               have hnc54 := NB306_303.out
               have hcz55_0 : wc.cell? ⟨gb303, 0, none⟩ = some (.slice A0_0 l0_0.length c0_0) := (blk_cell BK303.out 0).trans rfl
               have hcz55_1 : wc.cell? ⟨gb303, 1, none⟩ = some (.slice (some ad305) l0_1.length c0_1) := (blk_cell BK303.out 1).trans rfl
               have hfz55_0 := blk_frozen BK303.out 0
               have hfz55_1 := blk_frozen BK303.out 1
               have hcz56_0 : wc.cell? ⟨gb306, 0, none⟩ = some (.int .i64 ((rd_T44 l0_1 x18_2).f0)) := (blk_cell BK306.out 0).trans rfl
               have hcz56_1 : wc.cell? ⟨gb306, 1, none⟩ = some (.slice A305_1 ((rd_T44 l0_1 x18_2).f1).length c305_1) := (blk_cell BK306.out 1).trans rfl
               have hfz56_0 := blk_frozen BK306.out 0
               have hfz56_1 := blk_frozen BK306.out 1
               have p310 : 0 ≤ (((rd_T44 l0_1 x18_2).f0) : Int) := zd
               have q310 : ((rd_T44 l0_1 x18_2).f0) < (l0_0.length : Int) := zd
               obtain ⟨ad310, e310, hx310_0, hx310_1, hx310_2⟩ := at_T62 HR0_0.out ((rd_T44 l0_1 x18_2).f0) p310 q310
               (try rw [← Nbq40.out] at hx310_2)
               (try rw [← Nbq40.out] at hw310_2)
               cases e310
               replace hx310_0 := (HB.out.cell (World.block_lt_of_cell? w _ hx310_0)).trans hx310_0
               replace hx310_1 := (HB.out.cell (World.block_lt_of_cell? w _ hx310_1)).trans hx310_1
               replace hx310_2 := (HB.out.cell (World.block_lt_of_cell? w _ hx310_2)).trans hx310_2
               replace p310 := eq_true p310
               replace q310 := eq_true q310
               go_wp2
               go_roundg kj15
               case measure => have := HJ1.out; have := HK2.out; have := HJ15.out; omega
               case rel => exact ⟨(wrap64 (x18_2 + 1)), (by first | rfl | (simp; done) | (simp [*]; done)), H', ⟨by have := HJ1.out; have := HK2.out; have := HJ15.out; omega⟩, ⟨zb BK303.out⟩, ⟨zl⟩⟩
             ·rw [if_neg c39] at H
              exact absurd H (by simp)
            ·rw [if_neg c38] at H
             exact absurd H (by simp)
        ·rw [if_neg c15] at H
         exact absurd H (by simp)
       ·rw [if_neg c14] at H
        exact absurd H (by simp)
      ·rw [if_neg c13] at H
       have c13b0 : decide (x18_2 < (l0_1.length : Int)) = false := decide_eq_false c13
       clear c13
       obtain rfl := Option.some.inj H
       go_wp2
       go_ret
       exact ⟨by first | rfl | (simp [errW_none, errW_some] <;> rfl) | (simp [*, errW_none, errW_some] <;> rfl), zl⟩

/-! ### impl_sameFact: function 66 -/
def impl_sameFact.f (k : Nat) (a0_0 : Int) (l0_1 : List Int) (a1_0 : Int) (l1_1 : List Int) : Option (Bool) := (impl_CompareFacts.f k a0_0 l0_1 a1_0 l1_1).bind fun t316 => (some (t316 == 0))
theorem impl_sameFact.mono : ∀ a0 a1 a2 a3 k, LeO (impl_sameFact.f k a0 a1 a2 a3) (impl_sameFact.f (k + 1) a0 a1 a2 a3) := by
 intro a0 a1 a2 a3 k
 unfold impl_sameFact.f
 repeat' first
   | (with_reducible exact impl_CompareFacts.mono _ _ _ _ _)
   | (with_reducible exact LeO.refl _)
   | (with_reducible exact LeO.none _)
   | (with_reducible refine LeO.ite ?_ ?_)
   | (with_reducible refine LeO.bind ?_ (fun _ => ?_))
   | exact impl_CompareFacts.mono _ _ _ _ _
   | exact LeO.none _
   | refine LeO.ite ?_ ?_
   | refine LeO.bind ?_ (fun _ => ?_)
set_option maxHeartbeats 8000000 in
set_option maxRecDepth 100000 in
theorem impl_sameFact.calls (k : Nat) (a0_0 : Int) (A0_1 : Option Addr) (c0_1 : Nat) (l0_1 : List Int) (a1_0 : Int) (A1_1 : Option Addr) (c1_1 : Nat) (l1_1 : List Int) (r : Bool) (w : World) (hr0_1 : Kd.C (Kd.int .i64) w A0_1 l0_1.length l0_1) (hc0_1 : l0_1.length ≤ c0_1) (hr1_1 : Kd.C (Kd.int .i64) w A1_1 l1_1.length l1_1) (hc1_1 : l1_1.length ≤ c1_1) (h : impl_sameFact.f k a0_0 l0_1 a1_0 l1_1 = some r) :
  Calls Try.prog 66 #[.agg #[.int .i64 a0_0, .slice A0_1 l0_1.length c0_1], .agg #[.int .i64 a1_0, .slice A1_1 l1_1.length c1_1]] w fun e w' => e = .returned (.bool r) ∧ Below w.heap.size w w' := by
 have hu44 := Try.underlying44
 have HR0_1 := Aside0.mk hr0_1
 have HC0_1 := Aside0.mk hc0_1
 clear hr0_1 hc0_1
 have HR1_1 := Aside0.mk hr1_1
 have HC1_1 := Aside0.mk hc1_1
 clear hr1_1 hc1_1
 have HB := Aside0.mk (Below.refl w.heap.size w)
 have H : ((impl_CompareFacts.f k a0_0 l0_1 a1_0 l1_1).bind fun t316 => (some (t316 == 0))) = some r := h
 clear h
 replace H := Option.bind_eq_some_iff.mp H
 obtain ⟨t316, A30, H⟩ := H
 replace H : (some (t316 == 0)) = some r := H
 have A3 := Aside0.mk A30
 clear A30
 obtain rfl := Option.some.inj H
 go_enter Try.func66, Try.ntmps66
 go_wp2_with (first | ((with_reducible refine gate_dst (N := 2) rfl ?_); refine box_event ?hg (N := 2) ?hd (cs := #[.int .i64 a0_0, .slice A0_1 l0_1.length c0_1]) (t := 44) ?hr ?_; (case hd => rfl); (case hg => rfl); (case hr => first | (go_simp; done) | (go_simp; rfl)); intro gb314 hg w4 hbox hb; have BK314 := zm (hbox); have GW314 := zm ((by rw [hg]; exact (below_size zl) : w.heap.size ≤ gb314)); have GE314 := zm ((by rw [hg]; exact (below_size zl) : w.heap.size ≤ gb314)); replace HB := zm (below_step zl hb); clear hb hbox hg) | ((with_reducible refine gate_dst (N := 3) rfl ?_); refine box_event ?hg (N := 3) ?hd (cs := #[.int .i64 a1_0, .slice A1_1 l1_1.length c1_1]) (t := 44) ?hr ?_; (case hd => rfl); (case hg => rfl); (case hr => first | (go_simp; done) | (go_simp; rfl)); intro gb315 hg w5 hbox hb; have BK315 := zm (hbox); have GW315 := zm ((by rw [hg]; exact (below_size zl) : w.heap.size ≤ gb315)); have GE315 := zm ((by rw [hg]; exact (below_size zl) : w.heap.size ≤ gb315)); replace HB := zm (below_step zl hb); have NB314_315 := zm (zl1 hg (zb BK314.out)); have NB315_314 := zm (zl2 hg (zb BK314.out)); replace BK314 := zm (blk_below (zb BK314.out) hb); clear hb hbox hg; have hnb6 := NB314_315.out; have hnc6 := NB315_314.out; have hcz7_0 : w5.cell? ⟨gb314, 0, none⟩ = some (.int .i64 a0_0) := (blk_cell BK314.out 0).trans rfl; have hcz7_1 : w5.cell? ⟨gb314, 1, none⟩ = some (.slice A0_1 l0_1.length c0_1) := (blk_cell BK314.out 1).trans rfl; have hfz7_0 := blk_frozen BK314.out 0; have hfz7_1 := blk_frozen BK314.out 1; have hcz8_0 : w5.cell? ⟨gb315, 0, none⟩ = some (.int .i64 a1_0) := (blk_cell BK315.out 0).trans rfl; have hcz8_1 : w5.cell? ⟨gb315, 1, none⟩ = some (.slice A1_1 l1_1.length c1_1) := (blk_cell BK315.out 1).trans rfl; have hfz8_0 := blk_frozen BK315.out 0; have hfz8_1 := blk_frozen BK315.out 1) | ((with_reducible refine gate_callee (f := 38) rfl ?_); refine zg (some 7) Try.func38 #[.agg #[.int .i64 a0_0, .slice A0_1 l0_1.length c0_1], .agg #[.int .i64 a1_0, .slice A1_1 l1_1.length c1_1]] ?_; (with_reducible refine (impl_CompareFacts.calls k a0_0 _ _ l0_1 a1_0 _ _ l1_1 t316 _ ?side1 ?side2 ?side3 ?side4 A3.out).mono ?_); (case side1 => exact zc HR0_1.out); (case side2 => exact HC0_1.out); (case side3 => exact zc HR1_1.out); (case side4 => exact HC1_1.out); rintro e w9 ⟨rfl, hb⟩; refine ⟨_, rfl, ?_⟩; replace BK314 := zm (blk_below (zb BK314.out) hb); replace BK315 := zm (blk_below (zb BK315.out) hb); replace HB := zm (below_step zl hb); (try clear hb)))
 go_ret
 exact ⟨by first | rfl | (simp [errW_none, errW_some] <;> rfl) | (simp [*, errW_none, errW_some] <;> rfl), zl⟩

end Go.Proofs.Ytjphbdnfbkfgiab.PFnExactContainsFact
