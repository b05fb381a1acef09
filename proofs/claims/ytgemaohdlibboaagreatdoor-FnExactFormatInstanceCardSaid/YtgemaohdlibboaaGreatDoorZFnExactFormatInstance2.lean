/- Walks and plain laws for the law FnExactFormatInstance, part 2 of 3: the texts HF2, HL1, HL3, HL2, HL4, HL5, HL6, HL7, HO2, HF3, HF4, HF5, HC2, HF6, HB4, HB5, HB6 in one. No condition. -/
import Derived.Test.YtgemaohdlibboaaGreatDoorShelf
import Derived.Maps.AppendAt
import Derived.Lib.SliceRun
import Derived.Test.YtgemaohdlibboaaGreatDoorZFnExactFormatInstance1
/- Walks: numbers and values, written and read, on both sides. No condition. -/
namespace Go.Proofs.YtgemaohdlibboaaGreatDoor.H
open Go Go.RowKit Go.Proofs.YtgemaohdlibboaaGreatDoorW.PrintWords Go.Proofs.YtgemaohdlibboaaGreatDoorW.PrintLast
open Go.Proofs.YtgemaohdlibboaaGreatDoor.Reg (On on_draw)
set_option maxHeartbeats 4000000
set_option maxRecDepth 100000
set_option linter.unusedVariables false
set_option linter.unusedSimpArgs false

theorem iFormatInt_calls (w : World) (x : Int) (h0 : 0 ≤ x) (h1 : x < 100) : Calls Tryz.prog 107 #[.int .i64 x] w fun e w' => e = .returned (.string (strB (Lib.itoa x))) ∧ On w w' := by
  obtain ⟨n, rfl⟩ := Int.eq_ofNat_of_zero_le h0
  have e : strB (Lib.itoa (n : Int)) = ⟨(Lib.decDigits n).toArray⟩ := by unfold strB Lib.itoa; rw [if_neg (by omega)]; simp
  rw [e]
  go_enter Tryz.func107, Tryz.ntmps107
  go_wp2_with (go_at_call 166; refine (Tryz.strconv_Itoa_small n (by omega) _).mono ?_; rintro e w1 ⟨rfl, rfl⟩)
  go_ret
  exact ⟨rfl, On.refl _⟩
theorem digits_step (u : Nat) (h : 10 ≤ u) : Lib.decDigits u = Lib.decDigits (u / 10) ++ [UInt8.ofNat (48 + u % 10)] := by rw [Lib.decDigits, dif_neg (by omega)]
theorem digits_one (u : Nat) (h : u < 10) : Lib.decDigits u = [UInt8.ofNat (48 + u)] := by rw [Lib.decDigits, dif_pos h]
theorem str_one (d : Nat) : strOfNums [((48 + d : Nat) : Int) % 256] = strB [UInt8.ofNat (48 + d)] := by
  have e1 : (((48 + d : Nat) : Int) % 256).toNat = (48 + d) % 256 := by omega
  have e2 : UInt8.ofNat ((48 + d) % 256) = UInt8.ofNat (48 + d) := by apply UInt8.toNat_inj.1; simp
  unfold strOfNums strB
  simp only [List.map_cons, List.map_nil, e1, e2]
theorem sFormatInt_calls (w : World) (x : Int) (h0 : 0 ≤ x) (h1 : x < 100) : Calls Tryz.prog 162 #[.int .i64 x] w fun e w' => e = .returned (.string (strB (Lib.itoa x))) ∧ On w w' := by
  obtain ⟨u, rfl⟩ := Int.eq_ofNat_of_zero_le h0
  by_cases c : u = 0
  · subst c
    go_enter Tryz.func162, Tryz.ntmps162
    go_wp2
    go_ret
    exact ⟨by rw [itoa_small (by omega) (by omega)]; rfl, On.refl _⟩
  · have b0 : ((u : Int) == 0) = false := beq_eq_false_iff_ne.mpr (by omega)
    have b1 : ((u : Int) != 0) = true := bne_iff_ne.mpr (by omega)
    have bn : decide ((u : Int) < 0) = false := decide_eq_false (by omega)
    have hit := Aside0.mk (show Lib.itoa (u : Int) = Lib.decDigits u by unfold Lib.itoa; rw [if_neg (by omega)]; simp)
    have hu := Aside0.mk (show u < 100 by omega)
    have hc := Aside0.mk c
    clear h0 h1 c
    go_enter Tryz.func162, Tryz.ntmps162
    go_wp2
    clear b0 b1
    go_loopw [0, 3] (fun v0 v3 wr => ∃ (n : Nat) (o : List UInt8), v0 = .int .i64 n ∧ v3 = .string (strB o) ∧ n < 100 ∧ o.length ≤ 2 ∧ Aside0 ((n = u ∧ o = []) ∨ (10 ≤ u ∧ n = u / 10 ∧ o = [UInt8.ofNat (48 + u % 10)]) ∨ (n = 0 ∧ o = Lib.decDigits u)) ∧ On w wr) (fun v0 _ _ => (intOf v0).toNat)
    case atStart => exact ⟨u, [], rfl, rfl, hu.out, by simp, ⟨.inl ⟨rfl, rfl⟩⟩, On.refl _⟩
    case round =>
      obtain ⟨n, o, rfl, rfl, hn, ho, hd, hB⟩ := hrel
      have hB' := Aside0.mk hB
      have hd' := Aside0.mk hd.out
      have hn' := Aside0.mk hn
      have ho' := Aside0.mk ho
      clear hd hB hn ho
      by_cases c : n = 0
      · subst c
        go_wp2
        go_ret
        refine ⟨by rw [hit.out]; rcases hd'.out with ⟨h, _⟩ | ⟨h, h2, _⟩ | ⟨_, h⟩; (have := hc.out; omega); omega; (rw [h]; rfl), hB'.out⟩
      · have c0 : ((n : Int) == 0) = false := beq_eq_false_iff_ne.mpr (by omega)
        have c1 : ((n : Int) != 0) = true := bne_iff_ne.mpr (by omega)
        have c2 : ((n : Int) = 0) = False := eq_false (by omega)
        have hm : Int.tmod (n : Int) 10 = ((n % 10 : Nat) : Int) := rfl
        have hq : wrap64 ((n : Int) / 10) = ((n / 10 : Nat) : Int) := by rw [IntWalk.wrap64_in _ (by have := hn'.out; omega)]; omega
        have hs : decide (((n % 10 : Nat) : Int) < 0) = false := decide_eq_false (by omega)
        have hcc := Aside0.mk c
        have hw1 : wrap64 (48 + ((n % 10 : Nat) : Int)) = ((48 + n % 10 : Nat) : Int) := by rw [IntWalk.wrap64_in _ (by omega)]; omega
        have h1 := str_one (n % 10)
        obtain ⟨dg, hdg⟩ : ∃ dg, UInt8.ofNat (48 + n % 10) = dg := ⟨_, rfl⟩
        rw [hdg] at h1
        have hdg' := Aside0.mk hdg
        have hsz : decide ((strB [dg]).size + (strB o).size ≤ 9223372036854775807) = true := decide_eq_true (by rw [strB_size, strB_size]; have := ho'.out; simp; omega)
        have hsy := eq_true (of_decide_eq_true hsz)
        have hsn : (9223372036854775807 < (strB [dg]).size + (strB o).size) = False := eq_false (Nat.not_lt.2 (of_decide_eq_true hsz))
        clear c hdg
        have hcv : (convert 31 9 (.slice (some ⟨wr.heap.size, 0, none⟩) 1 1)).run Tryz.prog (wr.alloc (.cells #[.int .u8 (48 + (n : Int) % 10)] 5 (0, 0))) = .ok (.string (strB [dg])) (wr.alloc (.cells #[.int .u8 (48 + (n : Int) % 10)] 5 (0, 0))) := by
          have h := own_string (P := Tryz.prog) (xs := [48 + (n : Int) % 10]) Tryz.underlying31 Tryz.underlying5 Tryz.underlying9 (World.ownsRow_lit (base := wr.heap.size) (e := 5) (size := 1) wr #[.int .u8 (48 + (n : Int) % 10)] 1 (Nat.le_refl _) (by simp [maxLen]) (by simp))
          rw [h, ← h1, show ((48 + n % 10 : Nat) : Int) % 256 = 48 + (n : Int) % 10 by omega]
        have hB9 := Aside0.mk (hB'.out.trans (On.alloc (On.refl _) (.cells #[.int .u8 (48 + (n : Int) % 10)] 5 (0, 0))))
        clear h1
        go_wp2
        have hn1 := hn'.out
        have ho1 := ho'.out
        have hd2 := hdg'.out
        refine ⟨⟨n / 10, dg :: o, by rw [hq], by rw [strB_append]; rfl, by omega, ?_, ⟨?_⟩, hB9.out⟩, by rw [hq]; simp [intOf]; have := hcc.out; omega⟩
        · rcases hd'.out with ⟨h, h2⟩ | ⟨h, h2, h3⟩ | ⟨h, h2⟩
          · rw [h2]; simp
          · rw [h3]; simp
          · exact absurd h hcc.out
        · rcases hd'.out with ⟨h, h2⟩ | ⟨h, h2, h3⟩ | ⟨h, h2⟩
          · subst h2
            by_cases d : u < 10
            · refine .inr (.inr ⟨by omega, ?_⟩)
              rw [digits_one u d, ← hd2, h, Nat.mod_eq_of_lt d]
            · exact .inr (.inl ⟨by omega, by rw [h], by rw [← hd2, h]⟩)
          · refine .inr (.inr ⟨by have := hu.out; omega, ?_⟩)
            rw [h3, digits_step u h, digits_one (u / 10) (by have := hu.out; omega), ← hd2, h2, Nat.mod_eq_of_lt (by have := hu.out; omega)]; rfl
          · exact absurd h hcc.out
theorem fvL_nul {v : Int} (h : isNul v = true) : fvL v = 110 :: Lib.itoa (-1 - v) := by unfold fvL; rw [if_pos h]
theorem fvL_pos {v : Int} (h : isNul v = false) (h1 : 0 ≤ v ∧ v ≤ 9) : fvL v = Lib.itoa v := by unfold fvL; rw [h, if_neg (by simp), if_pos h1]
theorem fvL_not {v : Int} (h : okVal v = false) : fvL v = [] := by
  simp only [okVal, decide_eq_false_iff_not] at h
  unfold fvL
  rw [if_neg (by simp only [isNul, decide_eq_true_eq]; omega), if_neg (by omega)]
theorem cat_n (l : List UInt8) : (⟨#[110]⟩ : ByteArray) ++ strB l = strB (110 :: l) := by rw [show (⟨#[110]⟩ : ByteArray) = strB [110] from rfl, strB_append]; rfl
theorem iIsNull_calls (w : World) (v : Int) : Calls Tryz.prog 161 #[.int .i64 v] w fun e w' => e = .returned (.bool (decide (v < 0))) ∧ On w w' := by
  go_enter Tryz.func161, Tryz.ntmps161
  go_wp2
  go_ret
  exact ⟨rfl, On.refl _⟩
theorem iFormatValue_calls (w : World) (v : Int) (hv : -9223372036854775808 ≤ v ∧ v ≤ 9223372036854775807) : Calls Tryz.prog 95 #[.int .i64 v] w fun e w' => e = .returned (.string (strB (fvL v))) ∧ On w w' := by
  cases ho : okVal v with
  | false =>
    have ho' := Aside0.mk ho
    clear ho
    go_enter Tryz.func95, Tryz.ntmps95
    go_wp2_with (go_at_call 92; refine (iIsValidValue_calls _ _).mono ?_; rintro e w1 ⟨rfl, hb1⟩; rw [ho'.out])
    go_ret
    exact ⟨by rw [fvL_not ho'.out]; rfl, hb1⟩
  | true =>
    have ho' := Aside0.mk ho
    have hbd : -40 ≤ v ∧ v ≤ 9 := by simpa [okVal] using ho
    clear ho
    by_cases c : v < 0
    · have cb : decide (v < 0) = true := decide_eq_true c
      have hn := Aside0.mk (show isNul v = true by simp [isNul]; omega)
      have hbd' := Aside0.mk hbd
      have hwr : IntKind.i64.wrap (-1 - v) = -1 - v := IntWalk.i64_in _ (by omega)
      have hl := (itoa_bytes (u := -1 - v) (by omega) (by omega)).2.2
      have hsz := eq_true (show 1 + (strB (Lib.itoa (-1 - v))).size ≤ 9223372036854775807 by rw [strB_size]; omega)
      have hsn : (9223372036854775807 < 1 + (strB (Lib.itoa (-1 - v))).size) = False := eq_false (by rw [strB_size]; omega)
      have hc' := Aside0.mk c
      clear hbd c hl
      go_enter Tryz.func95, Tryz.ntmps95
      go_wp2_with (first | (go_at_call 92; refine (iIsValidValue_calls _ _).mono ?_; rintro e w1 ⟨rfl, hb1⟩; rw [ho'.out]) | (go_at_call 161; refine (iIsNull_calls _ _).mono ?_; rintro e w2 ⟨rfl, hb2⟩; rw [cb]) | (go_at_call 107; refine (iFormatInt_calls _ (-1 - v) (by have := hbd'.out; have := hc'.out; omega) (by have := hbd'.out; omega)).mono ?_; rintro e w3 ⟨rfl, hb3⟩))
      go_ret
      exact ⟨by rw [fvL_nul hn.out, ← cat_n]; rfl, (hb1.trans hb2).trans hb3⟩
    · have cb : decide (v < 0) = false := decide_eq_false c
      have hn := Aside0.mk (show isNul v = false by simp [isNul]; omega)
      have hbd' := Aside0.mk hbd
      have hc' := Aside0.mk c
      clear hbd c
      go_enter Tryz.func95, Tryz.ntmps95
      go_wp2_with (first | (go_at_call 92; refine (iIsValidValue_calls _ _).mono ?_; rintro e w1 ⟨rfl, hb1⟩; rw [ho'.out]) | (go_at_call 161; refine (iIsNull_calls _ _).mono ?_; rintro e w2 ⟨rfl, hb2⟩; rw [cb]) | (go_at_call 107; refine (iFormatInt_calls _ v (by have := hc'.out; omega) (by have := hbd'.out; omega)).mono ?_; rintro e w3 ⟨rfl, hb3⟩))
      go_ret
      exact ⟨by rw [fvL_pos hn.out (by have := hbd'.out; have := hc'.out; omega)]; rfl, (hb1.trans hb2).trans hb3⟩
theorem sFormatValue_calls (w : World) (v : Int) (hv : -9223372036854775808 ≤ v ∧ v ≤ 9223372036854775807) : Calls Tryz.prog 96 #[.int .i64 v] w fun e w' => e = .returned (.string (strB (fvL v))) ∧ On w w' := by
  cases ho : isNul v with
  | true =>
    have ho' := Aside0.mk ho
    have hbd := Aside0.mk (show -40 ≤ v ∧ v ≤ -1 by simpa [isNul] using ho)
    have hnn := Aside0.mk (show nulNum v = -1 - v by unfold nulNum; rw [if_pos ho])
    have hl := (itoa_bytes (u := -1 - v) (by have := hbd.out; omega) (by have := hbd.out; omega)).2.2
    have hsz := eq_true (show 1 + (strB (Lib.itoa (-1 - v))).size ≤ 9223372036854775807 by rw [strB_size]; omega)
    have hsn : (9223372036854775807 < 1 + (strB (Lib.itoa (-1 - v))).size) = False := eq_false (by rw [strB_size]; omega)
    have hv' := Aside0.mk hv
    clear ho hl hv
    go_enter Tryz.func96, Tryz.ntmps96
    go_wp2_with (first | (go_at_call 146; refine (NullNumber_calls _ _ hv'.out.1).mono ?_; rintro e w1 ⟨rfl, hb1⟩; rw [ho'.out, hnn.out]) | (go_at_call 162; refine (sFormatInt_calls _ (-1 - v) (by have := hbd.out; omega) (by have := hbd.out; omega)).mono ?_; rintro e w3 ⟨rfl, hb3⟩))
    go_ret
    exact ⟨by rw [fvL_nul ho'.out, ← cat_n]; rfl, hb1.trans hb3⟩
  | false =>
    have ho' := Aside0.mk ho
    have hv' := Aside0.mk hv
    have hnn := Aside0.mk (show nulNum v = 0 by unfold nulNum; rw [if_neg (by simp [ho])])
    clear ho hv
    by_cases c : 0 ≤ v ∧ v ≤ 9
    · have hc' := Aside0.mk c
      have hw := Aside0.mk (show within v 0 9 = true from decide_eq_true c)
      clear c
      go_enter Tryz.func96, Tryz.ntmps96
      go_wp2_with (first | (go_at_call 146; refine (NullNumber_calls _ _ hv'.out.1).mono ?_; rintro e w1 ⟨rfl, hb1⟩; rw [ho'.out, hnn.out]) | (go_at_call 93; refine (l1In_calls _ _ _ _).mono ?_; rintro e w2 ⟨rfl, hb2⟩; rw [hw.out]) | (go_at_call 162; refine (sFormatInt_calls _ v (by have := hc'.out; omega) (by have := hc'.out; omega)).mono ?_; rintro e w3 ⟨rfl, hb3⟩))
      go_ret
      exact ⟨by rw [fvL_pos ho'.out hc'.out]; rfl, (hb1.trans hb2).trans hb3⟩
    · have hc' := Aside0.mk c
      have hw := Aside0.mk (show within v 0 9 = false from decide_eq_false c)
      clear c
      go_enter Tryz.func96, Tryz.ntmps96
      go_wp2_with (first | (go_at_call 146; refine (NullNumber_calls _ _ hv'.out.1).mono ?_; rintro e w1 ⟨rfl, hb1⟩; rw [ho'.out, hnn.out]) | (go_at_call 93; refine (l1In_calls _ _ _ _).mono ?_; rintro e w2 ⟨rfl, hb2⟩; rw [hw.out]))
      go_ret
      exact ⟨by rw [fvL_not (by simp only [okVal, decide_eq_false_iff_not]; have h1 := ho'.out; simp only [isNul, decide_eq_false_iff_not] at h1; have := hc'.out; omega)]; rfl, hb1.trans hb2⟩
end Go.Proofs.YtgemaohdlibboaaGreatDoor.H
/- Walks: the laws' own helpers: how large, copies. No condition. -/
namespace Go.Proofs.YtgemaohdlibboaaGreatDoor.H
open Go Go.RowKit Go.Proofs.YtgemaohdlibboaaGreatDoorW.PrintWords Go.Proofs.YtgemaohdlibboaaGreatDoorW.PrintLast
open Go.Proofs.YtgemaohdlibboaaGreatDoor.Reg (On on_draw)
set_option maxHeartbeats 1000000
set_option maxRecDepth 100000
set_option linter.unusedVariables false
set_option linter.unusedSimpArgs false

/-- How much relations and facts weigh. -/
def wR (rs : List Rel) : Nat := (rs.map fun r => r.1.size + 1).sum
def wF (fs : List Fct) : Nat := (fs.map fun f => f.2.length + 1).sum
theorem wR_take (rs : List Rel) (k : Nat) (h : k < rs.length) : wR (rs.take (k + 1)) = wR (rs.take k) + (rs[k].1.size + 1) := by
  unfold wR; rw [List.take_succ_eq_append_getElem h, List.map_append, List.sum_append]; simp only [List.map_cons, List.map_nil, List.sum_cons, List.sum_nil, Nat.add_zero]
theorem wF_take (fs : List Fct) (k : Nat) (h : k < fs.length) : wF (fs.take (k + 1)) = wF (fs.take k) + (fs[k].2.length + 1) := by
  unfold wF; rw [List.take_succ_eq_append_getElem h, List.map_append, List.sum_append]; simp only [List.map_cons, List.map_nil, List.sum_cons, List.sum_nil, Nat.add_zero]
/-- A measure was taken: what is left, if anything. -/
structure Sz (n : Int) (m : Nat) (w : World) (e : Ending) (w' : World) : Prop where mk :: (out : ∃ q : Int, e = .returned (.int .i64 q) ∧ (0 ≤ q → q + m ≤ n) ∧ On w w')
theorem szRelation_calls (w : World) (r : Rel) (n : Int) (h0 : 0 ≤ n) (h1 : n ≤ 2000000) (hs : r.1.size ≤ 9223372036854775807) : Calls Tryz.prog 173 #[.agg #[.string r.1, .int .i64 r.2.1, .bool r.2.2], .int .i64 n] w (Sz n r.1.size w) := by
  have hw : IntKind.i64.wrap (n - (r.1.size : Int)) = n - r.1.size := IntWalk.i64_in _ (by omega)
  by_cases h : n - (r.1.size : Int) < 0
  · have hb : decide (n - (r.1.size : Int) < 0) = true := decide_eq_true h
    have hb2 : decide (n < (r.1.size : Int)) = true := decide_eq_true (by omega)
    go_enter Tryz.func173, Tryz.ntmps173
    go_wp2
    go_ret
    exact ⟨_, rfl, fun h => by omega, On.alloc (On.refl _) _⟩
  · have hb : decide (n - (r.1.size : Int) < 0) = false := decide_eq_false h
    have hb2 : decide (n < (r.1.size : Int)) = false := decide_eq_false (by omega)
    go_enter Tryz.func173, Tryz.ntmps173
    go_wp2
    go_ret
    exact ⟨_, rfl, fun h => by omega, On.alloc (On.refl _) _⟩
theorem szIntS_calls (w : World) (A c) (xs : List Int) (n : Int) (h0 : 0 ≤ n) (h1 : n ≤ 2000000) (h : Ints w A c xs) : Calls Tryz.prog 200 #[.slice A xs.length c, .int .i64 n] w (Sz n xs.length w) := by
  have hmax := h.max
  have hw : IntKind.i64.wrap (n - (xs.length : Int)) = n - xs.length := IntWalk.i64_in _ (by omega)
  by_cases h : n - (xs.length : Int) < 0
  · have hb : decide (n - (xs.length : Int) < 0) = true := decide_eq_true h
    have hb2 : decide (n < (xs.length : Int)) = true := decide_eq_true (by omega)
    go_enter Tryz.func200, Tryz.ntmps200
    go_wp2
    go_ret
    exact ⟨_, rfl, fun h => by omega, On.refl _⟩
  · have hb : decide (n - (xs.length : Int) < 0) = false := decide_eq_false h
    have hb2 : decide (n < (xs.length : Int)) = false := decide_eq_false (by omega)
    go_enter Tryz.func200, Tryz.ntmps200
    go_wp2
    go_ret
    exact ⟨_, rfl, fun h => by omega, On.refl _⟩
theorem szFact_calls (w : World) (A c) (f : Fct) (n : Int) (h0 : 0 ≤ n) (h1 : n ≤ 2000000) (h : Ints w A c f.2) : Calls Tryz.prog 174 #[.agg #[.int .i64 f.1, .slice A f.2.length c], .int .i64 n] w (Sz n f.2.length w) := by
  have hb := Aside0.mk (On.alloc (On.refl w) (.cells #[.int .i64 f.1, .slice A f.2.length c] 172))
  go_enter Tryz.func174, Tryz.ntmps174
  go_wp2_with (go_at_call 200; refine (szIntS_calls _ _ _ f.2 _ h0 h1 (h.on hb.out)).mono ?_; rintro e w1 ⟨q, rfl, hq, hb1⟩)
  all_goals
    go_ret
    exact ⟨_, rfl, fun h => by first | exact hq (by omega) | omega, hb.out.trans hb1⟩
theorem szRelationS_calls (w : World) (A c) (rs : List Rel) (n : Int) (h0 : 0 ≤ n) (h1 : n ≤ 2000000) (h : Rels w A c rs) (hsz : ∀ r ∈ rs, r.1.size ≤ 9223372036854775807) : Calls Tryz.prog 125 #[.slice A rs.length c, .int .i64 n] w (Sz n (wR rs) w) := by
  have hmax := h.max
  have hw : IntKind.i64.wrap (n - (rs.length : Int)) = n - rs.length := IntWalk.i64_in _ (by omega)
  by_cases hn : n - (rs.length : Int) < 0
  · have hb : decide (n - (rs.length : Int) < 0) = true := decide_eq_true hn
    have hb2 : decide (n < (rs.length : Int)) = true := decide_eq_true (by omega)
    go_enter Tryz.func125, Tryz.ntmps125
    go_wp2
    go_ret
    exact ⟨_, rfl, fun h => by omega, On.refl _⟩
  · have hb : decide (n - (rs.length : Int) < 0) = false := decide_eq_false hn
    have hb2 : decide (n < (rs.length : Int)) = false := decide_eq_false (by omega)
    go_enter Tryz.func125, Tryz.ntmps125
    go_wp2
    go_loopw [5, 1] (fun v5 v1 wr => ∃ (k : Nat) (m : Int), k ≤ rs.length ∧ v5 = .int .i64 k ∧ v1 = .int .i64 m ∧ 0 ≤ m ∧ Aside0 (m + wR (rs.take k) + (rs.length - k) ≤ n) ∧ On w wr) (fun v5 _ _ => rs.length - (intOf v5).toNat)
    case atStart => exact ⟨0, _, Nat.zero_le _, rfl, rfl, by omega, ⟨by simp [wR]⟩, On.refl _⟩
    case round =>
      obtain ⟨k, m, hk, rfl, rfl, hm, hp, hB⟩ := hrel
      by_cases hlt : k < rs.length
      · obtain ⟨ad, rfl, hx0, hx1, hx2⟩ := (h.on hB).at k hlt
        have hst := Aside0.mk (wR_take rs k hlt)
        have hmn := Aside0.mk (show m ≤ n by have := hp.out; omega)
        have hsr := hsz _ (List.getElem_mem hlt)
        have hrest := Aside0.mk (show m + wR (rs.take (k + 1)) + (rs.length - (k + 1 : Nat)) ≤ n + rs[k].1.size by have := hp.out; have := hst.out; omega)
        clear hp
        go_wp2_with (go_at_call 173; refine (szRelation_calls wr rs[k] m hm (by have := hmn.out; omega) hsr).mono ?_; rintro e w3 ⟨q, rfl, hq0, hb3⟩; have hq := Aside0.mk hq0; clear hq0; by_cases hneg : q < 0)
        · go_ret
          exact ⟨_, rfl, fun h => by omega, hB.trans hb3⟩
        · go_roundw
          case rel => exact ⟨k + 1, q, by omega, by go_num, rfl, by omega, ⟨by have := hrest.out; have := hq.out (by omega); omega⟩, hB.trans hb3⟩
          case measure => simp [intOf]; omega
      · go_wp2
        go_ret
        refine ⟨_, rfl, fun h => ?_, hB⟩
        have h1 := hp.out
        rw [List.take_of_length_le (by omega)] at h1
        omega
theorem toRelation_calls (w : World) (r : Rel) : Calls Tryz.prog 175 #[.agg #[.string r.1, .int .i64 r.2.1, .bool r.2.2]] w fun e w' => e = .returned (.agg #[.string r.1, .int .i64 r.2.1, .bool r.2.2]) ∧ On w w' := by
  go_enter Tryz.func175, Tryz.ntmps175
  go_wp2
  refine bodyPost_ret (retR rfl rfl (g := w.heap.size + 1) (by have := heap_alloc2_old (w.alloc (.cells #[.string r.1, .int .i64 r.2.1, .bool r.2.2] 170)) (.cells #[.string r.1, .int .i64 r.2.1, .bool r.2.2] 95) (.cells #[.string r.1, .int .i64 r.2.1, .bool r.2.2] 95); simpa using this) rfl) rfl ?_
  exact ⟨rfl, On.alloc (On.alloc (On.alloc (On.refl _) _) _) _⟩
theorem toIntS_calls (w : World) (A c) (xs : List Int) (h : Ints w A c xs) (hl : xs.length ≤ 2000000) : Calls Tryz.prog 201 #[.slice A xs.length c] w (Got fun v w' => OI w' w.heap.size v xs ∧ On w w') := by
  go_enter Tryz.func201, Tryz.ntmps201
  go_wp2_with (refine gate 7 ?_)
  refine ⟨mkRow 7 (m := xs.length) Tryz.underlying39 infoI rfl (by omega) (by omega) fun hO => ?_⟩
  have hB := On.alloc (On.refl w) (.cells (madeCells (Value.int .i64 0).cells (xs.length * 1)) 3)
  obtain ⟨w1, hw1⟩ : ∃ w1, w.alloc (.cells (madeCells (Value.int .i64 0).cells (xs.length * 1)) 3) = w1 := ⟨_, rfl⟩
  rw [hw1] at hO hB ⊢
  clear hw1
  have hO' := Aside0.mk hO
  clear hO
  go_wp2
  go_loopw [4] (fun v wr => ∃ (k : Nat) (cs : List Value), k ≤ xs.length ∧ v = .int .i64 k ∧ Aside0 (wr.ownsRow w.heap.size 3 1 (.slice (some ⟨w.heap.size, 0, none⟩) xs.length xs.length) xs.length ((xs.take k).flatMap encI ++ cs)) ∧ On w wr) (fun v _ => xs.length - (intOf v).toNat)
  case atStart => exact ⟨0, _, Nat.zero_le _, rfl, by simpa using hO', hB⟩
  case round =>
    obtain ⟨k, cs, hk, rfl, hO, hB⟩ := hrel
    by_cases hlt : k < xs.length
    · obtain ⟨ad, rfl, hx⟩ := (h.on hB).at k hlt
      have hcl := Aside0.mk (show 0 < cs.length by have := hO.out.1; simp [flat_len (enc := encI) (sz := 1) (fun _ => rfl)] at this; omega)
      have hfz : wr.frozen? ⟨w.heap.size, k, none⟩ = false := own_frozen hO.out k
      obtain ⟨z, hz⟩ := own_some hO.out k (by omega)
      have hO2 := hO
      clear hO
      go_wp2
      obtain ⟨z0, cs', rfl⟩ : ∃ z0 cs', cs = z0 :: cs' := by
        cases cs with
        | nil => exact absurd hcl.out (by simp)
        | cons a b => exact ⟨a, b, rfl⟩
      refine ⟨⟨k + 1, cs', by omega, by go_num, ⟨?_⟩, Reg.On.set hB (Nat.le_refl _) _⟩, by simp [intOf]; omega⟩
      have := (hO2.out.stored k (.int .i64 xs[k])).1
      rw [set1 k (by simp [flat_len (enc := encI) (sz := 1) (fun _ => rfl)]; omega)] at this
      rw [flat_take_succ xs k hlt, List.append_assoc]
      exact this
    · have hO2 := hO
      clear hO
      go_wp2
      go_ret
      refine ⟨_, rfl, ?_, hB⟩
      have h1 := hO2.out
      have h2 := h1.1
      rw [List.take_of_length_le (by omega)] at h1 h2
      have h3 : cs = [] := by
        rw [List.length_append, flat_len (enc := encI) (sz := 1) (fun _ => rfl)] at h2
        exact List.eq_nil_of_length_eq_zero (by omega)
      subst h3
      rw [List.append_nil] at h1
      exact h1
theorem szFactS_calls (w : World) (A c) (fs : List Fct) (n : Int) (h0 : 0 ≤ n) (h1 : n ≤ 2000000) (h : Fcts w A c fs) : Calls Tryz.prog 126 #[.slice A fs.length c, .int .i64 n] w (Sz n (wF fs) w) := by
  have hmax := h.max
  have hw : IntKind.i64.wrap (n - (fs.length : Int)) = n - fs.length := IntWalk.i64_in _ (by omega)
  by_cases hn : n - (fs.length : Int) < 0
  · have hb : decide (n - (fs.length : Int) < 0) = true := decide_eq_true hn
    have hb2 : decide (n < (fs.length : Int)) = true := decide_eq_true (by omega)
    go_enter Tryz.func126, Tryz.ntmps126
    go_wp2
    go_ret
    exact ⟨_, rfl, fun h => by omega, On.refl _⟩
  · have hb : decide (n - (fs.length : Int) < 0) = false := decide_eq_false hn
    have hb2 : decide (n < (fs.length : Int)) = false := decide_eq_false (by omega)
    go_enter Tryz.func126, Tryz.ntmps126
    go_wp2
    go_loopw [5, 1] (fun v5 v1 wr => ∃ (k : Nat) (m : Int), k ≤ fs.length ∧ v5 = .int .i64 k ∧ v1 = .int .i64 m ∧ 0 ≤ m ∧ Aside0 (m + wF (fs.take k) + (fs.length - k) ≤ n) ∧ On w wr) (fun v5 _ _ => fs.length - (intOf v5).toNat)
    case atStart => exact ⟨0, _, Nat.zero_le _, rfl, rfl, by omega, ⟨by simp [wF]⟩, On.refl _⟩
    case round =>
      obtain ⟨k, m, hk, rfl, rfl, hm, hp, hB⟩ := hrel
      by_cases hlt : k < fs.length
      · obtain ⟨ad, A1, c1, rfl, hx0, hx1, hx2⟩ := (h.on hB).at k hlt
        have hst := Aside0.mk (wF_take fs k hlt)
        have hmn := Aside0.mk (show m ≤ n by have := hp.out; omega)
        have hrest := Aside0.mk (show m + wF (fs.take (k + 1)) + (fs.length - (k + 1 : Nat)) ≤ n + fs[k].2.length by have := hp.out; have := hst.out; omega)
        clear hp
        go_wp2_with (go_at_call 174; refine (szFact_calls wr A1 c1 fs[k] m hm (by have := hmn.out; omega) hx2).mono ?_; rintro e w3 ⟨q, rfl, hq0, hb3⟩; have hq := Aside0.mk hq0; clear hq0; by_cases hneg : q < 0)
        · go_ret
          exact ⟨_, rfl, fun h => by omega, hB.trans hb3⟩
        · go_roundw
          case rel => exact ⟨k + 1, q, by omega, by go_num, rfl, by omega, ⟨by have := hrest.out; have := hq.out (by omega); omega⟩, hB.trans hb3⟩
          case measure => simp [intOf]; omega
      · go_wp2
        go_ret
        refine ⟨_, rfl, fun h => ?_, hB⟩
        have h1 := hp.out
        rw [List.take_of_length_le (by omega)] at h1
        omega
end Go.Proofs.YtgemaohdlibboaaGreatDoor.H
/- Walks: the laws' own copies. No condition. -/
namespace Go.Proofs.YtgemaohdlibboaaGreatDoor.H
open Go Go.RowKit Go.Proofs.YtgemaohdlibboaaGreatDoorW.PrintWords Go.Proofs.YtgemaohdlibboaaGreatDoorW.PrintLast
open Go.Proofs.YtgemaohdlibboaaGreatDoor.Reg (On on_draw)
set_option maxHeartbeats 1000000
set_option maxRecDepth 100000
set_option linter.unusedVariables false
set_option linter.unusedSimpArgs false

theorem toRelationS_calls (w : World) (A c) (rs : List Rel) (h : Rels w A c rs) (hl : rs.length ≤ 2000000) : Calls Tryz.prog 127 #[.slice A rs.length c] w (Got fun v w' => OR w' w.heap.size v rs ∧ On w w') := by
  go_enter Tryz.func127, Tryz.ntmps127
  go_wp2_with (refine gate 7 ?_)
  refine ⟨mkRow 7 (m := rs.length) Tryz.underlying22 infoR rfl (by omega) (by omega) fun hO => ?_⟩
  obtain ⟨cs0, hcs0⟩ : ∃ cs0, madeCells (Value.agg #[.string ⟨#[]⟩, .int .i64 0, .bool false]).cells (rs.length * 3) = cs0 := ⟨_, rfl⟩
  rw [hcs0] at hO ⊢
  clear hcs0
  have hB := On.alloc (On.refl w) (.cells cs0 95)
  obtain ⟨w1, hw1⟩ : ∃ w1, w.alloc (.cells cs0 95) = w1 := ⟨_, rfl⟩
  rw [hw1] at hO hB ⊢
  clear hw1
  have hO' := Aside0.mk hO
  clear hO
  go_wp2
  go_loopw [4] (fun v wr => ∃ (k : Nat) (cs : List Value), k ≤ rs.length ∧ v = .int .i64 k ∧ Aside0 (wr.ownsRow w.heap.size 95 3 (.slice (some ⟨w.heap.size, 0, none⟩) rs.length rs.length) rs.length ((rs.take k).flatMap encR ++ cs)) ∧ On w wr) (fun v _ => rs.length - (intOf v).toNat)
  case atStart => exact ⟨0, _, Nat.zero_le _, rfl, by simpa using hO', hB⟩
  case round =>
    obtain ⟨k, cs, hk, rfl, hO, hB⟩ := hrel
    by_cases hlt : k < rs.length
    · obtain ⟨ad, rfl, hx0, hx1, hx2⟩ := (h.on hB).at k hlt
      have hcl := Aside0.mk (show 3 ≤ cs.length by have := hO.out.1; simp [flat_len (enc := encR) (sz := 3) (fun _ => rfl)] at this; omega)
      have hO2 := hO
      clear hO
      go_wp2_with (go_at_call 175; refine (toRelation_calls wr rs[k]).mono ?_; rintro e w2 ⟨rfl, hb2⟩; have hO3 := Aside0.mk (pw_own_below hO2.out hb2); have hfz := own_frozen hO3.out (k * 3); have hfz1 := own_frozen hO3.out (k * 3 + 1); have hfz2 := own_frozen hO3.out (k * 3 + 2); obtain ⟨z, hz⟩ := own_some hO3.out (k * 3) (by omega); obtain ⟨z1, hz1⟩ := own_some hO3.out (k * 3 + 1) (by omega); obtain ⟨z2, hz2⟩ := own_some hO3.out (k * 3 + 2) (by omega))
      obtain ⟨z0, z1, z2, hcs⟩ := split3 (cs := cs) (i := 0) (by have := hcl.out; omega)
      simp only [List.take_zero, List.nil_append, Nat.zero_add] at hcs
      refine ⟨⟨k + 1, cs.drop 3, by omega, by go_num, ⟨?_⟩, Reg.On.set (Reg.On.set (Reg.On.set (hB.trans hb2) (Nat.le_refl _) _) (Nat.le_refl _) _) (Nat.le_refl _) _⟩, by simp [intOf]; omega⟩
      have := ((hO3.out.stored (k * 3) (.string rs[k].1)).1.stored (k * 3 + 1) (.int .i64 rs[k].2.1)).1.stored (k * 3 + 2) (.bool rs[k].2.2) |>.1
      rw [hcs, set3 (k * 3) (by rw [flat_len (enc := encR) (sz := 3) (fun _ => rfl), List.length_take]; omega)] at this
      rw [flat_take_succ rs k hlt, List.append_assoc]
      exact this
    · have hO2 := hO
      clear hO
      go_wp2
      go_ret
      refine ⟨_, rfl, ?_, hB⟩
      have h1 := hO2.out
      have h2 := h1.1
      rw [List.take_of_length_le (by omega)] at h1 h2
      have h3 : cs = [] := by
        rw [List.length_append, flat_len (enc := encR) (sz := 3) (fun _ => rfl)] at h2
        exact List.eq_nil_of_length_eq_zero (by omega)
      subst h3
      rw [List.append_nil] at h1
      exact h1
end Go.Proofs.YtgemaohdlibboaaGreatDoor.H
/- Walks: the laws' own copies. No condition. -/
namespace Go.Proofs.YtgemaohdlibboaaGreatDoor.H
open Go Go.RowKit Go.Proofs.YtgemaohdlibboaaGreatDoorW.PrintWords Go.Proofs.YtgemaohdlibboaaGreatDoorW.PrintLast
open Go.Proofs.YtgemaohdlibboaaGreatDoor.Reg (On on_draw)
set_option maxHeartbeats 1000000
set_option maxRecDepth 100000
set_option linter.unusedVariables false
set_option linter.unusedSimpArgs false

theorem toFact_calls (w : World) (A c) (f : Fct) (h : Ints w A c f.2) (hl : f.2.length ≤ 2000000) : Calls Tryz.prog 176 #[.agg #[.int .i64 f.1, .slice A f.2.length c]] w (Got fun v w' => ∃ v1, v = .agg #[.int .i64 f.1, v1] ∧ OI w' w.heap.size v1 f.2 ∧ On w w') := by
  have hb := Aside0.mk (On.alloc (On.alloc (On.alloc (On.refl w) (.cells #[.int .i64 f.1, .slice A f.2.length c] 172)) (.cells #[.int .i64 0, .slice none 0 0] 60)) (.cells #[.int .i64 f.1, .slice none 0 0] 60))
  have hL := Aside0.mk (loc3 w #[.int .i64 f.1, .slice A f.2.length c] #[.int .i64 0, .slice none 0 0] #[.int .i64 f.1, .slice none 0 0] 172 60 60)
  go_enter Tryz.func176, Tryz.ntmps176
  go_wp2_with (go_at_call 201; refine (toIntS_calls _ A c f.2 (h.on hb.out) hl).mono ?_; rintro e w1 ⟨v1, rfl, hO, hb1⟩; obtain ⟨A1, c1, rfl⟩ := own_slice hO; have hL1 := Aside0.mk (Loc.on hb1 hL.out); have hc1 := blk_cell hL1.out.2.1; have hc2 : ∀ i, w1.cell? ⟨w.heap.size + 1 + 1, i, none⟩ = _ := blk_cell hL1.out.2.2.1; have hf1 := blk_frozen hL1.out.2.1; have hf2 : ∀ i, w1.frozen? ⟨w.heap.size + 1 + 1, i, none⟩ = false := blk_frozen hL1.out.2.2.1; have hO' := Aside0.mk hO; clear hO)
  refine bodyPost_ret (retF rfl rfl (g := w.heap.size + 1) (blk_set (blk_set (blk_far hL1.out.2.1 (p := ⟨w.heap.size + 1 + 1, 1, none⟩) (by simp) _) 0 _) 1 _) rfl) rfl ?_
  have hsz : (((w.alloc (.cells #[.int .i64 f.1, .slice A f.2.length c] 172)).alloc (.cells #[.int .i64 0, .slice none 0 0] 60)).alloc (.cells #[.int .i64 f.1, .slice none 0 0] 60)).heap.size = w.heap.size + 3 := by simp
  have hO := hO'.out
  rw [hsz] at hO
  exact ⟨_, rfl, _, rfl, own_lower (ownsRow_setCell_below (ownsRow_setCell_below (ownsRow_setCell_below hO (by simp) _) (by simp) _) (by simp) _) (by omega), Reg.On.set (Reg.On.set (Reg.On.set (hb.out.trans hb1) (by simp; omega) _) (by simp) _) (by simp) _⟩
theorem toFactS_calls (w : World) (A c) (fs : List Fct) (h : Fcts w A c fs) (hl : fs.length ≤ 2000000) (hl2 : ∀ f ∈ fs, f.2.length ≤ 2000000) : Calls Tryz.prog 128 #[.slice A fs.length c] w (Got fun v w' => ∃ hs, OH w' w.heap.size v hs ∧ Sep w' (w.heap.size + 1) hs fs ∧ (∃ n c, v = .slice (some ⟨w.heap.size, 0, none⟩) n c) ∧ On w w') := by
  go_enter Tryz.func128, Tryz.ntmps128
  go_wp2_with (refine gate 7 ?_)
  refine ⟨mkRow 7 (m := fs.length) Tryz.underlying23 infoF rfl (by omega) (by omega) fun hO => ?_⟩
  obtain ⟨cs0, hcs0⟩ : ∃ cs0, madeCells (Value.agg #[.int .i64 0, .slice none 0 0]).cells (fs.length * 2) = cs0 := ⟨_, rfl⟩
  rw [hcs0] at hO ⊢
  clear hcs0
  have hB := On.alloc (On.refl w) (.cells cs0 60)
  have hsz : (w.alloc (.cells cs0 60)).heap.size = w.heap.size + 1 := by simp
  obtain ⟨w1, hw1⟩ : ∃ w1, w.alloc (.cells cs0 60) = w1 := ⟨_, rfl⟩
  rw [hw1] at hO hB hsz ⊢
  clear hw1
  have hO' := Aside0.mk hO
  have hsz' := Aside0.mk hsz
  clear hO hsz
  go_wp2
  go_loopw [4] (fun v wr => ∃ (k : Nat) (hs : List Hdr) (cs : List Value), k ≤ fs.length ∧ v = .int .i64 k ∧ Aside0 (wr.ownsRow w.heap.size 60 2 (.slice (some ⟨w.heap.size, 0, none⟩) fs.length fs.length) fs.length (hs.flatMap encH ++ cs)) ∧ Aside0 (Sep wr (w.heap.size + 1) hs (fs.take k)) ∧ Aside0 (w.heap.size + 1 ≤ wr.heap.size) ∧ On w wr) (fun v _ => fs.length - (intOf v).toNat)
  case atStart => exact ⟨0, [], _, Nat.zero_le _, rfl, by simpa using hO', ⟨Sep.nil _ _⟩, ⟨by rw [hsz'.out]; exact Nat.le_refl _⟩, hB⟩
  case round =>
    obtain ⟨k, hs, cs, hk, rfl, hO, hS, hwr, hB⟩ := hrel
    have hlen := Aside0.mk (show hs.length = k by have := hS.out.len; rw [List.length_take] at this; omega)
    by_cases hlt : k < fs.length
    · obtain ⟨ad, A1, c1, rfl, hx0, hx1, hx2⟩ := (h.on hB).at k hlt
      have hcl := Aside0.mk (show 2 ≤ cs.length by have h1 := hO.out.1; have h2 := hlen.out; rw [List.length_append, flat_len (enc := encH) (sz := 2) (fun _ => rfl)] at h1; omega)
      have hO2 := hO
      have hl3 := hl2 _ (List.getElem_mem hlt)
      clear hO
      go_wp2_with (go_at_call 176; refine (toFact_calls wr A1 c1 fs[k] hx2 hl3).mono ?_; rintro e w2 ⟨v0, rfl, v1, rfl, hO1, hb2⟩; obtain ⟨A2, c2, rfl⟩ := own_slice hO1; have hO4 := Aside0.mk hO1; clear hO1; have hO3 := Aside0.mk (pw_own_below hO2.out hb2); have hfz := own_frozen hO3.out (k * 2); have hfz1 := own_frozen hO3.out (k * 2 + 1); obtain ⟨z, hz⟩ := own_some hO3.out (k * 2) (by omega); obtain ⟨z1, hz1⟩ := own_some hO3.out (k * 2 + 1) (by omega))
      obtain ⟨z0, z1, hcs⟩ := split2 (cs := cs) (i := 0) (by have := hcl.out; omega)
      simp only [List.take_zero, List.nil_append, Nat.zero_add] at hcs
      have hS2 := Sep.snoc (a := (fs[k].1, A2, fs[k].2.length, c2)) hS.out hb2 hwr.out rfl hO4.out hx2.2.2
      refine ⟨⟨k + 1, hs ++ [(fs[k].1, A2, fs[k].2.length, c2)], cs.drop 2, by omega, by go_num, ⟨?_⟩, ⟨?_⟩, ⟨?_⟩, Reg.On.set (Reg.On.set (hB.trans hb2) (Nat.le_refl _) _) (Nat.le_refl _) _⟩, by simp [intOf]; omega⟩
      · have := ((hO3.out.stored (k * 2) (.int .i64 fs[k].1)).1.stored (k * 2 + 1) (.slice A2 fs[k].2.length c2)).1
        rw [hcs, set2 (k * 2) (by rw [flat_len (enc := encH) (sz := 2) (fun _ => rfl), hlen.out])] at this
        rw [List.flatMap_append, List.append_assoc]
        exact this
      · rw [List.take_succ_eq_append_getElem hlt]
        exact Sep.set (Sep.set hS2 (Nat.lt_succ_self _) _) (Nat.lt_succ_self _) _
      · have := hb2.size; have := hwr.out; simp [World.setCell]; omega
    · have hO2 := hO
      clear hO
      go_wp2
      go_ret
      have h1 := hO2.out
      have h2 := h1.1
      have h4 := hlen.out
      have h5 := hS.out
      rw [List.take_of_length_le (by omega)] at h5
      have h3 : cs = [] := by
        rw [List.length_append, flat_len (enc := encH) (sz := 2) (fun _ => rfl)] at h2
        exact List.eq_nil_of_length_eq_zero (by omega)
      subst h3
      rw [List.append_nil] at h1
      refine ⟨_, rfl, hs, ?_, h5, ⟨_, _, rfl⟩, hB⟩
      show World.ownsRow _ _ _ _ _ hs.length _
      rw [show hs.length = fs.length by omega]
      exact h1
/-- An instance of the call's own, its facts' rows lying apart. -/
structure OIn (w : World) (lo : Nat) (v : Value) (rs : List Rel) (fs : List Fct) : Prop where mk :: (out : ∃ vr vf hs, v = .agg #[vr, vf] ∧ OR w lo vr rs ∧ OH w lo vf hs ∧ Sep w lo hs fs)
theorem toInstance_calls (w : World) (A0 c0 A1 c1) (rs : List Rel) (fs : List Fct) (h0 : Rels w A0 c0 rs) (h1 : Fcts w A1 c1 fs) (hl0 : rs.length ≤ 2000000) (hl : fs.length ≤ 2000000) (hl2 : ∀ f ∈ fs, f.2.length ≤ 2000000) : Calls Tryz.prog 53 #[.agg #[.slice A0 rs.length c0, .slice A1 fs.length c1]] w (Got fun v w' => OIn w' w.heap.size v rs fs ∧ On w w') := by
  have hb := Aside0.mk (On.alloc (On.alloc (On.alloc (On.refl w) (.cells #[.slice A0 rs.length c0, .slice A1 fs.length c1] 73)) (.cells #[.slice none 0 0, .slice none 0 0] 25)) (.cells #[.slice none 0 0, .slice none 0 0] 25))
  have hL := Aside0.mk (loc3 w #[.slice A0 rs.length c0, .slice A1 fs.length c1] #[.slice none 0 0, .slice none 0 0] #[.slice none 0 0, .slice none 0 0] 73 25 25)
  go_enter Tryz.func53, Tryz.ntmps53
  go_wp2_with (first | (go_at_call 127; refine (toRelationS_calls _ A0 c0 rs (h0.on hb.out) hl0).mono ?_; rintro e w1 ⟨v1, rfl, hO, hb1⟩; obtain ⟨A2, c2, rfl⟩ := own_slice hO; have hL1 := Aside0.mk (Loc.on hb1 hL.out); have hc0 := blk_cell hL1.out.1; have hc1 := blk_cell hL1.out.2.1; have hc2 : ∀ i, w1.cell? ⟨w.heap.size + 1 + 1, i, none⟩ = _ := blk_cell hL1.out.2.2.1; have hf1 := blk_frozen hL1.out.2.1; have hf2 : ∀ i, w1.frozen? ⟨w.heap.size + 1 + 1, i, none⟩ = false := blk_frozen hL1.out.2.2.1; have hO' := Aside0.mk hO; clear hO) | (go_at_call 128; have hB2 := Aside0.mk (Reg.On.set (hb.out.trans hb1) (p := ⟨w.heap.size + 1 + 1, 0, none⟩) (by simp; omega) (.slice A2 rs.length c2)); refine (toFactS_calls _ A1 c1 fs (h1.on hB2.out) hl hl2).mono ?_; rintro e w3 ⟨v3, rfl, hs, hO3, hS3, ⟨n3, c3, rfl⟩, hb3⟩; clear hc0 hc1 hc2 hf1 hf2; have hk1 := blk_below (blk_far hL1.out.2.1 (p := ⟨w.heap.size + 1 + 1, 0, none⟩) (by simp) (.slice A2 rs.length c2)) hb3; have hk2 : w3.heap[w.heap.size + 1 + 1]? = some (.cells #[.slice A2 rs.length c2, .slice none 0 0] 25 (0, 0)) := blk_below (blk_set hL1.out.2.2.1 0 (.slice A2 rs.length c2)) hb3; have hc1 := blk_cell hk1; have hc2 := blk_cell hk2; have hf1 := blk_frozen hk1; have hf2 := blk_frozen hk2; have hk1' := Aside0.mk hk1; clear hk1 hk2; have hO3' := Aside0.mk hO3; clear hO3; have hb3' := Aside0.mk hb3; clear hb3))
  have hsz : (((w.alloc (.cells #[.slice A0 rs.length c0, .slice A1 fs.length c1] 73)).alloc (.cells #[.slice none 0 0, .slice none 0 0] 25)).alloc (.cells #[.slice none 0 0, .slice none 0 0] 25)).heap.size = w.heap.size + 3 := by simp
  have hO := hO'.out
  rw [hsz] at hO
  have hsz1 := hb1.size
  rw [hsz] at hsz1
  have hsz2 : (w1.setCell ⟨w.heap.size + 1 + 1, 0, none⟩ (.slice A2 rs.length c2)).heap.size = w1.heap.size := by simp [World.setCell]
  have hO4 := hO3'.out
  rw [hsz2] at hO4 hS3
  refine bodyPost_ret (retI rfl rfl (g := w.heap.size + 1) (blk_set (blk_set (blk_far hk1'.out (p := ⟨w.heap.size + 1 + 1, 1, none⟩) (by simp) _) 0 _) 1 _) rfl) rfl ?_
  refine ⟨_, rfl, ⟨_, _, hs, rfl, ?_, ?_, ?_⟩, ?_⟩
  · have h5 := pw_own_below (ownsRow_setCell_below hO (a := ⟨w.heap.size + 1 + 1, 0, none⟩) (by simp) (.slice A2 rs.length c2)) hb3'.out
    exact own_lower (ownsRow_setCell_below (ownsRow_setCell_below (ownsRow_setCell_below h5 (by simp) _) (by simp) _) (by simp) _) (by omega)
  · exact own_lower (ownsRow_setCell_below (ownsRow_setCell_below (ownsRow_setCell_below hO4 (by simp; omega) _) (by simp; omega) _) (by simp; omega) _) (by omega)
  · exact Sep.lower (Sep.set (Sep.set (Sep.set hS3 (by simp; omega) _) (by simp; omega) _) (by simp; omega) _) (by omega)
  · exact Reg.On.set (Reg.On.set (Reg.On.set (hB2.out.trans hb3'.out) (by simp; omega) _) (by simp) _) (by simp) _
theorem szInstance_calls (w : World) (A0 c0 A1 c1) (rs : List Rel) (fs : List Fct) (n : Int) (h0 : 0 ≤ n) (h1 : n ≤ 2000000) (hr : Rels w A0 c0 rs) (hf : Fcts w A1 c1 fs) (hsz : ∀ r ∈ rs, r.1.size ≤ 9223372036854775807) : Calls Tryz.prog 51 #[.agg #[.slice A0 rs.length c0, .slice A1 fs.length c1], .int .i64 n] w (Sz n (wR rs + wF fs) w) := by
  have hb := Aside0.mk (On.alloc (On.refl w) (.cells #[.slice A0 rs.length c0, .slice A1 fs.length c1] 73))
  go_enter Tryz.func51, Tryz.ntmps51
  go_wp2_with (first | (go_at_call 125; refine (szRelationS_calls _ A0 c0 rs n h0 h1 (hr.on hb.out) hsz).mono ?_; rintro e w1 ⟨q, rfl, hq0, hb1⟩; have hq := Aside0.mk hq0; clear hq0; have hc0 := blk_cell (Loc.on hb1 (loc1 w #[.slice A0 rs.length c0, .slice A1 fs.length c1] 73)).1; by_cases hneg : q < 0) | (go_at_call 126; refine (szFactS_calls _ A1 c1 fs q (by omega) (by have := hq.out (by omega); omega) (hf.on (hb.out.trans hb1))).mono ?_; rintro e w2 ⟨q2, rfl, hq0, hb2⟩; have hq2 := Aside0.mk hq0; clear hq0; by_cases hneg2 : q2 < 0))
  all_goals
    go_ret
    first | exact ⟨_, rfl, fun h => by omega, (hb.out.trans hb1).trans hb2⟩ | exact ⟨_, rfl, fun h => by omega, hb.out.trans hb1⟩ | exact ⟨_, rfl, fun h => by have := hq.out (by omega); have := hq2.out (by omega); omega, (hb.out.trans hb1).trans hb2⟩
end Go.Proofs.YtgemaohdlibboaaGreatDoor.H
/- Walks: the laws' own comparisons, of what is the same. No condition. -/
namespace Go.Proofs.YtgemaohdlibboaaGreatDoor.H
open Go Go.RowKit Go.Proofs.YtgemaohdlibboaaGreatDoorW.PrintWords Go.Proofs.YtgemaohdlibboaaGreatDoorW.PrintLast
open Go.Proofs.YtgemaohdlibboaaGreatDoor.Reg (On on_draw)
set_option maxHeartbeats 1000000
set_option maxRecDepth 100000
set_option linter.unusedVariables false
set_option linter.unusedSimpArgs false

theorem eqIntS_calls (w : World) (A c B d) (xs : List Int) (h1 : Ints w A c xs) (h2 : Ints w B d xs) : Calls Tryz.prog 181 #[.slice A xs.length c, .slice B xs.length d] w fun e w' => e = .returned (.bool true) ∧ On w w' := by
  have hmax := h1.max
  go_enter Tryz.func181, Tryz.ntmps181
  go_wp2
  go_loopw [5] (fun v wr => ∃ k : Nat, k ≤ xs.length ∧ v = .int .i64 k ∧ On w wr) (fun v _ => xs.length - (intOf v).toNat)
  case atStart => exact ⟨0, Nat.zero_le _, rfl, On.refl _⟩
  case round =>
    obtain ⟨k, hk, rfl, hB⟩ := hrel
    by_cases hlt : k < xs.length
    · obtain ⟨ad, rfl, hx⟩ := (h1.on hB).at k hlt
      obtain ⟨bd, rfl, hy⟩ := (h2.on hB).at k hlt
      go_wp2
      refine Reg.region [(0,.L),(1,.L),(2,.L),(3,.L),(4,.L),(5,.L),(6,.L),(7,.L),(8,.L)] [] (by kernel_rfl) (by kernel_rfl) ?_
      repeat first | refine sP ?_ | refine sS ?_ | refine sA ?_ | refine sL ?_ | refine sQ ?_ | refine sO ?_
      refine Reg.nil fun w2 hS => ?_
      go_wp2
      go_roundw
      case rel => exact ⟨k + 1, by omega, by go_num, hB.trans hS⟩
      case measure => simp [intOf]; omega
    · go_wp2
      go_ret
      exact ⟨rfl, hB⟩
theorem eqRelation_calls (w : World) (r : Rel) : Calls Tryz.prog 131 #[.agg #[.string r.1, .int .i64 r.2.1, .bool r.2.2], .agg #[.string r.1, .int .i64 r.2.1, .bool r.2.2]] w fun e w' => e = .returned (.bool true) ∧ On w w' := by
  go_enter Tryz.func131, Tryz.ntmps131
  go_wp2
  go_ret
  exact ⟨rfl, On.alloc (On.alloc (On.refl _) _) _⟩
theorem eqFact_calls (w : World) (A c B d) (f : Fct) (h1 : Ints w A c f.2) (h2 : Ints w B d f.2) : Calls Tryz.prog 132 #[.agg #[.int .i64 f.1, .slice A f.2.length c], .agg #[.int .i64 f.1, .slice B f.2.length d]] w fun e w' => e = .returned (.bool true) ∧ On w w' := by
  have hb := Aside0.mk (On.alloc (On.alloc (On.refl w) (.cells #[.int .i64 f.1, .slice A f.2.length c] 60)) (.cells #[.int .i64 f.1, .slice B f.2.length d] 60))
  go_enter Tryz.func132, Tryz.ntmps132
  go_wp2_with (go_at_call 181; refine (eqIntS_calls _ A c B d f.2 (h1.on hb.out) (h2.on hb.out)).mono ?_; rintro e w1 ⟨rfl, hb1⟩)
  go_ret
  exact ⟨rfl, hb.out.trans hb1⟩
theorem eqRelationS_calls (w : World) (A c B d) (rs : List Rel) (h1 : Rels w A c rs) (h2 : Rels w B d rs) : Calls Tryz.prog 57 #[.slice A rs.length c, .slice B rs.length d] w fun e w' => e = .returned (.bool true) ∧ On w w' := by
  have hmax := h1.max
  go_enter Tryz.func57, Tryz.ntmps57
  go_wp2
  go_loopw [5] (fun v wr => ∃ k : Nat, k ≤ rs.length ∧ v = .int .i64 k ∧ On w wr) (fun v _ => rs.length - (intOf v).toNat)
  case atStart => exact ⟨0, Nat.zero_le _, rfl, On.refl _⟩
  case round =>
    obtain ⟨k, hk, rfl, hB⟩ := hrel
    by_cases hlt : k < rs.length
    · obtain ⟨ad, rfl, hx0, hx1, hx2⟩ := (h1.on hB).at k hlt
      obtain ⟨bd, rfl, hy0, hy1, hy2⟩ := (h2.on hB).at k hlt
      go_wp2
      refine Reg.region [(0,.L),(1,.L),(2,.L),(3,.L),(4,.L),(5,.L),(6,.L),(7,.L),(8,.C),(9,.L)] [] (by kernel_rfl) (by kernel_rfl) ?_
      repeat first | refine sP ?_ | refine sS ?_ | refine sA ?_ | refine sL ?_ | refine sQ ?_ | refine sO ?_
      refine callC (.bool true) Tryz.func131 (fun w' hS => ?_) ?_
      focus exact eqRelation_calls w' rs[k]
      repeat first | refine sP ?_ | refine sS ?_ | refine sA ?_ | refine sL ?_ | refine sQ ?_ | refine sO ?_
      refine Reg.nil fun w2 hS => ?_
      go_wp2
      go_roundw
      case rel => exact ⟨k + 1, by omega, by go_num, hB.trans hS⟩
      case measure => simp [intOf]; omega
    · go_wp2
      go_ret
      exact ⟨rfl, hB⟩
theorem eqFactS_calls (w : World) (A c B d) (fs : List Fct) (h1 : Fcts w A c fs) (h2 : Fcts w B d fs) : Calls Tryz.prog 58 #[.slice A fs.length c, .slice B fs.length d] w fun e w' => e = .returned (.bool true) ∧ On w w' := by
  have hmax := h1.max
  go_enter Tryz.func58, Tryz.ntmps58
  go_wp2
  go_loopw [5] (fun v wr => ∃ k : Nat, k ≤ fs.length ∧ v = .int .i64 k ∧ On w wr) (fun v _ => fs.length - (intOf v).toNat)
  case atStart => exact ⟨0, Nat.zero_le _, rfl, On.refl _⟩
  case round =>
    obtain ⟨k, hk, rfl, hB⟩ := hrel
    by_cases hlt : k < fs.length
    · obtain ⟨ad, A1, c1, rfl, hx0, hx1, hx2⟩ := (h1.on hB).at k hlt
      obtain ⟨bd, B1, d1, rfl, hy0, hy1, hy2⟩ := (h2.on hB).at k hlt
      go_wp2
      refine Reg.region [(0,.L),(1,.L),(2,.L),(3,.L),(4,.L),(5,.L),(6,.L),(7,.L),(8,.C),(9,.L)] [] (by kernel_rfl) (by kernel_rfl) ?_
      repeat first | refine sP ?_ | refine sS ?_ | refine sA ?_ | refine sL ?_ | refine sQ ?_ | refine sO ?_
      refine callC (.bool true) Tryz.func132 (fun w' hS => ?_) ?_
      focus exact eqFact_calls w' A1 c1 B1 d1 fs[k] (hx2.on hS) (hy2.on hS)
      repeat first | refine sP ?_ | refine sS ?_ | refine sA ?_ | refine sL ?_ | refine sQ ?_ | refine sO ?_
      refine Reg.nil fun w2 hS => ?_
      go_wp2
      go_roundw
      case rel => exact ⟨k + 1, by omega, by go_num, hB.trans hS⟩
      case measure => simp [intOf]; omega
    · go_wp2
      go_ret
      exact ⟨rfl, hB⟩
theorem eqInstance_calls (w : World) (A0 c0 A1 c1 B0 d0 B1 d1) (rs : List Rel) (fs : List Fct) (h0 : Rels w A0 c0 rs) (h1 : Fcts w A1 c1 fs) (h2 : Rels w B0 d0 rs) (h3 : Fcts w B1 d1 fs) : Calls Tryz.prog 10 #[.agg #[.slice A0 rs.length c0, .slice A1 fs.length c1], .agg #[.slice B0 rs.length d0, .slice B1 fs.length d1]] w fun e w' => e = .returned (.bool true) ∧ On w w' := by
  have hb := Aside0.mk (On.alloc (On.alloc (On.refl w) (.cells #[.slice A0 rs.length c0, .slice A1 fs.length c1] 25)) (.cells #[.slice B0 rs.length d0, .slice B1 fs.length d1] 25))
  have hL := Aside0.mk (loc2 w #[.slice A0 rs.length c0, .slice A1 fs.length c1] #[.slice B0 rs.length d0, .slice B1 fs.length d1] 25 25)
  go_enter Tryz.func10, Tryz.ntmps10
  go_wp2_with (first | (go_at_call 57; refine (eqRelationS_calls _ A0 c0 B0 d0 rs (h0.on hb.out) (h2.on hb.out)).mono ?_; rintro e w1 ⟨rfl, hb1⟩; have hL1 := Loc.on hb1 hL.out; have hc0 := blk_cell hL1.1; have hc1 := blk_cell hL1.2.1; have hL2 := Aside0.mk hL1; clear hL1) | (go_at_call 58; refine (eqFactS_calls _ A1 c1 B1 d1 fs (h1.on (hb.out.trans hb1)) (h3.on (hb.out.trans hb1))).mono ?_; rintro e w2 ⟨rfl, hb2⟩))
  go_ret
  exact ⟨rfl, (hb.out.trans hb1).trans hb2⟩
end Go.Proofs.YtgemaohdlibboaaGreatDoor.H
/- Walks: the laws' own marks. No condition. -/
namespace Go.Proofs.YtgemaohdlibboaaGreatDoor.H
open Go Go.RowKit Go.Proofs.YtgemaohdlibboaaGreatDoorW.PrintWords Go.Proofs.YtgemaohdlibboaaGreatDoorW.PrintLast
open Go.Proofs.YtgemaohdlibboaaGreatDoor.Reg (On on_draw)
set_option maxHeartbeats 1000000
set_option maxRecDepth 100000
set_option linter.unusedVariables false
set_option linter.unusedSimpArgs false

end Go.Proofs.YtgemaohdlibboaaGreatDoor.H
/- Walks: the laws' own marks on relations and facts. No condition. -/
namespace Go.Proofs.YtgemaohdlibboaaGreatDoor.H
open Go Go.RowKit Go.Proofs.YtgemaohdlibboaaGreatDoorW.PrintWords Go.Proofs.YtgemaohdlibboaaGreatDoorW.PrintLast
open Go.Proofs.YtgemaohdlibboaaGreatDoor.Reg (On on_draw)
set_option maxHeartbeats 1000000
set_option maxRecDepth 100000
set_option linter.unusedVariables false
set_option linter.unusedSimpArgs false

end Go.Proofs.YtgemaohdlibboaaGreatDoor.H
/- Walks: the laws' own marks on facts and instances. No condition. -/
namespace Go.Proofs.YtgemaohdlibboaaGreatDoor.H
open Go Go.RowKit Go.Proofs.YtgemaohdlibboaaGreatDoorW.PrintWords Go.Proofs.YtgemaohdlibboaaGreatDoorW.PrintLast
open Go.Proofs.YtgemaohdlibboaaGreatDoor.Reg (On on_draw)
set_option maxHeartbeats 1000000
set_option maxRecDepth 100000
set_option linter.unusedVariables false
set_option linter.unusedSimpArgs false

theorem wF_len (fs : List Fct) : fs.length ≤ wF fs := by
  unfold wF
  induction fs with
  | nil => simp
  | cons f fs ih => simp at ih ⊢; omega
theorem set_hdr {hs : List Hdr} {i : Nat} (hi : i < hs.length) {x : Int} {j : Nat} {a : Hdr} (ha : (hs.set i (x, hs[i].2))[j]? = some a) : ∃ a', hs[j]? = some a' ∧ hdV a' = hdV a := by
  by_cases e : i = j
  · subst e
    rw [List.getElem?_set_self hi] at ha
    injection ha with ha; subst ha
    exact ⟨hs[i], List.getElem?_eq_getElem hi, rfl⟩
  · rw [List.getElem?_set_ne e] at ha
    exact ⟨a, ha, rfl⟩
/-- The blocks that a row of facts owns. -/
def FB (v : Value) (hs : List Hdr) (b : Nat) : Prop := some b = v.ownBlock ∨ ∃ (i : Nat) (a : Hdr), hs[i]? = some a ∧ some b = (hdV a).ownBlock
theorem FB.set {v : Value} {hs : List Hdr} {i : Nat} (hi : i < hs.length) {x : Int} {b : Nat} (h : FB v (hs.set i (x, hs[i].2)) b) : FB v hs b := by
  rcases h with h | ⟨j, a, ha, h⟩
  · exact .inl h
  · obtain ⟨a', ha', e⟩ := set_hdr hi ha
    exact .inr ⟨j, a', ha', by rw [e]; exact h⟩
end Go.Proofs.YtgemaohdlibboaaGreatDoor.H
/- Cells of own rows: appended to, cut, cleared; rows of headers that are read. No condition. -/
namespace Go.Proofs.YtgemaohdlibboaaGreatDoor.H
open Go Go.RowKit Go.Proofs.YtgemaohdlibboaaGreatDoorW.PrintWords Go.Proofs.YtgemaohdlibboaaGreatDoorW.PrintLast
open Go.Proofs.YtgemaohdlibboaaGreatDoor.Reg (On on_draw)
set_option maxHeartbeats 1000000
set_option maxRecDepth 100000
set_option linter.unusedVariables false
set_option linter.unusedSimpArgs false

theorem flat_get {α : Type} {enc : α → List Value} {sz : Nat} (hl : ∀ x, (enc x).length = sz) : ∀ (xs : List α) (i r : Nat) (hi : i < xs.length), r < sz → (xs.flatMap enc)[i * sz + r]? = (enc xs[i])[r]?
  | [], _, _, hi, _ => absurd hi (Nat.not_lt_zero _)
  | x :: xs, 0, r, _, hr => by
    rw [List.flatMap_cons, Nat.zero_mul, Nat.zero_add, List.getElem?_append_left (by rw [hl]; exact hr)]; rfl
  | x :: xs, i + 1, r, hi, hr => by
    rw [List.flatMap_cons, List.getElem?_append_right (by rw [hl, Nat.add_mul]; omega), hl, show (i + 1) * sz + r - sz = i * sz + r by rw [Nat.add_mul]; omega]
    exact flat_get hl xs i r (by simpa using hi) hr
/-- A row of headers that is read. -/
structure RH (w : World) (A : Option Addr) (c : Nat) (hs : List Hdr) : Prop where
  cap : hs.length ≤ c
  max : hs.length ≤ 9223372036854775807
  cell : ∀ j u, (hs.flatMap encH)[j]? = some u → ∃ ad, A = some ad ∧ w.cell? (ad.add j) = some u
theorem RH.on {W w : World} {A : Option Addr} {c : Nat} {hs : List Hdr} (h : RH W A c hs) (hb : On W w) : RH w A c hs := ⟨h.cap, h.max, fun j u hu => by
  obtain ⟨ad, e, hc⟩ := h.cell j u hu
  exact ⟨ad, e, (hb.eq _ (by rw [hc]; rfl)).trans hc⟩⟩
theorem own_capmax {w : World} {lo e sz n : Nat} {A : Option Addr} {c : Nat} {cs : List Value} (h : w.ownsRow lo e sz (.slice A n c) n cs) : n ≤ c ∧ n ≤ 9223372036854775807 := by
  rcases h.2 with ⟨h1, h2⟩ | ⟨g, cap, cur, h1, _, _, h3, h4, _⟩
  · exact ⟨by omega, by omega⟩
  · injection h1 with h1 h5 h6
    have : maxLen = 9223372036854775807 := rfl
    exact ⟨by omega, by omega⟩
theorem OH.slice {w : World} {lo : Nat} {v : Value} {hs : List Hdr} (h : OH w lo v hs) : ∃ A c, v = .slice A hs.length c ∧ RH w A c hs := by
  obtain ⟨A, c, rfl⟩ := own_slice h
  obtain ⟨h1, h2⟩ := own_capmax h
  refine ⟨A, c, rfl, h1, h2, fun j u hu => ?_⟩
  rcases h.2 with ⟨h1, h3⟩ | ⟨g, cap, cur, h1, _⟩
  · obtain rfl : hs = [] := List.eq_nil_of_length_eq_zero h3
    simp at hu
  · injection h1 with h1 h5 h6
    subst h1
    exact ⟨_, rfl, h.cells rfl j u hu⟩
theorem OR.slice {w : World} {lo : Nat} {v : Value} {hs : List Rel} (h : OR w lo v hs) : ∃ A c, v = .slice A hs.length c := own_slice h
theorem Reads.take {w : World} {hs : List Hdr} {fs : List Fct} (h : Reads w hs fs) (k : Nat) : Reads w (hs.take k) (fs.take k) := ⟨by rw [List.length_take, List.length_take, h.len], fun i a f ha hf => by
  rw [List.getElem?_take] at ha hf
  split at ha
  · rename_i hk; rw [if_pos hk] at hf; exact h.at_ i a f ha hf
  · cases ha⟩
theorem Reads.drop {w : World} {hs : List Hdr} {fs : List Fct} (h : Reads w hs fs) (k : Nat) : Reads w (hs.drop k) (fs.drop k) := ⟨by rw [List.length_drop, List.length_drop, h.len], fun i a f ha hf => by
  rw [List.getElem?_drop] at ha hf
  exact h.at_ _ a f ha hf⟩
theorem Reads.append {w : World} {hs hs' : List Hdr} {fs fs' : List Fct} (h : Reads w hs fs) (h' : Reads w hs' fs') : Reads w (hs ++ hs') (fs ++ fs') := ⟨by rw [List.length_append, List.length_append, h.len, h'.len], fun i a f ha hf => by
  have hl := h.len
  rcases Nat.lt_or_ge i hs.length with hi | hi
  · rw [List.getElem?_append_left hi] at ha
    rw [List.getElem?_append_left (by omega)] at hf
    exact h.at_ i a f ha hf
  · rw [List.getElem?_append_right hi] at ha
    rw [List.getElem?_append_right (by omega), ← hl] at hf
    exact h'.at_ _ a f ha hf⟩
/-- Some of the facts whose rows lie apart. -/
theorem Sep.sub {w : World} {lo : Nat} {hs : List Hdr} {fs : List Fct} (h : Sep w lo hs fs) {qs : List (Hdr × Fct)} (hq : qs.Sublist (hs.zip fs)) : Sep w lo (qs.map Prod.fst) (qs.map Prod.snd) := by
  have hl := h.len
  have hmem : ∀ p ∈ qs, ∃ i, hs[i]? = some p.1 ∧ fs[i]? = some p.2 := fun p hp => by
    obtain ⟨i, hi, e⟩ := List.getElem_of_mem (hq.subset hp)
    rw [List.getElem_zip] at e
    have hi' : i < hs.length := by rw [List.length_zip] at hi; omega
    exact ⟨i, by rw [List.getElem?_eq_getElem hi', ← e], by rw [List.getElem?_eq_getElem (by omega), ← e]⟩
  have hpw : (hs.zip fs).Pairwise fun p q => ∀ k, (hdV p.1).ownBlock = some k → (hdV q.1).ownBlock ≠ some k := by
    rw [List.pairwise_iff_getElem]
    intro i j hi hj hij k h1 h2
    rw [List.getElem_zip] at h1 h2
    have hi' : i < hs.length := by rw [List.length_zip] at hi; omega
    have hj' : j < hs.length := by rw [List.length_zip] at hj; omega
    have := h.apart i j _ _ k (List.getElem?_eq_getElem hi') (List.getElem?_eq_getElem hj') h1 h2
    omega
  have hpq := hpw.sublist hq
  refine ⟨by simp, fun i a f ha hf => ?_, fun i j a b k ha hb h1 h2 => ?_⟩
  · rw [List.getElem?_map] at ha hf
    obtain ⟨p, hp, rfl⟩ := Option.map_eq_some_iff.1 ha
    rw [hp] at hf
    obtain rfl : p.2 = f := Option.some.inj hf
    obtain ⟨m, e1, e2⟩ := hmem p (List.mem_of_getElem? hp)
    exact h.at_ m _ _ e1 e2
  · rw [List.getElem?_map] at ha hb
    obtain ⟨p, hp, rfl⟩ := Option.map_eq_some_iff.1 ha
    obtain ⟨q, hq', rfl⟩ := Option.map_eq_some_iff.1 hb
    obtain ⟨hi, rfl⟩ := List.getElem?_eq_some_iff.1 hp
    obtain ⟨hj, rfl⟩ := List.getElem?_eq_some_iff.1 hq'
    rcases Nat.lt_trichotomy i j with c | c | c
    · exact absurd h2 (List.pairwise_iff_getElem.1 hpq i j hi hj c k h1)
    · exact c
    · exact absurd h1 (List.pairwise_iff_getElem.1 hpq j i hj hi c k h2)
theorem OIn.on {W w : World} {lo : Nat} {v : Value} {rs : List Rel} {fs : List Fct} (h : OIn W lo v rs fs) (hb : On W w) : OIn w lo v rs fs := by
  obtain ⟨vr, vf, hs, e, hR, hH, hS⟩ := h.out
  exact ⟨vr, vf, hs, e, pw_own_below hR hb, pw_own_below hH hb, hS.on hb⟩
theorem OIn.set {W : World} {lo : Nat} {v : Value} {rs : List Rel} {fs : List Fct} (h : OIn W lo v rs fs) {p : Addr} (hp : p.block < lo) (u : Value) : OIn (W.setCell p u) lo v rs fs := by
  obtain ⟨vr, vf, hs, e, hR, hH, hS⟩ := h.out
  exact ⟨vr, vf, hs, e, ownsRow_setCell_below hR hp u, ownsRow_setCell_below hH hp u, hS.set hp u⟩
theorem OIn.lower {w : World} {lo lo' : Nat} {v : Value} {rs : List Rel} {fs : List Fct} (h : OIn w lo v rs fs) (hl : lo' ≤ lo) : OIn w lo' v rs fs := by
  obtain ⟨vr, vf, hs, e, hR, hH, hS⟩ := h.out
  exact ⟨vr, vf, hs, e, own_lower hR hl, own_lower hH hl, hS.lower hl⟩
/-! Appends, cell by cell. -/
section
variable {ops : Array Oper} {rest : List Oper} {o : Oper} {a : Act} {Q : Exit → Act → World → Prop} {W : World}
end
/-! Appends onto a row that is full (a literal): nothing old is written. -/
section
variable {ops : Array Oper} {rest : List Oper} {o : Oper} {a : Act} {Q : Exit → Act → World → Prop} {W : World}
end
end Go.Proofs.YtgemaohdlibboaaGreatDoor.H
/- Rows of strings: read, of one's own, appended to, joined, cut out of a text. No condition. -/
namespace Go.Proofs.YtgemaohdlibboaaGreatDoor.H
open Go Go.RowKit Go.Proofs.YtgemaohdlibboaaGreatDoorW.PrintWords Go.Proofs.YtgemaohdlibboaaGreatDoorW.PrintLast
open Go.Proofs.YtgemaohdlibboaaGreatDoor.Reg (On on_draw)
set_option maxHeartbeats 4000000
set_option maxRecDepth 100000
set_option linter.unusedVariables false
set_option linter.unusedSimpArgs false

abbrev encS (x : List UInt8) : List Value := [.string (strB x)]
/-- A row of strings that is read. -/
structure Strs (w : World) (A : Option Addr) (c : Nat) (ss : List (List UInt8)) : Prop where
  cap : ss.length ≤ c
  max : ss.length ≤ 9223372036854775807
  cell : ∀ j, (hj : j < ss.length) → ∃ ad, A = some ad ∧ w.cell? (ad.add j) = some (.string (strB ss[j]))
theorem Strs.on {W w : World} {A : Option Addr} {c : Nat} {ss : List (List UInt8)} (h : Strs W A c ss) (hb : On W w) : Strs w A c ss := ⟨h.cap, h.max, fun j hj => by
  obtain ⟨ad, e, hc⟩ := h.cell j hj
  exact ⟨ad, e, (hb.eq _ (by rw [hc]; rfl)).trans hc⟩⟩
abbrev OSt (w : World) (lo : Nat) (v : Value) (ss : List (List UInt8)) : Prop := w.ownsRow lo 9 1 v ss.length (ss.flatMap encS)
theorem OSt.slice {w : World} {lo : Nat} {v : Value} {ss : List (List UInt8)} (h : OSt w lo v ss) : ∃ A c, v = .slice A ss.length c ∧ Strs w A c ss := by
  obtain ⟨A, c, rfl⟩ := own_slice h
  obtain ⟨h1, h2⟩ := own_capmax h
  refine ⟨A, c, rfl, h1, h2, fun j hj => ?_⟩
  have hg : (ss.flatMap encS)[j]? = some (.string (strB ss[j])) := by
    have := flat_get (enc := encS) (sz := 1) (fun _ => rfl) ss j 0 hj (by omega)
    rw [Nat.mul_one, Nat.add_zero] at this
    rw [this]; rfl
  rcases h.2 with ⟨h1, h3⟩ | ⟨g, cap, cur, h1, _⟩
  · omega
  · injection h1 with h1 h5 h6
    subst h1
    exact ⟨_, rfl, h.cells rfl j _ hg⟩
theorem OSt.same {w : World} {lo c n : Nat} {A : Option Addr} {ss : List (List UInt8)} (h : OSt w lo (.slice A n c) ss) : n = ss.length ∧ Strs w A c ss := by
  obtain ⟨A', c', e, h'⟩ := OSt.slice h
  injection e with e1 e2 e3
  subst e1 e3
  exact ⟨e2, h'⟩
theorem infoS : (Tryz.prog.info? 9).map (fun i => (i.zero, i.size, i.bytes)) = some (some (.string ⟨#[]⟩), 1, 16) := by kernel_rfl
section
variable {ops : Array Oper} {rest : List Oper} {o : Oper} {a : Act} {Q : Exit → Act → World → Prop} {W : World}
/-- append of a string onto strings of one's own. -/
theorem apS1 (N : Tmp) {s x : Operand} {v : Value} {g base : Nat} {xs zs : List (List UInt8)} {y : List UInt8} (hz : xs ++ [y] = zs)
    (HO : OSt W base v xs) (HR : W.cell? ⟨g, 0, none⟩ = some (.string (strB y))) (hbase : base ≤ W.heap.size) (hl : xs.length ≤ 10000000)
    (h : ∀ v1 w1, OSt w1 base v1 zs → W.grownBy w1 v.ownBlock → wpList Tryz.prog ops Q rest (a.put (some N) v1) w1)
    (hop : o.op = .call { callee := .builtin .append, args := #[s, x], argTypes := #[77, 77] } := by rfl)
    (hd : o.dst = some N := by rfl) (hg : o.guard = none := by rfl) (hs : a.eval s = v := by rfl) (hx : a.eval x = .slice (some ⟨g, 0, none⟩) 1 1 := by rfl) : wpList Tryz.prog ops Q (o :: rest) a W := by
  subst hz
  obtain ⟨i0, hi, hzz⟩ := Option.map_eq_some_iff.1 infoS
  simp only [Prod.mk.injEq] at hzz
  obtain ⟨hz0, hz1, hz2⟩ := hzz
  refine wpList_append_own_at W hg s x 77 hop base 9 i0 _ 1 16 Tryz.underlying77 hi hz0 hz1 hz2 rfl (by omega) v xs.length _ hs HO ⟨g, 0, none⟩ 1 1 (encS y) hx rfl (fun j u hu => ?_) (fun u hu => ?_) (by simp [maxLen]; omega) (by omega) hbase fun v1 w1 h1 h2 _ _ => ?_
  · have hj : j = 0 := by have := (List.getElem?_eq_some_iff.1 hu).1; simp at this; omega
    subst hj
    simp at hu
    subst hu
    exact HR
  · simp only [List.mem_cons, List.not_mem_nil, or_false] at hu
    subst hu
    rfl
  · rw [hd]
    refine h v1 w1 ?_ h2
    show World.ownsRow _ _ _ _ _ (xs ++ [y]).length _
    rw [show (xs ++ [y]).flatMap encS = xs.flatMap encS ++ encS y by simp, List.length_append]
    exact h1
end
section
variable {ops : Array Oper} {rest : List Oper} {o : Oper} {a : Act} {Q : Exit → Act → World → Prop} {W : World}
/-- A literal of one string. -/
theorem litS1 (N : Tmp) {y : List UInt8} (h : wpList Tryz.prog ops Q rest (a.put (some N) (.slice (some ⟨W.heap.size, 0, none⟩) 1 1)) (W.alloc (.cells #[.string (strB y)] 9 (0, 0))))
    (hd : o.dst = some N := by rfl) (hg : o.guard = none := by rfl) (hr : (execOp a.eval o).run Tryz.prog W = .ok (.value (.slice (some ⟨W.heap.size, 0, none⟩) 1 1)) (W.alloc (.cells #[.string (strB y)] 9 (0, 0))) := by first | (go_simp; done) | (go_simp; rfl)) : wpList Tryz.prog ops Q (o :: rest) a W :=
  Kd.event_run hg hr (by rw [hd]; exact h)
end
/-- A string of a text cut out, laid into a row. -/
theorem lit_S (w : World) (y : List UInt8) : (w.alloc (.cells #[.string (strB y)] 9 (0, 0))).cell? ⟨w.heap.size, 0, none⟩ = some (.string (strB y)) := by
  have := blk_cell (loc_new w #[.string (strB y)] 9) 0
  rw [this]; rfl
theorem ownS0 {W : World} {g lo : Nat} (hg : g = W.heap.size) (hlo : lo ≤ W.heap.size) : OSt (W.alloc (.cells #[] 9 (0, 0))) lo (.slice (some ⟨g, 0, none⟩) 0 0) [] := by
  subst hg
  exact own_lower (World.ownsRow_lit (base := W.heap.size) (e := 9) (size := 1) W #[] 0 (Nat.le_refl _) (by simp [maxLen]) (by simp)) hlo
theorem Join_calls (w : World) (A : Option Addr) (c : Nat) (ss : List (List UInt8)) (s : List UInt8) (h : Strs w A c ss) (hl : ss.length ≤ 1000000) (hb : (Lib.join ss s).length ≤ 1000000000) :
    Calls Tryz.prog 65 #[.slice A ss.length c, .string (strB s)] w fun e w' => e = .returned (.string (strB (Lib.join ss s))) ∧ On w w' := by
  by_cases hz : ss.length = 0
  · obtain rfl : ss = [] := List.eq_nil_of_length_eq_zero hz
    exact (Tryz.strings_Join_none A c (strB s) w).mono fun e w' ⟨he, hw⟩ => by subst hw; exact ⟨by rw [he, join_nil']; rfl, On.refl _⟩
  · obtain ⟨ad, rfl, h0⟩ := h.cell 0 (by omega)
    have hs : ad.spot = none := by
      cases hsp : ad.spot with
      | none => rfl
      | some q =>
        exfalso
        have e0 : ad.add 0 = ad := by unfold Addr.add; rw [if_pos rfl]
        rw [e0] at h0
        unfold World.cell? at h0
        split at h0
        · rw [hsp] at h0; simp at h0
        · cases h0
    obtain ⟨b, o, sp⟩ := ad
    obtain rfl : sp = none := hs
    have hbk : b < w.heap.size := by
      have := World.block_lt_of_cell? w _ h0
      unfold Addr.add at this
      simpa using this
    have hm : (ss.map strB).map (fun x : ByteArray => x.data.toList) = ss := by
      rw [List.map_map]
      conv => rhs; rw [← List.map_id ss]
      exact List.map_congr_left (fun x _ => strB_data x)
    have key := Tryz.strings_Join b o c (ss.map strB) (strB s) w (fun j y hj => ?_) hbk (by simp; omega) (by simpa using h.cap) (by rw [hm, strB_data]; omega)
    · rw [hm, strB_data, List.length_map] at key
      exact key
    · rw [List.getElem?_map] at hj
      obtain ⟨x, hx, rfl⟩ := Option.map_eq_some_iff.1 hj
      have hjl := (List.getElem?_eq_some_iff.1 hx).1
      obtain ⟨ad', e, h1⟩ := h.cell j hjl
      injection e with e
      subst e
      have e2 : (⟨b, o, none⟩ : Addr).add j = ⟨b, o + j, none⟩ := by unfold Addr.add; split <;> simp_all
      rw [e2] at h1
      rw [h1, (List.getElem?_eq_some_iff.1 hx).2]
end Go.Proofs.YtgemaohdlibboaaGreatDoor.H
/- Walks: relations written, on both sides. No condition. -/
namespace Go.Proofs.YtgemaohdlibboaaGreatDoor.H
open Go Go.RowKit Go.Proofs.YtgemaohdlibboaaGreatDoorW.PrintWords Go.Proofs.YtgemaohdlibboaaGreatDoorW.PrintLast
open Go.Proofs.YtgemaohdlibboaaGreatDoor.Reg (On on_draw)
set_option maxHeartbeats 4000000
set_option maxRecDepth 100000
set_option linter.unusedVariables false
set_option linter.unusedSimpArgs false

/-- The sum of two lengths is an int. -/
theorem szOk {a b : List UInt8} (h : a.length + b.length ≤ 1000000000000) : (9223372036854775807 < (strB a).size + (strB b).size) = False := eq_false (by rw [strB_size, strB_size]; omega)
theorem szOk1 {a : List UInt8} (h : a.length ≤ 1000000000000) : (9223372036854775807 < (strB a).size + 1) = False := eq_false (by rw [strB_size]; omega)
theorem cat1 (a : List UInt8) (c : UInt8) : strB a ++ (⟨#[c]⟩ : ByteArray) = strB (a ++ [c]) := by rw [show (⟨#[c]⟩ : ByteArray) = strB [c] from rfl, strB_append]
def txtR (rs : List Rel) (k : Nat) : List UInt8 := Lib.join ((rs.take k).map relL) [32]
theorem txtR_succ (rs : List Rel) (k : Nat) (h : k < rs.length) : txtR rs (k + 1) = (if k = 0 then [] else txtR rs k ++ [32]) ++ relL rs[k] := by
  unfold txtR
  rw [List.take_succ_eq_append_getElem h, List.map_append, List.map_cons, List.map_nil, join_snoc, List.length_map, List.length_take, Nat.min_eq_left (by omega)]
  by_cases c : k = 0
  · rw [if_pos c, if_pos c]; rfl
  · rw [if_neg c, if_neg c]
theorem txtR_len {rs : List Rel} (h : okRels rs = true) (k : Nat) : (txtR rs k).length ≤ 100 := by
  have hm := okRels_mem h
  have h6 : rs.length ≤ 6 := by simp only [okRels, Bool.and_eq_true, decide_eq_true_eq] at h; exact h.2
  have := join_len [32] 3 _ ((rs.take k).map relL) rfl (fun x hx => by
    obtain ⟨r, hr, rfl⟩ := List.mem_map.1 hx
    exact (relL_ok (hm r (List.mem_of_mem_take hr))).2.2)
  rw [List.length_map, List.length_take] at this
  unfold txtR
  simp at this ⊢
  omega
theorem txtR_all (rs : List Rel) (k : Nat) (h : rs.length ≤ k) : txtR rs k = Lib.join (rs.map relL) [32] := by unfold txtR; rw [List.take_of_length_le h]
theorem relL_parts {r : Rel} (h : okRel r = true) : ∃ b : UInt8, r.1 = strB [b] ∧ 1 ≤ r.2.1 ∧ r.2.1 ≤ 3 ∧ relL r = (if r.2.2 then [43] else []) ++ ([b] ++ Lib.itoa r.2.1) ∧ (Lib.itoa r.2.1).length ≤ 2 := by
  obtain ⟨b, e, h1, h2, h3, h4⟩ := okRel_bytes h
  refine ⟨b, e, h3, h4, by unfold relL; rw [e, strB_data], (itoa_bytes (by omega) (by omega)).2.2⟩
theorem sFormatRelations_calls (w : World) (A : Option Addr) (c : Nat) (rs : List Rel) (h : Rels w A c rs) : Calls Tryz.prog 108 #[.slice A rs.length c] w fun e w' => e = .returned (.string (strB (fmtR rs))) ∧ On w w' := by
  have hmax := h.max
  have h' := Aside0.mk h
  clear h
  cases ho : okRels rs with
  | false =>
    have ho' := Aside0.mk ho
    clear ho
    go_enter Tryz.func108, Tryz.ntmps108
    go_wp2_with (go_at_call 41; refine (AreValidRelations_calls w A c rs h'.out).mono ?_; rintro e w1 ⟨rfl, hb1⟩; rw [ho'.out])
    go_ret
    exact ⟨by unfold fmtR; rw [if_neg (by rw [ho'.out]; simp)]; rfl, hb1⟩
  | true =>
    have ho' := Aside0.mk ho
    clear ho
    go_enter Tryz.func108, Tryz.ntmps108
    go_wp2_with (go_at_call 41; refine (AreValidRelations_calls w A c rs h'.out).mono ?_; rintro e w1 ⟨rfl, hb1⟩; rw [ho'.out])
    have hb1' := Aside0.mk hb1
    clear hb1
    go_loopw [3, 4] (fun v3 v4 wr => ∃ (k : Nat) (s : List UInt8), k ≤ rs.length ∧ v3 = .string (strB s) ∧ v4 = .int .i64 k ∧ Aside0 (s = txtR rs k) ∧ On w wr) (fun _ v4 _ => rs.length - (intOf v4).toNat)
    case atStart => exact ⟨0, [], Nat.zero_le _, rfl, rfl, ⟨by unfold txtR; simp [join_nil']⟩, hb1'.out⟩
    case round =>
      obtain ⟨k, s, hk, rfl, rfl, hs, hB⟩ := hrel
      have hB' := Aside0.mk hB
      clear hB
      by_cases hlt : k < rs.length
      · obtain ⟨ad, rfl, x0, x1, x2⟩ := (h'.out.on hB'.out).at k hlt
        have hk' := Aside0.mk hlt
        have hstep := Aside0.mk (txtR_succ rs k hlt)
        have hsl := Aside0.mk (show s.length ≤ 100 by rw [hs.out]; exact txtR_len ho'.out k)
        obtain ⟨b, e1, e2, e3, e4, e5⟩ := relL_parts (okRels_mem ho'.out rs[k] (List.getElem_mem hlt))
        rw [e4] at hstep
        obtain ⟨r, hr⟩ : ∃ r : Rel, rs[k] = r := ⟨_, rfl⟩
        rw [hr] at x0 x1 x2 e1 e2 e3 hstep e5
        clear hr e4
        obtain ⟨nm, a, src⟩ := r
        simp only at x0 x1 x2 e1 e2 e3 hstep e5
        subst e1
        have ha' := Aside0.mk (And.intro e2 e3)
        have hia := Aside0.mk e5
        have hs' := Aside0.mk hs.out
        clear hs e2 e3 e5
        by_cases hk0 : 0 < k
        · have hkb : decide ((0 : Int) < (k : Int)) = true := decide_eq_true (by omega)
          have hkn : decide (0 < k) = true := decide_eq_true hk0
          have hst := Aside0.mk (show txtR rs (k + 1) = (s ++ [32]) ++ ((if src then [43] else []) ++ ([b] ++ Lib.itoa a)) by rw [hstep.out, if_neg (by omega), hs'.out])
          have c1 := cat1 s 32
          have z1 := szOk1 (a := s) (by have := hsl.out; omega)
          obtain ⟨t, ht⟩ : ∃ t, s ++ [32] = t := ⟨_, rfl⟩
          have htl := Aside0.mk (show t.length ≤ 101 by rw [← ht]; have := hsl.out; simp; omega)
          rw [ht] at c1 hst
          clear ht hk0
          cases src with
          | true =>
            have c2 := cat1 t 43
            have z2 := szOk1 (a := t) (by have := htl.out; omega)
            obtain ⟨u, hu⟩ : ∃ u, t ++ [43] = u := ⟨_, rfl⟩
            have hul := Aside0.mk (show u.length ≤ 102 by rw [← hu]; have := htl.out; simp; omega)
            rw [hu] at c2
            have hfin := Aside0.mk (show (u ++ [b]) ++ Lib.itoa a = txtR rs (k + 1) by rw [hst.out, ← hu]; simp)
            clear hu
            have c3 := strB_append u [b]
            have z3 := szOk (a := u) (b := [b]) (by have := hul.out; simp; omega)
            obtain ⟨x, hx⟩ : ∃ x, u ++ [b] = x := ⟨_, rfl⟩
            rw [hx] at c3 hfin
            have hxl := Aside0.mk (show x.length ≤ 103 by rw [← hx]; have := hul.out; simp; omega)
            have c4 := strB_append x (Lib.itoa a)
            have z4 := szOk (a := x) (b := Lib.itoa a) (by have := hxl.out; have := hia.out; omega)
            clear hx
            go_wp2
            refine Reg.region [(0,.L),(1,.L),(2,.L),(3,.L),(4,.L),(5,.L),(6,.L),(7,.L),(8,.L),(9,.L),(10,.L),(11,.L),(12,.C),(13,.L)] [14] (by kernel_rfl) (by kernel_rfl) ?_
            repeat first | refine sP ?_ | refine sS ?_ | refine sA ?_ | refine sL ?_ | refine sQ ?_ | refine sO ?_
            refine callC (.string (strB (Lib.itoa a))) Tryz.func162 (fun w' hS => ?_) ?_
            focus exact sFormatInt_calls w' a (by have := ha'.out; omega) (by have := ha'.out; omega)
            repeat first | refine sP ?_ | refine sS ?_ | refine sA ?_ | refine sL ?_ | refine sQ ?_ | refine sO ?_
            refine Reg.tail_ fun w2 hS => ?_
            go_wp2
            refine ⟨⟨k + 1, _, by have := hk'.out; omega, rfl, by go_num, ⟨?_⟩, hB'.out.trans hS⟩, by simp [intOf]; have := hk'.out; omega⟩
            exact hfin.out
          | false =>
            have hfin := Aside0.mk (show (t ++ [b]) ++ Lib.itoa a = txtR rs (k + 1) by rw [hst.out]; simp)
            have c3 := strB_append t [b]
            have z3 := szOk (a := t) (b := [b]) (by have := htl.out; simp; omega)
            obtain ⟨x, hx⟩ : ∃ x, t ++ [b] = x := ⟨_, rfl⟩
            rw [hx] at c3 hfin
            have hxl := Aside0.mk (show x.length ≤ 103 by rw [← hx]; have := htl.out; simp; omega)
            have c4 := strB_append x (Lib.itoa a)
            have z4 := szOk (a := x) (b := Lib.itoa a) (by have := hxl.out; have := hia.out; omega)
            clear hx
            go_wp2
            refine Reg.region [(0,.L),(1,.L),(2,.L),(3,.L),(4,.L),(5,.L),(6,.L),(7,.L),(8,.L),(9,.L),(10,.L),(11,.L),(12,.C),(13,.L)] [14] (by kernel_rfl) (by kernel_rfl) ?_
            repeat first | refine sP ?_ | refine sS ?_ | refine sA ?_ | refine sL ?_ | refine sQ ?_ | refine sO ?_
            refine callC (.string (strB (Lib.itoa a))) Tryz.func162 (fun w' hS => ?_) ?_
            focus exact sFormatInt_calls w' a (by have := ha'.out; omega) (by have := ha'.out; omega)
            repeat first | refine sP ?_ | refine sS ?_ | refine sA ?_ | refine sL ?_ | refine sQ ?_ | refine sO ?_
            refine Reg.tail_ fun w2 hS => ?_
            go_wp2
            refine ⟨⟨k + 1, _, by have := hk'.out; omega, rfl, by go_num, ⟨?_⟩, hB'.out.trans hS⟩, by simp [intOf]; have := hk'.out; omega⟩
            exact hfin.out
        · have hkb : decide ((0 : Int) < (k : Int)) = false := decide_eq_false (by omega)
          have hkn : decide (0 < k) = false := decide_eq_false hk0
          have hst := Aside0.mk (show txtR rs (k + 1) = s ++ ((if src then [43] else []) ++ ([b] ++ Lib.itoa a)) by rw [hstep.out, if_pos (by omega), hs'.out, show k = 0 by omega]; simp [txtR, join_nil'])
          have htl := Aside0.mk (show s.length ≤ 101 by have := hsl.out; omega)
          clear hk0
          cases src with
          | true =>
            have c2 := cat1 s 43
            have z2 := szOk1 (a := s) (by have := htl.out; omega)
            obtain ⟨u, hu⟩ : ∃ u, s ++ [43] = u := ⟨_, rfl⟩
            have hul := Aside0.mk (show u.length ≤ 102 by rw [← hu]; have := htl.out; simp; omega)
            rw [hu] at c2
            have hfin := Aside0.mk (show (u ++ [b]) ++ Lib.itoa a = txtR rs (k + 1) by rw [hst.out, ← hu]; simp)
            clear hu
            have c3 := strB_append u [b]
            have z3 := szOk (a := u) (b := [b]) (by have := hul.out; simp; omega)
            obtain ⟨x, hx⟩ : ∃ x, u ++ [b] = x := ⟨_, rfl⟩
            rw [hx] at c3 hfin
            have hxl := Aside0.mk (show x.length ≤ 103 by rw [← hx]; have := hul.out; simp; omega)
            have c4 := strB_append x (Lib.itoa a)
            have z4 := szOk (a := x) (b := Lib.itoa a) (by have := hxl.out; have := hia.out; omega)
            clear hx
            go_wp2
            refine Reg.region [(0,.L),(1,.L),(2,.L),(3,.L),(4,.L),(5,.L),(6,.L),(7,.L),(8,.L),(9,.L),(10,.L),(11,.L),(12,.C),(13,.L)] [14] (by kernel_rfl) (by kernel_rfl) ?_
            repeat first | refine sP ?_ | refine sS ?_ | refine sA ?_ | refine sL ?_ | refine sQ ?_ | refine sO ?_
            refine callC (.string (strB (Lib.itoa a))) Tryz.func162 (fun w' hS => ?_) ?_
            focus exact sFormatInt_calls w' a (by have := ha'.out; omega) (by have := ha'.out; omega)
            repeat first | refine sP ?_ | refine sS ?_ | refine sA ?_ | refine sL ?_ | refine sQ ?_ | refine sO ?_
            refine Reg.tail_ fun w2 hS => ?_
            go_wp2
            refine ⟨⟨k + 1, _, by have := hk'.out; omega, rfl, by go_num, ⟨?_⟩, hB'.out.trans hS⟩, by simp [intOf]; have := hk'.out; omega⟩
            exact hfin.out
          | false =>
            have hfin := Aside0.mk (show (s ++ [b]) ++ Lib.itoa a = txtR rs (k + 1) by rw [hst.out]; simp)
            have c3 := strB_append s [b]
            have z3 := szOk (a := s) (b := [b]) (by have := htl.out; simp; omega)
            obtain ⟨x, hx⟩ : ∃ x, s ++ [b] = x := ⟨_, rfl⟩
            rw [hx] at c3 hfin
            have hxl := Aside0.mk (show x.length ≤ 103 by rw [← hx]; have := htl.out; simp; omega)
            have c4 := strB_append x (Lib.itoa a)
            have z4 := szOk (a := x) (b := Lib.itoa a) (by have := hxl.out; have := hia.out; omega)
            clear hx
            go_wp2
            refine Reg.region [(0,.L),(1,.L),(2,.L),(3,.L),(4,.L),(5,.L),(6,.L),(7,.L),(8,.L),(9,.L),(10,.L),(11,.L),(12,.C),(13,.L)] [14] (by kernel_rfl) (by kernel_rfl) ?_
            repeat first | refine sP ?_ | refine sS ?_ | refine sA ?_ | refine sL ?_ | refine sQ ?_ | refine sO ?_
            refine callC (.string (strB (Lib.itoa a))) Tryz.func162 (fun w' hS => ?_) ?_
            focus exact sFormatInt_calls w' a (by have := ha'.out; omega) (by have := ha'.out; omega)
            repeat first | refine sP ?_ | refine sS ?_ | refine sA ?_ | refine sL ?_ | refine sQ ?_ | refine sO ?_
            refine Reg.tail_ fun w2 hS => ?_
            go_wp2
            refine ⟨⟨k + 1, _, by have := hk'.out; omega, rfl, by go_num, ⟨?_⟩, hB'.out.trans hS⟩, by simp [intOf]; have := hk'.out; omega⟩
            exact hfin.out
      · go_wp2
        go_ret
        exact ⟨by unfold fmtR; rw [if_pos ho'.out, hs.out, txtR_all rs k (by omega)]; rfl, hB'.out⟩
end Go.Proofs.YtgemaohdlibboaaGreatDoor.H
/- Walks: relations written by the program. No condition. -/
namespace Go.Proofs.YtgemaohdlibboaaGreatDoor.H
open Go Go.RowKit Go.Proofs.YtgemaohdlibboaaGreatDoorW.PrintWords Go.Proofs.YtgemaohdlibboaaGreatDoorW.PrintLast
open Go.Proofs.YtgemaohdlibboaaGreatDoor.Reg (On on_draw)
set_option maxHeartbeats 4000000
set_option maxRecDepth 100000
set_option linter.unusedVariables false
set_option linter.unusedSimpArgs false

theorem relsL_take (rs : List Rel) (k : Nat) (h : k < rs.length) : (rs.take (k + 1)).map relL = (rs.take k).map relL ++ [relL rs[k]] := by
  rw [List.take_succ_eq_append_getElem h, List.map_append]; rfl
theorem iFormatRelations_calls (w : World) (A : Option Addr) (c : Nat) (rs : List Rel) (h : Rels w A c rs) : Calls Tryz.prog 38 #[.slice A rs.length c] w fun e w' => e = .returned (.string (strB (fmtR rs))) ∧ On w w' := by
  have hmax := h.max
  have h' := Aside0.mk h
  clear h
  cases ho : okRels rs with
  | false =>
    have ho' := Aside0.mk ho
    clear ho
    go_enter Tryz.func38, Tryz.ntmps38
    go_wp2_with (go_at_call 49; refine (iAreValidRelations_calls w A c rs h'.out).mono ?_; rintro e w1 ⟨rfl, hb1⟩; rw [ho'.out])
    go_ret
    exact ⟨by unfold fmtR; rw [if_neg (by rw [ho'.out]; simp)]; rfl, hb1⟩
  | true =>
    have ho' := Aside0.mk ho
    have hk6 := Aside0.mk (show rs.length ≤ 6 by simp only [okRels, Bool.and_eq_true, decide_eq_true_eq] at ho; exact ho.2)
    clear ho
    go_enter Tryz.func38, Tryz.ntmps38
    go_wp2_with (go_at_call 49; refine (iAreValidRelations_calls w A c rs h'.out).mono ?_; rintro e w1 ⟨rfl, hb1⟩; rw [ho'.out]; have hb1' := Aside0.mk hb1; clear hb1)
    go_loopw [3, 13] (fun v3 v13 wr => ∃ k : Nat, k ≤ rs.length ∧ v13 = .int .i64 k ∧ OSt wr w.heap.size v3 ((rs.take k).map relL) ∧ On w wr) (fun _ v13 _ => rs.length - (intOf v13).toNat)
    case atStart => exact ⟨0, Nat.zero_le _, rfl, ownS0 rfl hb1'.out.size, hb1'.out.trans (On.alloc (On.refl _) _)⟩
    case round =>
      obtain ⟨k, hk, rfl, hO, hB⟩ := hrel
      have hB' := Aside0.mk hB
      obtain ⟨ls, hls⟩ : ∃ ls, (rs.take k).map relL = ls := ⟨_, rfl⟩
      rw [hls] at hO
      have hls' := Aside0.mk hls
      have hO' := Aside0.mk hO
      clear hB hO hls
      by_cases hlt : k < rs.length
      · obtain ⟨ad, rfl, x0, x1, x2⟩ := (h'.out.on hB'.out).at k hlt
        have hk' := Aside0.mk hlt
        have hstep := Aside0.mk (relsL_take rs k hlt)
        obtain ⟨b, e1, e2, e3, e4, e5⟩ := relL_parts (okRels_mem ho'.out rs[k] (List.getElem_mem hlt))
        obtain ⟨r, hr⟩ : ∃ r : Rel, rs[k] = r := ⟨_, rfl⟩
        rw [hr] at x0 x1 x2 e1 e2 e3 e4 hstep e5
        clear hr
        obtain ⟨nm, a, src⟩ := r
        simp only at x0 x1 x2 e1 e2 e3 e4 hstep e5
        subst e1
        have ha' := Aside0.mk (And.intro e2 e3)
        have hia := Aside0.mk e5
        have hrl := Aside0.mk e4
        clear e2 e3 e4 e5
        have hfill := alloc_fill3 wr
        cases src with
        | true =>
          have c3 : (⟨#[43]⟩ : ByteArray) ++ strB [b] = strB [43, b] := by rw [show (⟨#[43]⟩ : ByteArray) = strB [43] from rfl, strB_append]; rfl
          have z3 : (9223372036854775807 < 1 + (strB [b]).size) = False := eq_false (by rw [strB_size]; simp)
          have c4 := strB_append [43, b] (Lib.itoa a)
          have z4 := szOk (a := [43, b]) (b := Lib.itoa a) (by have := hia.out; simp; omega)
          obtain ⟨y, hy⟩ : ∃ y, [43, b] ++ Lib.itoa a = y := ⟨_, rfl⟩
          have hyr := Aside0.mk (show relL (strB [b], a, true) = y by rw [hrl.out, ← hy]; rfl)
          rw [hy] at c4
          clear hy
          go_wp2
          have hbx := Aside0.mk (show (wr.alloc (.cells #[.string (strB [b]), .int .i64 a, .bool true] 95 (0, 0))).heap[wr.heap.size]? = some _ from loc_new wr _ _)
          have hc0 := blk_cell hbx.out
          have hBx := Aside0.mk (hB'.out.trans (On.alloc (On.refl _) (.cells #[.string (strB [b]), .int .i64 a, .bool true] 95 (0, 0))))
          clear hfill
          refine Reg.region [(0,.P),(1,.L),(2,.L),(3,.L),(4,.L),(5,.L),(6,.L),(7,.C),(8,.L)] [9,10,11] (by kernel_rfl) (by kernel_rfl) ?_
          repeat first | refine sP ?_ | refine sS ?_ | refine sA ?_ | refine sL ?_ | refine sQ ?_ | refine sO ?_
          refine callC (.string (strB (Lib.itoa a))) Tryz.func107 (fun w' hS => ?_) ?_
          focus exact iFormatInt_calls w' a (by have := ha'.out; omega) (by have := ha'.out; omega)
          repeat first | refine sP ?_ | refine sS ?_ | refine sA ?_ | refine sL ?_ | refine sQ ?_ | refine sO ?_
          refine Reg.tail_ fun w2 hS => ?_
          clear hc0
          refine litS1 28 (y := y) ?_
          have hOA := Aside0.mk (own_ex hO'.out (Ex.of_on (S := fun _ => False) ((On.alloc (On.refl _) (.cells #[.string (strB [b]), .int .i64 a, .bool true] 95 (0, 0))).trans (hS.trans (On.alloc (On.refl w2) (.cells #[.string (strB y)] 9 (0, 0)))))) (fun _ _ h => h))
          have hBA := Aside0.mk (hBx.out.trans (hS.trans (On.alloc (On.refl w2) (.cells #[.string (strB y)] 9 (0, 0)))))
          obtain ⟨ys, hys⟩ : ∃ ys, ls ++ [y] = ys := ⟨_, rfl⟩
          have hys' := Aside0.mk hys
          refine apS1 29 hys hOA.out (lit_S w2 y) hBA.out.size (by have := hk6.out; rw [← hls'.out]; simp; omega) fun v3 w3 hO3 hg3 => ?_
          have hO3' := Aside0.mk hO3
          have hB3 := Aside0.mk (Ex.on hBA.out (Ex.of_grown hg3) (fun i e => own_base hO'.out i e.symm))
          clear hys hO3 hg3
          go_wp2
          refine ⟨⟨k + 1, by have := hk'.out; omega, by go_num, ?_, hB3.out⟩, by simp [intOf]; have := hk'.out; omega⟩
          rw [hstep.out, hls'.out, hyr.out, hys'.out]; exact hO3'.out
        | false =>
          have c3 : (⟨#[]⟩ : ByteArray) ++ strB [b] = strB [b] := by rw [show (⟨#[]⟩ : ByteArray) = strB [] from rfl, strB_append]; rfl
          have z3 : (9223372036854775807 < (strB [b]).size) = False := eq_false (by rw [strB_size]; simp)
          have c4 := strB_append [b] (Lib.itoa a)
          have z4 := szOk (a := [b]) (b := Lib.itoa a) (by have := hia.out; simp; omega)
          obtain ⟨y, hy⟩ : ∃ y, [b] ++ Lib.itoa a = y := ⟨_, rfl⟩
          have hyr := Aside0.mk (show relL (strB [b], a, false) = y by rw [hrl.out, ← hy]; rfl)
          rw [hy] at c4
          clear hy
          go_wp2
          have hbx := Aside0.mk (show (wr.alloc (.cells #[.string (strB [b]), .int .i64 a, .bool false] 95 (0, 0))).heap[wr.heap.size]? = some _ from loc_new wr _ _)
          have hc0 := blk_cell hbx.out
          have hBx := Aside0.mk (hB'.out.trans (On.alloc (On.refl _) (.cells #[.string (strB [b]), .int .i64 a, .bool false] 95 (0, 0))))
          clear hfill
          refine Reg.region [(0,.P),(1,.L),(2,.L),(3,.L),(4,.L),(5,.L),(6,.L),(7,.C),(8,.L)] [9,10,11] (by kernel_rfl) (by kernel_rfl) ?_
          repeat first | refine sP ?_ | refine sS ?_ | refine sA ?_ | refine sL ?_ | refine sQ ?_ | refine sO ?_
          refine callC (.string (strB (Lib.itoa a))) Tryz.func107 (fun w' hS => ?_) ?_
          focus exact iFormatInt_calls w' a (by have := ha'.out; omega) (by have := ha'.out; omega)
          repeat first | refine sP ?_ | refine sS ?_ | refine sA ?_ | refine sL ?_ | refine sQ ?_ | refine sO ?_
          refine Reg.tail_ fun w2 hS => ?_
          clear hc0
          refine litS1 28 (y := y) ?_
          have hOA := Aside0.mk (own_ex hO'.out (Ex.of_on (S := fun _ => False) ((On.alloc (On.refl _) (.cells #[.string (strB [b]), .int .i64 a, .bool false] 95 (0, 0))).trans (hS.trans (On.alloc (On.refl w2) (.cells #[.string (strB y)] 9 (0, 0)))))) (fun _ _ h => h))
          have hBA := Aside0.mk (hBx.out.trans (hS.trans (On.alloc (On.refl w2) (.cells #[.string (strB y)] 9 (0, 0)))))
          obtain ⟨ys, hys⟩ : ∃ ys, ls ++ [y] = ys := ⟨_, rfl⟩
          have hys' := Aside0.mk hys
          refine apS1 29 hys hOA.out (lit_S w2 y) hBA.out.size (by have := hk6.out; rw [← hls'.out]; simp; omega) fun v3 w3 hO3 hg3 => ?_
          have hO3' := Aside0.mk hO3
          have hB3 := Aside0.mk (Ex.on hBA.out (Ex.of_grown hg3) (fun i e => own_base hO'.out i e.symm))
          clear hys hO3 hg3
          go_wp2
          refine ⟨⟨k + 1, by have := hk'.out; omega, by go_num, ?_, hB3.out⟩, by simp [intOf]; have := hk'.out; omega⟩
          rw [hstep.out, hls'.out, hyr.out, hys'.out]; exact hO3'.out
      · have e1 : rs.take k = rs := List.take_of_length_le (by omega)
        have hls2 := Aside0.mk (show rs.map relL = ls by rw [← hls'.out, e1])
        clear e1
        obtain ⟨Aq, cq, rfl⟩ := own_slice hO'.out
        have hSt' := Aside0.mk (OSt.same hO'.out).2
        have hjl := Aside0.mk (show (Lib.join ls [32]).length ≤ 100 by rw [← hls2.out]; have := txtR_len ho'.out rs.length; rwa [txtR_all rs _ (Nat.le_refl _)] at this)
        have hll := Aside0.mk (show ls.length ≤ 1000000 by rw [← hls2.out]; have := hk6.out; simp; omega)
        go_wp2_with (go_at_call 65; refine (Join_calls wr Aq cq ls [32] hSt'.out hll.out (by have := hjl.out; omega)).mono ?_; rintro e w2 ⟨rfl, hb2⟩)
        go_ret
        exact ⟨by unfold fmtR; rw [if_pos ho'.out, hls2.out]; rfl, hB'.out.trans hb2⟩
end Go.Proofs.YtgemaohdlibboaaGreatDoor.H
/- Walks: the program's own valid facts and their order. No condition. -/
namespace Go.Proofs.YtgemaohdlibboaaGreatDoor.H
open Go Go.RowKit Go.Proofs.YtgemaohdlibboaaGreatDoorW.PrintWords Go.Proofs.YtgemaohdlibboaaGreatDoorW.PrintLast
open Go.Proofs.YtgemaohdlibboaaGreatDoor.Reg (On on_draw)
set_option maxHeartbeats 1000000
set_option maxRecDepth 100000
set_option linter.unusedVariables false
set_option linter.unusedSimpArgs false

theorem badValue_calls (w : World) (v : Int) : Calls Tryz.prog 124 #[.int .i64 v] w fun e w' => e = .returned (.bool (!okVal v)) ∧ On w w' := by
  go_enter Tryz.func124, Tryz.ntmps124
  go_wp2_with (go_at_call 92; refine (iIsValidValue_calls _ _).mono ?_; rintro e w1 ⟨rfl, hb1⟩)
  go_ret
  exact ⟨rfl, hb1⟩
theorem IndexFuncV_calls (w : World) (A c) (vs : List Int) (h : Ints w A c vs) : Calls Tryz.prog 172 #[.slice A vs.length c, .func (.func 124) #[] #[]] w fun e w' => e = .returned (.int .i64 (idxFrom (fun v => !okVal v) vs 0)) ∧ On w w' := by
  have hmax := h.max
  go_enter Tryz.func172, Tryz.ntmps172
  go_wp2
  go_loopw [8] (fun v wr => ∃ k : Nat, k ≤ vs.length ∧ v = .int .i64 k ∧ Hid (idxFrom (fun v => !okVal v) (vs.drop k) k = idxFrom (fun v => !okVal v) vs 0) ∧ On w wr) (fun v _ => vs.length - (intOf v).toNat)
  case atStart => exact ⟨0, Nat.zero_le _, rfl, rfl, On.refl _⟩
  case round =>
    obtain ⟨k, hk, rfl, hp, hB⟩ := hrel
    by_cases hlt : k < vs.length
    · obtain ⟨ad, rfl, hx⟩ := (h.on hB).at k hlt
      have hst := Aside0.mk ((idxFrom_step (fun v => !okVal v) vs k hlt).symm.trans hp.out)
      clear hp
      cases hv : okVal vs[k] with
      | false =>
        have hv' := Aside0.mk hv
        clear hv
        go_wp2_with (go_at_call 124; refine (badValue_calls _ _).mono ?_; rintro e w3 ⟨rfl, hb3⟩; rw [hv'.out])
        go_ret
        exact ⟨ret_int (by have := hst.out; rw [hv'.out, if_pos (by rfl)] at this; exact this), hB.trans hb3⟩
      | true =>
        have hv' := Aside0.mk hv
        clear hv
        go_wp2_with (go_at_call 124; refine (badValue_calls _ _).mono ?_; rintro e w3 ⟨rfl, hb3⟩; rw [hv'.out])
        go_roundw
        case rel => exact ⟨k + 1, by omega, by go_num, (by have := hst.out; rwa [hv'.out, if_neg (by simp)] at this : _ = _), hB.trans hb3⟩
        case measure => simp [intOf]; omega
    · go_wp2
      go_ret
      exact ⟨ret_int (by rw [← hp.out, List.drop_of_length_le (by omega)]; rfl), hB⟩
theorem ContainsFuncV_calls (w : World) (A c) (vs : List Int) (h : Ints w A c vs) : Calls Tryz.prog 123 #[.slice A vs.length c, .func (.func 124) #[] #[]] w fun e w' => e = .returned (.bool (vs.any fun v => !okVal v)) ∧ On w w' := by
  go_enter Tryz.func123, Tryz.ntmps123
  go_wp2_with (go_at_call 172; refine (IndexFuncV_calls w A c vs h).mono ?_; rintro e w3 ⟨rfl, hb3⟩)
  go_ret
  exact ⟨ret_bool (idxFrom_any _ vs 0), hb3⟩
theorem iIsValidFact_calls (w : World) (A c) (rs : List Rel) (B d) (f : Fct) (h0 : Rels w A c rs) (h1 : Ints w B d f.2) : Calls Tryz.prog 50 #[.slice A rs.length c, .agg #[.int .i64 f.1, .slice B f.2.length d]] w fun e w' => e = .returned (.bool (okFact rs f)) ∧ On w w' := by
  have hm0 := h0.max
  have hm1 := h1.max
  have hw1 : IntKind.i64.wrap ((rs.length : Int) - 1) = (rs.length : Int) - 1 := IntWalk.i64_in _ (by omega)
  cases hr : okRels rs with
  | false =>
    have hr' := Aside0.mk hr
    clear hr
    go_enter Tryz.func50, Tryz.ntmps50
    go_wp2
    refine Reg.region [(0,.L),(1,.C),(2,.L),(3,.L),(4,.L),(5,.L),(6,.L),(7,.L),(8,.L),(9,.C),(10,.L),(11,.L),(12,.L),(13,.L),(14,.L),(15,.L),(16,.L),(17,.L),(18,.L),(19,.L),(20,.L),(21,.L),(22,.L),(23,.L)] [] (by kernel_rfl) (by kernel_rfl) ?_
    repeat first | refine sP ?_ | refine sS ?_ | refine sA ?_ | refine sL ?_ | refine sQ ?_ | refine sO ?_
    refine callC (.bool false) Tryz.func49 (fun w' hS => ?_) ?_
    focus exact (iAreValidRelations_calls w' A c rs (h0.on ((On.alloc (On.refl _) _).trans hS))).mono fun e w'' h => ⟨by rw [h.1, hr'.out], h.2⟩
    repeat first | refine sP ?_ | refine sS ?_ | refine sA ?_ | refine sL ?_ | refine sQ ?_ | refine sO ?_
    refine Reg.nil fun w2 hS => ?_
    go_wp2
    go_ret
    exact ⟨ret_bool (by simp [okFact, hr'.out]), (On.alloc (On.refl _) _).trans hS⟩
  | true =>
    have hr' := Aside0.mk hr
    clear hr
    cases hi : within f.1 0 ((rs.length : Int) - 1) with
    | false =>
      have hi' := Aside0.mk hi
      clear hi
      go_enter Tryz.func50, Tryz.ntmps50
      go_wp2
      refine Reg.region [(0,.L),(1,.C),(2,.L),(3,.L),(4,.L),(5,.L),(6,.L),(7,.L),(8,.L),(9,.C),(10,.L),(11,.L),(12,.L),(13,.L),(14,.L),(15,.L),(16,.L),(17,.L),(18,.L),(19,.L),(20,.L),(21,.L),(22,.L),(23,.L)] [] (by kernel_rfl) (by kernel_rfl) ?_
      repeat first | refine sP ?_ | refine sS ?_ | refine sA ?_ | refine sL ?_ | refine sQ ?_ | refine sO ?_
      refine callC (.bool true) Tryz.func49 (fun w' hS => ?_) ?_
      focus exact (iAreValidRelations_calls w' A c rs (h0.on ((On.alloc (On.refl _) _).trans hS))).mono fun e w'' h => ⟨by rw [h.1, hr'.out], h.2⟩
      repeat first | refine sP ?_ | refine sS ?_ | refine sA ?_ | refine sL ?_ | refine sQ ?_ | refine sO ?_
      refine callC (.bool false) Tryz.func91 (fun w' hS => ?_) ?_
      focus exact (within_calls w' _ _ _).mono fun e w'' h => ⟨by rw [h.1, hi'.out], h.2⟩
      repeat first | refine sP ?_ | refine sS ?_ | refine sA ?_ | refine sL ?_ | refine sQ ?_ | refine sO ?_
      refine Reg.nil fun w2 hS => ?_
      go_wp2
      go_ret
      exact ⟨ret_bool (by have := hi'.out; simp [within] at this; simp [okFact]; intros; omega), (On.alloc (On.refl _) _).trans hS⟩
    | true =>
      have hi' := Aside0.mk hi
      have hi2 : 0 ≤ f.1 ∧ f.1 ≤ (rs.length : Int) - 1 := by simpa [within] using hi
      clear hi
      rcases f with ⟨r, vs⟩
      obtain ⟨m, rfl⟩ : ∃ m : Nat, r = m := ⟨r.toNat, by omega⟩
      have hm : m < rs.length := by omega
      have har : arity rs (m : Int) = rs[m].2.1 := by simp [arity, hm]
      clear hi2
      dsimp only at *
      obtain ⟨ad, rfl, hx0, hx1, hx2⟩ := h0.at m hm
      have hbx := Aside0.mk (On.alloc (On.refl w) (.cells #[.int .i64 m, .slice B vs.length d] 60))
      have hx1' := (hbx.out.eq _ (by rw [hx1]; rfl)).trans hx1
      clear hx0 hx1 hx2
      cases hl : decide ((vs.length : Int) = rs[m].2.1) with
      | false =>
        have hl1 : ((vs.length : Int) == rs[m].2.1) = false := hl
        have hl2 : ((vs.length : Int) != rs[m].2.1) = true := by simp [bne, hl1]
        have hl' := Aside0.mk hl
        clear hl
        go_enter Tryz.func50, Tryz.ntmps50
        go_wp2
        refine Reg.region [(0,.L),(1,.C),(2,.L),(3,.L),(4,.L),(5,.L),(6,.L),(7,.L),(8,.L),(9,.C),(10,.L),(11,.L),(12,.L),(13,.L),(14,.L),(15,.L),(16,.L),(17,.L),(18,.L),(19,.L),(20,.L),(21,.L),(22,.L),(23,.L)] [] (by kernel_rfl) (by kernel_rfl) ?_
        repeat first | refine sP ?_ | refine sS ?_ | refine sA ?_ | refine sL ?_ | refine sQ ?_ | refine sO ?_
        refine callC (.bool true) Tryz.func49 (fun w' hS => ?_) ?_
        focus exact (iAreValidRelations_calls w' (some ad) c rs (h0.on (hbx.out.trans hS))).mono fun e w'' h => ⟨by rw [h.1, hr'.out], h.2⟩
        repeat first | refine sP ?_ | refine sS ?_ | refine sA ?_ | refine sL ?_ | refine sQ ?_ | refine sO ?_
        refine callC (.bool true) Tryz.func91 (fun w' hS => ?_) ?_
        focus exact (within_calls w' _ _ _).mono fun e w'' h => ⟨by rw [h.1, hi'.out], h.2⟩
        repeat first | refine sP ?_ | refine sS ?_ | refine sA ?_ | refine sL ?_ | refine sQ ?_ | refine sO ?_
        refine Reg.nil fun w2 hS => ?_
        go_wp2
        go_ret
        have e1 : decide ((vs.length : Int) = arity rs (m : Int)) = false := by rw [har]; exact hl'.out
        exact ⟨ret_bool (by symm; unfold okFact; dsimp only; rw [e1, Bool.and_false, Bool.false_and]), hbx.out.trans hS⟩
      | true =>
        have hl0 : (vs.length : Int) = rs[m].2.1 := of_decide_eq_true hl
        have hl1 : ((vs.length : Int) == rs[m].2.1) = true := by simpa using hl0
        have hl2 : ((vs.length : Int) != rs[m].2.1) = false := by simp [bne, hl1]
        have hl' := Aside0.mk hl
        clear hl hl0
        go_enter Tryz.func50, Tryz.ntmps50
        go_wp2
        refine Reg.region [(0,.L),(1,.C),(2,.L),(3,.L),(4,.L),(5,.L),(6,.L),(7,.L),(8,.L),(9,.C),(10,.L),(11,.L),(12,.L),(13,.L),(14,.L),(15,.L),(16,.L),(17,.L),(18,.L),(19,.L),(20,.L),(21,.L),(22,.L),(23,.L)] [] (by kernel_rfl) (by kernel_rfl) ?_
        repeat first | refine sP ?_ | refine sS ?_ | refine sA ?_ | refine sL ?_ | refine sQ ?_ | refine sO ?_
        refine callC (.bool true) Tryz.func49 (fun w' hS => ?_) ?_
        focus exact (iAreValidRelations_calls w' (some ad) c rs (h0.on (hbx.out.trans hS))).mono fun e w'' h => ⟨by rw [h.1, hr'.out], h.2⟩
        repeat first | refine sP ?_ | refine sS ?_ | refine sA ?_ | refine sL ?_ | refine sQ ?_ | refine sO ?_
        refine callC (.bool true) Tryz.func91 (fun w' hS => ?_) ?_
        focus exact (within_calls w' _ _ _).mono fun e w'' h => ⟨by rw [h.1, hi'.out], h.2⟩
        repeat first | refine sP ?_ | refine sS ?_ | refine sA ?_ | refine sL ?_ | refine sQ ?_ | refine sO ?_
        refine Reg.nil fun w2 hS => ?_
        clear hx1'
        have hL2 := Loc.on hS (loc1 w #[.int .i64 m, .slice B vs.length d] 60)
        have hc0 := blk_cell hL2.1
        have hB2 := Aside0.mk (hbx.out.trans hS)
        cases hv : vs.any (fun v => !okVal v) with
        | true =>
          have hv' := Aside0.mk hv
          clear hv
          go_wp2_with (go_at_call 123; refine (ContainsFuncV_calls w2 B d vs (h1.on hB2.out)).mono ?_; rintro e w3 ⟨rfl, hb3⟩; rw [hv'.out])
          go_ret
          exact ⟨ret_bool (by have : vs.all okVal = false := by have := hv'.out; rw [List.any_eq_not_all_not] at this; simpa using this
                              simp only [okFact, this, Bool.and_false]), hB2.out.trans hb3⟩
        | false =>
          have hv' := Aside0.mk hv
          clear hv
          go_wp2_with (go_at_call 123; refine (ContainsFuncV_calls w2 B d vs (h1.on hB2.out)).mono ?_; rintro e w3 ⟨rfl, hb3⟩; rw [hv'.out])
          go_ret
          exact ⟨ret_bool (by have : vs.all okVal = true := by have := hv'.out; rw [List.any_eq_not_all_not] at this; simpa using this
                              have hl3 := beq_iff_eq.1 hl1; simp [okFact, this, hr'.out, har, hm, hl3]), hB2.out.trans hb3⟩
theorem isNaN_calls (w : World) (v : Int) : Calls Tryz.prog 171 #[.int .i64 v] w fun e w' => e = .returned (.bool false) ∧ On w w' := by
  go_enter Tryz.func171, Tryz.ntmps171
  go_wp2
  go_ret
  exact ⟨by simp, On.refl _⟩
theorem cmpCompare_calls (w : World) (a b : Int) : Calls Tryz.prog 120 #[.int .i64 a, .int .i64 b] w fun e w' => e = .returned (.int .i64 (cmpI a b)) ∧ On w w' := by
  by_cases h1 : a < b
  · have h1b : decide (a < b) = true := decide_eq_true h1
    go_enter Tryz.func120, Tryz.ntmps120
    go_wp2_with (first | (go_at_call 171; refine (isNaN_calls w _).mono ?_; rintro e w1 ⟨rfl, hb1⟩) | (go_at_call 171; refine (isNaN_calls w1 _).mono ?_; rintro e w2 ⟨rfl, hb2⟩))
    go_ret
    exact ⟨ret_int (by unfold cmpI; rw [if_pos (of_decide_eq_true h1b)]), hb1.trans hb2⟩
  · have h1b : decide (a < b) = false := decide_eq_false h1
    by_cases h2 : b < a
    · have h2b : decide (b < a) = true := decide_eq_true h2
      go_enter Tryz.func120, Tryz.ntmps120
      go_wp2_with (first | (go_at_call 171; refine (isNaN_calls w _).mono ?_; rintro e w1 ⟨rfl, hb1⟩) | (go_at_call 171; refine (isNaN_calls w1 _).mono ?_; rintro e w2 ⟨rfl, hb2⟩))
      go_ret
      exact ⟨ret_int (by unfold cmpI; rw [if_neg (of_decide_eq_false h1b), if_pos (of_decide_eq_true h2b)]), hb1.trans hb2⟩
    · have h2b : decide (b < a) = false := decide_eq_false h2
      go_enter Tryz.func120, Tryz.ntmps120
      go_wp2_with (first | (go_at_call 171; refine (isNaN_calls w _).mono ?_; rintro e w1 ⟨rfl, hb1⟩) | (go_at_call 171; refine (isNaN_calls w1 _).mono ?_; rintro e w2 ⟨rfl, hb2⟩))
      go_ret
      exact ⟨ret_int (by unfold cmpI; rw [if_neg (of_decide_eq_false h1b), if_neg (of_decide_eq_false h2b)]), hb1.trans hb2⟩
theorem cmpI_bd (a b : Int) : -1 ≤ cmpI a b ∧ cmpI a b ≤ 1 := by unfold cmpI; split <;> (try split) <;> omega
theorem ints_stepI (a b : List Int) (k : Nat) (h1 : k < a.length) (h2 : k < b.length) : ints (a.drop k) (b.drop k) = if cmpI a[k] b[k] = 0 then ints (a.drop (k + 1)) (b.drop (k + 1)) else cmpI a[k] b[k] := by
  rw [ints_step a b k h1 h2]; unfold cmpI; split
  · simp
  · split <;> simp
theorem slicesCompare_calls (w : World) (A B : Option Addr) (c d : Nat) (a b : List Int) (ha : Ints w A c a) (hb : Ints w B d b) : Calls Tryz.prog 121 #[.slice A a.length c, .slice B b.length d] w fun e w' => e = .returned (.int .i64 (ints a b)) ∧ On w w' := by
  have hma := ha.max
  have hmb := hb.max
  go_enter Tryz.func121, Tryz.ntmps121
  go_wp2
  go_loopw [11] (fun v wr => ∃ k : Nat, k ≤ a.length ∧ k ≤ b.length ∧ v = .int .i64 k ∧ Hid (ints (a.drop k) (b.drop k) = ints a b) ∧ On w wr) (fun v _ => a.length - (intOf v).toNat)
  case atStart => exact ⟨0, Nat.zero_le _, Nat.zero_le _, rfl, rfl, On.refl _⟩
  case round =>
    obtain ⟨k, hk1, hk2, rfl, hp, hB⟩ := hrel
    by_cases h1 : k < a.length
    · obtain ⟨ad, rfl, hx⟩ := (ha.on hB).at k h1
      by_cases h2 : k < b.length
      · obtain ⟨bd, rfl, hy⟩ := (hb.on hB).at k h2
        have h2n : decide (b.length ≤ k) = false := decide_eq_false (by omega)
        have hst := Aside0.mk ((ints_stepI a b k h1 h2).symm.trans hp.out)
        clear hp
        by_cases h3 : cmpI a[k] b[k] = 0
        · have h3' := Aside0.mk h3
          have h3b : (cmpI a[k] b[k] != 0) = false := by simp [h3]
          clear h3
          go_wp2_with (go_at_call 120; refine (cmpCompare_calls _ _ _).mono ?_; rintro e w3 ⟨rfl, hb3⟩)
          go_roundw
          case rel => exact ⟨k + 1, by omega, by omega, by go_num, (by have := hst.out; rwa [if_pos h3'.out] at this : _ = _), hB.trans hb3⟩
          case measure => simp [intOf]; omega
        · have h3' := Aside0.mk h3
          have h3b : (cmpI a[k] b[k] != 0) = true := by simp [h3]
          clear h3
          go_wp2_with (go_at_call 120; refine (cmpCompare_calls _ _ _).mono ?_; rintro e w3 ⟨rfl, hb3⟩)
          go_ret
          exact ⟨ret_int (by have := hst.out; rwa [if_neg h3'.out] at this), hB.trans hb3⟩
      · have hb0 : b.drop k = [] := List.drop_of_length_le (by omega)
        have h2n : decide (b.length ≤ k) = true := decide_eq_true (by omega)
        have hp' := Aside0.mk hp.out
        clear hp
        go_wp2
        go_ret
        exact ⟨ret_int (by rw [← hp'.out, hb0, List.drop_eq_getElem_cons h1]; rfl), hB⟩
    · have ha0 : a.drop k = [] := List.drop_of_length_le (by omega)
      have hp' := Aside0.mk hp.out
      clear hp
      by_cases h2 : k < b.length
      · have h4 : a.length < b.length := by omega
        go_wp2
        go_ret
        exact ⟨ret_int (by rw [← hp'.out, ha0, List.drop_eq_getElem_cons h2]; rfl), hB⟩
      · have hb0 : b.drop k = [] := List.drop_of_length_le (by omega)
        have h4 : ¬ a.length < b.length := by omega
        go_wp2
        go_ret
        exact ⟨ret_int (by rw [← hp'.out, ha0, hb0]; rfl), hB⟩
/-- The first that is not 0. -/
def orFrom : List Int → Int
  | [] => 0
  | x :: l => if x = 0 then orFrom l else x
theorem orFrom_step (l : List Int) (k : Nat) (h : k < l.length) : orFrom (l.drop k) = if l[k] = 0 then orFrom (l.drop (k + 1)) else l[k] := by
  rw [List.drop_eq_getElem_cons h]; rfl
theorem cmpOr_calls (w : World) (A c) (l : List Int) (h : Ints w A c l) : Calls Tryz.prog 119 #[.slice A l.length c] w fun e w' => e = .returned (.int .i64 (orFrom l)) ∧ On w w' := by
  have hmax := h.max
  go_enter Tryz.func119, Tryz.ntmps119
  go_wp2
  go_loop [8] (fun v => ∃ k : Nat, k ≤ l.length ∧ v = .int .i64 k ∧ Hid (orFrom (l.drop k) = orFrom l)) (fun v => l.length - (intOf v).toNat)
  case atStart => exact ⟨0, Nat.zero_le _, rfl, rfl⟩
  case round =>
    obtain ⟨k, hk, rfl, hp⟩ := hrel
    by_cases hlt : k < l.length
    · obtain ⟨ad, rfl, hx⟩ := h.at k hlt
      have hst := Aside0.mk ((orFrom_step l k hlt).symm.trans hp.out)
      clear hp
      by_cases h3 : l[k] = 0
      · have h3' := Aside0.mk h3
        have h3b : (l[k] != 0) = false := by simp [h3]
        clear h3
        go_wp2
        go_round
        case rel => exact ⟨k + 1, by omega, by go_num, (by have := hst.out; rwa [if_pos h3'.out] at this : _ = _)⟩
        case measure => simp [intOf]; omega
      · have h3' := Aside0.mk h3
        have h3b : (l[k] != 0) = true := by simp [h3]
        clear h3
        go_wp2
        go_ret
        exact ⟨ret_int (by have := hst.out; rwa [if_neg h3'.out] at this), On.refl _⟩
    · go_wp2
      go_ret
      exact ⟨ret_int (by rw [← hp.out, List.drop_of_length_le (by omega)]; rfl), On.refl _⟩
theorem ints2 (w : World) (a b : Int) : Ints (w.alloc (.cells #[.int .i64 a, .int .i64 b] 3)) (some ⟨w.heap.size, 0, none⟩) 2 [a, b] ↔ InR [a, b] := by
  refine ⟨fun h => h.2.2, fun h => ⟨Nat.le_refl _, ⟨rfl, by simp, fun _ => ⟨_, rfl, fun j p hj => ?_⟩⟩, h⟩⟩
  refine ⟨[.int .i64 p], rfl, rfl, fun i u hu => ?_⟩
  have hc := blk_cell (loc_new w #[.int .i64 a, .int .i64 b] 3)
  obtain ⟨rfl, rfl⟩ : i = 0 ∧ u = .int .i64 p := by
    cases i with
    | zero => simp at hu; exact ⟨rfl, hu.symm⟩
    | succ i => simp at hu
  rw [add_plain, show j * kInts.sz + 0 = j from by show j * 1 + 0 = j; omega, hc]
  match j, hj with
  | 0, hj => simp at hj; subst hj; rfl
  | 1, hj => simp at hj; subst hj; rfl
  | j + 2, hj => simp at hj
theorem ints_bd (a b : List Int) : -1 ≤ ints a b ∧ ints a b ≤ 1 := by
  induction a generalizing b with
  | nil => cases b <;> simp [ints]
  | cons x a ih =>
    cases b with
    | nil => simp [ints]
    | cons y b =>
      unfold ints
      split
      · omega
      · split
        · omega
        · exact ih b
theorem iCompareFacts_calls (w : World) (A0 c0 A1 c1) (f g : Fct) (h0 : Ints w A0 c0 f.2) (h1 : Ints w A1 c1 g.2) : Calls Tryz.prog 48 #[.agg #[.int .i64 f.1, .slice A0 f.2.length c0], .agg #[.int .i64 g.1, .slice A1 g.2.length c1]] w fun e w' => e = .returned (.int .i64 (cmpF f g)) ∧ On w w' := by
  have hb0 := Aside0.mk (On.alloc (On.alloc (On.refl w) (.cells #[.int .i64 f.1, .slice A0 f.2.length c0] 60)) (.cells #[.int .i64 g.1, .slice A1 g.2.length c1] 60))
  go_enter Tryz.func48, Tryz.ntmps48
  go_wp2
  refine Reg.region [(0,.L),(1,.L),(2,.L),(3,.L),(4,.C),(5,.L),(6,.L),(7,.L),(8,.L),(9,.C)] [10,11,12] (by kernel_rfl) (by kernel_rfl) ?_
  repeat first | refine sP ?_ | refine sS ?_ | refine sA ?_ | refine sL ?_ | refine sQ ?_ | refine sO ?_
  refine callC (.int .i64 (cmpI f.1 g.1)) Tryz.func120 (fun w' hS => ?_) ?_
  focus exact cmpCompare_calls w' _ _
  repeat first | refine sP ?_ | refine sS ?_ | refine sA ?_ | refine sL ?_ | refine sQ ?_ | refine sO ?_
  refine callC (.int .i64 (ints f.2 g.2)) Tryz.func121 (fun w' hS => ?_) ?_
  focus exact slicesCompare_calls w' _ _ _ _ f.2 g.2 (h0.on (hb0.out.trans hS)) (h1.on (hb0.out.trans hS))
  repeat first | refine sP ?_ | refine sS ?_ | refine sA ?_ | refine sL ?_ | refine sQ ?_ | refine sO ?_
  refine Reg.tail_ fun w2 hS => ?_
  have hc := cmpI_bd f.1 g.1
  have hi := ints_bd f.2 g.2
  have hr := Aside0.mk ((ints2 w2 (cmpI f.1 g.1) (ints f.2 g.2)).2 (fun x hx => by simp at hx; rcases hx with rfl | rfl <;> omega))
  clear hc hi
  go_wp2_with (go_at_call 119; refine (cmpOr_calls _ _ _ _ hr.out).mono ?_; rintro e w3 ⟨rfl, hb3⟩)
  go_ret
  refine ⟨ret_int ?_, (hb0.out.trans hS).trans ((On.alloc (On.refl _) _).trans hb3)⟩
  rw [cmpF_or]
  simp only [orFrom]
  by_cases h3 : cmpI f.1 g.1 = 0
  · simp only [h3, if_pos, ne_eq, not_true, if_false]
    by_cases h4 : ints f.2 g.2 = 0
    · rw [if_pos h4, h4]
    · rw [if_neg h4]
  · simp [h3]
end Go.Proofs.YtgemaohdlibboaaGreatDoor.H
/- Walks: facts written, on both sides. No condition. -/
namespace Go.Proofs.YtgemaohdlibboaaGreatDoor.H
open Go Go.RowKit Go.Proofs.YtgemaohdlibboaaGreatDoorW.PrintWords Go.Proofs.YtgemaohdlibboaaGreatDoorW.PrintLast
open Go.Proofs.YtgemaohdlibboaaGreatDoor.Reg (On on_draw)
set_option maxHeartbeats 4000000
set_option maxRecDepth 100000
set_option linter.unusedVariables false
set_option linter.unusedSimpArgs false

def txtF (vs : List Int) (k : Nat) : List UInt8 := Lib.join ((vs.take k).map fvL) [44]
theorem txtF_succ (vs : List Int) (k : Nat) (h : k < vs.length) : txtF vs (k + 1) = (if k = 0 then [] else txtF vs k ++ [44]) ++ fvL vs[k] := by
  unfold txtF
  rw [List.take_succ_eq_append_getElem h, List.map_append, List.map_cons, List.map_nil, join_snoc, List.length_map, List.length_take, Nat.min_eq_left (by omega)]
  by_cases c : k = 0
  · rw [if_pos c, if_pos c]; rfl
  · rw [if_neg c, if_neg c]
theorem txtF_len (vs : List Int) (k : Nat) (h : vs.length ≤ 3) : (txtF vs k).length ≤ 20 := by
  have := join_len [44] 3 _ ((vs.take k).map fvL) rfl (fun x hx => by
    obtain ⟨v, hv, rfl⟩ := List.mem_map.1 hx
    exact fvL_len v)
  rw [List.length_map, List.length_take] at this
  unfold txtF
  simp at this ⊢
  omega
theorem txtF_all (vs : List Int) (k : Nat) (h : vs.length ≤ k) : txtF vs k = Lib.join (vs.map fvL) [44] := by unfold txtF; rw [List.take_of_length_le h]
theorem fmtF_cat {rs : List Rel} {f : Fct} {b : UInt8} (h : okFact rs f = true) (hb : nameL rs f.1 = [b]) : fmtF rs f = ([b, 40] ++ Lib.join (f.2.map fvL) [44]) ++ [41] := by
  unfold fmtF; rw [if_pos h, hb]; simp
theorem fvs_take (vs : List Int) (k : Nat) (h : k < vs.length) : (vs.take (k + 1)).map fvL = (vs.take k).map fvL ++ [fvL vs[k]] := by
  rw [List.take_succ_eq_append_getElem h, List.map_append]; rfl
theorem sFormatFact_calls (w : World) (A : Option Addr) (c : Nat) (rs : List Rel) (h : Rels w A c rs) (A1 c1) (f : Fct) (h1 : Ints w A1 c1 f.2) : Calls Tryz.prog 114 #[.slice A rs.length c, .agg #[.int .i64 f.1, .slice A1 f.2.length c1]] w fun e w' => e = .returned (.string (strB (fmtF rs f))) ∧ On w w' := by
  have h' := Aside0.mk h
  have h1' := Aside0.mk h1
  clear h h1
  cases ho : okFact rs f with
  | false =>
    have hb := Aside0.mk (On.alloc (On.refl w) (.cells #[.int .i64 f.1, .slice A1 f.2.length c1] 60 (0, 0)))
    have ho' := Aside0.mk ho
    clear ho
    go_enter Tryz.func114, Tryz.ntmps114
    go_wp2_with (go_at_call 47; refine (IsValidFact_calls _ A c rs A1 c1 f (h'.out.on hb.out) (h1'.out.on hb.out)).mono ?_; rintro e w1 ⟨rfl, hb1⟩; rw [ho'.out])
    go_ret
    exact ⟨by unfold fmtF; rw [if_neg (by rw [ho'.out]; simp)]; rfl, hb.out.trans hb1⟩
  | true =>
    have ho' := Aside0.mk ho
    obtain ⟨rn, hrn, e1, e2, ⟨b, e3, -, -⟩, -, hvs⟩ := okFact_parts ho
    have hcat := Aside0.mk (fmtF_cat ho (e2.trans e3))
    have hl3 := Aside0.mk (okFact_len ho)
    obtain ⟨i, vs⟩ := f
    simp only at e1 hvs hcat hl3
    subst e1
    have hrn' := Aside0.mk hrn
    have hnm := Aside0.mk (show rs[rn].1 = strB [b] by rw [← e3, strB_self])
    have hvs' := Aside0.mk hvs
    have hbx := Aside0.mk (loc1 w #[.int .i64 (rn : Int), .slice A1 vs.length c1] 60)
    have hB0 := Aside0.mk (On.alloc (On.refl w) (.cells #[.int .i64 (rn : Int), .slice A1 vs.length c1] 60 (0, 0)))
    obtain ⟨w0, hw0⟩ : ∃ w0, w.alloc (.cells #[.int .i64 (rn : Int), .slice A1 vs.length c1] 60 (0, 0)) = w0 := ⟨_, rfl⟩
    clear ho e2 e3 hvs hw0
    have hmx := h1'.out.max
    go_enter Tryz.func114, Tryz.ntmps114
    go_wp2_with (go_at_call 47; refine Stop.out ?_)
    refine ⟨(IsValidFact_calls _ A c rs A1 c1 ((rn : Int), vs) (h'.out.on hB0.out) (h1'.out.on hB0.out)).mono ?_⟩
    rintro e w1 ⟨rfl, hb1⟩
    rw [ho'.out]
    have hB1 := Aside0.mk (hB0.out.trans hb1)
    have hbx1 := Aside0.mk (blk_below hbx.out.1 hb1)
    have hq0 := blk_cell hbx1.out
    obtain ⟨ad, hA, x0, -, -⟩ := (h'.out.on hB1.out).at rn hrn'.out
    subst hA
    rw [hnm.out] at x0
    have hrb := hrn'.out
    have c1' := cat1 [b] 40
    have z1' := szOk1 (a := [b]) (by simp)
    clear hb1
    go_wp2
    clear hq0 x0 c1' z1' hrb
    go_loopw [5, 6] (fun v5 v6 wr => ∃ (k : Nat) (s : List UInt8), k ≤ vs.length ∧ v5 = .string (strB s) ∧ v6 = .int .i64 k ∧ Aside0 (s = [b, 40] ++ txtF vs k) ∧ On w1 wr) (fun _ v6 _ => vs.length - (intOf v6).toNat)
    case atStart => exact ⟨0, _, Nat.zero_le _, rfl, rfl, ⟨by unfold txtF; simp [join_nil']⟩, On.refl _⟩
    case round =>
      obtain ⟨k, s, hk, rfl, rfl, hs, hB⟩ := hrel
      have hB' := Aside0.mk hB
      have hsl := Aside0.mk (show s.length ≤ 30 by rw [hs.out]; have := txtF_len vs k hl3.out; simp; omega)
      have hbxr := Aside0.mk (blk_below hbx1.out hB)
      have hq0 := blk_cell hbxr.out
      clear hB
      by_cases hlt : k < vs.length
      · obtain ⟨ad2, rfl, x2⟩ := (h1'.out.on (hB1.out.trans hB'.out)).at k hlt
        have hk' := Aside0.mk hlt
        have hstep := Aside0.mk (txtF_succ vs k hlt)
        have hbd := Aside0.mk (h1'.out.bd k hlt)
        obtain ⟨v, hv⟩ : ∃ v, vs[k] = v := ⟨_, rfl⟩
        rw [hv] at x2 hstep hbd
        clear hv
        have hs' := Aside0.mk hs.out
        clear hs
        have hfl := Aside0.mk (fvL_len v)
        by_cases hk0 : 0 < k
        · have hkb : decide ((0 : Int) < (k : Int)) = true := decide_eq_true (by omega)
          have hkn : decide (0 < k) = true := decide_eq_true hk0
          have c2 := cat1 s 44
          have z2 := szOk1 (a := s) (by have := hsl.out; omega)
          obtain ⟨t, ht⟩ : ∃ t, s ++ [44] = t := ⟨_, rfl⟩
          have htl := Aside0.mk (show t.length ≤ 31 by rw [← ht]; have := hsl.out; simp; omega)
          have hfin := Aside0.mk (show t ++ fvL v = [b, 40] ++ txtF vs (k + 1) by rw [hstep.out, if_neg (by omega), ← ht, hs'.out]; simp)
          rw [ht] at c2
          clear ht hk0
          have c3 := strB_append t (fvL v)
          have z3 := szOk (a := t) (b := fvL v) (by have := htl.out; have := hfl.out; omega)
          go_wp2_with (go_at_call 96; refine (sFormatValue_calls _ v hbd.out).mono ?_; rintro e w3 ⟨rfl, hb3⟩)
          exact ⟨⟨k + 1, _, by have := hk'.out; omega, rfl, by go_num, ⟨hfin.out⟩, hB'.out.trans hb3⟩, by simp [intOf]; have := hk'.out; omega⟩
        · have hkb : decide ((0 : Int) < (k : Int)) = false := decide_eq_false (by omega)
          have hkn : decide (0 < k) = false := decide_eq_false hk0
          have hfin := Aside0.mk (show s ++ fvL v = [b, 40] ++ txtF vs (k + 1) by rw [hstep.out, if_pos (by omega), hs'.out, show k = 0 by omega]; simp [txtF, join_nil'])
          clear hk0
          have c3 := strB_append s (fvL v)
          have z3 := szOk (a := s) (b := fvL v) (by have := hsl.out; have := hfl.out; omega)
          go_wp2_with (go_at_call 96; refine (sFormatValue_calls _ v hbd.out).mono ?_; rintro e w3 ⟨rfl, hb3⟩)
          exact ⟨⟨k + 1, _, by have := hk'.out; omega, rfl, by go_num, ⟨hfin.out⟩, hB'.out.trans hb3⟩, by simp [intOf]; have := hk'.out; omega⟩
      · have c4 := cat1 s 41
        have z4 := szOk1 (a := s) (by have := hsl.out; omega)
        have hfin := Aside0.mk (show s ++ [41] = fmtF rs ((rn : Int), vs) by rw [hcat.out, hs.out, txtF_all vs k (by omega)])
        clear hs
        go_wp2
        go_ret
        exact ⟨by rw [← hfin.out]; rfl, hB1.out.trans hB'.out⟩
theorem iFormatFact_calls (w : World) (A : Option Addr) (c : Nat) (rs : List Rel) (h : Rels w A c rs) (A1 c1) (f : Fct) (h1 : Ints w A1 c1 f.2) : Calls Tryz.prog 44 #[.slice A rs.length c, .agg #[.int .i64 f.1, .slice A1 f.2.length c1]] w fun e w' => e = .returned (.string (strB (fmtF rs f))) ∧ On w w' := by
  have h' := Aside0.mk h
  have h1' := Aside0.mk h1
  clear h h1
  cases ho : okFact rs f with
  | false =>
    have hb := Aside0.mk (On.alloc (On.refl w) (.cells #[.int .i64 f.1, .slice A1 f.2.length c1] 60 (0, 0)))
    have ho' := Aside0.mk ho
    clear ho
    go_enter Tryz.func44, Tryz.ntmps44
    go_wp2_with (go_at_call 50; refine (iIsValidFact_calls _ A c rs A1 c1 f (h'.out.on hb.out) (h1'.out.on hb.out)).mono ?_; rintro e w1 ⟨rfl, hb1⟩; rw [ho'.out])
    go_ret
    exact ⟨by unfold fmtF; rw [if_neg (by rw [ho'.out]; simp)]; rfl, hb.out.trans hb1⟩
  | true =>
    have ho' := Aside0.mk ho
    obtain ⟨rn, hrn, e1, e2, ⟨b, e3, -, -⟩, -, hvs⟩ := okFact_parts ho
    have hcat := Aside0.mk (fmtF_cat ho (e2.trans e3))
    have hl3 := Aside0.mk (okFact_len ho)
    obtain ⟨i, vs⟩ := f
    simp only at e1 hvs hcat hl3
    subst e1
    have hrn' := Aside0.mk hrn
    have hnm := Aside0.mk (show rs[rn].1 = strB [b] by rw [← e3, strB_self])
    have hvs' := Aside0.mk hvs
    have hbx := Aside0.mk (loc1 w #[.int .i64 (rn : Int), .slice A1 vs.length c1] 60)
    have hB0 := Aside0.mk (On.alloc (On.refl w) (.cells #[.int .i64 (rn : Int), .slice A1 vs.length c1] 60 (0, 0)))
    obtain ⟨w0, hw0⟩ : ∃ w0, w.alloc (.cells #[.int .i64 (rn : Int), .slice A1 vs.length c1] 60 (0, 0)) = w0 := ⟨_, rfl⟩
    clear ho e2 e3 hvs hw0
    have hmx := h1'.out.max
    go_enter Tryz.func44, Tryz.ntmps44
    go_wp2_with (go_at_call 50; refine Stop.out ?_)
    refine ⟨(iIsValidFact_calls _ A c rs A1 c1 ((rn : Int), vs) (h'.out.on hB0.out) (h1'.out.on hB0.out)).mono ?_⟩
    rintro e w1 ⟨rfl, hb1⟩
    rw [ho'.out]
    have hB1 := Aside0.mk (hB0.out.trans hb1)
    have hbx1 := Aside0.mk (blk_below hbx.out.1 hb1)
    have hq0 := blk_cell (blk_below hbx1.out (On.alloc (On.refl w1) (.cells #[] 9 (0, 0))))
    clear hb1
    go_wp2
    clear hq0
    go_loopw [5, 16] (fun v5 v16 wr => ∃ k : Nat, k ≤ vs.length ∧ v16 = .int .i64 k ∧ OSt wr w1.heap.size v5 ((vs.take k).map fvL) ∧ On w1 wr) (fun _ v16 _ => vs.length - (intOf v16).toNat)
    case atStart => exact ⟨0, Nat.zero_le _, rfl, ownS0 rfl (Nat.le_refl _), On.alloc (On.refl _) _⟩
    case round =>
      obtain ⟨k, hk, rfl, hO, hB⟩ := hrel
      have hB' := Aside0.mk hB
      obtain ⟨ls, hls⟩ : ∃ ls, (vs.take k).map fvL = ls := ⟨_, rfl⟩
      rw [hls] at hO
      have hls' := Aside0.mk hls
      have hO' := Aside0.mk hO
      clear hB hO hls
      by_cases hlt : k < vs.length
      · obtain ⟨ad2, rfl, x2⟩ := (h1'.out.on (hB1.out.trans hB'.out)).at k hlt
        have hk' := Aside0.mk hlt
        have hstep := Aside0.mk (fvs_take vs k hlt)
        have hbd := Aside0.mk (h1'.out.bd k hlt)
        obtain ⟨v, hv⟩ : ∃ v, vs[k] = v := ⟨_, rfl⟩
        rw [hv] at x2 hstep hbd
        clear hv
        go_wp2_with (go_at_call 95; refine Stop.out ?_)
        refine ⟨(iFormatValue_calls _ v hbd.out).mono ?_⟩
        rintro e w2 ⟨rfl, hb3⟩
        have hb3' := Aside0.mk hb3
        clear hb3 x2
        go_wp2_with (refine gate 23 ?_)
        refine ⟨litS1 23 (y := fvL v) ?_⟩
        have hOA := Aside0.mk (own_ex hO'.out (Ex.of_on (S := fun _ => False) (hb3'.out.trans (On.alloc (On.refl w2) (.cells #[.string (strB (fvL v))] 9 (0, 0))))) (fun _ _ h => h))
        have hBA := Aside0.mk (hB'.out.trans (hb3'.out.trans (On.alloc (On.refl w2) (.cells #[.string (strB (fvL v))] 9 (0, 0)))))
        obtain ⟨ys, hys⟩ : ∃ ys, ls ++ [fvL v] = ys := ⟨_, rfl⟩
        have hys' := Aside0.mk hys
        refine apS1 24 hys hOA.out (lit_S w2 (fvL v)) hBA.out.size (by have := hl3.out; rw [← hls'.out]; simp; omega) fun v3 w3 hO3 hg3 => ?_
        have hO3' := Aside0.mk hO3
        have hB3 := Aside0.mk (Ex.on hBA.out (Ex.of_grown hg3) (fun i e => own_base hO'.out i e.symm))
        clear hys hO3 hg3
        go_wp2
        refine ⟨⟨k + 1, by have := hk'.out; omega, by go_num, ?_, hB3.out⟩, by simp [intOf]; have := hk'.out; omega⟩
        rw [hstep.out, hls'.out, hys'.out]; exact hO3'.out
      · have e1 : vs.take k = vs := List.take_of_length_le (by omega)
        have hls2 := Aside0.mk (show vs.map fvL = ls by rw [← hls'.out, e1])
        clear e1
        obtain ⟨Aq, cq, rfl⟩ := own_slice hO'.out
        have hSt' := Aside0.mk (OSt.same hO'.out).2
        have hjl := Aside0.mk (show (Lib.join ls [44]).length ≤ 20 by rw [← hls2.out]; have := txtF_len vs vs.length hl3.out; rwa [txtF_all vs _ (Nat.le_refl _)] at this)
        have hll := Aside0.mk (show ls.length ≤ 1000000 by rw [← hls2.out]; have := hl3.out; simp; omega)
        have hbxr := Aside0.mk (blk_below hbx1.out hB'.out)
        have hq0 := blk_cell hbxr.out
        obtain ⟨ad, hA, x0, -, -⟩ := (h'.out.on (hB1.out.trans hB'.out)).at rn hrn'.out
        subst hA
        rw [hnm.out] at x0
        have hrb := hrn'.out
        have c1' := cat1 [b] 40
        have z1' := szOk1 (a := [b]) (by simp)
        obtain ⟨j, hj⟩ : ∃ j, Lib.join ls [44] = j := ⟨_, rfl⟩
        have hj' := Aside0.mk hj
        rw [hj] at hjl
        have c5 := strB_append [b, 40] j
        have z5 := szOk (a := [b, 40]) (b := j) (by have := hjl.out; simp; omega)
        obtain ⟨x, hx⟩ : ∃ x, [b, 40] ++ j = x := ⟨_, rfl⟩
        have hxl := Aside0.mk (show x.length ≤ 30 by rw [← hx]; have := hjl.out; simp; omega)
        rw [hx] at c5
        have hfin := Aside0.mk (show x ++ [41] = fmtF rs ((rn : Int), vs) by rw [hcat.out, ← hx, ← hj, hls2.out])
        have c6 := cat1 x 41
        have z6 := szOk1 (a := x) (by have := hxl.out; omega)
        clear hj hx
        go_wp2
        refine Reg.region [(0,.L),(1,.L),(2,.L),(3,.L),(4,.L),(5,.L),(6,.L),(7,.L),(8,.C),(9,.L),(10,.L)] [11] (by kernel_rfl) (by kernel_rfl) ?_
        repeat first | refine sP ?_ | refine sS ?_ | refine sA ?_ | refine sL ?_ | refine sQ ?_ | refine sO ?_
        refine callC (.string (strB j)) Tryz.func65 (fun w' hS => ?_) ?_
        focus (have h := Join_calls w' Aq cq ls [44] (hSt'.out.on hS) hll.out (by rw [hj'.out]; have := hjl.out; omega); rw [hj'.out] at h; exact h)
        repeat first | refine sP ?_ | refine sS ?_ | refine sA ?_ | refine sL ?_ | refine sQ ?_ | refine sO ?_
        refine Reg.tail_ fun w2 hS => ?_
        go_wp2
        go_ret
        exact ⟨by rw [← hfin.out]; rfl, (hB1.out.trans hB'.out).trans hS⟩
end Go.Proofs.YtgemaohdlibboaaGreatDoor.H
/- Walks: nulls. No condition. -/
namespace Go.Proofs.YtgemaohdlibboaaGreatDoor.H
open Go Go.RowKit Go.Proofs.YtgemaohdlibboaaGreatDoorW.PrintWords Go.Proofs.YtgemaohdlibboaaGreatDoorW.PrintLast
open Go.Proofs.YtgemaohdlibboaaGreatDoor.Reg (On on_draw)
set_option maxHeartbeats 1000000
set_option maxRecDepth 100000
set_option linter.unusedVariables false
set_option linter.unusedSimpArgs false

theorem l4Put_calls (w : World) (lo : Nat) (hlo : lo ≤ w.heap.size) (v : Value) (l : List Int) (x : Int) (hO : OInts w lo v l) (hr : InR l) (hl : l.length ≤ 5000000000) :
    Calls Tryz.prog 104 #[v, .int .i64 x] w (Got fun v' w' => OInts w' lo v' (put l x) ∧ On w w') := by
  obtain ⟨A, c, rfl, hI⟩ := OInts.slice hO hr
  go_enter Tryz.func104, Tryz.ntmps104
  go_wp2
  go_loop [5] (fun v => ∃ k : Nat, k ≤ l.length ∧ v = .int .i64 k ∧ Hid (∀ j, (h : j < l.length) → j < k → l[j] < x)) (fun v => l.length - (intOf v).toNat)
  case atStart => exact ⟨0, Nat.zero_le _, rfl, fun j _ h => by omega⟩
  case round =>
    obtain ⟨k, hk, rfl, hp⟩ := hrel
    by_cases hlt : k < l.length
    · obtain ⟨ad, rfl, hx⟩ := hI.at k hlt
      by_cases h1 : l[k] < x
      · have h1b : decide (l[k] < x) = true := decide_eq_true h1
        have hp2 := Aside0.mk hp.out
        clear hp
        go_wp2
        go_round
        case rel => exact ⟨k + 1, by omega, by go_num, fun j hj h => by
          rcases Nat.lt_or_ge j k with h2 | h2
          · exact hp2.out j hj h2
          · obtain rfl : j = k := by omega
            exact of_decide_eq_true h1b⟩
        case measure => simp [intOf]; omega
      · have h1b : decide (l[k] < x) = false := decide_eq_false h1
        have hm := Aside0.mk (put_mid l x k hlt (fun j h => hp.out j (by omega) h) h1)
        clear hp
        by_cases h2 : l[k] = x
        · have h2b : (l[k] == x) = true := beq_iff_eq.mpr h2
          go_wp2
          go_ret
          exact ⟨_, rfl, by rw [hm.out, if_pos (beq_iff_eq.1 h2b)]; exact hO, On.refl _⟩
        · have h2b : (l[k] == x) = false := beq_eq_false_iff_ne.mpr h2
          go_wp2_with (refine gate 38 ?_)
          refine ⟨slF 38 (hI.on (On.alloc (On.refl _) _)) hk fun A1 c1 hI1 => ?_⟩
          obtain ⟨ys, hys⟩ : ∃ ys, [x] ++ l.drop k = ys := ⟨_, rfl⟩
          have hys' := Aside0.mk hys
          refine apI 39 hys (own1 w x) hI1.2.1 (by simp) (by simp; omega) fun v2 w2 hO2 hg2 hat2 => ?_
          clear hys
          have hB2 : On w w2 := grown_own (On.alloc (On.refl _) _) (own1 w x) hg2 (Nat.le_refl _)
          go_wp2_with (refine gate 43 ?_)
          refine ⟨slT 43 (hI.on (hB2.trans (On.alloc (On.refl _) _))) hk fun hI3 => ?_⟩
          refine apI 44 (List.nil_append _) (own0 w2) hI3.2.1 (by simp) (by simp; omega) fun v4 w4 hO4 hg4 hat4 => ?_
          have hB4 : On w2 w4 := grown_own (On.alloc (On.refl _) _) (own0 w2) hg4 (Nat.le_refl _)
          obtain ⟨A2, c2, rfl, _, hC2⟩ := Kd.R_reads (OInts.on hO2 hB4)
          go_wp2_with (refine gate 46 ?_)
          obtain ⟨zs, hzs⟩ : ∃ zs, l.take k ++ ys = zs := ⟨_, rfl⟩
          have hzs' := Aside0.mk hzs
          refine ⟨apI 46 hzs hO4 hC2 hB4.size (by have := congrArg List.length hys'.out; simp at this ⊢; omega) fun v6 w6 hO6 hg6 hat6 => ?_⟩
          clear hzs
          have hB6 : On w w6 := hB2.trans (grown_own hB4 hO4 hg6 (Nat.le_refl _))
          go_wp2
          go_ret
          exact ⟨_, rfl, by rw [hm.out, if_neg (beq_eq_false_iff_ne.1 h2b)]; have h9 := Kd.R_lower hO6 (base' := lo) (by have := hB2.size; omega); rw [← hzs'.out, ← hys'.out] at h9; simpa using h9, hB6⟩
    · obtain rfl : k = l.length := by omega
      have hm := Aside0.mk (put_end l x (fun j h => hp.out j h h))
      clear hp
      go_wp2_with (refine gate 38 ?_)
      refine ⟨slF 38 (hI.on (On.alloc (On.refl _) _)) hk fun A1 c1 hI1 => ?_⟩
      obtain ⟨ys, hys⟩ : ∃ ys, [x] ++ l.drop l.length = ys := ⟨_, rfl⟩
      have hys' := Aside0.mk hys
      refine apI 39 hys (own1 w x) hI1.2.1 (by simp) (by simp) fun v2 w2 hO2 hg2 hat2 => ?_
      clear hys
      have hB2 : On w w2 := grown_own (On.alloc (On.refl _) _) (own1 w x) hg2 (Nat.le_refl _)
      go_wp2_with (refine gate 43 ?_)
      refine ⟨slT 43 (hI.on (hB2.trans (On.alloc (On.refl _) _))) hk fun hI3 => ?_⟩
      refine apI 44 (List.nil_append _) (own0 w2) hI3.2.1 (by simp) (by simp; omega) fun v4 w4 hO4 hg4 hat4 => ?_
      have hB4 : On w2 w4 := grown_own (On.alloc (On.refl _) _) (own0 w2) hg4 (Nat.le_refl _)
      obtain ⟨A2, c2, rfl, _, hC2⟩ := Kd.R_reads (OInts.on hO2 hB4)
      go_wp2_with (refine gate 46 ?_)
      obtain ⟨zs, hzs⟩ : ∃ zs, l.take l.length ++ ys = zs := ⟨_, rfl⟩
      have hzs' := Aside0.mk hzs
      refine ⟨apI 46 hzs hO4 hC2 hB4.size (by have := congrArg List.length hys'.out; simp at this ⊢; omega) fun v6 w6 hO6 hg6 hat6 => ?_⟩
      clear hzs
      have hB6 : On w w6 := hB2.trans (grown_own hB4 hO4 hg6 (Nat.le_refl _))
      go_wp2
      go_ret
      exact ⟨_, rfl, by rw [hm.out]; have h9 := Kd.R_lower hO6 (base' := lo) (by have := hB2.size; omega); rw [← hzs'.out, ← hys'.out] at h9; simpa using h9, hB6⟩
theorem NullsOfFact_calls (w : World) (A : Option Addr) (c : Nat) (r : Int) (vs : List Int) (hI : Ints w A c vs) (hl : vs.length ≤ 1000000000) :
    Calls Tryz.prog 71 #[.agg #[.int .i64 r, .slice A vs.length c]] w (Got fun v' w' => OInts w' w.heap.size v' (nuls vs) ∧ On w w') := by
  go_enter Tryz.func71, Tryz.ntmps71
  go_wp2
  go_loopw [3, 4] (fun v3 v4 wr => ∃ (k : Nat) (out : List Int), k ≤ vs.length ∧ v4 = .int .i64 k ∧ Aside0 (OInts wr w.heap.size v3 out) ∧ Aside0 (nulsFrom out (vs.drop k) = nuls vs) ∧ out.length ≤ k ∧ Aside0 (InR out) ∧ On w wr ∧ Loc wr [(w.heap.size, #[.int .i64 r, .slice A vs.length c], 60)]) (fun _ v4 _ => vs.length - (intOf v4).toNat)
  case atStart => exact ⟨0, [], Nat.zero_le _, rfl, ⟨own0' (by simp) (by simp)⟩, ⟨rfl⟩, Nat.zero_le _, ⟨fun x hx => by cases hx⟩, On.alloc (On.alloc (On.refl _) _) _, Loc.on (On.alloc (On.refl _) _) (loc1 _ _ _)⟩
  case round =>
    obtain ⟨k, out, hk, rfl, hO, hp, hlen, hR, hB, hL⟩ := hrel
    have hc0 := blk_cell hL.1
    have hL' := Aside0.mk hL
    clear hL
    by_cases hlt : k < vs.length
    · obtain ⟨ad, rfl, hx⟩ := (hI.on hB).at k hlt
      have hbd := hI.bd k hlt
      have hst := Aside0.mk ((nulsFrom_step out vs k hlt).symm.trans hp.out)
      clear hp
      cases hn : isNul vs[k] with
      | false =>
        have hn' := Aside0.mk hn
        clear hn
        go_wp2_with (go_at_call 146; refine (NullNumber_calls _ _ hbd.1).mono ?_; rintro e w2 ⟨rfl, hb2⟩; rw [hn'.out])
        go_roundw
        case rel => exact ⟨k + 1, out, by omega, by go_num, ⟨OInts.on hO.out hb2⟩, ⟨by have := hst.out; rwa [hn'.out, if_neg (by simp)] at this⟩, by omega, hR, hB.trans hb2, Loc.on hb2 hL'.out⟩
        case measure => simp [intOf]; omega
      | true =>
        have hn' := Aside0.mk hn
        clear hn
        have hnb := nulNum_bd vs[k]
        go_wp2_with (first | (go_at_call 146; refine (NullNumber_calls _ _ hbd.1).mono ?_; rintro e w2 ⟨rfl, hb2⟩; rw [hn'.out]) | (go_at_call 104; refine (l4Put_calls w2 w.heap.size (hB.trans hb2).size _ out (nulNum vs[k]) (OInts.on hO.out hb2) hR.out (by omega)).mono ?_; rintro e w3 ⟨v3, rfl, hO3, hb3⟩))
        go_roundw
        case rel => exact ⟨k + 1, put out (nulNum vs[k]), by omega, by go_num, ⟨hO3⟩, ⟨by have := hst.out; rwa [hn'.out, if_pos rfl] at this⟩, by have := put_length out (nulNum vs[k]); omega, ⟨put_inR hR.out (by omega) (by omega)⟩, (hB.trans hb2).trans hb3, Loc.on (hb2.trans hb3) hL'.out⟩
        case measure => simp [intOf]; omega
    · have hp' := Aside0.mk hp.out
      clear hp
      go_wp2
      go_ret
      exact ⟨_, rfl, by have := hp'.out; rw [List.drop_of_length_le (by omega)] at this; rw [← this]; exact hO.out, hB⟩
end Go.Proofs.YtgemaohdlibboaaGreatDoor.H
/- Walks: valid instances. No condition. -/
namespace Go.Proofs.YtgemaohdlibboaaGreatDoor.H
open Go Go.RowKit Go.Proofs.YtgemaohdlibboaaGreatDoorW.PrintWords Go.Proofs.YtgemaohdlibboaaGreatDoorW.PrintLast
open Go.Proofs.YtgemaohdlibboaaGreatDoor.Reg (On on_draw)
set_option maxHeartbeats 8000000
set_option maxRecDepth 100000
set_option linter.unusedVariables false
set_option linter.unusedSimpArgs false

theorem IsValidInstance_calls (w : World) (A0 c0 A1 c1) (rs : List Rel) (fs : List Fct) (h0 : Rels w A0 c0 rs) (h1 : Fcts w A1 c1 fs) :
    Calls Tryz.prog 18 #[.agg #[.slice A0 rs.length c0, .slice A1 fs.length c1]] w fun e w' => e = .returned (.bool (okInst rs fs)) ∧ On w w' := by
  have hm0 := h0.max
  have hm1 := h1.max
  go_enter Tryz.func18, Tryz.ntmps18
  go_wp2
  go_loopw [3] (fun v wr => ∃ k : Nat, k ≤ fs.length ∧ v = .int .i64 k ∧ Hid (factsFrom rs (prevFct fs k) (fs.drop k) = factsFrom rs none fs) ∧ On w wr ∧ Loc wr [(w.heap.size, #[.slice A0 rs.length c0, .slice A1 fs.length c1], 25)]) (fun v _ => fs.length - (intOf v).toNat)
  case atStart => exact ⟨0, Nat.zero_le _, rfl, rfl, On.alloc (On.refl _) _, loc1 _ _ _⟩
  case round =>
    obtain ⟨k, hk, rfl, hp, hB, hL⟩ := hrel
    have hc0 := blk_cell hL.1
    have hL' := Aside0.mk hL
    clear hL
    by_cases hlt : k < fs.length
    · obtain ⟨ad, A3, c3, rfl, hx0, hx1, hx2'⟩ := (h1.on hB).at k hlt
      have hfill := alloc_fill wr
      have hst := Aside0.mk ((factsFrom_step rs fs k hlt).symm.trans hp.out)
      have hbx := Aside0.mk (On.alloc (On.refl wr) (.cells #[.int .i64 fs[k].1, .slice A3 fs[k].2.length c3] 60))
      have hB2 := Aside0.mk (hB.trans hbx.out)
      have hcn := blk_cell (loc_new wr #[.int .i64 fs[k].1, .slice A3 fs[k].2.length c3] 60)
      have hcm := blk_cell (Loc.on hbx.out hL'.out).1
      clear hp
      cases hok0 : okFact rs fs[k] with
      | false =>
        have hok := Aside0.mk hok0
        clear hok0
        go_wp2
        refine Reg.region [(0,.L),(1,.L),(2,.L),(3,.C),(4,.L),(5,.L),(6,.L),(7,.L),(8,.L),(9,.L),(10,.L),(11,.L),(12,.L),(13,.L),(14,.L),(15,.L),(16,.C),(17,.L),(18,.L),(19,.L),(20,.L),(21,.L),(22,.L),(23,.L),(24,.L),(25,.L),(26,.L),(27,.L),(28,.L),(29,.L),(30,.N),(31,.L),(32,.L),(33,.L),(34,.L)] [] (by kernel_rfl) (by kernel_rfl) ?_
        repeat first | refine sP ?_ | refine sS ?_ | refine sA ?_ | refine sL ?_ | refine sQ ?_ | refine sO ?_
        refine callC (.bool false) Tryz.func47 (fun w' hS => ?_) ?_
        focus exact (IsValidFact_calls w' _ c0 rs _ c3 fs[k] (h0.on (hB2.out.trans hS)) (hx2'.on (hbx.out.trans hS))).mono fun e w'' h => ⟨by rw [h.1, hok.out], h.2⟩
        repeat first | refine sP ?_ | refine sS ?_ | refine sA ?_ | refine sL ?_ | refine sQ ?_ | refine sO ?_
        refine Reg.nil fun w2 hS => ?_
        go_wp2
        go_ret
        exact ⟨ret_bool (by have := hst.out; unfold okNext at this; rw [hok.out] at this; simp at this; simp [okInst, this]), hB2.out.trans hS⟩
      | true =>
        have hok := Aside0.mk hok0
        have hat := okFact_at hok0
        clear hok0
        have hat1 : fs[k].1.toNat < rs.length := by omega
        have hat2 : 0 ≤ fs[k].1 := hat.1
        have hat3 : fs[k].1 < rs.length := hat.2
        obtain ⟨ad0, rfl, _, _, hxs0⟩ := (h0.on hB2.out).at fs[k].1.toNat hat1
        have hxs : (wr.alloc (.cells #[.int .i64 fs[k].1, .slice A3 fs[k].2.length c3] 60)).cell? ⟨(ad0.add (fs[k].1.toNat * 3)).block, (ad0.add (fs[k].1.toNat * 3)).off + 2, none⟩ = some (.bool (srcOf rs fs[k].1)) := by rw [hxs0]; simp [srcOf, hat1]
        clear hxs0 hat
        by_cases hk0 : 0 < k
        · have hk0' : decide (0 < (k : Int)) = true := decide_eq_true (by omega)
          have hki : IntKind.i64.wrap ((k : Int) - 1) = ((k - 1 : Nat) : Int) := by rw [IntWalk.i64_in _ (by omega)]; omega
          have hk1 : k - 1 < fs.length := by omega
          obtain ⟨ad', A4, c4, e', hy0, hy1, hy2⟩ := (h1.on hB2.out).at (k - 1) hk1
          obtain rfl : ad = ad' := by simpa using e'
          have hpn : prevFct fs k = some fs[k - 1] := by simp [prevFct, show ¬ k = 0 by omega, show k - 1 < fs.length by omega]
          by_cases hc : cmpF fs[k - 1] fs[k] < 0
          · have hcb : decide (0 ≤ cmpF fs[k - 1] fs[k]) = false := decide_eq_false (by omega)
            have hpv := Aside0.mk (show okPrev (prevFct fs k) fs[k] = true by rw [hpn]; exact decide_eq_true hc)
            clear hc hpn
            cases hs : srcOf rs fs[k].1 with
            | false =>
              rw [hs] at hxs
              have hs' := Aside0.mk hs
              clear hs
              go_wp2
              refine Reg.region [(0,.L),(1,.L),(2,.L),(3,.C),(4,.L),(5,.L),(6,.L),(7,.L),(8,.L),(9,.L),(10,.L),(11,.L),(12,.L),(13,.L),(14,.L),(15,.L),(16,.C),(17,.L),(18,.L),(19,.L),(20,.L),(21,.L),(22,.L),(23,.L),(24,.L),(25,.L),(26,.L),(27,.L),(28,.L),(29,.L),(30,.N),(31,.L),(32,.L),(33,.L),(34,.L)] [] (by kernel_rfl) (by kernel_rfl) ?_
              repeat first | refine sP ?_ | refine sS ?_ | refine sA ?_ | refine sL ?_ | refine sQ ?_ | refine sO ?_
              refine callC (.bool true) Tryz.func47 (fun w' hS => ?_) ?_
              focus exact (IsValidFact_calls w' _ c0 rs _ c3 fs[k] (h0.on (hB2.out.trans hS)) (hx2'.on (hbx.out.trans hS))).mono fun e w'' h => ⟨by rw [h.1, hok.out], h.2⟩
              repeat first | refine sP ?_ | refine sS ?_ | refine sA ?_ | refine sL ?_ | refine sQ ?_ | refine sO ?_
              refine callC (.int .i64 (cmpF fs[k - 1] fs[k])) Tryz.func70 (fun w' hS => ?_) ?_
              focus exact CompareFacts_calls w' A4 c4 A3 c3 fs[k - 1] fs[k] (hy2.on hS) (hx2'.on (hbx.out.trans hS))
              repeat first | refine sP ?_ | refine sS ?_ | refine sA ?_ | refine sL ?_ | refine sQ ?_ | refine sO ?_
              refine Reg.nil fun w2 hS => ?_
              go_wp2
              go_roundw
              case rel => exact ⟨k + 1, by omega, by go_num, (by have := hst.out; unfold okNext at this; rw [hok.out, hpv.out, hs'.out] at this; simpa using this : _ = _), hB2.out.trans hS, Loc.on (hbx.out.trans hS) hL'.out⟩
              case measure => simp [intOf]; omega
            | true =>
              rw [hs] at hxs
              have hs' := Aside0.mk hs
              clear hs
              by_cases hz : (nuls fs[k].2).length = 0
              · have hzb : decide (0 < ((nuls fs[k].2).length : Int)) = false := decide_eq_false (by omega)
                have hzc : decide (0 < (nuls fs[k].2).length) = false := decide_eq_false (by omega)
                have hz' := Aside0.mk hz
                clear hz
                go_wp2
                refine Reg.region [(0,.L),(1,.L),(2,.L),(3,.C),(4,.L),(5,.L),(6,.L),(7,.L),(8,.L),(9,.L),(10,.L),(11,.L),(12,.L),(13,.L),(14,.L),(15,.L),(16,.C),(17,.L),(18,.L),(19,.L),(20,.L),(21,.L),(22,.L),(23,.L),(24,.L),(25,.L),(26,.L),(27,.L),(28,.L),(29,.L),(30,.N),(31,.L),(32,.L),(33,.L),(34,.L)] [] (by kernel_rfl) (by kernel_rfl) ?_
                repeat first | refine sP ?_ | refine sS ?_ | refine sA ?_ | refine sL ?_ | refine sQ ?_ | refine sO ?_
                refine callC (.bool true) Tryz.func47 (fun w' hS => ?_) ?_
                focus exact (IsValidFact_calls w' _ c0 rs _ c3 fs[k] (h0.on (hB2.out.trans hS)) (hx2'.on (hbx.out.trans hS))).mono fun e w'' h => ⟨by rw [h.1, hok.out], h.2⟩
                repeat first | refine sP ?_ | refine sS ?_ | refine sA ?_ | refine sL ?_ | refine sQ ?_ | refine sO ?_
                refine callC (.int .i64 (cmpF fs[k - 1] fs[k])) Tryz.func70 (fun w' hS => ?_) ?_
                focus exact CompareFacts_calls w' A4 c4 A3 c3 fs[k - 1] fs[k] (hy2.on hS) (hx2'.on (hbx.out.trans hS))
                repeat first | refine sP ?_ | refine sS ?_ | refine sA ?_ | refine sL ?_ | refine sQ ?_ | refine sO ?_
                refine callN Tryz.func71 (fun w' hS => ?_)
                focus
                  refine (NullsOfFact_calls w' A3 c3 fs[k].1 fs[k].2 (hx2'.on (hbx.out.trans hS)) (Nat.le_trans (okFact_len hok.out) (by omega))).mono ?_
                  rintro e w2 ⟨v, rfl, hO, hb⟩
                  refine ⟨v, rfl, hb, fun a' ha => ?_⟩
                  simp only [Act.put, List.setIfInBounds_toArray, List.set_cons_zero, List.set_cons_succ] at ha
                  subst ha
                  obtain ⟨A5, c5, rfl⟩ := Kd.R_slice hO
                  have hS2 := Aside0.mk (hS.trans hb)
                  clear hO hb hS
                repeat first | refine sP ?_ | refine sS ?_ | refine sA ?_ | refine sL ?_ | refine sQ ?_ | refine sO ?_
                refine Reg.nil fun w3 hS3 => ?_
                go_wp2
                exact ⟨⟨k + 1, by omega, by go_num, (by have := hst.out; unfold okNext at this; rw [hok.out, hpv.out, hs'.out, hz'.out] at this; simpa using this : _ = _), (hB2.out.trans hS2.out).trans hS3, Loc.on ((hbx.out.trans hS2.out).trans hS3) hL'.out⟩, by simp [intOf]; omega⟩
              · have hzb : decide (0 < ((nuls fs[k].2).length : Int)) = true := decide_eq_true (by omega)
                have hzc : decide (0 < (nuls fs[k].2).length) = true := decide_eq_true (by omega)
                have hz' := Aside0.mk (decide_eq_false hz)
                clear hz
                go_wp2
                refine Reg.region [(0,.L),(1,.L),(2,.L),(3,.C),(4,.L),(5,.L),(6,.L),(7,.L),(8,.L),(9,.L),(10,.L),(11,.L),(12,.L),(13,.L),(14,.L),(15,.L),(16,.C),(17,.L),(18,.L),(19,.L),(20,.L),(21,.L),(22,.L),(23,.L),(24,.L),(25,.L),(26,.L),(27,.L),(28,.L),(29,.L),(30,.N),(31,.L),(32,.L),(33,.L),(34,.L)] [] (by kernel_rfl) (by kernel_rfl) ?_
                repeat first | refine sP ?_ | refine sS ?_ | refine sA ?_ | refine sL ?_ | refine sQ ?_ | refine sO ?_
                refine callC (.bool true) Tryz.func47 (fun w' hS => ?_) ?_
                focus exact (IsValidFact_calls w' _ c0 rs _ c3 fs[k] (h0.on (hB2.out.trans hS)) (hx2'.on (hbx.out.trans hS))).mono fun e w'' h => ⟨by rw [h.1, hok.out], h.2⟩
                repeat first | refine sP ?_ | refine sS ?_ | refine sA ?_ | refine sL ?_ | refine sQ ?_ | refine sO ?_
                refine callC (.int .i64 (cmpF fs[k - 1] fs[k])) Tryz.func70 (fun w' hS => ?_) ?_
                focus exact CompareFacts_calls w' A4 c4 A3 c3 fs[k - 1] fs[k] (hy2.on hS) (hx2'.on (hbx.out.trans hS))
                repeat first | refine sP ?_ | refine sS ?_ | refine sA ?_ | refine sL ?_ | refine sQ ?_ | refine sO ?_
                refine callN Tryz.func71 (fun w' hS => ?_)
                focus
                  refine (NullsOfFact_calls w' A3 c3 fs[k].1 fs[k].2 (hx2'.on (hbx.out.trans hS)) (Nat.le_trans (okFact_len hok.out) (by omega))).mono ?_
                  rintro e w2 ⟨v, rfl, hO, hb⟩
                  refine ⟨v, rfl, hb, fun a' ha => ?_⟩
                  simp only [Act.put, List.setIfInBounds_toArray, List.set_cons_zero, List.set_cons_succ] at ha
                  subst ha
                  obtain ⟨A5, c5, rfl⟩ := Kd.R_slice hO
                  have hS2 := Aside0.mk (hS.trans hb)
                  clear hO hb hS
                repeat first | refine sP ?_ | refine sS ?_ | refine sA ?_ | refine sL ?_ | refine sQ ?_ | refine sO ?_
                refine Reg.nil fun w3 hS3 => ?_
                go_wp2
                go_ret
                exact ⟨ret_bool (by have := hst.out; unfold okNext at this; rw [hok.out, hpv.out, hs'.out, hz'.out] at this; simp at this; simp [okInst, this]), (hB2.out.trans hS2.out).trans hS3⟩
          · have hcb : decide (0 ≤ cmpF fs[k - 1] fs[k]) = true := decide_eq_true (by omega)
            have hpv := Aside0.mk (show okPrev (prevFct fs k) fs[k] = false by rw [hpn]; exact decide_eq_false hc)
            clear hc hpn
            go_wp2
            refine Reg.region [(0,.L),(1,.L),(2,.L),(3,.C),(4,.L),(5,.L),(6,.L),(7,.L),(8,.L),(9,.L),(10,.L),(11,.L),(12,.L),(13,.L),(14,.L),(15,.L),(16,.C),(17,.L),(18,.L),(19,.L),(20,.L),(21,.L),(22,.L),(23,.L),(24,.L),(25,.L),(26,.L),(27,.L),(28,.L),(29,.L),(30,.N),(31,.L),(32,.L),(33,.L),(34,.L)] [] (by kernel_rfl) (by kernel_rfl) ?_
            repeat first | refine sP ?_ | refine sS ?_ | refine sA ?_ | refine sL ?_ | refine sQ ?_ | refine sO ?_
            refine callC (.bool true) Tryz.func47 (fun w' hS => ?_) ?_
            focus exact (IsValidFact_calls w' _ c0 rs _ c3 fs[k] (h0.on (hB2.out.trans hS)) (hx2'.on (hbx.out.trans hS))).mono fun e w'' h => ⟨by rw [h.1, hok.out], h.2⟩
            repeat first | refine sP ?_ | refine sS ?_ | refine sA ?_ | refine sL ?_ | refine sQ ?_ | refine sO ?_
            refine callC (.int .i64 (cmpF fs[k - 1] fs[k])) Tryz.func70 (fun w' hS => ?_) ?_
            focus exact CompareFacts_calls w' A4 c4 A3 c3 fs[k - 1] fs[k] (hy2.on hS) (hx2'.on (hbx.out.trans hS))
            repeat first | refine sP ?_ | refine sS ?_ | refine sA ?_ | refine sL ?_ | refine sQ ?_ | refine sO ?_
            refine Reg.nil fun w2 hS => ?_
            go_wp2
            go_ret
            exact ⟨ret_bool (by have := hst.out; unfold okNext at this; rw [hok.out, hpv.out] at this; simp at this; simp [okInst, this]), hB2.out.trans hS⟩
        · have hk0' : decide (0 < (k : Int)) = false := decide_eq_false (by omega)
          have hpv := Aside0.mk (show okPrev (prevFct fs k) fs[k] = true by simp [okPrev, prevFct, show k = 0 by omega])
          cases hs : srcOf rs fs[k].1 with
          | false =>
            rw [hs] at hxs
            have hs' := Aside0.mk hs
            clear hs
            go_wp2
            refine Reg.region [(0,.L),(1,.L),(2,.L),(3,.C),(4,.L),(5,.L),(6,.L),(7,.L),(8,.L),(9,.L),(10,.L),(11,.L),(12,.L),(13,.L),(14,.L),(15,.L),(16,.C),(17,.L),(18,.L),(19,.L),(20,.L),(21,.L),(22,.L),(23,.L),(24,.L),(25,.L),(26,.L),(27,.L),(28,.L),(29,.L),(30,.N),(31,.L),(32,.L),(33,.L),(34,.L)] [] (by kernel_rfl) (by kernel_rfl) ?_
            repeat first | refine sP ?_ | refine sS ?_ | refine sA ?_ | refine sL ?_ | refine sQ ?_ | refine sO ?_
            refine callC (.bool true) Tryz.func47 (fun w' hS => ?_) ?_
            focus exact (IsValidFact_calls w' _ c0 rs _ c3 fs[k] (h0.on (hB2.out.trans hS)) (hx2'.on (hbx.out.trans hS))).mono fun e w'' h => ⟨by rw [h.1, hok.out], h.2⟩
            repeat first | refine sP ?_ | refine sS ?_ | refine sA ?_ | refine sL ?_ | refine sQ ?_ | refine sO ?_
            refine Reg.nil fun w2 hS => ?_
            go_wp2
            go_roundw
            case rel => exact ⟨k + 1, by omega, by go_num, (by have := hst.out; unfold okNext at this; rw [hok.out, hpv.out, hs'.out] at this; simpa using this : _ = _), hB2.out.trans hS, Loc.on (hbx.out.trans hS) hL'.out⟩
            case measure => simp [intOf]; omega
          | true =>
            rw [hs] at hxs
            have hs' := Aside0.mk hs
            clear hs
            by_cases hz : (nuls fs[k].2).length = 0
            · have hzb : decide (0 < ((nuls fs[k].2).length : Int)) = false := decide_eq_false (by omega)
              have hzc : decide (0 < (nuls fs[k].2).length) = false := decide_eq_false (by omega)
              have hz' := Aside0.mk hz
              clear hz
              go_wp2
              refine Reg.region [(0,.L),(1,.L),(2,.L),(3,.C),(4,.L),(5,.L),(6,.L),(7,.L),(8,.L),(9,.L),(10,.L),(11,.L),(12,.L),(13,.L),(14,.L),(15,.L),(16,.C),(17,.L),(18,.L),(19,.L),(20,.L),(21,.L),(22,.L),(23,.L),(24,.L),(25,.L),(26,.L),(27,.L),(28,.L),(29,.L),(30,.N),(31,.L),(32,.L),(33,.L),(34,.L)] [] (by kernel_rfl) (by kernel_rfl) ?_
              repeat first | refine sP ?_ | refine sS ?_ | refine sA ?_ | refine sL ?_ | refine sQ ?_ | refine sO ?_
              refine callC (.bool true) Tryz.func47 (fun w' hS => ?_) ?_
              focus exact (IsValidFact_calls w' _ c0 rs _ c3 fs[k] (h0.on (hB2.out.trans hS)) (hx2'.on (hbx.out.trans hS))).mono fun e w'' h => ⟨by rw [h.1, hok.out], h.2⟩
              repeat first | refine sP ?_ | refine sS ?_ | refine sA ?_ | refine sL ?_ | refine sQ ?_ | refine sO ?_
              refine callN Tryz.func71 (fun w' hS => ?_)
              focus
                refine (NullsOfFact_calls w' A3 c3 fs[k].1 fs[k].2 (hx2'.on (hbx.out.trans hS)) (Nat.le_trans (okFact_len hok.out) (by omega))).mono ?_
                rintro e w2 ⟨v, rfl, hO, hb⟩
                refine ⟨v, rfl, hb, fun a' ha => ?_⟩
                simp only [Act.put, List.setIfInBounds_toArray, List.set_cons_zero, List.set_cons_succ] at ha
                subst ha
                obtain ⟨A5, c5, rfl⟩ := Kd.R_slice hO
                have hS2 := Aside0.mk (hS.trans hb)
                clear hO hb hS
              repeat first | refine sP ?_ | refine sS ?_ | refine sA ?_ | refine sL ?_ | refine sQ ?_ | refine sO ?_
              refine Reg.nil fun w3 hS3 => ?_
              go_wp2
              exact ⟨⟨k + 1, by omega, by go_num, (by have := hst.out; unfold okNext at this; rw [hok.out, hpv.out, hs'.out, hz'.out] at this; simpa using this : _ = _), (hB2.out.trans hS2.out).trans hS3, Loc.on ((hbx.out.trans hS2.out).trans hS3) hL'.out⟩, by simp [intOf]; omega⟩
            · have hzb : decide (0 < ((nuls fs[k].2).length : Int)) = true := decide_eq_true (by omega)
              have hzc : decide (0 < (nuls fs[k].2).length) = true := decide_eq_true (by omega)
              have hz' := Aside0.mk (decide_eq_false hz)
              clear hz
              go_wp2
              refine Reg.region [(0,.L),(1,.L),(2,.L),(3,.C),(4,.L),(5,.L),(6,.L),(7,.L),(8,.L),(9,.L),(10,.L),(11,.L),(12,.L),(13,.L),(14,.L),(15,.L),(16,.C),(17,.L),(18,.L),(19,.L),(20,.L),(21,.L),(22,.L),(23,.L),(24,.L),(25,.L),(26,.L),(27,.L),(28,.L),(29,.L),(30,.N),(31,.L),(32,.L),(33,.L),(34,.L)] [] (by kernel_rfl) (by kernel_rfl) ?_
              repeat first | refine sP ?_ | refine sS ?_ | refine sA ?_ | refine sL ?_ | refine sQ ?_ | refine sO ?_
              refine callC (.bool true) Tryz.func47 (fun w' hS => ?_) ?_
              focus exact (IsValidFact_calls w' _ c0 rs _ c3 fs[k] (h0.on (hB2.out.trans hS)) (hx2'.on (hbx.out.trans hS))).mono fun e w'' h => ⟨by rw [h.1, hok.out], h.2⟩
              repeat first | refine sP ?_ | refine sS ?_ | refine sA ?_ | refine sL ?_ | refine sQ ?_ | refine sO ?_
              refine callN Tryz.func71 (fun w' hS => ?_)
              focus
                refine (NullsOfFact_calls w' A3 c3 fs[k].1 fs[k].2 (hx2'.on (hbx.out.trans hS)) (Nat.le_trans (okFact_len hok.out) (by omega))).mono ?_
                rintro e w2 ⟨v, rfl, hO, hb⟩
                refine ⟨v, rfl, hb, fun a' ha => ?_⟩
                simp only [Act.put, List.setIfInBounds_toArray, List.set_cons_zero, List.set_cons_succ] at ha
                subst ha
                obtain ⟨A5, c5, rfl⟩ := Kd.R_slice hO
                have hS2 := Aside0.mk (hS.trans hb)
                clear hO hb hS
              repeat first | refine sP ?_ | refine sS ?_ | refine sA ?_ | refine sL ?_ | refine sQ ?_ | refine sO ?_
              refine Reg.nil fun w3 hS3 => ?_
              go_wp2
              go_ret
              exact ⟨ret_bool (by have := hst.out; unfold okNext at this; rw [hok.out, hpv.out, hs'.out, hz'.out] at this; simp at this; simp [okInst, this]), (hB2.out.trans hS2.out).trans hS3⟩
    · have hfl : factsFrom rs none fs = true := by rw [← hp.out, List.drop_of_length_le (by omega)]; cases prevFct fs k <;> rfl
      have hfl' := Aside0.mk hfl
      clear hp hfl
      cases hr : okRels rs with
      | false =>
        have hr' := Aside0.mk hr
        clear hr
        go_wp2_with (go_at_call 41; refine (AreValidRelations_calls wr A0 c0 rs (h0.on hB)).mono ?_; rintro e w3 ⟨rfl, hb3⟩; rw [hr'.out]; have hc3 := blk_cell (Loc.on hb3 hL'.out).1)
        go_ret
        exact ⟨ret_bool (by simp [okInst, hfl'.out, hr'.out]), hB.trans hb3⟩
      | true =>
        have hr' := Aside0.mk hr
        clear hr
        by_cases h30 : (fs.length : Int) ≤ 30
        · have h30b : decide ((fs.length : Int) ≤ 30) = true := decide_eq_true h30
          have h30c : decide (fs.length ≤ 30) = true := decide_eq_true (by omega)
          go_wp2_with (go_at_call 41; refine (AreValidRelations_calls wr A0 c0 rs (h0.on hB)).mono ?_; rintro e w3 ⟨rfl, hb3⟩; rw [hr'.out]; have hc3 := blk_cell (Loc.on hb3 hL'.out).1)
          go_ret
          exact ⟨ret_bool (by simp [okInst, hfl'.out, hr'.out]; omega), hB.trans hb3⟩
        · have h30b : decide ((fs.length : Int) ≤ 30) = false := decide_eq_false h30
          have h30c : decide (fs.length ≤ 30) = false := decide_eq_false (by omega)
          go_wp2_with (go_at_call 41; refine (AreValidRelations_calls wr A0 c0 rs (h0.on hB)).mono ?_; rintro e w3 ⟨rfl, hb3⟩; rw [hr'.out]; have hc3 := blk_cell (Loc.on hb3 hL'.out).1)
          go_ret
          exact ⟨ret_bool (by simp [okInst, hfl'.out, hr'.out]; omega), hB.trans hb3⟩
end Go.Proofs.YtgemaohdlibboaaGreatDoor.H
/- Walks: nulls of instances. No condition. -/
namespace Go.Proofs.YtgemaohdlibboaaGreatDoor.H
open Go Go.RowKit Go.Proofs.YtgemaohdlibboaaGreatDoorW.PrintWords Go.Proofs.YtgemaohdlibboaaGreatDoorW.PrintLast
open Go.Proofs.YtgemaohdlibboaaGreatDoor.Reg (On on_draw)
set_option maxHeartbeats 1000000
set_option maxRecDepth 100000
set_option linter.unusedVariables false
set_option linter.unusedSimpArgs false

theorem nulsFrom_ok (out vs : List Int) (h : ∀ x ∈ out, 0 ≤ x ∧ x ≤ 39) : (∀ x ∈ nulsFrom out vs, 0 ≤ x ∧ x ≤ 39) ∧ (nulsFrom out vs).length ≤ out.length + vs.length := by
  induction vs generalizing out with
  | nil => exact ⟨h, by simp [nulsFrom]⟩
  | cons v vs ih =>
    unfold nulsFrom
    split
    · have h2 := ih (put out (nulNum v)) (fun x hx => by
        rcases put_mem hx with hx | rfl
        · exact h x hx
        · exact nulNum_bd v)
      have := put_length out (nulNum v)
      exact ⟨h2.1, by simp only [List.length_cons]; omega⟩
    · have h2 := ih out h
      exact ⟨h2.1, by simp only [List.length_cons]; omega⟩
theorem nuls_ok (vs : List Int) : (∀ x ∈ nuls vs, 0 ≤ x ∧ x ≤ 39) ∧ (nuls vs).length ≤ vs.length := by
  have := nulsFrom_ok [] vs (fun x hx => by cases hx)
  exact ⟨this.1, Nat.le_trans this.2 (by simp)⟩
end Go.Proofs.YtgemaohdlibboaaGreatDoor.H
