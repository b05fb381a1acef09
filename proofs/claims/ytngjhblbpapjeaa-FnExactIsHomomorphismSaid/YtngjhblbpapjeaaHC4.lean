/- Walk: the program's own valid instances. No condition. -/
import Derived.Test.YtngjhblbpapjeaaHC3
import Derived.Test.YtngjhblbpapjeaaHK1
namespace Go.Proofs.Ytngjhblbpapjeaa.H
open Go Go.RowKit Go.Proofs.YtngjhblbpapjeaaW.PrintWords Go.Proofs.YtngjhblbpapjeaaW.PrintLast
open Go.Proofs.Ytngjhblbpapjeaa.Reg (On on_draw)
set_option maxHeartbeats 8000000
set_option maxRecDepth 100000
set_option linter.unusedVariables false
set_option linter.unusedSimpArgs false

theorem iIsValidInstance_calls (w : World) (A0 c0 A1 c1) (rs : List Rel) (fs : List Fct) (h0 : Rels w A0 c0 rs) (h1 : Fcts w A1 c1 fs) :
    Calls Try.prog 66 #[.agg #[.slice A0 rs.length c0, .slice A1 fs.length c1]] w fun e w' => e = .returned (.bool (okInst rs fs)) ∧ On w w' := by
  have hm0 := h0.max
  have hm1 := h1.max
  have hbI := Aside0.mk (On.alloc (On.refl w) (.cells #[.slice A0 rs.length c0, .slice A1 fs.length c1] 32))
  have hLI := Aside0.mk (loc1 w #[.slice A0 rs.length c0, .slice A1 fs.length c1] 32)
  cases hr : okRels rs with
  | false =>
    have hr' := Aside0.mk hr
    clear hr
    go_enter Try.func66, Try.ntmps66
    go_wp2_with (go_at_call 107; refine (iAreValidRelations_calls _ A0 c0 rs (h0.on hbI.out)).mono ?_; rintro e w3 ⟨rfl, hb3⟩; rw [hr'.out]; have hc3 := blk_cell (Loc.on hb3 hLI.out).1)
    go_ret
    exact ⟨ret_bool (by simp [okInst, hr'.out]), hbI.out.trans hb3⟩
  | true =>
    have hr' := Aside0.mk hr
    clear hr
    by_cases h30 : (fs.length : Int) ≤ 30
    · have h30b : decide ((fs.length : Int) ≤ 30) = true := decide_eq_true h30
      have h30c : decide (fs.length ≤ 30) = true := decide_eq_true (by omega)
      have h30d : decide (30 < fs.length) = false := decide_eq_false (by omega)
      have h30e : decide (30 < (fs.length : Int)) = false := decide_eq_false (by omega)
      go_enter Try.func66, Try.ntmps66
      go_wp2_with (go_at_call 107; refine (iAreValidRelations_calls _ A0 c0 rs (h0.on hbI.out)).mono ?_; rintro e w3 ⟨rfl, hb3⟩; rw [hr'.out]; have hL3 := Aside0.mk (Loc.on hb3 hLI.out); have hc3 := blk_cell hL3.out.1; have hb3' := Aside0.mk hb3; clear hb3)
      clear hc3
      go_loopw [18] (fun v wr => ∃ k : Nat, k ≤ fs.length ∧ v = .int .i64 k ∧ Hid (factsFrom rs (prevFct fs k) (fs.drop k) = factsFrom rs none fs) ∧ On w wr ∧ Loc wr [(w.heap.size, #[.slice A0 rs.length c0, .slice A1 fs.length c1], 32)]) (fun v _ => fs.length - (intOf v).toNat)
      case atStart => exact ⟨0, Nat.zero_le _, rfl, rfl, hbI.out.trans hb3'.out, hL3.out⟩
      case round =>
        obtain ⟨k, hk, rfl, hp, hB, hL⟩ := hrel
        clear hb3' hL3
        have hc0 := blk_cell hL.1
        have hL' := Aside0.mk hL
        clear hL
        by_cases hlt : k < fs.length
        · obtain ⟨ad, A3, c3, rfl, hx0, hx1, hx2'⟩ := (h1.on hB).at k hlt
          have hfill := alloc_fill wr
          have hst := Aside0.mk ((factsFrom_step rs fs k hlt).symm.trans hp.out)
          have hbx := Aside0.mk (On.alloc (On.refl wr) (.cells #[.int .i64 fs[k].1, .slice A3 fs[k].2.length c3] 55))
          have hB2 := Aside0.mk (hB.trans hbx.out)
          have hcn := blk_cell (loc_new wr #[.int .i64 fs[k].1, .slice A3 fs[k].2.length c3] 55)
          have hcm := blk_cell (Loc.on hbx.out hL'.out).1
          clear hp
          cases hok0 : okFact rs fs[k] with
          | false =>
            have hok := Aside0.mk hok0
            clear hok0
            go_wp2
            refine Reg.region [(0,.L),(1,.L),(2,.L),(3,.C),(4,.L),(5,.L),(6,.L),(7,.L),(8,.L),(9,.L),(10,.L),(11,.L),(12,.L),(13,.L),(14,.L),(15,.L),(16,.C),(17,.L),(18,.L),(19,.L)] [] (by kernel_rfl) (by kernel_rfl) ?_
            repeat first | refine sP ?_ | refine sS ?_ | refine sA ?_ | refine sL ?_ | refine sQ ?_ | refine sO ?_
            refine callC (.bool false) Try.func108 (fun w' hS => ?_) ?_
            focus exact (iIsValidFact_calls w' _ c0 rs _ c3 fs[k] (h0.on (hB2.out.trans hS)) (hx2'.on (hbx.out.trans hS))).mono fun e w'' h => ⟨by rw [h.1, hok.out], h.2⟩
            repeat first | refine sP ?_ | refine sS ?_ | refine sA ?_ | refine sL ?_ | refine sQ ?_ | refine sO ?_
            refine Reg.nil fun w2 hS => ?_
            go_wp2
            go_ret
            exact ⟨ret_bool (by have := hst.out; unfold okNext at this; rw [hok.out] at this; simp at this; simp [okInst, this]), hB2.out.trans hS⟩
          | true =>
            have hok := Aside0.mk hok0
            have hat := okFact_at hok0
            clear hok0
            have hat1 : fs[k].1.toNat < rs.length := by omega
            have hat2 : 0 ≤ fs[k].1 := hat.1
            have hat3 : fs[k].1 < rs.length := hat.2
            obtain ⟨ad0, rfl, _, _, _⟩ := (h0.on hB2.out).at fs[k].1.toNat hat1
            clear hat
            by_cases hk0 : 0 < k
            · have hk0' : decide (0 < (k : Int)) = true := decide_eq_true (by omega)
              have hki : IntKind.i64.wrap ((k : Int) - 1) = ((k - 1 : Nat) : Int) := by rw [IntWalk.i64_in _ (by omega)]; omega
              have hk1 : k - 1 < fs.length := by omega
              obtain ⟨ad', A4, c4, e', hy0, hy1, hy2⟩ := (h1.on hB2.out).at (k - 1) hk1
              obtain rfl : ad = ad' := by simpa using e'
              have hpn : prevFct fs k = some fs[k - 1] := by simp [prevFct, show ¬ k = 0 by omega, show k - 1 < fs.length by omega]
              by_cases hc : cmpF fs[k - 1] fs[k] < 0
              · have hcb : decide (0 ≤ cmpF fs[k - 1] fs[k]) = false := decide_eq_false (by omega)
                have hpv := Aside0.mk (show okPrev (prevFct fs k) fs[k] = true by rw [hpn]; exact decide_eq_true hc)
                clear hc hpn
                go_wp2
                refine Reg.region [(0,.L),(1,.L),(2,.L),(3,.C),(4,.L),(5,.L),(6,.L),(7,.L),(8,.L),(9,.L),(10,.L),(11,.L),(12,.L),(13,.L),(14,.L),(15,.L),(16,.C),(17,.L),(18,.L),(19,.L)] [] (by kernel_rfl) (by kernel_rfl) ?_
                repeat first | refine sP ?_ | refine sS ?_ | refine sA ?_ | refine sL ?_ | refine sQ ?_ | refine sO ?_
                refine callC (.bool true) Try.func108 (fun w' hS => ?_) ?_
                focus exact (iIsValidFact_calls w' _ c0 rs _ c3 fs[k] (h0.on (hB2.out.trans hS)) (hx2'.on (hbx.out.trans hS))).mono fun e w'' h => ⟨by rw [h.1, hok.out], h.2⟩
                repeat first | refine sP ?_ | refine sS ?_ | refine sA ?_ | refine sL ?_ | refine sQ ?_ | refine sO ?_
                refine callC (.int .i64 (cmpF fs[k - 1] fs[k])) Try.func109 (fun w' hS => ?_) ?_
                focus exact iCompareFacts_calls w' A4 c4 A3 c3 fs[k - 1] fs[k] (hy2.on hS) (hx2'.on (hbx.out.trans hS))
                repeat first | refine sP ?_ | refine sS ?_ | refine sA ?_ | refine sL ?_ | refine sQ ?_ | refine sO ?_
                clear hy0 hy1 hy2 hki hcb
                refine Reg.nil fun w2 hS => ?_
                clear hcn hcm hfill
                have hc5 := blk_cell (Loc.on (hbx.out.trans hS) hL'.out).1
                have hc6 := blk_cell (blk_below (loc_new wr #[.int .i64 fs[k].1, .slice A3 fs[k].2.length c3] 55) hS)
                obtain ⟨ad1, e9, _, _, hxs1⟩ := (h0.on (hB2.out.trans hS)).at fs[k].1.toNat hat1
                obtain rfl : ad0 = ad1 := by simpa using e9
                have hsr : rs[fs[k].1.toNat].2.2 = srcOf rs fs[k].1 := by simp [srcOf, hat1]
                rw [hsr] at hxs1
                clear hsr e9
                have hB3 := Aside0.mk (hB2.out.trans hS)
                have hL3 := Aside0.mk (Loc.on (hbx.out.trans hS) hL'.out)
                have hx3 := Aside0.mk (hx2'.on (hbx.out.trans hS))
                clear hS
                cases hs : srcOf rs fs[k].1 with
                | false =>
                  rw [hs] at hxs1
                  have hs' := Aside0.mk hs
                  clear hs
                  go_wp2
                  go_roundw
                  case rel => exact ⟨k + 1, by omega, by go_num, (by have := hst.out; unfold okNext at this; rw [hok.out, hpv.out, hs'.out] at this; simpa using this : _ = _), hB3.out, hL3.out⟩
                  case measure => simp [intOf]; omega
                | true =>
                  rw [hs] at hxs1
                  have hs' := Aside0.mk hs
                  clear hs
                  have hnn := Aside0.mk (nuls_ok fs[k].2)
                  by_cases hz : (nuls fs[k].2).length = 0
                  · have hzb : decide (0 < ((nuls fs[k].2).length : Int)) = false := decide_eq_false (by omega)
                    have hzc : decide (0 < (nuls fs[k].2).length) = false := decide_eq_false (by omega)
                    have hz' := Aside0.mk hz
                    clear hz
                    go_wp2_with (go_at_call 110; refine (iNullsOfFact_calls _ A3 c3 fs[k].1 fs[k].2 hx3.out (Nat.le_trans (okFact_len hok.out) (by omega))).mono ?_; rintro e w4 ⟨v4, rfl, hO4, hb4⟩; obtain ⟨A5, c5, rfl⟩ := own_slice hO4; clear hO4)
                    exact ⟨⟨k + 1, by omega, by go_num, (by have := hst.out; unfold okNext at this; rw [hok.out, hpv.out, hs'.out, hz'.out] at this; simpa using this : _ = _), hB3.out.trans hb4, Loc.on hb4 hL3.out⟩, by simp [intOf]; omega⟩
                  · have hzb : decide (0 < ((nuls fs[k].2).length : Int)) = true := decide_eq_true (by omega)
                    have hzc : decide (0 < (nuls fs[k].2).length) = true := decide_eq_true (by omega)
                    have hz' := Aside0.mk (decide_eq_false hz)
                    clear hz
                    go_wp2_with (go_at_call 110; refine (iNullsOfFact_calls _ A3 c3 fs[k].1 fs[k].2 hx3.out (Nat.le_trans (okFact_len hok.out) (by omega))).mono ?_; rintro e w4 ⟨v4, rfl, hO4, hb4⟩; obtain ⟨A5, c5, rfl⟩ := own_slice hO4; clear hO4)
                    go_ret
                    exact ⟨ret_bool (by have := hst.out; unfold okNext at this; rw [hok.out, hpv.out, hs'.out, hz'.out] at this; simp at this; simp [okInst, this]), hB3.out.trans hb4⟩
              · have hcb : decide (0 ≤ cmpF fs[k - 1] fs[k]) = true := decide_eq_true (by omega)
                have hpv := Aside0.mk (show okPrev (prevFct fs k) fs[k] = false by rw [hpn]; exact decide_eq_false hc)
                clear hc hpn
                go_wp2
                refine Reg.region [(0,.L),(1,.L),(2,.L),(3,.C),(4,.L),(5,.L),(6,.L),(7,.L),(8,.L),(9,.L),(10,.L),(11,.L),(12,.L),(13,.L),(14,.L),(15,.L),(16,.C),(17,.L),(18,.L),(19,.L)] [] (by kernel_rfl) (by kernel_rfl) ?_
                repeat first | refine sP ?_ | refine sS ?_ | refine sA ?_ | refine sL ?_ | refine sQ ?_ | refine sO ?_
                refine callC (.bool true) Try.func108 (fun w' hS => ?_) ?_
                focus exact (iIsValidFact_calls w' _ c0 rs _ c3 fs[k] (h0.on (hB2.out.trans hS)) (hx2'.on (hbx.out.trans hS))).mono fun e w'' h => ⟨by rw [h.1, hok.out], h.2⟩
                repeat first | refine sP ?_ | refine sS ?_ | refine sA ?_ | refine sL ?_ | refine sQ ?_ | refine sO ?_
                refine callC (.int .i64 (cmpF fs[k - 1] fs[k])) Try.func109 (fun w' hS => ?_) ?_
                focus exact iCompareFacts_calls w' A4 c4 A3 c3 fs[k - 1] fs[k] (hy2.on hS) (hx2'.on (hbx.out.trans hS))
                repeat first | refine sP ?_ | refine sS ?_ | refine sA ?_ | refine sL ?_ | refine sQ ?_ | refine sO ?_
                refine Reg.nil fun w2 hS => ?_
                go_wp2
                go_ret
                exact ⟨ret_bool (by have := hst.out; unfold okNext at this; rw [hok.out, hpv.out] at this; simp at this; simp [okInst, this]), hB2.out.trans hS⟩
            · have hk0' : decide (0 < (k : Int)) = false := decide_eq_false (by omega)
              have hpv := Aside0.mk (show okPrev (prevFct fs k) fs[k] = true by simp [okPrev, prevFct, show k = 0 by omega])
              go_wp2
              refine Reg.region [(0,.L),(1,.L),(2,.L),(3,.C),(4,.L),(5,.L),(6,.L),(7,.L),(8,.L),(9,.L),(10,.L),(11,.L),(12,.L),(13,.L),(14,.L),(15,.L),(16,.C),(17,.L),(18,.L),(19,.L)] [] (by kernel_rfl) (by kernel_rfl) ?_
              repeat first | refine sP ?_ | refine sS ?_ | refine sA ?_ | refine sL ?_ | refine sQ ?_ | refine sO ?_
              refine callC (.bool true) Try.func108 (fun w' hS => ?_) ?_
              focus exact (iIsValidFact_calls w' _ c0 rs _ c3 fs[k] (h0.on (hB2.out.trans hS)) (hx2'.on (hbx.out.trans hS))).mono fun e w'' h => ⟨by rw [h.1, hok.out], h.2⟩
              repeat first | refine sP ?_ | refine sS ?_ | refine sA ?_ | refine sL ?_ | refine sQ ?_ | refine sO ?_
              refine Reg.nil fun w2 hS => ?_
              clear hcn hcm hfill
              have hc5 := blk_cell (Loc.on (hbx.out.trans hS) hL'.out).1
              have hc6 := blk_cell (blk_below (loc_new wr #[.int .i64 fs[k].1, .slice A3 fs[k].2.length c3] 55) hS)
              obtain ⟨ad1, e9, _, _, hxs1⟩ := (h0.on (hB2.out.trans hS)).at fs[k].1.toNat hat1
              obtain rfl : ad0 = ad1 := by simpa using e9
              have hsr : rs[fs[k].1.toNat].2.2 = srcOf rs fs[k].1 := by simp [srcOf, hat1]
              rw [hsr] at hxs1
              clear hsr e9
              have hB3 := Aside0.mk (hB2.out.trans hS)
              have hL3 := Aside0.mk (Loc.on (hbx.out.trans hS) hL'.out)
              have hx3 := Aside0.mk (hx2'.on (hbx.out.trans hS))
              clear hS
              cases hs : srcOf rs fs[k].1 with
              | false =>
                rw [hs] at hxs1
                have hs' := Aside0.mk hs
                clear hs
                go_wp2
                go_roundw
                case rel => exact ⟨k + 1, by omega, by go_num, (by have := hst.out; unfold okNext at this; rw [hok.out, hpv.out, hs'.out] at this; simpa using this : _ = _), hB3.out, hL3.out⟩
                case measure => simp [intOf]; omega
              | true =>
                rw [hs] at hxs1
                have hs' := Aside0.mk hs
                clear hs
                have hnn := Aside0.mk (nuls_ok fs[k].2)
                by_cases hz : (nuls fs[k].2).length = 0
                · have hzb : decide (0 < ((nuls fs[k].2).length : Int)) = false := decide_eq_false (by omega)
                  have hzc : decide (0 < (nuls fs[k].2).length) = false := decide_eq_false (by omega)
                  have hz' := Aside0.mk hz
                  clear hz
                  go_wp2_with (go_at_call 110; refine (iNullsOfFact_calls _ A3 c3 fs[k].1 fs[k].2 hx3.out (Nat.le_trans (okFact_len hok.out) (by omega))).mono ?_; rintro e w4 ⟨v4, rfl, hO4, hb4⟩; obtain ⟨A5, c5, rfl⟩ := own_slice hO4; clear hO4)
                  exact ⟨⟨k + 1, by omega, by go_num, (by have := hst.out; unfold okNext at this; rw [hok.out, hpv.out, hs'.out, hz'.out] at this; simpa using this : _ = _), hB3.out.trans hb4, Loc.on hb4 hL3.out⟩, by simp [intOf]; omega⟩
                · have hzb : decide (0 < ((nuls fs[k].2).length : Int)) = true := decide_eq_true (by omega)
                  have hzc : decide (0 < (nuls fs[k].2).length) = true := decide_eq_true (by omega)
                  have hz' := Aside0.mk (decide_eq_false hz)
                  clear hz
                  go_wp2_with (go_at_call 110; refine (iNullsOfFact_calls _ A3 c3 fs[k].1 fs[k].2 hx3.out (Nat.le_trans (okFact_len hok.out) (by omega))).mono ?_; rintro e w4 ⟨v4, rfl, hO4, hb4⟩; obtain ⟨A5, c5, rfl⟩ := own_slice hO4; clear hO4)
                  go_ret
                  exact ⟨ret_bool (by have := hst.out; unfold okNext at this; rw [hok.out, hpv.out, hs'.out, hz'.out] at this; simp at this; simp [okInst, this]), hB3.out.trans hb4⟩
        · have hfl : factsFrom rs none fs = true := by rw [← hp.out, List.drop_of_length_le (by omega)]; cases prevFct fs k <;> rfl
          have hfl' := Aside0.mk hfl
          clear hp hfl
          go_wp2
          go_ret
          exact ⟨ret_bool (by simp [okInst, hfl'.out, hr'.out]; omega), hB⟩
    · have h30b : decide ((fs.length : Int) ≤ 30) = false := decide_eq_false h30
      have h30c : decide (fs.length ≤ 30) = false := decide_eq_false (by omega)
      have h30d : decide (30 < fs.length) = true := decide_eq_true (by omega)
      have h30e : decide (30 < (fs.length : Int)) = true := decide_eq_true (by omega)
      go_enter Try.func66, Try.ntmps66
      go_wp2_with (go_at_call 107; refine (iAreValidRelations_calls _ A0 c0 rs (h0.on hbI.out)).mono ?_; rintro e w3 ⟨rfl, hb3⟩; rw [hr'.out]; have hc3 := blk_cell (Loc.on hb3 hLI.out).1)
      go_ret
      exact ⟨ret_bool (by simp [okInst]; intros; omega), hbI.out.trans hb3⟩
end Go.Proofs.Ytngjhblbpapjeaa.H
