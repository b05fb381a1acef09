/- Walks: the program's own substitutions. No condition. -/
import Derived.Test.YtngjhblbpapjeaaHS2
import Derived.Test.YtngjhblbpapjeaaHC5
namespace Go.Proofs.Ytngjhblbpapjeaa.H
open Go Go.RowKit Go.Proofs.YtngjhblbpapjeaaW.PrintWords Go.Proofs.YtngjhblbpapjeaaW.PrintLast
open Go.Proofs.Ytngjhblbpapjeaa.Reg (On on_draw)
set_option maxHeartbeats 4000000
set_option maxRecDepth 100000
set_option linter.unusedVariables false
set_option linter.unusedSimpArgs false

theorem iIsValidSub_calls (w : World) (A0 c0 A1 c1) (ns vs : List Int) (h0 : Ints w A0 c0 ns) (h1 : Ints w A1 c1 vs) :
    Calls Try.prog 80 #[.agg #[.slice A0 ns.length c0, .slice A1 vs.length c1]] w fun e w' => e = .returned (.bool (okSub ns vs)) ∧ On w w' := by
  have hm0 := h0.max
  have hm1 := h1.max
  have hb := Aside0.mk (On.alloc (On.refl w) (.cells #[.slice A0 ns.length c0, .slice A1 vs.length c1] 45))
  have hL := Aside0.mk (loc1 w #[.slice A0 ns.length c0, .slice A1 vs.length c1] 45)
  by_cases hl : ns.length = vs.length
  · have hlb : ((ns.length : Int) == (vs.length : Int)) = true := by simp [hl]
    have hlc : ((ns.length : Int) != (vs.length : Int)) = false := by simp [bne, hlb]
    have hld : (ns.length == vs.length) = true := by simp [hl]
    have hl' := Aside0.mk hl
    clear hl
    go_enter Try.func80, Try.ntmps80
    go_wp2
    clear hlb hlc hld
    go_loopw [15] (fun v wr => ∃ k : Nat, k ≤ ns.length ∧ v = .int .i64 k ∧ Aside0 (subFrom (prevI ns k) (ns.drop k) (vs.drop k) = subFrom none ns vs) ∧ On w wr ∧ Loc wr [(w.heap.size, #[.slice A0 ns.length c0, .slice A1 vs.length c1], 45)]) (fun v _ => ns.length - (intOf v).toNat)
    case atStart => exact ⟨0, Nat.zero_le _, rfl, ⟨rfl⟩, hb.out, hL.out⟩
    case round =>
      obtain ⟨k, hk, rfl, hp, hB0, hL0⟩ := hrel
      have hc0 := blk_cell hL0.1
      have hL' := Aside0.mk hL0
      have hB := Aside0.mk hB0
      clear hL0
      by_cases hlt : k < ns.length
      · have hlt2 : k < vs.length := by have := hl'.out; omega
        obtain ⟨ad, rfl, hx⟩ := (h0.on hB0).at k hlt
        obtain ⟨bd, rfl, hy⟩ := (h1.on hB0).at k hlt2
        have hbd := h1.bd k hlt2
        have hst := Aside0.mk ((subFrom_step ns vs k hlt hlt2).symm.trans hp.out)
        clear hp hB0
        cases hi : within ns[k] 0 39 with
        | false =>
          have hi' := Aside0.mk hi
          clear hi
          go_wp2_with (go_at_call 118; refine (within_calls _ _ _ _).mono ?_; rintro e w2 ⟨rfl, hb2⟩; rw [hi'.out])
          go_ret
          exact ⟨ret_bool (by have := hst.out; rw [hi'.out] at this; simp at this; simp [okSub, this]), hB.out.trans hb2⟩
        | true =>
          have hi' := Aside0.mk hi
          clear hi
          by_cases hk0 : 0 < k
          · have hk0' : decide (0 < (k : Int)) = true := decide_eq_true (by omega)
            have hki : IntKind.i64.wrap ((k : Int) - 1) = ((k - 1 : Nat) : Int) := by rw [IntWalk.i64_in _ (by omega)]; omega
            have hk1 : k - 1 < ns.length := by omega
            obtain ⟨ad', e', hz⟩ := (h0.on hB.out).at (k - 1) hk1
            obtain rfl : ad = ad' := by simpa using e'
            have hpn : prevI ns k = some ns[k - 1] := by simp [prevI, show ¬ k = 0 by omega, show k - 1 < ns.length by omega]
            by_cases hc : ns[k] ≤ ns[k - 1]
            · have hcb : decide (ns[k] ≤ ns[k - 1]) = true := decide_eq_true hc
              have hp' := Aside0.mk (show okPrevI (prevI ns k) ns[k] = false by rw [hpn]; exact decide_eq_false (by omega))
              clear hpn
              go_wp2_with (go_at_call 118; refine (within_calls _ _ _ _).mono ?_; rintro e w2 ⟨rfl, hb2⟩; rw [hi'.out]; have hc2 := blk_cell (Loc.on hb2 hL'.out).1; replace hz := (hb2.eq _ (by rw [hz]; rfl)).trans hz)
              go_ret
              exact ⟨ret_bool (by have := hst.out; rw [hi'.out, hp'.out] at this; simp at this; simp [okSub, this]), hB.out.trans hb2⟩
            · have hcb : decide (ns[k] ≤ ns[k - 1]) = false := decide_eq_false hc
              have hp' := Aside0.mk (show okPrevI (prevI ns k) ns[k] = true by rw [hpn]; exact decide_eq_true (by omega))
              clear hpn
              cases hv : okVal vs[k] with
              | true =>
                have hv' := Aside0.mk hv
                clear hv
                go_wp2_with (first
                  | (go_at_call 118; refine (within_calls _ _ _ _).mono ?_; rintro e w2 ⟨rfl, hb2⟩; rw [hi'.out]; have hc2 := blk_cell (Loc.on hb2 hL'.out).1; (try replace hz := (hb2.eq _ (by rw [hz]; rfl)).trans hz); replace hy := (hb2.eq _ (by rw [hy]; rfl)).trans hy)
                  | (go_at_call 119; refine (iIsValidValue_calls _ _).mono ?_; rintro e w3 ⟨rfl, hb3⟩; rw [hv'.out]))
                exact ⟨⟨k + 1, by omega, by go_num, ⟨by have := hst.out; rw [hi'.out, hp'.out, hv'.out] at this; simpa using this⟩, hB.out.trans (hb2.trans hb3), Loc.on (hb2.trans hb3) hL'.out⟩, by simp [intOf]; omega⟩
              | false =>
                have hv' := Aside0.mk hv
                clear hv
                go_wp2_with (first
                  | (go_at_call 118; refine (within_calls _ _ _ _).mono ?_; rintro e w2 ⟨rfl, hb2⟩; rw [hi'.out]; have hc2 := blk_cell (Loc.on hb2 hL'.out).1; (try replace hz := (hb2.eq _ (by rw [hz]; rfl)).trans hz); replace hy := (hb2.eq _ (by rw [hy]; rfl)).trans hy)
                  | (go_at_call 119; refine (iIsValidValue_calls _ _).mono ?_; rintro e w3 ⟨rfl, hb3⟩; rw [hv'.out]))
                go_ret
                exact ⟨ret_bool (by have := hst.out; rw [hi'.out, hp'.out, hv'.out] at this; simp at this; simp [okSub, this]), hB.out.trans (hb2.trans hb3)⟩
          · have hk0' : decide (0 < (k : Int)) = false := decide_eq_false (by omega)
            have hp' := Aside0.mk (show okPrevI (prevI ns k) ns[k] = true by simp [okPrevI, prevI, show k = 0 by omega])
            cases hv : okVal vs[k] with
            | true =>
              have hv' := Aside0.mk hv
              clear hv
              go_wp2_with (first
                | (go_at_call 118; refine (within_calls _ _ _ _).mono ?_; rintro e w2 ⟨rfl, hb2⟩; rw [hi'.out]; have hc2 := blk_cell (Loc.on hb2 hL'.out).1; (try replace hz := (hb2.eq _ (by rw [hz]; rfl)).trans hz); replace hy := (hb2.eq _ (by rw [hy]; rfl)).trans hy)
                | (go_at_call 119; refine (iIsValidValue_calls _ _).mono ?_; rintro e w3 ⟨rfl, hb3⟩; rw [hv'.out]))
              exact ⟨⟨k + 1, by omega, by go_num, ⟨by have := hst.out; rw [hi'.out, hp'.out, hv'.out] at this; simpa using this⟩, hB.out.trans (hb2.trans hb3), Loc.on (hb2.trans hb3) hL'.out⟩, by simp [intOf]; omega⟩
            | false =>
              have hv' := Aside0.mk hv
              clear hv
              go_wp2_with (first
                | (go_at_call 118; refine (within_calls _ _ _ _).mono ?_; rintro e w2 ⟨rfl, hb2⟩; rw [hi'.out]; have hc2 := blk_cell (Loc.on hb2 hL'.out).1; (try replace hz := (hb2.eq _ (by rw [hz]; rfl)).trans hz); replace hy := (hb2.eq _ (by rw [hy]; rfl)).trans hy)
                | (go_at_call 119; refine (iIsValidValue_calls _ _).mono ?_; rintro e w3 ⟨rfl, hb3⟩; rw [hv'.out]))
              go_ret
              exact ⟨ret_bool (by have := hst.out; rw [hi'.out, hp'.out, hv'.out] at this; simp at this; simp [okSub, this]), hB.out.trans (hb2.trans hb3)⟩
      · have hp' := Aside0.mk (show subFrom none ns vs = true by rw [← hp.out, List.drop_of_length_le (by omega)]; cases prevI ns k <;> rfl)
        clear hp hB0
        go_wp2
        go_ret
        exact ⟨ret_bool (by simp [okSub, hp'.out, hl'.out]), hB.out⟩
  · have hlb : ((ns.length : Int) == (vs.length : Int)) = false := by rw [beq_eq_false_iff_ne]; omega
    have hlc : ((ns.length : Int) != (vs.length : Int)) = true := by simp [bne, hlb]
    have hld : (ns.length == vs.length) = false := by simpa using hl
    have hl' := Aside0.mk hl
    clear hl
    go_enter Try.func80, Try.ntmps80
    go_wp2
    go_ret
    exact ⟨ret_bool (by simp [okSub, hl'.out]), hb.out⟩
theorem indexI_calls (w : World) (A c) (xs : List Int) (y : Int) (h : Ints w A c xs) : Calls Try.prog 141 #[.slice A xs.length c, .int .i64 y] w fun e w' => e = .returned (.int .i64 (idxFrom (fun n => n == y) xs 0)) ∧ On w w' := by
  have hmax := h.max
  go_enter Try.func141, Try.ntmps141
  go_wp2
  go_loopw [8] (fun v wr => ∃ k : Nat, k ≤ xs.length ∧ v = .int .i64 k ∧ Aside0 (idxFrom (fun n => n == y) (xs.drop k) k = idxFrom (fun n => n == y) xs 0) ∧ On w wr) (fun v _ => xs.length - (intOf v).toNat)
  case atStart => exact ⟨0, Nat.zero_le _, rfl, ⟨rfl⟩, On.refl _⟩
  case round =>
    obtain ⟨k, hk, rfl, hp, hB⟩ := hrel
    by_cases hlt : k < xs.length
    · obtain ⟨ad, rfl, hx⟩ := (h.on hB).at k hlt
      have hst := Aside0.mk ((idxFrom_step (fun n => n == y) xs k hlt).symm.trans hp.out)
      clear hp
      by_cases hq : xs[k] = y
      · have hqb : (y == xs[k]) = true := by simp [hq]
        have hq' := Aside0.mk hq
        clear hq
        go_wp2
        go_ret
        exact ⟨ret_int (by have := hst.out; rw [if_pos (by simp [hq'.out])] at this; exact this), hB⟩
      · have hqb : (y == xs[k]) = false := by simp; exact fun e => hq e.symm
        have hq' := Aside0.mk hq
        clear hq
        go_wp2
        exact ⟨⟨k + 1, by omega, by go_num, ⟨by have := hst.out; rwa [if_neg (by simp [hq'.out])] at this⟩, hB⟩, by simp [intOf]; omega⟩
    · go_wp2
      go_ret
      exact ⟨ret_int (by rw [← hp.out, List.drop_of_length_le (by omega)]; rfl), hB⟩
theorem iApplyToValue_calls (w : World) (A0 c0 A1 c1) (ns vs : List Int) (h0 : Ints w A0 c0 ns) (h1 : Ints w A1 c1 vs) (x : Int) (hx : -9223372036854775808 ≤ x ∧ x ≤ 9223372036854775807) :
    Calls Try.prog 122 #[.agg #[.slice A0 ns.length c0, .slice A1 vs.length c1], .int .i64 x] w fun e w' => e = .returned (.int .i64 (appV ns vs x)) ∧ On w w' := by
  have hb := Aside0.mk (On.alloc (On.refl w) (.cells #[.slice A0 ns.length c0, .slice A1 vs.length c1] 45))
  have hL := Aside0.mk (loc1 w #[.slice A0 ns.length c0, .slice A1 vs.length c1] 45)
  have hm1 := h1.max
  cases hn : isNul x with
  | false =>
    have hr := Aside0.mk (show appV ns vs x = x by
      unfold appV
      split
      · rename_i ho; rw [findV_not (okSub_spec ho).2.1 hn]; rfl
      · rfl)
    have hn' := Aside0.mk hn
    clear hn
    go_enter Try.func122, Try.ntmps122
    go_wp2_with (first
      | (go_at_call 102; refine (iNullNumber_calls _ _ hx).mono ?_; rintro e w2 ⟨rfl, hb2⟩; rw [hn'.out]; have hc2 := blk_cell (Loc.on hb2 hL.out).1)
      | (go_at_call 141; refine (indexI_calls _ A0 c0 ns _ (h0.on (hb.out.trans hb2))).mono ?_; rintro e w3 ⟨rfl, hb3⟩))
    go_ret
    exact ⟨ret_int hr.out.symm, hb.out.trans (hb2.trans hb3)⟩
  | true =>
    have hn' := Aside0.mk hn
    cases ho : okSub ns vs with
    | false =>
      have hr := Aside0.mk (show appV ns vs x = x by unfold appV; rw [ho]; rfl)
      have ho' := Aside0.mk ho
      clear hn ho
      by_cases hlt : idxFrom (fun n => n == nulNum x) ns 0 < 0
      · have hltb : decide (idxFrom (fun n => n == nulNum x) ns 0 < 0) = true := decide_eq_true hlt
        go_enter Try.func122, Try.ntmps122
        go_wp2_with (first
          | (go_at_call 102; refine (iNullNumber_calls _ _ hx).mono ?_; rintro e w2 ⟨rfl, hb2⟩; rw [hn'.out]; have hc2 := blk_cell (Loc.on hb2 hL.out).1)
          | (go_at_call 141; refine (indexI_calls _ A0 c0 ns _ (h0.on (hb.out.trans hb2))).mono ?_; rintro e w3 ⟨rfl, hb3⟩))
        go_ret
        exact ⟨ret_int hr.out.symm, hb.out.trans (hb2.trans hb3)⟩
      · have hltb : decide (idxFrom (fun n => n == nulNum x) ns 0 < 0) = false := decide_eq_false hlt
        go_enter Try.func122, Try.ntmps122
        go_wp2_with (first
          | (go_at_call 102; refine (iNullNumber_calls _ _ hx).mono ?_; rintro e w2 ⟨rfl, hb2⟩; rw [hn'.out]; have hc2 := blk_cell (Loc.on hb2 hL.out).1)
          | (go_at_call 141; refine (indexI_calls _ A0 c0 ns _ (h0.on (hb.out.trans hb2))).mono ?_; rintro e w3 ⟨rfl, hb3⟩; have hc3 := blk_cell (Loc.on (hb2.trans hb3) hL.out).1)
          | (go_at_call 80; refine (iIsValidSub_calls _ A0 c0 A1 c1 ns vs (h0.on (hb.out.trans (hb2.trans hb3))) (h1.on (hb.out.trans (hb2.trans hb3)))).mono ?_; rintro e w4 ⟨rfl, hb4⟩; rw [ho'.out]))
        go_ret
        exact ⟨ret_int hr.out.symm, hb.out.trans (hb2.trans (hb3.trans hb4))⟩
    | true =>
      have hsp := okSub_spec ho
      have ho' := Aside0.mk ho
      rcases idx_findV ns vs x 0 hsp.1 hsp.2.1 hn with ⟨e1, e2⟩ | ⟨k, hk, e1, e2⟩
      · have hr := Aside0.mk (show appV ns vs x = x by unfold appV; rw [ho, if_pos rfl, e2]; rfl)
        have e1' := Aside0.mk e1
        clear hn ho e1 e2 hsp
        go_enter Try.func122, Try.ntmps122
        go_wp2_with (first
          | (go_at_call 102; refine (iNullNumber_calls _ _ hx).mono ?_; rintro e w2 ⟨rfl, hb2⟩; rw [hn'.out]; have hc2 := blk_cell (Loc.on hb2 hL.out).1)
          | (go_at_call 141; refine (indexI_calls _ A0 c0 ns _ (h0.on (hb.out.trans hb2))).mono ?_; rintro e w3 ⟨rfl, hb3⟩; rw [e1'.out]))
        go_ret
        exact ⟨ret_int hr.out.symm, hb.out.trans (hb2.trans hb3)⟩
      · have hr := Aside0.mk (show appV ns vs x = vs[k] by unfold appV; rw [ho, if_pos rfl, e2]; rfl)
        rw [Nat.zero_add] at e1
        have e1' := Aside0.mk e1
        clear hn ho e1 e2 hsp
        go_enter Try.func122, Try.ntmps122
        go_wp2_with (first
          | (go_at_call 102; refine (iNullNumber_calls _ _ hx).mono ?_; rintro e w2 ⟨rfl, hb2⟩; rw [hn'.out]; have hc2 := blk_cell (Loc.on hb2 hL.out).1)
          | (go_at_call 141; refine (indexI_calls _ A0 c0 ns _ (h0.on (hb.out.trans hb2))).mono ?_; rintro e w3 ⟨rfl, hb3⟩; rw [e1'.out]; have hc3 := blk_cell (Loc.on (hb2.trans hb3) hL.out).1)
          | (go_at_call 80; refine (iIsValidSub_calls _ A0 c0 A1 c1 ns vs (h0.on (hb.out.trans (hb2.trans hb3))) (h1.on (hb.out.trans (hb2.trans hb3)))).mono ?_; rintro e w4 ⟨rfl, hb4⟩; rw [ho'.out]; have hc4 := blk_cell (Loc.on (hb2.trans (hb3.trans hb4)) hL.out).1; obtain ⟨bd, rfl, hy⟩ := (h1.on (hb.out.trans (hb2.trans (hb3.trans hb4)))).at k hk))
        go_ret
        exact ⟨ret_int hr.out.symm, hb.out.trans (hb2.trans (hb3.trans hb4))⟩

theorem own_some0 {w : World} {lo e sz n c : Nat} {A : Option Addr} {cs : List Value} (h : w.ownsRow lo e sz (.slice A n c) n cs) (hn : 0 < n) : ∃ g, A = some ⟨g, 0, none⟩ := by
  rcases h.2 with ⟨h', h2⟩ | ⟨g', cap', cur, h', _⟩
  · injection h' with e1 e2 e3
    subst e1
    omega
  · injection h' with e1 e2 e3
    exact ⟨g', e1⟩
theorem own_lt {w : World} {lo e sz n c g : Nat} {cs : List Value} (h : w.ownsRow lo e sz (.slice (some ⟨g, 0, none⟩) n c) n cs) : g < w.heap.size := by
  rcases h.2 with ⟨h', _⟩ | ⟨g', cap', cur, h', _, hh, _⟩
  · cases h'
  · have : g = g' := by injection h' with h'; injection h' with h'; injection h' with h'
    subst this
    exact (Array.getElem?_eq_some_iff.1 hh).1
theorem iApplyToFact_calls (w : World) (A0 c0 A1 c1 A2 c2) (ns vs : List Int) (f : Fct) (h0 : Ints w A0 c0 ns) (h1 : Ints w A1 c1 vs) (h2 : Ints w A2 c2 f.2) (hl : f.2.length ≤ 2000000) :
    Calls Try.prog 85 #[.agg #[.slice A0 ns.length c0, .slice A1 vs.length c1], .agg #[.int .i64 f.1, .slice A2 f.2.length c2]] w (Got fun v w' => ∃ v1, v = .agg #[.int .i64 f.1, v1] ∧ OI w' w.heap.size v1 (f.2.map (appV ns vs)) ∧ On w w') := by
  have hmax := h2.max
  have hb := Aside0.mk (On.alloc (On.alloc (On.alloc (On.refl w) (.cells #[.slice A0 ns.length c0, .slice A1 vs.length c1] 45)) (.cells #[.int .i64 f.1, .slice A2 f.2.length c2] 55)) (.cells #[.int .i64 0, .slice none 0 0] 55))
  have hL := Aside0.mk (loc3 w #[.slice A0 ns.length c0, .slice A1 vs.length c1] #[.int .i64 f.1, .slice A2 f.2.length c2] #[.int .i64 0, .slice none 0 0] 45 55 55)
  have hsz3 := Aside0.mk (show (((w.alloc (.cells #[.slice A0 ns.length c0, .slice A1 vs.length c1] 45)).alloc (.cells #[.int .i64 f.1, .slice A2 f.2.length c2] 55)).alloc (.cells #[.int .i64 0, .slice none 0 0] 55)).heap.size = w.heap.size + 3 by simp)
  go_enter Try.func85, Try.ntmps85
  go_wp2_with (refine gate 9 ?_)
  obtain ⟨Wx, hWx⟩ : ∃ Wx, ((w.alloc (.cells #[.slice A0 ns.length c0, .slice A1 vs.length c1] 45)).alloc (.cells #[.int .i64 f.1, .slice A2 f.2.length c2] 55)).alloc (.cells #[.int .i64 0, .slice none 0 0] 55) = Wx := ⟨_, rfl⟩
  rw [hWx] at hb hL hsz3 ⊢
  clear hWx
  refine ⟨goesC 9 Try.func121 (by kernel_rfl) rfl ((factCopy_calls Wx A2 c2 f (h2.on hb.out) hl).mono fun e w1 hh => ?_)⟩
  obtain ⟨v, rfl, v1, rfl, hO1, hb1⟩ := hh
  refine ⟨_, rfl, ?_⟩
  obtain ⟨A3, c3, rfl⟩ := own_slice hO1
  have hO1' := Aside0.mk hO1
  have hb1' := Aside0.mk hb1
  clear hO1 hb1
  have hfill := alloc_fill w1
  have hL1 := Aside0.mk (Loc.on (hb1'.out.trans (On.alloc (On.refl w1) (.cells #[.int .i64 f.1, .slice A3 f.2.length c3] 55))) hL.out)
  have hcf := blk_cell hL1.out.2.1
  go_wp2
  clear hfill hcf hL1
  have hyb := Aside0.mk (loc_new w1 #[.int .i64 f.1, .slice A3 f.2.length c3] 55)
  have hBy := Aside0.mk (On.alloc (On.refl w1) (.cells #[.int .i64 f.1, .slice A3 f.2.length c3] 55))
  obtain ⟨Wy, hWy⟩ : ∃ Wy, w1.alloc (.cells #[.int .i64 f.1, .slice A3 f.2.length c3] 55) = Wy := ⟨_, rfl⟩
  rw [hWy] at hyb hBy ⊢
  clear hWy
  have hyz := Aside0.mk (show w.heap.size + 3 ≤ w1.heap.size by have := hb1'.out.size; rw [hsz3.out] at this; exact this)
  obtain ⟨y, hy⟩ : ∃ y, w1.heap.size = y := ⟨_, rfl⟩
  rw [hy] at hyb hyz ⊢
  have hyw := Aside0.mk hy
  clear hy
  go_loopw [13] (fun v wr => ∃ k : Nat, k ≤ f.2.length ∧ v = .int .i64 k ∧ Aside0 (wr.ownsRow (w.heap.size + 3) 3 1 (.slice A3 f.2.length c3) f.2.length (((f.2.take k).map (appV ns vs)).flatMap encI ++ (f.2.drop k).flatMap encI)) ∧ Aside0 (On Wx wr) ∧ wr.heap[y]? = some (.cells #[.int .i64 f.1, .slice A3 f.2.length c3] 55 (0, 0))) (fun v _ => f.2.length - (intOf v).toNat)
  case atStart => exact ⟨0, Nat.zero_le _, rfl, ⟨by rw [← hsz3.out]; exact pw_own_below hO1'.out hBy.out⟩, ⟨hb1'.out.trans hBy.out⟩, hyb.out⟩
  case round =>
    obtain ⟨k, hk, rfl, hO, hB, hyr⟩ := hrel
    have hBw := Aside0.mk (hb.out.trans hB.out)
    have hLr := Aside0.mk (Loc.on hB.out hL.out)
    have hcy := blk_cell hyr
    have hyr' := Aside0.mk hyr
    clear hyr
    by_cases hlt : k < f.2.length
    · obtain ⟨ad, rfl, hx⟩ := (h2.on hBw.out).at k hlt
      have hc0 := blk_cell hLr.out.1
      obtain ⟨g, rfl⟩ := own_some0 hO.out (by omega)
      have hbd := h2.bd k hlt
      go_wp2
      refine Reg.region [(0,.L),(1,.L),(2,.L),(3,.L),(4,.L),(5,.C),(6,.L)] [7] (by kernel_rfl) (by kernel_rfl) ?_
      repeat first | refine sP ?_ | refine sS ?_ | refine sA ?_ | refine sL ?_ | refine sQ ?_ | refine sO ?_
      refine callC (.int .i64 (appV ns vs f.2[k])) Try.func122 (fun w' hS => ?_) ?_
      focus exact iApplyToValue_calls w' A0 c0 A1 c1 ns vs (h0.on (hBw.out.trans hS)) (h1.on (hBw.out.trans hS)) f.2[k] hbd
      repeat first | refine sP ?_ | refine sS ?_ | refine sA ?_ | refine sL ?_ | refine sQ ?_ | refine sO ?_
      refine Reg.tail_ fun w5 hS5 => ?_
      have hO5 := Aside0.mk (pw_own_below hO.out hS5)
      have hfz : w5.frozen? ⟨g, k, none⟩ = false := own_frozen hO5.out k
      obtain ⟨z, hz⟩ := own_some hO5.out k (by omega)
      have hgl := Aside0.mk (show w.heap.size + 3 ≤ g from own_base hO5.out g rfl)
      have hgy := Aside0.mk (show g ≠ y from fun e => by have h3 := own_lt hO1'.out; have h4 := hyw.out; omega)
      clear hcy hc0
      go_wp2
      refine ⟨⟨k + 1, by omega, by go_num, ⟨?_⟩, ⟨Reg.On.set (hB.out.trans hS5) (by rw [hsz3.out]; exact hgl.out) _⟩, ?_⟩, by simp [intOf]; omega⟩
      · have h3 := (hO5.out.stored k (.int .i64 (appV ns vs f.2[k]))).1
        rw [List.drop_eq_getElem_cons hlt, List.flatMap_cons] at h3
        rw [List.take_succ_eq_append_getElem hlt, List.map_append, List.flatMap_append, List.append_assoc]
        rw [show encI f.2[k] ++ (f.2.drop (k + 1)).flatMap encI = .int .i64 f.2[k] :: (f.2.drop (k + 1)).flatMap encI from rfl, set1 k (by rw [flat_len (enc := encI) (sz := 1) (fun _ => rfl), List.length_map, List.length_take]; omega)] at h3
        exact h3
      · rw [Below.heap_setCell _ _ _ _ (fun e => hgy.out (by have h : y = g := e; exact h.symm))]
        exact blk_below hyr'.out hS5
    · have e1 : f.2.take k = f.2 := List.take_of_length_le (by omega)
      have e2 : f.2.drop k = [] := List.drop_of_length_le (by omega)
      rw [e1, e2, List.flatMap_nil, List.append_nil] at hO
      have hcr : ∀ i, wr.cell? ⟨w.heap.size + 1 + 1, i, none⟩ = _ := blk_cell hLr.out.2.2.1
      have hfr : ∀ i, wr.frozen? ⟨w.heap.size + 1 + 1, i, none⟩ = _ := blk_frozen hLr.out.2.2.1
      go_wp2
      refine bodyPost_ret (retF rfl rfl (g := w.heap.size + 2) (blk_set (blk_set hLr.out.2.2.1 0 _) 1 _) rfl) rfl ?_
      have hO2 : OI wr (w.heap.size + 3) (.slice A3 f.2.length c3) (f.2.map (appV ns vs)) := by
        have := hO.out
        unfold OI
        rw [List.length_map]
        exact this
      refine ⟨_, rfl, _, rfl, ?_, Reg.On.set (Reg.On.set hBw.out (by first | (simp; done) | (simp; omega)) _) (by first | (simp; done) | (simp; omega)) _⟩
      exact own_lower (ownsRow_setCell_below (ownsRow_setCell_below hO2 (by first | (simp; done) | (simp; omega)) _) (by first | (simp; done) | (simp; omega)) _) (by omega)
end Go.Proofs.Ytngjhblbpapjeaa.H
