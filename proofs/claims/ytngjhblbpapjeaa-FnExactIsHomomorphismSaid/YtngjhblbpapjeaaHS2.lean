/- Walks: substitutions of the reference. No condition. -/
import Derived.Test.YtngjhblbpapjeaaHB8
import Derived.Test.YtngjhblbpapjeaaHD3
import Derived.Test.YtngjhblbpapjeaaWEqStruct
namespace Go.Proofs.Ytngjhblbpapjeaa.H
open Go Go.RowKit Go.Proofs.YtngjhblbpapjeaaW.PrintWords Go.Proofs.YtngjhblbpapjeaaW.PrintLast
open Go.Proofs.Ytngjhblbpapjeaa.Reg (On on_draw)
set_option maxHeartbeats 4000000
set_option maxRecDepth 100000
set_option linter.unusedVariables false
set_option linter.unusedSimpArgs false

theorem sIsValidSub_calls (w : World) (A0 c0 A1 c1) (ns vs : List Int) (h0 : Ints w A0 c0 ns) (h1 : Ints w A1 c1 vs) :
    Calls Try.prog 73 #[.agg #[.slice A0 ns.length c0, .slice A1 vs.length c1]] w fun e w' => e = .returned (.bool (okSub ns vs)) ∧ On w w' := by
  have hm0 := h0.max
  have hm1 := h1.max
  have hb := Aside0.mk (On.alloc (On.refl w) (.cells #[.slice A0 ns.length c0, .slice A1 vs.length c1] 45))
  have hL := Aside0.mk (loc1 w #[.slice A0 ns.length c0, .slice A1 vs.length c1] 45)
  by_cases hl : ns.length = vs.length
  · have hlb : ((ns.length : Int) == (vs.length : Int)) = true := by simp [hl]
    have hlc : ((ns.length : Int) != (vs.length : Int)) = false := by simp [bne, hlb]
    have hld : (ns.length == vs.length) = true := by simp [hl]
    have hl' := Aside0.mk hl
    clear hl
    go_enter Try.func73, Try.ntmps73
    go_wp2
    clear hlb hlc hld
    go_loopw [3] (fun v wr => ∃ k : Nat, k ≤ ns.length ∧ v = .int .i64 k ∧ Aside0 (subFrom (prevI ns k) (ns.drop k) (vs.drop k) = subFrom none ns vs) ∧ On w wr ∧ Loc wr [(w.heap.size, #[.slice A0 ns.length c0, .slice A1 vs.length c1], 45)]) (fun v _ => ns.length - (intOf v).toNat)
    case atStart => exact ⟨0, Nat.zero_le _, rfl, ⟨rfl⟩, hb.out, hL.out⟩
    case round =>
      obtain ⟨k, hk, rfl, hp, hB0, hL0⟩ := hrel
      have hc0 := blk_cell hL0.1
      have hL' := Aside0.mk hL0
      have hB := Aside0.mk hB0
      clear hL0
      by_cases hlt : k < ns.length
      · have hlt2 : k < vs.length := by have := hl'.out; omega
        obtain ⟨ad, rfl, hx⟩ := (h0.on hB0).at k hlt
        obtain ⟨bd, rfl, hy⟩ := (h1.on hB0).at k hlt2
        have hbd := h1.bd k hlt2
        have hst := Aside0.mk ((subFrom_step ns vs k hlt hlt2).symm.trans hp.out)
        clear hp hB0
        cases hi : within ns[k] 0 39 with
        | false =>
          have hi' := Aside0.mk hi
          clear hi
          go_wp2
          refine Reg.region [(0,.L),(1,.L),(2,.L),(3,.L),(4,.L),(5,.C),(6,.L),(7,.L),(8,.L),(9,.L),(10,.L),(11,.L),(12,.L),(13,.L),(14,.L),(15,.L),(16,.L),(17,.L),(18,.L),(19,.L),(20,.L),(21,.L),(22,.L),(23,.L),(24,.L),(25,.L),(26,.L),(27,.L),(28,.L),(29,.L),(30,.L),(31,.C),(32,.L),(33,.L)] [] (by kernel_rfl) (by kernel_rfl) ?_
          repeat first | refine sP ?_ | refine sS ?_ | refine sA ?_ | refine sL ?_ | refine sQ ?_ | refine sO ?_
          refine callC (.bool false) Try.func114 (fun w' hS => ?_) ?_
          focus exact (l1In_calls w' _ _ _).mono fun e w'' h => ⟨by rw [h.1, hi'.out], h.2⟩
          repeat first | refine sP ?_ | refine sS ?_ | refine sA ?_ | refine sL ?_ | refine sQ ?_ | refine sO ?_
          refine Reg.nil fun w2 hS => ?_
          go_wp2
          go_ret
          exact ⟨ret_bool (by have := hst.out; rw [hi'.out] at this; simp at this; simp [okSub, this]), hB.out.trans hS⟩
        | true =>
          have hi' := Aside0.mk hi
          clear hi
          by_cases hk0 : 0 < k
          · have hk0' : decide (0 < (k : Int)) = true := decide_eq_true (by omega)
            have hki : IntKind.i64.wrap ((k : Int) - 1) = ((k - 1 : Nat) : Int) := by rw [IntWalk.i64_in _ (by omega)]; omega
            have hk1 : k - 1 < ns.length := by omega
            obtain ⟨ad', e', hz⟩ := (h0.on hB.out).at (k - 1) hk1
            obtain rfl : ad = ad' := by simpa using e'
            have hpn : prevI ns k = some ns[k - 1] := by simp [prevI, show ¬ k = 0 by omega, show k - 1 < ns.length by omega]
            by_cases hc : ns[k] ≤ ns[k - 1]
            · have hcb : decide (ns[k] ≤ ns[k - 1]) = true := decide_eq_true hc
              have hp' := Aside0.mk (show okPrevI (prevI ns k) ns[k] = false by rw [hpn]; exact decide_eq_false (by omega))
              clear hc hpn
              go_wp2
              refine Reg.region [(0,.L),(1,.L),(2,.L),(3,.L),(4,.L),(5,.C),(6,.L),(7,.L),(8,.L),(9,.L),(10,.L),(11,.L),(12,.L),(13,.L),(14,.L),(15,.L),(16,.L),(17,.L),(18,.L),(19,.L),(20,.L),(21,.L),(22,.L),(23,.L),(24,.L),(25,.L),(26,.L),(27,.L),(28,.L),(29,.L),(30,.L),(31,.C),(32,.L),(33,.L)] [] (by kernel_rfl) (by kernel_rfl) ?_
              repeat first | refine sP ?_ | refine sS ?_ | refine sA ?_ | refine sL ?_ | refine sQ ?_ | refine sO ?_
              refine callC (.bool true) Try.func114 (fun w' hS => ?_) ?_
              focus exact (l1In_calls w' _ _ _).mono fun e w'' h => ⟨by rw [h.1, hi'.out], h.2⟩
              repeat first | refine sP ?_ | refine sS ?_ | refine sA ?_ | refine sL ?_ | refine sQ ?_ | refine sO ?_
              refine Reg.nil fun w2 hS => ?_
              go_wp2
              go_ret
              exact ⟨ret_bool (by have := hst.out; rw [hi'.out, hp'.out] at this; simp at this; simp [okSub, this]), hB.out.trans hS⟩
            · have hcb : decide (ns[k] ≤ ns[k - 1]) = false := decide_eq_false hc
              have hp' := Aside0.mk (show okPrevI (prevI ns k) ns[k] = true by rw [hpn]; exact decide_eq_true (by omega))
              clear hc hpn
              cases hv : okVal vs[k] with
              | true =>
                have hv' := Aside0.mk hv
                clear hv
                go_wp2
                refine Reg.region [(0,.L),(1,.L),(2,.L),(3,.L),(4,.L),(5,.C),(6,.L),(7,.L),(8,.L),(9,.L),(10,.L),(11,.L),(12,.L),(13,.L),(14,.L),(15,.L),(16,.L),(17,.L),(18,.L),(19,.L),(20,.L),(21,.L),(22,.L),(23,.L),(24,.L),(25,.L),(26,.L),(27,.L),(28,.L),(29,.L),(30,.L),(31,.C),(32,.L),(33,.L)] [] (by kernel_rfl) (by kernel_rfl) ?_
                repeat first | refine sP ?_ | refine sS ?_ | refine sA ?_ | refine sL ?_ | refine sQ ?_ | refine sO ?_
                refine callC (.bool true) Try.func114 (fun w' hS => ?_) ?_
                focus exact (l1In_calls w' _ _ _).mono fun e w'' h => ⟨by rw [h.1, hi'.out], h.2⟩
                repeat first | refine sP ?_ | refine sS ?_ | refine sA ?_ | refine sL ?_ | refine sQ ?_ | refine sO ?_
                refine callC (.bool true) Try.func115 (fun w' hS => ?_) ?_
                focus exact (IsValidValue_calls w' _ hbd.1).mono fun e w'' h => ⟨by rw [h.1, hv'.out], h.2⟩
                repeat first | refine sP ?_ | refine sS ?_ | refine sA ?_ | refine sL ?_ | refine sQ ?_ | refine sO ?_
                refine Reg.nil fun w2 hS => ?_
                go_wp2
                exact ⟨⟨k + 1, by omega, by go_num, ⟨by have := hst.out; rw [hi'.out, hp'.out, hv'.out] at this; simpa using this⟩, hB.out.trans hS, Loc.on hS hL'.out⟩, by simp [intOf]; omega⟩
              | false =>
                have hv' := Aside0.mk hv
                clear hv
                go_wp2
                refine Reg.region [(0,.L),(1,.L),(2,.L),(3,.L),(4,.L),(5,.C),(6,.L),(7,.L),(8,.L),(9,.L),(10,.L),(11,.L),(12,.L),(13,.L),(14,.L),(15,.L),(16,.L),(17,.L),(18,.L),(19,.L),(20,.L),(21,.L),(22,.L),(23,.L),(24,.L),(25,.L),(26,.L),(27,.L),(28,.L),(29,.L),(30,.L),(31,.C),(32,.L),(33,.L)] [] (by kernel_rfl) (by kernel_rfl) ?_
                repeat first | refine sP ?_ | refine sS ?_ | refine sA ?_ | refine sL ?_ | refine sQ ?_ | refine sO ?_
                refine callC (.bool true) Try.func114 (fun w' hS => ?_) ?_
                focus exact (l1In_calls w' _ _ _).mono fun e w'' h => ⟨by rw [h.1, hi'.out], h.2⟩
                repeat first | refine sP ?_ | refine sS ?_ | refine sA ?_ | refine sL ?_ | refine sQ ?_ | refine sO ?_
                refine callC (.bool false) Try.func115 (fun w' hS => ?_) ?_
                focus exact (IsValidValue_calls w' _ hbd.1).mono fun e w'' h => ⟨by rw [h.1, hv'.out], h.2⟩
                repeat first | refine sP ?_ | refine sS ?_ | refine sA ?_ | refine sL ?_ | refine sQ ?_ | refine sO ?_
                refine Reg.nil fun w2 hS => ?_
                go_wp2
                go_ret
                exact ⟨ret_bool (by have := hst.out; rw [hi'.out, hp'.out, hv'.out] at this; simp at this; simp [okSub, this]), hB.out.trans hS⟩
          · have hk0' : decide (0 < (k : Int)) = false := decide_eq_false (by omega)
            have hp' := Aside0.mk (show okPrevI (prevI ns k) ns[k] = true by simp [okPrevI, prevI, show k = 0 by omega])
            cases hv : okVal vs[k] with
            | true =>
              have hv' := Aside0.mk hv
              clear hv
              go_wp2
              refine Reg.region [(0,.L),(1,.L),(2,.L),(3,.L),(4,.L),(5,.C),(6,.L),(7,.L),(8,.L),(9,.L),(10,.L),(11,.L),(12,.L),(13,.L),(14,.L),(15,.L),(16,.L),(17,.L),(18,.L),(19,.L),(20,.L),(21,.L),(22,.L),(23,.L),(24,.L),(25,.L),(26,.L),(27,.L),(28,.L),(29,.L),(30,.L),(31,.C),(32,.L),(33,.L)] [] (by kernel_rfl) (by kernel_rfl) ?_
              repeat first | refine sP ?_ | refine sS ?_ | refine sA ?_ | refine sL ?_ | refine sQ ?_ | refine sO ?_
              refine callC (.bool true) Try.func114 (fun w' hS => ?_) ?_
              focus exact (l1In_calls w' _ _ _).mono fun e w'' h => ⟨by rw [h.1, hi'.out], h.2⟩
              repeat first | refine sP ?_ | refine sS ?_ | refine sA ?_ | refine sL ?_ | refine sQ ?_ | refine sO ?_
              refine callC (.bool true) Try.func115 (fun w' hS => ?_) ?_
              focus exact (IsValidValue_calls w' _ hbd.1).mono fun e w'' h => ⟨by rw [h.1, hv'.out], h.2⟩
              repeat first | refine sP ?_ | refine sS ?_ | refine sA ?_ | refine sL ?_ | refine sQ ?_ | refine sO ?_
              refine Reg.nil fun w2 hS => ?_
              go_wp2
              exact ⟨⟨k + 1, by omega, by go_num, ⟨by have := hst.out; rw [hi'.out, hp'.out, hv'.out] at this; simpa using this⟩, hB.out.trans hS, Loc.on hS hL'.out⟩, by simp [intOf]; omega⟩
            | false =>
              have hv' := Aside0.mk hv
              clear hv
              go_wp2
              refine Reg.region [(0,.L),(1,.L),(2,.L),(3,.L),(4,.L),(5,.C),(6,.L),(7,.L),(8,.L),(9,.L),(10,.L),(11,.L),(12,.L),(13,.L),(14,.L),(15,.L),(16,.L),(17,.L),(18,.L),(19,.L),(20,.L),(21,.L),(22,.L),(23,.L),(24,.L),(25,.L),(26,.L),(27,.L),(28,.L),(29,.L),(30,.L),(31,.C),(32,.L),(33,.L)] [] (by kernel_rfl) (by kernel_rfl) ?_
              repeat first | refine sP ?_ | refine sS ?_ | refine sA ?_ | refine sL ?_ | refine sQ ?_ | refine sO ?_
              refine callC (.bool true) Try.func114 (fun w' hS => ?_) ?_
              focus exact (l1In_calls w' _ _ _).mono fun e w'' h => ⟨by rw [h.1, hi'.out], h.2⟩
              repeat first | refine sP ?_ | refine sS ?_ | refine sA ?_ | refine sL ?_ | refine sQ ?_ | refine sO ?_
              refine callC (.bool false) Try.func115 (fun w' hS => ?_) ?_
              focus exact (IsValidValue_calls w' _ hbd.1).mono fun e w'' h => ⟨by rw [h.1, hv'.out], h.2⟩
              repeat first | refine sP ?_ | refine sS ?_ | refine sA ?_ | refine sL ?_ | refine sQ ?_ | refine sO ?_
              refine Reg.nil fun w2 hS => ?_
              go_wp2
              go_ret
              exact ⟨ret_bool (by have := hst.out; rw [hi'.out, hp'.out, hv'.out] at this; simp at this; simp [okSub, this]), hB.out.trans hS⟩
      · have hp' := Aside0.mk (show subFrom none ns vs = true by rw [← hp.out, List.drop_of_length_le (by omega)]; cases prevI ns k <;> rfl)
        clear hp hB0
        go_wp2
        go_ret
        exact ⟨ret_bool (by simp [okSub, hp'.out, hl'.out]), hB.out⟩
  · have hlb : ((ns.length : Int) == (vs.length : Int)) = false := by rw [beq_eq_false_iff_ne]; omega
    have hlc : ((ns.length : Int) != (vs.length : Int)) = true := by simp [bne, hlb]
    have hld : (ns.length == vs.length) = false := by simpa using hl
    have hl' := Aside0.mk hl
    clear hl
    go_enter Try.func73, Try.ntmps73
    go_wp2
    go_ret
    exact ⟨ret_bool (by simp [okSub, hl'.out]), hb.out⟩
theorem sNullValue_calls (w : World) (k : Int) (h : -9223372036854775000 ≤ k ∧ k ≤ 9223372036854775000) : Calls Try.prog 139 #[.int .i64 k] w fun e w' => e = .returned (.int .i64 (-1 - k)) ∧ On w w' := by
  go_enter Try.func139, Try.ntmps139
  go_wp2
  go_ret
  exact ⟨rfl, On.refl _⟩
theorem sApplyToValue_calls (w : World) (A0 c0 A1 c1) (ns vs : List Int) (h0 : Ints w A0 c0 ns) (h1 : Ints w A1 c1 vs) (x : Int) :
    Calls Try.prog 116 #[.agg #[.slice A0 ns.length c0, .slice A1 vs.length c1], .int .i64 x] w fun e w' => e = .returned (.int .i64 (appV ns vs x)) ∧ On w w' := by
  have hm0 := h0.max
  have hb := Aside0.mk (On.alloc (On.refl w) (.cells #[.slice A0 ns.length c0, .slice A1 vs.length c1] 45))
  have hL := Aside0.mk (loc1 w #[.slice A0 ns.length c0, .slice A1 vs.length c1] 45)
  cases ho : okSub ns vs with
  | false =>
    have ho' := Aside0.mk ho
    clear ho
    go_enter Try.func116, Try.ntmps116
    go_wp2
    go_loopw [5] (fun v wr => v = .int .i64 0 ∧ On w wr ∧ Loc wr [(w.heap.size, #[.slice A0 ns.length c0, .slice A1 vs.length c1], 45)]) (fun v _ => ns.length - (intOf v).toNat)
    case atStart => exact ⟨rfl, hb.out, hL.out⟩
    case round =>
      obtain ⟨rfl, hB0, hL0⟩ := hrel
      have hc0 := blk_cell hL0.1
      have hB := Aside0.mk hB0
      clear hL0 hB0
      by_cases hlt : 0 < ns.length
      · go_wp2_with (go_at_call 73; refine (sIsValidSub_calls _ A0 c0 A1 c1 ns vs (h0.on hB.out) (h1.on hB.out)).mono ?_; rintro e w2 ⟨rfl, hb2⟩; rw [ho'.out])
        go_ret
        exact ⟨ret_int (by simp [appV, ho'.out]), hB.out.trans hb2⟩
      · go_wp2
        go_ret
        exact ⟨ret_int (by simp [appV, ho'.out]), hB.out⟩
  | true =>
    have hsp := okSub_spec ho
    have hlen := Aside0.mk hsp.1
    have hnb := Aside0.mk hsp.2.1
    have ho' := Aside0.mk ho
    clear ho hsp
    go_enter Try.func116, Try.ntmps116
    go_wp2
    go_loopw [5] (fun v wr => ∃ k : Nat, k ≤ ns.length ∧ v = .int .i64 k ∧ Aside0 (findV (ns.drop k) (vs.drop k) x = findV ns vs x) ∧ On w wr ∧ Loc wr [(w.heap.size, #[.slice A0 ns.length c0, .slice A1 vs.length c1], 45)]) (fun v _ => ns.length - (intOf v).toNat)
    case atStart => exact ⟨0, Nat.zero_le _, rfl, ⟨rfl⟩, hb.out, hL.out⟩
    case round =>
      obtain ⟨k, hk, rfl, hp, hB0, hL0⟩ := hrel
      have hc0 := blk_cell hL0.1
      have hL' := Aside0.mk hL0
      have hB := Aside0.mk hB0
      clear hL0
      by_cases hlt : k < ns.length
      · have hlt2 : k < vs.length := by have := hlen.out; omega
        obtain ⟨ad, rfl, _⟩ := (h0.on hB0).at k hlt
        obtain ⟨bd, rfl, _⟩ := (h1.on hB0).at k hlt2
        have hst := Aside0.mk ((findV_step ns vs x k hlt hlt2).symm.trans hp.out)
        have hn := hnb.out _ (List.getElem_mem hlt)
        clear hp hB0
        by_cases hq : -1 - ns[k] = x
        · have hqb : (-1 - ns[k] == x) = true := by simpa using hq
          have hq' := Aside0.mk hq
          clear hq
          go_wp2_with (first
            | (go_at_call 73; refine (sIsValidSub_calls _ _ c0 _ c1 ns vs (h0.on hB.out) (h1.on hB.out)).mono ?_; rintro e w2 ⟨rfl, hb2⟩; rw [ho'.out]; have hc2 := blk_cell (Loc.on hb2 hL'.out).1; obtain ⟨ad', e', hx⟩ := (h0.on (hB.out.trans hb2)).at k hlt; obtain rfl : ad = ad' := (by simpa using e'); clear e')
            | (go_at_call 139; refine (sNullValue_calls _ _ (by omega)).mono ?_; rintro e w3 ⟨rfl, hb3⟩; have hc3 := blk_cell (Loc.on (hb2.trans hb3) hL'.out).1; obtain ⟨bd', e', hy⟩ := (h1.on (hB.out.trans (hb2.trans hb3))).at k hlt2; obtain rfl : bd = bd' := (by simpa using e'); clear e'))
          go_ret
          exact ⟨ret_int (by have := hst.out; rw [if_pos hq'.out] at this; simp [appV, ho'.out, ← this]), hB.out.trans (hb2.trans hb3)⟩
        · have hqb : (-1 - ns[k] == x) = false := by simpa using hq
          have hq' := Aside0.mk hq
          clear hq
          go_wp2_with (first
            | (go_at_call 73; refine (sIsValidSub_calls _ _ c0 _ c1 ns vs (h0.on hB.out) (h1.on hB.out)).mono ?_; rintro e w2 ⟨rfl, hb2⟩; rw [ho'.out]; have hc2 := blk_cell (Loc.on hb2 hL'.out).1; obtain ⟨ad', e', hx⟩ := (h0.on (hB.out.trans hb2)).at k hlt; obtain rfl : ad = ad' := (by simpa using e'); clear e')
            | (go_at_call 139; refine (sNullValue_calls _ _ (by omega)).mono ?_; rintro e w3 ⟨rfl, hb3⟩))
          exact ⟨⟨k + 1, by omega, by go_num, ⟨by have := hst.out; rwa [if_neg hq'.out] at this⟩, hB.out.trans (hb2.trans hb3), Loc.on (hb2.trans hb3) hL'.out⟩, by simp [intOf]; omega⟩
      · have hp' := Aside0.mk (show findV ns vs x = none by rw [← hp.out]; exact findV_nil ns vs x k (by omega))
        clear hp hB0
        go_wp2
        go_ret
        exact ⟨ret_int (by simp [appV, ho'.out, hp'.out]), hB.out⟩

theorem own1I (W : World) (x : Int) : OI (W.alloc (.cells #[.int .i64 x] 3 (0, 0))) W.heap.size (.slice (some ⟨W.heap.size, 0, none⟩) 1 1) [x] := lit_own W #[.int .i64 x] 3 1 1 W.heap.size (Nat.le_refl _) (by omega) rfl
theorem lit_RI {W w : World} {x : Int} (hx : -9223372036854775808 ≤ x ∧ x ≤ 9223372036854775807) (hb : On (W.alloc (.cells #[.int .i64 x] 3 (0, 0))) w) : kInts.C w (some ⟨W.heap.size, 0, none⟩) 1 [x] := by
  obtain ⟨A, c, e, h⟩ := OI.rd (pw_own_below (own1I W x) hb) (fun y hy => by simp at hy; subst hy; exact hx)
  injection e with e1 e2 e3
  subst e1
  exact h.2.1
theorem map_inR {ns vs xs : List Int} (h : InR xs) : InR (xs.map (appV ns vs)) := fun y hy => by
  obtain ⟨x, hx, rfl⟩ := List.mem_map.1 hy
  exact appV_bd (h x hx)
theorem sApplyToFact_calls (w : World) (A0 c0 A1 c1 A2 c2) (ns vs : List Int) (f : Fct) (h0 : Ints w A0 c0 ns) (h1 : Ints w A1 c1 vs) (h2 : Ints w A2 c2 f.2) (hl : f.2.length ≤ 2000000) :
    Calls Try.prog 77 #[.agg #[.slice A0 ns.length c0, .slice A1 vs.length c1], .agg #[.int .i64 f.1, .slice A2 f.2.length c2]] w (Got fun v w' => ∃ v1, v = .agg #[.int .i64 f.1, v1] ∧ OI w' w.heap.size v1 (f.2.map (appV ns vs)) ∧ On w w') := by
  have hb := Aside0.mk (On.alloc (On.alloc (On.alloc (On.refl w) (.cells #[.slice A0 ns.length c0, .slice A1 vs.length c1] 45)) (.cells #[.int .i64 f.1, .slice A2 f.2.length c2] 55)) (.cells #[.int .i64 0, .slice none 0 0] 55))
  have hL := Aside0.mk (loc3 w #[.slice A0 ns.length c0, .slice A1 vs.length c1] #[.int .i64 f.1, .slice A2 f.2.length c2] #[.int .i64 0, .slice none 0 0] 45 55 55)
  have hsz3 := Aside0.mk (show (((w.alloc (.cells #[.slice A0 ns.length c0, .slice A1 vs.length c1] 45)).alloc (.cells #[.int .i64 f.1, .slice A2 f.2.length c2] 55)).alloc (.cells #[.int .i64 0, .slice none 0 0] 55)).heap.size = w.heap.size + 3 by simp)
  have hfill := alloc_fill (((w.alloc (.cells #[.slice A0 ns.length c0, .slice A1 vs.length c1] 45)).alloc (.cells #[.int .i64 f.1, .slice A2 f.2.length c2] 55)).alloc (.cells #[.int .i64 0, .slice none 0 0] 55))
  go_enter Try.func77, Try.ntmps77
  go_wp2
  clear hfill
  obtain ⟨Wx, hWx⟩ : ∃ Wx, ((w.alloc (.cells #[.slice A0 ns.length c0, .slice A1 vs.length c1] 45)).alloc (.cells #[.int .i64 f.1, .slice A2 f.2.length c2] 55)).alloc (.cells #[.int .i64 0, .slice none 0 0] 55) = Wx := ⟨_, rfl⟩
  rw [hWx] at hb hL hsz3 ⊢
  clear hWx
  have hyb := Aside0.mk (show (Wx.alloc (.cells #[.int .i64 f.1, .slice none 0 0] 55)).heap[w.heap.size + 1 + 1 + 1]? = some (.cells #[.int .i64 f.1, .slice none 0 0] 55 (0, 0)) from by have h := loc_new Wx #[.int .i64 f.1, .slice none 0 0] 55; rw [hsz3.out] at h; exact h)
  have hBy := Aside0.mk (On.alloc (On.refl Wx) (.cells #[.int .i64 f.1, .slice none 0 0] 55))
  have hsy := Aside0.mk (show (Wx.alloc (.cells #[.int .i64 f.1, .slice none 0 0] 55)).heap.size = w.heap.size + 4 by simp [hsz3.out])
  obtain ⟨Wy, hWy⟩ : ∃ Wy, Wx.alloc (.cells #[.int .i64 f.1, .slice none 0 0] 55) = Wy := ⟨_, rfl⟩
  rw [hWy] at hyb hBy hsy ⊢
  clear hWy
  go_loopw [6] (fun v wr => ∃ (k : Nat) (xs : List Int) (A' : Option Addr) (c' : Nat), k ≤ f.2.length ∧ v = .int .i64 k ∧ Aside0 (xs = (f.2.take k).map (appV ns vs)) ∧ Aside0 (OI wr (w.heap.size + 4) (.slice A' xs.length c') xs) ∧ Aside0 (w.heap.size + 4 ≤ wr.heap.size) ∧ Aside0 (Ex (fun b => w.heap.size + 3 ≤ b) Wx wr) ∧ wr.heap[w.heap.size + 1 + 1 + 1]? = some (.cells #[.int .i64 f.1, .slice A' xs.length c'] 55 (0, 0))) (fun v _ => f.2.length - (intOf v).toNat)
  case atStart => exact ⟨0, [], none, 0, Nat.zero_le _, rfl, ⟨rfl⟩, ⟨World.ownsRow_nil _ _ _ _⟩, ⟨by rw [hsy.out]; exact Nat.le_refl _⟩, ⟨Ex.of_on hBy.out⟩, hyb.out⟩
  case round =>
    obtain ⟨k, xs, A', c', hk, rfl, hxs, hO, hsz, hE, hy⟩ := hrel
    have hlen := Aside0.mk (show xs.length = k by rw [hxs.out, List.length_map, List.length_take]; omega)
    have hLr := Aside0.mk (show Loc wr _ from Loc.on (Ex.to_on hE.out (fun i hi => by rw [hsz3.out]; exact hi)) hL.out)
    have hB := Aside0.mk (hb.out.trans (Ex.to_on hE.out (fun i hi => by rw [hsz3.out]; exact hi)))
    have hc0 := blk_cell hLr.out.1
    have hc1 := blk_cell hLr.out.2.1
    have hcy := blk_cell hy
    have hy' := Aside0.mk hy
    clear hy
    by_cases hlt : k < f.2.length
    · obtain ⟨ad, rfl, hx⟩ := (h2.on hB.out).at k hlt
      have hbd := h2.bd k hlt
      have hab := Aside0.mk (appV_bd (ns := ns) (vs := vs) hbd)
      go_wp2
      refine Reg.region [(0,.L),(1,.L),(2,.L),(3,.L),(4,.L),(5,.L),(6,.L),(7,.L),(8,.C),(9,.N)] [10,11,12] (by kernel_rfl) (by kernel_rfl) ?_
      repeat first | refine sP ?_ | refine sS ?_ | refine sA ?_ | refine sL ?_ | refine sQ ?_ | refine sO ?_
      refine callC (.int .i64 (appV ns vs f.2[k])) Try.func116 (fun w' hS => ?_) ?_
      focus exact sApplyToValue_calls w' A0 c0 A1 c1 ns vs (h0.on (hB.out.trans hS)) (h1.on (hB.out.trans hS)) f.2[k]
      refine stepM (fun w4 hS4 => ?_)
      go_wp2
      refine ⟨hS4.trans (On.alloc (On.refl _) _), ?_⟩
      refine Reg.tail_ fun w5 hS5 => ?_
      have hB5 := Aside0.mk ((hS4.trans (On.alloc (On.refl _) _)).trans hS5)
      have hO5 := Aside0.mk (pw_own_below hO.out hB5.out)
      obtain ⟨zs, hz⟩ : ∃ zs, xs ++ [appV ns vs f.2[k]] = zs := ⟨_, rfl⟩
      have hz' := Aside0.mk hz
      refine apI 27 hz (OI.to hO5.out) (lit_RI hab.out hS5) (Nat.le_trans hsz.out hB5.out.size) (by have := hlen.out; omega) fun v6 w6 hO6' hg6 hat6 => ?_
      have hO6 := OI.of hO6'
      obtain ⟨A6, c6, rfl⟩ := own_slice hO6
      have hgy : some (w.heap.size + 1 + 1 + 1) ≠ Value.ownBlock (.slice A' xs.length c') := fun e => by have := own_base hO.out _ e.symm; omega
      have hk6 := blk_grown hg6 (blk_below hy'.out hB5.out) hgy
      have hcy6 := blk_cell hk6
      have hf6 := blk_frozen hk6
      have hk6' := Aside0.mk hk6
      clear hk6 hgy hcy hz hat6 hO6'
      go_wp2
      refine ⟨⟨k + 1, zs, A6, c6, by omega, by go_num, ⟨?_⟩, ⟨ownsRow_setCell_below hO6 (by simp) _⟩, ⟨?_⟩, ⟨?_⟩, blk_set hk6'.out 1 _⟩, by simp [intOf]; omega⟩
      · rw [← hz'.out, List.take_succ_eq_append_getElem hlt, List.map_append, hxs.out]; rfl
      · have h3 := hg6.size; have h4 := hB5.out.size; have := hsz.out; simp [World.setCell]; omega
      · exact ((hE.out.then_on hB5.out).trans (Ex.of_grown hg6) (fun i _ e => by have := own_base hO5.out i e.symm; omega)).trans (Ex.set _ _ _) (fun i _ e => by have h : i = w.heap.size + 1 + 1 + 1 := e; omega)
    · have e1 : f.2.take k = f.2 := List.take_of_length_le (by omega)
      rw [e1] at hxs
      have hcr : ∀ i, wr.cell? ⟨w.heap.size + 1 + 1, i, none⟩ = _ := blk_cell hLr.out.2.2.1
      have hfr : ∀ i, wr.frozen? ⟨w.heap.size + 1 + 1, i, none⟩ = _ := blk_frozen hLr.out.2.2.1
      go_wp2
      refine bodyPost_ret (retF rfl rfl (g := w.heap.size + 2) (blk_set (blk_set hLr.out.2.2.1 0 _) 1 _) rfl) rfl ?_
      have hO2 := hO.out
      rw [hxs.out] at hO2
      refine ⟨_, rfl, _, rfl, ?_, Reg.On.set (Reg.On.set hB.out (by simp; omega) _) (by simp; omega) _⟩
      rw [hxs.out]
      exact own_lower (ownsRow_setCell_below (ownsRow_setCell_below hO2 (by simp) _) (by simp) _) (by omega)
/-- Two relations are the same. -/
def sameR (r q : Rel) : Bool := decide (r = q)
theorem sameR_eq (r q : Rel) : (r.1.toList == q.1.toList && (r.2.1 == q.2.1 && (r.2.2 == q.2.2))) = sameR r q := by
  obtain ⟨a, b, c⟩ := r
  obtain ⟨d, e, f⟩ := q
  rw [Bool.eq_iff_iff]
  simp only [sameR, Bool.and_eq_true, beq_iff_eq, decide_eq_true_eq, Prod.mk.injEq]
  rw [ByteArray.toList_eq, ByteArray.toList_eq, Array.toList_inj]
  exact ⟨fun h => ⟨ByteArray.ext h.1, h.2⟩, fun h => ⟨congrArg _ h.1, h.2⟩⟩
theorem eqRel (d : Nat) (w : World) (r q : Rel) :
    (Op.equalIn (d + 2) 87 (.agg #[.string r.1, .int .i64 r.2.1, .bool r.2.2]) (.agg #[.string q.1, .int .i64 q.2.1, .bool q.2.2])).run Try.prog w = .ok (sameR r q) w := by
  rw [← sameR_eq]
  refine eqA_of Try.underlying87 (by kernel_rfl) ?_
  refine eqf_cons (by rfl) (by go_simp; rfl) (by go_simp; rfl) (by go_simp) ?_
  refine eqf_cons (by rfl) (by go_simp; rfl) (by go_simp; rfl) (by go_simp) ?_
  exact eqf_last (by rfl) (by go_simp; rfl) (by go_simp; rfl) (by go_simp)
attribute [local go_sem high] eqRel
theorem l5Sigs_calls (w : World) (A c B d) (rs qs : List Rel) (h0 : Rels w A c rs) (h1 : Rels w B d qs) : Calls Try.prog 74 #[.slice A rs.length c, .slice B qs.length d] w fun e w' => e = .returned (.bool (decide (rs = qs))) ∧ On w w' := by
  have hm0 := h0.max
  have hm1 := h1.max
  by_cases hl : rs.length = qs.length
  · have hlb : ((rs.length : Int) == (qs.length : Int)) = true := by simp [hl]
    have hlc : ((rs.length : Int) != (qs.length : Int)) = false := by simp [bne, hlb]
    have hld : (rs.length == qs.length) = true := by simp [hl]
    have hl' := Aside0.mk hl
    clear hl
    go_enter Try.func74, Try.ntmps74
    go_wp2
    clear hlb hlc hld
    go_loopw [5] (fun v wr => ∃ k : Nat, k ≤ rs.length ∧ v = .int .i64 k ∧ Aside0 (rs.take k = qs.take k) ∧ On w wr) (fun v _ => rs.length - (intOf v).toNat)
    case atStart => exact ⟨0, Nat.zero_le _, rfl, ⟨rfl⟩, On.refl _⟩
    case round =>
      obtain ⟨k, hk, rfl, hp, hB⟩ := hrel
      by_cases hlt : k < rs.length
      · have hlt2 : k < qs.length := by have := hl'.out; omega
        obtain ⟨ad, rfl, hx0, hx1, hx2⟩ := (h0.on hB).at k hlt
        obtain ⟨bd, rfl, hy0, hy1, hy2⟩ := (h1.on hB).at k hlt2
        cases hq : sameR rs[k] qs[k] with
        | true =>
          have hq' := Aside0.mk (of_decide_eq_true hq : rs[k] = qs[k])
          go_wp2
          refine Reg.region [(0,.L),(1,.L),(2,.L),(3,.L),(4,.L),(5,.L),(6,.L),(7,.L),(8,.L)] [] (by kernel_rfl) (by kernel_rfl) ?_
          repeat first | refine sP ?_ | refine sS ?_ | refine sA ?_ | refine sL ?_ | refine sQ ?_ | refine sO ?_
          refine Reg.nil fun w2 hS => ?_
          clear hq
          go_wp2
          exact ⟨⟨k + 1, by omega, by go_num, ⟨by rw [List.take_succ_eq_append_getElem hlt, List.take_succ_eq_append_getElem hlt2, hp.out, hq'.out]⟩, hB.trans hS⟩, by simp [intOf]; omega⟩
        | false =>
          have hq' := Aside0.mk (of_decide_eq_false hq : ¬ rs[k] = qs[k])
          go_wp2
          refine Reg.region [(0,.L),(1,.L),(2,.L),(3,.L),(4,.L),(5,.L),(6,.L),(7,.L),(8,.L)] [] (by kernel_rfl) (by kernel_rfl) ?_
          repeat first | refine sP ?_ | refine sS ?_ | refine sA ?_ | refine sL ?_ | refine sQ ?_ | refine sO ?_
          refine Reg.nil fun w2 hS => ?_
          clear hq
          go_wp2
          go_ret
          exact ⟨ret_bool (by symm; exact decide_eq_false fun e => hq'.out (by subst e; rfl)), hB.trans hS⟩
      · have e1 : rs.take k = rs := List.take_of_length_le (by omega)
        have e2 : qs.take k = qs := List.take_of_length_le (by have := hl'.out; omega)
        rw [e1, e2] at hp
        go_wp2
        go_ret
        exact ⟨ret_bool (by symm; exact decide_eq_true hp.out), hB⟩
  · have hlb : ((rs.length : Int) == (qs.length : Int)) = false := by rw [beq_eq_false_iff_ne]; omega
    have hlc : ((rs.length : Int) != (qs.length : Int)) = true := by simp [bne, hlb]
    have hld : (rs.length == qs.length) = false := by simpa using hl
    have hl' := Aside0.mk hl
    clear hl
    go_enter Try.func74, Try.ntmps74
    go_wp2
    go_ret
    exact ⟨ret_bool (by symm; exact decide_eq_false fun e => hl'.out (congrArg _ e)), On.refl _⟩
end Go.Proofs.Ytngjhblbpapjeaa.H
