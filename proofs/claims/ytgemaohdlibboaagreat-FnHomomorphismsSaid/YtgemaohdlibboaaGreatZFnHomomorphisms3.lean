/- Walks and plain laws for the law FnHomomorphisms, part 3 of 8: the texts HS2, HG2, HG3, HG4, HG4s, HG5, HG6, HG7, HG8, HL10, HG16 in one. No condition. -/
import Derived.Test.YtgemaohdlibboaaGreatWEqStruct
import Derived.Test.YtgemaohdlibboaaGreatZFnHomomorphisms2
/- Walks: substitutions of the reference. No condition. -/
namespace Go.Proofs.YtgemaohdlibboaaGreat.H
open Go Go.RowKit Go.Proofs.YtgemaohdlibboaaGreatW.PrintWords Go.Proofs.YtgemaohdlibboaaGreatW.PrintLast
open Go.Proofs.YtgemaohdlibboaaGreat.Reg (On on_draw)
set_option maxHeartbeats 4000000
set_option maxRecDepth 100000
set_option linter.unusedVariables false
set_option linter.unusedSimpArgs false

theorem sIsValidSub_calls (w : World) (A0 c0 A1 c1) (ns vs : List Int) (h0 : Ints w A0 c0 ns) (h1 : Ints w A1 c1 vs) :
    Calls Tryz.prog 32 #[.agg #[.slice A0 ns.length c0, .slice A1 vs.length c1]] w fun e w' => e = .returned (.bool (okSub ns vs)) ∧ On w w' := by
  have hm0 := h0.max
  have hm1 := h1.max
  have hb := Aside0.mk (On.alloc (On.refl w) (.cells #[.slice A0 ns.length c0, .slice A1 vs.length c1] 32))
  have hL := Aside0.mk (loc1 w #[.slice A0 ns.length c0, .slice A1 vs.length c1] 32)
  by_cases hl : ns.length = vs.length
  · have hlb : ((ns.length : Int) == (vs.length : Int)) = true := by simp [hl]
    have hlc : ((ns.length : Int) != (vs.length : Int)) = false := by simp [bne, hlb]
    have hld : (ns.length == vs.length) = true := by simp [hl]
    have hl' := Aside0.mk hl
    clear hl
    go_enter Tryz.func32, Tryz.ntmps32
    go_wp2
    clear hlb hlc hld
    go_loopw [3] (fun v wr => ∃ k : Nat, k ≤ ns.length ∧ v = .int .i64 k ∧ Aside0 (subFrom (prevI ns k) (ns.drop k) (vs.drop k) = subFrom none ns vs) ∧ On w wr ∧ Loc wr [(w.heap.size, #[.slice A0 ns.length c0, .slice A1 vs.length c1], 32)]) (fun v _ => ns.length - (intOf v).toNat)
    case atStart => exact ⟨0, Nat.zero_le _, rfl, ⟨rfl⟩, hb.out, hL.out⟩
    case round =>
      obtain ⟨k, hk, rfl, hp, hB0, hL0⟩ := hrel
      have hc0 := blk_cell hL0.1
      have hL' := Aside0.mk hL0
      have hB := Aside0.mk hB0
      clear hL0
      by_cases hlt : k < ns.length
      · have hlt2 : k < vs.length := by have := hl'.out; omega
        obtain ⟨ad, rfl, hx⟩ := (h0.on hB0).at k hlt
        obtain ⟨bd, rfl, hy⟩ := (h1.on hB0).at k hlt2
        have hbd := h1.bd k hlt2
        have hst := Aside0.mk ((subFrom_step ns vs k hlt hlt2).symm.trans hp.out)
        clear hp hB0
        cases hi : within ns[k] 0 39 with
        | false =>
          have hi' := Aside0.mk hi
          clear hi
          go_wp2
          refine Reg.region [(0,.L),(1,.L),(2,.L),(3,.L),(4,.L),(5,.C),(6,.L),(7,.L),(8,.L),(9,.L),(10,.L),(11,.L),(12,.L),(13,.L),(14,.L),(15,.L),(16,.L),(17,.L),(18,.L),(19,.L),(20,.L),(21,.L),(22,.L),(23,.L),(24,.L),(25,.L),(26,.L),(27,.L),(28,.L),(29,.L),(30,.L),(31,.C),(32,.L),(33,.L)] [] (by kernel_rfl) (by kernel_rfl) ?_
          repeat first | refine sP ?_ | refine sS ?_ | refine sA ?_ | refine sL ?_ | refine sQ ?_ | refine sO ?_
          refine callC (.bool false) Tryz.func61 (fun w' hS => ?_) ?_
          focus exact (l1In_calls w' _ _ _).mono fun e w'' h => ⟨by rw [h.1, hi'.out], h.2⟩
          repeat first | refine sP ?_ | refine sS ?_ | refine sA ?_ | refine sL ?_ | refine sQ ?_ | refine sO ?_
          refine Reg.nil fun w2 hS => ?_
          go_wp2
          go_ret
          exact ⟨ret_bool (by have := hst.out; rw [hi'.out] at this; simp at this; simp [okSub, this]), hB.out.trans hS⟩
        | true =>
          have hi' := Aside0.mk hi
          clear hi
          by_cases hk0 : 0 < k
          · have hk0' : decide (0 < (k : Int)) = true := decide_eq_true (by omega)
            have hki : IntKind.i64.wrap ((k : Int) - 1) = ((k - 1 : Nat) : Int) := by rw [IntWalk.i64_in _ (by omega)]; omega
            have hk1 : k - 1 < ns.length := by omega
            obtain ⟨ad', e', hz⟩ := (h0.on hB.out).at (k - 1) hk1
            obtain rfl : ad = ad' := by simpa using e'
            have hpn : prevI ns k = some ns[k - 1] := by simp [prevI, show ¬ k = 0 by omega, show k - 1 < ns.length by omega]
            by_cases hc : ns[k] ≤ ns[k - 1]
            · have hcb : decide (ns[k] ≤ ns[k - 1]) = true := decide_eq_true hc
              have hp' := Aside0.mk (show okPrevI (prevI ns k) ns[k] = false by rw [hpn]; exact decide_eq_false (by omega))
              clear hc hpn
              go_wp2
              refine Reg.region [(0,.L),(1,.L),(2,.L),(3,.L),(4,.L),(5,.C),(6,.L),(7,.L),(8,.L),(9,.L),(10,.L),(11,.L),(12,.L),(13,.L),(14,.L),(15,.L),(16,.L),(17,.L),(18,.L),(19,.L),(20,.L),(21,.L),(22,.L),(23,.L),(24,.L),(25,.L),(26,.L),(27,.L),(28,.L),(29,.L),(30,.L),(31,.C),(32,.L),(33,.L)] [] (by kernel_rfl) (by kernel_rfl) ?_
              repeat first | refine sP ?_ | refine sS ?_ | refine sA ?_ | refine sL ?_ | refine sQ ?_ | refine sO ?_
              refine callC (.bool true) Tryz.func61 (fun w' hS => ?_) ?_
              focus exact (l1In_calls w' _ _ _).mono fun e w'' h => ⟨by rw [h.1, hi'.out], h.2⟩
              repeat first | refine sP ?_ | refine sS ?_ | refine sA ?_ | refine sL ?_ | refine sQ ?_ | refine sO ?_
              refine Reg.nil fun w2 hS => ?_
              go_wp2
              go_ret
              exact ⟨ret_bool (by have := hst.out; rw [hi'.out, hp'.out] at this; simp at this; simp [okSub, this]), hB.out.trans hS⟩
            · have hcb : decide (ns[k] ≤ ns[k - 1]) = false := decide_eq_false hc
              have hp' := Aside0.mk (show okPrevI (prevI ns k) ns[k] = true by rw [hpn]; exact decide_eq_true (by omega))
              clear hc hpn
              cases hv : okVal vs[k] with
              | true =>
                have hv' := Aside0.mk hv
                clear hv
                go_wp2
                refine Reg.region [(0,.L),(1,.L),(2,.L),(3,.L),(4,.L),(5,.C),(6,.L),(7,.L),(8,.L),(9,.L),(10,.L),(11,.L),(12,.L),(13,.L),(14,.L),(15,.L),(16,.L),(17,.L),(18,.L),(19,.L),(20,.L),(21,.L),(22,.L),(23,.L),(24,.L),(25,.L),(26,.L),(27,.L),(28,.L),(29,.L),(30,.L),(31,.C),(32,.L),(33,.L)] [] (by kernel_rfl) (by kernel_rfl) ?_
                repeat first | refine sP ?_ | refine sS ?_ | refine sA ?_ | refine sL ?_ | refine sQ ?_ | refine sO ?_
                refine callC (.bool true) Tryz.func61 (fun w' hS => ?_) ?_
                focus exact (l1In_calls w' _ _ _).mono fun e w'' h => ⟨by rw [h.1, hi'.out], h.2⟩
                repeat first | refine sP ?_ | refine sS ?_ | refine sA ?_ | refine sL ?_ | refine sQ ?_ | refine sO ?_
                refine callC (.bool true) Tryz.func62 (fun w' hS => ?_) ?_
                focus exact (IsValidValue_calls w' _ hbd.1).mono fun e w'' h => ⟨by rw [h.1, hv'.out], h.2⟩
                repeat first | refine sP ?_ | refine sS ?_ | refine sA ?_ | refine sL ?_ | refine sQ ?_ | refine sO ?_
                refine Reg.nil fun w2 hS => ?_
                go_wp2
                exact ⟨⟨k + 1, by omega, by go_num, ⟨by have := hst.out; rw [hi'.out, hp'.out, hv'.out] at this; simpa using this⟩, hB.out.trans hS, Loc.on hS hL'.out⟩, by simp [intOf]; omega⟩
              | false =>
                have hv' := Aside0.mk hv
                clear hv
                go_wp2
                refine Reg.region [(0,.L),(1,.L),(2,.L),(3,.L),(4,.L),(5,.C),(6,.L),(7,.L),(8,.L),(9,.L),(10,.L),(11,.L),(12,.L),(13,.L),(14,.L),(15,.L),(16,.L),(17,.L),(18,.L),(19,.L),(20,.L),(21,.L),(22,.L),(23,.L),(24,.L),(25,.L),(26,.L),(27,.L),(28,.L),(29,.L),(30,.L),(31,.C),(32,.L),(33,.L)] [] (by kernel_rfl) (by kernel_rfl) ?_
                repeat first | refine sP ?_ | refine sS ?_ | refine sA ?_ | refine sL ?_ | refine sQ ?_ | refine sO ?_
                refine callC (.bool true) Tryz.func61 (fun w' hS => ?_) ?_
                focus exact (l1In_calls w' _ _ _).mono fun e w'' h => ⟨by rw [h.1, hi'.out], h.2⟩
                repeat first | refine sP ?_ | refine sS ?_ | refine sA ?_ | refine sL ?_ | refine sQ ?_ | refine sO ?_
                refine callC (.bool false) Tryz.func62 (fun w' hS => ?_) ?_
                focus exact (IsValidValue_calls w' _ hbd.1).mono fun e w'' h => ⟨by rw [h.1, hv'.out], h.2⟩
                repeat first | refine sP ?_ | refine sS ?_ | refine sA ?_ | refine sL ?_ | refine sQ ?_ | refine sO ?_
                refine Reg.nil fun w2 hS => ?_
                go_wp2
                go_ret
                exact ⟨ret_bool (by have := hst.out; rw [hi'.out, hp'.out, hv'.out] at this; simp at this; simp [okSub, this]), hB.out.trans hS⟩
          · have hk0' : decide (0 < (k : Int)) = false := decide_eq_false (by omega)
            have hp' := Aside0.mk (show okPrevI (prevI ns k) ns[k] = true by simp [okPrevI, prevI, show k = 0 by omega])
            cases hv : okVal vs[k] with
            | true =>
              have hv' := Aside0.mk hv
              clear hv
              go_wp2
              refine Reg.region [(0,.L),(1,.L),(2,.L),(3,.L),(4,.L),(5,.C),(6,.L),(7,.L),(8,.L),(9,.L),(10,.L),(11,.L),(12,.L),(13,.L),(14,.L),(15,.L),(16,.L),(17,.L),(18,.L),(19,.L),(20,.L),(21,.L),(22,.L),(23,.L),(24,.L),(25,.L),(26,.L),(27,.L),(28,.L),(29,.L),(30,.L),(31,.C),(32,.L),(33,.L)] [] (by kernel_rfl) (by kernel_rfl) ?_
              repeat first | refine sP ?_ | refine sS ?_ | refine sA ?_ | refine sL ?_ | refine sQ ?_ | refine sO ?_
              refine callC (.bool true) Tryz.func61 (fun w' hS => ?_) ?_
              focus exact (l1In_calls w' _ _ _).mono fun e w'' h => ⟨by rw [h.1, hi'.out], h.2⟩
              repeat first | refine sP ?_ | refine sS ?_ | refine sA ?_ | refine sL ?_ | refine sQ ?_ | refine sO ?_
              refine callC (.bool true) Tryz.func62 (fun w' hS => ?_) ?_
              focus exact (IsValidValue_calls w' _ hbd.1).mono fun e w'' h => ⟨by rw [h.1, hv'.out], h.2⟩
              repeat first | refine sP ?_ | refine sS ?_ | refine sA ?_ | refine sL ?_ | refine sQ ?_ | refine sO ?_
              refine Reg.nil fun w2 hS => ?_
              go_wp2
              exact ⟨⟨k + 1, by omega, by go_num, ⟨by have := hst.out; rw [hi'.out, hp'.out, hv'.out] at this; simpa using this⟩, hB.out.trans hS, Loc.on hS hL'.out⟩, by simp [intOf]; omega⟩
            | false =>
              have hv' := Aside0.mk hv
              clear hv
              go_wp2
              refine Reg.region [(0,.L),(1,.L),(2,.L),(3,.L),(4,.L),(5,.C),(6,.L),(7,.L),(8,.L),(9,.L),(10,.L),(11,.L),(12,.L),(13,.L),(14,.L),(15,.L),(16,.L),(17,.L),(18,.L),(19,.L),(20,.L),(21,.L),(22,.L),(23,.L),(24,.L),(25,.L),(26,.L),(27,.L),(28,.L),(29,.L),(30,.L),(31,.C),(32,.L),(33,.L)] [] (by kernel_rfl) (by kernel_rfl) ?_
              repeat first | refine sP ?_ | refine sS ?_ | refine sA ?_ | refine sL ?_ | refine sQ ?_ | refine sO ?_
              refine callC (.bool true) Tryz.func61 (fun w' hS => ?_) ?_
              focus exact (l1In_calls w' _ _ _).mono fun e w'' h => ⟨by rw [h.1, hi'.out], h.2⟩
              repeat first | refine sP ?_ | refine sS ?_ | refine sA ?_ | refine sL ?_ | refine sQ ?_ | refine sO ?_
              refine callC (.bool false) Tryz.func62 (fun w' hS => ?_) ?_
              focus exact (IsValidValue_calls w' _ hbd.1).mono fun e w'' h => ⟨by rw [h.1, hv'.out], h.2⟩
              repeat first | refine sP ?_ | refine sS ?_ | refine sA ?_ | refine sL ?_ | refine sQ ?_ | refine sO ?_
              refine Reg.nil fun w2 hS => ?_
              go_wp2
              go_ret
              exact ⟨ret_bool (by have := hst.out; rw [hi'.out, hp'.out, hv'.out] at this; simp at this; simp [okSub, this]), hB.out.trans hS⟩
      · have hp' := Aside0.mk (show subFrom none ns vs = true by rw [← hp.out, List.drop_of_length_le (by omega)]; cases prevI ns k <;> rfl)
        clear hp hB0
        go_wp2
        go_ret
        exact ⟨ret_bool (by simp [okSub, hp'.out, hl'.out]), hB.out⟩
  · have hlb : ((ns.length : Int) == (vs.length : Int)) = false := by rw [beq_eq_false_iff_ne]; omega
    have hlc : ((ns.length : Int) != (vs.length : Int)) = true := by simp [bne, hlb]
    have hld : (ns.length == vs.length) = false := by simpa using hl
    have hl' := Aside0.mk hl
    clear hl
    go_enter Tryz.func32, Tryz.ntmps32
    go_wp2
    go_ret
    exact ⟨ret_bool (by simp [okSub, hl'.out]), hb.out⟩
theorem sNullValue_calls (w : World) (k : Int) (h : -9223372036854775000 ≤ k ∧ k ≤ 9223372036854775000) : Calls Tryz.prog 89 #[.int .i64 k] w fun e w' => e = .returned (.int .i64 (-1 - k)) ∧ On w w' := by
  go_enter Tryz.func89, Tryz.ntmps89
  go_wp2
  go_ret
  exact ⟨rfl, On.refl _⟩
theorem sApplyToValue_calls (w : World) (A0 c0 A1 c1) (ns vs : List Int) (h0 : Ints w A0 c0 ns) (h1 : Ints w A1 c1 vs) (x : Int) :
    Calls Tryz.prog 64 #[.agg #[.slice A0 ns.length c0, .slice A1 vs.length c1], .int .i64 x] w fun e w' => e = .returned (.int .i64 (appV ns vs x)) ∧ On w w' := by
  have hm0 := h0.max
  have hb := Aside0.mk (On.alloc (On.refl w) (.cells #[.slice A0 ns.length c0, .slice A1 vs.length c1] 32))
  have hL := Aside0.mk (loc1 w #[.slice A0 ns.length c0, .slice A1 vs.length c1] 32)
  cases ho : okSub ns vs with
  | false =>
    have ho' := Aside0.mk ho
    clear ho
    go_enter Tryz.func64, Tryz.ntmps64
    go_wp2
    go_loopw [5] (fun v wr => v = .int .i64 0 ∧ On w wr ∧ Loc wr [(w.heap.size, #[.slice A0 ns.length c0, .slice A1 vs.length c1], 32)]) (fun v _ => ns.length - (intOf v).toNat)
    case atStart => exact ⟨rfl, hb.out, hL.out⟩
    case round =>
      obtain ⟨rfl, hB0, hL0⟩ := hrel
      have hc0 := blk_cell hL0.1
      have hB := Aside0.mk hB0
      clear hL0 hB0
      by_cases hlt : 0 < ns.length
      · go_wp2_with (go_at_call 32; refine (sIsValidSub_calls _ A0 c0 A1 c1 ns vs (h0.on hB.out) (h1.on hB.out)).mono ?_; rintro e w2 ⟨rfl, hb2⟩; rw [ho'.out])
        go_ret
        exact ⟨ret_int (by simp [appV, ho'.out]), hB.out.trans hb2⟩
      · go_wp2
        go_ret
        exact ⟨ret_int (by simp [appV, ho'.out]), hB.out⟩
  | true =>
    have hsp := okSub_spec ho
    have hlen := Aside0.mk hsp.1
    have hnb := Aside0.mk hsp.2.1
    have ho' := Aside0.mk ho
    clear ho hsp
    go_enter Tryz.func64, Tryz.ntmps64
    go_wp2
    go_loopw [5] (fun v wr => ∃ k : Nat, k ≤ ns.length ∧ v = .int .i64 k ∧ Aside0 (findV (ns.drop k) (vs.drop k) x = findV ns vs x) ∧ On w wr ∧ Loc wr [(w.heap.size, #[.slice A0 ns.length c0, .slice A1 vs.length c1], 32)]) (fun v _ => ns.length - (intOf v).toNat)
    case atStart => exact ⟨0, Nat.zero_le _, rfl, ⟨rfl⟩, hb.out, hL.out⟩
    case round =>
      obtain ⟨k, hk, rfl, hp, hB0, hL0⟩ := hrel
      have hc0 := blk_cell hL0.1
      have hL' := Aside0.mk hL0
      have hB := Aside0.mk hB0
      clear hL0
      by_cases hlt : k < ns.length
      · have hlt2 : k < vs.length := by have := hlen.out; omega
        obtain ⟨ad, rfl, _⟩ := (h0.on hB0).at k hlt
        obtain ⟨bd, rfl, _⟩ := (h1.on hB0).at k hlt2
        have hst := Aside0.mk ((findV_step ns vs x k hlt hlt2).symm.trans hp.out)
        have hn := hnb.out _ (List.getElem_mem hlt)
        clear hp hB0
        by_cases hq : -1 - ns[k] = x
        · have hqb : (-1 - ns[k] == x) = true := by simpa using hq
          have hq' := Aside0.mk hq
          clear hq
          go_wp2_with (first
            | (go_at_call 32; refine (sIsValidSub_calls _ _ c0 _ c1 ns vs (h0.on hB.out) (h1.on hB.out)).mono ?_; rintro e w2 ⟨rfl, hb2⟩; rw [ho'.out]; have hc2 := blk_cell (Loc.on hb2 hL'.out).1; obtain ⟨ad', e', hx⟩ := (h0.on (hB.out.trans hb2)).at k hlt; obtain rfl : ad = ad' := (by simpa using e'); clear e')
            | (go_at_call 89; refine (sNullValue_calls _ _ (by omega)).mono ?_; rintro e w3 ⟨rfl, hb3⟩; have hc3 := blk_cell (Loc.on (hb2.trans hb3) hL'.out).1; obtain ⟨bd', e', hy⟩ := (h1.on (hB.out.trans (hb2.trans hb3))).at k hlt2; obtain rfl : bd = bd' := (by simpa using e'); clear e'))
          go_ret
          exact ⟨ret_int (by have := hst.out; rw [if_pos hq'.out] at this; simp [appV, ho'.out, ← this]), hB.out.trans (hb2.trans hb3)⟩
        · have hqb : (-1 - ns[k] == x) = false := by simpa using hq
          have hq' := Aside0.mk hq
          clear hq
          go_wp2_with (first
            | (go_at_call 32; refine (sIsValidSub_calls _ _ c0 _ c1 ns vs (h0.on hB.out) (h1.on hB.out)).mono ?_; rintro e w2 ⟨rfl, hb2⟩; rw [ho'.out]; have hc2 := blk_cell (Loc.on hb2 hL'.out).1; obtain ⟨ad', e', hx⟩ := (h0.on (hB.out.trans hb2)).at k hlt; obtain rfl : ad = ad' := (by simpa using e'); clear e')
            | (go_at_call 89; refine (sNullValue_calls _ _ (by omega)).mono ?_; rintro e w3 ⟨rfl, hb3⟩))
          exact ⟨⟨k + 1, by omega, by go_num, ⟨by have := hst.out; rwa [if_neg hq'.out] at this⟩, hB.out.trans (hb2.trans hb3), Loc.on (hb2.trans hb3) hL'.out⟩, by simp [intOf]; omega⟩
      · have hp' := Aside0.mk (show findV ns vs x = none by rw [← hp.out]; exact findV_nil ns vs x k (by omega))
        clear hp hB0
        go_wp2
        go_ret
        exact ⟨ret_int (by simp [appV, ho'.out, hp'.out]), hB.out⟩

theorem own1I (W : World) (x : Int) : OI (W.alloc (.cells #[.int .i64 x] 3 (0, 0))) W.heap.size (.slice (some ⟨W.heap.size, 0, none⟩) 1 1) [x] := lit_own W #[.int .i64 x] 3 1 1 W.heap.size (Nat.le_refl _) (by omega) rfl
theorem lit_RI {W w : World} {x : Int} (hx : -9223372036854775808 ≤ x ∧ x ≤ 9223372036854775807) (hb : On (W.alloc (.cells #[.int .i64 x] 3 (0, 0))) w) : kInts.C w (some ⟨W.heap.size, 0, none⟩) 1 [x] := by
  obtain ⟨A, c, e, h⟩ := OI.rd (pw_own_below (own1I W x) hb) (fun y hy => by simp at hy; subst hy; exact hx)
  injection e with e1 e2 e3
  subst e1
  exact h.2.1
theorem map_inR {ns vs xs : List Int} (h : InR xs) : InR (xs.map (appV ns vs)) := fun y hy => by
  obtain ⟨x, hx, rfl⟩ := List.mem_map.1 hy
  exact appV_bd (h x hx)
theorem sApplyToFact_calls (w : World) (A0 c0 A1 c1 A2 c2) (ns vs : List Int) (f : Fct) (h0 : Ints w A0 c0 ns) (h1 : Ints w A1 c1 vs) (h2 : Ints w A2 c2 f.2) (hl : f.2.length ≤ 2000000) :
    Calls Tryz.prog 36 #[.agg #[.slice A0 ns.length c0, .slice A1 vs.length c1], .agg #[.int .i64 f.1, .slice A2 f.2.length c2]] w (Got fun v w' => ∃ v1, v = .agg #[.int .i64 f.1, v1] ∧ OI w' w.heap.size v1 (f.2.map (appV ns vs)) ∧ On w w') := by
  have hb := Aside0.mk (On.alloc (On.alloc (On.alloc (On.refl w) (.cells #[.slice A0 ns.length c0, .slice A1 vs.length c1] 32)) (.cells #[.int .i64 f.1, .slice A2 f.2.length c2] 54)) (.cells #[.int .i64 0, .slice none 0 0] 54))
  have hL := Aside0.mk (loc3 w #[.slice A0 ns.length c0, .slice A1 vs.length c1] #[.int .i64 f.1, .slice A2 f.2.length c2] #[.int .i64 0, .slice none 0 0] 32 54 54)
  have hsz3 := Aside0.mk (show (((w.alloc (.cells #[.slice A0 ns.length c0, .slice A1 vs.length c1] 32)).alloc (.cells #[.int .i64 f.1, .slice A2 f.2.length c2] 54)).alloc (.cells #[.int .i64 0, .slice none 0 0] 54)).heap.size = w.heap.size + 3 by simp)
  have hfill := alloc_fill (((w.alloc (.cells #[.slice A0 ns.length c0, .slice A1 vs.length c1] 32)).alloc (.cells #[.int .i64 f.1, .slice A2 f.2.length c2] 54)).alloc (.cells #[.int .i64 0, .slice none 0 0] 54))
  go_enter Tryz.func36, Tryz.ntmps36
  go_wp2
  clear hfill
  obtain ⟨Wx, hWx⟩ : ∃ Wx, ((w.alloc (.cells #[.slice A0 ns.length c0, .slice A1 vs.length c1] 32)).alloc (.cells #[.int .i64 f.1, .slice A2 f.2.length c2] 54)).alloc (.cells #[.int .i64 0, .slice none 0 0] 54) = Wx := ⟨_, rfl⟩
  rw [hWx] at hb hL hsz3 ⊢
  clear hWx
  have hyb := Aside0.mk (show (Wx.alloc (.cells #[.int .i64 f.1, .slice none 0 0] 54)).heap[w.heap.size + 1 + 1 + 1]? = some (.cells #[.int .i64 f.1, .slice none 0 0] 54 (0, 0)) from by have h := loc_new Wx #[.int .i64 f.1, .slice none 0 0] 54; rw [hsz3.out] at h; exact h)
  have hBy := Aside0.mk (On.alloc (On.refl Wx) (.cells #[.int .i64 f.1, .slice none 0 0] 54))
  have hsy := Aside0.mk (show (Wx.alloc (.cells #[.int .i64 f.1, .slice none 0 0] 54)).heap.size = w.heap.size + 4 by simp [hsz3.out])
  obtain ⟨Wy, hWy⟩ : ∃ Wy, Wx.alloc (.cells #[.int .i64 f.1, .slice none 0 0] 54) = Wy := ⟨_, rfl⟩
  rw [hWy] at hyb hBy hsy ⊢
  clear hWy
  go_loopw [6] (fun v wr => ∃ (k : Nat) (xs : List Int) (A' : Option Addr) (c' : Nat), k ≤ f.2.length ∧ v = .int .i64 k ∧ Aside0 (xs = (f.2.take k).map (appV ns vs)) ∧ Aside0 (OI wr (w.heap.size + 4) (.slice A' xs.length c') xs) ∧ Aside0 (w.heap.size + 4 ≤ wr.heap.size) ∧ Aside0 (Ex (fun b => w.heap.size + 3 ≤ b) Wx wr) ∧ wr.heap[w.heap.size + 1 + 1 + 1]? = some (.cells #[.int .i64 f.1, .slice A' xs.length c'] 54 (0, 0))) (fun v _ => f.2.length - (intOf v).toNat)
  case atStart => exact ⟨0, [], none, 0, Nat.zero_le _, rfl, ⟨rfl⟩, ⟨World.ownsRow_nil _ _ _ _⟩, ⟨by rw [hsy.out]; exact Nat.le_refl _⟩, ⟨Ex.of_on hBy.out⟩, hyb.out⟩
  case round =>
    obtain ⟨k, xs, A', c', hk, rfl, hxs, hO, hsz, hE, hy⟩ := hrel
    have hlen := Aside0.mk (show xs.length = k by rw [hxs.out, List.length_map, List.length_take]; omega)
    have hLr := Aside0.mk (show Loc wr _ from Loc.on (Ex.to_on hE.out (fun i hi => by rw [hsz3.out]; exact hi)) hL.out)
    have hB := Aside0.mk (hb.out.trans (Ex.to_on hE.out (fun i hi => by rw [hsz3.out]; exact hi)))
    have hc0 := blk_cell hLr.out.1
    have hc1 := blk_cell hLr.out.2.1
    have hcy := blk_cell hy
    have hy' := Aside0.mk hy
    clear hy
    by_cases hlt : k < f.2.length
    · obtain ⟨ad, rfl, hx⟩ := (h2.on hB.out).at k hlt
      have hbd := h2.bd k hlt
      have hab := Aside0.mk (appV_bd (ns := ns) (vs := vs) hbd)
      go_wp2
      refine Reg.region [(0,.L),(1,.L),(2,.L),(3,.L),(4,.L),(5,.L),(6,.L),(7,.L),(8,.C),(9,.N)] [10,11,12] (by kernel_rfl) (by kernel_rfl) ?_
      repeat first | refine sP ?_ | refine sS ?_ | refine sA ?_ | refine sL ?_ | refine sQ ?_ | refine sO ?_
      refine callC (.int .i64 (appV ns vs f.2[k])) Tryz.func64 (fun w' hS => ?_) ?_
      focus exact sApplyToValue_calls w' A0 c0 A1 c1 ns vs (h0.on (hB.out.trans hS)) (h1.on (hB.out.trans hS)) f.2[k]
      refine stepM (fun w4 hS4 => ?_)
      go_wp2
      refine ⟨hS4.trans (On.alloc (On.refl _) _), ?_⟩
      refine Reg.tail_ fun w5 hS5 => ?_
      have hB5 := Aside0.mk ((hS4.trans (On.alloc (On.refl _) _)).trans hS5)
      have hO5 := Aside0.mk (pw_own_below hO.out hB5.out)
      obtain ⟨zs, hz⟩ : ∃ zs, xs ++ [appV ns vs f.2[k]] = zs := ⟨_, rfl⟩
      have hz' := Aside0.mk hz
      refine apI 27 hz (OI.to hO5.out) (lit_RI hab.out hS5) (Nat.le_trans hsz.out hB5.out.size) (by have := hlen.out; omega) fun v6 w6 hO6' hg6 hat6 => ?_
      have hO6 := OI.of hO6'
      obtain ⟨A6, c6, rfl⟩ := own_slice hO6
      have hgy : some (w.heap.size + 1 + 1 + 1) ≠ Value.ownBlock (.slice A' xs.length c') := fun e => by have := own_base hO.out _ e.symm; omega
      have hk6 := blk_grown hg6 (blk_below hy'.out hB5.out) hgy
      have hcy6 := blk_cell hk6
      have hf6 := blk_frozen hk6
      have hk6' := Aside0.mk hk6
      clear hk6 hgy hcy hz hat6 hO6'
      go_wp2
      refine ⟨⟨k + 1, zs, A6, c6, by omega, by go_num, ⟨?_⟩, ⟨ownsRow_setCell_below hO6 (by simp) _⟩, ⟨?_⟩, ⟨?_⟩, blk_set hk6'.out 1 _⟩, by simp [intOf]; omega⟩
      · rw [← hz'.out, List.take_succ_eq_append_getElem hlt, List.map_append, hxs.out]; rfl
      · have h3 := hg6.size; have h4 := hB5.out.size; have := hsz.out; simp [World.setCell]; omega
      · exact ((hE.out.then_on hB5.out).trans (Ex.of_grown hg6) (fun i _ e => by have := own_base hO5.out i e.symm; omega)).trans (Ex.set _ _ _) (fun i _ e => by have h : i = w.heap.size + 1 + 1 + 1 := e; omega)
    · have e1 : f.2.take k = f.2 := List.take_of_length_le (by omega)
      rw [e1] at hxs
      have hcr : ∀ i, wr.cell? ⟨w.heap.size + 1 + 1, i, none⟩ = _ := blk_cell hLr.out.2.2.1
      have hfr : ∀ i, wr.frozen? ⟨w.heap.size + 1 + 1, i, none⟩ = _ := blk_frozen hLr.out.2.2.1
      go_wp2
      refine bodyPost_ret (retF rfl rfl (g := w.heap.size + 2) (blk_set (blk_set hLr.out.2.2.1 0 _) 1 _) rfl) rfl ?_
      have hO2 := hO.out
      rw [hxs.out] at hO2
      refine ⟨_, rfl, _, rfl, ?_, Reg.On.set (Reg.On.set hB.out (by simp; omega) _) (by simp; omega) _⟩
      rw [hxs.out]
      exact own_lower (ownsRow_setCell_below (ownsRow_setCell_below hO2 (by simp) _) (by simp) _) (by omega)
/-- Two relations are the same. -/
def sameR (r q : Rel) : Bool := decide (r = q)
theorem sameR_eq (r q : Rel) : (r.1.toList == q.1.toList && (r.2.1 == q.2.1 && (r.2.2 == q.2.2))) = sameR r q := by
  obtain ⟨a, b, c⟩ := r
  obtain ⟨d, e, f⟩ := q
  rw [Bool.eq_iff_iff]
  simp only [sameR, Bool.and_eq_true, beq_iff_eq, decide_eq_true_eq, Prod.mk.injEq]
  rw [ByteArray.toList_eq, ByteArray.toList_eq, Array.toList_inj]
  exact ⟨fun h => ⟨ByteArray.ext h.1, h.2⟩, fun h => ⟨congrArg _ h.1, h.2⟩⟩
theorem eqRel (d : Nat) (w : World) (r q : Rel) :
    (Op.equalIn (d + 2) 72 (.agg #[.string r.1, .int .i64 r.2.1, .bool r.2.2]) (.agg #[.string q.1, .int .i64 q.2.1, .bool q.2.2])).run Tryz.prog w = .ok (sameR r q) w := by
  rw [← sameR_eq]
  refine eqA_of Tryz.underlying72 (by kernel_rfl) ?_
  refine eqf_cons (by rfl) (by go_simp; rfl) (by go_simp; rfl) (by go_simp) ?_
  refine eqf_cons (by rfl) (by go_simp; rfl) (by go_simp; rfl) (by go_simp) ?_
  exact eqf_last (by rfl) (by go_simp; rfl) (by go_simp; rfl) (by go_simp)
attribute [local go_sem high] eqRel
theorem l5Sigs_calls (w : World) (A c B d) (rs qs : List Rel) (h0 : Rels w A c rs) (h1 : Rels w B d qs) : Calls Tryz.prog 33 #[.slice A rs.length c, .slice B qs.length d] w fun e w' => e = .returned (.bool (decide (rs = qs))) ∧ On w w' := by
  have hm0 := h0.max
  have hm1 := h1.max
  by_cases hl : rs.length = qs.length
  · have hlb : ((rs.length : Int) == (qs.length : Int)) = true := by simp [hl]
    have hlc : ((rs.length : Int) != (qs.length : Int)) = false := by simp [bne, hlb]
    have hld : (rs.length == qs.length) = true := by simp [hl]
    have hl' := Aside0.mk hl
    clear hl
    go_enter Tryz.func33, Tryz.ntmps33
    go_wp2
    clear hlb hlc hld
    go_loopw [5] (fun v wr => ∃ k : Nat, k ≤ rs.length ∧ v = .int .i64 k ∧ Aside0 (rs.take k = qs.take k) ∧ On w wr) (fun v _ => rs.length - (intOf v).toNat)
    case atStart => exact ⟨0, Nat.zero_le _, rfl, ⟨rfl⟩, On.refl _⟩
    case round =>
      obtain ⟨k, hk, rfl, hp, hB⟩ := hrel
      by_cases hlt : k < rs.length
      · have hlt2 : k < qs.length := by have := hl'.out; omega
        obtain ⟨ad, rfl, hx0, hx1, hx2⟩ := (h0.on hB).at k hlt
        obtain ⟨bd, rfl, hy0, hy1, hy2⟩ := (h1.on hB).at k hlt2
        cases hq : sameR rs[k] qs[k] with
        | true =>
          have hq' := Aside0.mk (of_decide_eq_true hq : rs[k] = qs[k])
          go_wp2
          refine Reg.region [(0,.L),(1,.L),(2,.L),(3,.L),(4,.L),(5,.L),(6,.L),(7,.L),(8,.L)] [] (by kernel_rfl) (by kernel_rfl) ?_
          repeat first | refine sP ?_ | refine sS ?_ | refine sA ?_ | refine sL ?_ | refine sQ ?_ | refine sO ?_
          refine Reg.nil fun w2 hS => ?_
          clear hq
          go_wp2
          exact ⟨⟨k + 1, by omega, by go_num, ⟨by rw [List.take_succ_eq_append_getElem hlt, List.take_succ_eq_append_getElem hlt2, hp.out, hq'.out]⟩, hB.trans hS⟩, by simp [intOf]; omega⟩
        | false =>
          have hq' := Aside0.mk (of_decide_eq_false hq : ¬ rs[k] = qs[k])
          go_wp2
          refine Reg.region [(0,.L),(1,.L),(2,.L),(3,.L),(4,.L),(5,.L),(6,.L),(7,.L),(8,.L)] [] (by kernel_rfl) (by kernel_rfl) ?_
          repeat first | refine sP ?_ | refine sS ?_ | refine sA ?_ | refine sL ?_ | refine sQ ?_ | refine sO ?_
          refine Reg.nil fun w2 hS => ?_
          clear hq
          go_wp2
          go_ret
          exact ⟨ret_bool (by symm; exact decide_eq_false fun e => hq'.out (by subst e; rfl)), hB.trans hS⟩
      · have e1 : rs.take k = rs := List.take_of_length_le (by omega)
        have e2 : qs.take k = qs := List.take_of_length_le (by have := hl'.out; omega)
        rw [e1, e2] at hp
        go_wp2
        go_ret
        exact ⟨ret_bool (by symm; exact decide_eq_true hp.out), hB⟩
  · have hlb : ((rs.length : Int) == (qs.length : Int)) = false := by rw [beq_eq_false_iff_ne]; omega
    have hlc : ((rs.length : Int) != (qs.length : Int)) = true := by simp [bne, hlb]
    have hld : (rs.length == qs.length) = false := by simpa using hl
    have hl' := Aside0.mk hl
    clear hl
    go_enter Tryz.func33, Tryz.ntmps33
    go_wp2
    go_ret
    exact ⟨ret_bool (by symm; exact decide_eq_false fun e => hl'.out (congrArg _ e)), On.refl _⟩
end Go.Proofs.YtgemaohdlibboaaGreat.H
/- Walks: the draws of relations, values, facts. What is told: sizes and ranges. No condition. -/
namespace Go.Proofs.YtgemaohdlibboaaGreat.H
open Go Go.RowKit Go.Proofs.YtgemaohdlibboaaGreatW.PrintWords Go.Proofs.YtgemaohdlibboaaGreatW.PrintLast
open Go.Proofs.YtgemaohdlibboaaGreat.Reg (On on_draw)
set_option maxHeartbeats 4000000
set_option maxRecDepth 100000
set_option linter.unusedVariables false
set_option linter.unusedSimpArgs false

/-- The relations of the draws. -/
def sigs : List Rel := [(⟨#[97]⟩, 2, true), (⟨#[98]⟩, 1, true), (⟨#[112]⟩, 2, false), (⟨#[113]⟩, 2, false), (⟨#[114]⟩, 1, false)]
theorem l3Sigs_calls (w : World) : Calls Tryz.prog 69 #[] w (Got fun v w' => OR w' w.heap.size v sigs ∧ On w w') := by
  have hb := Aside0.mk (On.alloc (On.refl w) (.cells #[.string ⟨#[97]⟩, .int .i64 2, .bool true, .string ⟨#[98]⟩, .int .i64 1, .bool true, .string ⟨#[112]⟩, .int .i64 2, .bool false, .string ⟨#[113]⟩, .int .i64 2, .bool false, .string ⟨#[114]⟩, .int .i64 1, .bool false] 72 (0, 0)))
  have hl := Aside0.mk (show OR (w.alloc (.cells #[.string ⟨#[97]⟩, .int .i64 2, .bool true, .string ⟨#[98]⟩, .int .i64 1, .bool true, .string ⟨#[112]⟩, .int .i64 2, .bool false, .string ⟨#[113]⟩, .int .i64 2, .bool false, .string ⟨#[114]⟩, .int .i64 1, .bool false] 72 (0, 0))) w.heap.size (.slice (some ⟨w.heap.size, 0, none⟩) 5 5) sigs from lit_own w #[.string ⟨#[97]⟩, .int .i64 2, .bool true, .string ⟨#[98]⟩, .int .i64 1, .bool true, .string ⟨#[112]⟩, .int .i64 2, .bool false, .string ⟨#[113]⟩, .int .i64 2, .bool false, .string ⟨#[114]⟩, .int .i64 1, .bool false] 72 3 5 w.heap.size (Nat.le_refl _) (by omega) rfl)
  go_enter Tryz.func69, Tryz.ntmps69
  go_wp2
  go_ret
  exact ⟨_, rfl, hl.out, hb.out⟩

theorem l4Value_calls (w0 w : World) (q : Nat) (hC : Cu w0 w q) (m : Int) (h0 : 0 ≤ m) (h2 : m ≤ 256) :
    Calls Tryz.prog 67 #[.pointer (some ⟨q, 0, none⟩), .int .i64 m] w (Dr w0 w q fun v _ => ∃ x : Int, v = .int .i64 x ∧ -256 ≤ x ∧ x ≤ 256) := by
  have hC' := Aside0.mk hC
  have h2' := Aside0.mk h2
  clear hC h2
  by_cases hm : 0 < m
  · have hm' := Aside0.mk hm
    have hmb : decide (0 < m) = true := decide_eq_true hm
    clear hm h0
    go_enter Tryz.func67, Tryz.ntmps67
    go_wp2_with (go_at_call 39; refine Stop.out ?_)
    refine ⟨(l1Once_calls w0 _ q hC'.out 2 (by omega) (by omega)).mono ?_⟩
    rintro e w1 ⟨v, rfl, ⟨b, rfl⟩, hC1, hE1⟩
    have hC1' := Aside0.mk hC1
    clear hC1
    cases b with
    | true =>
      go_wp2_with (go_at_call 66; refine Stop.out ?_)
      refine ⟨(l1Below_calls w0 _ q hC1'.out m (by have := hm'.out; omega) h2'.out).mono ?_⟩
      rintro e w3 ⟨v, rfl, ⟨x, rfl, hx⟩, hC3, hE3⟩
      replace hx := Aside0.mk hx
      go_wp2_with (go_at_call 89; refine Stop.out ?_)
      refine ⟨(sNullValue_calls _ x (by have := hx.out; have := h2'.out; omega)).mono ?_⟩
      rintro e w4 ⟨rfl, hb4⟩
      go_wp2
      go_ret
      exact ⟨_, rfl, ⟨_, rfl, by have := hx.out; have := h2'.out; omega⟩, hC3.next hb4, (hE1.trans hE3 fun _ _ h => h).then_on hb4⟩
    | false =>
      go_wp2_with (go_at_call 66; refine Stop.out ?_)
      refine ⟨(l1Below_calls w0 _ q hC1'.out 3 (by omega) (by omega)).mono ?_⟩
      rintro e w3 ⟨v, rfl, ⟨x, rfl, hx⟩, hC3, hE3⟩
      replace hx := Aside0.mk hx
      go_wp2
      go_ret
      exact ⟨_, rfl, ⟨_, rfl, by have := hx.out; omega⟩, hC3, hE1.trans hE3 fun _ _ h => h⟩
  · have hmb : decide (0 < m) = false := decide_eq_false hm
    clear hm h0
    go_enter Tryz.func67, Tryz.ntmps67
    go_wp2_with (go_at_call 66; refine Stop.out ?_)
    refine ⟨(l1Below_calls w0 _ q hC'.out 3 (by omega) (by omega)).mono ?_⟩
    rintro e w3 ⟨v, rfl, ⟨x, rfl, hx⟩, hC3, hE3⟩
    replace hx := Aside0.mk hx
    go_wp2
    go_ret
    exact ⟨_, rfl, ⟨_, rfl, by have := hx.out; omega⟩, hC3, hE3⟩
end Go.Proofs.YtgemaohdlibboaaGreat.H
/- Walks: the draws of facts. What is told: sizes and ranges. No condition. -/
namespace Go.Proofs.YtgemaohdlibboaaGreat.H
open Go Go.RowKit Go.Proofs.YtgemaohdlibboaaGreatW.PrintWords Go.Proofs.YtgemaohdlibboaaGreatW.PrintLast
open Go.Proofs.YtgemaohdlibboaaGreat.Reg (On on_draw)
set_option maxHeartbeats 4000000
set_option maxRecDepth 100000
set_option linter.unusedVariables false
set_option linter.unusedSimpArgs false

def arN : Nat → Nat
  | 0 => 2
  | 1 => 1
  | 2 => 2
  | 3 => 2
  | _ => 1
theorem arN_sigs : ∀ (k : Nat) (h : k < sigs.length), sigs[k].2.1 = (arN k : Int)
  | 0, _ => rfl
  | 1, _ => rfl
  | 2, _ => rfl
  | 3, _ => rfl
  | 4, _ => rfl
  | n + 5, h => absurd h (by show ¬ n + 5 < 5; omega)
theorem arN_in (k : Nat) : 1 ≤ arN k ∧ arN k ≤ 2 := by unfold arN; split <;> omega
def lenOf : Option Value → Nat
  | some (.slice _ n _) => n
  | _ => 0
theorem lit_I (W : World) (x : Int) (hx : -9223372036854775808 ≤ x ∧ x ≤ 9223372036854775807) : Ints (W.alloc (.cells #[.int .i64 x] 3 (0, 0))) (some ⟨W.heap.size, 0, none⟩) 1 [x] := by
  have h : OI (W.alloc (.cells #[.int .i64 x] 3 (0, 0))) W.heap.size (.slice (some ⟨W.heap.size, 0, none⟩) 1 1) [x] := lit_own W #[.int .i64 x] 3 1 1 W.heap.size (Nat.le_refl _) (by omega) rfl
  obtain ⟨A, c, e, hI⟩ := OI.rd h (fun y hy => by rw [List.mem_singleton.1 hy]; exact hx)
  injection e with e1 e2 e3
  subst e1 e3
  exact hI
theorem OR.same {w : World} {lo : Nat} {A : Option Addr} {n c : Nat} {rs : List Rel} (h : OR w lo (.slice A n c) rs) : n = rs.length ∧ Rels w A c rs := by
  obtain ⟨A', c', e, hR⟩ := OR.rd h
  injection e with e1 e2 e3
  subst e1 e3
  exact ⟨e2, hR⟩
theorem OI.same {w : World} {lo : Nat} {A : Option Addr} {n c : Nat} {xs : List Int} (h : OI w lo (.slice A n c) xs) (hr : InR xs) : n = xs.length ∧ Ints w A c xs := by
  obtain ⟨A', c', e, hR⟩ := OI.rd h hr
  injection e with e1 e2 e3
  subst e1 e3
  exact ⟨e2, hR⟩

theorem l4Fact_calls (w0 w : World) (q : Nat) (hC : Cu w0 w q) (k : Nat) (hk : k < 5) (m : Int) (h0 : 0 ≤ m) (h2 : m ≤ 256) :
    Calls Tryz.prog 70 #[.pointer (some ⟨q, 0, none⟩), .int .i64 k, .int .i64 m] w (Dr w0 w q fun v w' => ∃ f : Fct, OFa w' w.heap.size v f ∧ f.1 = k ∧ f.2.length = arN k) := by
  have hC' := Aside0.mk hC
  have hqw := Aside0.mk hC.lt
  have hk' := Aside0.mk hk
  have hm0 := Aside0.mk h0
  have hm2 := Aside0.mk h2
  obtain ⟨n, hn⟩ : ∃ n, arN k = n := ⟨_, rfl⟩
  have hnb := Aside0.mk (hn ▸ arN_in k : 1 ≤ n ∧ n ≤ 2)
  have hn' := Aside0.mk hn
  have hb0 := Aside0.mk (On.alloc (On.refl w) (.cells #[.int .i64 0, .slice none 0 0] 54 (0, 0)))
  have hl0 := Aside0.mk (loc_new w #[.int .i64 0, .slice none 0 0] 54)
  clear hC hk h0 h2 hn
  go_enter Tryz.func70, Tryz.ntmps70
  go_wp2_with (go_at_call 69; refine Stop.out ?_)
  refine ⟨(l3Sigs_calls _).mono ?_⟩
  rintro e w1 ⟨v, rfl, hR, hb1⟩
  obtain ⟨As, cs, rfl⟩ := own_slice hR
  have hR' := Aside0.mk hR
  have hb1' := Aside0.mk hb1
  have hl1 := Aside0.mk (blk_below hl0.out hb1)
  have hsz := Aside0.mk (show w.heap.size + 1 ≤ w1.heap.size by have := blk_lt hl1.out; omega)
  have hfill := alloc_fill w1
  clear hR hb1
  go_wp2
  clear hfill
  obtain ⟨wa, hwa⟩ : ∃ wa, w1.alloc (.cells #[.int .i64 k, .slice none 0 0] 54 (0, 0)) = wa := ⟨_, rfl⟩
  have hl8 := Aside0.mk (show wa.heap[w1.heap.size]? = some (.cells #[.int .i64 k, .slice none 0 0] 54 (0, 0)) from hwa ▸ loc_new w1 _ _)
  have hsa := Aside0.mk (show wa.heap.size = w1.heap.size + 1 from hwa ▸ by simp)
  have hba := Aside0.mk (show On w1 wa from hwa ▸ On.alloc (On.refl _) _)
  try rw [hwa]
  obtain ⟨g8, hg8⟩ : ∃ g8, w1.heap.size = g8 := ⟨_, rfl⟩
  rw [hg8] at hl8 hsz hsa ⊢
  have hba0 := Aside0.mk (hb0.out.trans (hb1'.out.trans hba.out))
  clear hwa
  have hbl := Aside0.mk (show w1.heap.size = g8 from hg8)
  clear hg8
  go_loopw [] (fun wr => ∃ (xs : List Int) (vr : Value), xs.length ≤ n ∧ wr.heap[g8]? = some (.cells #[.int .i64 k, vr] 54 (0, 0)) ∧ OI wr (g8 + 1) vr xs ∧ InR xs ∧ Cu w0 wr q ∧ Ex (fun b => b = q) w wr ∧ Ex (fun b => b = q ∨ b = g8) wa wr) (fun wr => n - lenOf (wr.cell? ⟨g8, 1, none⟩))
  case atStart => exact ⟨[], _, Nat.zero_le _, hl8.out, World.ownsRow_nil _ _ _ _, fun _ h => absurd h (by simp), hC'.out.next hba0.out, Ex.of_on hba0.out, Ex.refl _ _⟩
  case round =>
    obtain ⟨xs, vr, hxl, hbl8, hO, hIn, hC, hE, hEa⟩ := hrel
    obtain ⟨Ar, cr, rfl⟩ := own_slice hO
    have hOr := own_ex (pw_own_below hR'.out hba.out) hEa (fun i hi => by
      have h1 := own_base hR'.out i hi
      have h2 := own_lt hR'.out i hi
      have := hqw.out
      have := hbl.out
      simp at h1
      omega)
    obtain ⟨ad, hA, x0, x1, x2⟩ := (OR.same hOr).2.at k hk'.out
    subst hA
    rw [arN_sigs k hk'.out, hn'.out] at x1
    have hkb : k < sigs.length := hk'.out
    have hd0 := blk_cell hbl8 0
    have hd1 := blk_cell hbl8 1
    have hbl8' := Aside0.mk hbl8
    have hO' := Aside0.mk hO
    have hIn' := Aside0.mk hIn
    have hC1 := Aside0.mk hC
    have hE' := Aside0.mk hE
    have hEa' := Aside0.mk hEa
    have hxl' := Aside0.mk hxl
    clear hO hIn hC hE hEa hbl8 hOr x0 x2 hxl
    by_cases hlt : xs.length < n
    · have hlt' := Aside0.mk hlt
      have hltb : decide ((xs.length : Int) < (n : Int)) = true := decide_eq_true (by omega)
      have hltn : decide (xs.length < n) = true := decide_eq_true hlt
      clear hlt
      go_wp2
      refine Reg.region [(0,.L),(1,.L),(2,.L),(3,.L),(4,.L),(5,.L),(6,.L),(7,.L),(8,.L)] [] (by kernel_rfl) (by kernel_rfl) ?_
      repeat first | refine sP ?_ | refine sS ?_ | refine sA ?_ | refine sL ?_ | refine sQ ?_ | refine sO ?_
      refine Reg.nil fun w2 hS => ?_
      clear x1 hd0 hd1 hkb
      have hb2 := Aside0.mk (blk_below hbl8'.out hS)
      have hS2 := Aside0.mk hS
      clear hS
      go_wp2
      refine Reg.regionG (fun w' => w'.heap[g8]? = some (.cells #[.int .i64 k, .slice Ar xs.length cr] 54 (0, 0))) [0,1,2,3] [4,5,6,7,8] 8 (by kernel_rfl) (by kernel_rfl) hb2.out ?_
      repeat refine Reg.sG ?_
      refine Reg.startG ?_
      obtain ⟨w3, hw3⟩ : ∃ w3, ({ w2 with drawn := w2.drawn + 1 } : World) = w3 := ⟨_, rfl⟩
      have hS3 := Aside0.mk (show On wr w3 from hS2.out.trans (hw3 ▸ on_draw w2))
      rw [hw3]
      clear hw3
      refine Reg.tG ?_
      go_wp2_with (go_at_call 67; refine Stop.out ?_)
      refine ⟨(l4Value_calls w0 _ q (hC1.out.next hS3.out) m hm0.out hm2.out).mono ?_⟩
      rintro e w4 ⟨v, rfl, ⟨x, rfl, hx⟩, hC4, hE4⟩
      replace hx := Aside0.mk hx
      have hC4' := Aside0.mk hC4
      have hE4' := Aside0.mk hE4
      have hb4 := Aside0.mk (blk_ex hE4 (blk_below hbl8'.out hS3.out) (by have := hqw.out; have := hsz.out; omega))
      clear hC4 hE4
      go_wp2
      refine ⟨hb4.out, ?_⟩
      refine Reg.tG ?_
      go_wp2
      have hI5 := Aside0.mk (lit_I w4 x (by have := hx.out; omega))
      have hS5 := Aside0.mk (On.alloc (On.refl w4) (.cells #[.int .i64 x] 3 (0, 0)))
      refine ⟨blk_below hb4.out hS5.out, ?_⟩
      refine Reg.tG ?_
      have hO5 := Aside0.mk (pw_own_below (own_ex (pw_own_below hO'.out hS3.out) hE4'.out (fun i hi e => by have := own_base hO'.out i hi; have := hqw.out; have := hsz.out; omega)) hS5.out)
      obtain ⟨ys, hys⟩ : ∃ ys, xs ++ [x] = ys := ⟨_, rfl⟩
      have hsz5 := Aside0.mk (show g8 + 1 ≤ (w4.alloc (.cells #[.int .i64 x] 3 (0, 0))).heap.size by have := blk_lt (blk_below hb4.out hS5.out); omega)
      refine apI 27 hys (OI.to hO5.out) hI5.out.2.1 hsz5.out (by have := hlt'.out; have := hnb.out; simp; omega) fun v6 w6 hO6 hg6 hat6 => ?_
      have hO6' := Aside0.mk (OI.of hO6)
      have hS6 := Aside0.mk (show Ex (fun b => g8 + 1 ≤ b) (w4.alloc (.cells #[.int .i64 x] 3 (0, 0))) w6 from (Ex.of_grown hg6).mono fun b hb => own_base hO5.out b hb.symm)
      have hb6 := Aside0.mk (blk_ex hS6.out (blk_below hb4.out hS5.out) (by omega))
      have hyl := Aside0.mk (show ys.length = xs.length + 1 by rw [← hys]; simp)
      have hyi := Aside0.mk (show InR ys by rw [← hys]; intro z hz; rcases List.mem_append.1 hz with h | h; exact hIn'.out z h; rw [List.mem_singleton.1 h]; have := hx.out; omega)
      clear hO6 hg6 hat6 hys
      obtain ⟨A6, c6, rfl⟩ := own_slice hO6'.out
      refine ⟨hb6.out, ?_⟩
      have hd6 := blk_cell hb6.out 1
      have hf6 := blk_frozen hb6.out 1
      simp only [Act.put, List.setIfInBounds_toArray, List.set_cons_zero, List.set_cons_succ]
      refine Reg.tG ?_
      go_wp2
      refine ⟨hb6.out, ?_⟩
      refine Reg.tE ?_
      go_wp2
      have hq0 := hC'.out.lo
      have E2 := ((Ex.of_on (S := fun b => b = q) hS3.out).trans hE4'.out fun _ _ h => h).then_on hS5.out
      have E4 := (hE'.out.trans E2 fun _ _ h => h).trans hS6.out (fun i hi h => by have := hsz.out; omega)
      have F4 := (hEa'.out.trans E2 fun _ _ h => .inl h).trans hS6.out (fun i hi h => by have := hsa.out; omega)
      refine ⟨⟨ys, _, by have := hyl.out; have := hlt'.out; omega, blk_set hb6.out 1 _, own_ex hO6'.out (Ex.set w6 ⟨g8, 1, none⟩ _) (fun i hi e => by have := own_base hO6'.out i hi; have e' : i = g8 := e; omega), hyi.out,
        ((hC4'.out.next hS5.out).ex hS6.out (fun b hb => by have := hsz.out; have := hqw.out; omega)).ex (Ex.set w6 ⟨g8, 1, none⟩ _) (fun b hb => by have e' : b = g8 := hb; have := hsz.out; have := hqw.out; omega),
        E4.trans (Ex.set w6 ⟨g8, 1, none⟩ _) (fun i hi h => by have e' : i = g8 := h; have := hsz.out; omega), F4.trans (Ex.set w6 ⟨g8, 1, none⟩ _) (fun i hi h => .inr h)⟩, ?_⟩
      rw [blk_cell (blk_set hb6.out 1 _) 1, blk_cell hbl8'.out 1]
      show n - ys.length < n - xs.length
      have := hyl.out
      have := hlt'.out
      omega
    · have hltb : decide ((xs.length : Int) < (n : Int)) = false := decide_eq_false (by omega)
      have hltn : decide (xs.length < n) = false := decide_eq_false hlt
      have hge := Aside0.mk (show n ≤ xs.length by omega)
      clear hlt
      go_wp2
      refine Reg.region [(0,.L),(1,.L),(2,.L),(3,.L),(4,.L),(5,.L),(6,.L),(7,.L),(8,.L)] [] (by kernel_rfl) (by kernel_rfl) ?_
      repeat first | refine sP ?_ | refine sS ?_ | refine sA ?_ | refine sL ?_ | refine sQ ?_ | refine sO ?_
      refine Reg.nil fun w2 hS => ?_
      have hS2 := Aside0.mk hS
      have hb2 := Aside0.mk (blk_below hbl8'.out hS)
      have hd0 := blk_cell hb2.out 0
      have hd1 := blk_cell hb2.out 1
      have hl2 := Aside0.mk (blk_ex (hEa'.out.then_on hS) (blk_below hl1.out hba.out) (by have := hqw.out; have := hsz.out; omega))
      have hcr : ∀ i, w2.cell? ⟨w.heap.size, i, none⟩ = _ := blk_cell hl2.out
      have hfr : ∀ i, w2.frozen? ⟨w.heap.size, i, none⟩ = _ := blk_frozen hl2.out
      clear x1 hS
      go_wp2
      refine bodyPost_ret (retF rfl rfl (g := w.heap.size) (blk_set (blk_set hl2.out 0 _) 1 _) rfl) rfl ?_
      have hq0 := hC'.out.lo
      have hO2 := pw_own_below hO'.out hS2.out
      have hS := (Ex.set w2 ⟨w.heap.size, 0, none⟩ (.int .i64 k)).trans (Ex.set _ ⟨w.heap.size, 1, none⟩ (.slice Ar xs.length cr)) (fun _ _ h => h)
      have hOz := own_lower (lo' := w.heap.size) (own_ex hO2 hS (fun i hi e => by have := own_base hO2 i hi; have e' : i = w.heap.size := e; have := hsz.out; omega)) (by have := hsz.out; omega)
      exact ⟨_, rfl, ⟨(k, xs), ⟨_, rfl, hOz, hIn'.out⟩, rfl, by have := hn'.out; have := hge.out; have := hxl'.out; show xs.length = _; omega⟩,
        (hC1.out.next hS2.out).ex hS (fun b hb => by have e' : b = w.heap.size := hb; have := hqw.out; omega), (hE'.out.then_on hS2.out).trans hS (fun i hi h => by have e' : i = w.heap.size := h; omega)⟩
end Go.Proofs.YtgemaohdlibboaaGreat.H
/- Walks: the draws of instances. What is told: sizes and ranges. No condition. -/
namespace Go.Proofs.YtgemaohdlibboaaGreat.H
open Go Go.RowKit Go.Proofs.YtgemaohdlibboaaGreatW.PrintWords Go.Proofs.YtgemaohdlibboaaGreatW.PrintLast
open Go.Proofs.YtgemaohdlibboaaGreat.Reg (On on_draw)
set_option maxHeartbeats 4000000
set_option maxRecDepth 100000
set_option linter.unusedVariables false
set_option linter.unusedSimpArgs false

theorem putF_le (l : List Fct) (x : Fct) : (putF l x).length ≤ l.length + 1 := by
  induction l with
  | nil => simp [putF]
  | cons y r ih => unfold putF; split <;> (try split) <;> simp <;> omega
theorem RS.start {S : Nat → Prop} {w : World} {lo : Nat} {A : Option Addr} {n c : Nat} {rs : List Rel} (h : OR w lo (.slice A n c) rs) (hS : ∀ b, lo ≤ b → b < w.heap.size → ¬ S b) : RS S w (.agg #[.slice A n c, .slice none 0 0]) rs [] := by
  obtain rfl := (OR.same h).1
  refine ⟨A, c, none, 0, [], rfl, fun w' k => ?_⟩
  have h3 := own_ex h k (fun i hi e => hS i (own_base h i hi) (own_lt h i hi) e)
  exact ⟨(OR.same h3).2, (OH.rh (World.ownsRow_nil w' 0 54 2 : OH w' 0 (.slice none 0 0) [])).2, Reads.nil _⟩
theorem RS.parts {S : Nat → Prop} {w : World} {A0 A1 : Option Addr} {n0 n1 c0 c1 : Nat} {rs : List Rel} {fs : List Fct} (h : RS S w (.agg #[.slice A0 n0 c0, .slice A1 n1 c1]) rs fs) : n0 = rs.length ∧ n1 = fs.length ∧ ∃ hs, ∀ w', Ex S w w' → Rels w' A0 c0 rs ∧ RH w' A1 c1 hs ∧ Reads w' hs fs := by
  obtain ⟨B0, d0, B1, d1, hs, e, h⟩ := h.out
  injection e with e
  have e' := congrArg Array.toList e
  simp only [List.cons.injEq, Value.slice.injEq, and_true] at e'
  obtain ⟨⟨rfl, rfl, rfl⟩, rfl, rfl, rfl⟩ := e'
  exact ⟨rfl, rfl, hs, h⟩
theorem l5Target_calls (w0 w : World) (q : Nat) (hC : Cu w0 w q) (a : Int) (ha0 : 0 ≤ a) (ha1 : a ≤ 200) (m : Int) (h0 : 0 ≤ m) (h2 : m ≤ 256) :
    Calls Tryz.prog 42 #[.pointer (some ⟨q, 0, none⟩), .int .i64 a, .int .i64 m] w (Dr w0 w q fun v w' => ∃ fs, OIn w' w.heap.size v sigs fs ∧ Asc fs ∧ (fs.length : Int) ≤ a ∧ ∀ f ∈ fs, f.2.length ≤ 2) := by
  have hC' := Aside0.mk hC
  have hqw := Aside0.mk hC.lt
  have hq0 := Aside0.mk hC.lo
  have hA' := Aside0.mk (And.intro ha0 ha1)
  have hm' := Aside0.mk (And.intro h0 h2)
  have hb0 := Aside0.mk (On.alloc (On.refl w) (.cells #[.slice none 0 0, .slice none 0 0] 27 (0, 0)))
  have hl0 := Aside0.mk (loc_new w #[.slice none 0 0, .slice none 0 0] 27)
  have hwr : wrap64 (a + 1) = a + 1 := IntWalk.wrap64_in _ (by omega)
  clear hC ha0 ha1 h0 h2
  go_enter Tryz.func42, Tryz.ntmps42
  go_wp2_with (go_at_call 69; refine Stop.out ?_)
  refine ⟨(l3Sigs_calls _).mono ?_⟩
  rintro e w1 ⟨v, rfl, hR, hb1⟩
  obtain ⟨As, cs, rfl⟩ := own_slice hR
  have hR' := Aside0.mk hR
  have hb1' := Aside0.mk hb1
  have hl1 := Aside0.mk (blk_below hl0.out hb1)
  have hsz := Aside0.mk (show w.heap.size + 1 ≤ w1.heap.size by have := blk_lt hl1.out; omega)
  have hfill := alloc_fill w1
  clear hR hb1
  go_wp2_with (go_at_call 66; refine Stop.out ?_)
  refine ⟨?_⟩
  clear hfill
  obtain ⟨wa, hwa⟩ : ∃ wa, w1.alloc (.cells #[.slice As sigs.length cs, .slice none 0 0] 27 (0, 0)) = wa := ⟨_, rfl⟩
  have hsa := Aside0.mk (show wa.heap.size = w1.heap.size + 1 from hwa ▸ by simp)
  have hl8 := Aside0.mk (show wa.heap[w1.heap.size]? = some (.cells #[.slice As sigs.length cs, .slice none 0 0] 27 (0, 0)) from hwa ▸ loc_new w1 _ _)
  have hba := Aside0.mk (show On w1 wa from hwa ▸ On.alloc (On.refl _) _)
  rw [hwa]
  clear hwa
  obtain ⟨g7, hg7⟩ : ∃ g7, w1.heap.size = g7 := ⟨_, rfl⟩
  rw [hg7] at hl8 hsz hsa ⊢
  have hba0 := Aside0.mk (hb0.out.trans (hb1'.out.trans hba.out))
  have hbl := Aside0.mk (show w1.heap.size = g7 from hg7)
  clear hg7
  refine (l1Below_calls w0 _ q (hC'.out.next hba0.out) (a + 1) (by have := hA'.out; omega) (by have := hA'.out; omega)).mono ?_
  rintro e w2 ⟨v, rfl, ⟨c0, rfl, hc0⟩, hC2, hE2⟩
  replace hc0 := Aside0.mk hc0
  have hC2' := Aside0.mk hC2
  have hE2' := Aside0.mk hE2
  have hl2 := Aside0.mk (blk_ex hE2 hl8.out (by have := hqw.out; have := hsz.out; omega))
  have hR2 := Aside0.mk (show RS (fun b => b = q ∨ b = g7) w2 (.agg #[.slice As sigs.length cs, .slice none 0 0]) sigs [] from RS.ex (RS.on (RS.start hR'.out (fun b h1 h2 h3 => by
    have := hqw.out; have := hbl.out; simp at h1; omega)) hba.out) (hE2.mono fun _ h => .inl h))
  clear hC2 hE2
  go_wp2
  go_loopw [8] (fun v8 wr => ∃ (c : Nat) (fs : List Fct) (A0 : Option Addr) (d0 : Nat) (A1 : Option Addr) (d1 : Nat), v8 = .int .i64 c ∧ wr.heap[g7]? = some (.cells #[.slice A0 sigs.length d0, .slice A1 fs.length d1] 27 (0, 0)) ∧ RS (fun b => b = q ∨ b = g7) wr (.agg #[.slice A0 sigs.length d0, .slice A1 fs.length d1]) sigs fs ∧ Asc fs ∧ (fs.length : Int) + (c : Int) ≤ a ∧ (∀ f ∈ fs, f.2.length ≤ 2) ∧ Cu w0 wr q ∧ Ex (fun b => b = q) w wr ∧ Ex (fun b => b = q ∨ b = g7) wa wr) (fun v8 _ => (intOf v8).toNat)
  case atStart => exact ⟨c0.toNat, [], As, cs, none, 0, by have := hc0.out; congr 1; omega, hl2.out, hR2.out, List.Pairwise.nil, by have := hc0.out; have := hA'.out; simp; omega, fun _ h => absurd h (by simp), hC2'.out, (Ex.of_on (S := fun b => b = q) hba0.out).trans hE2'.out fun _ _ h => h, hE2'.out.mono fun _ h => .inl h⟩
  case round =>
    obtain ⟨c, fs, A0, d0, A1, d1, rfl, hb7, hR, ha, hl, hl2, hC, hE, hEa⟩ := hrel
    have hb7' := Aside0.mk hb7
    have hRa := Aside0.mk hR
    have ha' := Aside0.mk ha
    have hl' := Aside0.mk hl
    have hl2' := Aside0.mk hl2
    have hC1 := Aside0.mk hC
    have hE' := Aside0.mk hE
    have hEa' := Aside0.mk hEa
    have hd0 := blk_cell hb7 0
    have hd1 := blk_cell hb7 1
    clear hb7 hR ha hl hl2 hC hE hEa
    by_cases hc : 0 < c
    · have hc' := Aside0.mk hc
      have hcb : decide ((0 : Int) < (c : Int)) = true := decide_eq_true (by omega)
      have hcn : decide (0 < c) = true := decide_eq_true hc
      clear hc
      go_wp2
      refine Reg.regionG (fun w' => w'.heap[g7]? = some (.cells #[.slice A0 sigs.length d0, .slice A1 fs.length d1] 27 (0, 0))) [0,1,2,5] [3,4,6,7,8] 8 (by kernel_rfl) (by kernel_rfl) hb7'.out ?_
      repeat refine Reg.sG ?_
      refine Reg.startG ?_
      obtain ⟨w3, hw3⟩ : ∃ w3, ({ wr with drawn := wr.drawn + 1 } : World) = w3 := ⟨_, rfl⟩
      have hS3 := Aside0.mk (show On wr w3 from (hw3 ▸ on_draw wr))
      rw [hw3]
      clear hw3 hd0 hd1
      refine Reg.tG ?_
      go_wp2_with (go_at_call 66; refine Stop.out ?_)
      refine ⟨(l1Below_calls w0 _ q (hC1.out.next hS3.out) 3 (by omega) (by omega)).mono ?_⟩
      rintro e w4 ⟨v, rfl, ⟨x, rfl, hx⟩, hC4, hE4⟩
      obtain ⟨y, rfl⟩ := Int.eq_ofNat_of_zero_le hx.1
      obtain ⟨k, hk⟩ : ∃ k, 2 + y = k := ⟨_, rfl⟩
      have hkb := Aside0.mk (show k < 5 by omega)
      have hw2 : wrap64 (2 + (y : Int)) = (k : Int) := by rw [IntWalk.wrap64_in _ (by omega)]; omega
      have hC4' := Aside0.mk hC4
      have hE4' := Aside0.mk ((Ex.of_on (S := fun b => b = q) hS3.out).trans hE4 fun _ _ h => h)
      have hb4 := Aside0.mk (blk_ex hE4'.out hb7'.out (by have := hqw.out; have := hsz.out; omega))
      clear hC4 hE4 hx hk
      go_wp2
      refine ⟨hb4.out, ?_⟩
      refine Reg.tG ?_
      go_wp2
      refine ⟨hb4.out, ?_⟩
      refine Reg.tG ?_
      go_wp2_with (go_at_call 70; refine Stop.out ?_)
      refine ⟨(l4Fact_calls w0 _ q hC4'.out k hkb.out m hm'.out.1 hm'.out.2).mono ?_⟩
      rintro e w5 ⟨v, rfl, ⟨f, hO5, hf1, hf2⟩, hC5, hE5⟩
      obtain ⟨v5, rfl, hO5, hI5⟩ := hO5.out
      obtain ⟨A5, c5, rfl⟩ := own_slice hO5
      have hI5' := Aside0.mk (OI.same hO5 hI5).2
      have hf2' := Aside0.mk (show f.2.length ≤ 2 by rw [hf2]; exact (arN_in k).2)
      have hC5' := Aside0.mk hC5
      have hE5' := Aside0.mk (hE4'.out.trans hE5 fun _ _ h => h)
      have hb5 := Aside0.mk (blk_ex hE5'.out hb7'.out (by have := hqw.out; have := hsz.out; omega))
      clear hC5 hE5 hf1 hf2 hO5 hI5
      go_wp2
      refine ⟨hb5.out, ?_⟩
      refine Reg.tG ?_
      go_wp2_with (go_at_call 37; refine Stop.out ?_)
      obtain ⟨_, _, hs, hall⟩ := (RS.ex hRa.out (hE5'.out.mono fun _ h => .inl h)).parts
      refine ⟨(l5PutS_calls (fun b => b = q ∨ b = g7) _ A0 d0 A1 d1 hs sigs fs hall (fun b hb => by have := blk_lt hb5.out; have := hC5'.out.lt; rcases hb with h | h <;> omega) A5 c5 f hI5'.out (by have := hl'.out; have := hA'.out; omega) (by have := hf2'.out; omega) ha'.out).mono ?_⟩
      rintro e w6 ⟨v6, rfl, hR6, hb6⟩
      obtain ⟨fs', hfs⟩ : ∃ fs', putF fs f = fs' := ⟨_, rfl⟩
      rw [hfs] at hR6
      have hR6' := Aside0.mk hR6
      obtain ⟨B0, e0, B1, e1, hs', rfl, -⟩ := hR6.out
      have ha6 := Aside0.mk (show Asc fs' from hfs ▸ putF_asc f fs ha'.out)
      have hl6 := Aside0.mk (show fs'.length ≤ fs.length + 1 from hfs ▸ putF_le fs f)
      have hm6 := Aside0.mk (show ∀ g ∈ fs', g.2.length ≤ 2 by
        rw [← hfs]; intro g hg; rcases (mem_putF f g fs).1 hg with rfl | h
        · exact hf2'.out
        · exact hl2'.out g h)
      have hb6' := Aside0.mk hb6
      have hbl6 := Aside0.mk (blk_below hb5.out hb6)
      have hcr := blk_cell hbl6.out
      have hfr := blk_frozen hbl6.out
      clear hR6 hfs hb6
      go_wp2
      refine ⟨hbl6.out, ?_⟩
      refine Reg.tE ?_
      go_wp2
      have EE := (Ex.set w6 ⟨g7, 0, none⟩ (.slice B0 sigs.length e0)).trans (Ex.set _ ⟨g7, 1, none⟩ (.slice B1 fs'.length e1)) (fun _ _ h => h)
      have hwc : wrap64 ((c : Int) - 1) = ((c - 1 : Nat) : Int) := by have := hc'.out; have := hl'.out; have := hA'.out; rw [IntWalk.wrap64_in _ (by omega)]; omega
      have hs1 := hsz.out
      have hq1 := hqw.out
      have hq2 := hq0.out
      refine ⟨⟨c - 1, fs', B0, e0, B1, e1, by rw [hwc], blk_set (blk_set hbl6.out 0 _) 1 _, RS.ex hR6'.out (EE.mono fun _ h => .inr h), ha6.out, by have := hc'.out; have := hl'.out; have := hA'.out; have := hl6.out; omega, hm6.out,
        (hC5'.out.next hb6'.out).ex EE (fun b hb => by have e' : b = g7 := hb; omega), ((hE'.out.trans hE5'.out fun _ _ h => h).then_on hb6'.out).trans EE (fun i hi h => by have e' : i = g7 := h; omega),
        ((hEa'.out.trans hE5'.out fun _ _ h => .inl h).then_on hb6'.out).trans EE (fun i hi h => .inr h)⟩, ?_⟩
      rw [hwc]
      have := hc'.out
      simp [intOf]
      omega
    · have hcb : decide ((0 : Int) < (c : Int)) = false := decide_eq_false (by omega)
      have hcn : decide (0 < c) = false := decide_eq_false hc
      clear hc
      go_wp2_with (go_at_call 38; refine Stop.out ?_)
      obtain ⟨_, _, hs, hall⟩ := hRa.out.parts
      obtain ⟨h1, h2, h3⟩ := hall wr (Ex.refl _ _)
      refine ⟨(l5Copy_calls _ A0 d0 A1 d1 sigs fs h1 (h2.fcts h3) (by show (5 : Nat) ≤ _; omega) (by have := hl'.out; have := hA'.out; omega) (fun f hf => by have := hl2'.out f hf; omega)).mono ?_⟩
      rintro e w7 ⟨v7, rfl, hI0, hb7x⟩
      obtain ⟨a1, a2, a3, a4, a5, a6, rfl⟩ := hI0.read.shape
      have hI := Aside0.mk hI0
      have hb7a := Aside0.mk hb7x
      have hr7 := Aside0.mk (blk_below (blk_ex hEa'.out (blk_below hl1.out hba.out) (by have := hqw.out; have := hsz.out; omega)) hb7x)
      have hd0 := blk_cell hr7.out
      have hfr := blk_frozen hr7.out
      clear hI0 hb7x h1 h2 h3 hall
      go_wp2
      refine bodyPost_ret (retI rfl rfl (g := w.heap.size) (blk_set (blk_set hr7.out 0 _) 1 _) rfl) rfl ?_
      have EE := (Ex.set w7 ⟨w.heap.size, 0, none⟩ (.slice a1 a2 a3)).trans (Ex.set _ ⟨w.heap.size, 1, none⟩ (.slice a4 a5 a6)) (fun _ _ h => h)
      have hlo : w.heap.size < wr.heap.size := blk_lt (blk_ex hEa'.out (blk_below hl1.out hba.out) (by have := hqw.out; have := hsz.out; omega))
      have hq1 := hqw.out
      have hq2 := hq0.out
      exact ⟨_, rfl, ⟨fs, OIn.lower (OIn.set (OIn.set hI.out hlo _) hlo _) (Nat.le_of_lt hlo), ha'.out, by have := hl'.out; have := hA'.out; omega, hl2'.out⟩,
        (hC1.out.next hb7a.out).ex EE (fun b hb => by have e' : b = w.heap.size := hb; omega), (hE'.out.then_on hb7a.out).trans EE (fun i hi h => by have e' : i = w.heap.size := h; omega)⟩
end Go.Proofs.YtgemaohdlibboaaGreat.H
/- Walks: the draws of instances, once more. What is told: sizes and ranges. No condition. -/
namespace Go.Proofs.YtgemaohdlibboaaGreat.H
open Go Go.RowKit Go.Proofs.YtgemaohdlibboaaGreatW.PrintWords Go.Proofs.YtgemaohdlibboaaGreatW.PrintLast
open Go.Proofs.YtgemaohdlibboaaGreat.Reg (On on_draw)
set_option maxHeartbeats 4000000
set_option maxRecDepth 100000
set_option linter.unusedVariables false
set_option linter.unusedSimpArgs false

theorem l5Source_calls (w0 w : World) (q : Nat) (hC : Cu w0 w q) (a : Int) (ha0 : 0 ≤ a) (ha1 : a ≤ 200) :
    Calls Tryz.prog 71 #[.pointer (some ⟨q, 0, none⟩), .int .i64 a] w (Dr w0 w q fun v w' => ∃ fs, OIn w' w.heap.size v sigs fs ∧ Asc fs ∧ (fs.length : Int) ≤ a ∧ ∀ f ∈ fs, f.2.length ≤ 2) := by
  have hC' := Aside0.mk hC
  have hqw := Aside0.mk hC.lt
  have hq0 := Aside0.mk hC.lo
  have hA' := Aside0.mk (And.intro ha0 ha1)
  have hb0 := Aside0.mk (On.alloc (On.refl w) (.cells #[.slice none 0 0, .slice none 0 0] 27 (0, 0)))
  have hl0 := Aside0.mk (loc_new w #[.slice none 0 0, .slice none 0 0] 27)
  have hwr : wrap64 (a + 1) = a + 1 := IntWalk.wrap64_in _ (by omega)
  clear hC ha0 ha1
  go_enter Tryz.func71, Tryz.ntmps71
  go_wp2_with (go_at_call 69; refine Stop.out ?_)
  refine ⟨(l3Sigs_calls _).mono ?_⟩
  rintro e w1 ⟨v, rfl, hR, hb1⟩
  obtain ⟨As, cs, rfl⟩ := own_slice hR
  have hR' := Aside0.mk hR
  have hb1' := Aside0.mk hb1
  have hl1 := Aside0.mk (blk_below hl0.out hb1)
  have hsz := Aside0.mk (show w.heap.size + 1 ≤ w1.heap.size by have := blk_lt hl1.out; omega)
  have hfill := alloc_fill w1
  clear hR hb1
  go_wp2_with (go_at_call 66; refine Stop.out ?_)
  refine ⟨?_⟩
  clear hfill
  obtain ⟨wa, hwa⟩ : ∃ wa, w1.alloc (.cells #[.slice As sigs.length cs, .slice none 0 0] 27 (0, 0)) = wa := ⟨_, rfl⟩
  have hsa := Aside0.mk (show wa.heap.size = w1.heap.size + 1 from hwa ▸ by simp)
  have hl8 := Aside0.mk (show wa.heap[w1.heap.size]? = some (.cells #[.slice As sigs.length cs, .slice none 0 0] 27 (0, 0)) from hwa ▸ loc_new w1 _ _)
  have hba := Aside0.mk (show On w1 wa from hwa ▸ On.alloc (On.refl _) _)
  rw [hwa]
  clear hwa
  obtain ⟨g7, hg7⟩ : ∃ g7, w1.heap.size = g7 := ⟨_, rfl⟩
  rw [hg7] at hl8 hsz hsa ⊢
  have hba0 := Aside0.mk (hb0.out.trans (hb1'.out.trans hba.out))
  have hbl := Aside0.mk (show w1.heap.size = g7 from hg7)
  clear hg7
  refine (l1Below_calls w0 _ q (hC'.out.next hba0.out) (a + 1) (by have := hA'.out; omega) (by have := hA'.out; omega)).mono ?_
  rintro e w2 ⟨v, rfl, ⟨c0, rfl, hc0⟩, hC2, hE2⟩
  replace hc0 := Aside0.mk hc0
  have hC2' := Aside0.mk hC2
  have hE2' := Aside0.mk hE2
  have hl2 := Aside0.mk (blk_ex hE2 hl8.out (by have := hqw.out; have := hsz.out; omega))
  have hR2 := Aside0.mk (show RS (fun b => b = q ∨ b = g7) w2 (.agg #[.slice As sigs.length cs, .slice none 0 0]) sigs [] from RS.ex (RS.on (RS.start hR'.out (fun b h1 h2 h3 => by
    have := hqw.out; have := hbl.out; simp at h1; omega)) hba.out) (hE2.mono fun _ h => .inl h))
  clear hC2 hE2
  go_wp2
  go_loopw [6] (fun v8 wr => ∃ (c : Nat) (fs : List Fct) (A0 : Option Addr) (d0 : Nat) (A1 : Option Addr) (d1 : Nat), v8 = .int .i64 c ∧ wr.heap[g7]? = some (.cells #[.slice A0 sigs.length d0, .slice A1 fs.length d1] 27 (0, 0)) ∧ RS (fun b => b = q ∨ b = g7) wr (.agg #[.slice A0 sigs.length d0, .slice A1 fs.length d1]) sigs fs ∧ Asc fs ∧ (fs.length : Int) + (c : Int) ≤ a ∧ (∀ f ∈ fs, f.2.length ≤ 2) ∧ Cu w0 wr q ∧ Ex (fun b => b = q) w wr ∧ Ex (fun b => b = q ∨ b = g7) wa wr) (fun v8 _ => (intOf v8).toNat)
  case atStart => exact ⟨c0.toNat, [], As, cs, none, 0, by have := hc0.out; congr 1; omega, hl2.out, hR2.out, List.Pairwise.nil, by have := hc0.out; have := hA'.out; simp; omega, fun _ h => absurd h (by simp), hC2'.out, (Ex.of_on (S := fun b => b = q) hba0.out).trans hE2'.out fun _ _ h => h, hE2'.out.mono fun _ h => .inl h⟩
  case round =>
    obtain ⟨c, fs, A0, d0, A1, d1, rfl, hb7, hR, ha, hl, hl2, hC, hE, hEa⟩ := hrel
    have hb7' := Aside0.mk hb7
    have hRa := Aside0.mk hR
    have ha' := Aside0.mk ha
    have hl' := Aside0.mk hl
    have hl2' := Aside0.mk hl2
    have hC1 := Aside0.mk hC
    have hE' := Aside0.mk hE
    have hEa' := Aside0.mk hEa
    have hd0 := blk_cell hb7 0
    have hd1 := blk_cell hb7 1
    clear hb7 hR ha hl hl2 hC hE hEa
    by_cases hc : 0 < c
    · have hc' := Aside0.mk hc
      have hcb : decide ((0 : Int) < (c : Int)) = true := decide_eq_true (by omega)
      have hcn : decide (0 < c) = true := decide_eq_true hc
      clear hc
      go_wp2
      refine Reg.regionG (fun w' => w'.heap[g7]? = some (.cells #[.slice A0 sigs.length d0, .slice A1 fs.length d1] 27 (0, 0))) [0,1,2] [3,4,5,6] 6 (by kernel_rfl) (by kernel_rfl) hb7'.out ?_
      repeat refine Reg.sG ?_
      refine Reg.startG ?_
      obtain ⟨w3, hw3⟩ : ∃ w3, ({ wr with drawn := wr.drawn + 1 } : World) = w3 := ⟨_, rfl⟩
      have hS3 := Aside0.mk (show On wr w3 from (hw3 ▸ on_draw wr))
      rw [hw3]
      clear hw3 hd0 hd1
      refine Reg.tG ?_
      go_wp2_with (go_at_call 66; refine Stop.out ?_)
      refine ⟨(l1Below_calls w0 _ q (hC1.out.next hS3.out) 2 (by omega) (by omega)).mono ?_⟩
      rintro e w4 ⟨v, rfl, ⟨x, rfl, hx⟩, hC4, hE4⟩
      obtain ⟨y, rfl⟩ := Int.eq_ofNat_of_zero_le hx.1
      have hkb := Aside0.mk (show y < 5 by omega)
      have hC4' := Aside0.mk hC4
      have hE4' := Aside0.mk ((Ex.of_on (S := fun b => b = q) hS3.out).trans hE4 fun _ _ h => h)
      have hb4 := Aside0.mk (blk_ex hE4'.out hb7'.out (by have := hqw.out; have := hsz.out; omega))
      clear hC4 hE4 hx
      go_wp2
      refine ⟨hb4.out, ?_⟩
      refine Reg.tG ?_
      go_wp2_with (go_at_call 70; refine Stop.out ?_)
      refine ⟨(l4Fact_calls w0 _ q hC4'.out y hkb.out 0 (by omega) (by omega)).mono ?_⟩
      rintro e w5 ⟨v, rfl, ⟨f, hO5, hf1, hf2⟩, hC5, hE5⟩
      obtain ⟨v5, rfl, hO5, hI5⟩ := hO5.out
      obtain ⟨A5, c5, rfl⟩ := own_slice hO5
      have hI5' := Aside0.mk (OI.same hO5 hI5).2
      have hf2' := Aside0.mk (show f.2.length ≤ 2 by rw [hf2]; exact (arN_in _).2)
      have hC5' := Aside0.mk hC5
      have hE5' := Aside0.mk (hE4'.out.trans hE5 fun _ _ h => h)
      have hb5 := Aside0.mk (blk_ex hE5'.out hb7'.out (by have := hqw.out; have := hsz.out; omega))
      clear hC5 hE5 hf1 hf2 hO5 hI5
      go_wp2
      refine ⟨hb5.out, ?_⟩
      refine Reg.tG ?_
      go_wp2_with (go_at_call 37; refine Stop.out ?_)
      obtain ⟨_, _, hs, hall⟩ := (RS.ex hRa.out (hE5'.out.mono fun _ h => .inl h)).parts
      refine ⟨(l5PutS_calls (fun b => b = q ∨ b = g7) _ A0 d0 A1 d1 hs sigs fs hall (fun b hb => by have := blk_lt hb5.out; have := hC5'.out.lt; rcases hb with h | h <;> omega) A5 c5 f hI5'.out (by have := hl'.out; have := hA'.out; omega) (by have := hf2'.out; omega) ha'.out).mono ?_⟩
      rintro e w6 ⟨v6, rfl, hR6, hb6⟩
      obtain ⟨fs', hfs⟩ : ∃ fs', putF fs f = fs' := ⟨_, rfl⟩
      rw [hfs] at hR6
      have hR6' := Aside0.mk hR6
      obtain ⟨B0, e0, B1, e1, hs', rfl, -⟩ := hR6.out
      have ha6 := Aside0.mk (show Asc fs' from hfs ▸ putF_asc f fs ha'.out)
      have hl6 := Aside0.mk (show fs'.length ≤ fs.length + 1 from hfs ▸ putF_le fs f)
      have hm6 := Aside0.mk (show ∀ g ∈ fs', g.2.length ≤ 2 by
        rw [← hfs]; intro g hg; rcases (mem_putF f g fs).1 hg with rfl | h
        · exact hf2'.out
        · exact hl2'.out g h)
      have hb6' := Aside0.mk hb6
      have hbl6 := Aside0.mk (blk_below hb5.out hb6)
      have hcr := blk_cell hbl6.out
      have hfr := blk_frozen hbl6.out
      clear hR6 hfs hb6
      go_wp2
      refine ⟨hbl6.out, ?_⟩
      refine Reg.tE ?_
      go_wp2
      have EE := (Ex.set w6 ⟨g7, 0, none⟩ (.slice B0 sigs.length e0)).trans (Ex.set _ ⟨g7, 1, none⟩ (.slice B1 fs'.length e1)) (fun _ _ h => h)
      have hwc : wrap64 ((c : Int) - 1) = ((c - 1 : Nat) : Int) := by have := hc'.out; have := hl'.out; have := hA'.out; rw [IntWalk.wrap64_in _ (by omega)]; omega
      have hs1 := hsz.out
      have hq1 := hqw.out
      have hq2 := hq0.out
      refine ⟨⟨c - 1, fs', B0, e0, B1, e1, by rw [hwc], blk_set (blk_set hbl6.out 0 _) 1 _, RS.ex hR6'.out (EE.mono fun _ h => .inr h), ha6.out, by have := hc'.out; have := hl'.out; have := hA'.out; have := hl6.out; omega, hm6.out,
        (hC5'.out.next hb6'.out).ex EE (fun b hb => by have e' : b = g7 := hb; omega), ((hE'.out.trans hE5'.out fun _ _ h => h).then_on hb6'.out).trans EE (fun i hi h => by have e' : i = g7 := h; omega),
        ((hEa'.out.trans hE5'.out fun _ _ h => .inl h).then_on hb6'.out).trans EE (fun i hi h => .inr h)⟩, ?_⟩
      rw [hwc]
      have := hc'.out
      simp [intOf]
      omega
    · have hcb : decide ((0 : Int) < (c : Int)) = false := decide_eq_false (by omega)
      have hcn : decide (0 < c) = false := decide_eq_false hc
      clear hc
      go_wp2_with (go_at_call 38; refine Stop.out ?_)
      obtain ⟨_, _, hs, hall⟩ := hRa.out.parts
      obtain ⟨h1, h2, h3⟩ := hall wr (Ex.refl _ _)
      refine ⟨(l5Copy_calls _ A0 d0 A1 d1 sigs fs h1 (h2.fcts h3) (by show (5 : Nat) ≤ _; omega) (by have := hl'.out; have := hA'.out; omega) (fun f hf => by have := hl2'.out f hf; omega)).mono ?_⟩
      rintro e w7 ⟨v7, rfl, hI0, hb7x⟩
      obtain ⟨a1, a2, a3, a4, a5, a6, rfl⟩ := hI0.read.shape
      have hI := Aside0.mk hI0
      have hb7a := Aside0.mk hb7x
      have hr7 := Aside0.mk (blk_below (blk_ex hEa'.out (blk_below hl1.out hba.out) (by have := hqw.out; have := hsz.out; omega)) hb7x)
      have hd0 := blk_cell hr7.out
      have hfr := blk_frozen hr7.out
      clear hI0 hb7x h1 h2 h3 hall
      go_wp2
      refine bodyPost_ret (retI rfl rfl (g := w.heap.size) (blk_set (blk_set hr7.out 0 _) 1 _) rfl) rfl ?_
      have EE := (Ex.set w7 ⟨w.heap.size, 0, none⟩ (.slice a1 a2 a3)).trans (Ex.set _ ⟨w.heap.size, 1, none⟩ (.slice a4 a5 a6)) (fun _ _ h => h)
      have hlo : w.heap.size < wr.heap.size := blk_lt (blk_ex hEa'.out (blk_below hl1.out hba.out) (by have := hqw.out; have := hsz.out; omega))
      have hq1 := hqw.out
      have hq2 := hq0.out
      exact ⟨_, rfl, ⟨fs, OIn.lower (OIn.set (OIn.set hI.out hlo _) hlo _) (Nat.le_of_lt hlo), ha'.out, by have := hl'.out; have := hA'.out; omega, hl2'.out⟩,
        (hC1.out.next hb7a.out).ex EE (fun b hb => by have e' : b = w.heap.size := hb; omega), (hE'.out.then_on hb7a.out).trans EE (fun i hi h => by have e' : i = w.heap.size := h; omega)⟩
end Go.Proofs.YtgemaohdlibboaaGreat.H
/- Walks: the draws of one relation and of any fact. What is told: sizes and ranges. No condition. -/
namespace Go.Proofs.YtgemaohdlibboaaGreat.H
open Go Go.RowKit Go.Proofs.YtgemaohdlibboaaGreatW.PrintWords Go.Proofs.YtgemaohdlibboaaGreatW.PrintLast
open Go.Proofs.YtgemaohdlibboaaGreat.Reg (On on_draw)
set_option maxHeartbeats 4000000
set_option maxRecDepth 100000
set_option linter.unusedVariables false
set_option linter.unusedSimpArgs false

theorem l1Pick_calls (w0 w : World) (q : Nat) (hC : Cu w0 w q) (ad : Addr) (c : Nat) (xs : List ByteArray) (hI : ∀ w', Ex (fun b => b = q) w w' → ∀ i (h : i < xs.length), w'.cell? (ad.add i) = some (.string xs[i])) (h1 : 1 ≤ xs.length) (h2 : xs.length ≤ 256) :
    Calls Tryz.prog 91 #[.pointer (some ⟨q, 0, none⟩), .slice (some ad) xs.length c] w (Dr w0 w q fun v _ => ∃ x, v = .string x ∧ x ∈ xs) := by
  have hC' := Aside0.mk hC
  have h1' := Aside0.mk h1
  have h2' := Aside0.mk h2
  have hI' := Aside0.mk hI
  clear hC h1 h2 hI
  go_enter Tryz.func91, Tryz.ntmps91
  go_wp2_with (go_at_call 66; refine (l1Below_calls w0 _ q hC'.out xs.length (by have := h1'.out; omega) (by have := h2'.out; omega)).mono ?_; rintro e w3 ⟨v, rfl, ⟨x, rfl, hx⟩, hC3, hE3⟩; replace hx := Aside0.mk hx; obtain ⟨k, hk⟩ := Int.eq_ofNat_of_zero_le hx.out.1; subst hk; have hkl : k < xs.length := (by have := hx.out; omega); have hx3 := hI'.out _ hE3 k hkl)
  go_ret
  exact ⟨_, rfl, ⟨_, rfl, List.getElem_mem (by have := hx.out; omega)⟩, hC3, hE3⟩
def names6 : List ByteArray := [⟨#[97]⟩, ⟨#[122]⟩, ⟨#[]⟩, ⟨#[65]⟩, ⟨#[97, 98]⟩, ⟨#[112]⟩]
theorem names6_at : ∀ (i : Nat) (h : i < names6.length), (#[.string ⟨#[97]⟩, .string ⟨#[122]⟩, .string ⟨#[]⟩, .string ⟨#[65]⟩, .string ⟨#[97, 98]⟩, .string ⟨#[112]⟩] : Array Value)[i]? = some (.string names6[i])
  | 0, _ => rfl
  | 1, _ => rfl
  | 2, _ => rfl
  | 3, _ => rfl
  | 4, _ => rfl
  | 5, _ => rfl
  | n + 6, h => absurd h (by show ¬ n + 6 < 6; omega)
theorem l3One_calls (w0 w : World) (q : Nat) (hC : Cu w0 w q) :
    Calls Tryz.prog 73 #[.pointer (some ⟨q, 0, none⟩)] w (Dr w0 w q fun v _ => ∃ r : Rel, v = .agg #[.string r.1, .int .i64 r.2.1, .bool r.2.2]) := by
  have hC' := Aside0.mk hC
  have hqw := Aside0.mk hC.lt
  have hq0 := Aside0.mk hC.lo
  have hb0 := Aside0.mk (On.alloc (On.alloc (On.refl w) (.cells #[.string ⟨#[]⟩, .int .i64 0, .bool false] 72 (0, 0))) (.cells #[.string ⟨#[97]⟩, .string ⟨#[122]⟩, .string ⟨#[]⟩, .string ⟨#[65]⟩, .string ⟨#[97, 98]⟩, .string ⟨#[112]⟩] 9 (0, 0)))
  have hl0 := Aside0.mk (loc2 w #[.string ⟨#[]⟩, .int .i64 0, .bool false] #[.string ⟨#[97]⟩, .string ⟨#[122]⟩, .string ⟨#[]⟩, .string ⟨#[65]⟩, .string ⟨#[97, 98]⟩, .string ⟨#[112]⟩] 72 9)
  clear hC
  go_enter Tryz.func73, Tryz.ntmps73
  go_wp2_with (go_at_call 91; refine Stop.out ?_)
  refine ⟨(l1Pick_calls w0 _ q (hC'.out.next hb0.out) ⟨w.heap.size + 1, 0, none⟩ 6 names6 (fun w' k i hi => ?_) (by show 1 ≤ 6; omega) (by show 6 ≤ 256; omega)).mono ?_⟩
  · have hb := blk_ex k hl0.out.2.1 (by have := hqw.out; omega)
    have h1 := (blk_cell hb i).trans (names6_at i hi)
    by_cases h0 : i = 0
    · subst h0; simpa [Addr.add] using h1
    · simpa [Addr.add, h0] using h1
  rintro e w1 ⟨v, rfl, ⟨s, rfl, -⟩, hC1, hE1⟩
  have hC1' := Aside0.mk hC1
  have hE1' := Aside0.mk ((Ex.of_on (S := fun b => b = q) hb0.out).trans hE1 fun _ _ h => h)
  have hr1 := Aside0.mk (blk_ex hE1 hl0.out.1 (by have := hqw.out; omega))
  clear hC1 hE1
  go_wp2_with (go_at_call 66; refine Stop.out ?_)
  refine ⟨(l1Below_calls w0 _ q hC1'.out 6 (by omega) (by omega)).mono ?_⟩
  rintro e w2 ⟨v, rfl, ⟨x, rfl, hx⟩, hC2, hE2⟩
  have hw : wrap64 (x - 1) = x - 1 := IntWalk.wrap64_in _ (by omega)
  have hC2' := Aside0.mk hC2
  have hE2' := Aside0.mk (hE1'.out.trans hE2 fun _ _ h => h)
  have hr2 := Aside0.mk (blk_ex hE2 hr1.out (by have := hqw.out; omega))
  clear hC2 hE2 hx
  go_wp2_with (go_at_call 39; refine Stop.out ?_)
  refine ⟨(l1Once_calls w0 _ q hC2'.out 2 (by omega) (by omega)).mono ?_⟩
  rintro e w3 ⟨v, rfl, ⟨b, rfl⟩, hC3, hE3⟩
  have hC3' := Aside0.mk hC3
  have hE3' := Aside0.mk (hE2'.out.trans hE3 fun _ _ h => h)
  have hr3 := Aside0.mk (blk_ex hE3 hr2.out (by have := hqw.out; omega))
  have hd0 := blk_cell hr3.out
  have hfr := blk_frozen hr3.out
  clear hC3 hE3
  go_wp2
  refine bodyPost_ret (retR rfl rfl (g := w.heap.size) (blk_set (blk_set (blk_set hr3.out 0 _) 1 _) 2 _) rfl) rfl ?_
  have EE := ((Ex.set w3 ⟨w.heap.size, 0, none⟩ (.string s)).trans (Ex.set _ ⟨w.heap.size, 1, none⟩ (.int .i64 (x - 1))) (fun _ _ h => h)).trans (Ex.set _ ⟨w.heap.size, 2, none⟩ (.bool b)) (fun _ _ h => h)
  have hq1 := hqw.out
  have hq2 := hq0.out
  exact ⟨_, rfl, ⟨(s, x - 1, b), rfl⟩, hC3'.out.ex EE (fun b hb => by have e' : b = w.heap.size := hb; omega), hE3'.out.trans EE (fun i hi h => by have e' : i = w.heap.size := h; omega)⟩
end Go.Proofs.YtgemaohdlibboaaGreat.H
/- Walks: the draw of any fact. What is told: sizes and ranges. No condition. -/
namespace Go.Proofs.YtgemaohdlibboaaGreat.H
open Go Go.RowKit Go.Proofs.YtgemaohdlibboaaGreatW.PrintWords Go.Proofs.YtgemaohdlibboaaGreatW.PrintLast
open Go.Proofs.YtgemaohdlibboaaGreat.Reg (On on_draw)
set_option maxHeartbeats 4000000
set_option maxRecDepth 100000
set_option linter.unusedVariables false
set_option linter.unusedSimpArgs false

/-- The first number of a row stored. -/
theorem OI.set0 {W : World} {lo : Nat} {A : Option Addr} {n c : Nat} {y : Int} {ys : List Int} (h : OI W lo (.slice A n c) (y :: ys)) : ∃ g, A = some ⟨g, 0, none⟩ ∧ lo ≤ g ∧ g < W.heap.size ∧ (∃ z, W.cell? ⟨g, 0, none⟩ = some z) ∧ W.frozen? ⟨g, 0, none⟩ = false ∧ ∀ x, OI (W.setCell ⟨g, 0, none⟩ (.int .i64 x)) lo (.slice A n c) (x :: ys) := by
  have hx := h.1
  rcases h.2 with ⟨h', hn⟩ | ⟨g, cap, cur, h', hg, hh, hnc, hcm, hcs, htk⟩
  · simp at hn
  · injection h' with e1 e2 e3
    subst e1 e2 e3
    refine ⟨g, rfl, hg, own_lt h g rfl, ?_, own_frozen h 0, fun x => ?_⟩
    · obtain ⟨z, hz⟩ := own_some h 0 (by simp)
      exact ⟨z, hz⟩
    · have := (h.stored 0 (.int .i64 x)).1
      exact this
theorem fact_end {w0 w wz : World} {q : Nat} {rz : Int} {Az : Option Addr} {n cz : Nat} {zs : List Int} (hqw : q < w.heap.size) (hq0 : w0.heap.size ≤ q) (hO : OI wz (w.heap.size + 1) (.slice Az n cz) zs) (hI : InR zs) (hl : zs.length ≤ 3) (hC : Cu w0 wz q) (hE : Ex (fun b => b = q) w wz) :
    Dr w0 w q (fun v w' => ∃ f : Fct, OFa w' w.heap.size v f ∧ f.2.length ≤ 3) (.returned (.agg #[.int .i64 rz, .slice Az n cz])) ((wz.setCell ⟨w.heap.size, 0, none⟩ (.int .i64 rz)).setCell ⟨w.heap.size, 1, none⟩ (.slice Az n cz)) := by
  have EE := (Ex.set wz ⟨w.heap.size, 0, none⟩ (.int .i64 rz)).trans (Ex.set _ ⟨w.heap.size, 1, none⟩ (.slice Az n cz)) (fun _ _ h => h)
  exact ⟨_, rfl, ⟨(rz, zs), ⟨_, rfl, own_lower (own_ex hO EE (fun i hi e => by have := own_base hO i hi; have e' : i = w.heap.size := e; omega)) (by omega), hI⟩, hl⟩,
    hC.ex EE (fun b hb => by have e' : b = w.heap.size := hb; omega), hE.trans EE (fun i hi h => by have e' : i = w.heap.size := h; omega)⟩
theorem l4Any_calls (w0 w : World) (q : Nat) (hC : Cu w0 w q) :
    Calls Tryz.prog 72 #[.pointer (some ⟨q, 0, none⟩)] w (Dr w0 w q fun v w' => ∃ f : Fct, OFa w' w.heap.size v f ∧ f.2.length ≤ 3) := by
  have hC' := Aside0.mk hC
  have hqw := Aside0.mk hC.lt
  have hq0 := Aside0.mk hC.lo
  have hb0 := Aside0.mk (On.alloc (On.refl w) (.cells #[.int .i64 0, .slice none 0 0] 54 (0, 0)))
  have hl0 := Aside0.mk (loc_new w #[.int .i64 0, .slice none 0 0] 54)
  clear hC
  go_enter Tryz.func72, Tryz.ntmps72
  go_wp2_with (go_at_call 66; refine Stop.out ?_)
  refine ⟨(l1Below_calls w0 _ q (hC'.out.next hb0.out) 5 (by omega) (by omega)).mono ?_⟩
  rintro e w1 ⟨v, rfl, ⟨x, rfl, hx⟩, hC1, hE1⟩
  obtain ⟨k, rfl⟩ := Int.eq_ofNat_of_zero_le hx.1
  have hk := Aside0.mk (show k < 5 by omega)
  have hC1' := Aside0.mk hC1
  have hE1' := Aside0.mk ((Ex.of_on (S := fun b => b = q) hb0.out).trans hE1 fun _ _ h => h)
  have hr1 := Aside0.mk (blk_ex hE1 hl0.out (by have := hqw.out; omega))
  clear hC1 hE1 hx
  go_wp2_with (go_at_call 70; refine Stop.out ?_)
  refine ⟨(l4Fact_calls w0 _ q hC1'.out k hk.out 4 (by omega) (by omega)).mono ?_⟩
  rintro e w2 ⟨v, rfl, ⟨f, hO, hf1, hf2⟩, hC2, hE2⟩
  obtain ⟨v2, rfl, hO, hI⟩ := hO.out
  obtain ⟨A2, c2, rfl⟩ := own_slice hO
  have hO' := Aside0.mk (own_lower (lo' := w.heap.size + 1) hO (by have := blk_lt hr1.out; omega))
  have hI' := Aside0.mk hI
  have hf2' := Aside0.mk (show 1 ≤ f.2.length ∧ f.2.length ≤ 2 by rw [hf2]; exact arN_in k)
  have hC2' := Aside0.mk hC2
  have hE2' := Aside0.mk (hE1'.out.trans hE2 fun _ _ h => h)
  have hr2 := Aside0.mk (blk_ex hE2 hr1.out (by have := hqw.out; omega))
  clear hC2 hE2 hO hI hf1 hf2
  obtain ⟨r, xs⟩ := f
  simp only at hO' hI' hf2' ⊢
  have hfill := alloc_fill w2
  go_wp2_with (go_at_call 66; refine Stop.out ?_)
  refine ⟨?_⟩
  clear hfill
  obtain ⟨wa, hwa⟩ : ∃ wa, w2.alloc (.cells #[.int .i64 r, .slice A2 xs.length c2] 54 (0, 0)) = wa := ⟨_, rfl⟩
  have hl3 := Aside0.mk (show wa.heap[w2.heap.size]? = some (.cells #[.int .i64 r, .slice A2 xs.length c2] 54 (0, 0)) from hwa ▸ loc_new w2 _ _)
  have hba := Aside0.mk (show On w2 wa from hwa ▸ On.alloc (On.refl _) _)
  rw [hwa]
  clear hwa
  have hbl := Aside0.mk (show w.heap.size < w2.heap.size from blk_lt hr2.out)
  have hblx := Aside0.mk (show ∀ i, (Value.slice A2 xs.length c2).ownBlock = some i → i < w2.heap.size from fun i hi => own_lt hO'.out i hi)
  obtain ⟨g3, hg3⟩ : ∃ g3, w2.heap.size = g3 := ⟨_, rfl⟩
  rw [hg3] at hl3 hbl hblx ⊢
  clear hg3
  refine (l1Below_calls w0 _ q (hC2'.out.next hba.out) 10 (by omega) (by omega)).mono ?_
  rintro e w3 ⟨v, rfl, ⟨x, rfl, hx⟩, hC3, hE3⟩
  have hC3' := Aside0.mk hC3
  have hE3a := Aside0.mk ((Ex.of_on (S := fun b => b = q) hba.out).trans hE3 fun _ _ h => h)
  have hr3 := Aside0.mk (blk_ex hE3a.out hr2.out (by have := hqw.out; omega))
  have hg3 := Aside0.mk (blk_ex hE3 hl3.out (by have := hqw.out; have := hbl.out; omega))
  have hE3' := Aside0.mk (hE2'.out.trans hE3a.out fun _ _ h => h)
  have hO3 := Aside0.mk (own_ex hO'.out hE3a.out (fun i hi e => by have := own_base hO'.out i hi; have := hqw.out; omega))
  clear hC3 hE3 hx
  by_cases hx0 : x = 0
  · subst hx0
    go_wp2_with (go_at_call 66; refine Stop.out ?_)
    refine ⟨(l1Below_calls w0 _ q hC3'.out 7 (by omega) (by omega)).mono ?_⟩
    rintro e w4 ⟨v, rfl, ⟨y, rfl, hy⟩, hC4, hE4⟩
    have hw : wrap64 (y - 1) = y - 1 := IntWalk.wrap64_in _ (by omega)
    have hC4' := Aside0.mk hC4
    have hr4 := Aside0.mk (blk_ex hE4 hr3.out (by have := hqw.out; omega))
    have hg4 := Aside0.mk (blk_ex hE4 hg3.out (by have := hqw.out; have := hbl.out; omega))
    have hE4' := Aside0.mk (hE3'.out.trans hE4 fun _ _ h => h)
    have hO4 := Aside0.mk (own_ex hO3.out hE4 (fun i hi e => by have := own_base hO3.out i hi; have := hqw.out; omega))
    clear hC4 hE4 hy
    have hne := Aside0.mk (show w.heap.size ≠ g3 by have := hbl.out; omega)
    have hd0 := blk_cell hg4.out
    have hf0 := blk_frozen hg4.out
    have hx4 := Aside0.mk (show (w4.setCell ⟨g3, 0, none⟩ (.int .i64 (y - 1))).heap[w.heap.size]? = _ from blk_far hr4.out (by show ¬ _; simp; have := hbl.out; omega) _)
    have hd1 := blk_cell hx4.out
    have hf1 := blk_frozen hx4.out
    go_wp2
    refine bodyPost_ret (retF rfl rfl (g := w.heap.size) (blk_set (blk_set hx4.out 0 _) 1 _) rfl) rfl ?_
    have EX := Ex.set w4 ⟨g3, 0, none⟩ (.int .i64 (y - 1))
    have hb1 := hbl.out
    have hb2 := hqw.out
    have hb3 := hq0.out
    exact fact_end hqw.out hq0.out (own_ex hO4.out EX (fun i hi e => by have e' : i = g3 := e; have := hblx.out i hi; omega)) hI'.out (by have := hf2'.out; omega) (hC4'.out.ex EX (fun b hb => by have e' : b = g3 := hb; omega)) (hE4'.out.trans EX (fun i hi h => by have e' : i = g3 := h; omega))
  · by_cases hx1 : x = 1
    · subst hx1
      have hd0 := blk_cell hg3.out
      have hf0 := blk_frozen hg3.out
      go_wp2_with (refine gate 21 ?_)
      have hI5 := Aside0.mk (lit_I w3 1 (by omega))
      have hS5 := Aside0.mk (On.alloc (On.refl w3) (.cells #[.int .i64 1] 3 (0, 0)))
      obtain ⟨ys, hys⟩ : ∃ ys, xs ++ [1] = ys := ⟨_, rfl⟩
      refine ⟨apI 21 hys (OI.to (pw_own_below hO3.out hS5.out)) hI5.out.2.1 (by have := blk_lt (blk_below hr3.out hS5.out); omega) (by have := hf2'.out; simp; omega) fun v6 w6 hO6 hg6 hat6 => ?_⟩
      have hO6' := Aside0.mk (OI.of hO6)
      have hS6 := Aside0.mk (Ex.of_grown hg6)
      have hr6 := Aside0.mk (blk_ex hS6.out (blk_below hr3.out hS5.out) (fun e => by have := own_base hO3.out _ e.symm; omega))
      have hg6' := Aside0.mk (blk_ex hS6.out (blk_below hg3.out hS5.out) (fun e => by have := hblx.out _ e.symm; omega))
      have hyl := Aside0.mk (show ys.length = xs.length + 1 by rw [← hys]; simp)
      have hyi := Aside0.mk (show InR ys by rw [← hys]; intro z hz; rcases List.mem_append.1 hz with h | h; exact hI'.out z h; rw [List.mem_singleton.1 h]; omega)
      have hlt6 := Aside0.mk (show ∀ i, v6.ownBlock = some i → i ≠ g3 ∧ w.heap.size < i from fun i hi => by
        have h1 := own_base hO6'.out i hi
        refine ⟨?_, by omega⟩
        rcases hat6 with e | ⟨b, e, hb⟩
        · have := hblx.out i (e ▸ hi); omega
        · rw [e] at hi; cases hi; have := blk_lt (blk_below hg3.out hS5.out); omega)
      clear hO6 hg6 hat6 hys hd0 hf0
      obtain ⟨A6, c6, rfl⟩ := own_slice hO6'.out
      have hd6 := blk_cell hg6'.out
      have hf6 := blk_frozen hg6'.out
      have hx6 := Aside0.mk (show (w6.setCell ⟨g3, 1, none⟩ (.slice A6 ys.length c6)).heap[w.heap.size]? = _ from blk_far hr6.out (by show ¬ _; simp; have := hbl.out; omega) _)
      have hd1 := blk_cell hx6.out
      have hf1 := blk_frozen hx6.out
      go_wp2
      refine bodyPost_ret (retF rfl rfl (g := w.heap.size) (blk_set (blk_set hx6.out 0 _) 1 _) rfl) rfl ?_
      have EX := Ex.set w6 ⟨g3, 1, none⟩ (.slice A6 ys.length c6)
      have hb1 := hbl.out
      have hb2 := hqw.out
      have hb3 := hq0.out
      have hE6 := (hE3'.out.then_on hS5.out).trans hS6.out (fun i hi h => by have := own_base hO3.out i h.symm; omega)
      exact fact_end hqw.out hq0.out (own_ex hO6'.out EX (fun i hi e => by have e' : i = g3 := e; have := (hlt6.out i hi).1; omega)) hyi.out (by have := hf2'.out; have := hyl.out; omega) (((hC3'.out.next hS5.out).ex hS6.out (fun b hb => by have := own_base hO3.out b hb.symm; omega)).ex EX (fun b hb => by have e' : b = g3 := hb; omega)) (hE6.trans EX (fun i hi h => by have e' : i = g3 := h; omega))
    · by_cases hx2 : x = 2
      · subst hx2
        have hd0 := blk_cell hg3.out
        have hf0 := blk_frozen hg3.out
        obtain ⟨y0, ys, rfl⟩ : ∃ y0 ys, xs = y0 :: ys := by
          cases xs with
          | nil => have := hf2'.out; simp at this
          | cons a b => exact ⟨a, b, rfl⟩
        obtain ⟨gr, rfl, hgr1, hgr2, -⟩ := OI.set0 hO3.out
        have hgr := Aside0.mk (show w.heap.size + 1 ≤ gr ∧ gr < g3 from ⟨hgr1, hblx.out gr rfl⟩)
        clear hgr1 hgr2
        go_wp2
        refine Reg.regionG (fun w' => w'.heap[g3]? = some (.cells #[.int .i64 r, .slice (some ⟨gr, 0, none⟩) (y0 :: ys).length c2] 54 (0, 0))) [0,1,2] [3,4,5,6] 6 (by kernel_rfl) (by kernel_rfl) hg3.out ?_
        repeat refine Reg.sG ?_
        refine Reg.startG ?_
        obtain ⟨w4, hw4⟩ : ∃ w4, ({ w3 with drawn := w3.drawn + 1 } : World) = w4 := ⟨_, rfl⟩
        have hS4 := Aside0.mk (show On w3 w4 from (hw4 ▸ on_draw w3))
        rw [hw4]
        clear hw4 hd0 hf0
        refine Reg.tG ?_
        go_wp2
        have hlt := Aside0.mk (show OI (w4.alloc (.cells #[.int .i64 10, .int .i64 (-41), .int .i64 9] 3 (0, 0))) w4.heap.size (.slice (some ⟨w4.heap.size, 0, none⟩) 3 3) [10, -41, 9] from lit_own w4 #[.int .i64 10, .int .i64 (-41), .int .i64 9] 3 1 3 w4.heap.size (Nat.le_refl _) (by omega) rfl)
        have hS5 := Aside0.mk (hS4.out.trans (On.alloc (On.refl w4) (.cells #[.int .i64 10, .int .i64 (-41), .int .i64 9] 3 (0, 0))))
        have hqs := Aside0.mk (show q < w4.heap.size from (hC3'.out.next hS4.out).lt)
        refine ⟨blk_below hg3.out hS5.out, ?_⟩
        refine Reg.tG ?_
        go_wp2_with (go_at_call 68; refine Stop.out ?_)
        refine ⟨(l1PickInt_calls w0 _ q (hC3'.out.next hS5.out) (some ⟨w4.heap.size, 0, none⟩) 3 [10, -41, 9] (fun w' k => (OI.same (own_ex hlt.out k (fun i hi e => by have := own_base hlt.out i hi; have := hqs.out; omega)) (fun z hz => by simp at hz; omega)).2) (by simp) (by simp)).mono ?_⟩
        rintro e w6 ⟨v, rfl, ⟨x, rfl, hx⟩, hC6, hE6⟩
        have hx' := Aside0.mk (show -41 ≤ x ∧ x ≤ 10 by simp at hx; omega)
        have hC6' := Aside0.mk hC6
        have hE6' := Aside0.mk ((Ex.of_on (S := fun b => b = q) hS5.out).trans hE6 fun _ _ h => h)
        have hg6 := Aside0.mk (blk_ex hE6'.out hg3.out (by have := hqw.out; have := hbl.out; omega))
        have hr6 := Aside0.mk (blk_ex hE6'.out hr3.out (by have := hqw.out; omega))
        have hO6 := Aside0.mk (own_ex hO3.out hE6'.out (fun i hi e => by have := own_base hO3.out i hi; have := hqw.out; omega))
        clear hC6 hE6 hx
        obtain ⟨gr', hgr', -, -, ⟨z, hz⟩, hfz, hset⟩ := OI.set0 hO6.out
        obtain rfl : gr = gr' := by injection hgr' with e; injection e
        clear hgr'
        have hset' := Aside0.mk (hset x)
        clear hset
        go_wp2
        refine ⟨hg6.out, ?_⟩
        refine Reg.tG ?_
        go_wp2
        refine ⟨hg6.out, ?_⟩
        refine Reg.tE ?_
        have hx6 := Aside0.mk (show (w6.setCell ⟨gr, 0, none⟩ (.int .i64 x)).heap[w.heap.size]? = _ from blk_far hr6.out (by show ¬ _; simp; have := hgr.out; omega) _)
        have hy6 := Aside0.mk (show (w6.setCell ⟨gr, 0, none⟩ (.int .i64 x)).heap[g3]? = _ from blk_far hg6.out (by show ¬ _; simp; have := hgr.out; omega) _)
        have hd0 := blk_cell hy6.out
        have hf0 := blk_frozen hy6.out
        have hd1 := blk_cell hx6.out
        have hf1 := blk_frozen hx6.out
        go_wp2
        refine bodyPost_ret (retF rfl rfl (g := w.heap.size) (blk_set (blk_set hx6.out 0 _) 1 _) rfl) rfl ?_
        have EX := Ex.set w6 ⟨gr, 0, none⟩ (.int .i64 x)
        have hb1 := hgr.out
        have hb2 := hqw.out
        have hb3 := hq0.out
        exact fact_end (zs := x :: ys) hqw.out hq0.out hset'.out (fun z hz => (List.mem_cons.1 hz).elim (fun e => by have := hx'.out; omega) (fun h => hI'.out z (List.mem_cons_of_mem _ h))) (by have := hf2'.out; simp at this ⊢; omega) (hC6'.out.ex EX (fun b hb => by have e' : b = gr := hb; omega)) ((hE3'.out.trans hE6'.out fun _ _ h => h).trans EX (fun i hi h => by have e' : i = gr := h; omega))
      · have b0 : (x == 0) = false := by simpa using hx0
        have b1 : (x == 1) = false := by simpa using hx1
        have b2 : (x == 2) = false := by simpa using hx2
        have hd0 := blk_cell hg3.out
        have hf0 := blk_frozen hg3.out
        have hd1 := blk_cell hr3.out
        have hf1 := blk_frozen hr3.out
        clear hx0 hx1 hx2
        go_wp2
        refine bodyPost_ret (retF rfl rfl (g := w.heap.size) (blk_set (blk_set hr3.out 0 _) 1 _) rfl) rfl ?_
        exact fact_end hqw.out hq0.out hO3.out hI'.out (by have := hf2'.out; omega) hC3'.out hE3'.out
end Go.Proofs.YtgemaohdlibboaaGreat.H
/- Walks: the draw of any instance. What is told: sizes and ranges. No condition. -/
namespace Go.Proofs.YtgemaohdlibboaaGreat.H
open Go Go.RowKit Go.Proofs.YtgemaohdlibboaaGreatW.PrintWords Go.Proofs.YtgemaohdlibboaaGreatW.PrintLast
open Go.Proofs.YtgemaohdlibboaaGreat.Reg (On on_draw)
set_option maxHeartbeats 4000000
set_option maxRecDepth 100000
set_option linter.unusedVariables false
set_option linter.unusedSimpArgs false

/-- An own instance none of whose blocks is g. -/
structure IW (g lo : Nat) (w : World) (vr vf : Value) (rs : List Rel) (hs : List Hdr) (fs : List Fct) : Prop where
  r : OR w lo vr rs
  f : OH w lo vf hs
  s : Sep w lo hs fs
  nr : ∀ b, vr.ownBlock = some b → b ≠ g
  nf : ∀ b, vf.ownBlock = some b → b ≠ g
  ns : ∀ (i : Nat) (a : Hdr) (b : Nat), hs[i]? = some a → (hdV a).ownBlock = some b → b ≠ g
theorem IW.of {g lo lo' : Nat} {w : World} {v : Value} {rs : List Rel} {fs : List Fct} (h : OIn w lo' v rs fs) (hl : lo ≤ lo') (hg : w.heap.size ≤ g ∨ g < lo') : ∃ vr vf hs, v = .agg #[vr, vf] ∧ IW g lo w vr vf rs hs fs := by
  obtain ⟨vr, vf, hs, rfl, h0, h1, h2⟩ := h.out
  exact ⟨vr, vf, hs, rfl, own_lower h0 hl, own_lower h1 hl, h2.lower hl, fun b hb => by have := own_base h0 b hb; have := own_lt h0 b hb; omega,
    fun b hb => by have := own_base h1 b hb; have := own_lt h1 b hb; omega, fun i a b ha hb => by have := h2.lt ha hb; omega⟩
theorem IW.ex {g lo : Nat} {S : Nat → Prop} {W w : World} {vr vf : Value} {rs : List Rel} {hs : List Hdr} {fs : List Fct} (h : IW g lo W vr vf rs hs fs) (k : Ex S W w) (hS : ∀ b, S b → b < lo ∨ b = g) : IW g lo w vr vf rs hs fs :=
  ⟨own_ex h.r k (fun i hi e => by have := own_base h.r i hi; have := h.nr i hi; have := hS i e; omega),
   own_ex h.f k (fun i hi e => by have := own_base h.f i hi; have := h.nf i hi; have := hS i e; omega),
   h.s.ex k (fun i a b ha hb e => by have := (h.s.lt ha hb).1; have := h.ns i a b ha hb; have := hS b e; omega), h.nr, h.nf, h.ns⟩
theorem IW.on {g lo : Nat} {W w : World} {vr vf : Value} {rs : List Rel} {hs : List Hdr} {fs : List Fct} (h : IW g lo W vr vf rs hs fs) (k : On W w) : IW g lo w vr vf rs hs fs := h.ex (Ex.of_on (S := fun _ => False) k) fun _ h => h.elim
theorem IW.rs {g lo : Nat} {S : Nat → Prop} {w : World} {vr vf : Value} {rs : List Rel} {hs : List Hdr} {fs : List Fct} (h : IW g lo w vr vf rs hs fs) (hS : ∀ b, S b → b < lo ∨ b = g) : RS S w (.agg #[vr, vf]) rs fs := by
  obtain ⟨A0, c0, rfl, _⟩ := OR.rd h.r
  obtain ⟨A1, c1, rfl⟩ := own_slice h.f
  refine ⟨A0, c0, A1, c1, hs, by rw [h.s.len], fun w' k => ?_⟩
  have h' := h.ex k hS
  exact ⟨(OR.same h'.r).2, (OH.rh h'.f).2, h'.s.reads⟩
theorem RS.mono {S S' : Nat → Prop} {w : World} {v : Value} {rs : List Rel} {fs : List Fct} (h : RS S w v rs fs) (hs : ∀ b, S' b → S b) : RS S' w v rs fs := by
  obtain ⟨A0, c0, A1, c1, hs', e, h⟩ := h.out
  exact ⟨A0, c0, A1, c1, hs', e, fun w' k => h w' (k.mono hs)⟩
theorem drop1 {w : World} {A : Option Addr} {c : Nat} {rs : List Rel} (h : Rels w A c rs) (hl : 1 ≤ rs.length) : Rels w (if c = 1 then A else A.map (·.add (1 * 3))) (c - 1) (rs.drop 1) :=
  ⟨by rw [List.length_drop]; have := h.1; omega, Kd.C_drop (m := 1) (c := c) h.2 hl h.1⟩
theorem own_off {w : World} {lo e sz n g : Nat} {v : Value} {cs : List Value} {ds : Array Value} {t : TypeId} {fr : Nat × Nat} (h : w.ownsRow lo e sz v n cs) (hb : w.heap[g]? = some (.cells ds t fr)) (hne : t ≠ e) : ∀ b, v.ownBlock = some b → b ≠ g := fun b hv hbg => by
  obtain ⟨c, hc⟩ := own_typed h b hv
  subst hbg
  rw [hb] at hc
  injection hc with hc
  injection hc with _ ht
  exact hne ht
theorem Reads.one {w : World} {a : Hdr} {f : Fct} (h1 : a.1 = f.1) (h2 : a.2.2.1 = f.2.length) (h3 : Ints w a.2.1 a.2.2.2 f.2) : Reads w [a] [f] := ⟨rfl, fun i b g hb hg => by
  have hi : i = 0 := by have := (List.getElem?_eq_some_iff.1 hb).1; simp at this; omega
  subst hi
  simp at hb hg
  subst hb hg
  exact ⟨h1, h2, h3⟩⟩
theorem flat_set (rs : List Rel) (k : Nat) (hk : k < rs.length) (r : Rel) : ((((rs.flatMap encR).set (k * 3) (.string r.1)).set (k * 3 + 1) (.int .i64 r.2.1)).set (k * 3 + 2) (.bool r.2.2)) = (rs.set k r).flatMap encR := by
  have e : rs = rs.take k ++ rs[k] :: rs.drop (k + 1) := by rw [List.getElem_cons_drop, List.take_append_drop]
  have h1 : rs.flatMap encR = (rs.take k).flatMap encR ++ (Value.string rs[k].1 :: Value.int .i64 rs[k].2.1 :: Value.bool rs[k].2.2 :: (rs.drop (k + 1)).flatMap encR) := by
    conv => lhs; rw [e]
    rw [List.flatMap_append, List.flatMap_cons]
    rfl
  rw [h1, set3 (k * 3) (by rw [flat_len (enc := encR) (sz := 3) (fun _ => rfl), List.length_take]; omega), List.set_eq_take_append_cons_drop, if_pos hk, List.flatMap_append, List.flatMap_cons]
  rfl
/-- An element of a row of relations stored. -/
theorem OR.setAt {W : World} {lo : Nat} {A : Option Addr} {n c k : Nat} {rs : List Rel} (h : OR W lo (.slice A n c) rs) (hk : k < rs.length) : ∃ g, A = some ⟨g, 0, none⟩ ∧ (Value.slice A n c).ownBlock = some g ∧ (∃ z, W.cell? ⟨g, k * 3, none⟩ = some z) ∧ (∃ z, W.cell? ⟨g, k * 3 + 1, none⟩ = some z) ∧ (∃ z, W.cell? ⟨g, k * 3 + 2, none⟩ = some z) ∧ (∀ j, W.frozen? ⟨g, j, none⟩ = false) ∧
    ∀ r : Rel, OR (((W.setCell ⟨g, k * 3, none⟩ (.string r.1)).setCell ⟨g, k * 3 + 1, none⟩ (.int .i64 r.2.1)).setCell ⟨g, k * 3 + 2, none⟩ (.bool r.2.2)) lo (.slice A n c) (rs.set k r) := by
  have hn := (OR.same h).1
  rcases h.2 with ⟨h', hn0⟩ | ⟨g, cap, cur, h', hg, hh, hnc, hcm, hcs, htk⟩
  · omega
  · injection h' with e1 e2 e3
    subst e1 e2 e3
    refine ⟨g, rfl, rfl, own_some h (k * 3) (by omega), own_some h (k * 3 + 1) (by omega), own_some h (k * 3 + 2) (by omega), fun j => own_frozen h j, fun r => ?_⟩
    have := ((h.stored (k * 3) (.string r.1)).1.stored (k * 3 + 1) (.int .i64 r.2.1)).1.stored (k * 3 + 2) (.bool r.2.2) |>.1
    rw [flat_set rs k hk r] at this
    show World.ownsRow _ _ _ _ _ (rs.set k r).length _
    rw [List.length_set]
    exact this
/-- What l5Any hands back. -/
abbrev AnyI (lo : Nat) (v : Value) (w : World) : Prop := ∃ rs fs, RS (fun b => b < lo) w v rs fs ∧ rs.length ≤ 5 ∧ fs.length ≤ 200 ∧ ∀ f ∈ fs, f.2.length ≤ 3
theorem inst_end {w0 w wz : World} {q : Nat} {A0 A1 : Option Addr} {n0 c0 n1 c1 : Nat} {rz : List Rel} {fz : List Fct} (hqw : q < w.heap.size) (hq0 : w0.heap.size ≤ q) (hR : RS (fun b => b ≤ w.heap.size) wz (.agg #[.slice A0 n0 c0, .slice A1 n1 c1]) rz fz) (hr : rz.length ≤ 5) (hl : fz.length ≤ 200) (hl2 : ∀ f ∈ fz, f.2.length ≤ 3) (hC : Cu w0 wz q) (hE : Ex (fun b => b = q) w wz) :
    Dr w0 w q (AnyI w.heap.size) (.returned (.agg #[.slice A0 n0 c0, .slice A1 n1 c1])) ((wz.setCell ⟨w.heap.size, 0, none⟩ (.slice A0 n0 c0)).setCell ⟨w.heap.size, 1, none⟩ (.slice A1 n1 c1)) := by
  have EE := (Ex.set wz ⟨w.heap.size, 0, none⟩ (.slice A0 n0 c0)).trans (Ex.set _ ⟨w.heap.size, 1, none⟩ (.slice A1 n1 c1)) (fun _ _ h => h)
  exact ⟨_, rfl, ⟨rz, fz, (hR.ex (EE.mono fun _ h => Nat.le_of_eq h)).mono fun _ h => Nat.le_of_lt h, hr, hl, hl2⟩,
    hC.ex EE (fun b hb => by have e' : b = w.heap.size := hb; omega), hE.trans EE (fun i hi h => by have e' : i = w.heap.size := h; omega)⟩
section
variable {ops : Array Oper} {rest : List Oper} {o : Oper} {a : Act} {Q : Exit → Act → World → Prop} {W : World}
/-- A cut of relations: all but the first. -/
theorem slR (N : Tmp) {x y : Operand} {A : Option Addr} {n c k : Nat} (hk : k ≤ n) (hc : n ≤ c) (h : wpList Tryz.prog ops Q rest (a.put (some N) (.slice (if c = k then A else A.map (·.add (k * 3))) (n - k) (c - k))) W)
    (hop : o.op = .slice 24 x (some y) none none := by rfl) (hd : o.dst = some N := by rfl) (hg : o.guard = none := by rfl) (hx : a.eval x = .slice A n c := by rfl) (hy : a.eval y = .int .i64 (k : Int) := by rfl) : wpList Tryz.prog ops Q (o :: rest) a W := by
  obtain ⟨i0, hi0, _, hsz, _⟩ := info_parts infoR
  have hcut := cut_from (P := Tryz.prog) 24 72 .i64 Tryz.underlying24 hi0 3 hsz A n c (k : Int) (by omega) (by omega)
  refine wpList_plain hg fun K hK => ?_
  have hrun : (execOp a.eval o).run Tryz.prog W = .ok (.value (.slice (if c = k then A else A.map (·.add (k * 3))) (n - k) (c - k))) W := by
    unfold execOp
    simp only [hop, hx, hy, Option.map_some, Option.map_none]
    have := hcut W
    simp only [Int.toNat_natCast] at this
    go_simp
  unfold Oper.wp
  rw [hrun]
  refine hK _ _ ?_
  rw [hd]
  exact h
end
end Go.Proofs.YtgemaohdlibboaaGreat.H
/- Walks: the draw of any instance. What is told: sizes and ranges. No condition. -/
namespace Go.Proofs.YtgemaohdlibboaaGreat.H
open Go Go.RowKit Go.Proofs.YtgemaohdlibboaaGreatW.PrintWords Go.Proofs.YtgemaohdlibboaaGreatW.PrintLast
open Go.Proofs.YtgemaohdlibboaaGreat.Reg (On on_draw)
set_option maxHeartbeats 4000000
set_option maxRecDepth 100000
set_option linter.unusedVariables false
set_option linter.unusedSimpArgs false

theorem l5Any_calls (w0 w : World) (q : Nat) (hC : Cu w0 w q) :
    Calls Tryz.prog 43 #[.pointer (some ⟨q, 0, none⟩)] w (Dr w0 w q (AnyI w.heap.size)) := by
  have hC' := Aside0.mk hC
  have hqw := Aside0.mk hC.lt
  have hq0 := Aside0.mk hC.lo
  have hb0 := Aside0.mk (On.alloc (On.refl w) (.cells #[.slice none 0 0, .slice none 0 0] 27 (0, 0)))
  have hl0 := Aside0.mk (loc_new w #[.slice none 0 0, .slice none 0 0] 27)
  clear hC
  go_enter Tryz.func43, Tryz.ntmps43
  go_wp2_with (go_at_call 42; refine Stop.out ?_)
  refine ⟨(l5Target_calls w0 _ q (hC'.out.next hb0.out) 5 (by omega) (by omega) 3 (by omega) (by omega)).mono ?_⟩
  rintro e w1 ⟨v, rfl, ⟨fs, hI, ha, hl, hm⟩, hC1, hE1⟩
  obtain ⟨vr, vf, hs, rfl, hIW⟩ := IW.of (g := w1.heap.size) (lo := w.heap.size + 1) hI (by simp) (.inl (Nat.le_refl _))
  obtain ⟨A0, d0, rfl⟩ := own_slice hIW.r
  obtain ⟨A1, d1, rfl⟩ := own_slice hIW.f
  have hla := Aside0.mk hIW.s.len
  rw [hla.out] at hIW
  have hI1 := Aside0.mk hIW
  have hfa := Aside0.mk ha
  have hfl := Aside0.mk (show fs.length ≤ 5 ∧ ∀ f ∈ fs, f.2.length ≤ 2 from ⟨by omega, hm⟩)
  have hC1' := Aside0.mk hC1
  have hE1' := Aside0.mk ((Ex.of_on (S := fun b => b = q) hb0.out).trans hE1 fun _ _ h => h)
  have hr1 := Aside0.mk (blk_ex hE1 hl0.out (by have := hqw.out; omega))
  rw [hla.out]
  clear hC1 hE1 hI hIW ha hl hm
  have hfill := alloc_fill w1
  go_wp2_with (go_at_call 39; refine Stop.out ?_)
  refine ⟨?_⟩
  clear hfill
  obtain ⟨wa, hwa⟩ : ∃ wa, w1.alloc (.cells #[.slice A0 sigs.length d0, .slice A1 fs.length d1] 27 (0, 0)) = wa := ⟨_, rfl⟩
  have hl3 := Aside0.mk (show wa.heap[w1.heap.size]? = some (.cells #[.slice A0 sigs.length d0, .slice A1 fs.length d1] 27 (0, 0)) from hwa ▸ loc_new w1 _ _)
  have hba := Aside0.mk (show On w1 wa from hwa ▸ On.alloc (On.refl _) _)
  rw [hwa]
  clear hwa
  have hgg := Aside0.mk (show w.heap.size < w1.heap.size from blk_lt hr1.out)
  obtain ⟨g3, hg3⟩ : ∃ g3, w1.heap.size = g3 := ⟨_, rfl⟩
  rw [hg3] at hl3 hgg hI1 ⊢
  clear hg3
  refine (l1Once_calls w0 _ q (hC1'.out.next hba.out) 2 (by omega) (by omega)).mono ?_
  rintro e w2 ⟨v, rfl, ⟨b, rfl⟩, hC2, hE2⟩
  have hC2' := Aside0.mk hC2
  have hE2a := Aside0.mk ((Ex.of_on (S := fun b => b = q) hba.out).trans hE2 fun _ _ h => h)
  have hr2 := Aside0.mk (blk_ex hE2a.out hr1.out (by have := hqw.out; omega))
  have hb2 := Aside0.mk (blk_ex hE2 hl3.out (by have := hqw.out; have := hgg.out; omega))
  have hE2' := Aside0.mk (hE1'.out.trans hE2a.out fun _ _ h => h)
  have hI2 := Aside0.mk (hI1.out.ex hE2a.out fun b hb => .inl (by have := hqw.out; omega))
  clear hC2 hE2
  cases b with
  | false =>
    go_wp2_with (go_at_call 66; refine Stop.out ?_)
    refine ⟨?_⟩
    have hCx := Aside0.mk hC2'.out
    have hIW := Aside0.mk hI2.out
    have hbx := Aside0.mk hb2.out
    have hrx := Aside0.mk hr2.out
    have hEx := Aside0.mk hE2'.out
    have hfl0 := hfl.out
    clear hfl
    have hfl := Aside0.mk (show fs.length ≤ 100 ∧ ∀ f ∈ fs, f.2.length ≤ 3 from ⟨by omega, fun f hf => by have := hfl0.2 f hf; omega⟩)
    clear hfl0
    as_aux_lemma =>
      refine (l1Below_calls w0 _ q hCx.out 14 (by omega) (by omega)).mono ?_
      rintro e w8 ⟨v, rfl, ⟨x, rfl, hx⟩, hC8, hE8⟩
      have hC8' := Aside0.mk hC8
      have hq1 := Aside0.mk (show q < w.heap.size + 1 by have := hqw.out; omega)
      have hI8 := Aside0.mk (hIW.out.ex hE8 fun b hb => .inl (by have := hq1.out; omega))
      have hb8 := Aside0.mk (blk_ex hE8 hbx.out (by have := hqw.out; have := hgg.out; omega))
      have hr8 := Aside0.mk (blk_ex hE8 hrx.out (by have := hqw.out; omega))
      have hE8' := Aside0.mk (hEx.out.trans hE8 fun _ _ h => h)
      have hS3 := Aside0.mk (show ∀ b, (b ≤ w.heap.size ∨ b = g3) → b < w.heap.size + 1 ∨ b = g3 from fun b hb => by have := hqw.out; omega)
      clear hC8 hE8 hx
      have hd0 := blk_cell hb8.out
      have hf0 := blk_frozen hb8.out
      by_cases hx0 : x = 0
      · subst hx0
        go_wp2
        refine Reg.regionG (fun w' => w'.heap[g3]? = some (.cells #[.slice A0 sigs.length d0, .slice A1 fs.length d1] 27 (0, 0))) [0,1,2] [3,4,5,6,7] 7 (by kernel_rfl) (by kernel_rfl) hb8.out ?_
        repeat refine Reg.sG ?_
        refine Reg.startG ?_
        obtain ⟨w9, hw9⟩ : ∃ w9, ({ w8 with drawn := w8.drawn + 1 } : World) = w9 := ⟨_, rfl⟩
        have hS9 := Aside0.mk (show On w8 w9 from (hw9 ▸ on_draw w8))
        rw [hw9]
        clear hw9 hd0 hf0
        refine Reg.tG ?_
        go_wp2_with (go_at_call 72; refine Stop.out ?_)
        refine ⟨(l4Any_calls w0 _ q (hC8'.out.next hS9.out)).mono ?_⟩
        rintro e wa ⟨v, rfl, ⟨f, hO, hf3⟩, hCa, hEa⟩
        obtain ⟨va, rfl, hO, hIr⟩ := hO.out
        obtain ⟨Aa, ca, rfl⟩ := own_slice hO
        have hlo9 := Aside0.mk (show w.heap.size + 1 ≤ w9.heap.size ∧ g3 < w9.heap.size ∧ q < w9.heap.size from ⟨blk_lt (blk_below hr8.out hS9.out), blk_lt (blk_below hb8.out hS9.out), (hC8'.out.next hS9.out).lt⟩)
        have hOa := Aside0.mk hO
        have hIr' := Aside0.mk hIr
        have hf3' := Aside0.mk hf3
        have hCa' := Aside0.mk hCa
        have hEa' := Aside0.mk ((Ex.of_on (S := fun b => b = q) hS9.out).trans hEa fun _ _ h => h)
        have hba := Aside0.mk (blk_ex hEa'.out hb8.out (by have := hqw.out; have := hgg.out; omega))
        have hra := Aside0.mk (blk_ex hEa'.out hr8.out (by have := hqw.out; omega))
        have hIa := Aside0.mk (hI8.out.ex hEa'.out fun b hb => .inl (by have := hq1.out; omega))
        clear hCa hEa hO hIr hf3
        go_wp2
        refine ⟨hba.out, ?_⟩
        refine Reg.tG ?_
        go_wp2
        obtain ⟨wb, hwb⟩ : ∃ wb, wa.alloc (.cells #[.int .i64 f.1, .slice Aa f.2.length ca] 54 (0, 0)) = wb := ⟨_, rfl⟩
        have hSb := Aside0.mk (show On wa wb from hwb ▸ On.alloc (On.refl _) _)
        have hRb := Aside0.mk (show RH wb (some ⟨wa.heap.size, 0, none⟩) 1 [(f.1, Aa, f.2.length, ca)] from lit_RH (hwb ▸ On.refl _))
        have hIb := Aside0.mk (hIa.out.on hSb.out)
        have hbb := Aside0.mk (blk_below hba.out hSb.out)
        have hrb := Aside0.mk (blk_below hra.out hSb.out)
        try rw [hwb]
        clear hwb
        refine ⟨hbb.out, ?_⟩
        refine Reg.tG ?_
        obtain ⟨zs, hzs⟩ : ∃ zs, hs ++ [((f.1, Aa, f.2.length, ca) : Hdr)] = zs := ⟨_, rfl⟩
        have hhl := Aside0.mk hIb.out.s.len
        refine apH 37 hzs hIb.out.f hRb.out (by have := blk_lt hrb.out; omega) (by have := hhl.out; have := hfl.out.1; simp; omega) (fun v11 w11 hO11 hg11 => ?_)
        have hO11' := Aside0.mk hO11
        have hGr := Aside0.mk (Ex.of_grown hg11)
        have hb11 := Aside0.mk (blk_ex hGr.out hbb.out (fun e => hIb.out.nf _ e.symm rfl))
        have hr11 := Aside0.mk (blk_ex hGr.out hrb.out (fun e => by have := own_base hIb.out.f _ e.symm; omega))
        clear hO11 hg11
        obtain ⟨A11, c11, rfl⟩ := own_slice hO11'.out
        refine ⟨hb11.out, ?_⟩
        have hd6 := blk_cell hb11.out
        have hf6 := blk_frozen hb11.out
        simp only [Act.put, List.setIfInBounds_toArray, List.set_cons_zero, List.set_cons_succ]
        refine Reg.tG ?_
        go_wp2
        refine ⟨hb11.out, ?_⟩
        refine Reg.tE ?_
        have hx11 := Aside0.mk (show (w11.setCell ⟨g3, 1, none⟩ (.slice A11 zs.length c11)).heap[w.heap.size]? = _ from blk_far hr11.out (by show ¬ _; simp; have := hgg.out; omega) _)
        have hy11 := Aside0.mk (blk_set hb11.out 1 (.slice A11 zs.length c11))
        have hd1 := blk_cell hx11.out
        have hf1 := blk_frozen hx11.out
        go_wp2
        refine bodyPost_ret (retI rfl rfl (g := w.heap.size) (blk_set (blk_set hx11.out 0 _) 1 _) rfl) rfl ?_
        have EX := Ex.set w11 ⟨g3, 1, none⟩ (.slice A11 zs.length c11)
        have hb1 := hgg.out
        have hb2 := hqw.out
        have hb3 := hq0.out
        have hb4 := hlo9.out
        have hzl : zs.length = (fs ++ [f]).length := by rw [← hzs]; simp; exact hhl.out
        have hRS : RS (fun b => b ≤ w.heap.size ∨ b = g3) w11 (.agg #[.slice A0 sigs.length d0, .slice A11 zs.length c11]) sigs (fs ++ [f]) := by
          have hIo := own_ex (pw_own_below hOa.out hSb.out) hGr.out (fun i hi e => own_ne_blk (pw_own_below hOa.out hSb.out) hIb.out.f (by decide) hi e.symm)
          refine ⟨A0, d0, A11, c11, zs, by rw [hzl], fun w' k => ⟨?_, ?_, ?_⟩⟩
          · have h1 := own_ex hIb.out.r hGr.out (fun i hi e => own_ne_blk hIb.out.r hIb.out.f (by decide) hi e.symm)
            exact (OR.same (own_ex h1 k (fun i hi e => by have := own_base h1 i hi; have := hIb.out.nr i hi; have := hS3.out i e; omega))).2
          · exact (OH.rh (own_ex hO11'.out k (fun i hi e => by have := own_base hO11'.out i hi; have := own_off hO11'.out hb11.out (by decide) i hi; have := hS3.out i e; omega))).2
          · rw [← hzs]
            refine Reads.append ?_ (Reads.one rfl rfl (OI.same (own_ex hIo k (fun i hi e => by have := own_base hOa.out i hi; omega)) hIr'.out).2)
            have h1 : Sep w11 (w.heap.size + 1) hs fs := hIb.out.s.ex hGr.out (fun i a b ha hb e => by
              have hi : i < fs.length := by rw [← hIb.out.s.len]; exact (List.getElem?_eq_some_iff.1 ha).1
              exact own_ne_blk (hIb.out.s.at_ i a fs[i] ha (List.getElem?_eq_getElem hi)).2.1 hIb.out.f (by decide) hb e.symm)
            exact (h1.ex k (fun i a b ha hb e => by have := (h1.lt ha hb).1; have := hIb.out.ns i a b ha hb; have := hS3.out b e; omega)).reads
        have hCE := ((hCa'.out.next hSb.out).ex hGr.out (fun b hb => by have := own_base hIb.out.f b hb.symm; omega)).ex EX (fun b hb => by have e' : b = g3 := hb; omega)
        have hEE := (((hE8'.out.trans hEa'.out fun _ _ h => h).then_on hSb.out).trans hGr.out (fun i hi h => by have := own_base hIb.out.f i h.symm; omega)).trans EX (fun i hi h => by have e' : i = g3 := h; omega)
        exact inst_end hqw.out hq0.out ((hRS.ex (EX.mono fun _ h => .inr h)).mono fun b h => .inl h) (by show 5 ≤ 5; omega) (by have := hfl.out.1; simp; omega) (fun g hg => (List.mem_append.1 hg).elim (fun h => hfl.out.2 g h) (fun h => by rw [List.mem_singleton.1 h]; exact hf3'.out)) hCE hEE
      · by_cases hx1 : x = 1
        · subst hx1
          obtain ⟨hcA, hRA⟩ := OR.same hI8.out.r
          have hcap := Aside0.mk hRA.1
          go_wp2_with (refine gate 43 ?_)
          refine ⟨slR 43 (k := 1) (A := A0) (n := sigs.length) (c := d0) (by show 1 ≤ 5; omega) hcap.out ?_⟩
          obtain ⟨Ac, hAc⟩ : ∃ Ac, (if d0 = 1 then A0 else A0.map (·.add (1 * 3))) = Ac := ⟨_, rfl⟩
          obtain ⟨dc, hdc⟩ : ∃ dc, d0 - 1 = dc := ⟨_, rfl⟩
          have hRS := Aside0.mk (show RS (fun b => b ≤ w.heap.size ∨ b = g3) w8 (.agg #[.slice Ac (sigs.length - 1) dc, .slice A1 fs.length d1]) (sigs.drop 1) fs from by
            refine ⟨Ac, dc, A1, d1, hs, rfl, fun w' k => ?_⟩
            have h' := hI8.out.ex k hS3.out
            refine ⟨?_, (OH.rh h'.f).2, h'.s.reads⟩
            rw [← hAc, ← hdc]
            exact drop1 (OR.same h'.r).2 (by show 1 ≤ 5; omega))
          rw [hAc, hdc]
          clear hAc hdc hcA hRA
          obtain ⟨m4, hm4⟩ : ∃ m4, sigs.length - 1 = m4 := ⟨_, rfl⟩
          rw [hm4] at hRS ⊢
          clear hm4
          simp only [Act.put, List.setIfInBounds_toArray, List.set_cons_zero, List.set_cons_succ]
          have hx8 := Aside0.mk (show (w8.setCell ⟨g3, 0, none⟩ (.slice Ac m4 dc)).heap[w.heap.size]? = _ from blk_far hr8.out (by show ¬ _; simp; have := hgg.out; omega) _)
          have hd1 := blk_cell hx8.out
          have hf1 := blk_frozen hx8.out
          go_wp2
          refine bodyPost_ret (retI rfl rfl (g := w.heap.size) (blk_set (blk_set hx8.out 0 _) 1 _) rfl) rfl ?_
          have EX := Ex.set w8 ⟨g3, 0, none⟩ (.slice Ac m4 dc)
          have hb1 := hgg.out
          have hb2 := hqw.out
          have hb3 := hq0.out
          exact inst_end hqw.out hq0.out ((hRS.out.ex (EX.mono fun _ h => .inr h)).mono fun b h => .inl h) (by show 4 ≤ 5; omega) (by have := hfl.out.1; omega) hfl.out.2 (hC8'.out.ex EX (fun b hb => by have e' : b = g3 := hb; omega)) (hE8'.out.trans EX (fun i hi h => by have e' : i = g3 := h; omega))
        · by_cases hx2 : x = 2
          · subst hx2
            go_wp2
            refine Reg.regionG (fun w' => w'.heap[g3]? = some (.cells #[.slice A0 sigs.length d0, .slice A1 fs.length d1] 27 (0, 0))) [0,1,2,4] [3,5,6,7] 7 (by kernel_rfl) (by kernel_rfl) hb8.out ?_
            repeat refine Reg.sG ?_
            refine Reg.startG ?_
            obtain ⟨w9, hw9⟩ : ∃ w9, ({ w8 with drawn := w8.drawn + 1 } : World) = w9 := ⟨_, rfl⟩
            have hS9 := Aside0.mk (show On w8 w9 from (hw9 ▸ on_draw w8))
            rw [hw9]
            clear hw9 hd0 hf0
            refine Reg.tG ?_
            go_wp2_with (go_at_call 66; refine Stop.out ?_)
            refine ⟨(l1Below_calls w0 _ q (hC8'.out.next hS9.out) 5 (by omega) (by omega)).mono ?_⟩
            rintro e wa ⟨v, rfl, ⟨y, rfl, hy⟩, hCa, hEa⟩
            obtain ⟨k, rfl⟩ := Int.eq_ofNat_of_zero_le hy.1
            have hk := Aside0.mk (show k < sigs.length by show k < 5; omega)
            have hCa' := Aside0.mk hCa
            have hEa' := Aside0.mk ((Ex.of_on (S := fun b => b = q) hS9.out).trans hEa fun _ _ h => h)
            have hba := Aside0.mk (blk_ex hEa'.out hb8.out (by have := hqw.out; have := hgg.out; omega))
            clear hCa hEa hy
            go_wp2
            refine ⟨hba.out, ?_⟩
            refine Reg.tG ?_
            go_wp2_with (go_at_call 73; refine Stop.out ?_)
            refine ⟨(l3One_calls w0 _ q hCa'.out).mono ?_⟩
            rintro e wb ⟨v, rfl, ⟨r, rfl⟩, hCb, hEb⟩
            have hCb' := Aside0.mk hCb
            have hEb' := Aside0.mk (hEa'.out.trans hEb fun _ _ h => h)
            have hbb := Aside0.mk (blk_ex hEb'.out hb8.out (by have := hqw.out; have := hgg.out; omega))
            have hrb := Aside0.mk (blk_ex hEb'.out hr8.out (by have := hqw.out; omega))
            have hIb := Aside0.mk (hI8.out.ex hEb'.out fun b hb => .inl (by have := hq1.out; omega))
            clear hCb hEb
            obtain ⟨gr, hgA, hgo, ⟨z0, hz0⟩, ⟨z1, hz1⟩, ⟨z2, hz2⟩, hfz, hset⟩ := hIb.out.r.setAt hk.out
            have hset' := Aside0.mk (hset r)
            have hgo' := Aside0.mk hgo
            have hgr := Aside0.mk (show w.heap.size + 1 ≤ gr ∧ gr ≠ g3 from ⟨own_base hIb.out.r gr hgo, hIb.out.nr gr hgo⟩)
            have hkb := hk.out
            clear hset hgo
            subst hgA
            go_wp2
            refine ⟨hbb.out, ?_⟩
            refine Reg.tG ?_
            go_wp2
            refine ⟨hbb.out, ?_⟩
            refine Reg.tE ?_
            obtain ⟨X, hX⟩ : ∃ X, ((wb.setCell ⟨gr, k * 3, none⟩ (.string r.1)).setCell ⟨gr, k * 3 + 1, none⟩ (.int .i64 r.2.1)).setCell ⟨gr, k * 3 + 2, none⟩ (.bool r.2.2) = X := ⟨_, rfl⟩
            have hX' := Aside0.mk hX
            have n1 : ¬ gr = g3 := hgr.out.2
            have n2 : ¬ gr = w.heap.size := by have := hgr.out.1; omega
            have hy11 := Aside0.mk (show (((wb.setCell ⟨gr, k * 3, none⟩ (.string r.1)).setCell ⟨gr, k * 3 + 1, none⟩ (.int .i64 r.2.1)).setCell ⟨gr, k * 3 + 2, none⟩ (.bool r.2.2)).heap[g3]? = _ from blk_far (blk_far (blk_far hbb.out (fun e => n1 e.symm) _) (fun e => n1 e.symm) _) (fun e => n1 e.symm) _)
            have hx11 := Aside0.mk (show (((wb.setCell ⟨gr, k * 3, none⟩ (.string r.1)).setCell ⟨gr, k * 3 + 1, none⟩ (.int .i64 r.2.1)).setCell ⟨gr, k * 3 + 2, none⟩ (.bool r.2.2)).heap[w.heap.size]? = _ from blk_far (blk_far (blk_far hrb.out (fun e => n2 e.symm) _) (fun e => n2 e.symm) _) (fun e => n2 e.symm) _)
            have hd0 := blk_cell hy11.out
            have hd1 := blk_cell hx11.out
            have hf1 := blk_frozen hx11.out
            clear hX n1 n2
            go_wp2
            refine bodyPost_ret (retI rfl rfl (g := w.heap.size) (blk_set (blk_set hx11.out 0 _) 1 _) rfl) rfl ?_
            have EX := ((Ex.set wb ⟨gr, k * 3, none⟩ (.string r.1)).trans (Ex.set _ ⟨gr, k * 3 + 1, none⟩ (.int .i64 r.2.1)) (fun _ _ h => h)).trans (Ex.set _ ⟨gr, k * 3 + 2, none⟩ (.bool r.2.2)) (fun _ _ h => h)
            have hb1 := hgr.out.1
            have hb2 := hqw.out
            have hb3 := hq0.out
            have hRS : RS (fun b => b ≤ w.heap.size ∨ b = g3) (((wb.setCell ⟨gr, k * 3, none⟩ (.string r.1)).setCell ⟨gr, k * 3 + 1, none⟩ (.int .i64 r.2.1)).setCell ⟨gr, k * 3 + 2, none⟩ (.bool r.2.2)) (.agg #[.slice (some ⟨gr, 0, none⟩) sigs.length d0, .slice A1 fs.length d1]) (sigs.set k r) fs := by
              have hf := own_ex hIb.out.f EX (fun i hi e => own_ne_blk hIb.out.f hIb.out.r (by decide) hi (e ▸ hgo'.out))
              have hs' : Sep (((wb.setCell ⟨gr, k * 3, none⟩ (.string r.1)).setCell ⟨gr, k * 3 + 1, none⟩ (.int .i64 r.2.1)).setCell ⟨gr, k * 3 + 2, none⟩ (.bool r.2.2)) (w.heap.size + 1) hs fs := hIb.out.s.ex EX (fun i a b ha hb e => by
                have hi : i < fs.length := by rw [← hIb.out.s.len]; exact (List.getElem?_eq_some_iff.1 ha).1
                exact own_ne_blk (hIb.out.s.at_ i a fs[i] ha (List.getElem?_eq_getElem hi)).2.1 hIb.out.r (by decide) hb (e ▸ hgo'.out))
              refine ⟨some ⟨gr, 0, none⟩, d0, A1, d1, hs, by rw [List.length_set], fun w' kk => ⟨?_, ?_, ?_⟩⟩
              · exact (OR.same (own_ex hset'.out kk (fun i hi e => by have := own_base hset'.out i hi; have := hIb.out.nr i hi; have := hS3.out i e; omega))).2
              · exact (OH.rh (own_ex hf kk (fun i hi e => by have := own_base hf i hi; have := hIb.out.nf i hi; have := hS3.out i e; omega))).2
              · exact (hs'.ex kk (fun i a b ha hb e => by have := (hs'.lt ha hb).1; have := hIb.out.ns i a b ha hb; have := hS3.out b e; omega)).reads
            exact inst_end hqw.out hq0.out (hRS.mono fun b h => .inl h) (by rw [List.length_set]; show 5 ≤ 5; omega) (by have := hfl.out.1; omega) hfl.out.2 (hCb'.out.ex EX (fun b hb => by have e' : b = gr := hb; omega)) ((hE8'.out.trans hEb'.out fun _ _ h => h).trans EX (fun i hi h => by have e' : i = gr := h; omega))
          · have b0 : (x == 0) = false := by simpa using hx0
            have b1 : (x == 1) = false := by simpa using hx1
            have b2 : (x == 2) = false := by simpa using hx2
            have hd1 := blk_cell hr8.out
            have hf1 := blk_frozen hr8.out
            clear hx0 hx1 hx2
            go_wp2
            refine bodyPost_ret (retI rfl rfl (g := w.heap.size) (blk_set (blk_set hr8.out 0 _) 1 _) rfl) rfl ?_
            exact inst_end hqw.out hq0.out ((hI8.out.rs hS3.out).mono fun b h => .inl h) (by show 5 ≤ 5; omega) (by have := hfl.out.1; omega) hfl.out.2 hC8'.out hE8'.out
  | true =>
    go_wp2_with (go_at_call 71; refine Stop.out ?_)
    refine ⟨(l5Source_calls w0 _ q hC2'.out 3 (by omega) (by omega)).mono ?_⟩
    rintro e w3 ⟨v, rfl, ⟨gs, hG, -, hgl, hgm⟩, hC3, hE3⟩
    have hg3w := Aside0.mk (show w.heap.size < w2.heap.size ∧ g3 < w2.heap.size from ⟨blk_lt hr2.out, blk_lt hb2.out⟩)
    obtain ⟨ur, uf, us, rfl, hIG⟩ := IW.of (g := g3) (lo := w.heap.size + 1) hG hg3w.out.1 (.inr hg3w.out.2)
    obtain ⟨B0, e0, rfl⟩ := own_slice hIG.r
    obtain ⟨B1, e1, rfl⟩ := own_slice hIG.f
    have hlb := Aside0.mk hIG.s.len
    rw [hlb.out] at hIG
    have hI3 := Aside0.mk hIG
    have hgf := Aside0.mk (show gs.length ≤ 3 ∧ ∀ f ∈ gs, f.2.length ≤ 2 from ⟨by omega, hgm⟩)
    have hC3' := Aside0.mk hC3
    have hr3 := Aside0.mk (blk_ex hE3 hr2.out (by have := hqw.out; omega))
    have hb3 := Aside0.mk (blk_ex hE3 hb2.out (by have := hqw.out; have := hgg.out; omega))
    have hE3' := Aside0.mk (hE2'.out.trans hE3 fun _ _ h => h)
    have hF3 := Aside0.mk (hI2.out.ex hE3 fun b hb => .inl (by have := hqw.out; omega))
    rw [hlb.out]
    clear hC3 hE3 hG hIG hgl hgm
    have hfill := alloc_fill w3
    go_wp2
    clear hfill
    obtain ⟨wc, hwc⟩ : ∃ wc, w3.alloc (.cells #[.slice B0 sigs.length e0, .slice B1 gs.length e1] 27 (0, 0)) = wc := ⟨_, rfl⟩
    have hl4 := Aside0.mk (show wc.heap[w3.heap.size]? = some (.cells #[.slice B0 sigs.length e0, .slice B1 gs.length e1] 27 (0, 0)) from hwc ▸ loc_new w3 _ _)
    have hbc := Aside0.mk (show On w3 wc from hwc ▸ On.alloc (On.refl _) _)
    rw [hwc]
    clear hwc
    have hg34 := Aside0.mk (show g3 < w3.heap.size ∧ q < w3.heap.size from ⟨blk_lt hb3.out, hC3'.out.lt⟩)
    obtain ⟨g4, hg4⟩ : ∃ g4, w3.heap.size = g4 := ⟨_, rfl⟩
    rw [hg4] at hl4 hg34 ⊢
    clear hg4
    have hS2 := Aside0.mk (show ∀ b, (b = q ∨ b = g3) → b < w.heap.size + 1 ∨ b = g3 from fun b hb => by have := hqw.out; omega)
    have hsrc := Aside0.mk ((hI3.out.on hbc.out).rs hS2.out)
    have htgt := Aside0.mk ((hF3.out.on hbc.out).rs hS2.out)
    have hbc3 := Aside0.mk (blk_below hb3.out hbc.out)
    go_loopw [5] (fun v5 wr => ∃ (k : Nat) (fs : List Fct) (A0 : Option Addr) (d0 : Nat) (A1 : Option Addr) (d1 : Nat), k ≤ gs.length ∧ v5 = .int .i64 k ∧ wr.heap[g3]? = some (.cells #[.slice A0 sigs.length d0, .slice A1 fs.length d1] 27 (0, 0)) ∧ RS (fun b => b = q ∨ b = g3) wr (.agg #[.slice A0 sigs.length d0, .slice A1 fs.length d1]) sigs fs ∧ Asc fs ∧ fs.length ≤ 5 + k ∧ (∀ f ∈ fs, f.2.length ≤ 2) ∧ Ex (fun b => b = g3) wc wr) (fun v5 _ => gs.length - (intOf v5).toNat)
    case atStart => exact ⟨0, fs, A0, d0, A1, d1, Nat.zero_le _, rfl, hbc3.out, htgt.out, hfa.out, by have := hfl.out.1; omega, hfl.out.2, Ex.refl _ _⟩
    case round =>
      obtain ⟨k, fs, A0, d0, A1, d1, hk, rfl, hbr, hR, ha, hl, hm, hE⟩ := hrel
      have hbr' := Aside0.mk hbr
      have hRr := Aside0.mk hR
      have ha' := Aside0.mk ha
      have hl' := Aside0.mk hl
      have hm' := Aside0.mk hm
      have hEr := Aside0.mk hE
      have hb4 := Aside0.mk (blk_ex hE hl4.out (by have := hg34.out; omega))
      have hd0 := blk_cell hbr 0
      have hd1 := blk_cell hbr 1
      have hd2 := blk_cell hb4.out 0
      have hd3 := blk_cell hb4.out 1
      have hCr := Aside0.mk ((hC3'.out.next hbc.out).ex hE (fun b hb => by have := hgg.out; have := hqw.out; have := hq0.out; omega))
      clear hbr hR ha hl hm hE
      by_cases hlt : k < gs.length
      · obtain ⟨_, _, us', hall⟩ := (hsrc.out.ex (hEr.out.mono fun _ h => .inr h)).parts
        obtain ⟨h1, h2, h3⟩ := hall wr (Ex.refl _ _)
        obtain ⟨ad, A3, c3, hA1, x0, x1, x2⟩ := (h2.fcts h3).at k hlt
        subst hA1
        have x2' := Aside0.mk x2
        have hkk := Aside0.mk hlt
        have hfk := Aside0.mk (show gs[k].2.length ≤ 2 from hgf.out.2 _ (List.getElem_mem hlt))
        obtain ⟨_, _, hs', hall'⟩ := hRr.out.parts
        have hall2 := Aside0.mk hall'
        clear x2 h1 h2 h3 hall hall'
        go_wp2
        refine Reg.region [(0,.L),(1,.L),(2,.L),(3,.L),(4,.L),(5,.L),(6,.N)] [7] (by kernel_rfl) (by kernel_rfl) ?_
        repeat first | refine sP ?_ | refine sS ?_ | refine sA ?_ | refine sL ?_ | refine sQ ?_ | refine sO ?_
        clear hd0 hd1 hd2 hd3 x0 x1
        refine callN Tryz.func37 (fun w4 hS4 => ?_)
        refine (l5PutS_calls (fun b => b = q ∨ b = g3) w4 A0 d0 A1 d1 hs' sigs fs (fun w' kk => hall2.out w' ((Ex.of_on hS4).trans kk fun _ _ h => h)) (fun b hb => by have := blk_lt (blk_below hbr'.out hS4); have := (hCr.out.next hS4).lt; rcases hb with h | h <;> omega) A3 c3 gs[k] (x2'.out.on hS4) (by have := hl'.out; have := hgf.out.1; omega) (by have := hfk.out; omega) ha'.out).mono ?_
        rintro e w5 ⟨v5, rfl, hR5, hb5⟩
        obtain ⟨fs', hfs⟩ : ∃ fs', putF fs gs[k] = fs' := ⟨_, rfl⟩
        rw [hfs] at hR5
        have hR5' := Aside0.mk hR5
        obtain ⟨C0, i0, C1, i1, hs'', rfl, -⟩ := hR5.out
        have ha6 := Aside0.mk (show Asc fs' from hfs ▸ putF_asc gs[k] fs ha'.out)
        have hl6 := Aside0.mk (show fs'.length ≤ fs.length + 1 from hfs ▸ putF_le fs gs[k])
        have hm6 := Aside0.mk (show ∀ g ∈ fs', g.2.length ≤ 2 by
          rw [← hfs]; intro g hg; rcases (mem_putF gs[k] g fs).1 hg with rfl | h
          · exact hfk.out
          · exact hm'.out g h)
        have hB5 := Aside0.mk (hS4.trans hb5)
        refine ⟨_, rfl, hb5, fun a' ha'' => ?_⟩
        simp only [Act.put, List.setIfInBounds_toArray, List.set_cons_zero, List.set_cons_succ] at ha''
        subst ha''
        clear hR5 hfs
        refine Reg.tail_ fun w6 hS6 => ?_
        have hb6 := Aside0.mk (blk_below hbr'.out (hB5.out.trans hS6))
        have hR6 := Aside0.mk (hR5'.out.on hS6)
        have hB6 := Aside0.mk (hB5.out.trans hS6)
        have hcr := blk_cell hb6.out
        have hfr := blk_frozen hb6.out
        clear hS6
        go_wp2
        have EE := (Ex.set w6 ⟨g3, 0, none⟩ (.slice C0 sigs.length i0)).trans (Ex.set _ ⟨g3, 1, none⟩ (.slice C1 fs'.length i1)) (fun _ _ h => h)
        have hk1 := hkk.out
        have hwk : wrap64 ((k : Int) + 1) = ((k + 1 : Nat) : Int) := by rw [IntWalk.wrap64_in _ (by have := hgf.out.1; omega)]; omega
        refine ⟨⟨k + 1, fs', C0, i0, C1, i1, by omega, by rw [hwk], blk_set (blk_set hb6.out 0 _) 1 _, hR6.out.ex (EE.mono fun _ h => .inr h), ha6.out, by have := hl'.out; have := hl6.out; omega, hm6.out, (hEr.out.then_on hB6.out).trans EE fun _ _ h => h⟩, by rw [hwk]; simp [intOf]; omega⟩
      · have hge : ¬ k < gs.length := hlt
        go_wp2_with (go_at_call 38; refine Stop.out ?_)
        obtain ⟨_, _, hs', hall⟩ := hRr.out.parts
        obtain ⟨h1, h2, h3⟩ := hall wr (Ex.refl _ _)
        refine ⟨(l5Copy_calls _ A0 d0 A1 d1 sigs fs h1 (h2.fcts h3) (by show (5 : Nat) ≤ _; omega) (by have := hl'.out; have := hgf.out.1; omega) (fun f hf => by have := hm'.out f hf; omega)).mono ?_⟩
        rintro e w7 ⟨v7, rfl, hI7, hb7⟩
        have hgl := Aside0.mk (blk_lt hbr'.out)
        obtain ⟨vr, vf, hs, rfl, hIW0⟩ := IW.of (g := g3) (lo := w.heap.size + 1) hI7 (by have := hgl.out; have := hgg.out; omega) (.inr hgl.out)
        obtain ⟨A0, d0, rfl⟩ := own_slice hIW0.r
        obtain ⟨A1, d1, rfl⟩ := own_slice hIW0.f
        have hlz := Aside0.mk hIW0.s.len
        rw [hlz.out] at hIW0 ⊢
        have hIW1 := Aside0.mk hIW0
        have hb7' := Aside0.mk hb7
        have hbx7 := Aside0.mk (blk_below hbr'.out hb7)
        have hrx7 := Aside0.mk (blk_below (blk_ex hEr.out (blk_below hr3.out hbc.out) (by have := hgg.out; omega)) hb7)
        have hfx := Aside0.mk (show fs.length ≤ 100 ∧ ∀ f ∈ fs, f.2.length ≤ 3 from ⟨by have := hl'.out; have := hgf.out.1; omega, fun f hf => by have := hm'.out f hf; omega⟩)
        have hcr := blk_cell hbx7.out
        have hfr := blk_frozen hbx7.out
        clear hIW0 hb7 hI7 hfl h1 h2 h3 hall hd0 hd1 hd2 hd3 hge hlt
        go_wp2_with (go_at_call 66; refine Stop.out ?_)
        refine ⟨?_⟩
        have hq5 := hqw.out
        have hq6 := hgg.out
        have hq7 := hq0.out
        have EE := (Ex.set w7 ⟨g3, 0, none⟩ (.slice A0 sigs.length d0)).trans (Ex.set _ ⟨g3, 1, none⟩ (.slice A1 fs.length d1)) (fun _ _ h => h)
        have hIW := Aside0.mk (hIW1.out.ex EE fun b hb => .inr hb)
        have hbx := Aside0.mk (blk_set (blk_set hbx7.out 0 (.slice A0 sigs.length d0)) 1 (.slice A1 fs.length d1))
        have hrx := Aside0.mk (blk_ex EE hrx7.out (fun e => by have e' : w.heap.size = g3 := e; omega))
        have hCx := Aside0.mk ((hCr.out.next hb7'.out).ex EE (fun b hb => by have e' : b = g3 := hb; omega))
        have hEx := Aside0.mk ((((hE3'.out.then_on hbc.out).trans hEr.out (fun i hi h => by have e' : i = g3 := h; omega)).then_on hb7'.out).trans EE (fun i hi h => by have e' : i = g3 := h; omega))
        have hfl := hfx
        clear hcr hfr EE hq5 hq6 hq7
        obtain ⟨wx, hwx⟩ : ∃ wx, (w7.setCell ⟨g3, 0, none⟩ (.slice A0 sigs.length d0)).setCell ⟨g3, 1, none⟩ (.slice A1 fs.length d1) = wx := ⟨_, rfl⟩
        rw [hwx] at hIW hbx hrx hCx hEx ⊢
        clear hwx
        as_aux_lemma =>
          refine (l1Below_calls w0 _ q hCx.out 14 (by omega) (by omega)).mono ?_
          rintro e w8 ⟨v, rfl, ⟨x, rfl, hx⟩, hC8, hE8⟩
          have hC8' := Aside0.mk hC8
          have hq1 := Aside0.mk (show q < w.heap.size + 1 by have := hqw.out; omega)
          have hI8 := Aside0.mk (hIW.out.ex hE8 fun b hb => .inl (by have := hq1.out; omega))
          have hb8 := Aside0.mk (blk_ex hE8 hbx.out (by have := hqw.out; have := hgg.out; omega))
          have hr8 := Aside0.mk (blk_ex hE8 hrx.out (by have := hqw.out; omega))
          have hE8' := Aside0.mk (hEx.out.trans hE8 fun _ _ h => h)
          have hS3 := Aside0.mk (show ∀ b, (b ≤ w.heap.size ∨ b = g3) → b < w.heap.size + 1 ∨ b = g3 from fun b hb => by have := hqw.out; omega)
          clear hC8 hE8 hx
          have hd0 := blk_cell hb8.out
          have hf0 := blk_frozen hb8.out
          by_cases hx0 : x = 0
          · subst hx0
            go_wp2
            refine Reg.regionG (fun w' => w'.heap[g3]? = some (.cells #[.slice A0 sigs.length d0, .slice A1 fs.length d1] 27 (0, 0))) [0,1,2] [3,4,5,6,7] 7 (by kernel_rfl) (by kernel_rfl) hb8.out ?_
            repeat refine Reg.sG ?_
            refine Reg.startG ?_
            obtain ⟨w9, hw9⟩ : ∃ w9, ({ w8 with drawn := w8.drawn + 1 } : World) = w9 := ⟨_, rfl⟩
            have hS9 := Aside0.mk (show On w8 w9 from (hw9 ▸ on_draw w8))
            rw [hw9]
            clear hw9 hd0 hf0
            refine Reg.tG ?_
            go_wp2_with (go_at_call 72; refine Stop.out ?_)
            refine ⟨(l4Any_calls w0 _ q (hC8'.out.next hS9.out)).mono ?_⟩
            rintro e wa ⟨v, rfl, ⟨f, hO, hf3⟩, hCa, hEa⟩
            obtain ⟨va, rfl, hO, hIr⟩ := hO.out
            obtain ⟨Aa, ca, rfl⟩ := own_slice hO
            have hlo9 := Aside0.mk (show w.heap.size + 1 ≤ w9.heap.size ∧ g3 < w9.heap.size ∧ q < w9.heap.size from ⟨blk_lt (blk_below hr8.out hS9.out), blk_lt (blk_below hb8.out hS9.out), (hC8'.out.next hS9.out).lt⟩)
            have hOa := Aside0.mk hO
            have hIr' := Aside0.mk hIr
            have hf3' := Aside0.mk hf3
            have hCa' := Aside0.mk hCa
            have hEa' := Aside0.mk ((Ex.of_on (S := fun b => b = q) hS9.out).trans hEa fun _ _ h => h)
            have hba := Aside0.mk (blk_ex hEa'.out hb8.out (by have := hqw.out; have := hgg.out; omega))
            have hra := Aside0.mk (blk_ex hEa'.out hr8.out (by have := hqw.out; omega))
            have hIa := Aside0.mk (hI8.out.ex hEa'.out fun b hb => .inl (by have := hq1.out; omega))
            clear hCa hEa hO hIr hf3
            go_wp2
            refine ⟨hba.out, ?_⟩
            refine Reg.tG ?_
            go_wp2
            obtain ⟨wb, hwb⟩ : ∃ wb, wa.alloc (.cells #[.int .i64 f.1, .slice Aa f.2.length ca] 54 (0, 0)) = wb := ⟨_, rfl⟩
            have hSb := Aside0.mk (show On wa wb from hwb ▸ On.alloc (On.refl _) _)
            have hRb := Aside0.mk (show RH wb (some ⟨wa.heap.size, 0, none⟩) 1 [(f.1, Aa, f.2.length, ca)] from lit_RH (hwb ▸ On.refl _))
            have hIb := Aside0.mk (hIa.out.on hSb.out)
            have hbb := Aside0.mk (blk_below hba.out hSb.out)
            have hrb := Aside0.mk (blk_below hra.out hSb.out)
            try rw [hwb]
            clear hwb
            refine ⟨hbb.out, ?_⟩
            refine Reg.tG ?_
            obtain ⟨zs, hzs⟩ : ∃ zs, hs ++ [((f.1, Aa, f.2.length, ca) : Hdr)] = zs := ⟨_, rfl⟩
            have hhl := Aside0.mk hIb.out.s.len
            refine apH 37 hzs hIb.out.f hRb.out (by have := blk_lt hrb.out; omega) (by have := hhl.out; have := hfl.out.1; simp; omega) (fun v11 w11 hO11 hg11 => ?_)
            have hO11' := Aside0.mk hO11
            have hGr := Aside0.mk (Ex.of_grown hg11)
            have hb11 := Aside0.mk (blk_ex hGr.out hbb.out (fun e => hIb.out.nf _ e.symm rfl))
            have hr11 := Aside0.mk (blk_ex hGr.out hrb.out (fun e => by have := own_base hIb.out.f _ e.symm; omega))
            clear hO11 hg11
            obtain ⟨A11, c11, rfl⟩ := own_slice hO11'.out
            refine ⟨hb11.out, ?_⟩
            have hd6 := blk_cell hb11.out
            have hf6 := blk_frozen hb11.out
            simp only [Act.put, List.setIfInBounds_toArray, List.set_cons_zero, List.set_cons_succ]
            refine Reg.tG ?_
            go_wp2
            refine ⟨hb11.out, ?_⟩
            refine Reg.tE ?_
            have hx11 := Aside0.mk (show (w11.setCell ⟨g3, 1, none⟩ (.slice A11 zs.length c11)).heap[w.heap.size]? = _ from blk_far hr11.out (by show ¬ _; simp; have := hgg.out; omega) _)
            have hy11 := Aside0.mk (blk_set hb11.out 1 (.slice A11 zs.length c11))
            have hd1 := blk_cell hx11.out
            have hf1 := blk_frozen hx11.out
            go_wp2
            refine bodyPost_ret (retI rfl rfl (g := w.heap.size) (blk_set (blk_set hx11.out 0 _) 1 _) rfl) rfl ?_
            have EX := Ex.set w11 ⟨g3, 1, none⟩ (.slice A11 zs.length c11)
            have hb1 := hgg.out
            have hb2 := hqw.out
            have hb3 := hq0.out
            have hb4 := hlo9.out
            have hzl : zs.length = (fs ++ [f]).length := by rw [← hzs]; simp; exact hhl.out
            have hRS : RS (fun b => b ≤ w.heap.size ∨ b = g3) w11 (.agg #[.slice A0 sigs.length d0, .slice A11 zs.length c11]) sigs (fs ++ [f]) := by
              have hIo := own_ex (pw_own_below hOa.out hSb.out) hGr.out (fun i hi e => own_ne_blk (pw_own_below hOa.out hSb.out) hIb.out.f (by decide) hi e.symm)
              refine ⟨A0, d0, A11, c11, zs, by rw [hzl], fun w' k => ⟨?_, ?_, ?_⟩⟩
              · have h1 := own_ex hIb.out.r hGr.out (fun i hi e => own_ne_blk hIb.out.r hIb.out.f (by decide) hi e.symm)
                exact (OR.same (own_ex h1 k (fun i hi e => by have := own_base h1 i hi; have := hIb.out.nr i hi; have := hS3.out i e; omega))).2
              · exact (OH.rh (own_ex hO11'.out k (fun i hi e => by have := own_base hO11'.out i hi; have := own_off hO11'.out hb11.out (by decide) i hi; have := hS3.out i e; omega))).2
              · rw [← hzs]
                refine Reads.append ?_ (Reads.one rfl rfl (OI.same (own_ex hIo k (fun i hi e => by have := own_base hOa.out i hi; omega)) hIr'.out).2)
                have h1 : Sep w11 (w.heap.size + 1) hs fs := hIb.out.s.ex hGr.out (fun i a b ha hb e => by
                  have hi : i < fs.length := by rw [← hIb.out.s.len]; exact (List.getElem?_eq_some_iff.1 ha).1
                  exact own_ne_blk (hIb.out.s.at_ i a fs[i] ha (List.getElem?_eq_getElem hi)).2.1 hIb.out.f (by decide) hb e.symm)
                exact (h1.ex k (fun i a b ha hb e => by have := (h1.lt ha hb).1; have := hIb.out.ns i a b ha hb; have := hS3.out b e; omega)).reads
            have hCE := ((hCa'.out.next hSb.out).ex hGr.out (fun b hb => by have := own_base hIb.out.f b hb.symm; omega)).ex EX (fun b hb => by have e' : b = g3 := hb; omega)
            have hEE := (((hE8'.out.trans hEa'.out fun _ _ h => h).then_on hSb.out).trans hGr.out (fun i hi h => by have := own_base hIb.out.f i h.symm; omega)).trans EX (fun i hi h => by have e' : i = g3 := h; omega)
            exact inst_end hqw.out hq0.out ((hRS.ex (EX.mono fun _ h => .inr h)).mono fun b h => .inl h) (by show 5 ≤ 5; omega) (by have := hfl.out.1; simp; omega) (fun g hg => (List.mem_append.1 hg).elim (fun h => hfl.out.2 g h) (fun h => by rw [List.mem_singleton.1 h]; exact hf3'.out)) hCE hEE
          · by_cases hx1 : x = 1
            · subst hx1
              obtain ⟨hcA, hRA⟩ := OR.same hI8.out.r
              have hcap := Aside0.mk hRA.1
              go_wp2_with (refine gate 43 ?_)
              refine ⟨slR 43 (k := 1) (A := A0) (n := sigs.length) (c := d0) (by show 1 ≤ 5; omega) hcap.out ?_⟩
              obtain ⟨Ac, hAc⟩ : ∃ Ac, (if d0 = 1 then A0 else A0.map (·.add (1 * 3))) = Ac := ⟨_, rfl⟩
              obtain ⟨dc, hdc⟩ : ∃ dc, d0 - 1 = dc := ⟨_, rfl⟩
              have hRS := Aside0.mk (show RS (fun b => b ≤ w.heap.size ∨ b = g3) w8 (.agg #[.slice Ac (sigs.length - 1) dc, .slice A1 fs.length d1]) (sigs.drop 1) fs from by
                refine ⟨Ac, dc, A1, d1, hs, rfl, fun w' k => ?_⟩
                have h' := hI8.out.ex k hS3.out
                refine ⟨?_, (OH.rh h'.f).2, h'.s.reads⟩
                rw [← hAc, ← hdc]
                exact drop1 (OR.same h'.r).2 (by show 1 ≤ 5; omega))
              rw [hAc, hdc]
              clear hAc hdc hcA hRA
              obtain ⟨m4, hm4⟩ : ∃ m4, sigs.length - 1 = m4 := ⟨_, rfl⟩
              rw [hm4] at hRS ⊢
              clear hm4
              simp only [Act.put, List.setIfInBounds_toArray, List.set_cons_zero, List.set_cons_succ]
              have hx8 := Aside0.mk (show (w8.setCell ⟨g3, 0, none⟩ (.slice Ac m4 dc)).heap[w.heap.size]? = _ from blk_far hr8.out (by show ¬ _; simp; have := hgg.out; omega) _)
              have hd1 := blk_cell hx8.out
              have hf1 := blk_frozen hx8.out
              go_wp2
              refine bodyPost_ret (retI rfl rfl (g := w.heap.size) (blk_set (blk_set hx8.out 0 _) 1 _) rfl) rfl ?_
              have EX := Ex.set w8 ⟨g3, 0, none⟩ (.slice Ac m4 dc)
              have hb1 := hgg.out
              have hb2 := hqw.out
              have hb3 := hq0.out
              exact inst_end hqw.out hq0.out ((hRS.out.ex (EX.mono fun _ h => .inr h)).mono fun b h => .inl h) (by show 4 ≤ 5; omega) (by have := hfl.out.1; omega) hfl.out.2 (hC8'.out.ex EX (fun b hb => by have e' : b = g3 := hb; omega)) (hE8'.out.trans EX (fun i hi h => by have e' : i = g3 := h; omega))
            · by_cases hx2 : x = 2
              · subst hx2
                go_wp2
                refine Reg.regionG (fun w' => w'.heap[g3]? = some (.cells #[.slice A0 sigs.length d0, .slice A1 fs.length d1] 27 (0, 0))) [0,1,2,4] [3,5,6,7] 7 (by kernel_rfl) (by kernel_rfl) hb8.out ?_
                repeat refine Reg.sG ?_
                refine Reg.startG ?_
                obtain ⟨w9, hw9⟩ : ∃ w9, ({ w8 with drawn := w8.drawn + 1 } : World) = w9 := ⟨_, rfl⟩
                have hS9 := Aside0.mk (show On w8 w9 from (hw9 ▸ on_draw w8))
                rw [hw9]
                clear hw9 hd0 hf0
                refine Reg.tG ?_
                go_wp2_with (go_at_call 66; refine Stop.out ?_)
                refine ⟨(l1Below_calls w0 _ q (hC8'.out.next hS9.out) 5 (by omega) (by omega)).mono ?_⟩
                rintro e wa ⟨v, rfl, ⟨y, rfl, hy⟩, hCa, hEa⟩
                obtain ⟨k, rfl⟩ := Int.eq_ofNat_of_zero_le hy.1
                have hk := Aside0.mk (show k < sigs.length by show k < 5; omega)
                have hCa' := Aside0.mk hCa
                have hEa' := Aside0.mk ((Ex.of_on (S := fun b => b = q) hS9.out).trans hEa fun _ _ h => h)
                have hba := Aside0.mk (blk_ex hEa'.out hb8.out (by have := hqw.out; have := hgg.out; omega))
                clear hCa hEa hy
                go_wp2
                refine ⟨hba.out, ?_⟩
                refine Reg.tG ?_
                go_wp2_with (go_at_call 73; refine Stop.out ?_)
                refine ⟨(l3One_calls w0 _ q hCa'.out).mono ?_⟩
                rintro e wb ⟨v, rfl, ⟨r, rfl⟩, hCb, hEb⟩
                have hCb' := Aside0.mk hCb
                have hEb' := Aside0.mk (hEa'.out.trans hEb fun _ _ h => h)
                have hbb := Aside0.mk (blk_ex hEb'.out hb8.out (by have := hqw.out; have := hgg.out; omega))
                have hrb := Aside0.mk (blk_ex hEb'.out hr8.out (by have := hqw.out; omega))
                have hIb := Aside0.mk (hI8.out.ex hEb'.out fun b hb => .inl (by have := hq1.out; omega))
                clear hCb hEb
                obtain ⟨gr, hgA, hgo, ⟨z0, hz0⟩, ⟨z1, hz1⟩, ⟨z2, hz2⟩, hfz, hset⟩ := hIb.out.r.setAt hk.out
                have hset' := Aside0.mk (hset r)
                have hgo' := Aside0.mk hgo
                have hgr := Aside0.mk (show w.heap.size + 1 ≤ gr ∧ gr ≠ g3 from ⟨own_base hIb.out.r gr hgo, hIb.out.nr gr hgo⟩)
                have hkb := hk.out
                clear hset hgo
                subst hgA
                go_wp2
                refine ⟨hbb.out, ?_⟩
                refine Reg.tG ?_
                go_wp2
                refine ⟨hbb.out, ?_⟩
                refine Reg.tE ?_
                obtain ⟨X, hX⟩ : ∃ X, ((wb.setCell ⟨gr, k * 3, none⟩ (.string r.1)).setCell ⟨gr, k * 3 + 1, none⟩ (.int .i64 r.2.1)).setCell ⟨gr, k * 3 + 2, none⟩ (.bool r.2.2) = X := ⟨_, rfl⟩
                have hX' := Aside0.mk hX
                have n1 : ¬ gr = g3 := hgr.out.2
                have n2 : ¬ gr = w.heap.size := by have := hgr.out.1; omega
                have hy11 := Aside0.mk (show (((wb.setCell ⟨gr, k * 3, none⟩ (.string r.1)).setCell ⟨gr, k * 3 + 1, none⟩ (.int .i64 r.2.1)).setCell ⟨gr, k * 3 + 2, none⟩ (.bool r.2.2)).heap[g3]? = _ from blk_far (blk_far (blk_far hbb.out (fun e => n1 e.symm) _) (fun e => n1 e.symm) _) (fun e => n1 e.symm) _)
                have hx11 := Aside0.mk (show (((wb.setCell ⟨gr, k * 3, none⟩ (.string r.1)).setCell ⟨gr, k * 3 + 1, none⟩ (.int .i64 r.2.1)).setCell ⟨gr, k * 3 + 2, none⟩ (.bool r.2.2)).heap[w.heap.size]? = _ from blk_far (blk_far (blk_far hrb.out (fun e => n2 e.symm) _) (fun e => n2 e.symm) _) (fun e => n2 e.symm) _)
                have hd0 := blk_cell hy11.out
                have hd1 := blk_cell hx11.out
                have hf1 := blk_frozen hx11.out
                clear hX n1 n2
                go_wp2
                refine bodyPost_ret (retI rfl rfl (g := w.heap.size) (blk_set (blk_set hx11.out 0 _) 1 _) rfl) rfl ?_
                have EX := ((Ex.set wb ⟨gr, k * 3, none⟩ (.string r.1)).trans (Ex.set _ ⟨gr, k * 3 + 1, none⟩ (.int .i64 r.2.1)) (fun _ _ h => h)).trans (Ex.set _ ⟨gr, k * 3 + 2, none⟩ (.bool r.2.2)) (fun _ _ h => h)
                have hb1 := hgr.out.1
                have hb2 := hqw.out
                have hb3 := hq0.out
                have hRS : RS (fun b => b ≤ w.heap.size ∨ b = g3) (((wb.setCell ⟨gr, k * 3, none⟩ (.string r.1)).setCell ⟨gr, k * 3 + 1, none⟩ (.int .i64 r.2.1)).setCell ⟨gr, k * 3 + 2, none⟩ (.bool r.2.2)) (.agg #[.slice (some ⟨gr, 0, none⟩) sigs.length d0, .slice A1 fs.length d1]) (sigs.set k r) fs := by
                  have hf := own_ex hIb.out.f EX (fun i hi e => own_ne_blk hIb.out.f hIb.out.r (by decide) hi (e ▸ hgo'.out))
                  have hs' : Sep (((wb.setCell ⟨gr, k * 3, none⟩ (.string r.1)).setCell ⟨gr, k * 3 + 1, none⟩ (.int .i64 r.2.1)).setCell ⟨gr, k * 3 + 2, none⟩ (.bool r.2.2)) (w.heap.size + 1) hs fs := hIb.out.s.ex EX (fun i a b ha hb e => by
                    have hi : i < fs.length := by rw [← hIb.out.s.len]; exact (List.getElem?_eq_some_iff.1 ha).1
                    exact own_ne_blk (hIb.out.s.at_ i a fs[i] ha (List.getElem?_eq_getElem hi)).2.1 hIb.out.r (by decide) hb (e ▸ hgo'.out))
                  refine ⟨some ⟨gr, 0, none⟩, d0, A1, d1, hs, by rw [List.length_set], fun w' kk => ⟨?_, ?_, ?_⟩⟩
                  · exact (OR.same (own_ex hset'.out kk (fun i hi e => by have := own_base hset'.out i hi; have := hIb.out.nr i hi; have := hS3.out i e; omega))).2
                  · exact (OH.rh (own_ex hf kk (fun i hi e => by have := own_base hf i hi; have := hIb.out.nf i hi; have := hS3.out i e; omega))).2
                  · exact (hs'.ex kk (fun i a b ha hb e => by have := (hs'.lt ha hb).1; have := hIb.out.ns i a b ha hb; have := hS3.out b e; omega)).reads
                exact inst_end hqw.out hq0.out (hRS.mono fun b h => .inl h) (by rw [List.length_set]; show 5 ≤ 5; omega) (by have := hfl.out.1; omega) hfl.out.2 (hCb'.out.ex EX (fun b hb => by have e' : b = gr := hb; omega)) ((hE8'.out.trans hEb'.out fun _ _ h => h).trans EX (fun i hi h => by have e' : i = gr := h; omega))
              · have b0 : (x == 0) = false := by simpa using hx0
                have b1 : (x == 1) = false := by simpa using hx1
                have b2 : (x == 2) = false := by simpa using hx2
                have hd1 := blk_cell hr8.out
                have hf1 := blk_frozen hr8.out
                clear hx0 hx1 hx2
                go_wp2
                refine bodyPost_ret (retI rfl rfl (g := w.heap.size) (blk_set (blk_set hr8.out 0 _) 1 _) rfl) rfl ?_
                exact inst_end hqw.out hq0.out ((hI8.out.rs hS3.out).mono fun b h => .inl h) (by show 5 ≤ 5; omega) (by have := hfl.out.1; omega) hfl.out.2 hC8'.out hE8'.out
end Go.Proofs.YtgemaohdlibboaaGreat.H
/- Walks: the laws' own substitutions: size, copy, comparison. No condition. -/
namespace Go.Proofs.YtgemaohdlibboaaGreat.H
open Go Go.RowKit Go.Proofs.YtgemaohdlibboaaGreatW.PrintWords Go.Proofs.YtgemaohdlibboaaGreatW.PrintLast
open Go.Proofs.YtgemaohdlibboaaGreat.Reg (On on_draw)
set_option maxHeartbeats 4000000
set_option maxRecDepth 100000
set_option linter.unusedVariables false
set_option linter.unusedSimpArgs false

section
variable {fn : Func} {p : Tmp} {tmps : Array Value} {w : World} {g : Nat} {t : TypeId} {cs : Array Value} {fr : Nat × Nat}
theorem retSu (h : fn.results = #[.cell p 32]) (hp : tmps.getD p undef = .pointer (some ⟨g, 0, none⟩)) (hg : w.heap[g]? = some (.cells cs t fr)) (hs : cs.size = 2) : (results fn tmps).run Tryz.prog w = .ok (.agg cs) w :=
  results_cell_row h tmps w g t cs fr _ hp hg Tryz.underlying32 rfl (by rw [hs]; kernel_rfl)
end
/-! In values. -/
structure RSu (w : World) (v : Value) (ns vs : List Int) : Prop where mk :: (out : ∃ A c B d, v = .agg #[.slice A ns.length c, .slice B vs.length d] ∧ Ints w A c ns ∧ Ints w B d vs)
structure OSb (w : World) (lo hi : Nat) (v : Value) (ns vs : List Int) : Prop where mk :: (out : ∃ v1 v2, v = .agg #[v1, v2] ∧ OI w lo v1 ns ∧ OI w lo v2 vs ∧ InR ns ∧ InR vs ∧ (∀ b, v1.ownBlock = some b → b < hi) ∧ ∀ b, v2.ownBlock = some b → b < hi)
structure OSu (w : World) (lo : Nat) (v : Value) (ns vs : List Int) : Prop where mk :: (out : ∃ v1 v2, v = .agg #[v1, v2] ∧ OI w lo v1 ns ∧ OI w lo v2 vs ∧ InR ns ∧ InR vs)
theorem OSu.b {w : World} {lo : Nat} {v : Value} {ns vs : List Int} (h : OSu w lo v ns vs) : OSb w lo w.heap.size v ns vs := by
  obtain ⟨v1, v2, e, h0, h1, h2, h3⟩ := h.out
  exact ⟨v1, v2, e, h0, h1, h2, h3, fun b hb => own_lt h0 b hb, fun b hb => own_lt h1 b hb⟩
theorem OSb.read {w : World} {lo hi : Nat} {v : Value} {ns vs : List Int} (h : OSb w lo hi v ns vs) : RSu w v ns vs := by
  obtain ⟨v1, v2, e, h0, h1, h2, h3, _⟩ := h.out
  obtain ⟨A, c, rfl, k0⟩ := OI.rd h0 h2
  obtain ⟨B, d, rfl, k1⟩ := OI.rd h1 h3
  exact ⟨A, c, B, d, e, k0, k1⟩
theorem OSu.read {w : World} {lo : Nat} {v : Value} {ns vs : List Int} (h : OSu w lo v ns vs) : RSu w v ns vs := h.b.read
theorem OSb.on {W w : World} {lo hi : Nat} {v : Value} {ns vs : List Int} (h : OSb W lo hi v ns vs) (hb : On W w) : OSb w lo hi v ns vs := by
  obtain ⟨v1, v2, e, h0, h1, h2, h3, h4, h5⟩ := h.out
  exact ⟨v1, v2, e, pw_own_below h0 hb, pw_own_below h1 hb, h2, h3, h4, h5⟩
theorem OSb.ex {S : Nat → Prop} {W w : World} {lo hi : Nat} {v : Value} {ns vs : List Int} (h : OSb W lo hi v ns vs) (k : Ex S W w) (hS : ∀ b, lo ≤ b → b < hi → ¬ S b) : OSb w lo hi v ns vs := by
  obtain ⟨v1, v2, e, h0, h1, h2, h3, h4, h5⟩ := h.out
  exact ⟨v1, v2, e, own_ex h0 k (fun i hi h => hS i (own_base h0 i hi) (h4 i hi) h), own_ex h1 k (fun i hi h => hS i (own_base h1 i hi) (h5 i hi) h), h2, h3, h4, h5⟩
theorem RSu.on {W w : World} {v : Value} {ns vs : List Int} (h : RSu W v ns vs) (hb : On W w) : RSu w v ns vs := by
  obtain ⟨A, c, B, d, e, h0, h1⟩ := h.out
  exact ⟨A, c, B, d, e, h0.on hb, h1.on hb⟩
theorem RSu.shape {w : World} {v : Value} {ns vs : List Int} (h : RSu w v ns vs) : ∃ A n c B m d, v = .agg #[.slice A n c, .slice B m d] := by
  obtain ⟨A, c, B, d, e, _⟩ := h.out
  exact ⟨_, _, _, _, _, _, e⟩
end Go.Proofs.YtgemaohdlibboaaGreat.H
/- Walks: the draw of a substitution. What is told: sizes and ranges. No condition. -/
namespace Go.Proofs.YtgemaohdlibboaaGreat.H
open Go Go.RowKit Go.Proofs.YtgemaohdlibboaaGreatW.PrintWords Go.Proofs.YtgemaohdlibboaaGreatW.PrintLast
open Go.Proofs.YtgemaohdlibboaaGreat.Reg (On on_draw)
set_option maxHeartbeats 4000000
set_option maxRecDepth 100000
set_option linter.unusedVariables false
set_option linter.unusedSimpArgs false

/-- Two own rows of numbers apart from block g and from one another. -/
structure TW (g lo : Nat) (w : World) (v0 v1 : Value) (ns vs : List Int) : Prop where
  r0 : OI w lo v0 ns
  r1 : OI w lo v1 vs
  n0 : ∀ b, v0.ownBlock = some b → b ≠ g
  n1 : ∀ b, v1.ownBlock = some b → b ≠ g
  ap : ∀ b, v0.ownBlock = some b → v1.ownBlock ≠ some b
theorem TW.ex {g lo : Nat} {S : Nat → Prop} {W w : World} {v0 v1 : Value} {ns vs : List Int} (h : TW g lo W v0 v1 ns vs) (k : Ex S W w) (hS : ∀ b, S b → b < lo ∨ b = g) : TW g lo w v0 v1 ns vs :=
  ⟨own_ex h.r0 k (fun i hi e => by have := own_base h.r0 i hi; have := h.n0 i hi; have := hS i e; omega),
   own_ex h.r1 k (fun i hi e => by have := own_base h.r1 i hi; have := h.n1 i hi; have := hS i e; omega), h.n0, h.n1, h.ap⟩
theorem TW.on {g lo : Nat} {W w : World} {v0 v1 : Value} {ns vs : List Int} (h : TW g lo W v0 v1 ns vs) (k : On W w) : TW g lo w v0 v1 ns vs := h.ex (Ex.of_on (S := fun _ => False) k) fun _ h => h.elim
/-- The first row grew. -/
theorem TW.app0 {g lo : Nat} {W w : World} {v0 v1 u0 : Value} {ns vs ms : List Int} (h : TW g lo W v0 v1 ns vs) (hg : g < W.heap.size) (hO : OI w lo u0 ms) (hgr : W.grownBy w v0.ownBlock) (hat : u0.ownBlock = v0.ownBlock ∨ ∃ b, u0.ownBlock = some b ∧ W.heap.size ≤ b) : TW g lo w u0 v1 ms vs := by
  have h1 := own_ex h.r1 (Ex.of_grown hgr) (fun i hi e => h.ap i e.symm hi)
  refine ⟨hO, h1, fun b hb => ?_, h.n1, fun b hb => ?_⟩
  · rcases hat with e | ⟨b', e, hb'⟩
    · exact h.n0 b (e ▸ hb)
    · rw [e] at hb; cases hb; omega
  · rcases hat with e | ⟨b', e, hb'⟩
    · exact h.ap b (e ▸ hb)
    · rw [e] at hb; cases hb; intro hv; have := own_lt h.r1 _ hv; omega
theorem TW.app1 {g lo : Nat} {W w : World} {v0 v1 u1 : Value} {ns vs ms : List Int} (h : TW g lo W v0 v1 ns vs) (hg : g < W.heap.size) (hO : OI w lo u1 ms) (hgr : W.grownBy w v1.ownBlock) (hat : u1.ownBlock = v1.ownBlock ∨ ∃ b, u1.ownBlock = some b ∧ W.heap.size ≤ b) : TW g lo w v0 u1 ns ms := by
  have h0 := own_ex h.r0 (Ex.of_grown hgr) (fun i hi e => h.ap i hi e.symm)
  refine ⟨h0, hO, h.n0, fun b hb => ?_, fun b hb hv => ?_⟩
  · rcases hat with e | ⟨b', e, hb'⟩
    · exact h.n1 b (e ▸ hb)
    · rw [e] at hb; cases hb; omega
  · rcases hat with e | ⟨b', e, hb'⟩
    · exact h.ap b hb (e ▸ hv)
    · rw [e] at hv; cases hv; have := own_lt h.r0 _ hb; omega
end Go.Proofs.YtgemaohdlibboaaGreat.H
