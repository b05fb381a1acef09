/- Walks: nulls. No condition. -/
import Derived.Test.YtngjhblbpapjeaaHB3
import Derived.Test.YtngjhblbpapjeaaHP
namespace Go.Proofs.Ytngjhblbpapjeaa.H
open Go Go.RowKit Go.Proofs.YtngjhblbpapjeaaW.PrintWords Go.Proofs.YtngjhblbpapjeaaW.PrintLast
open Go.Proofs.Ytngjhblbpapjeaa.Reg (On on_draw)
set_option maxHeartbeats 1000000
set_option maxRecDepth 100000
set_option linter.unusedVariables false
set_option linter.unusedSimpArgs false

theorem l4Put_calls (w : World) (lo : Nat) (hlo : lo ≤ w.heap.size) (v : Value) (l : List Int) (x : Int) (hO : OInts w lo v l) (hr : InR l) (hl : l.length ≤ 5000000000) :
    Calls Try.prog 57 #[v, .int .i64 x] w (Got fun v' w' => OInts w' lo v' (put l x) ∧ On w w') := by
  obtain ⟨A, c, rfl, hI⟩ := OInts.slice hO hr
  go_enter Try.func57, Try.ntmps57
  go_wp2
  go_loop [5] (fun v => ∃ k : Nat, k ≤ l.length ∧ v = .int .i64 k ∧ Hid (∀ j, (h : j < l.length) → j < k → l[j] < x)) (fun v => l.length - (intOf v).toNat)
  case atStart => exact ⟨0, Nat.zero_le _, rfl, fun j _ h => by omega⟩
  case round =>
    obtain ⟨k, hk, rfl, hp⟩ := hrel
    by_cases hlt : k < l.length
    · obtain ⟨ad, rfl, hx⟩ := hI.at k hlt
      by_cases h1 : l[k] < x
      · have h1b : decide (l[k] < x) = true := decide_eq_true h1
        have hp2 := Aside0.mk hp.out
        clear hp
        go_wp2
        go_round
        case rel => exact ⟨k + 1, by omega, by go_num, fun j hj h => by
          rcases Nat.lt_or_ge j k with h2 | h2
          · exact hp2.out j hj h2
          · obtain rfl : j = k := by omega
            exact of_decide_eq_true h1b⟩
        case measure => simp [intOf]; omega
      · have h1b : decide (l[k] < x) = false := decide_eq_false h1
        have hm := Aside0.mk (put_mid l x k hlt (fun j h => hp.out j (by omega) h) h1)
        clear hp
        by_cases h2 : l[k] = x
        · have h2b : (l[k] == x) = true := beq_iff_eq.mpr h2
          go_wp2
          go_ret
          exact ⟨_, rfl, by rw [hm.out, if_pos (beq_iff_eq.1 h2b)]; exact hO, On.refl _⟩
        · have h2b : (l[k] == x) = false := beq_eq_false_iff_ne.mpr h2
          go_wp2_with (refine gate 38 ?_)
          refine ⟨slF 38 (hI.on (On.alloc (On.refl _) _)) hk fun A1 c1 hI1 => ?_⟩
          obtain ⟨ys, hys⟩ : ∃ ys, [x] ++ l.drop k = ys := ⟨_, rfl⟩
          have hys' := Aside0.mk hys
          refine apI 39 hys (own1 w x) hI1.2.1 (by simp) (by simp; omega) fun v2 w2 hO2 hg2 hat2 => ?_
          clear hys
          have hB2 : On w w2 := grown_own (On.alloc (On.refl _) _) (own1 w x) hg2 (Nat.le_refl _)
          go_wp2_with (refine gate 43 ?_)
          refine ⟨slT 43 (hI.on (hB2.trans (On.alloc (On.refl _) _))) hk fun hI3 => ?_⟩
          refine apI 44 (List.nil_append _) (own0 w2) hI3.2.1 (by simp) (by simp; omega) fun v4 w4 hO4 hg4 hat4 => ?_
          have hB4 : On w2 w4 := grown_own (On.alloc (On.refl _) _) (own0 w2) hg4 (Nat.le_refl _)
          obtain ⟨A2, c2, rfl, _, hC2⟩ := Kd.R_reads (OInts.on hO2 hB4)
          go_wp2_with (refine gate 46 ?_)
          obtain ⟨zs, hzs⟩ : ∃ zs, l.take k ++ ys = zs := ⟨_, rfl⟩
          have hzs' := Aside0.mk hzs
          refine ⟨apI 46 hzs hO4 hC2 hB4.size (by have := congrArg List.length hys'.out; simp at this ⊢; omega) fun v6 w6 hO6 hg6 hat6 => ?_⟩
          clear hzs
          have hB6 : On w w6 := hB2.trans (grown_own hB4 hO4 hg6 (Nat.le_refl _))
          go_wp2
          go_ret
          exact ⟨_, rfl, by rw [hm.out, if_neg (beq_eq_false_iff_ne.1 h2b)]; have h9 := Kd.R_lower hO6 (base' := lo) (by have := hB2.size; omega); rw [← hzs'.out, ← hys'.out] at h9; simpa using h9, hB6⟩
    · obtain rfl : k = l.length := by omega
      have hm := Aside0.mk (put_end l x (fun j h => hp.out j h h))
      clear hp
      go_wp2_with (refine gate 38 ?_)
      refine ⟨slF 38 (hI.on (On.alloc (On.refl _) _)) hk fun A1 c1 hI1 => ?_⟩
      obtain ⟨ys, hys⟩ : ∃ ys, [x] ++ l.drop l.length = ys := ⟨_, rfl⟩
      have hys' := Aside0.mk hys
      refine apI 39 hys (own1 w x) hI1.2.1 (by simp) (by simp) fun v2 w2 hO2 hg2 hat2 => ?_
      clear hys
      have hB2 : On w w2 := grown_own (On.alloc (On.refl _) _) (own1 w x) hg2 (Nat.le_refl _)
      go_wp2_with (refine gate 43 ?_)
      refine ⟨slT 43 (hI.on (hB2.trans (On.alloc (On.refl _) _))) hk fun hI3 => ?_⟩
      refine apI 44 (List.nil_append _) (own0 w2) hI3.2.1 (by simp) (by simp; omega) fun v4 w4 hO4 hg4 hat4 => ?_
      have hB4 : On w2 w4 := grown_own (On.alloc (On.refl _) _) (own0 w2) hg4 (Nat.le_refl _)
      obtain ⟨A2, c2, rfl, _, hC2⟩ := Kd.R_reads (OInts.on hO2 hB4)
      go_wp2_with (refine gate 46 ?_)
      obtain ⟨zs, hzs⟩ : ∃ zs, l.take l.length ++ ys = zs := ⟨_, rfl⟩
      have hzs' := Aside0.mk hzs
      refine ⟨apI 46 hzs hO4 hC2 hB4.size (by have := congrArg List.length hys'.out; simp at this ⊢; omega) fun v6 w6 hO6 hg6 hat6 => ?_⟩
      clear hzs
      have hB6 : On w w6 := hB2.trans (grown_own hB4 hO4 hg6 (Nat.le_refl _))
      go_wp2
      go_ret
      exact ⟨_, rfl, by rw [hm.out]; have h9 := Kd.R_lower hO6 (base' := lo) (by have := hB2.size; omega); rw [← hzs'.out, ← hys'.out] at h9; simpa using h9, hB6⟩
theorem NullsOfFact_calls (w : World) (A : Option Addr) (c : Nat) (r : Int) (vs : List Int) (hI : Ints w A c vs) (hl : vs.length ≤ 1000000000) :
    Calls Try.prog 56 #[.agg #[.int .i64 r, .slice A vs.length c]] w (Got fun v' w' => OInts w' w.heap.size v' (nuls vs) ∧ On w w') := by
  go_enter Try.func56, Try.ntmps56
  go_wp2
  go_loopw [3, 4] (fun v3 v4 wr => ∃ (k : Nat) (out : List Int), k ≤ vs.length ∧ v4 = .int .i64 k ∧ Aside0 (OInts wr w.heap.size v3 out) ∧ Aside0 (nulsFrom out (vs.drop k) = nuls vs) ∧ out.length ≤ k ∧ Aside0 (InR out) ∧ On w wr ∧ Loc wr [(w.heap.size, #[.int .i64 r, .slice A vs.length c], 55)]) (fun _ v4 _ => vs.length - (intOf v4).toNat)
  case atStart => exact ⟨0, [], Nat.zero_le _, rfl, ⟨own0' (by simp) (by simp)⟩, ⟨rfl⟩, Nat.zero_le _, ⟨fun x hx => by cases hx⟩, On.alloc (On.alloc (On.refl _) _) _, Loc.on (On.alloc (On.refl _) _) (loc1 _ _ _)⟩
  case round =>
    obtain ⟨k, out, hk, rfl, hO, hp, hlen, hR, hB, hL⟩ := hrel
    have hc0 := blk_cell hL.1
    have hL' := Aside0.mk hL
    clear hL
    by_cases hlt : k < vs.length
    · obtain ⟨ad, rfl, hx⟩ := (hI.on hB).at k hlt
      have hbd := hI.bd k hlt
      have hst := Aside0.mk ((nulsFrom_step out vs k hlt).symm.trans hp.out)
      clear hp
      cases hn : isNul vs[k] with
      | false =>
        have hn' := Aside0.mk hn
        clear hn
        go_wp2_with (go_at_call 100; refine (NullNumber_calls _ _ hbd.1).mono ?_; rintro e w2 ⟨rfl, hb2⟩; rw [hn'.out])
        go_roundw
        case rel => exact ⟨k + 1, out, by omega, by go_num, ⟨OInts.on hO.out hb2⟩, ⟨by have := hst.out; rwa [hn'.out, if_neg (by simp)] at this⟩, by omega, hR, hB.trans hb2, Loc.on hb2 hL'.out⟩
        case measure => simp [intOf]; omega
      | true =>
        have hn' := Aside0.mk hn
        clear hn
        have hnb := nulNum_bd vs[k]
        go_wp2_with (first | (go_at_call 100; refine (NullNumber_calls _ _ hbd.1).mono ?_; rintro e w2 ⟨rfl, hb2⟩; rw [hn'.out]) | (go_at_call 57; refine (l4Put_calls w2 w.heap.size (hB.trans hb2).size _ out (nulNum vs[k]) (OInts.on hO.out hb2) hR.out (by omega)).mono ?_; rintro e w3 ⟨v3, rfl, hO3, hb3⟩))
        go_roundw
        case rel => exact ⟨k + 1, put out (nulNum vs[k]), by omega, by go_num, ⟨hO3⟩, ⟨by have := hst.out; rwa [hn'.out, if_pos rfl] at this⟩, by have := put_length out (nulNum vs[k]); omega, ⟨put_inR hR.out (by omega) (by omega)⟩, (hB.trans hb2).trans hb3, Loc.on (hb2.trans hb3) hL'.out⟩
        case measure => simp [intOf]; omega
    · have hp' := Aside0.mk hp.out
      clear hp
      go_wp2
      go_ret
      exact ⟨_, rfl, by have := hp'.out; rw [List.drop_of_length_le (by omega)] at this; rw [← this]; exact hO.out, hB⟩
end Go.Proofs.Ytngjhblbpapjeaa.H
