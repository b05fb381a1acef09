/- Walks: nulls of instances. No condition. -/
import Derived.Test.YtngjhblbpapjeaaHB4
import Derived.Test.YtngjhblbpapjeaaHL7
namespace Go.Proofs.Ytngjhblbpapjeaa.H
open Go Go.RowKit Go.Proofs.YtngjhblbpapjeaaW.PrintWords Go.Proofs.YtngjhblbpapjeaaW.PrintLast
open Go.Proofs.Ytngjhblbpapjeaa.Reg (On on_draw)
set_option maxHeartbeats 1000000
set_option maxRecDepth 100000
set_option linter.unusedVariables false
set_option linter.unusedSimpArgs false

def putAll : List Int → List Int → List Int
  | out, [] => out
  | out, x :: l => putAll (put out x) l
def nulsIFrom : List Int → List Fct → List Int
  | out, [] => out
  | out, f :: l => nulsIFrom (putAll out (nuls f.2)) l
def nulsI (fs : List Fct) : List Int := nulsIFrom [] fs
theorem putAll_step (out l : List Int) (k : Nat) (h : k < l.length) : putAll out (l.drop k) = putAll (put out l[k]) (l.drop (k + 1)) := by
  rw [List.drop_eq_getElem_cons h]; rfl
theorem nulsIFrom_step (out : List Int) (fs : List Fct) (k : Nat) (h : k < fs.length) : nulsIFrom out (fs.drop k) = nulsIFrom (putAll out (nuls fs[k].2)) (fs.drop (k + 1)) := by
  rw [List.drop_eq_getElem_cons h]; rfl
theorem nulsFrom_ok (out vs : List Int) (h : ∀ x ∈ out, 0 ≤ x ∧ x ≤ 39) : (∀ x ∈ nulsFrom out vs, 0 ≤ x ∧ x ≤ 39) ∧ (nulsFrom out vs).length ≤ out.length + vs.length := by
  induction vs generalizing out with
  | nil => exact ⟨h, by simp [nulsFrom]⟩
  | cons v vs ih =>
    unfold nulsFrom
    split
    · have h2 := ih (put out (nulNum v)) (fun x hx => by
        rcases put_mem hx with hx | rfl
        · exact h x hx
        · exact nulNum_bd v)
      have := put_length out (nulNum v)
      exact ⟨h2.1, by simp only [List.length_cons]; omega⟩
    · have h2 := ih out h
      exact ⟨h2.1, by simp only [List.length_cons]; omega⟩
theorem nuls_ok (vs : List Int) : (∀ x ∈ nuls vs, 0 ≤ x ∧ x ≤ 39) ∧ (nuls vs).length ≤ vs.length := by
  have := nulsFrom_ok [] vs (fun x hx => by cases hx)
  exact ⟨this.1, Nat.le_trans this.2 (by simp)⟩
theorem inR_of {xs : List Int} (h : ∀ x ∈ xs, 0 ≤ x ∧ x ≤ 39) : InR xs := fun x hx => by have := h x hx; omega
theorem sNullsOfInstance_calls (w : World) (A0 n0 c0 A1 c1) (fs : List Fct) (h1 : Fcts w A1 c1 fs) (hl : wF fs ≤ 10000000) : Calls Try.prog 13 #[.agg #[.slice A0 n0 c0, .slice A1 fs.length c1]] w (Got fun v' w' => OInts w' w.heap.size v' (nulsI fs) ∧ On w w') := by
  have hmax : fs.length ≤ 10000000 := by have := wF_len fs; omega
  go_enter Try.func13, Try.ntmps13
  go_wp2
  go_loopw [3, 4] (fun v3 v4 wr => ∃ (k : Nat) (out : List Int), k ≤ fs.length ∧ v4 = .int .i64 k ∧ Aside0 (OInts wr w.heap.size v3 out) ∧ Aside0 (nulsIFrom out (fs.drop k) = nulsI fs) ∧ Aside0 (out.length ≤ wF (fs.take k)) ∧ Aside0 (InR out) ∧ On w wr ∧ Loc wr [(w.heap.size, #[.slice A0 n0 c0, .slice A1 fs.length c1], 32)]) (fun _ v4 _ => fs.length - (intOf v4).toNat)
  case atStart => exact ⟨0, [], Nat.zero_le _, rfl, ⟨own0' (by simp) (by simp)⟩, ⟨rfl⟩, ⟨Nat.zero_le _⟩, ⟨fun x hx => by cases hx⟩, On.alloc (On.alloc (On.refl _) _) _, Loc.on (On.alloc (On.refl _) _) (loc1 _ _ _)⟩
  case round =>
    obtain ⟨k, out, hk, rfl, hO, hp, hlen, hR, hB, hL⟩ := hrel
    have hc0 := blk_cell hL.1
    have hL' := Aside0.mk hL
    clear hL
    by_cases hlt : k < fs.length
    · obtain ⟨ad, A3, c3, rfl, hx0, hx1, hx2'⟩ := (h1.on hB).at k hlt
      have hst := Aside0.mk ((nulsIFrom_step out fs k hlt).symm.trans hp.out)
      have hwt := Aside0.mk (wF_take fs k hlt)
      have hwl := Aside0.mk (show wF (fs.take (k + 1)) ≤ 10000000 by have h5 : wF (fs.take (k + 1)) ≤ wF fs := (by have := cF_take_le (lens fs) (k + 1); rw [cF_lens, ← List.map_take] at this; rw [← cF_lens]; exact this); omega)
      have hok := Aside0.mk (nuls_ok fs[k].2)
      clear hp
      go_wp2_with (go_at_call 56; refine (NullsOfFact_calls wr A3 c3 fs[k].1 fs[k].2 hx2' (by have := hwl.out; have := hwt.out; omega)).mono ?_; rintro e w2 ⟨v5, rfl, hO5, hb5⟩; obtain ⟨A5, c5, rfl, hI5⟩ := OInts.slice hO5 (inR_of hok.out.1); clear hO5)
      have hI := Aside0.mk hI5
      go_loopw [3, 6] (fun v3 v6 wq => ∃ (j : Nat) (out2 : List Int), j ≤ (nuls fs[k].2).length ∧ v6 = .int .i64 j ∧ Aside0 (OInts wq w.heap.size v3 out2) ∧ Aside0 (putAll out2 ((nuls fs[k].2).drop j) = putAll out (nuls fs[k].2)) ∧ Aside0 (out2.length ≤ out.length + j) ∧ Aside0 (InR out2) ∧ On w2 wq) (fun _ v6 _ => (nuls fs[k].2).length - (intOf v6).toNat)
      case atStart => exact ⟨0, out, Nat.zero_le _, rfl, ⟨OInts.on hO.out hb5⟩, ⟨rfl⟩, ⟨Nat.le_refl _⟩, hR, On.refl _⟩
      case round =>
        obtain ⟨j, out2, hj, rfl, hO2, hp2, hlen2, hR2, hB2⟩ := hrel
        by_cases hlt2 : j < (nuls fs[k].2).length
        · obtain ⟨ad5, rfl, hy⟩ := (hI.out.on hB2).at j hlt2
          have hjb := hok.out.1 _ (List.getElem_mem hlt2)
          have hst2 := Aside0.mk ((putAll_step out2 _ j hlt2).symm.trans hp2.out)
          have hjl : (nuls fs[k].2).length ≤ 10000000 := by have := hok.out.2; have := hwl.out; have := hwt.out; omega
          have hol : out2.length ≤ 5000000000 := by have := hlen2.out; have := hlen.out; have := hwl.out; have := hwt.out; omega
          clear hp2 hjb
          go_wp2_with (go_at_call 57; refine (l4Put_calls wr w.heap.size ((hB.trans hb5).trans hB2).size _ out2 (nuls fs[k].2)[j] hO2.out hR2.out hol).mono ?_; rintro e w4 ⟨v4, rfl, hO4, hb4⟩)
          have hjb := hok.out.1 _ (List.getElem_mem hlt2)
          exact ⟨⟨j + 1, _, by omega, by go_num, ⟨hO4⟩, hst2, ⟨by have := put_length out2 (nuls fs[k].2)[j]; have := hlen2.out; omega⟩, ⟨put_inR hR2.out (by omega) (by omega)⟩, hB2.trans hb4⟩, by simp [intOf]; omega⟩
        · have hp3 := Aside0.mk (show out2 = putAll out (nuls fs[k].2) by rw [← hp2.out, List.drop_of_length_le (by omega)]; rfl)
          clear hp2
          go_wp2
          exact ⟨⟨k + 1, out2, by omega, by go_num, hO2, ⟨by rw [hp3.out]; exact hst.out⟩, ⟨by have := hlen2.out; have := hlen.out; have := hwt.out; have := hok.out.2; omega⟩, hR2, (hB.trans hb5).trans hB2, Loc.on (hb5.trans hB2) hL'.out⟩, by simp [intOf]; omega⟩
    · have hp' := Aside0.mk hp.out
      clear hp
      go_wp2
      go_ret
      exact ⟨_, rfl, by have := hp'.out; rw [List.drop_of_length_le (by omega)] at this; rw [← this]; exact hO.out, hB⟩
end Go.Proofs.Ytngjhblbpapjeaa.H
