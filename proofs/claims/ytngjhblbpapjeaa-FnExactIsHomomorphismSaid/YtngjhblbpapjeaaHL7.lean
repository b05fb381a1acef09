/- Walks: the laws' own marks on facts and instances. No condition. -/
import Derived.Test.YtngjhblbpapjeaaHL6
namespace Go.Proofs.Ytngjhblbpapjeaa.H
open Go Go.RowKit Go.Proofs.YtngjhblbpapjeaaW.PrintWords Go.Proofs.YtngjhblbpapjeaaW.PrintLast
open Go.Proofs.Ytngjhblbpapjeaa.Reg (On on_draw)
set_option maxHeartbeats 1000000
set_option maxRecDepth 100000
set_option linter.unusedVariables false
set_option linter.unusedSimpArgs false

def markF (k : Int) : List Nat → List Fct
  | [] => []
  | m :: l => (k, markI (k + 1) m) :: markF (k + 1 + m) l
def cF (l : List Nat) : Nat := (l.map (· + 1)).sum
theorem markF_len (k : Int) (l : List Nat) : (markF k l).length = l.length := by
  induction l generalizing k with
  | nil => rfl
  | cons m l ih => simp [markF, ih]
theorem cF_snoc (l : List Nat) (m : Nat) : cF (l ++ [m]) = cF l + (m + 1) := by simp [cF]
theorem markF_snoc (k : Int) (l : List Nat) (m : Nat) : markF k (l ++ [m]) = markF k l ++ [(k + cF l, markI (k + cF l + 1) m)] := by
  induction l generalizing k with
  | nil => simp [markF, cF]
  | cons a l ih =>
    have h := ih (k + 1 + a)
    have e : k + 1 + (a : Int) + cF l = k + cF (a :: l) := by simp [cF]; omega
    rw [List.cons_append, markF, h, markF, e]; rfl
theorem cF_take_le (l : List Nat) (k : Nat) : cF (l.take k) ≤ cF l := by
  conv => rhs; rw [← List.take_append_drop k l]
  simp only [cF, List.map_append, List.sum_append]; omega
abbrev lens (fs : List Fct) : List Nat := fs.map fun f => f.2.length
theorem cF_lens (fs : List Fct) : cF (lens fs) = wF fs := by simp [cF, lens, wF, Function.comp_def]
theorem wF_len (fs : List Fct) : fs.length ≤ wF fs := by
  unfold wF
  induction fs with
  | nil => simp
  | cons f fs ih => simp at ih ⊢; omega
theorem Sep.ne_row {W : World} {lo lo' : Nat} {hs hs' : List Hdr} {fs : List Fct} {vf : Value} (h : Sep W lo hs fs) (hO : OH W lo' vf hs') {i b : Nat} {a : Hdr} (ha : hs[i]? = some a) (hb : (hdV a).ownBlock = some b) : vf.ownBlock ≠ some b := by
  have hi : i < fs.length := by rw [← h.len]; exact (List.getElem?_eq_some_iff.1 ha).1
  exact own_ne_blk (h.at_ i a fs[i] ha (List.getElem?_eq_getElem hi)).2.1 hO (by decide) hb
theorem set_hdr {hs : List Hdr} {i : Nat} (hi : i < hs.length) {x : Int} {j : Nat} {a : Hdr} (ha : (hs.set i (x, hs[i].2))[j]? = some a) : ∃ a', hs[j]? = some a' ∧ hdV a' = hdV a := by
  by_cases e : i = j
  · subst e
    rw [List.getElem?_set_self hi] at ha
    injection ha with ha; subst ha
    exact ⟨hs[i], List.getElem?_eq_getElem hi, rfl⟩
  · rw [List.getElem?_set_ne e] at ha
    exact ⟨a, ha, rfl⟩
/-- One fact's number and row are written anew. -/
theorem Sep.upd {W w : World} {lo : Nat} {hs : List Hdr} {fs : List Fct} (h : Sep W lo hs fs) {i : Nat} (hi : i < hs.length) {x : Int} {ys : List Int} (hw : ∀ (j : Nat) (a : Hdr) (b : Nat), j ≠ i → hs[j]? = some a → (hdV a).ownBlock = some b → w.heap[b]? = W.heap[b]?) (hO : OI w lo (hdV hs[i]) ys) (hR : InR ys) : Sep w lo (hs.set i (x, hs[i].2)) (fs.set i (x, ys)) := by
  refine ⟨by simp [h.len], fun j a f ha hf => ?_, fun j j' a b k ha hb h1 h2 => ?_⟩
  · by_cases e : i = j
    · subst e
      rw [List.getElem?_set_self hi] at ha
      rw [List.getElem?_set_self (by rw [← h.len]; exact hi)] at hf
      injection ha with ha; injection hf with hf; subst ha hf
      exact ⟨rfl, hO, hR⟩
    · rw [List.getElem?_set_ne e] at ha hf
      obtain ⟨h1, h2, h3⟩ := h.at_ j a f ha hf
      exact ⟨h1, own_move h2 fun b hb => hw j a b (Ne.symm e) ha hb, h3⟩
  · obtain ⟨a', ha', e1⟩ := set_hdr hi ha
    obtain ⟨b', hb', e2⟩ := set_hdr hi hb
    exact h.apart j j' a' b' k ha' hb' (by rw [e1]; exact h1) (by rw [e2]; exact h2)
/-- The blocks that a row of facts owns. -/
def FB (v : Value) (hs : List Hdr) (b : Nat) : Prop := some b = v.ownBlock ∨ ∃ (i : Nat) (a : Hdr), hs[i]? = some a ∧ some b = (hdV a).ownBlock
theorem FB.set {v : Value} {hs : List Hdr} {i : Nat} (hi : i < hs.length) {x : Int} {b : Nat} (h : FB v (hs.set i (x, hs[i].2)) b) : FB v hs b := by
  rcases h with h | ⟨j, a, ha, h⟩
  · exact .inl h
  · obtain ⟨a', ha', e⟩ := set_hdr hi ha
    exact .inr ⟨j, a', ha', by rw [e]; exact h⟩
theorem set_mid {α : Type} (P r : List α) (f y : α) (i : Nat) (hi : P.length = i) : (P ++ f :: r).set i y = P ++ y :: r := by subst hi; simp
theorem markFactS_calls (w : World) (lo lo2 : Nat) (v : Value) (hs : List Hdr) (fs : List Fct) (k0 : Int) (h : OH w lo2 v hs) (hS : Sep w lo hs fs) (h0 : 0 ≤ k0) (h1 : k0 + wF fs ≤ 10000000) : Calls Try.prog 64 #[v, .int .i64 k0] w fun e w' => e = .returned (.int .i64 (k0 + wF fs)) ∧ (∃ hs', OH w' lo2 v hs' ∧ Sep w' lo hs' (markF k0 (lens fs)) ∧ ∀ b, FB v hs' b → FB v hs b) ∧ Ex (FB v hs) w w' := by
  have hlen := hS.len
  rcases h.2 with ⟨rfl, hn⟩ | ⟨g, c, cur, rfl, hg⟩
  · obtain rfl : hs = [] := List.eq_nil_of_length_eq_zero hn
    obtain rfl : fs = [] := List.eq_nil_of_length_eq_zero hlen.symm
    go_enter Try.func64, Try.ntmps64
    go_wp2
    go_loop [5, 1] (fun v5 v1 => v5 = .int .i64 0 ∧ v1 = .int .i64 k0) (fun v _ => 0)
    case atStart => exact ⟨rfl, rfl⟩
    case round =>
      obtain ⟨rfl, rfl⟩ := hrel
      go_wp2
      go_ret
      exact ⟨by simp [wF], ⟨[], h, hS, fun _ h => h⟩, Ex.refl _ _⟩
  · clear hg
    have h' := Aside0.mk h
    have hS' := Aside0.mk hS
    clear h hS
    have hlen' := Aside0.mk hlen
    have hlmax : hs.length ≤ 10000000 := by have : fs.length ≤ wF fs := wF_len fs; omega
    clear hlen
    go_enter Try.func64, Try.ntmps64
    go_wp2
    go_loopw [5, 1] (fun v5 v1 wr => ∃ (k : Nat) (hs' : List Hdr), k ≤ hs.length ∧ v5 = .int .i64 k ∧ v1 = .int .i64 (k0 + cF ((lens fs).take k)) ∧ Aside0 (hs'.length = hs.length) ∧ Aside0 (OH wr lo2 (.slice (some ⟨g, 0, none⟩) hs.length c) hs') ∧ Aside0 (Sep wr lo hs' (markF k0 ((lens fs).take k) ++ fs.drop k)) ∧ Aside0 (∀ b, FB (.slice (some ⟨g, 0, none⟩) hs.length c) hs' b → FB (.slice (some ⟨g, 0, none⟩) hs.length c) hs b) ∧ Aside0 (Ex (FB (.slice (some ⟨g, 0, none⟩) hs.length c) hs) w wr)) (fun v5 _ _ => hs.length - (intOf v5).toNat)
    case atStart => exact ⟨0, hs, Nat.zero_le _, rfl, by simp [cF], ⟨rfl⟩, h', by simpa [markF] using hS', ⟨fun _ h => h⟩, ⟨Ex.refl _ _⟩⟩
    case round =>
      obtain ⟨k, hs', hk, rfl, rfl, hl, hO, hS, hF, hE⟩ := hrel
      have hO2 := hO
      clear hO
      obtain ⟨m, hm⟩ : ∃ m : Int, k0 + cF ((lens fs).take k) = m := ⟨_, rfl⟩
      by_cases hlt : k < hs.length
      · have hk1 : k < hs'.length := by rw [hl.out]; exact hlt
        have hkf : k < fs.length := by rw [← hlen'.out]; exact hlt
        have hcm := Aside0.mk (show cF ((lens fs).take (k + 1)) = cF ((lens fs).take k) + (fs[k].2.length + 1) by rw [List.take_succ_eq_append_getElem (by simpa using hkf), cF_snoc]; simp)
        have hle := Aside0.mk (show k0 + cF ((lens fs).take (k + 1)) ≤ 10000000 by have := cF_take_le (lens fs) (k + 1); rw [cF_lens] at this; omega)
        have hm0 := Aside0.mk (show 0 ≤ m ∧ m + 1 + fs[k].2.length ≤ 10000000 by have := hle.out; rw [hcm.out] at this; omega)
        have hO3 := Aside0.mk (show wr.ownsRow lo2 55 2 (.slice (some ⟨g, 0, none⟩) hs.length c) hs.length (hs'.flatMap encH) by have := hO2.out; unfold OH at this; rw [hl.out] at this; exact this)
        have hfz := own_frozen hO3.out (k * 2)
        obtain ⟨hz0, hz1⟩ := flatH_at hk1
        have hz2 := (hO3.out.cellAt (k * 2) (by omega)).trans hz0
        have hz3 := (hO3.out.cellAt (k * 2 + 1) (by omega)).trans hz1
        clear hz0 hz1
        obtain ⟨A1, n1, c1, hA⟩ : ∃ A n c, hdV hs'[k] = .slice A n c := ⟨_, _, _, rfl⟩
        rw [hA] at hz3
        have hw1 : IntKind.i64.wrap (m + 1) = m + 1 := by have := hm0.out; rw [IntWalk.i64_in _ (by omega)]
        have hFk : (markF k0 ((lens fs).take k) ++ fs.drop k)[k]? = some fs[k] := by
          rw [List.getElem?_append_right (by rw [markF_len, List.length_take]; omega), markF_len, List.length_take, List.getElem?_drop]
          simp only [lens, List.length_map, Nat.min_eq_left (show k ≤ fs.length by omega), Nat.sub_self, Nat.add_zero]
          exact List.getElem?_eq_getElem hkf
        have hOk := Aside0.mk (own_ex (hS.out.at_ k hs'[k] fs[k] (List.getElem?_eq_getElem hk1) hFk).2.1 (Ex.set wr ⟨g, k * 2, none⟩ (.int .i64 m)) (fun b hb e => hS.out.ne_row hO2.out (List.getElem?_eq_getElem hk1) hb (by rw [e]; rfl)))
        clear hFk
        rw [hA] at hOk
        have hA' := Aside0.mk hA
        clear hA
        rw [hm]
        go_wp2_with (go_at_call 19; refine (markIntS_calls _ lo _ fs[k].2 (m + 1) hOk.out (by have := hm0.out; omega) (by have := hm0.out; omega)).mono ?_; rintro e w2 ⟨rfl, hO5, hE5⟩; have hO6 := Aside0.mk hO5; have hE6 := Aside0.mk hE5; clear hO5 hE5)
        have hne : ∀ b, some b = (hdV hs'[k]).ownBlock → b ≠ g := fun b hb e => hS.out.ne_row hO2.out (List.getElem?_eq_getElem hk1) hb.symm (by rw [e]; rfl)
        have hE7 := hE6.out
        rw [← hA'.out] at hE7
        have hO7 := hO6.out
        rw [← hA'.out] at hO7
        have hS7 := Sep.upd (w := w2) (x := m) (ys := markI (m + 1) fs[k].2.length) hS.out hk1 (fun j a b hj ha hb => by
          have hb1 : b ≠ g := fun e => hS.out.ne_row hO2.out ha hb (by rw [e]; rfl)
          have hb2 : b < wr.heap.size := (hS.out.lt ha hb).2
          rw [hE7.block b (by simpa [World.setCell] using hb2) (fun e => hj (hS.out.apart j k a hs'[k] b ha (List.getElem?_eq_getElem hk1) hb e.symm))]
          exact Below.heap_setCell wr ⟨g, k * 2, none⟩ _ b hb1) hO7 (markI_inR _ _ (by have := hm0.out; omega) (by have := hm0.out; omega))
        refine ⟨⟨k + 1, hs'.set k (m, hs'[k].2), by omega, by go_num, ?_, ⟨by rw [List.length_set]; exact hl.out⟩, ⟨?_⟩, ⟨?_⟩, ⟨fun b hb => hF.out b (FB.set hk1 hb)⟩, ⟨(hE.out.trans (Ex.set wr _ _) (fun i _ e => .inl (by rw [e]; rfl))).trans hE7 (fun i _ e => hF.out i (.inr ⟨k, hs'[k], List.getElem?_eq_getElem hk1, e⟩))⟩⟩, by simp [intOf]; omega⟩
        · have h1 := hcm.out
          congr 1
          rw [h1]; omega
        · have h1 := (hO3.out.stored (k * 2) (.int .i64 m)).1
          rw [flatH_set0 hs' k hk1 m] at h1
          have h2 := own_ex h1 hE7 (fun b hb e => hne b e (by injection hb with hb; exact hb.symm))
          show World.ownsRow _ _ _ _ _ (hs'.set k (m, hs'[k].2)).length _
          rw [List.length_set, hl.out]
          exact h2
        · have e1 : (lens fs).take (k + 1) = (lens fs).take k ++ [fs[k].2.length] := by rw [List.take_succ_eq_append_getElem (by simpa using hkf)]; simp
          rw [List.drop_eq_getElem_cons hkf, set_mid _ _ _ _ k (by rw [markF_len, List.length_take]; simp; omega)] at hS7
          rw [e1, markF_snoc, hm, List.append_assoc]
          exact hS7
      · go_wp2
        go_ret
        obtain rfl : k = hs.length := by omega
        have e1 : (lens fs).take hs.length = lens fs := List.take_of_length_le (by simp [hlen'.out])
        have e2 : fs.drop hs.length = [] := List.drop_of_length_le (by rw [hlen'.out]; exact Nat.le_refl _)
        refine ⟨?_, ⟨hs', hO2.out, ?_, hF.out⟩, hE.out⟩
        · show Ending.returned (.int .i64 _) = _
          rw [e1, cF_lens]
        · have := hS.out
          rw [e1, e2, List.append_nil] at this
          exact this
end Go.Proofs.Ytngjhblbpapjeaa.H
