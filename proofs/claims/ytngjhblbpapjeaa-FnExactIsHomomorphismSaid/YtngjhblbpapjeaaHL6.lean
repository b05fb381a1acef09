/- Walks: the laws' own marks on relations and facts. No condition. -/
import Derived.Test.YtngjhblbpapjeaaHL5
namespace Go.Proofs.Ytngjhblbpapjeaa.H
open Go Go.RowKit Go.Proofs.YtngjhblbpapjeaaW.PrintWords Go.Proofs.YtngjhblbpapjeaaW.PrintLast
open Go.Proofs.Ytngjhblbpapjeaa.Reg (On on_draw)
set_option maxHeartbeats 1000000
set_option maxRecDepth 100000
set_option linter.unusedVariables false
set_option linter.unusedSimpArgs false

def mRel (k : Int) : Rel := (mText k, k + 1, (k + 2) % 3 == 0)
def markR (k : Int) : Nat → List Rel
  | 0 => []
  | n + 1 => mRel k :: markR (k + 3) n
theorem markR_len (k : Int) (n : Nat) : (markR k n).length = n := by
  induction n generalizing k with
  | zero => rfl
  | succ n ih => simp [markR, ih]
theorem markR_succ (k : Int) (n : Nat) : markR k (n + 1) = markR k n ++ [mRel (k + 3 * n)] := by
  induction n generalizing k with
  | zero => simp [markR]
  | succ n ih =>
    have h := ih (k + 3)
    rw [markR, h, markR, show k + 3 + 3 * (n : Int) = k + 3 * ((n + 1 : Nat) : Int) by omega]; rfl
theorem markR_at (k : Int) (n i : Nat) (h : i < (markR k n).length) : (markR k n)[i] = mRel (k + 3 * i) := by
  induction n generalizing k i with
  | zero => simp [markR] at h
  | succ n ih =>
    cases i with
    | zero => simp [markR]
    | succ i => simp only [markR, List.getElem_cons_succ]; rw [ih]; congr 1; omega
theorem own_ne_blk {w : World} {lo lo' e e' sz sz' n n' : Nat} {v v' : Value} {cs cs' : List Value} (h : w.ownsRow lo e sz v n cs) (h' : w.ownsRow lo' e' sz' v' n' cs') (hne : e ≠ e') {b : Nat} (hb : v.ownBlock = some b) : v'.ownBlock ≠ some b := fun hb' => by
  obtain ⟨c, hc⟩ := own_typed h b hb
  obtain ⟨c', hc'⟩ := own_typed h' b hb'
  rw [hc] at hc'
  injection hc' with hc'
  injection hc' with _ h3
  exact hne h3
theorem flatR_at {rs : List Rel} {i : Nat} (hi : i < rs.length) : (rs.flatMap encR)[i * 3]? = some (.string rs[i].1) ∧ (rs.flatMap encR)[i * 3 + 1]? = some (.int .i64 rs[i].2.1) ∧ (rs.flatMap encR)[i * 3 + 2]? = some (.bool rs[i].2.2) := by
  have e : rs.flatMap encR = (rs.take i).flatMap encR ++ encR rs[i] ++ (rs.drop (i + 1)).flatMap encR := by
    rw [← flat_take_succ rs i hi, ← List.flatMap_append, List.take_append_drop]
  have hl : ((rs.take i).flatMap encR).length = i * 3 := by rw [flat_len (enc := encR) (sz := 3) (fun _ => rfl), List.length_take, Nat.min_eq_left (by omega)]
  rw [e, List.append_assoc]
  refine ⟨?_, ?_, ?_⟩ <;> rw [List.getElem?_append_right (by omega), hl]
  · simp
  · rw [show i * 3 + 1 - i * 3 = 1 by omega]; rfl
  · rw [show i * 3 + 2 - i * 3 = 2 by omega]; rfl
theorem flatH_at {hs : List Hdr} {i : Nat} (hi : i < hs.length) : (hs.flatMap encH)[i * 2]? = some (.int .i64 hs[i].1) ∧ (hs.flatMap encH)[i * 2 + 1]? = some (hdV hs[i]) := by
  have e : hs.flatMap encH = (hs.take i).flatMap encH ++ encH hs[i] ++ (hs.drop (i + 1)).flatMap encH := by
    rw [← flat_take_succ hs i hi, ← List.flatMap_append, List.take_append_drop]
  have hl : ((hs.take i).flatMap encH).length = i * 2 := by rw [flat_len (enc := encH) (sz := 2) (fun _ => rfl), List.length_take, Nat.min_eq_left (by omega)]
  rw [e, List.append_assoc]
  refine ⟨?_, ?_⟩ <;> rw [List.getElem?_append_right (by omega), hl]
  · simp
  · rw [show i * 2 + 1 - i * 2 = 1 by omega]; rfl
theorem flatH_set0 (hs : List Hdr) (i : Nat) (hi : i < hs.length) (x : Int) : (hs.flatMap encH).set (i * 2) (.int .i64 x) = (hs.set i (x, hs[i].2)).flatMap encH := by
  have e : hs.flatMap encH = (hs.take i).flatMap encH ++ encH hs[i] ++ (hs.drop (i + 1)).flatMap encH := by
    rw [← flat_take_succ hs i hi, ← List.flatMap_append, List.take_append_drop]
  have hl : ((hs.take i).flatMap encH).length = i * 2 := by rw [flat_len (enc := encH) (sz := 2) (fun _ => rfl), List.length_take, Nat.min_eq_left (by omega)]
  rw [e, List.append_assoc, show encH hs[i] ++ (hs.drop (i + 1)).flatMap encH = .int .i64 hs[i].1 :: hdV hs[i] :: (hs.drop (i + 1)).flatMap encH from rfl, set1 _ hl]
  rw [List.set_eq_take_append_cons_drop, if_pos hi, List.flatMap_append, List.flatMap_cons]
  rfl
theorem markRelationS_calls (w : World) (lo : Nat) (v : Value) (rs : List Rel) (k0 : Int) (h : OR w lo v rs) (h0 : 1 ≤ k0) (h1 : k0 + 3 * rs.length ≤ 10000000) : Calls Try.prog 63 #[v, .int .i64 k0] w fun e w' => e = .returned (.int .i64 (k0 + 3 * rs.length)) ∧ OR w' lo v (markR k0 rs.length) ∧ Ex (fun b => some b = v.ownBlock) w w' := by
  rcases h.2 with ⟨rfl, hn⟩ | ⟨g, c, cur, rfl, hg⟩
  · obtain rfl : rs = [] := List.eq_nil_of_length_eq_zero hn
    go_enter Try.func63, Try.ntmps63
    go_wp2
    go_loop [5, 1] (fun v5 v1 => v5 = .int .i64 0 ∧ v1 = .int .i64 k0) (fun v _ => 0)
    case atStart => exact ⟨rfl, rfl⟩
    case round =>
      obtain ⟨rfl, rfl⟩ := hrel
      go_wp2
      go_ret
      exact ⟨by simp, h, Ex.refl _ _⟩
  · clear hg
    have h' := Aside0.mk h
    clear h
    go_enter Try.func63, Try.ntmps63
    go_wp2
    go_loopw [5, 1] (fun v5 v1 wr => ∃ (k : Nat) (cs : List Value), k ≤ rs.length ∧ v5 = .int .i64 k ∧ v1 = .int .i64 (k0 + 3 * k) ∧ Aside0 (wr.ownsRow lo 87 3 (.slice (some ⟨g, 0, none⟩) rs.length c) rs.length ((markR k0 k).flatMap encR ++ cs)) ∧ Ex (fun b => some b = some g) w wr) (fun v5 _ _ => rs.length - (intOf v5).toNat)
    case atStart => exact ⟨0, rs.flatMap encR, Nat.zero_le _, rfl, by simp, h', Ex.refl _ _⟩
    case round =>
      obtain ⟨k, cs, hk, rfl, rfl, hO, hE⟩ := hrel
      have hO2 := hO
      clear hO
      by_cases hlt : k < rs.length
      · have hcl := Aside0.mk (show 3 ≤ cs.length by have := hO2.out.1; rw [List.length_append, flat_len (enc := encR) (sz := 3) (fun _ => rfl), markR_len] at this; omega)
        have hw1 : IntKind.i64.wrap (k0 + 3 * (k : Int) + 1) = k0 + 3 * k + 1 := by rw [IntWalk.i64_in _ (by omega)]
        have hw2 : IntKind.i64.wrap (k0 + 3 * (k : Int) + 1 + 1) = k0 + 3 * k + 2 := by rw [IntWalk.i64_in _ (by omega)]; omega
        have hw3 : IntKind.i64.wrap (k0 + 3 * (k : Int) + 2 + 1) = k0 + 3 * ((k + 1 : Nat) : Int) := by rw [IntWalk.i64_in _ (by omega)]; omega
        go_wp2_with (go_at_call 106; refine (markText_calls wr (k0 + 3 * k) (by omega) (by omega)).mono ?_; rintro e w2 ⟨rfl, hb2⟩; have hO3 := Aside0.mk (pw_own_below hO2.out hb2); have hfz := own_frozen hO3.out (k * 3); have hfz1 := own_frozen hO3.out (k * 3 + 1); have hfz2 := own_frozen hO3.out (k * 3 + 2); obtain ⟨z, hz⟩ := own_some hO3.out (k * 3) (by omega); obtain ⟨z1, hz1⟩ := own_some hO3.out (k * 3 + 1) (by omega); obtain ⟨z2, hz2⟩ := own_some hO3.out (k * 3 + 2) (by omega))
        obtain ⟨z0, z1, z2, hcs⟩ := split3 (cs := cs) (i := 0) (by have := hcl.out; omega)
        simp only [List.take_zero, List.nil_append, Nat.zero_add] at hcs
        refine ⟨⟨k + 1, cs.drop 3, by omega, by go_num, by rfl, ⟨?_⟩, (((hE.then_on hb2).trans (Ex.set _ _ _) (fun i _ e => by rw [e])).trans (Ex.set _ _ _) (fun i _ e => by rw [e])).trans (Ex.set _ _ _) (fun i _ e => by rw [e])⟩, by simp [intOf]; omega⟩
        have := ((hO3.out.stored (k * 3) (.string (mText (k0 + 3 * k)))).1.stored (k * 3 + 1) (.int .i64 (k0 + 3 * k + 1))).1.stored (k * 3 + 2) (.bool ((k0 + 3 * k + 2) % 3 == 0)) |>.1
        rw [hcs, set3 (k * 3) (by rw [flat_len (enc := encR) (sz := 3) (fun _ => rfl), markR_len])] at this
        rw [markR_succ, List.flatMap_append, List.append_assoc]
        exact this
      · go_wp2
        go_ret
        obtain rfl : k = rs.length := by omega
        have h1 := hO2.out
        have h2 := h1.1
        have h3 : cs = [] := by
          rw [List.length_append, flat_len (enc := encR) (sz := 3) (fun _ => rfl), markR_len] at h2
          exact List.eq_nil_of_length_eq_zero (by omega)
        subst h3
        rw [List.append_nil] at h1
        refine ⟨rfl, ?_, hE⟩
        show World.ownsRow _ _ _ _ _ (markR k0 rs.length).length _
        rw [markR_len]
        exact h1
theorem heldRelationS_calls (w : World) (A c) (n : Nat) (k0 : Int) (h : Rels w A c (markR k0 n)) (h0 : 1 ≤ k0) (h1 : k0 + 3 * n ≤ 10000000) : Calls Try.prog 70 #[.slice A n c, .int .i64 k0] w fun e w' => e = .returned (.int .i64 (k0 + 3 * n)) ∧ On w w' := by
  have hl := markR_len k0 n
  go_enter Try.func70, Try.ntmps70
  go_wp2
  go_loopw [5, 1] (fun v5 v1 wr => ∃ k : Nat, k ≤ n ∧ v5 = .int .i64 k ∧ v1 = .int .i64 (k0 + 3 * k) ∧ On w wr) (fun v5 _ _ => n - (intOf v5).toNat)
  case atStart => exact ⟨0, Nat.zero_le _, rfl, by simp, On.refl _⟩
  case round =>
    obtain ⟨k, hk, rfl, rfl, hB⟩ := hrel
    by_cases hlt : k < n
    · obtain ⟨ad, rfl, hx0, hx1, hx2⟩ := (h.on hB).at k (by rw [hl]; exact hlt)
      rw [markR_at] at hx0 hx1 hx2
      have hw1 : IntKind.i64.wrap (k0 + 3 * (k : Int) + 1) = k0 + 3 * k + 1 := by rw [IntWalk.i64_in _ (by omega)]
      have hw2 : IntKind.i64.wrap (k0 + 3 * (k : Int) + 1 + 1) = k0 + 3 * k + 2 := by rw [IntWalk.i64_in _ (by omega)]; omega
      have hw3 : IntKind.i64.wrap (k0 + 3 * (k : Int) + 2 + 1) = k0 + 3 * ((k + 1 : Nat) : Int) := by rw [IntWalk.i64_in _ (by omega)]; omega
      replace hx0 : wr.cell? (ad.add (k * 3)) = some (.string (mText (k0 + 3 * k))) := hx0
      replace hx1 : wr.cell? ⟨(ad.add (k * 3)).block, (ad.add (k * 3)).off + 1, none⟩ = some (.int .i64 (k0 + 3 * k + 1)) := hx1
      replace hx2 : wr.cell? ⟨(ad.add (k * 3)).block, (ad.add (k * 3)).off + 2, none⟩ = some (.bool ((k0 + 3 * k + 2) % 3 == 0)) := hx2
      go_wp2
      refine Reg.region [(0,.L),(1,.L),(2,.L),(3,.L),(4,.L),(5,.L),(6,.C),(7,.L)] [] (by kernel_rfl) (by kernel_rfl) ?_
      repeat first | refine sP ?_ | refine sS ?_ | refine sA ?_ | refine sL ?_ | refine sQ ?_ | refine sO ?_
      refine callC (.string (mText (k0 + 3 * k))) Try.func106 (fun w' hS => ?_) ?_
      focus exact markText_calls w' (k0 + 3 * k) (by omega) (by omega)
      repeat first | refine sP ?_ | refine sS ?_ | refine sA ?_ | refine sL ?_ | refine sQ ?_ | refine sO ?_
      refine Reg.nil fun w2 hS => ?_
      have hx1' := (hS.eq _ (by rw [hx1]; rfl)).trans hx1
      have hx2' := (hS.eq _ (by rw [hx2]; rfl)).trans hx2
      go_wp2
      go_roundw
      case rel => exact ⟨k + 1, by omega, by go_num, rfl, hB.trans hS⟩
      case measure => simp [intOf]; omega
    · go_wp2
      go_ret
      exact ⟨ret_int (by omega), hB⟩
end Go.Proofs.Ytngjhblbpapjeaa.H
