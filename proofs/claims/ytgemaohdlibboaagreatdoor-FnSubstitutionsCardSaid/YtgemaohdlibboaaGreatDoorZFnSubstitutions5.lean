/- Walks and plain laws for the law FnSubstitutions, part 5 of 7: the texts HF3, HF4, HF5, HF6, HT1, HG1, HRegG, HG2, HG3, HG6, HG16, HG17, HT4, HG5, HG22, HRegH, HF7, HF8, HG23 in one. No condition. -/
import Derived.BigQuiet
import Derived.Lib.IndexBytes
import Derived.Test.YtgemaohdlibboaaGreatDoorZFnSubstitutions4
/- Rows of strings: read, of one's own, appended to, joined, cut out of a text. No condition. -/
namespace Go.Proofs.YtgemaohdlibboaaGreatDoor.H
open Go Go.RowKit Go.Proofs.YtgemaohdlibboaaGreatDoorW.PrintWords Go.Proofs.YtgemaohdlibboaaGreatDoorW.PrintLast
open Go.Proofs.YtgemaohdlibboaaGreatDoor.Reg (On on_draw)
set_option maxHeartbeats 4000000
set_option maxRecDepth 100000
set_option linter.unusedVariables false
set_option linter.unusedSimpArgs false

abbrev encS (x : List UInt8) : List Value := [.string (strB x)]
/-- A row of strings that is read. -/
structure Strs (w : World) (A : Option Addr) (c : Nat) (ss : List (List UInt8)) : Prop where
  cap : ss.length ≤ c
  max : ss.length ≤ 9223372036854775807
  cell : ∀ j, (hj : j < ss.length) → ∃ ad, A = some ad ∧ w.cell? (ad.add j) = some (.string (strB ss[j]))
theorem Strs.on {W w : World} {A : Option Addr} {c : Nat} {ss : List (List UInt8)} (h : Strs W A c ss) (hb : On W w) : Strs w A c ss := ⟨h.cap, h.max, fun j hj => by
  obtain ⟨ad, e, hc⟩ := h.cell j hj
  exact ⟨ad, e, (hb.eq _ (by rw [hc]; rfl)).trans hc⟩⟩
abbrev OSt (w : World) (lo : Nat) (v : Value) (ss : List (List UInt8)) : Prop := w.ownsRow lo 9 1 v ss.length (ss.flatMap encS)
theorem OSt.slice {w : World} {lo : Nat} {v : Value} {ss : List (List UInt8)} (h : OSt w lo v ss) : ∃ A c, v = .slice A ss.length c ∧ Strs w A c ss := by
  obtain ⟨A, c, rfl⟩ := own_slice h
  obtain ⟨h1, h2⟩ := own_capmax h
  refine ⟨A, c, rfl, h1, h2, fun j hj => ?_⟩
  have hg : (ss.flatMap encS)[j]? = some (.string (strB ss[j])) := by
    have := flat_get (enc := encS) (sz := 1) (fun _ => rfl) ss j 0 hj (by omega)
    rw [Nat.mul_one, Nat.add_zero] at this
    rw [this]; rfl
  rcases h.2 with ⟨h1, h3⟩ | ⟨g, cap, cur, h1, _⟩
  · omega
  · injection h1 with h1 h5 h6
    subst h1
    exact ⟨_, rfl, h.cells rfl j _ hg⟩
theorem OSt.same {w : World} {lo c n : Nat} {A : Option Addr} {ss : List (List UInt8)} (h : OSt w lo (.slice A n c) ss) : n = ss.length ∧ Strs w A c ss := by
  obtain ⟨A', c', e, h'⟩ := OSt.slice h
  injection e with e1 e2 e3
  subst e1 e3
  exact ⟨e2, h'⟩
theorem infoS : (Tryz.prog.info? 9).map (fun i => (i.zero, i.size, i.bytes)) = some (some (.string ⟨#[]⟩), 1, 16) := by kernel_rfl
section
variable {ops : Array Oper} {rest : List Oper} {o : Oper} {a : Act} {Q : Exit → Act → World → Prop} {W : World}
/-- append of a string onto strings of one's own. -/
theorem apS1 (N : Tmp) {s x : Operand} {v : Value} {g base : Nat} {xs zs : List (List UInt8)} {y : List UInt8} (hz : xs ++ [y] = zs)
    (HO : OSt W base v xs) (HR : W.cell? ⟨g, 0, none⟩ = some (.string (strB y))) (hbase : base ≤ W.heap.size) (hl : xs.length ≤ 10000000)
    (h : ∀ v1 w1, OSt w1 base v1 zs → W.grownBy w1 v.ownBlock → wpList Tryz.prog ops Q rest (a.put (some N) v1) w1)
    (hop : o.op = .call { callee := .builtin .append, args := #[s, x], argTypes := #[77, 77] } := by rfl)
    (hd : o.dst = some N := by rfl) (hg : o.guard = none := by rfl) (hs : a.eval s = v := by rfl) (hx : a.eval x = .slice (some ⟨g, 0, none⟩) 1 1 := by rfl) : wpList Tryz.prog ops Q (o :: rest) a W := by
  subst hz
  obtain ⟨i0, hi, hzz⟩ := Option.map_eq_some_iff.1 infoS
  simp only [Prod.mk.injEq] at hzz
  obtain ⟨hz0, hz1, hz2⟩ := hzz
  refine wpList_append_own_at W hg s x 77 hop base 9 i0 _ 1 16 Tryz.underlying77 hi hz0 hz1 hz2 rfl (by omega) v xs.length _ hs HO ⟨g, 0, none⟩ 1 1 (encS y) hx rfl (fun j u hu => ?_) (fun u hu => ?_) (by simp [maxLen]; omega) (by omega) hbase fun v1 w1 h1 h2 _ _ => ?_
  · have hj : j = 0 := by have := (List.getElem?_eq_some_iff.1 hu).1; simp at this; omega
    subst hj
    simp at hu
    subst hu
    exact HR
  · simp only [List.mem_cons, List.not_mem_nil, or_false] at hu
    subst hu
    rfl
  · rw [hd]
    refine h v1 w1 ?_ h2
    show World.ownsRow _ _ _ _ _ (xs ++ [y]).length _
    rw [show (xs ++ [y]).flatMap encS = xs.flatMap encS ++ encS y by simp, List.length_append]
    exact h1
end
section
variable {ops : Array Oper} {rest : List Oper} {o : Oper} {a : Act} {Q : Exit → Act → World → Prop} {W : World}
/-- A literal of one string. -/
theorem litS1 (N : Tmp) {y : List UInt8} (h : wpList Tryz.prog ops Q rest (a.put (some N) (.slice (some ⟨W.heap.size, 0, none⟩) 1 1)) (W.alloc (.cells #[.string (strB y)] 9 (0, 0))))
    (hd : o.dst = some N := by rfl) (hg : o.guard = none := by rfl) (hr : (execOp a.eval o).run Tryz.prog W = .ok (.value (.slice (some ⟨W.heap.size, 0, none⟩) 1 1)) (W.alloc (.cells #[.string (strB y)] 9 (0, 0))) := by first | (go_simp; done) | (go_simp; rfl)) : wpList Tryz.prog ops Q (o :: rest) a W :=
  Kd.event_run hg hr (by rw [hd]; exact h)
end
/-- A string of a text cut out, laid into a row. -/
theorem lit_S (w : World) (y : List UInt8) : (w.alloc (.cells #[.string (strB y)] 9 (0, 0))).cell? ⟨w.heap.size, 0, none⟩ = some (.string (strB y)) := by
  have := blk_cell (loc_new w #[.string (strB y)] 9) 0
  rw [this]; rfl
theorem ownS0 {W : World} {g lo : Nat} (hg : g = W.heap.size) (hlo : lo ≤ W.heap.size) : OSt (W.alloc (.cells #[] 9 (0, 0))) lo (.slice (some ⟨g, 0, none⟩) 0 0) [] := by
  subst hg
  exact own_lower (World.ownsRow_lit (base := W.heap.size) (e := 9) (size := 1) W #[] 0 (Nat.le_refl _) (by simp [maxLen]) (by simp)) hlo
theorem Join_calls (w : World) (A : Option Addr) (c : Nat) (ss : List (List UInt8)) (s : List UInt8) (h : Strs w A c ss) (hl : ss.length ≤ 1000000) (hb : (Lib.join ss s).length ≤ 1000000000) :
    Calls Tryz.prog 65 #[.slice A ss.length c, .string (strB s)] w fun e w' => e = .returned (.string (strB (Lib.join ss s))) ∧ On w w' := by
  by_cases hz : ss.length = 0
  · obtain rfl : ss = [] := List.eq_nil_of_length_eq_zero hz
    exact (Tryz.strings_Join_none A c (strB s) w).mono fun e w' ⟨he, hw⟩ => by subst hw; exact ⟨by rw [he, join_nil']; rfl, On.refl _⟩
  · obtain ⟨ad, rfl, h0⟩ := h.cell 0 (by omega)
    have hs : ad.spot = none := by
      cases hsp : ad.spot with
      | none => rfl
      | some q =>
        exfalso
        have e0 : ad.add 0 = ad := by unfold Addr.add; rw [if_pos rfl]
        rw [e0] at h0
        unfold World.cell? at h0
        split at h0
        · rw [hsp] at h0; simp at h0
        · cases h0
    obtain ⟨b, o, sp⟩ := ad
    obtain rfl : sp = none := hs
    have hbk : b < w.heap.size := by
      have := World.block_lt_of_cell? w _ h0
      unfold Addr.add at this
      simpa using this
    have hm : (ss.map strB).map (fun x : ByteArray => x.data.toList) = ss := by
      rw [List.map_map]
      conv => rhs; rw [← List.map_id ss]
      exact List.map_congr_left (fun x _ => strB_data x)
    have key := Tryz.strings_Join b o c (ss.map strB) (strB s) w (fun j y hj => ?_) hbk (by simp; omega) (by simpa using h.cap) (by rw [hm, strB_data]; omega)
    · rw [hm, strB_data, List.length_map] at key
      exact key
    · rw [List.getElem?_map] at hj
      obtain ⟨x, hx, rfl⟩ := Option.map_eq_some_iff.1 hj
      have hjl := (List.getElem?_eq_some_iff.1 hx).1
      obtain ⟨ad', e, h1⟩ := h.cell j hjl
      injection e with e
      subst e
      have e2 : (⟨b, o, none⟩ : Addr).add j = ⟨b, o + j, none⟩ := by unfold Addr.add; split <;> simp_all
      rw [e2] at h1
      rw [h1, (List.getElem?_eq_some_iff.1 hx).2]
end Go.Proofs.YtgemaohdlibboaaGreatDoor.H
/- Walks: relations written, on both sides. No condition. -/
namespace Go.Proofs.YtgemaohdlibboaaGreatDoor.H
open Go Go.RowKit Go.Proofs.YtgemaohdlibboaaGreatDoorW.PrintWords Go.Proofs.YtgemaohdlibboaaGreatDoorW.PrintLast
open Go.Proofs.YtgemaohdlibboaaGreatDoor.Reg (On on_draw)
set_option maxHeartbeats 4000000
set_option maxRecDepth 100000
set_option linter.unusedVariables false
set_option linter.unusedSimpArgs false

/-- The sum of two lengths is an int. -/
theorem szOk {a b : List UInt8} (h : a.length + b.length ≤ 1000000000000) : (9223372036854775807 < (strB a).size + (strB b).size) = False := eq_false (by rw [strB_size, strB_size]; omega)
theorem szOk1 {a : List UInt8} (h : a.length ≤ 1000000000000) : (9223372036854775807 < (strB a).size + 1) = False := eq_false (by rw [strB_size]; omega)
theorem cat1 (a : List UInt8) (c : UInt8) : strB a ++ (⟨#[c]⟩ : ByteArray) = strB (a ++ [c]) := by rw [show (⟨#[c]⟩ : ByteArray) = strB [c] from rfl, strB_append]
end Go.Proofs.YtgemaohdlibboaaGreatDoor.H
/- Walks: relations written by the program. No condition. -/
namespace Go.Proofs.YtgemaohdlibboaaGreatDoor.H
open Go Go.RowKit Go.Proofs.YtgemaohdlibboaaGreatDoorW.PrintWords Go.Proofs.YtgemaohdlibboaaGreatDoorW.PrintLast
open Go.Proofs.YtgemaohdlibboaaGreatDoor.Reg (On on_draw)
set_option maxHeartbeats 4000000
set_option maxRecDepth 100000
set_option linter.unusedVariables false
set_option linter.unusedSimpArgs false

end Go.Proofs.YtgemaohdlibboaaGreatDoor.H
/- Walks: facts written, on both sides. No condition. -/
namespace Go.Proofs.YtgemaohdlibboaaGreatDoor.H
open Go Go.RowKit Go.Proofs.YtgemaohdlibboaaGreatDoorW.PrintWords Go.Proofs.YtgemaohdlibboaaGreatDoorW.PrintLast
open Go.Proofs.YtgemaohdlibboaaGreatDoor.Reg (On on_draw)
set_option maxHeartbeats 4000000
set_option maxRecDepth 100000
set_option linter.unusedVariables false
set_option linter.unusedSimpArgs false

end Go.Proofs.YtgemaohdlibboaaGreatDoor.H
/- Walks: substitutions compared, and what their formats are. No condition. -/
namespace Go.Proofs.YtgemaohdlibboaaGreatDoor.H
open Go Go.RowKit Go.Proofs.YtgemaohdlibboaaGreatDoorW.PrintWords Go.Proofs.YtgemaohdlibboaaGreatDoorW.PrintLast
open Go.Proofs.YtgemaohdlibboaaGreatDoor.Reg (On on_draw)
set_option maxHeartbeats 4000000
set_option maxRecDepth 100000
set_option linter.unusedVariables false
set_option linter.unusedSimpArgs false

theorem okSub_len {ns vs : List Int} (h : okSub ns vs = true) : ns.length ≤ 40 := by
  obtain ⟨-, h1, -, h2⟩ := okSub_spec h
  have e : ns = cmpN ns [] := up_ext _ _ h2 (cmpN_up _ _) fun x => by
    rw [mem_cmpN]
    exact ⟨fun hx => ⟨h1 x hx, .inl hx⟩, fun hx => hx.2.elim id fun h => by cases h⟩
  rw [e]
  unfold cmpN
  exact Nat.le_trans (List.length_filter_le _ _) (by simp)
theorem cmpN_len (an bn : List Int) : (cmpN an bn).length ≤ 40 := by
  unfold cmpN
  exact Nat.le_trans (List.length_filter_le _ _) (by simp)
theorem cmpN_sort {an av bn bv : List Int} (ha : okSub an av = true) (hb : okSub bn bv = true) : sortU (an ++ bn) = cmpN an bn :=
  up_ext _ _ (sortU_up _).1 (cmpN_up _ _) fun x => by
    rw [(sortU_up _).2, mem_cmpN, List.mem_append]
    exact ⟨fun h => ⟨h.elim (fun h => (okSub_spec ha).2.1 x h) (fun h => (okSub_spec hb).2.1 x h), h⟩, fun h => h.2⟩
def eqSub (an av bn bv : List Int) : Bool := decide (an = bn) && decide (av = bv)
theorem iNullValue_calls (w : World) (k : Int) (h : -9223372036854775000 ≤ k ∧ k ≤ 9223372036854775000) : Calls Tryz.prog 87 #[.int .i64 k] w fun e w' => e = .returned (.int .i64 (-1 - k)) ∧ On w w' := by
  go_enter Tryz.func87, Tryz.ntmps87
  go_wp2
  go_ret
  exact ⟨rfl, On.refl _⟩
theorem sEqSub_calls (w : World) (v u : Value) (an av bn bv : List Int) (h : RSu w v an av) (k : RSu w u bn bv) : Calls Tryz.prog 33 #[v, u] w fun e w' => e = .returned (.bool (eqSub an av bn bv)) ∧ On w w' := by
  obtain ⟨A0, c0, A1, c1, rfl, h0, h1⟩ := h.out
  obtain ⟨B0, d0, B1, d1, rfl, k0, k1⟩ := k.out
  have hb := Aside0.mk (On.alloc (On.alloc (On.refl w) (.cells #[.slice A0 an.length c0, .slice A1 av.length c1] 41)) (.cells #[.slice B0 bn.length d0, .slice B1 bv.length d1] 41))
  have hL := Aside0.mk (loc2 w #[.slice A0 an.length c0, .slice A1 av.length c1] #[.slice B0 bn.length d0, .slice B1 bv.length d1] 41 41)
  have h0' := Aside0.mk h0
  have h1' := Aside0.mk h1
  have k0' := Aside0.mk k0
  have k1' := Aside0.mk k1
  clear h0 h1 k0 k1 h k
  have e0 := Aside0.mk (ints_eq an bn)
  have e1 := Aside0.mk (ints_eq av bv)
  go_enter Tryz.func33, Tryz.ntmps33
  go_wp2_with (go_at_call 98; refine Stop.out ?_)
  refine ⟨(l4Ints_calls _ _ _ _ _ an bn (h0'.out.on hb.out) (k0'.out.on hb.out)).mono ?_⟩
  rintro e w1 ⟨rfl, hb1⟩
  obtain ⟨x, hx⟩ : ∃ x, ints an bn = x := ⟨_, rfl⟩
  rw [hx] at e0 ⊢
  clear hx
  have hL1 := Aside0.mk (Loc.on hb1 hL.out)
  have hB1 := Aside0.mk (hb.out.trans hb1)
  have q0 := blk_cell hL1.out.1
  have q1 := blk_cell hL1.out.2.1
  clear hb1
  by_cases hx0 : x = 0
  · subst hx0
    have e2 := Aside0.mk (e0.out.1 rfl)
    go_wp2_with (go_at_call 98; refine Stop.out ?_)
    refine ⟨(l4Ints_calls _ _ _ _ _ av bv (h1'.out.on hB1.out) (k1'.out.on hB1.out)).mono ?_⟩
    rintro e w2 ⟨rfl, hb2⟩
    obtain ⟨y, hy⟩ : ∃ y, ints av bv = y := ⟨_, rfl⟩
    rw [hy] at e1 ⊢
    clear q0 q1 hy
    by_cases hy0 : y = 0
    · subst hy0
      have e3 := Aside0.mk (e1.out.1 rfl)
      go_wp2
      go_ret
      exact ⟨ret_bool (by unfold eqSub; rw [decide_eq_true e2.out, decide_eq_true e3.out]; rfl), hB1.out.trans hb2⟩
    · have k2 : (y == 0) = false := by simpa using hy0
      have k3 : (y = 0) = False := eq_false hy0
      have e3 := Aside0.mk (fun e => hy0 (e1.out.2 e))
      clear hy0
      go_wp2
      go_ret
      exact ⟨ret_bool (by unfold eqSub; rw [decide_eq_true e2.out, decide_eq_false e3.out]; rfl), hB1.out.trans hb2⟩
  · have k2 : (x == 0) = false := by simpa using hx0
    have k3 : (x = 0) = False := eq_false hx0
    have e3 := Aside0.mk (fun e => hx0 (e0.out.2 e))
    clear hx0
    go_wp2
    go_ret
    exact ⟨ret_bool (by unfold eqSub; rw [decide_eq_false e3.out]; rfl), hB1.out⟩
theorem iEqSub_calls (w : World) (v u : Value) (an av bn bv : List Int) (h : RSu w v an av) (k : RSu w u bn bv) : Calls Tryz.prog 32 #[v, u] w fun e w' => e = .returned (.bool (eqSub an av bn bv)) ∧ On w w' := by
  obtain ⟨A0, c0, A1, c1, rfl, h0, h1⟩ := h.out
  obtain ⟨B0, d0, B1, d1, rfl, k0, k1⟩ := k.out
  have hb := Aside0.mk (On.alloc (On.alloc (On.refl w) (.cells #[.slice A0 an.length c0, .slice A1 av.length c1] 41)) (.cells #[.slice B0 bn.length d0, .slice B1 bv.length d1] 41))
  have hL := Aside0.mk (loc2 w #[.slice A0 an.length c0, .slice A1 av.length c1] #[.slice B0 bn.length d0, .slice B1 bv.length d1] 41 41)
  have h0' := Aside0.mk h0
  have h1' := Aside0.mk h1
  have k0' := Aside0.mk k0
  have k1' := Aside0.mk k1
  clear h0 h1 k0 k1 h k
  have heq := Aside0.mk (show eqSub an av bn bv = (decide (an = bn) && decide (av = bv)) from rfl)
  go_enter Tryz.func32, Tryz.ntmps32
  go_wp2_with (go_at_call 97; refine Stop.out ?_)
  refine ⟨(equalI_calls _ _ _ _ _ an bn (h0'.out.on hb.out) (k0'.out.on hb.out)).mono ?_⟩
  rintro e w1 ⟨rfl, hb1⟩
  obtain ⟨x, hx⟩ : ∃ x, decide (an = bn) = x := ⟨_, rfl⟩
  rw [hx] at heq ⊢
  clear hx
  have hL1 := Aside0.mk (Loc.on hb1 hL.out)
  have hB1 := Aside0.mk (hb.out.trans hb1)
  have q0 := blk_cell hL1.out.1
  have q1 := blk_cell hL1.out.2.1
  clear hb1
  cases x with
  | true =>
    go_wp2_with (go_at_call 97; refine Stop.out ?_)
    refine ⟨(equalI_calls _ _ _ _ _ av bv (h1'.out.on hB1.out) (k1'.out.on hB1.out)).mono ?_⟩
    rintro e w2 ⟨rfl, hb2⟩
    obtain ⟨y, hy⟩ : ∃ y, decide (av = bv) = y := ⟨_, rfl⟩
    rw [hy] at heq ⊢
    clear q0 q1 hy
    go_wp2
    go_ret
    exact ⟨ret_bool (by rw [heq.out]; rfl), hB1.out.trans hb2⟩
  | false =>
    go_wp2
    go_ret
    exact ⟨ret_bool (by rw [heq.out]; rfl), hB1.out⟩
def itL (n v : Int) : List UInt8 := (fvL (-1 - n) ++ [61]) ++ fvL v
def itsL (ns vs : List Int) : List (List UInt8) := List.zipWith itL ns vs
/-- A substitution written. -/
def fmtS (ns vs : List Int) : List UInt8 := if okSub ns vs then Lib.join (itsL ns vs) [32] else []
def txtS (ns vs : List Int) (k : Nat) : List UInt8 := Lib.join ((itsL ns vs).take k) [32]
theorem its_take (ns vs : List Int) (k : Nat) (h : k < ns.length) (h' : k < vs.length) : (itsL ns vs).take (k + 1) = (itsL ns vs).take k ++ [itL ns[k] vs[k]] := by
  rw [List.take_succ_eq_append_getElem (by simp [itsL]; omega)]
  simp [itsL]
theorem its_len {ns vs : List Int} (hl : ns.length = vs.length) : (itsL ns vs).length = ns.length := by simp [itsL, hl]
theorem txtS_succ {ns vs : List Int} (k : Nat) (h : k < ns.length) (h' : k < vs.length) : txtS ns vs (k + 1) = (if k = 0 then [] else txtS ns vs k ++ [32]) ++ itL ns[k] vs[k] := by
  unfold txtS
  rw [its_take ns vs k h h', join_snoc, List.length_take, show (itsL ns vs).length = min ns.length vs.length by simp [itsL], Nat.min_eq_left (by omega)]
  by_cases c : k = 0
  · rw [if_pos c, if_pos c]; rfl
  · rw [if_neg c, if_neg c]
theorem itL_len (n v : Int) : (itL n v).length ≤ 7 := by
  have h1 := fvL_len (-1 - n)
  have h2 := fvL_len v
  simp [itL]; omega
theorem txtS_len {ns vs : List Int} (k : Nat) (h : ns.length ≤ 40) : (txtS ns vs k).length ≤ 400 := by
  have := join_len [32] 7 _ ((itsL ns vs).take k) rfl (fun x hx => by
    obtain ⟨a, b, rfl⟩ : ∃ a b, x = itL a b := by
      have := List.mem_of_mem_take hx
      unfold itsL at this
      obtain ⟨i, hi, rfl⟩ := List.getElem_of_mem this
      exact ⟨_, _, List.getElem_zipWith⟩
    exact itL_len a b)
  rw [List.length_take, show (itsL ns vs).length = min ns.length vs.length by simp [itsL]] at this
  unfold txtS
  simp at this ⊢
  omega
theorem txtS_all {ns vs : List Int} (k : Nat) (h : ns.length ≤ k) : txtS ns vs k = Lib.join (itsL ns vs) [32] := by unfold txtS; rw [List.take_of_length_le (by simp [itsL]; omega)]
end Go.Proofs.YtgemaohdlibboaaGreatDoor.H
/- Walks: the draws' cursor. What is told of a number drawn is its range. No condition. -/
namespace Go.Proofs.YtgemaohdlibboaaGreatDoor.H
open Go Go.RowKit Go.Proofs.YtgemaohdlibboaaGreatDoorW.PrintWords Go.Proofs.YtgemaohdlibboaaGreatDoorW.PrintLast
open Go.Proofs.YtgemaohdlibboaaGreatDoor.Reg (On on_draw)
set_option maxHeartbeats 4000000
set_option maxRecDepth 100000
set_option linter.unusedVariables false
set_option linter.unusedSimpArgs false

theorem and255 (x : Int) : 0 ≤ Go.bits .and .i64 x 255 ∧ Go.bits .and .i64 x 255 ≤ 255 := by
  have h255 : (BitVec.ofInt 64 255).toNat = 2 ^ 8 - 1 := by decide
  have key : (BitVec.ofInt 64 x &&& BitVec.ofInt 64 255).toNat = (x % ((2 ^ 64 : Nat) : Int)).toNat % 2 ^ 8 := by
    rw [BitVec.toNat_and, BitVec.toNat_ofInt, h255, Nat.and_two_pow_sub_one_eq_mod]
  have e : Go.bits .and .i64 x 255 = IntKind.i64.wrap (((BitVec.ofInt 64 x &&& BitVec.ofInt 64 255).toNat : Nat) : Int) := rfl
  rw [e, key, IntKind.wrap_i64]
  omega
abbrev kBytes : Kd Int := Kd.int .u8
/-- The cursor at block q; what it reads stood in w0. -/
structure Cu (w0 w : World) (q : Nat) : Prop where
  on : On w0 w
  lo : w0.heap.size ≤ q
  blk : ∃ A c xs i h, w.heap[q]? = some (.cells #[.slice A xs.length c, .int .i64 i, .int .i64 h] 142 (0, 0)) ∧ 0 ≤ i ∧ xs.length ≤ c ∧ kBytes.C w0 A xs.length xs
theorem Cu.ex {S : Nat → Prop} {w0 W w : World} {q : Nat} (h : Cu w0 W q) (k : Ex S W w) (hs : ∀ b, S b → w0.heap.size ≤ b ∧ b ≠ q) : Cu w0 w q := by
  obtain ⟨h1, h2, A, c, xs, i, hh, hb, h3⟩ := h
  exact ⟨Ex.on h1 k fun b hb => (hs b hb).1, h2, A, c, xs, i, hh, blk_ex k hb fun hq => (hs q hq).2 rfl, h3⟩
theorem Cu.next {w0 W w : World} {q : Nat} (h : Cu w0 W q) (k : On W w) : Cu w0 w q := h.ex (Ex.of_on (S := fun _ => False) k) fun _ h => h.elim
theorem Cu.lt {w0 w : World} {q : Nat} (h : Cu w0 w q) : q < w.heap.size := by
  obtain ⟨_, _, A, c, xs, i, hh, hb, _⟩ := h
  exact blk_lt hb
/-- What a draw hands back: a value, the cursor gone on, nothing else touched. -/
abbrev Dr (w0 w : World) (q : Nat) (P : Value → World → Prop) : Ending → World → Prop := Got fun v w' => P v w' ∧ Cu w0 w' q ∧ Ex (fun b => b = q) w w'

theorem Ex.drewN {S : Nat → Prop} {W w : World} (h : Ex S W w) (m : Nat) : Ex S W (w.drewN m) := ⟨h.os, h.tape, h.output, h.size, h.block⟩
theorem wrap1 {i : Int} {n : Nat} (h0 : 0 ≤ i) (h1 : i < (n : Int)) (h2 : n ≤ 9223372036854775807) : 0 ≤ wrap64 (i + 1) := by
  rw [IntWalk.wrap64_in _ (by omega)]
  omega
theorem l1Byte_calls (w0 w : World) (q : Nat) (hC : Cu w0 w q) :
    Calls Tryz.prog 144 #[.pointer (some ⟨q, 0, none⟩)] w (Dr w0 w q fun v _ => ∃ x : Int, v = .int .i64 x ∧ 0 ≤ x ∧ x ≤ 255) := by
  obtain ⟨hB, hq, A, c, xs, i, h, hb, hi, hc, hK⟩ := hC
  have hB' := Aside0.mk hB
  have hq' := Aside0.mk hq
  have hb' := Aside0.mk hb
  have hK' := Aside0.mk hK
  have hc' := Aside0.mk hc
  have hmax := Aside0.mk hK.2.1
  have hc0 := (blk_cell hb 0)
  have hc1 := (blk_cell hb 1)
  have hc2 := (blk_cell hb 2)
  have hf1 := blk_frozen hb 1
  have hf2 := blk_frozen hb 2
  have hu := Tryz.underlying142
  have hi' := Aside0.mk hi
  clear hb hB hK hc
  by_cases hlt : i < (xs.length : Int)
  · obtain ⟨ad, rfl, hx⟩ := Kd.at_int hK'.out i hi hlt
    have hn : ad.block ≠ q := Nat.ne_of_lt (Nat.lt_of_lt_of_le (by have := World.block_lt_of_cell? _ _ hx; first | rwa [add_block] at this | exact this) hq)
    replace hx := pw_cell_below hB'.out hx
    replace hx := (cell_far (p := ⟨q, 2, none⟩) (by first | (rw [add_block]; exact hn) | (show (Addr.add _ _).block ≠ _; rw [add_block]; exact hn) | exact hn) (.int .i64 (wrap64 ((wrap64 (h * 6364136223846793005)) + 1442695040888963407)))).trans hx
    have hy := fun (n_ : Nat) => (show (((w.drewN n_).setCell ⟨q, 2, none⟩ (.int .i64 (wrap64 ((wrap64 (h * 6364136223846793005)) + 1442695040888963407))))).cell? _ = some _ from hx)
    clear hn
    have hlt' := Aside0.mk hlt
    replace hi := eq_true hi
    have hltb := decide_eq_true hlt
    replace hlt := eq_true hlt
    go_enter Tryz.func144, Tryz.ntmps144
    go_wp2
    repeat (go_quiet (fail); try go_wp2)
    go_ret
    exact ⟨_, rfl, ⟨_, rfl, (and255 _).1, (and255 _).2⟩, ⟨Ex.on hB'.out ((((Ex.set w ⟨q, 2, none⟩ _).drewN _).trans (Ex.set _ ⟨q, 1, none⟩ _) fun _ _ h => h)) (fun b hb => hb ▸ hq'.out), hq'.out, _, c, xs, _, _, blk_set (blk_set hb'.out 2 _) 1 _, wrap1 hi'.out hlt'.out hmax.out, hc'.out, hK'.out⟩, (((Ex.set w ⟨q, 2, none⟩ _).drewN _).trans (Ex.set _ ⟨q, 1, none⟩ _) fun _ _ h => h)⟩
  · have hltb := decide_eq_false hlt
    clear hlt
    go_enter Tryz.func144, Tryz.ntmps144
    go_wp2
    repeat (go_quiet (fail); try go_wp2)
    go_ret
    exact ⟨_, rfl, ⟨_, rfl, (and255 _).1, (and255 _).2⟩, ⟨Ex.on hB'.out ((((Ex.set w ⟨q, 2, none⟩ _).drewN _).drewN _)) (fun b hb => hb ▸ hq'.out), hq'.out, _, c, xs, _, _, blk_set hb'.out 2 _, hi'.out, hc'.out, hK'.out⟩, (((Ex.set w ⟨q, 2, none⟩ _).drewN _).drewN _)⟩

/-- A number below m. -/
theorem l1Below_calls (w0 w : World) (q : Nat) (hC : Cu w0 w q) (m : Int) (h1 : 1 ≤ m) (h2 : m ≤ 256) :
    Calls Tryz.prog 138 #[.pointer (some ⟨q, 0, none⟩), .int .i64 m] w (Dr w0 w q fun v _ => ∃ x : Int, v = .int .i64 x ∧ 0 ≤ x ∧ x < m) := by
  have hC' := Aside0.mk hC
  have b1 : decide (m ≤ 0) = false := decide_eq_false (by omega)
  have b2 : decide (m ≤ 256) = true := decide_eq_true h2
  have b3 : (m == 0) = false := by simp; omega
  have b4 : (m != 0) = true := by simp; omega
  have b5 : (m = 0) = False := eq_false (by omega)
  have h1' := Aside0.mk h1
  clear hC h1 h2
  go_enter Tryz.func138, Tryz.ntmps138
  go_wp2_with (go_at_call 144; refine (l1Byte_calls w0 _ q hC'.out).mono ?_; rintro e w3 ⟨v, rfl, ⟨x, rfl, hx⟩, hC3, hE3⟩)
  go_ret
  exact ⟨_, rfl, ⟨_, rfl, Int.emod_nonneg _ (by have := h1'.out; omega), Int.emod_lt_of_pos _ (by have := h1'.out; omega)⟩, hC3, hE3⟩
theorem l1Once_calls (w0 w : World) (q : Nat) (hC : Cu w0 w q) (m : Int) (h1 : 1 ≤ m) (h2 : m ≤ 256) :
    Calls Tryz.prog 66 #[.pointer (some ⟨q, 0, none⟩), .int .i64 m] w (Dr w0 w q fun v _ => ∃ b : Bool, v = .bool b) := by
  have hC' := Aside0.mk hC
  have h1' := Aside0.mk h1
  have h2' := Aside0.mk h2
  clear hC h1 h2
  go_enter Tryz.func66, Tryz.ntmps66
  go_wp2_with (go_at_call 138; refine (l1Below_calls w0 _ q hC'.out m h1'.out h2'.out).mono ?_; rintro e w3 ⟨v, rfl, ⟨x, rfl, hx⟩, hC3, hE3⟩; replace hx := Aside0.mk hx)
  go_ret
  exact ⟨_, rfl, ⟨_, rfl⟩, hC3, hE3⟩
theorem l1PickInt_calls (w0 w : World) (q : Nat) (hC : Cu w0 w q) (A c) (xs : List Int) (hI : ∀ w', Ex (fun b => b = q) w w' → Ints w' A c xs) (h1 : 1 ≤ xs.length) (h2 : xs.length ≤ 256) :
    Calls Tryz.prog 149 #[.pointer (some ⟨q, 0, none⟩), .slice A xs.length c] w (Dr w0 w q fun v _ => ∃ x : Int, v = .int .i64 x ∧ x ∈ xs) := by
  have hC' := Aside0.mk hC
  have h1' := Aside0.mk h1
  have h2' := Aside0.mk h2
  have hI' := Aside0.mk hI
  clear hC h1 h2 hI
  go_enter Tryz.func149, Tryz.ntmps149
  go_wp2_with (go_at_call 138; refine (l1Below_calls w0 _ q hC'.out xs.length (by have := h1'.out; omega) (by have := h2'.out; omega)).mono ?_; rintro e w3 ⟨v, rfl, ⟨x, rfl, hx⟩, hC3, hE3⟩; replace hx := Aside0.mk hx; obtain ⟨k, hk⟩ := Int.eq_ofNat_of_zero_le hx.out.1; subst hk; obtain ⟨ad, hA, hx3⟩ := (hI'.out _ hE3).at k (by have := hx.out; omega); subst hA; have hkl : k < xs.length := by have := hx.out; omega)
  go_ret
  exact ⟨_, rfl, ⟨_, rfl, List.getElem_mem (by have := hx.out; omega)⟩, hC3, hE3⟩
theorem l1New_calls (w : World) (A c) (xs : List Int) (hc : xs.length ≤ c) (hK : kBytes.C w A xs.length xs) :
    Calls Tryz.prog 64 #[.slice A xs.length c] w (Got fun v w' => ∃ q, v = .pointer (some ⟨q, 0, none⟩) ∧ Cu w w' q ∧ On w w') := by
  have hu := Tryz.underlying142
  have hK' := Aside0.mk hK
  have hc' := Aside0.mk hc
  clear hK hc
  go_enter Tryz.func64, Tryz.ntmps64
  go_wp2
  go_loopw [3, 4] (fun v3 v4 wr => ∃ (x3 x4 : Int), v3 = .int .i64 x3 ∧ v4 = .int .i64 x4 ∧ 0 ≤ x4 ∧ x4 ≤ 4000 ∧ Aside0 (On w wr)) (fun v3 v4 _ => 4000 - (intOf v4).toNat)
  case atStart => exact ⟨_, 0, rfl, rfl, by omega, by omega, ⟨On.refl _⟩⟩
  case round =>
    obtain ⟨x3, x4, rfl, rfl, p0, p1, hB⟩ := hrel
    by_cases c2 : x4 < (xs.length : Int)
    · by_cases c3 : x4 < 4000
      · obtain ⟨ad, rfl, hx⟩ := Kd.at_int hK'.out x4 p0 c2
        replace hx := pw_cell_below hB.out hx
        have p0' := Aside0.mk p0
        have c3' := Aside0.mk c3
        have c2b := decide_eq_true c2
        have c3b := decide_eq_true c3
        replace p0 := eq_true p0
        replace c2 := eq_true c2
        clear c3 p1
        have hwr : wrap64 (x4 + 1) = x4 + 1 := IntWalk.wrap64_in _ (by have := p0'.out; have := c3'.out; omega)
        go_wp2
        go_roundw
        case rel => exact ⟨_, x4 + 1, rfl, by first | rfl | (rw [hwr]), by have := p0'.out; omega, by have := c3'.out; omega, hB⟩
        case measure => simp [intOf]; have := p0'.out; have := c3'.out; omega
      · have c2b := decide_eq_true c2
        have c3b := decide_eq_false c3
        clear c3 c2 p0 p1
        go_wp2_with ((with_reducible refine gate_dst (N := 31) rfl ?_); refine box_event ?hg (N := 31) ?hd (cs := #[.slice A xs.length c, .int .i64 0, .int .i64 x3]) (t := 142) ?hr ?_; (case hd => rfl); (case hg => rfl); (case hr => first | (go_simp; done) | (go_simp; rfl)); intro gb hg w5 hbox hb; have hbox' := Aside0.mk hbox; have hb' := Aside0.mk hb; have hg' := Aside0.mk hg; clear hbox hb hg)
        go_ret
        exact ⟨_, rfl, gb, rfl, ⟨hB.out.trans hb'.out, by rw [hg'.out]; exact hB.out.size, A, c, xs, 0, x3, hbox'.out, by omega, hc'.out, hK'.out⟩, hB.out.trans hb'.out⟩
    · have c2b := decide_eq_false c2
      clear c2 p0 p1
      go_wp2_with ((with_reducible refine gate_dst (N := 31) rfl ?_); refine box_event ?hg (N := 31) ?hd (cs := #[.slice A xs.length c, .int .i64 0, .int .i64 x3]) (t := 142) ?hr ?_; (case hd => rfl); (case hg => rfl); (case hr => first | (go_simp; done) | (go_simp; rfl)); intro gb hg w5 hbox hb; have hbox' := Aside0.mk hbox; have hb' := Aside0.mk hb; have hg' := Aside0.mk hg; clear hbox hb hg)
      go_ret
      exact ⟨_, rfl, gb, rfl, ⟨hB.out.trans hb'.out, by rw [hg'.out]; exact hB.out.size, A, c, xs, 0, x3, hbox'.out, by omega, hc'.out, hK'.out⟩, hB.out.trans hb'.out⟩
end Go.Proofs.YtgemaohdlibboaaGreatDoor.H
/- The rule for regions that draw their order, where reads may come up at any time but behind the last operation k: what they read is told by a predicate G that holds until then. No condition. -/
namespace Go.Proofs.YtgemaohdlibboaaGreatDoor.Reg
open Go Go.RowKit
set_option linter.unusedVariables false
variable {P : Program} {ops : Array Oper} {Q : Exit → Act → World → Prop} {md : Region.Mode}
def wpG (P : Program) (md : Region.Mode) (ops : Array Oper) (Q : Exit → Act → World → Prop) (cl : Nat → Bool) (G : World → Prop) (k : Nat) : Nat → Array Bool → Act → (World → Prop) → Prop
  | 0, listed, a, S => (listed.getD k false = false → ∀ w, S w → G w) ∧ Region.ready md ops listed = [] ∧ ∀ w, S w → Q .normal a w
  | fuel + 1, listed, a, S => (listed.getD k false = false → ∀ w, S w → G w) ∧
    (Region.ready md ops listed = [] → ∀ w, S w → Q .normal a w) ∧
    ∀ i ∈ Region.ready md ops listed, stepT P ops Q cl (wpG P md ops Q cl G k fuel (listed.setIfInBounds i true)) i a S
theorem wpG_G {cl : Nat → Bool} {G : World → Prop} {k : Nat} {fuel : Nat} {listed : Array Bool} {a : Act} {S : World → Prop} (h : wpG P md ops Q cl G k fuel listed a S) : listed.getD k false = false → ∀ w, S w → G w := by
  cases fuel <;> exact h.1
theorem wpAny_of_wpG {cl : Nat → Bool} {G : World → Prop} {k : Nat} : ∀ (fuel : Nat) (listed : Array Bool) (a : Act) (S : World → Prop) (w : World), S w → wpG P md ops Q cl G k fuel listed a S → wpAny P md ops Q fuel listed a w
  | 0, _, _, _, _, hS, h => ⟨h.2.1, h.2.2 _ hS⟩
  | fuel + 1, _, _, _, _, hS, h => ⟨fun h0 => h.2.1 h0 _ hS, fun i hi => wpOp_of_stepT (fun a S w hS hT => wpAny_of_wpG fuel _ a S w hS hT) hS (h.2.2 i hi)⟩
theorem wpG_first {cl : Nat → Bool} {G : World → Prop} {i k : Nat} {oi ok : Oper} {v : Value} (hne : k ≠ i) (hok : ops[k]? = some ok) (hki : reach md ops k i = true) (hQ : Plain Q) (hi : ops[i]? = some oi) (hsel : ∀ (j : Nat) (o : Oper) cs b, ops[j]? = some o → o.op ≠ .select cs b) :
    ∀ (fuel : Nat) (listed : Array Bool) (a : Act) (S : World → Prop), closed md ops listed →
      (∀ j oj, ops[j]? = some oj → j ≠ i → listed.getD j true = false → reach md ops j i = false → oi.apart ops oj = true) →
      i ∈ Region.ready md ops listed → Y P ops false G oi v a →
      wpG P md ops Q cl G k fuel (listed.setIfInBounds i true) (a.put oi.dst v) S → wpG P md ops Q cl G k (fuel + 1) listed a S := by
  have hun0 : ∀ {listed : Array Bool}, closed md ops listed → i ∈ Region.ready md ops listed → listed.getD k false = false := fun {listed} hc hr => by
    have hif : listed.getD i false = false := by
      have h0 := (mem_ready.1 hr).1
      rcases Nat.lt_or_ge i listed.size with h' | h'
      · simp [h'] at h0 ⊢; exact h0
      · simp [Array.getElem?_eq_none h']
    cases hk : listed.getD k false with
    | false => rfl
    | true =>
      have := hc.reach hok (fun e he hb => hc k ok hok hk e he hb) hki
      rw [hif] at this
      cases this
  have hG0 : ∀ {listed : Array Bool} {fuel : Nat} {a : Act} {S : World → Prop}, closed md ops listed → i ∈ Region.ready md ops listed → wpG P md ops Q cl G k fuel (listed.setIfInBounds i true) a S → ∀ w, S w → G w := fun hc hr H => wpG_G H (by
    rw [getD_set_ne false (Ne.symm hne)]; exact hun0 hc hr)
  intro fuel
  induction fuel with
  | zero =>
    intro listed a S hclosed _ hr hy H
    refine ⟨fun _ => hG0 hclosed hr H, fun h => (by rw [h] at hr; cases hr), fun j hj => ?_⟩
    by_cases hji : j = i
    · subst hji; exact (hy.sub (hG0 hclosed hr H)).step hi H
    · have := ready_mono hj hji
      rw [H.2.1] at this
      cases this
  | succ fuel ih =>
    intro listed a S hclosed hfree hr hy H
    refine ⟨fun _ => hG0 hclosed hr H, fun h => (by rw [h] at hr; cases hr), fun j hj => ?_⟩
    by_cases hji : j = i
    · subst hji; exact (hy.sub (hG0 hclosed hr H)).step hi H
    · have h1 := H.2.2 j (ready_mono hj hji)
      obtain ⟨hjun, oj, hoj, hall⟩ := mem_ready.1 hj
      have hif : listed.getD i false = false := by
        have h0 := (mem_ready.1 hr).1
        rcases Nat.lt_or_ge i listed.size with h' | h'
        · simp [h'] at h0 ⊢; exact h0
        · simp [Array.getElem?_eq_none h']
      have hnot : reach md ops j i = false := by
        cases hc : reach md ops j i with
        | false => rfl
        | true =>
          have := closed.reach hclosed hoj hall hc
          rw [hif] at this
          cases this
      have h2 := stepT_putG hQ hoj (hfree j oj hoj hji hjun hnot) (fun cs b => hsel i oi cs b hi) (fun cs b => hsel j oj cs b hoj) hy h1
      have hfree' : ∀ k ok, ops[k]? = some ok → k ≠ i → (listed.setIfInBounds j true).getD k true = false →
          reach md ops k i = false → oi.apart ops ok = true := fun k ok hk hki hun hno => by
        refine hfree k ok hk hki ?_ hno
        by_cases hjk : j = k
        · subst hjk; exact hjun
        · rw [getD_set_ne true hjk] at hun; exact hun
      refine stepT_mono (fun a' S' h3 => ih (listed.setIfInBounds j true) a' S' (hclosed.set hj) hfree' (ready_mono hr (Ne.symm hji)) h3.1 ?_) h2
      rw [Array.setIfInBounds_comm _ _ hji]
      exact h3.2
/-- What stands in line behind the reads: G holds until the last. -/
def tailG (P : Program) (ops : Array Oper) (Q : Exit → Act → World → Prop) (G : World → Prop) : List Nat → Act → World → Prop
  | [], a, w => Q .normal a w
  | i :: l, a, w => match ops[i]? with
    | none => False
    | some o => wpOp P ops Q i (fun a' w' => (l ≠ [] → G w') ∧ tailG P ops Q G l a' w') a w
theorem wpG_of_tail {cl : Nat → Bool} {G : World → Prop} {k : Nat} : ∀ (l : List Nat) (listed : Array Bool) (a : Act) (S : World → Prop), k < listed.size → (l = [] → listed.getD k false = true) → (∀ h : l ≠ [], l.getLast h = k) → (∀ i ∈ l, cl i = true) → chkTail md ops l listed = true → (l ≠ [] → ∀ w, S w → G w) → (∀ w, S w → tailG P ops Q G l a w) → wpG P md ops Q cl G k l.length listed a S
  | [], listed, a, S, _, h0, _, _, hc, hG, h => ⟨fun e => (by rw [h0 rfl] at e; cases e), by simpa [chkTail] using hc, h⟩
  | i :: l, listed, a, S, hsz, _, hlast, hcl, hc, hG, h => by
    simp only [chkTail, Bool.and_eq_true, beq_iff_eq] at hc
    obtain ⟨⟨hr, hbusy⟩, hl⟩ := hc
    cases hi : ops[i]? with
    | none => simp [hi] at hbusy
    | some o =>
      rw [List.length_cons]
      refine ⟨fun _ => hG (by simp), fun h0 => (by rw [hr] at h0; cases h0), fun j hj => ?_⟩
      rw [hr] at hj
      obtain rfl := List.mem_singleton.1 hj
      have ih := fun (a : Act) (S : World → Prop) (hG : l ≠ [] → ∀ w, S w → G w) (h : ∀ w, S w → tailG P ops Q G l a w) => wpG_of_tail (cl := cl) (k := k) l (listed.setIfInBounds j true) a S (by rw [Array.size_setIfInBounds]; exact hsz)
        (fun e => by
          subst e
          have e1 : j = k := hlast (by simp)
          subst e1
          simp [Array.getD, hsz])
        (fun hne => by rw [← hlast (by simp), List.getLast_cons hne]) (fun k hk => hcl k (List.mem_cons_of_mem _ hk)) hl hG h
      have hlist : ∀ w, S w → wpOp P ops Q j (fun a' w' => (l ≠ [] → G w') ∧ tailG P ops Q G l a' w') a w := fun w hS => by
        have h1 := h w hS
        simp only [tailG, hi] at h1
        exact h1
      unfold stepT
      simp only [hi]
      split
      · exact .inr (.inr ⟨.inr (hcl j List.mem_cons_self), fun w hS => wpOp_mono (fun a' w' hh => ⟨fun w => w = w', rfl, fun h0 => (by rw [hcl j List.mem_cons_self] at h0; cases h0), ih a' _ (fun hn w e => by subst e; exact hh.1 hn) (fun w e => by subst e; exact hh.2)⟩) (hlist w hS)⟩)
      · rename_i hw
        refine ih _ _ (fun hn w hS => ?_) fun w hS => ?_
        · have h1 := hlist w hS
          unfold wpOp at h1
          simp only [hi] at h1
          rw [if_neg hw] at h1
          exact h1.1 hn
        · have h1 := hlist w hS
          unfold wpOp at h1
          simp only [hi] at h1
          rw [if_neg hw] at h1
          exact h1.2
def chkG (md : Region.Mode) (ops : Array Oper) (k : Nat) (tail : List Nat) : List Nat → Array Bool → Bool
  | [], listed => chkTail md ops tail listed
  | i :: l, listed => (Region.ready md ops listed).contains i && freeC md ops false listed i && reach md ops k i && !(k == i) && chkG md ops k tail l (listed.setIfInBounds i true)
def wpOrdG (P : Program) (ops : Array Oper) (Q : Exit → Act → World → Prop) (G : World → Prop) (tail : List Nat) (W : World) : List Nat → Act → Prop
  | [], a => tailG P ops Q G tail a W
  | i :: l, a => match ops[i]? with
    | none => False
    | some o =>
      if Region.wanted o (yielded ops a.tmps) then ∃ v, (∀ w, G w → (execOp a.eval o).run P w = .ok (.value v) w) ∧ wpOrdG P ops Q G tail W l (a.put o.dst v)
      else wpOrdG P ops Q G tail W l (a.put o.dst undef)
theorem wpG_of_ord {G : World → Prop} {W : World} {k : Nat} {ok : Oper} (hok : ops[k]? = some ok) (hs : Region.noSelect ops = true) (hQ : Plain Q) (hG : G W) (tail : List Nat) (hlast : tail.getLast? = some k) : ∀ (l : List Nat) (listed : Array Bool) (a : Act), k < listed.size → closed md ops listed → chkG md ops k tail l listed = true → wpOrdG P ops Q G tail W l a → wpG P md ops Q (fun j => tail.contains j) G k (l.length + tail.length) listed a (fun w => w = W)
  | [], listed, a, hsz, _, hc, h => by
    rw [List.length_nil, Nat.zero_add]
    exact wpG_of_tail tail listed a _ hsz (fun e => by rw [e] at hlast; cases hlast) (fun hn => by rw [List.getLast?_eq_some_getLast hn] at hlast; exact Option.some.inj hlast) (fun i hi => by simpa using hi) hc (fun _ w e => by subst e; exact hG) (fun w e => by subst e; exact h)
  | i :: l, listed, a, hsz, hclosed, hc, h => by
    simp only [chkG, Bool.and_eq_true] at hc
    obtain ⟨⟨⟨⟨hr, hf⟩, hki⟩, hne⟩, hl⟩ := hc
    have hne' : k ≠ i := by intro e; subst e; simp at hne
    simp only [wpOrdG] at h
    cases hi : ops[i]? with
    | none => simp only [hi] at h
    | some o =>
      simp only [hi] at h
      have hri : i ∈ Region.ready md ops listed := by simpa using hr
      have ih := fun a h => wpG_of_ord hok hs hQ hG tail hlast l (listed.setIfInBounds i true) a (by rw [Array.size_setIfInBounds]; exact hsz) (hclosed.set hri) hl h
      have sel := Region.noSelect_spec hs
      have hlen : ((i :: l).length + tail.length) = (l.length + tail.length) + 1 := by rw [List.length_cons]; omega
      rw [hlen]
      by_cases hw : Region.wanted o (yielded ops a.tmps) = true
      · rw [if_pos hw] at h
        obtain ⟨v, h1, h2⟩ := h
        exact wpG_first hne' hok hki hQ hi sel _ listed a _ hclosed (fun j oj hj hne hun hno => (freeC_spec hi hf j oj hj hne hun hno).1) hri (.inl ⟨hw, fun w hS => by simpa using h1 w hS⟩) (ih _ h2)
      · rw [if_neg hw] at h
        exact wpG_first hne' hok hki hQ hi sel _ listed a _ hclosed (fun j oj hj hne hun hno => (freeC_spec hi hf j oj hj hne hun hno).1) hri (.inr ⟨by simpa using hw, rfl⟩) (ih _ h)
structure OrdG (P : Program) (ops : Array Oper) (Q : Exit → Act → World → Prop) (G : World → Prop) (tail : List Nat) (W : World) (l : List Nat) (a : Act) : Prop where mk :: (out : wpOrdG P ops Q G tail W l a)
structure TailG (P : Program) (ops : Array Oper) (Q : Exit → Act → World → Prop) (G : World → Prop) (l : List Nat) (a : Act) (w : World) : Prop where mk :: (out : tailG P ops Q G l a w)
theorem regionG {id : Nat} {a : Act} {w : World} (G : World → Prop) (l tail : List Nat) (k : Nat) (hm : P.follows .mixedOrders = true) (hc : (Region.noSelect ops && (l.length + tail.length == ops.size) && decide (k < ops.size) && (tail.getLast? == some k) && chkG .any ops k tail l (Array.replicate ops.size false)) = true)
    (hG : G { w with drawn := w.drawn + 1 }) (h : OrdG P ops Q G tail { w with drawn := w.drawn + 1 } l a) (hQ : Plain Q := by exact fun c a d v w h => by cases d <;> exact h) : (Code.region id ops true).wp P Q a w := by
  simp only [Bool.and_eq_true, beq_iff_eq, decide_eq_true_eq] at hc
  obtain ⟨⟨⟨⟨h1, h2⟩, h3⟩, h4⟩, h5⟩ := hc
  refine wp_region_any hm (wpAny_of_wpG (cl := fun j => tail.contains j) (G := G) (k := k) _ _ _ (fun w' => w' = { w with drawn := w.drawn + 1 }) _ rfl ?_)
  rw [← h2]
  exact wpG_of_ord (Array.getElem?_eq_getElem h3) h1 hQ hG tail h4 l _ a (by rw [h2, Array.size_replicate]; exact h3) (closed.start _) (by rw [h2]; exact h5) h.out
section
variable {G : World → Prop} {i : Nat} {tail l : List Nat} {a a' : Act} {W : World} {o : Oper} {N : Tmp}
theorem stepG {v : Value} (hy : ∀ w, G w → (execOp a.eval o).run P w = .ok (.value v) w) (h : OrdG P ops Q G tail W l (a.put (some N) v)) (hi : ops[i]? = some o) (hN : o.dst = some N)
    (hw : Region.wanted o (yielded ops a.tmps) = true) : OrdG P ops Q G tail W (i :: l) a := by
  refine ⟨?_⟩
  simp only [wpOrdG, hi]
  rw [if_pos hw]
  exact ⟨v, hy, hN ▸ h.out⟩
theorem startG (h : TailG P ops Q G tail a W) : OrdG P ops Q G tail W [] a := ⟨h.out⟩
/-- A read, an address, whatever G tells. -/
theorem sG {v : Value} (h : OrdG P ops Q G tail W l a') (hi : ops[i]? = some o := by rfl) (hN : o.dst = some N := by rfl) (hw : Region.wanted o (yielded ops a.tmps) = true := by rfl)
    (hy : ∀ w, G w → (execOp a.eval o).run P w = .ok (.value v) w := by intro w' hS; (first | (have hA := blk_cell hS; clear hS; go_simp; first | done | rfl) | (clear hS; go_simp; first | done | rfl)))
    (ha : a.put (some N) v = a' := by simp only [Act.put, List.setIfInBounds_toArray, List.set_cons_zero, List.set_cons_succ]; rfl) : OrdG P ops Q G tail W (i :: l) a := stepG hy (ha ▸ h) hi hN hw
theorem tG {w : World} (h : wpList P ops (Exit.then (fun a' w' => G w' ∧ TailG P ops Q G l a' w') Q) [o] a w) (hi : ops[i]? = some o := by rfl) : TailG P ops Q G (i :: l) a w := by
  refine ⟨?_⟩
  simp only [tailG, hi]
  refine wpOp_mono (fun a' w' hh => ⟨fun _ => hh.1, hh.2.out⟩) (wpOp_of_one hi h)
/-- The last. -/
theorem tE {w : World} (h : wpList P ops (Exit.then (fun a' w' => Q .normal a' w') Q) [o] a w) (hi : ops[i]? = some o := by rfl) : TailG P ops Q G [i] a w := by
  refine ⟨?_⟩
  simp only [tailG, hi]
  refine wpOp_mono (fun a' w' hh => ⟨fun h => absurd rfl h, hh⟩) (wpOp_of_one hi h)
end
end Go.Proofs.YtgemaohdlibboaaGreatDoor.Reg
/- Walks: the draws of relations, values, facts. What is told: sizes and ranges. No condition. -/
namespace Go.Proofs.YtgemaohdlibboaaGreatDoor.H
open Go Go.RowKit Go.Proofs.YtgemaohdlibboaaGreatDoorW.PrintWords Go.Proofs.YtgemaohdlibboaaGreatDoorW.PrintLast
open Go.Proofs.YtgemaohdlibboaaGreatDoor.Reg (On on_draw)
set_option maxHeartbeats 4000000
set_option maxRecDepth 100000
set_option linter.unusedVariables false
set_option linter.unusedSimpArgs false

/-- The relations of the draws. -/
def sigs : List Rel := [(⟨#[97]⟩, 2, true), (⟨#[98]⟩, 1, true), (⟨#[112]⟩, 2, false), (⟨#[113]⟩, 2, false), (⟨#[114]⟩, 1, false)]
theorem l3Sigs_calls (w : World) : Calls Tryz.prog 115 #[] w (Got fun v w' => OR w' w.heap.size v sigs ∧ On w w') := by
  have hb := Aside0.mk (On.alloc (On.refl w) (.cells #[.string ⟨#[97]⟩, .int .i64 2, .bool true, .string ⟨#[98]⟩, .int .i64 1, .bool true, .string ⟨#[112]⟩, .int .i64 2, .bool false, .string ⟨#[113]⟩, .int .i64 2, .bool false, .string ⟨#[114]⟩, .int .i64 1, .bool false] 95 (0, 0)))
  have hl := Aside0.mk (show OR (w.alloc (.cells #[.string ⟨#[97]⟩, .int .i64 2, .bool true, .string ⟨#[98]⟩, .int .i64 1, .bool true, .string ⟨#[112]⟩, .int .i64 2, .bool false, .string ⟨#[113]⟩, .int .i64 2, .bool false, .string ⟨#[114]⟩, .int .i64 1, .bool false] 95 (0, 0))) w.heap.size (.slice (some ⟨w.heap.size, 0, none⟩) 5 5) sigs from lit_own w #[.string ⟨#[97]⟩, .int .i64 2, .bool true, .string ⟨#[98]⟩, .int .i64 1, .bool true, .string ⟨#[112]⟩, .int .i64 2, .bool false, .string ⟨#[113]⟩, .int .i64 2, .bool false, .string ⟨#[114]⟩, .int .i64 1, .bool false] 95 3 5 w.heap.size (Nat.le_refl _) (by omega) rfl)
  go_enter Tryz.func115, Tryz.ntmps115
  go_wp2
  go_ret
  exact ⟨_, rfl, hl.out, hb.out⟩

theorem l4Value_calls (w0 w : World) (q : Nat) (hC : Cu w0 w q) (m : Int) (h0 : 0 ≤ m) (h2 : m ≤ 256) :
    Calls Tryz.prog 148 #[.pointer (some ⟨q, 0, none⟩), .int .i64 m] w (Dr w0 w q fun v _ => ∃ x : Int, v = .int .i64 x ∧ -256 ≤ x ∧ x ≤ 256) := by
  have hC' := Aside0.mk hC
  have h2' := Aside0.mk h2
  clear hC h2
  by_cases hm : 0 < m
  · have hm' := Aside0.mk hm
    have hmb : decide (0 < m) = true := decide_eq_true hm
    clear hm h0
    go_enter Tryz.func148, Tryz.ntmps148
    go_wp2_with (go_at_call 66; refine Stop.out ?_)
    refine ⟨(l1Once_calls w0 _ q hC'.out 2 (by omega) (by omega)).mono ?_⟩
    rintro e w1 ⟨v, rfl, ⟨b, rfl⟩, hC1, hE1⟩
    have hC1' := Aside0.mk hC1
    clear hC1
    cases b with
    | true =>
      go_wp2_with (go_at_call 138; refine Stop.out ?_)
      refine ⟨(l1Below_calls w0 _ q hC1'.out m (by have := hm'.out; omega) h2'.out).mono ?_⟩
      rintro e w3 ⟨v, rfl, ⟨x, rfl, hx⟩, hC3, hE3⟩
      replace hx := Aside0.mk hx
      go_wp2_with (go_at_call 90; refine Stop.out ?_)
      refine ⟨(sNullValue_calls _ x (by have := hx.out; have := h2'.out; omega)).mono ?_⟩
      rintro e w4 ⟨rfl, hb4⟩
      go_wp2
      go_ret
      exact ⟨_, rfl, ⟨_, rfl, by have := hx.out; have := h2'.out; omega⟩, hC3.next hb4, (hE1.trans hE3 fun _ _ h => h).then_on hb4⟩
    | false =>
      go_wp2_with (go_at_call 138; refine Stop.out ?_)
      refine ⟨(l1Below_calls w0 _ q hC1'.out 3 (by omega) (by omega)).mono ?_⟩
      rintro e w3 ⟨v, rfl, ⟨x, rfl, hx⟩, hC3, hE3⟩
      replace hx := Aside0.mk hx
      go_wp2
      go_ret
      exact ⟨_, rfl, ⟨_, rfl, by have := hx.out; omega⟩, hC3, hE1.trans hE3 fun _ _ h => h⟩
  · have hmb : decide (0 < m) = false := decide_eq_false hm
    clear hm h0
    go_enter Tryz.func148, Tryz.ntmps148
    go_wp2_with (go_at_call 138; refine Stop.out ?_)
    refine ⟨(l1Below_calls w0 _ q hC'.out 3 (by omega) (by omega)).mono ?_⟩
    rintro e w3 ⟨v, rfl, ⟨x, rfl, hx⟩, hC3, hE3⟩
    replace hx := Aside0.mk hx
    go_wp2
    go_ret
    exact ⟨_, rfl, ⟨_, rfl, by have := hx.out; omega⟩, hC3, hE3⟩
end Go.Proofs.YtgemaohdlibboaaGreatDoor.H
/- Walks: the draws of facts. What is told: sizes and ranges. No condition. -/
namespace Go.Proofs.YtgemaohdlibboaaGreatDoor.H
open Go Go.RowKit Go.Proofs.YtgemaohdlibboaaGreatDoorW.PrintWords Go.Proofs.YtgemaohdlibboaaGreatDoorW.PrintLast
open Go.Proofs.YtgemaohdlibboaaGreatDoor.Reg (On on_draw)
set_option maxHeartbeats 4000000
set_option maxRecDepth 100000
set_option linter.unusedVariables false
set_option linter.unusedSimpArgs false

def arN : Nat → Nat
  | 0 => 2
  | 1 => 1
  | 2 => 2
  | 3 => 2
  | _ => 1
theorem arN_sigs : ∀ (k : Nat) (h : k < sigs.length), sigs[k].2.1 = (arN k : Int)
  | 0, _ => rfl
  | 1, _ => rfl
  | 2, _ => rfl
  | 3, _ => rfl
  | 4, _ => rfl
  | n + 5, h => absurd h (by show ¬ n + 5 < 5; omega)
theorem arN_in (k : Nat) : 1 ≤ arN k ∧ arN k ≤ 2 := by unfold arN; split <;> omega
def lenOf : Option Value → Nat
  | some (.slice _ n _) => n
  | _ => 0
theorem lit_I (W : World) (x : Int) (hx : -9223372036854775808 ≤ x ∧ x ≤ 9223372036854775807) : Ints (W.alloc (.cells #[.int .i64 x] 3 (0, 0))) (some ⟨W.heap.size, 0, none⟩) 1 [x] := by
  have h : OI (W.alloc (.cells #[.int .i64 x] 3 (0, 0))) W.heap.size (.slice (some ⟨W.heap.size, 0, none⟩) 1 1) [x] := lit_own W #[.int .i64 x] 3 1 1 W.heap.size (Nat.le_refl _) (by omega) rfl
  obtain ⟨A, c, e, hI⟩ := OI.rd h (fun y hy => by rw [List.mem_singleton.1 hy]; exact hx)
  injection e with e1 e2 e3
  subst e1 e3
  exact hI
theorem OR.same {w : World} {lo : Nat} {A : Option Addr} {n c : Nat} {rs : List Rel} (h : OR w lo (.slice A n c) rs) : n = rs.length ∧ Rels w A c rs := by
  obtain ⟨A', c', e, hR⟩ := OR.rd h
  injection e with e1 e2 e3
  subst e1 e3
  exact ⟨e2, hR⟩
theorem OI.same {w : World} {lo : Nat} {A : Option Addr} {n c : Nat} {xs : List Int} (h : OI w lo (.slice A n c) xs) (hr : InR xs) : n = xs.length ∧ Ints w A c xs := by
  obtain ⟨A', c', e, hR⟩ := OI.rd h hr
  injection e with e1 e2 e3
  subst e1 e3
  exact ⟨e2, hR⟩

theorem l4Fact_calls (w0 w : World) (q : Nat) (hC : Cu w0 w q) (k : Nat) (hk : k < 5) (m : Int) (h0 : 0 ≤ m) (h2 : m ≤ 256) :
    Calls Tryz.prog 170 #[.pointer (some ⟨q, 0, none⟩), .int .i64 k, .int .i64 m] w (Dr w0 w q fun v w' => ∃ f : Fct, OFa w' w.heap.size v f ∧ f.1 = k ∧ f.2.length = arN k) := by
  have hC' := Aside0.mk hC
  have hqw := Aside0.mk hC.lt
  have hk' := Aside0.mk hk
  have hm0 := Aside0.mk h0
  have hm2 := Aside0.mk h2
  obtain ⟨n, hn⟩ : ∃ n, arN k = n := ⟨_, rfl⟩
  have hnb := Aside0.mk (hn ▸ arN_in k : 1 ≤ n ∧ n ≤ 2)
  have hn' := Aside0.mk hn
  have hb0 := Aside0.mk (On.alloc (On.refl w) (.cells #[.int .i64 0, .slice none 0 0] 60 (0, 0)))
  have hl0 := Aside0.mk (loc_new w #[.int .i64 0, .slice none 0 0] 60)
  clear hC hk h0 h2 hn
  go_enter Tryz.func170, Tryz.ntmps170
  go_wp2_with (go_at_call 115; refine Stop.out ?_)
  refine ⟨(l3Sigs_calls _).mono ?_⟩
  rintro e w1 ⟨v, rfl, hR, hb1⟩
  obtain ⟨As, cs, rfl⟩ := own_slice hR
  have hR' := Aside0.mk hR
  have hb1' := Aside0.mk hb1
  have hl1 := Aside0.mk (blk_below hl0.out hb1)
  have hsz := Aside0.mk (show w.heap.size + 1 ≤ w1.heap.size by have := blk_lt hl1.out; omega)
  have hfill := alloc_fill w1
  clear hR hb1
  go_wp2
  clear hfill
  obtain ⟨wa, hwa⟩ : ∃ wa, w1.alloc (.cells #[.int .i64 k, .slice none 0 0] 60 (0, 0)) = wa := ⟨_, rfl⟩
  have hl8 := Aside0.mk (show wa.heap[w1.heap.size]? = some (.cells #[.int .i64 k, .slice none 0 0] 60 (0, 0)) from hwa ▸ loc_new w1 _ _)
  have hsa := Aside0.mk (show wa.heap.size = w1.heap.size + 1 from hwa ▸ by simp)
  have hba := Aside0.mk (show On w1 wa from hwa ▸ On.alloc (On.refl _) _)
  try rw [hwa]
  obtain ⟨g8, hg8⟩ : ∃ g8, w1.heap.size = g8 := ⟨_, rfl⟩
  rw [hg8] at hl8 hsz hsa ⊢
  have hba0 := Aside0.mk (hb0.out.trans (hb1'.out.trans hba.out))
  clear hwa
  have hbl := Aside0.mk (show w1.heap.size = g8 from hg8)
  clear hg8
  go_loopw [] (fun wr => ∃ (xs : List Int) (vr : Value), xs.length ≤ n ∧ wr.heap[g8]? = some (.cells #[.int .i64 k, vr] 60 (0, 0)) ∧ OI wr (g8 + 1) vr xs ∧ InR xs ∧ Cu w0 wr q ∧ Ex (fun b => b = q) w wr ∧ Ex (fun b => b = q ∨ b = g8) wa wr) (fun wr => n - lenOf (wr.cell? ⟨g8, 1, none⟩))
  case atStart => exact ⟨[], _, Nat.zero_le _, hl8.out, World.ownsRow_nil _ _ _ _, fun _ h => absurd h (by simp), hC'.out.next hba0.out, Ex.of_on hba0.out, Ex.refl _ _⟩
  case round =>
    obtain ⟨xs, vr, hxl, hbl8, hO, hIn, hC, hE, hEa⟩ := hrel
    obtain ⟨Ar, cr, rfl⟩ := own_slice hO
    have hOr := own_ex (pw_own_below hR'.out hba.out) hEa (fun i hi => by
      have h1 := own_base hR'.out i hi
      have h2 := own_lt hR'.out i hi
      have := hqw.out
      have := hbl.out
      simp at h1
      omega)
    obtain ⟨ad, hA, x0, x1, x2⟩ := (OR.same hOr).2.at k hk'.out
    subst hA
    rw [arN_sigs k hk'.out, hn'.out] at x1
    have hkb : k < sigs.length := hk'.out
    have hd0 := blk_cell hbl8 0
    have hd1 := blk_cell hbl8 1
    have hbl8' := Aside0.mk hbl8
    have hO' := Aside0.mk hO
    have hIn' := Aside0.mk hIn
    have hC1 := Aside0.mk hC
    have hE' := Aside0.mk hE
    have hEa' := Aside0.mk hEa
    have hxl' := Aside0.mk hxl
    clear hO hIn hC hE hEa hbl8 hOr x0 x2 hxl
    by_cases hlt : xs.length < n
    · have hlt' := Aside0.mk hlt
      have hltb : decide ((xs.length : Int) < (n : Int)) = true := decide_eq_true (by omega)
      have hltn : decide (xs.length < n) = true := decide_eq_true hlt
      clear hlt
      go_wp2
      refine Reg.region [(0,.L),(1,.L),(2,.L),(3,.L),(4,.L),(5,.L),(6,.L),(7,.L),(8,.L)] [] (by kernel_rfl) (by kernel_rfl) ?_
      repeat first | refine sP ?_ | refine sS ?_ | refine sA ?_ | refine sL ?_ | refine sQ ?_ | refine sO ?_
      refine Reg.nil fun w2 hS => ?_
      clear x1 hd0 hd1 hkb
      have hb2 := Aside0.mk (blk_below hbl8'.out hS)
      have hS2 := Aside0.mk hS
      clear hS
      go_wp2
      refine Reg.regionG (fun w' => w'.heap[g8]? = some (.cells #[.int .i64 k, .slice Ar xs.length cr] 60 (0, 0))) [0,1,2,3] [4,5,6,7,8] 8 (by kernel_rfl) (by kernel_rfl) hb2.out ?_
      repeat refine Reg.sG ?_
      refine Reg.startG ?_
      obtain ⟨w3, hw3⟩ : ∃ w3, ({ w2 with drawn := w2.drawn + 1 } : World) = w3 := ⟨_, rfl⟩
      have hS3 := Aside0.mk (show On wr w3 from hS2.out.trans (hw3 ▸ on_draw w2))
      rw [hw3]
      clear hw3
      refine Reg.tG ?_
      go_wp2_with (go_at_call 148; refine Stop.out ?_)
      refine ⟨(l4Value_calls w0 _ q (hC1.out.next hS3.out) m hm0.out hm2.out).mono ?_⟩
      rintro e w4 ⟨v, rfl, ⟨x, rfl, hx⟩, hC4, hE4⟩
      replace hx := Aside0.mk hx
      have hC4' := Aside0.mk hC4
      have hE4' := Aside0.mk hE4
      have hb4 := Aside0.mk (blk_ex hE4 (blk_below hbl8'.out hS3.out) (by have := hqw.out; have := hsz.out; omega))
      clear hC4 hE4
      go_wp2
      refine ⟨hb4.out, ?_⟩
      refine Reg.tG ?_
      go_wp2
      have hI5 := Aside0.mk (lit_I w4 x (by have := hx.out; omega))
      have hS5 := Aside0.mk (On.alloc (On.refl w4) (.cells #[.int .i64 x] 3 (0, 0)))
      refine ⟨blk_below hb4.out hS5.out, ?_⟩
      refine Reg.tG ?_
      have hO5 := Aside0.mk (pw_own_below (own_ex (pw_own_below hO'.out hS3.out) hE4'.out (fun i hi e => by have := own_base hO'.out i hi; have := hqw.out; have := hsz.out; omega)) hS5.out)
      obtain ⟨ys, hys⟩ : ∃ ys, xs ++ [x] = ys := ⟨_, rfl⟩
      have hsz5 := Aside0.mk (show g8 + 1 ≤ (w4.alloc (.cells #[.int .i64 x] 3 (0, 0))).heap.size by have := blk_lt (blk_below hb4.out hS5.out); omega)
      refine apI 27 hys (OI.to hO5.out) hI5.out.2.1 hsz5.out (by have := hlt'.out; have := hnb.out; simp; omega) fun v6 w6 hO6 hg6 hat6 => ?_
      have hO6' := Aside0.mk (OI.of hO6)
      have hS6 := Aside0.mk (show Ex (fun b => g8 + 1 ≤ b) (w4.alloc (.cells #[.int .i64 x] 3 (0, 0))) w6 from (Ex.of_grown hg6).mono fun b hb => own_base hO5.out b hb.symm)
      have hb6 := Aside0.mk (blk_ex hS6.out (blk_below hb4.out hS5.out) (by omega))
      have hyl := Aside0.mk (show ys.length = xs.length + 1 by rw [← hys]; simp)
      have hyi := Aside0.mk (show InR ys by rw [← hys]; intro z hz; rcases List.mem_append.1 hz with h | h; exact hIn'.out z h; rw [List.mem_singleton.1 h]; have := hx.out; omega)
      clear hO6 hg6 hat6 hys
      obtain ⟨A6, c6, rfl⟩ := own_slice hO6'.out
      refine ⟨hb6.out, ?_⟩
      have hd6 := blk_cell hb6.out 1
      have hf6 := blk_frozen hb6.out 1
      simp only [Act.put, List.setIfInBounds_toArray, List.set_cons_zero, List.set_cons_succ]
      refine Reg.tG ?_
      go_wp2
      refine ⟨hb6.out, ?_⟩
      refine Reg.tE ?_
      go_wp2
      have hq0 := hC'.out.lo
      have E2 := ((Ex.of_on (S := fun b => b = q) hS3.out).trans hE4'.out fun _ _ h => h).then_on hS5.out
      have E4 := (hE'.out.trans E2 fun _ _ h => h).trans hS6.out (fun i hi h => by have := hsz.out; omega)
      have F4 := (hEa'.out.trans E2 fun _ _ h => .inl h).trans hS6.out (fun i hi h => by have := hsa.out; omega)
      refine ⟨⟨ys, _, by have := hyl.out; have := hlt'.out; omega, blk_set hb6.out 1 _, own_ex hO6'.out (Ex.set w6 ⟨g8, 1, none⟩ _) (fun i hi e => by have := own_base hO6'.out i hi; have e' : i = g8 := e; omega), hyi.out,
        ((hC4'.out.next hS5.out).ex hS6.out (fun b hb => by have := hsz.out; have := hqw.out; omega)).ex (Ex.set w6 ⟨g8, 1, none⟩ _) (fun b hb => by have e' : b = g8 := hb; have := hsz.out; have := hqw.out; omega),
        E4.trans (Ex.set w6 ⟨g8, 1, none⟩ _) (fun i hi h => by have e' : i = g8 := h; have := hsz.out; omega), F4.trans (Ex.set w6 ⟨g8, 1, none⟩ _) (fun i hi h => .inr h)⟩, ?_⟩
      rw [blk_cell (blk_set hb6.out 1 _) 1, blk_cell hbl8'.out 1]
      show n - ys.length < n - xs.length
      have := hyl.out
      have := hlt'.out
      omega
    · have hltb : decide ((xs.length : Int) < (n : Int)) = false := decide_eq_false (by omega)
      have hltn : decide (xs.length < n) = false := decide_eq_false hlt
      have hge := Aside0.mk (show n ≤ xs.length by omega)
      clear hlt
      go_wp2
      refine Reg.region [(0,.L),(1,.L),(2,.L),(3,.L),(4,.L),(5,.L),(6,.L),(7,.L),(8,.L)] [] (by kernel_rfl) (by kernel_rfl) ?_
      repeat first | refine sP ?_ | refine sS ?_ | refine sA ?_ | refine sL ?_ | refine sQ ?_ | refine sO ?_
      refine Reg.nil fun w2 hS => ?_
      have hS2 := Aside0.mk hS
      have hb2 := Aside0.mk (blk_below hbl8'.out hS)
      have hd0 := blk_cell hb2.out 0
      have hd1 := blk_cell hb2.out 1
      have hl2 := Aside0.mk (blk_ex (hEa'.out.then_on hS) (blk_below hl1.out hba.out) (by have := hqw.out; have := hsz.out; omega))
      have hcr : ∀ i, w2.cell? ⟨w.heap.size, i, none⟩ = _ := blk_cell hl2.out
      have hfr : ∀ i, w2.frozen? ⟨w.heap.size, i, none⟩ = _ := blk_frozen hl2.out
      clear x1 hS
      go_wp2
      refine bodyPost_ret (retF rfl rfl (g := w.heap.size) (blk_set (blk_set hl2.out 0 _) 1 _) rfl) rfl ?_
      have hq0 := hC'.out.lo
      have hO2 := pw_own_below hO'.out hS2.out
      have hS := (Ex.set w2 ⟨w.heap.size, 0, none⟩ (.int .i64 k)).trans (Ex.set _ ⟨w.heap.size, 1, none⟩ (.slice Ar xs.length cr)) (fun _ _ h => h)
      have hOz := own_lower (lo' := w.heap.size) (own_ex hO2 hS (fun i hi e => by have := own_base hO2 i hi; have e' : i = w.heap.size := e; have := hsz.out; omega)) (by have := hsz.out; omega)
      exact ⟨_, rfl, ⟨(k, xs), ⟨_, rfl, hOz, hIn'.out⟩, rfl, by have := hn'.out; have := hge.out; have := hxl'.out; show xs.length = _; omega⟩,
        (hC1.out.next hS2.out).ex hS (fun b hb => by have e' : b = w.heap.size := hb; have := hqw.out; omega), (hE'.out.then_on hS2.out).trans hS (fun i hi h => by have e' : i = w.heap.size := h; omega)⟩
end Go.Proofs.YtgemaohdlibboaaGreatDoor.H
/- Walks: the draw of any fact. What is told: sizes and ranges. No condition. -/
namespace Go.Proofs.YtgemaohdlibboaaGreatDoor.H
open Go Go.RowKit Go.Proofs.YtgemaohdlibboaaGreatDoorW.PrintWords Go.Proofs.YtgemaohdlibboaaGreatDoorW.PrintLast
open Go.Proofs.YtgemaohdlibboaaGreatDoor.Reg (On on_draw)
set_option maxHeartbeats 4000000
set_option maxRecDepth 100000
set_option linter.unusedVariables false
set_option linter.unusedSimpArgs false

/-- The first number of a row stored. -/
theorem OI.set0 {W : World} {lo : Nat} {A : Option Addr} {n c : Nat} {y : Int} {ys : List Int} (h : OI W lo (.slice A n c) (y :: ys)) : ∃ g, A = some ⟨g, 0, none⟩ ∧ lo ≤ g ∧ g < W.heap.size ∧ (∃ z, W.cell? ⟨g, 0, none⟩ = some z) ∧ W.frozen? ⟨g, 0, none⟩ = false ∧ ∀ x, OI (W.setCell ⟨g, 0, none⟩ (.int .i64 x)) lo (.slice A n c) (x :: ys) := by
  have hx := h.1
  rcases h.2 with ⟨h', hn⟩ | ⟨g, cap, cur, h', hg, hh, hnc, hcm, hcs, htk⟩
  · simp at hn
  · injection h' with e1 e2 e3
    subst e1 e2 e3
    refine ⟨g, rfl, hg, own_lt h g rfl, ?_, own_frozen h 0, fun x => ?_⟩
    · obtain ⟨z, hz⟩ := own_some h 0 (by simp)
      exact ⟨z, hz⟩
    · have := (h.stored 0 (.int .i64 x)).1
      exact this
theorem fact_end {w0 w wz : World} {q : Nat} {rz : Int} {Az : Option Addr} {n cz : Nat} {zs : List Int} (hqw : q < w.heap.size) (hq0 : w0.heap.size ≤ q) (hO : OI wz (w.heap.size + 1) (.slice Az n cz) zs) (hI : InR zs) (hl : zs.length ≤ 3) (hC : Cu w0 wz q) (hE : Ex (fun b => b = q) w wz) :
    Dr w0 w q (fun v w' => ∃ f : Fct, OFa w' w.heap.size v f ∧ f.2.length ≤ 3) (.returned (.agg #[.int .i64 rz, .slice Az n cz])) ((wz.setCell ⟨w.heap.size, 0, none⟩ (.int .i64 rz)).setCell ⟨w.heap.size, 1, none⟩ (.slice Az n cz)) := by
  have EE := (Ex.set wz ⟨w.heap.size, 0, none⟩ (.int .i64 rz)).trans (Ex.set _ ⟨w.heap.size, 1, none⟩ (.slice Az n cz)) (fun _ _ h => h)
  exact ⟨_, rfl, ⟨(rz, zs), ⟨_, rfl, own_lower (own_ex hO EE (fun i hi e => by have := own_base hO i hi; have e' : i = w.heap.size := e; omega)) (by omega), hI⟩, hl⟩,
    hC.ex EE (fun b hb => by have e' : b = w.heap.size := hb; omega), hE.trans EE (fun i hi h => by have e' : i = w.heap.size := h; omega)⟩
theorem l4Any_calls (w0 w : World) (q : Nat) (hC : Cu w0 w q) :
    Calls Tryz.prog 116 #[.pointer (some ⟨q, 0, none⟩)] w (Dr w0 w q fun v w' => ∃ f : Fct, OFa w' w.heap.size v f ∧ f.2.length ≤ 3) := by
  have hC' := Aside0.mk hC
  have hqw := Aside0.mk hC.lt
  have hq0 := Aside0.mk hC.lo
  have hb0 := Aside0.mk (On.alloc (On.refl w) (.cells #[.int .i64 0, .slice none 0 0] 60 (0, 0)))
  have hl0 := Aside0.mk (loc_new w #[.int .i64 0, .slice none 0 0] 60)
  clear hC
  go_enter Tryz.func116, Tryz.ntmps116
  go_wp2_with (go_at_call 138; refine Stop.out ?_)
  refine ⟨(l1Below_calls w0 _ q (hC'.out.next hb0.out) 5 (by omega) (by omega)).mono ?_⟩
  rintro e w1 ⟨v, rfl, ⟨x, rfl, hx⟩, hC1, hE1⟩
  obtain ⟨k, rfl⟩ := Int.eq_ofNat_of_zero_le hx.1
  have hk := Aside0.mk (show k < 5 by omega)
  have hC1' := Aside0.mk hC1
  have hE1' := Aside0.mk ((Ex.of_on (S := fun b => b = q) hb0.out).trans hE1 fun _ _ h => h)
  have hr1 := Aside0.mk (blk_ex hE1 hl0.out (by have := hqw.out; omega))
  clear hC1 hE1 hx
  go_wp2_with (go_at_call 170; refine Stop.out ?_)
  refine ⟨(l4Fact_calls w0 _ q hC1'.out k hk.out 4 (by omega) (by omega)).mono ?_⟩
  rintro e w2 ⟨v, rfl, ⟨f, hO, hf1, hf2⟩, hC2, hE2⟩
  obtain ⟨v2, rfl, hO, hI⟩ := hO.out
  obtain ⟨A2, c2, rfl⟩ := own_slice hO
  have hO' := Aside0.mk (own_lower (lo' := w.heap.size + 1) hO (by have := blk_lt hr1.out; omega))
  have hI' := Aside0.mk hI
  have hf2' := Aside0.mk (show 1 ≤ f.2.length ∧ f.2.length ≤ 2 by rw [hf2]; exact arN_in k)
  have hC2' := Aside0.mk hC2
  have hE2' := Aside0.mk (hE1'.out.trans hE2 fun _ _ h => h)
  have hr2 := Aside0.mk (blk_ex hE2 hr1.out (by have := hqw.out; omega))
  clear hC2 hE2 hO hI hf1 hf2
  obtain ⟨r, xs⟩ := f
  simp only at hO' hI' hf2' ⊢
  have hfill := alloc_fill w2
  go_wp2_with (go_at_call 138; refine Stop.out ?_)
  refine ⟨?_⟩
  clear hfill
  obtain ⟨wa, hwa⟩ : ∃ wa, w2.alloc (.cells #[.int .i64 r, .slice A2 xs.length c2] 60 (0, 0)) = wa := ⟨_, rfl⟩
  have hl3 := Aside0.mk (show wa.heap[w2.heap.size]? = some (.cells #[.int .i64 r, .slice A2 xs.length c2] 60 (0, 0)) from hwa ▸ loc_new w2 _ _)
  have hba := Aside0.mk (show On w2 wa from hwa ▸ On.alloc (On.refl _) _)
  rw [hwa]
  clear hwa
  have hbl := Aside0.mk (show w.heap.size < w2.heap.size from blk_lt hr2.out)
  have hblx := Aside0.mk (show ∀ i, (Value.slice A2 xs.length c2).ownBlock = some i → i < w2.heap.size from fun i hi => own_lt hO'.out i hi)
  obtain ⟨g3, hg3⟩ : ∃ g3, w2.heap.size = g3 := ⟨_, rfl⟩
  rw [hg3] at hl3 hbl hblx ⊢
  clear hg3
  refine (l1Below_calls w0 _ q (hC2'.out.next hba.out) 10 (by omega) (by omega)).mono ?_
  rintro e w3 ⟨v, rfl, ⟨x, rfl, hx⟩, hC3, hE3⟩
  have hC3' := Aside0.mk hC3
  have hE3a := Aside0.mk ((Ex.of_on (S := fun b => b = q) hba.out).trans hE3 fun _ _ h => h)
  have hr3 := Aside0.mk (blk_ex hE3a.out hr2.out (by have := hqw.out; omega))
  have hg3 := Aside0.mk (blk_ex hE3 hl3.out (by have := hqw.out; have := hbl.out; omega))
  have hE3' := Aside0.mk (hE2'.out.trans hE3a.out fun _ _ h => h)
  have hO3 := Aside0.mk (own_ex hO'.out hE3a.out (fun i hi e => by have := own_base hO'.out i hi; have := hqw.out; omega))
  clear hC3 hE3 hx
  by_cases hx0 : x = 0
  · subst hx0
    go_wp2_with (go_at_call 138; refine Stop.out ?_)
    refine ⟨(l1Below_calls w0 _ q hC3'.out 7 (by omega) (by omega)).mono ?_⟩
    rintro e w4 ⟨v, rfl, ⟨y, rfl, hy⟩, hC4, hE4⟩
    have hw : wrap64 (y - 1) = y - 1 := IntWalk.wrap64_in _ (by omega)
    have hC4' := Aside0.mk hC4
    have hr4 := Aside0.mk (blk_ex hE4 hr3.out (by have := hqw.out; omega))
    have hg4 := Aside0.mk (blk_ex hE4 hg3.out (by have := hqw.out; have := hbl.out; omega))
    have hE4' := Aside0.mk (hE3'.out.trans hE4 fun _ _ h => h)
    have hO4 := Aside0.mk (own_ex hO3.out hE4 (fun i hi e => by have := own_base hO3.out i hi; have := hqw.out; omega))
    clear hC4 hE4 hy
    have hne := Aside0.mk (show w.heap.size ≠ g3 by have := hbl.out; omega)
    have hd0 := blk_cell hg4.out
    have hf0 := blk_frozen hg4.out
    have hx4 := Aside0.mk (show (w4.setCell ⟨g3, 0, none⟩ (.int .i64 (y - 1))).heap[w.heap.size]? = _ from blk_far hr4.out (by show ¬ _; simp; have := hbl.out; omega) _)
    have hd1 := blk_cell hx4.out
    have hf1 := blk_frozen hx4.out
    go_wp2
    refine bodyPost_ret (retF rfl rfl (g := w.heap.size) (blk_set (blk_set hx4.out 0 _) 1 _) rfl) rfl ?_
    have EX := Ex.set w4 ⟨g3, 0, none⟩ (.int .i64 (y - 1))
    have hb1 := hbl.out
    have hb2 := hqw.out
    have hb3 := hq0.out
    exact fact_end hqw.out hq0.out (own_ex hO4.out EX (fun i hi e => by have e' : i = g3 := e; have := hblx.out i hi; omega)) hI'.out (by have := hf2'.out; omega) (hC4'.out.ex EX (fun b hb => by have e' : b = g3 := hb; omega)) (hE4'.out.trans EX (fun i hi h => by have e' : i = g3 := h; omega))
  · by_cases hx1 : x = 1
    · subst hx1
      have hd0 := blk_cell hg3.out
      have hf0 := blk_frozen hg3.out
      go_wp2_with (refine gate 21 ?_)
      have hI5 := Aside0.mk (lit_I w3 1 (by omega))
      have hS5 := Aside0.mk (On.alloc (On.refl w3) (.cells #[.int .i64 1] 3 (0, 0)))
      obtain ⟨ys, hys⟩ : ∃ ys, xs ++ [1] = ys := ⟨_, rfl⟩
      refine ⟨apI 21 hys (OI.to (pw_own_below hO3.out hS5.out)) hI5.out.2.1 (by have := blk_lt (blk_below hr3.out hS5.out); omega) (by have := hf2'.out; simp; omega) fun v6 w6 hO6 hg6 hat6 => ?_⟩
      have hO6' := Aside0.mk (OI.of hO6)
      have hS6 := Aside0.mk (Ex.of_grown hg6)
      have hr6 := Aside0.mk (blk_ex hS6.out (blk_below hr3.out hS5.out) (fun e => by have := own_base hO3.out _ e.symm; omega))
      have hg6' := Aside0.mk (blk_ex hS6.out (blk_below hg3.out hS5.out) (fun e => by have := hblx.out _ e.symm; omega))
      have hyl := Aside0.mk (show ys.length = xs.length + 1 by rw [← hys]; simp)
      have hyi := Aside0.mk (show InR ys by rw [← hys]; intro z hz; rcases List.mem_append.1 hz with h | h; exact hI'.out z h; rw [List.mem_singleton.1 h]; omega)
      have hlt6 := Aside0.mk (show ∀ i, v6.ownBlock = some i → i ≠ g3 ∧ w.heap.size < i from fun i hi => by
        have h1 := own_base hO6'.out i hi
        refine ⟨?_, by omega⟩
        rcases hat6 with e | ⟨b, e, hb⟩
        · have := hblx.out i (e ▸ hi); omega
        · rw [e] at hi; cases hi; have := blk_lt (blk_below hg3.out hS5.out); omega)
      clear hO6 hg6 hat6 hys hd0 hf0
      obtain ⟨A6, c6, rfl⟩ := own_slice hO6'.out
      have hd6 := blk_cell hg6'.out
      have hf6 := blk_frozen hg6'.out
      have hx6 := Aside0.mk (show (w6.setCell ⟨g3, 1, none⟩ (.slice A6 ys.length c6)).heap[w.heap.size]? = _ from blk_far hr6.out (by show ¬ _; simp; have := hbl.out; omega) _)
      have hd1 := blk_cell hx6.out
      have hf1 := blk_frozen hx6.out
      go_wp2
      refine bodyPost_ret (retF rfl rfl (g := w.heap.size) (blk_set (blk_set hx6.out 0 _) 1 _) rfl) rfl ?_
      have EX := Ex.set w6 ⟨g3, 1, none⟩ (.slice A6 ys.length c6)
      have hb1 := hbl.out
      have hb2 := hqw.out
      have hb3 := hq0.out
      have hE6 := (hE3'.out.then_on hS5.out).trans hS6.out (fun i hi h => by have := own_base hO3.out i h.symm; omega)
      exact fact_end hqw.out hq0.out (own_ex hO6'.out EX (fun i hi e => by have e' : i = g3 := e; have := (hlt6.out i hi).1; omega)) hyi.out (by have := hf2'.out; have := hyl.out; omega) (((hC3'.out.next hS5.out).ex hS6.out (fun b hb => by have := own_base hO3.out b hb.symm; omega)).ex EX (fun b hb => by have e' : b = g3 := hb; omega)) (hE6.trans EX (fun i hi h => by have e' : i = g3 := h; omega))
    · by_cases hx2 : x = 2
      · subst hx2
        have hd0 := blk_cell hg3.out
        have hf0 := blk_frozen hg3.out
        obtain ⟨y0, ys, rfl⟩ : ∃ y0 ys, xs = y0 :: ys := by
          cases xs with
          | nil => have := hf2'.out; simp at this
          | cons a b => exact ⟨a, b, rfl⟩
        obtain ⟨gr, rfl, hgr1, hgr2, -⟩ := OI.set0 hO3.out
        have hgr := Aside0.mk (show w.heap.size + 1 ≤ gr ∧ gr < g3 from ⟨hgr1, hblx.out gr rfl⟩)
        clear hgr1 hgr2
        go_wp2
        refine Reg.regionG (fun w' => w'.heap[g3]? = some (.cells #[.int .i64 r, .slice (some ⟨gr, 0, none⟩) (y0 :: ys).length c2] 60 (0, 0))) [0,1,2] [3,4,5,6] 6 (by kernel_rfl) (by kernel_rfl) hg3.out ?_
        repeat refine Reg.sG ?_
        refine Reg.startG ?_
        obtain ⟨w4, hw4⟩ : ∃ w4, ({ w3 with drawn := w3.drawn + 1 } : World) = w4 := ⟨_, rfl⟩
        have hS4 := Aside0.mk (show On w3 w4 from (hw4 ▸ on_draw w3))
        rw [hw4]
        clear hw4 hd0 hf0
        refine Reg.tG ?_
        go_wp2
        have hlt := Aside0.mk (show OI (w4.alloc (.cells #[.int .i64 10, .int .i64 (-41), .int .i64 9] 3 (0, 0))) w4.heap.size (.slice (some ⟨w4.heap.size, 0, none⟩) 3 3) [10, -41, 9] from lit_own w4 #[.int .i64 10, .int .i64 (-41), .int .i64 9] 3 1 3 w4.heap.size (Nat.le_refl _) (by omega) rfl)
        have hS5 := Aside0.mk (hS4.out.trans (On.alloc (On.refl w4) (.cells #[.int .i64 10, .int .i64 (-41), .int .i64 9] 3 (0, 0))))
        have hqs := Aside0.mk (show q < w4.heap.size from (hC3'.out.next hS4.out).lt)
        refine ⟨blk_below hg3.out hS5.out, ?_⟩
        refine Reg.tG ?_
        go_wp2_with (go_at_call 149; refine Stop.out ?_)
        refine ⟨(l1PickInt_calls w0 _ q (hC3'.out.next hS5.out) (some ⟨w4.heap.size, 0, none⟩) 3 [10, -41, 9] (fun w' k => (OI.same (own_ex hlt.out k (fun i hi e => by have := own_base hlt.out i hi; have := hqs.out; omega)) (fun z hz => by simp at hz; omega)).2) (by simp) (by simp)).mono ?_⟩
        rintro e w6 ⟨v, rfl, ⟨x, rfl, hx⟩, hC6, hE6⟩
        have hx' := Aside0.mk (show -41 ≤ x ∧ x ≤ 10 by simp at hx; omega)
        have hC6' := Aside0.mk hC6
        have hE6' := Aside0.mk ((Ex.of_on (S := fun b => b = q) hS5.out).trans hE6 fun _ _ h => h)
        have hg6 := Aside0.mk (blk_ex hE6'.out hg3.out (by have := hqw.out; have := hbl.out; omega))
        have hr6 := Aside0.mk (blk_ex hE6'.out hr3.out (by have := hqw.out; omega))
        have hO6 := Aside0.mk (own_ex hO3.out hE6'.out (fun i hi e => by have := own_base hO3.out i hi; have := hqw.out; omega))
        clear hC6 hE6 hx
        obtain ⟨gr', hgr', -, -, ⟨z, hz⟩, hfz, hset⟩ := OI.set0 hO6.out
        obtain rfl : gr = gr' := by injection hgr' with e; injection e
        clear hgr'
        have hset' := Aside0.mk (hset x)
        clear hset
        go_wp2
        refine ⟨hg6.out, ?_⟩
        refine Reg.tG ?_
        go_wp2
        refine ⟨hg6.out, ?_⟩
        refine Reg.tE ?_
        have hx6 := Aside0.mk (show (w6.setCell ⟨gr, 0, none⟩ (.int .i64 x)).heap[w.heap.size]? = _ from blk_far hr6.out (by show ¬ _; simp; have := hgr.out; omega) _)
        have hy6 := Aside0.mk (show (w6.setCell ⟨gr, 0, none⟩ (.int .i64 x)).heap[g3]? = _ from blk_far hg6.out (by show ¬ _; simp; have := hgr.out; omega) _)
        have hd0 := blk_cell hy6.out
        have hf0 := blk_frozen hy6.out
        have hd1 := blk_cell hx6.out
        have hf1 := blk_frozen hx6.out
        go_wp2
        refine bodyPost_ret (retF rfl rfl (g := w.heap.size) (blk_set (blk_set hx6.out 0 _) 1 _) rfl) rfl ?_
        have EX := Ex.set w6 ⟨gr, 0, none⟩ (.int .i64 x)
        have hb1 := hgr.out
        have hb2 := hqw.out
        have hb3 := hq0.out
        exact fact_end (zs := x :: ys) hqw.out hq0.out hset'.out (fun z hz => (List.mem_cons.1 hz).elim (fun e => by have := hx'.out; omega) (fun h => hI'.out z (List.mem_cons_of_mem _ h))) (by have := hf2'.out; simp at this ⊢; omega) (hC6'.out.ex EX (fun b hb => by have e' : b = gr := hb; omega)) ((hE3'.out.trans hE6'.out fun _ _ h => h).trans EX (fun i hi h => by have e' : i = gr := h; omega))
      · have b0 : (x == 0) = false := by simpa using hx0
        have b1 : (x == 1) = false := by simpa using hx1
        have b2 : (x == 2) = false := by simpa using hx2
        have hd0 := blk_cell hg3.out
        have hf0 := blk_frozen hg3.out
        have hd1 := blk_cell hr3.out
        have hf1 := blk_frozen hr3.out
        clear hx0 hx1 hx2
        go_wp2
        refine bodyPost_ret (retF rfl rfl (g := w.heap.size) (blk_set (blk_set hr3.out 0 _) 1 _) rfl) rfl ?_
        exact fact_end hqw.out hq0.out hO3.out hI'.out (by have := hf2'.out; omega) hC3'.out hE3'.out
end Go.Proofs.YtgemaohdlibboaaGreatDoor.H
/- Walks: the draw of a substitution. What is told: sizes and ranges. No condition. -/
namespace Go.Proofs.YtgemaohdlibboaaGreatDoor.H
open Go Go.RowKit Go.Proofs.YtgemaohdlibboaaGreatDoorW.PrintWords Go.Proofs.YtgemaohdlibboaaGreatDoorW.PrintLast
open Go.Proofs.YtgemaohdlibboaaGreatDoor.Reg (On on_draw)
set_option maxHeartbeats 4000000
set_option maxRecDepth 100000
set_option linter.unusedVariables false
set_option linter.unusedSimpArgs false

/-- Two own rows of numbers apart from block g and from one another. -/
structure TW (g lo : Nat) (w : World) (v0 v1 : Value) (ns vs : List Int) : Prop where
  r0 : OI w lo v0 ns
  r1 : OI w lo v1 vs
  n0 : ∀ b, v0.ownBlock = some b → b ≠ g
  n1 : ∀ b, v1.ownBlock = some b → b ≠ g
  ap : ∀ b, v0.ownBlock = some b → v1.ownBlock ≠ some b
theorem TW.ex {g lo : Nat} {S : Nat → Prop} {W w : World} {v0 v1 : Value} {ns vs : List Int} (h : TW g lo W v0 v1 ns vs) (k : Ex S W w) (hS : ∀ b, S b → b < lo ∨ b = g) : TW g lo w v0 v1 ns vs :=
  ⟨own_ex h.r0 k (fun i hi e => by have := own_base h.r0 i hi; have := h.n0 i hi; have := hS i e; omega),
   own_ex h.r1 k (fun i hi e => by have := own_base h.r1 i hi; have := h.n1 i hi; have := hS i e; omega), h.n0, h.n1, h.ap⟩
theorem TW.on {g lo : Nat} {W w : World} {v0 v1 : Value} {ns vs : List Int} (h : TW g lo W v0 v1 ns vs) (k : On W w) : TW g lo w v0 v1 ns vs := h.ex (Ex.of_on (S := fun _ => False) k) fun _ h => h.elim
/-- The first row grew. -/
theorem TW.app0 {g lo : Nat} {W w : World} {v0 v1 u0 : Value} {ns vs ms : List Int} (h : TW g lo W v0 v1 ns vs) (hg : g < W.heap.size) (hO : OI w lo u0 ms) (hgr : W.grownBy w v0.ownBlock) (hat : u0.ownBlock = v0.ownBlock ∨ ∃ b, u0.ownBlock = some b ∧ W.heap.size ≤ b) : TW g lo w u0 v1 ms vs := by
  have h1 := own_ex h.r1 (Ex.of_grown hgr) (fun i hi e => h.ap i e.symm hi)
  refine ⟨hO, h1, fun b hb => ?_, h.n1, fun b hb => ?_⟩
  · rcases hat with e | ⟨b', e, hb'⟩
    · exact h.n0 b (e ▸ hb)
    · rw [e] at hb; cases hb; omega
  · rcases hat with e | ⟨b', e, hb'⟩
    · exact h.ap b (e ▸ hb)
    · rw [e] at hb; cases hb; intro hv; have := own_lt h.r1 _ hv; omega
theorem TW.app1 {g lo : Nat} {W w : World} {v0 v1 u1 : Value} {ns vs ms : List Int} (h : TW g lo W v0 v1 ns vs) (hg : g < W.heap.size) (hO : OI w lo u1 ms) (hgr : W.grownBy w v1.ownBlock) (hat : u1.ownBlock = v1.ownBlock ∨ ∃ b, u1.ownBlock = some b ∧ W.heap.size ≤ b) : TW g lo w v0 u1 ns ms := by
  have h0 := own_ex h.r0 (Ex.of_grown hgr) (fun i hi e => h.ap i hi e.symm)
  refine ⟨h0, hO, h.n0, fun b hb => ?_, fun b hb hv => ?_⟩
  · rcases hat with e | ⟨b', e, hb'⟩
    · exact h.n1 b (e ▸ hb)
    · rw [e] at hb; cases hb; omega
  · rcases hat with e | ⟨b', e, hb'⟩
    · exact h.ap b hb (e ▸ hv)
    · rw [e] at hv; cases hv; have := own_lt h.r0 _ hb; omega
end Go.Proofs.YtgemaohdlibboaaGreatDoor.H
/- Walks: the draw of a substitution. What is told: sizes and ranges. No condition. -/
namespace Go.Proofs.YtgemaohdlibboaaGreatDoor.H
open Go Go.RowKit Go.Proofs.YtgemaohdlibboaaGreatDoorW.PrintWords Go.Proofs.YtgemaohdlibboaaGreatDoorW.PrintLast
open Go.Proofs.YtgemaohdlibboaaGreatDoor.Reg (On on_draw)
set_option maxHeartbeats 4000000
set_option maxRecDepth 100000
set_option linter.unusedVariables false
set_option linter.unusedSimpArgs false

theorem TW.nil (g lo : Nat) (w : World) : TW g lo w (.slice none 0 0) (.slice none 0 0) [] [] :=
  ⟨World.ownsRow_nil _ _ _ _, World.ownsRow_nil _ _ _ _, by intro b h; simp [Value.ownBlock] at h, by intro b h; simp [Value.ownBlock] at h, by intro b h; simp [Value.ownBlock] at h⟩
abbrev AnyS (lo m : Nat) (v : Value) (w : World) : Prop := ∃ A0 c0 A1 c1 ns vs, v = .agg #[.slice A0 ns.length c0, .slice A1 vs.length c1] ∧ OI w lo (.slice A0 ns.length c0) ns ∧ OI w lo (.slice A1 vs.length c1) vs ∧ InR ns ∧ InR vs ∧ ns.length ≤ m ∧ vs.length = ns.length
theorem sub_end {w0 w wz : World} {q m : Nat} {A0 A1 : Option Addr} {d0 d1 : Nat} {ns vs : List Int} (hqw : q < w.heap.size) (hq0 : w0.heap.size ≤ q) (h0 : OI wz (w.heap.size + 1) (.slice A0 ns.length d0) ns) (h1 : OI wz (w.heap.size + 1) (.slice A1 vs.length d1) vs) (hi0 : InR ns) (hi1 : InR vs) (hm : ns.length ≤ m) (hl : vs.length = ns.length) (hC : Cu w0 wz q) (hE : Ex (fun b => b = q) w wz) :
    Dr w0 w q (AnyS w.heap.size m) (.returned (.agg #[.slice A0 ns.length d0, .slice A1 vs.length d1])) ((wz.setCell ⟨w.heap.size, 0, none⟩ (.slice A0 ns.length d0)).setCell ⟨w.heap.size, 1, none⟩ (.slice A1 vs.length d1)) := by
  have EE := (Ex.set wz ⟨w.heap.size, 0, none⟩ (.slice A0 ns.length d0)).trans (Ex.set _ ⟨w.heap.size, 1, none⟩ (.slice A1 vs.length d1)) (fun _ _ h => h)
  exact ⟨_, rfl, ⟨A0, d0, A1, d1, ns, vs, rfl, own_lower (own_ex h0 EE (fun i hi e => by have := own_base h0 i hi; have e' : i = w.heap.size := e; omega)) (by omega), own_lower (own_ex h1 EE (fun i hi e => by have := own_base h1 i hi; have e' : i = w.heap.size := e; omega)) (by omega), hi0, hi1, hm, hl⟩,
    hC.ex EE (fun b hb => by have e' : b = w.heap.size := hb; omega), hE.trans EE (fun i hi h => by have e' : i = w.heap.size := h; omega)⟩
theorem l6Sub_calls (w0 w : World) (q : Nat) (hC : Cu w0 w q) (m : Nat) (hm : m ≤ 100) :
    Calls Tryz.prog 77 #[.pointer (some ⟨q, 0, none⟩), .int .i64 m] w (Dr w0 w q (AnyS w.heap.size m)) := by
  have hC' := Aside0.mk hC
  have hqw := Aside0.mk hC.lt
  have hq0 := Aside0.mk hC.lo
  have hm' := Aside0.mk hm
  have hL := Aside0.mk (loc2 w #[.slice none 0 0, .slice none 0 0] #[.slice none 0 0, .slice none 0 0] 41 41)
  have hb0 := Aside0.mk (On.alloc (On.alloc (On.refl w) (.cells #[.slice none 0 0, .slice none 0 0] 41 (0, 0))) (.cells #[.slice none 0 0, .slice none 0 0] 41 (0, 0)))
  have hfill := alloc_fill (w.alloc (.cells #[.slice none 0 0, .slice none 0 0] 41 (0, 0)))
  clear hC hm
  go_enter Tryz.func77, Tryz.ntmps77
  go_wp2
  clear hfill
  obtain ⟨wa, hwa⟩ : ∃ wa, (w.alloc (.cells #[.slice none 0 0, .slice none 0 0] 41 (0, 0))).alloc (.cells #[.slice none 0 0, .slice none 0 0] 41 (0, 0)) = wa := ⟨_, rfl⟩
  rw [hwa] at hL hb0 ⊢
  clear hwa
  obtain ⟨g5, hg5⟩ : ∃ g5, w.heap.size + 1 = g5 := ⟨_, rfl⟩
  have hg := Aside0.mk hg5
  rw [hg5] at hL ⊢
  clear hg5
  go_loopw [6] (fun v6 wr => ∃ (k : Nat) (ns vs : List Int) (A0 : Option Addr) (d0 : Nat) (A1 : Option Addr) (d1 : Nat), v6 = .int .i64 k ∧ k ≤ m ∧ wr.heap[g5]? = some (.cells #[.slice A0 ns.length d0, .slice A1 vs.length d1] 41 (0, 0)) ∧ wr.heap[w.heap.size]? = some (.cells #[.slice none 0 0, .slice none 0 0] 41 (0, 0)) ∧ TW g5 (w.heap.size + 1) wr (.slice A0 ns.length d0) (.slice A1 vs.length d1) ns vs ∧ InR ns ∧ InR vs ∧ vs.length = ns.length ∧ ns.length ≤ k ∧ Cu w0 wr q ∧ Ex (fun b => b = q) w wr) (fun v6 _ => m - (intOf v6).toNat)
  case atStart => exact ⟨0, [], [], none, 0, none, 0, rfl, Nat.zero_le _, hL.out.2.1, hL.out.1, TW.nil _ _ _, fun _ h => absurd h (by simp), fun _ h => absurd h (by simp), rfl, Nat.le_refl _, hC'.out.next hb0.out, Ex.of_on hb0.out⟩
  case round =>
    obtain ⟨k, ns, vs, A0, d0, A1, d1, rfl, hk, hb5, hbr, hT, hi0, hi1, hll, hlk, hC, hE⟩ := hrel
    have hk' := Aside0.mk hk
    have hb5' := Aside0.mk hb5
    have hbr' := Aside0.mk hbr
    have hT' := Aside0.mk hT
    have hi0' := Aside0.mk hi0
    have hi1' := Aside0.mk hi1
    have hll' := Aside0.mk hll
    have hlk' := Aside0.mk hlk
    have hC1 := Aside0.mk hC
    have hE1 := Aside0.mk hE
    clear hk hb5 hbr hT hi0 hi1 hll hlk hC hE
    by_cases hlt : k < m
    · have hlt' := Aside0.mk hlt
      have hwk := Aside0.mk (show wrap64 ((k : Int) + 1) = ((k + 1 : Nat) : Int) by have := hm'.out; rw [IntWalk.wrap64_in _ (by omega)]; omega)
      have hcb : decide ((k : Int) < (m : Int)) = true := decide_eq_true (by omega)
      have hcn : decide (k < m) = true := decide_eq_true hlt
      clear hlt
      go_wp2_with (go_at_call 66; refine Stop.out ?_)
      refine ⟨(l1Once_calls w0 _ q hC1.out 2 (by omega) (by omega)).mono ?_⟩
      rintro e w2 ⟨v, rfl, ⟨b, rfl⟩, hC2, hE2⟩
      have hC2' := Aside0.mk hC2
      have hE2' := Aside0.mk (hE1.out.trans hE2 fun _ _ h => h)
      have hb52 := Aside0.mk (blk_ex hE2 hb5'.out (by have := hqw.out; have := hg.out; omega))
      have hbr2 := Aside0.mk (blk_ex hE2 hbr'.out (by have := hqw.out; omega))
      have hT2 := Aside0.mk (hT'.out.ex hE2 fun b hb => .inl (by have := hqw.out; omega))
      clear hC2 hE2
      cases b with
      | false =>
        go_wp2
        refine ⟨⟨k + 1, ns, vs, A0, d0, A1, d1, by rw [hwk.out], by have := hlt'.out; omega, hb52.out, hbr2.out, hT2.out, hi0'.out, hi1'.out, hll'.out, by have := hlk'.out; omega, hC2'.out, hE2'.out⟩, ?_⟩
        rw [hwk.out]
        have := hlt'.out
        simp [intOf]
        omega
      | true =>
        have hd0 := blk_cell hb52.out
        have hf0 := blk_frozen hb52.out
        go_wp2_with (refine gate 19 ?_)
        have hI5 := Aside0.mk (lit_I w2 k (by have := hlt'.out; have := hm'.out; omega))
        have hS5 := Aside0.mk (On.alloc (On.refl w2) (.cells #[.int .i64 k] 3 (0, 0)))
        have hT5 := Aside0.mk (hT2.out.on hS5.out)
        have hlt5 := Aside0.mk (blk_lt (blk_below hb52.out hS5.out))
        obtain ⟨ms, hms⟩ : ∃ ms, ns ++ [(k : Int)] = ms := ⟨_, rfl⟩
        refine ⟨apI 19 hms (OI.to hT5.out.r0) hI5.out.2.1 (by have := hlt5.out; have := hg.out; omega) (by have := hlk'.out; have := hlt'.out; have := hm'.out; simp; omega) fun v6 w6 hO6 hg6 hat6 => ?_⟩
        have hO6' := Aside0.mk (OI.of hO6)
        have hT6 := Aside0.mk (hT5.out.app0 hlt5.out (OI.of hO6) hg6 (hat6.imp id fun ⟨b, e, h⟩ => ⟨b, e, h⟩))
        have hS6 := Aside0.mk (Ex.of_grown hg6)
        have hb56 := Aside0.mk (blk_ex hS6.out (blk_below hb52.out hS5.out) (fun e => hT5.out.n0 _ e.symm rfl))
        have hbr6 := Aside0.mk (blk_ex hS6.out (blk_below hbr2.out hS5.out) (fun e => by have := own_base hT5.out.r0 _ e.symm; omega))
        have hml := Aside0.mk (show ms.length = ns.length + 1 by rw [← hms]; simp)
        have hmi := Aside0.mk (show InR ms by rw [← hms]; intro z hz; exact (List.mem_append.1 hz).elim (hi0'.out z) (fun h => by rw [List.mem_singleton.1 h]; have := hlt'.out; have := hm'.out; omega))
        clear hO6 hg6 hat6 hms hd0 hf0
        obtain ⟨A6, c6, rfl⟩ := own_slice hO6'.out
        have hd6 := blk_cell hb56.out
        have hf6 := blk_frozen hb56.out
        have EX := Aside0.mk (Ex.set w6 ⟨g5, 0, none⟩ (.slice A6 ms.length c6))
        obtain ⟨X, hX⟩ : ∃ X, w6.setCell ⟨g5, 0, none⟩ (.slice A6 ms.length c6) = X := ⟨_, rfl⟩
        have hbX := Aside0.mk (show X.heap[g5]? = some (.cells #[.slice A6 ms.length c6, .slice A1 vs.length d1] 41 (0, 0)) from hX ▸ blk_set hb56.out 0 _)
        have hbXs := Aside0.mk (show (w6.setCell ⟨g5, 0, none⟩ (.slice A6 ms.length c6)).heap[g5]? = some (.cells #[.slice A6 ms.length c6, .slice A1 vs.length d1] 41 (0, 0)) from blk_set hb56.out 0 _)
        have hX' := Aside0.mk hX
        clear hX
        go_wp2
        rw [hX'.out]
        have EX' := Aside0.mk (show Ex (fun b => b = g5) w6 X from hX'.out ▸ EX.out)
        have hq1 := Aside0.mk (show q < w.heap.size ∧ w.heap.size + 1 = g5 ∧ w0.heap.size ≤ q from ⟨hqw.out, hg.out, hq0.out⟩)
        have hbrX := Aside0.mk (blk_ex EX'.out hbr6.out (by have := hg.out; omega))
        have hTX := Aside0.mk (hT6.out.ex EX'.out fun b hb => .inr hb)
        have hCX := Aside0.mk (((hC2'.out.next hS5.out).ex hS6.out (fun b hb => by have := own_base hT5.out.r0 b hb.symm; have := hq1.out; omega)).ex EX'.out (fun b hb => by have := hq1.out; omega))
        have hEX := Aside0.mk (((hE2'.out.then_on hS5.out).trans hS6.out (fun i hi h => by have := own_base hT5.out.r0 i h.symm; omega)).trans EX'.out (fun i hi h => by have := hq1.out; omega))
        clear hd6 hf6
        refine Reg.regionG (fun w' => w'.heap[g5]? = some (.cells #[.slice A6 ms.length c6, .slice A1 vs.length d1] 41 (0, 0))) [0,1,2,3] [4,5,6,7,8] 8 (by kernel_rfl) (by kernel_rfl) hbX.out ?_
        repeat refine Reg.sG ?_
        refine Reg.startG ?_
        obtain ⟨w7, hw7⟩ : ∃ w7, ({ X with drawn := X.drawn + 1 } : World) = w7 := ⟨_, rfl⟩
        have hS7 := Aside0.mk (show On X w7 from (hw7 ▸ on_draw X))
        rw [hw7]
        clear hw7
        refine Reg.tG ?_
        go_wp2_with (go_at_call 148; refine Stop.out ?_)
        refine ⟨(l4Value_calls w0 _ q (hCX.out.next hS7.out) m (by omega) (by have := hm'.out; omega)).mono ?_⟩
        rintro e w8 ⟨v, rfl, ⟨x, rfl, hx⟩, hC8, hE8⟩
        have hx' := Aside0.mk hx
        have hC8' := Aside0.mk hC8
        have hE8x := Aside0.mk ((Ex.of_on (S := fun b => b = q) hS7.out).trans hE8 fun _ _ h => h)
        have hE8' := Aside0.mk (hEX.out.trans hE8x.out fun _ _ h => h)
        have hb8 := Aside0.mk (blk_ex hE8x.out hbX.out (by have := hq1.out; omega))
        have hbr8 := Aside0.mk (blk_ex hE8x.out hbrX.out (by have := hq1.out; omega))
        have hT8 := Aside0.mk (hTX.out.ex hE8x.out fun b hb => .inl (by have := hq1.out; omega))
        clear hC8 hE8 hx
        go_wp2
        refine ⟨hb8.out, ?_⟩
        refine Reg.tG ?_
        go_wp2
        have hI9 := Aside0.mk (lit_I w8 x (by have := hx'.out; omega))
        have hS9 := Aside0.mk (On.alloc (On.refl w8) (.cells #[.int .i64 x] 3 (0, 0)))
        have hT9 := Aside0.mk (hT8.out.on hS9.out)
        have hlt9 := Aside0.mk (blk_lt (blk_below hb8.out hS9.out))
        refine ⟨blk_below hb8.out hS9.out, ?_⟩
        refine Reg.tG ?_
        obtain ⟨us, hus⟩ : ∃ us, vs ++ [x] = us := ⟨_, rfl⟩
        refine apI 27 hus (OI.to hT9.out.r1) hI9.out.2.1 (by have := hlt9.out; have := hq1.out; omega) (by have := hll'.out; have := hlk'.out; have := hlt'.out; have := hm'.out; simp; omega) fun v10 w10 hO10 hg10 hat10 => ?_
        have hO10' := Aside0.mk (OI.of hO10)
        have hT10 := Aside0.mk (hT9.out.app1 hlt9.out (OI.of hO10) hg10 (hat10.imp id fun ⟨b, e, h⟩ => ⟨b, e, h⟩))
        have hS10 := Aside0.mk (Ex.of_grown hg10)
        have hb10 := Aside0.mk (blk_ex hS10.out (blk_below hb8.out hS9.out) (fun e => hT9.out.n1 _ e.symm rfl))
        have hbr10 := Aside0.mk (blk_ex hS10.out (blk_below hbr8.out hS9.out) (fun e => by have := own_base hT9.out.r1 _ e.symm; omega))
        have hul := Aside0.mk (show us.length = vs.length + 1 by rw [← hus]; simp)
        have hui := Aside0.mk (show InR us by rw [← hus]; intro z hz; exact (List.mem_append.1 hz).elim (hi1'.out z) (fun h => by rw [List.mem_singleton.1 h]; have := hx'.out; omega))
        clear hO10 hg10 hat10 hus
        obtain ⟨A10, c10, rfl⟩ := own_slice hO10'.out
        refine ⟨hb10.out, ?_⟩
        have hd6 := blk_cell hb10.out
        have hf6 := blk_frozen hb10.out
        simp only [Act.put, List.setIfInBounds_toArray, List.set_cons_zero, List.set_cons_succ]
        refine Reg.tG ?_
        go_wp2
        refine ⟨hb10.out, ?_⟩
        refine Reg.tE ?_
        go_wp2
        have EY := Ex.set w10 ⟨g5, 1, none⟩ (.slice A10 us.length c10)
        have hq2 := hq1.out
        refine ⟨⟨k + 1, ms, us, A6, c6, A10, c10, by rw [hwk.out], by have := hlt'.out; omega, blk_set hb10.out 1 _, blk_ex EY hbr10.out (fun e => by have e' : w.heap.size = g5 := e; omega), hT10.out.ex EY (fun b hb => .inr hb), hmi.out, hui.out, by have := hml.out; have := hul.out; have := hll'.out; omega, by have := hml.out; have := hlk'.out; omega,
          ((hC8'.out.next hS9.out).ex hS10.out (fun b hb => by have := own_base hT9.out.r1 b hb.symm; omega)).ex EY (fun b hb => by have e' : b = g5 := hb; omega),
          ((hE8'.out.then_on hS9.out).trans hS10.out (fun i hi h => by have := own_base hT9.out.r1 i h.symm; omega)).trans EY (fun i hi h => by have e' : i = g5 := h; omega)⟩, ?_⟩
        rw [hwk.out]
        have := hlt'.out
        simp [intOf]
        omega
    · have hcb : decide ((k : Int) < (m : Int)) = false := decide_eq_false (by omega)
      have hcn : decide (k < m) = false := decide_eq_false hlt
      have hlm := Aside0.mk (show ns.length ≤ m by have := hlk'.out; have := hk'.out; omega)
      clear hlt
      by_cases hv : 0 < vs.length
      · have hv' := Aside0.mk hv
        have hvb : decide ((0 : Int) < (vs.length : Int)) = true := decide_eq_true (by omega)
        have hvn : decide (0 < vs.length) = true := decide_eq_true hv
        clear hv
        have hd0 := blk_cell hb5'.out
        go_wp2_with (go_at_call 66; refine Stop.out ?_)
        refine ⟨(l1Once_calls w0 _ q hC1.out 14 (by omega) (by omega)).mono ?_⟩
        rintro e w2 ⟨v, rfl, ⟨b, rfl⟩, hC2, hE2⟩
        have hC2' := Aside0.mk hC2
        have hE2' := Aside0.mk (hE1.out.trans hE2 fun _ _ h => h)
        have hb2 := Aside0.mk (blk_ex hE2 hb5'.out (by have := hqw.out; have := hg.out; omega))
        have hr2 := Aside0.mk (blk_ex hE2 hbr'.out (by have := hqw.out; omega))
        have hT2 := Aside0.mk (hT'.out.ex hE2 fun b hb => .inl (by have := hqw.out; omega))
        clear hC2 hE2 hd0
        have hd0 := blk_cell hb2.out
        cases b with
        | false =>
          have hd1 := blk_cell hr2.out
          have hf1 := blk_frozen hr2.out
          go_wp2
          refine bodyPost_ret (retSu rfl rfl (g := w.heap.size) (blk_set (blk_set hr2.out 0 _) 1 _) rfl) rfl ?_
          exact sub_end hqw.out hq0.out hT2.out.r0 hT2.out.r1 hi0'.out hi1'.out hlm.out hll'.out hC2'.out hE2'.out
        | true =>
          obtain ⟨y0, ys, rfl⟩ : ∃ y0 ys, vs = y0 :: ys := by
            cases vs with
            | nil => have := hv'.out; simp at this
            | cons a b => exact ⟨a, b, rfl⟩
          obtain ⟨gr, rfl, hgr1, hgr2, -⟩ := OI.set0 hT2.out.r1
          have hgr := Aside0.mk (show w.heap.size + 1 ≤ gr ∧ gr ≠ g5 from ⟨hgr1, hT2.out.n1 gr rfl⟩)
          clear hgr1 hgr2
          go_wp2
          refine Reg.regionG (fun w' => w'.heap[g5]? = some (.cells #[.slice A0 ns.length d0, .slice (some ⟨gr, 0, none⟩) (y0 :: ys).length d1] 41 (0, 0))) [0,1,2] [3,4,5,6] 6 (by kernel_rfl) (by kernel_rfl) hb2.out ?_
          repeat refine Reg.sG ?_
          refine Reg.startG ?_
          obtain ⟨w4, hw4⟩ : ∃ w4, ({ w2 with drawn := w2.drawn + 1 } : World) = w4 := ⟨_, rfl⟩
          have hS4 := Aside0.mk (show On w2 w4 from (hw4 ▸ on_draw w2))
          rw [hw4]
          clear hw4 hd0
          refine Reg.tG ?_
          go_wp2
          have hlt := Aside0.mk (show OI (w4.alloc (.cells #[.int .i64 10, .int .i64 (-41)] 3 (0, 0))) w4.heap.size (.slice (some ⟨w4.heap.size, 0, none⟩) 2 2) [10, -41] from lit_own w4 #[.int .i64 10, .int .i64 (-41)] 3 1 2 w4.heap.size (Nat.le_refl _) (by omega) rfl)
          have hS5 := Aside0.mk (hS4.out.trans (On.alloc (On.refl w4) (.cells #[.int .i64 10, .int .i64 (-41)] 3 (0, 0))))
          have hqs := Aside0.mk (show q < w4.heap.size from (hC2'.out.next hS4.out).lt)
          refine ⟨blk_below hb2.out hS5.out, ?_⟩
          refine Reg.tG ?_
          go_wp2_with (go_at_call 149; refine Stop.out ?_)
          refine ⟨(l1PickInt_calls w0 _ q (hC2'.out.next hS5.out) (some ⟨w4.heap.size, 0, none⟩) 2 [10, -41] (fun w' k => (OI.same (own_ex hlt.out k (fun i hi e => by have := own_base hlt.out i hi; have := hqs.out; omega)) (fun z hz => by simp at hz; omega)).2) (by simp) (by simp)).mono ?_⟩
          rintro e w6 ⟨v, rfl, ⟨x, rfl, hx⟩, hC6, hE6⟩
          have hx' := Aside0.mk (show -41 ≤ x ∧ x ≤ 10 by simp at hx; omega)
          have hC6' := Aside0.mk hC6
          have hE6' := Aside0.mk ((Ex.of_on (S := fun b => b = q) hS5.out).trans hE6 fun _ _ h => h)
          have hg6 := Aside0.mk (blk_ex hE6'.out hb2.out (by have := hqw.out; have := hg.out; omega))
          have hr6 := Aside0.mk (blk_ex hE6'.out hr2.out (by have := hqw.out; omega))
          have hT6 := Aside0.mk (hT2.out.ex hE6'.out fun b hb => .inl (by have := hqw.out; omega))
          clear hC6 hE6 hx
          obtain ⟨gr', hgr', -, -, ⟨z, hz⟩, hfz, hset⟩ := OI.set0 hT6.out.r1
          obtain rfl : gr = gr' := by injection hgr' with e; injection e
          clear hgr'
          have hset' := Aside0.mk (hset x)
          clear hset
          go_wp2
          refine ⟨hg6.out, ?_⟩
          refine Reg.tG ?_
          go_wp2
          refine ⟨hg6.out, ?_⟩
          refine Reg.tE ?_
          have hx6 := Aside0.mk (show (w6.setCell ⟨gr, 0, none⟩ (.int .i64 x)).heap[w.heap.size]? = _ from blk_far hr6.out (by show ¬ _; simp; have := hgr.out; omega) _)
          have hy6 := Aside0.mk (show (w6.setCell ⟨gr, 0, none⟩ (.int .i64 x)).heap[g5]? = _ from blk_far hg6.out (by show ¬ _; simp; have := hgr.out; omega) _)
          have hd0 := blk_cell hy6.out
          have hd1 := blk_cell hx6.out
          have hf1 := blk_frozen hx6.out
          go_wp2
          refine bodyPost_ret (retSu rfl rfl (g := w.heap.size) (blk_set (blk_set hx6.out 0 _) 1 _) rfl) rfl ?_
          have EX := Ex.set w6 ⟨gr, 0, none⟩ (.int .i64 x)
          have hb1 := hgr.out
          have hb3 := hqw.out
          have hb4 := hq0.out
          exact sub_end (vs := x :: ys) hqw.out hq0.out (own_ex hT6.out.r0 EX (fun i hi e => by have e' : i = gr := e; exact hT6.out.ap i hi (by rw [e']; rfl))) hset'.out hi0'.out (fun z hz => (List.mem_cons.1 hz).elim (fun e => by have := hx'.out; omega) (fun h => hi1'.out z (List.mem_cons_of_mem _ h))) hlm.out (by have := hll'.out; simp at this ⊢; omega) (hC6'.out.ex EX (fun b hb => by have e' : b = gr := hb; omega)) ((hE2'.out.trans hE6'.out fun _ _ h => h).trans EX (fun i hi h => by have e' : i = gr := h; omega))
      · have hvb : decide ((0 : Int) < (vs.length : Int)) = false := decide_eq_false (by omega)
        have hvn : decide (0 < vs.length) = false := decide_eq_false hv
        clear hv
        have hd0 := blk_cell hb5'.out
        have hd1 := blk_cell hbr'.out
        have hf1 := blk_frozen hbr'.out
        go_wp2
        refine bodyPost_ret (retSu rfl rfl (g := w.heap.size) (blk_set (blk_set hbr'.out 0 _) 1 _) rfl) rfl ?_
        exact sub_end hqw.out hq0.out hT'.out.r0 hT'.out.r1 hi0'.out hi1'.out hlm.out hll'.out hC1.out hE1.out
end Go.Proofs.YtgemaohdlibboaaGreatDoor.H
/- Walks: the reference composes substitutions: that it does, and whether it says yes. No condition. -/
namespace Go.Proofs.YtgemaohdlibboaaGreatDoor.H
open Go Go.RowKit Go.Proofs.YtgemaohdlibboaaGreatDoorW.PrintWords Go.Proofs.YtgemaohdlibboaaGreatDoorW.PrintLast
open Go.Proofs.YtgemaohdlibboaaGreatDoor.Reg (On on_draw)
set_option maxHeartbeats 8000000
set_option maxRecDepth 100000
set_option linter.unusedVariables false
set_option linter.unusedSimpArgs false

section
variable {fn : Func} {p u : Tmp} {tmps : Array Value} {w : World} {g : Nat} {t : TypeId} {cs : Array Value} {fr : Nat × Nat}
theorem retSB2 (h : fn.results = #[.cell p 41, .tmp u]) (hp : tmps.getD p undef = .pointer (some ⟨g, 0, none⟩)) (hg : w.heap[g]? = some (.cells cs t fr)) (hs : cs.size = 2) : (results fn tmps).run Tryz.prog w = .ok (.tuple #[.agg cs, tmps.getD u undef]) w :=
  results_ct h tmps w g t cs fr _ hp hg Tryz.underlying41 rfl (by rw [hs]; kernel_rfl)
end
theorem l4HasB_calls (w : World) (A c) (xs : List Int) (y : Int) (h : Ints w A c xs) : Calls Tryz.prog 88 #[.slice A xs.length c, .int .i64 y] w fun e w' => (∃ b : Bool, e = .returned (.bool b)) ∧ On w w' := by
  have hmax := h.max
  go_enter Tryz.func88, Tryz.ntmps88
  go_wp2
  go_loopw [5] (fun v wr => ∃ k : Nat, k ≤ xs.length ∧ v = .int .i64 k ∧ On w wr) (fun v _ => xs.length - (intOf v).toNat)
  case atStart => exact ⟨0, Nat.zero_le _, rfl, On.refl _⟩
  case round =>
    obtain ⟨k, hk, rfl, hB⟩ := hrel
    by_cases hlt : k < xs.length
    · obtain ⟨ad, rfl, hx⟩ := (h.on hB).at k hlt
      by_cases hq : xs[k] = y
      · have hqb : (xs[k] == y) = true := by simp [hq]
        have hq' := Aside0.mk hq
        clear hq
        go_wp2
        go_ret
        exact ⟨⟨true, rfl⟩, hB⟩
      · have hqb : (xs[k] == y) = false := by simpa using hq
        have hq' := Aside0.mk hq
        clear hq
        go_wp2
        exact ⟨⟨k + 1, by omega, by go_num, hB⟩, by simp [intOf]; omega⟩
    · go_wp2
      go_ret
      exact ⟨⟨false, rfl⟩, hB⟩
theorem sCompose_calls (w : World) (V U : Value) (an av bn bv : List Int) (h : RSu w V an av) (k : RSu w U bn bv) :
    Calls Tryz.prog 27 #[V, U] w (Got fun r w' => ∃ A n c B m d, r = .tuple #[.agg #[.slice A n c, .slice B m d], .bool (okSub an av && okSub bn bv)] ∧ On w w') := by
  obtain ⟨A0, c0, A1, c1, rfl, h0, h1⟩ := h.out
  obtain ⟨B0, d0, B1, d1, rfl, k0, k1⟩ := k.out
  have h0' := Aside0.mk h0
  have h1' := Aside0.mk h1
  have k0' := Aside0.mk k0
  have k1' := Aside0.mk k1
  clear h0 h1 k0 k1 h k
  have hb := Aside0.mk (On.alloc (On.alloc (On.alloc (On.refl w) (.cells #[.slice A0 an.length c0, .slice A1 av.length c1] 41)) (.cells #[.slice B0 bn.length d0, .slice B1 bv.length d1] 41)) (.cells #[.slice none 0 0, .slice none 0 0] 41))
  have hL := Aside0.mk (loc3 w #[.slice A0 an.length c0, .slice A1 av.length c1] #[.slice B0 bn.length d0, .slice B1 bv.length d1] #[.slice none 0 0, .slice none 0 0] 41 41 41)
  have hsz3 := Aside0.mk (show (((w.alloc (.cells #[.slice A0 an.length c0, .slice A1 av.length c1] 41)).alloc (.cells #[.slice B0 bn.length d0, .slice B1 bv.length d1] 41)).alloc (.cells #[.slice none 0 0, .slice none 0 0] 41)).heap.size = w.heap.size + 3 by simp)
  have hfill := alloc_fill (((w.alloc (.cells #[.slice A0 an.length c0, .slice A1 av.length c1] 41)).alloc (.cells #[.slice B0 bn.length d0, .slice B1 bv.length d1] 41)).alloc (.cells #[.slice none 0 0, .slice none 0 0] 41))
  obtain ⟨r, hr⟩ : ∃ r, (okSub an av && okSub bn bv) = r := ⟨_, rfl⟩
  rw [hr]
  cases ha : okSub an av with
  | false =>
    have hno := Aside0.mk (show r = false by rw [← hr, ha]; rfl)
    have ha' := Aside0.mk ha
    clear ha hr
    go_enter Tryz.func27, Tryz.ntmps27
    go_wp2_with (go_at_call 29; refine Stop.out ?_)
    clear hfill
    obtain ⟨Wx, hWx⟩ : ∃ Wx, ((w.alloc (.cells #[.slice A0 an.length c0, .slice A1 av.length c1] 41 (0, 0))).alloc (.cells #[.slice B0 bn.length d0, .slice B1 bv.length d1] 41 (0, 0))).alloc (.cells #[.slice none 0 0, .slice none 0 0] 41 (0, 0)) = Wx := ⟨_, rfl⟩
    rw [hWx] at hb hL hsz3 ⊢
    clear hWx
    have hyb := Aside0.mk (show (Wx.alloc (.cells #[.slice none 0 0, .slice none 0 0] 41 (0, 0))).heap[w.heap.size + 1 + 1 + 1]? = some (.cells #[.slice none 0 0, .slice none 0 0] 41 (0, 0)) from by have h := loc_new Wx #[.slice none 0 0, .slice none 0 0] 41; rw [hsz3.out] at h; exact h)
    have hBy := Aside0.mk (On.alloc (On.refl Wx) (.cells #[.slice none 0 0, .slice none 0 0] 41 (0, 0)))
    obtain ⟨Wy, hWy⟩ : ∃ Wy, Wx.alloc (.cells #[.slice none 0 0, .slice none 0 0] 41 (0, 0)) = Wy := ⟨_, rfl⟩
    rw [hWy] at hyb hBy ⊢
    clear hWy
    refine ⟨(sIsValidSub_calls _ A0 c0 A1 c1 an av (h0'.out.on (hb.out.trans hBy.out)) (h1'.out.on (hb.out.trans hBy.out))).mono ?_⟩
    rintro e w1 ⟨rfl, hb1⟩
    rw [ha'.out]
    have hW1 := Aside0.mk ((hb.out.trans hBy.out).trans hb1)
    have hy1 := Aside0.mk (blk_below hyb.out hb1)
    have hr1 := Aside0.mk (blk_below (blk_below hL.out.2.2.1 hBy.out) hb1)
    have hx1 := Aside0.mk (hBy.out.trans hb1)
    have hB1 := Aside0.mk (blk_below (blk_below hL.out.2.1 hBy.out) hb1)
    clear hb1
    have hcr := blk_cell hy1.out
    have hdr := blk_cell hr1.out
    have hfr := blk_frozen hr1.out
    go_wp2
    refine bodyPost_ret (retSB2 rfl rfl (g := w.heap.size + 1 + 1) (blk_set (blk_set hr1.out 0 _) 1 _) rfl) rfl ?_
    exact ⟨_, rfl, _, _, _, _, _, _, congrArg (fun b => Value.tuple #[_, .bool b]) hno.out.symm, Reg.On.set (Reg.On.set hW1.out (by simp; omega) _) (by simp; omega) _⟩
  | true =>
    cases hbb : okSub bn bv with
    | false =>
      have hno := Aside0.mk (show r = false by rw [← hr, ha, hbb]; rfl)
      have ha' := Aside0.mk ha
      have hb' := Aside0.mk hbb
      clear ha hbb hr
      go_enter Tryz.func27, Tryz.ntmps27
      go_wp2_with (go_at_call 29; refine Stop.out ?_)
      clear hfill
      obtain ⟨Wx, hWx⟩ : ∃ Wx, ((w.alloc (.cells #[.slice A0 an.length c0, .slice A1 av.length c1] 41 (0, 0))).alloc (.cells #[.slice B0 bn.length d0, .slice B1 bv.length d1] 41 (0, 0))).alloc (.cells #[.slice none 0 0, .slice none 0 0] 41 (0, 0)) = Wx := ⟨_, rfl⟩
      rw [hWx] at hb hL hsz3 ⊢
      clear hWx
      have hyb := Aside0.mk (show (Wx.alloc (.cells #[.slice none 0 0, .slice none 0 0] 41 (0, 0))).heap[w.heap.size + 1 + 1 + 1]? = some (.cells #[.slice none 0 0, .slice none 0 0] 41 (0, 0)) from by have h := loc_new Wx #[.slice none 0 0, .slice none 0 0] 41; rw [hsz3.out] at h; exact h)
      have hBy := Aside0.mk (On.alloc (On.refl Wx) (.cells #[.slice none 0 0, .slice none 0 0] 41 (0, 0)))
      obtain ⟨Wy, hWy⟩ : ∃ Wy, Wx.alloc (.cells #[.slice none 0 0, .slice none 0 0] 41 (0, 0)) = Wy := ⟨_, rfl⟩
      rw [hWy] at hyb hBy ⊢
      clear hWy
      refine ⟨(sIsValidSub_calls _ A0 c0 A1 c1 an av (h0'.out.on (hb.out.trans hBy.out)) (h1'.out.on (hb.out.trans hBy.out))).mono ?_⟩
      rintro e w1 ⟨rfl, hb1⟩
      rw [ha'.out]
      have hW1 := Aside0.mk ((hb.out.trans hBy.out).trans hb1)
      have hy1 := Aside0.mk (blk_below hyb.out hb1)
      have hr1 := Aside0.mk (blk_below (blk_below hL.out.2.2.1 hBy.out) hb1)
      have hx1 := Aside0.mk (hBy.out.trans hb1)
      have hB1 := Aside0.mk (blk_below (blk_below hL.out.2.1 hBy.out) hb1)
      clear hb1
      have hd1 := blk_cell hB1.out
      go_wp2_with (go_at_call 29; refine Stop.out ?_)
      refine ⟨(sIsValidSub_calls _ B0 d0 B1 d1 bn bv (k0'.out.on hW1.out) (k1'.out.on hW1.out)).mono ?_⟩
      rintro e w2 ⟨rfl, hb2⟩
      rw [hb'.out]
      clear hd1
      replace hW1 := Aside0.mk (hW1.out.trans hb2)
      replace hy1 := Aside0.mk (blk_below hy1.out hb2)
      replace hr1 := Aside0.mk (blk_below hr1.out hb2)
      have hcr := blk_cell hy1.out
      have hdr := blk_cell hr1.out
      have hfr := blk_frozen hr1.out
      go_wp2
      refine bodyPost_ret (retSB2 rfl rfl (g := w.heap.size + 1 + 1) (blk_set (blk_set hr1.out 0 _) 1 _) rfl) rfl ?_
      exact ⟨_, rfl, _, _, _, _, _, _, congrArg (fun b => Value.tuple #[_, .bool b]) hno.out.symm, Reg.On.set (Reg.On.set hW1.out (by simp; omega) _) (by simp; omega) _⟩
    | true =>
      have hno := Aside0.mk (show r = true by rw [← hr, ha, hbb]; rfl)
      have ha' := Aside0.mk ha
      have hb' := Aside0.mk hbb
      clear ha hbb hr
      go_enter Tryz.func27, Tryz.ntmps27
      go_wp2_with (go_at_call 29; refine Stop.out ?_)
      clear hfill
      obtain ⟨Wx, hWx⟩ : ∃ Wx, ((w.alloc (.cells #[.slice A0 an.length c0, .slice A1 av.length c1] 41 (0, 0))).alloc (.cells #[.slice B0 bn.length d0, .slice B1 bv.length d1] 41 (0, 0))).alloc (.cells #[.slice none 0 0, .slice none 0 0] 41 (0, 0)) = Wx := ⟨_, rfl⟩
      rw [hWx] at hb hL hsz3 ⊢
      clear hWx
      have hyb := Aside0.mk (show (Wx.alloc (.cells #[.slice none 0 0, .slice none 0 0] 41 (0, 0))).heap[w.heap.size + 1 + 1 + 1]? = some (.cells #[.slice none 0 0, .slice none 0 0] 41 (0, 0)) from by have h := loc_new Wx #[.slice none 0 0, .slice none 0 0] 41; rw [hsz3.out] at h; exact h)
      have hBy := Aside0.mk (On.alloc (On.refl Wx) (.cells #[.slice none 0 0, .slice none 0 0] 41 (0, 0)))
      obtain ⟨Wy, hWy⟩ : ∃ Wy, Wx.alloc (.cells #[.slice none 0 0, .slice none 0 0] 41 (0, 0)) = Wy := ⟨_, rfl⟩
      rw [hWy] at hyb hBy ⊢
      clear hWy
      refine ⟨(sIsValidSub_calls _ A0 c0 A1 c1 an av (h0'.out.on (hb.out.trans hBy.out)) (h1'.out.on (hb.out.trans hBy.out))).mono ?_⟩
      rintro e w1 ⟨rfl, hb1⟩
      rw [ha'.out]
      have hW1 := Aside0.mk ((hb.out.trans hBy.out).trans hb1)
      have hy1 := Aside0.mk (blk_below hyb.out hb1)
      have hr1 := Aside0.mk (blk_below (blk_below hL.out.2.2.1 hBy.out) hb1)
      have hx1 := Aside0.mk (hBy.out.trans hb1)
      have hB1 := Aside0.mk (blk_below (blk_below hL.out.2.1 hBy.out) hb1)
      clear hb1
      have hd1 := blk_cell hB1.out
      go_wp2_with (go_at_call 29; refine Stop.out ?_)
      refine ⟨(sIsValidSub_calls _ B0 d0 B1 d1 bn bv (k0'.out.on hW1.out) (k1'.out.on hW1.out)).mono ?_⟩
      rintro e w2 ⟨rfl, hb2⟩
      rw [hb'.out]
      clear hd1
      replace hx1 := Aside0.mk (hx1.out.trans hb2)
      replace hy1 := Aside0.mk (blk_below hy1.out hb2)
      clear hb2 hW1 hr1 hB1
      go_wp2
      obtain ⟨g6, hg6⟩ : ∃ g6, w.heap.size + 1 + 1 + 1 = g6 := ⟨_, rfl⟩
      have hg := Aside0.mk hg6
      rw [hg6] at hy1 ⊢
      clear hg6
      have hgs := Aside0.mk (show Wx.heap.size = g6 by rw [hsz3.out, ← hg.out])
      go_loopw [7] (fun v7 wr => ∃ (k : Nat) (ns vs : List Int) (C0 : Option Addr) (e0 : Nat) (C1 : Option Addr) (e1 : Nat), v7 = .int .i64 k ∧ k ≤ 40 ∧ wr.heap[g6]? = some (.cells #[.slice C0 ns.length e0, .slice C1 vs.length e1] 41 (0, 0)) ∧ TW g6 g6 wr (.slice C0 ns.length e0) (.slice C1 vs.length e1) ns vs ∧ InR ns ∧ InR vs ∧ vs.length = ns.length ∧ ns.length ≤ k ∧ On Wx wr) (fun v7 _ => 40 - (intOf v7).toNat)
      case atStart => exact ⟨0, [], [], none, 0, none, 0, rfl, Nat.zero_le _, hy1.out, TW.nil _ _ _, fun _ h => absurd h (by simp), fun _ h => absurd h (by simp), rfl, Nat.le_refl _, hx1.out⟩
      case round =>
        obtain ⟨k, ns, vs, C0, e0, C1, e1, rfl, hk, hb6, hT, hi0, hi1, hll, hlk, hE⟩ := hrel
        have hk' := Aside0.mk hk
        have hb6' := Aside0.mk hb6
        have hT' := Aside0.mk hT
        have hi0' := Aside0.mk hi0
        have hi1' := Aside0.mk hi1
        have hll' := Aside0.mk hll
        have hlk' := Aside0.mk hlk
        have hE1 := Aside0.mk hE
        clear hk hb6 hT hi0 hi1 hll hlk hE
        by_cases hlt : k < 40
        · have hlt' := Aside0.mk hlt
          have hwk := Aside0.mk (show wrap64 ((k : Int) + 1) = ((k + 1 : Nat) : Int) by rw [IntWalk.wrap64_in _ (by omega)]; omega)
          have hcb : decide ((k : Int) < 40) = true := decide_eq_true (by omega)
          have hcn : decide (k < 40) = true := decide_eq_true hlt
          clear hlt
          have hLr := Aside0.mk (Loc.on hE1.out hL.out)
          have hq2 := blk_cell hLr.out.1
          go_wp2_with (go_at_call 88; refine Stop.out ?_)
          refine ⟨(l4HasB_calls _ A0 c0 an k (h0'.out.on (hb.out.trans hE1.out))).mono ?_⟩
          rintro e w3 ⟨⟨b1, rfl⟩, hb3⟩
          clear hq2
          have hE3 := Aside0.mk (hE1.out.trans hb3)
          have hb63 := Aside0.mk (blk_below hb6'.out hb3)
          have hT3 := Aside0.mk (hT'.out.on hb3)
          clear hb3
          cases b1 with
          | true =>
            have hd0 := blk_cell hb63.out
            have hf0 := blk_frozen hb63.out
            go_wp2_with (refine gate 36 ?_)
            have hI5 := Aside0.mk (lit_I w3 k (by have := hlt'.out; omega))
            have hS5 := Aside0.mk (On.alloc (On.refl w3) (.cells #[.int .i64 k] 3 (0, 0)))
            have hT5 := Aside0.mk (hT3.out.on hS5.out)
            have hlt5 := Aside0.mk (blk_lt (blk_below hb63.out hS5.out))
            obtain ⟨ms, hms⟩ : ∃ ms, ns ++ [(k : Int)] = ms := ⟨_, rfl⟩
            refine ⟨apI 36 hms (OI.to hT5.out.r0) hI5.out.2.1 (by have := hlt5.out; omega) (by have := hlk'.out; have := hlt'.out; simp; omega) fun v6 w6 hO6 hg6 hat6 => ?_⟩
            have hO6' := Aside0.mk (OI.of hO6)
            have hT6 := Aside0.mk (hT5.out.app0 hlt5.out (OI.of hO6) hg6 (hat6.imp id fun ⟨b, e, h⟩ => ⟨b, e, h⟩))
            have hS6 := Aside0.mk (Ex.of_grown hg6)
            have hb66 := Aside0.mk (blk_ex hS6.out (blk_below hb63.out hS5.out) (fun e => hT5.out.n0 _ e.symm rfl))
            have hE6 := Aside0.mk (Ex.on (hE3.out.trans hS5.out) hS6.out (fun i e => by have h1 := own_base hT5.out.r0 i e.symm; have := hgs.out; omega))
            have hml := Aside0.mk (show ms.length = ns.length + 1 by rw [← hms]; simp)
            have hmi := Aside0.mk (show InR ms by rw [← hms]; intro z hz; exact (List.mem_append.1 hz).elim (hi0'.out z) (fun h => by rw [List.mem_singleton.1 h]; have := hlt'.out; omega))
            clear hO6 hg6 hat6 hms hd0 hf0
            obtain ⟨A6, c6, rfl⟩ := own_slice hO6'.out
            have hd6 := blk_cell hb66.out
            have hf6 := blk_frozen hb66.out
            have EX := Aside0.mk (Ex.set w6 ⟨g6, 0, none⟩ (.slice A6 ms.length c6))
            obtain ⟨X, hX⟩ : ∃ X, w6.setCell ⟨g6, 0, none⟩ (.slice A6 ms.length c6) = X := ⟨_, rfl⟩
            have hX' := Aside0.mk hX
            clear hX
            go_wp2
            rw [hX'.out]
            have EX' := Aside0.mk (show Ex (fun b => b = g6) w6 X from hX'.out ▸ EX.out)
            have hbX := Aside0.mk (show X.heap[g6]? = some (.cells #[.slice A6 ms.length c6, .slice C1 vs.length e1] 41 (0, 0)) from hX'.out ▸ blk_set hb66.out 0 _)
            have hTX := Aside0.mk (hT6.out.ex EX'.out fun b hb => .inr hb)
            have hEX := Aside0.mk (Ex.on hE6.out EX'.out (fun i e => by have e' : i = g6 := e; have := hgs.out; omega))
            clear hd6 hf6 hX'
            have hLX := Aside0.mk (Loc.on hEX.out hL.out)
            refine Reg.regionG (fun w' => w'.heap[w.heap.size]? = some (.cells #[.slice A0 an.length c0, .slice A1 av.length c1] 41 (0, 0)) ∧ w'.heap[w.heap.size + 1]? = some (.cells #[.slice B0 bn.length d0, .slice B1 bv.length d1] 41 (0, 0)) ∧ w'.heap[g6]? = some (.cells #[.slice A6 ms.length c6, .slice C1 vs.length e1] 41 (0, 0))) [0,1,2,3,4] [5,6,7,8,9,10,11] 11 (by kernel_rfl) (by kernel_rfl) ⟨hLX.out.1, hLX.out.2.1, hbX.out⟩ ?_
            refine Reg.sG ?_ (hy := by intro w' hS; have hA := blk_cell hS.1; have hB := blk_cell hS.2.1; have hD := blk_cell hS.2.2; clear hS; go_simp; first | done | rfl)
            refine Reg.sG ?_ (hy := by intro w' hS; have hA := blk_cell hS.1; have hB := blk_cell hS.2.1; have hD := blk_cell hS.2.2; clear hS; go_simp; first | done | rfl)
            refine Reg.sG ?_ (hy := by intro w' hS; have hA := blk_cell hS.1; have hB := blk_cell hS.2.1; have hD := blk_cell hS.2.2; clear hS; go_simp; first | done | rfl)
            refine Reg.sG ?_ (hy := by intro w' hS; have hA := blk_cell hS.1; have hB := blk_cell hS.2.1; have hD := blk_cell hS.2.2; clear hS; go_simp; first | done | rfl)
            refine Reg.sG ?_ (hy := by intro w' hS; have hA := blk_cell hS.1; have hB := blk_cell hS.2.1; have hD := blk_cell hS.2.2; clear hS; go_simp; first | done | rfl)
            refine Reg.startG ?_
            obtain ⟨w7, hw7⟩ : ∃ w7, ({ X with drawn := X.drawn + 1 } : World) = w7 := ⟨_, rfl⟩
            have hS7 := Aside0.mk (show On X w7 from (hw7 ▸ on_draw X))
            rw [hw7]
            clear hw7
            refine Reg.tG ?_
            go_wp2_with (go_at_call 90; refine Stop.out ?_)
            refine ⟨(sNullValue_calls _ k (by have := hlt'.out; omega)).mono ?_⟩
            rintro e w8 ⟨rfl, hb8⟩
            have hE8 := Aside0.mk (hEX.out.trans (hS7.out.trans hb8))
            have hT8 := Aside0.mk (hTX.out.on (hS7.out.trans hb8))
            have hb68 := Aside0.mk (blk_below hbX.out (hS7.out.trans hb8))
            have hL8 := Aside0.mk (Loc.on hE8.out hL.out)
            clear hb8
            go_wp2
            refine ⟨⟨hL8.out.1, hL8.out.2.1, hb68.out⟩, ?_⟩
            refine Reg.tG ?_
            go_wp2_with (go_at_call 89; refine Stop.out ?_)
            refine ⟨(sApplyToValue_calls _ A0 c0 A1 c1 an av (h0'.out.on (hb.out.trans hE8.out)) (h1'.out.on (hb.out.trans hE8.out)) (-1 - k)).mono ?_⟩
            rintro e w9 ⟨rfl, hb9⟩
            have hx1b := Aside0.mk (appV_bd (ns := an) (vs := av) (x := -1 - (k : Int)) (by have := hlt'.out; omega))
            obtain ⟨x1, hx1e⟩ : ∃ x, appV an av (-1 - (k : Int)) = x := ⟨_, rfl⟩
            rw [hx1e] at hx1b ⊢
            clear hx1e
            have hE9 := Aside0.mk (hE8.out.trans hb9)
            have hT9 := Aside0.mk (hT8.out.on hb9)
            have hb69 := Aside0.mk (blk_below hb68.out hb9)
            have hL9 := Aside0.mk (Loc.on hE9.out hL.out)
            clear hb9
            go_wp2
            refine ⟨⟨hL9.out.1, hL9.out.2.1, hb69.out⟩, ?_⟩
            refine Reg.tG ?_
            go_wp2_with (go_at_call 89; refine Stop.out ?_)
            refine ⟨(sApplyToValue_calls _ B0 d0 B1 d1 bn bv (k0'.out.on (hb.out.trans hE9.out)) (k1'.out.on (hb.out.trans hE9.out)) x1).mono ?_⟩
            rintro e wa ⟨rfl, hba⟩
            have hx2b := Aside0.mk (appV_bd (ns := bn) (vs := bv) (x := x1) hx1b.out)
            obtain ⟨x2, hx2e⟩ : ∃ x, appV bn bv x1 = x := ⟨_, rfl⟩
            rw [hx2e] at hx2b ⊢
            clear hx2e
            have hEa := Aside0.mk (hE9.out.trans hba)
            have hTa := Aside0.mk (hT9.out.on hba)
            have hb6a := Aside0.mk (blk_below hb69.out hba)
            have hLa := Aside0.mk (Loc.on hEa.out hL.out)
            clear hba
            go_wp2
            refine ⟨⟨hLa.out.1, hLa.out.2.1, hb6a.out⟩, ?_⟩
            refine Reg.tG ?_
            go_wp2
            have hIb := Aside0.mk (lit_I wa x2 hx2b.out)
            have hSb := Aside0.mk (On.alloc (On.refl wa) (.cells #[.int .i64 x2] 3 (0, 0)))
            have hTb := Aside0.mk (hTa.out.on hSb.out)
            have hltb := Aside0.mk (blk_lt (blk_below hb6a.out hSb.out))
            refine ⟨⟨blk_below hLa.out.1 hSb.out, blk_below hLa.out.2.1 hSb.out, blk_below hb6a.out hSb.out⟩, ?_⟩
            refine Reg.tG ?_
            obtain ⟨us, hus⟩ : ∃ us, vs ++ [x2] = us := ⟨_, rfl⟩
            refine apI 47 hus (OI.to hTb.out.r1) hIb.out.2.1 (by have := hltb.out; omega) (by have := hll'.out; have := hlk'.out; have := hlt'.out; simp; omega) fun v10 w10 hO10 hg10 hat10 => ?_
            have hO10' := Aside0.mk (OI.of hO10)
            have hT10 := Aside0.mk (hTb.out.app1 hltb.out (OI.of hO10) hg10 (hat10.imp id fun ⟨b, e, h⟩ => ⟨b, e, h⟩))
            have hS10 := Aside0.mk (Ex.of_grown hg10)
            have hb610 := Aside0.mk (blk_ex hS10.out (blk_below hb6a.out hSb.out) (fun e => hTb.out.n1 _ e.symm rfl))
            have hE10 := Aside0.mk (Ex.on (hEa.out.trans hSb.out) hS10.out (fun i e => by have h1 := own_base hTb.out.r1 i e.symm; have := hgs.out; omega))
            have hL10 := Aside0.mk (Loc.on hE10.out hL.out)
            have hul := Aside0.mk (show us.length = vs.length + 1 by rw [← hus]; simp)
            have hui := Aside0.mk (show InR us by rw [← hus]; intro z hz; exact (List.mem_append.1 hz).elim (hi1'.out z) (fun h => by rw [List.mem_singleton.1 h]; exact hx2b.out))
            clear hO10 hg10 hat10 hus
            obtain ⟨A10, c10, rfl⟩ := own_slice hO10'.out
            refine ⟨⟨hL10.out.1, hL10.out.2.1, hb610.out⟩, ?_⟩
            have hd6 := blk_cell hb610.out
            have hf6 := blk_frozen hb610.out
            simp only [Act.put, List.setIfInBounds_toArray, List.set_cons_zero, List.set_cons_succ]
            refine Reg.tG ?_
            go_wp2
            refine ⟨⟨hL10.out.1, hL10.out.2.1, hb610.out⟩, ?_⟩
            refine Reg.tE ?_
            go_wp2
            have EY := Ex.set w10 ⟨g6, 1, none⟩ (.slice A10 us.length c10)
            refine ⟨⟨k + 1, ms, us, A6, c6, A10, c10, by rw [hwk.out], by have := hlt'.out; omega, blk_set hb610.out 1 _, hT10.out.ex EY (fun b hb => .inr hb), hmi.out, hui.out, by have := hml.out; have := hul.out; have := hll'.out; omega, by have := hml.out; have := hlk'.out; omega, Ex.on hE10.out EY (fun i h => by have e' : i = g6 := h; have := hgs.out; omega)⟩, ?_⟩
            rw [hwk.out]
            have := hlt'.out
            simp [intOf]
            omega
          | false =>
            have hLr3 := Aside0.mk (Loc.on hE3.out hL.out)
            have hq2 := blk_cell hLr3.out.2.1
            go_wp2_with (go_at_call 88; refine Stop.out ?_)
            refine ⟨(l4HasB_calls _ B0 d0 bn k (k0'.out.on (hb.out.trans hE3.out))).mono ?_⟩
            rintro e w4 ⟨⟨b2, rfl⟩, hb4⟩
            clear hq2
            replace hE3 := Aside0.mk (hE3.out.trans hb4)
            replace hb63 := Aside0.mk (blk_below hb63.out hb4)
            replace hT3 := Aside0.mk (hT3.out.on hb4)
            clear hLr3 hb4
            cases b2 with
            | true =>
              have hd0 := blk_cell hb63.out
              have hf0 := blk_frozen hb63.out
              go_wp2_with (refine gate 36 ?_)
              have hI5 := Aside0.mk (lit_I w4 k (by have := hlt'.out; omega))
              have hS5 := Aside0.mk (On.alloc (On.refl w4) (.cells #[.int .i64 k] 3 (0, 0)))
              have hT5 := Aside0.mk (hT3.out.on hS5.out)
              have hlt5 := Aside0.mk (blk_lt (blk_below hb63.out hS5.out))
              obtain ⟨ms, hms⟩ : ∃ ms, ns ++ [(k : Int)] = ms := ⟨_, rfl⟩
              refine ⟨apI 36 hms (OI.to hT5.out.r0) hI5.out.2.1 (by have := hlt5.out; omega) (by have := hlk'.out; have := hlt'.out; simp; omega) fun v6 w6 hO6 hg6 hat6 => ?_⟩
              have hO6' := Aside0.mk (OI.of hO6)
              have hT6 := Aside0.mk (hT5.out.app0 hlt5.out (OI.of hO6) hg6 (hat6.imp id fun ⟨b, e, h⟩ => ⟨b, e, h⟩))
              have hS6 := Aside0.mk (Ex.of_grown hg6)
              have hb66 := Aside0.mk (blk_ex hS6.out (blk_below hb63.out hS5.out) (fun e => hT5.out.n0 _ e.symm rfl))
              have hE6 := Aside0.mk (Ex.on (hE3.out.trans hS5.out) hS6.out (fun i e => by have h1 := own_base hT5.out.r0 i e.symm; have := hgs.out; omega))
              have hml := Aside0.mk (show ms.length = ns.length + 1 by rw [← hms]; simp)
              have hmi := Aside0.mk (show InR ms by rw [← hms]; intro z hz; exact (List.mem_append.1 hz).elim (hi0'.out z) (fun h => by rw [List.mem_singleton.1 h]; have := hlt'.out; omega))
              clear hO6 hg6 hat6 hms hd0 hf0
              obtain ⟨A6, c6, rfl⟩ := own_slice hO6'.out
              have hd6 := blk_cell hb66.out
              have hf6 := blk_frozen hb66.out
              have EX := Aside0.mk (Ex.set w6 ⟨g6, 0, none⟩ (.slice A6 ms.length c6))
              obtain ⟨X, hX⟩ : ∃ X, w6.setCell ⟨g6, 0, none⟩ (.slice A6 ms.length c6) = X := ⟨_, rfl⟩
              have hX' := Aside0.mk hX
              clear hX
              go_wp2
              rw [hX'.out]
              have EX' := Aside0.mk (show Ex (fun b => b = g6) w6 X from hX'.out ▸ EX.out)
              have hbX := Aside0.mk (show X.heap[g6]? = some (.cells #[.slice A6 ms.length c6, .slice C1 vs.length e1] 41 (0, 0)) from hX'.out ▸ blk_set hb66.out 0 _)
              have hTX := Aside0.mk (hT6.out.ex EX'.out fun b hb => .inr hb)
              have hEX := Aside0.mk (Ex.on hE6.out EX'.out (fun i e => by have e' : i = g6 := e; have := hgs.out; omega))
              clear hd6 hf6 hX'
              have hLX := Aside0.mk (Loc.on hEX.out hL.out)
              refine Reg.regionG (fun w' => w'.heap[w.heap.size]? = some (.cells #[.slice A0 an.length c0, .slice A1 av.length c1] 41 (0, 0)) ∧ w'.heap[w.heap.size + 1]? = some (.cells #[.slice B0 bn.length d0, .slice B1 bv.length d1] 41 (0, 0)) ∧ w'.heap[g6]? = some (.cells #[.slice A6 ms.length c6, .slice C1 vs.length e1] 41 (0, 0))) [0,1,2,3,4] [5,6,7,8,9,10,11] 11 (by kernel_rfl) (by kernel_rfl) ⟨hLX.out.1, hLX.out.2.1, hbX.out⟩ ?_
              refine Reg.sG ?_ (hy := by intro w' hS; have hA := blk_cell hS.1; have hB := blk_cell hS.2.1; have hD := blk_cell hS.2.2; clear hS; go_simp; first | done | rfl)
              refine Reg.sG ?_ (hy := by intro w' hS; have hA := blk_cell hS.1; have hB := blk_cell hS.2.1; have hD := blk_cell hS.2.2; clear hS; go_simp; first | done | rfl)
              refine Reg.sG ?_ (hy := by intro w' hS; have hA := blk_cell hS.1; have hB := blk_cell hS.2.1; have hD := blk_cell hS.2.2; clear hS; go_simp; first | done | rfl)
              refine Reg.sG ?_ (hy := by intro w' hS; have hA := blk_cell hS.1; have hB := blk_cell hS.2.1; have hD := blk_cell hS.2.2; clear hS; go_simp; first | done | rfl)
              refine Reg.sG ?_ (hy := by intro w' hS; have hA := blk_cell hS.1; have hB := blk_cell hS.2.1; have hD := blk_cell hS.2.2; clear hS; go_simp; first | done | rfl)
              refine Reg.startG ?_
              obtain ⟨w7, hw7⟩ : ∃ w7, ({ X with drawn := X.drawn + 1 } : World) = w7 := ⟨_, rfl⟩
              have hS7 := Aside0.mk (show On X w7 from (hw7 ▸ on_draw X))
              rw [hw7]
              clear hw7
              refine Reg.tG ?_
              go_wp2_with (go_at_call 90; refine Stop.out ?_)
              refine ⟨(sNullValue_calls _ k (by have := hlt'.out; omega)).mono ?_⟩
              rintro e w8 ⟨rfl, hb8⟩
              have hE8 := Aside0.mk (hEX.out.trans (hS7.out.trans hb8))
              have hT8 := Aside0.mk (hTX.out.on (hS7.out.trans hb8))
              have hb68 := Aside0.mk (blk_below hbX.out (hS7.out.trans hb8))
              have hL8 := Aside0.mk (Loc.on hE8.out hL.out)
              clear hb8
              go_wp2
              refine ⟨⟨hL8.out.1, hL8.out.2.1, hb68.out⟩, ?_⟩
              refine Reg.tG ?_
              go_wp2_with (go_at_call 89; refine Stop.out ?_)
              refine ⟨(sApplyToValue_calls _ A0 c0 A1 c1 an av (h0'.out.on (hb.out.trans hE8.out)) (h1'.out.on (hb.out.trans hE8.out)) (-1 - k)).mono ?_⟩
              rintro e w9 ⟨rfl, hb9⟩
              have hx1b := Aside0.mk (appV_bd (ns := an) (vs := av) (x := -1 - (k : Int)) (by have := hlt'.out; omega))
              obtain ⟨x1, hx1e⟩ : ∃ x, appV an av (-1 - (k : Int)) = x := ⟨_, rfl⟩
              rw [hx1e] at hx1b ⊢
              clear hx1e
              have hE9 := Aside0.mk (hE8.out.trans hb9)
              have hT9 := Aside0.mk (hT8.out.on hb9)
              have hb69 := Aside0.mk (blk_below hb68.out hb9)
              have hL9 := Aside0.mk (Loc.on hE9.out hL.out)
              clear hb9
              go_wp2
              refine ⟨⟨hL9.out.1, hL9.out.2.1, hb69.out⟩, ?_⟩
              refine Reg.tG ?_
              go_wp2_with (go_at_call 89; refine Stop.out ?_)
              refine ⟨(sApplyToValue_calls _ B0 d0 B1 d1 bn bv (k0'.out.on (hb.out.trans hE9.out)) (k1'.out.on (hb.out.trans hE9.out)) x1).mono ?_⟩
              rintro e wa ⟨rfl, hba⟩
              have hx2b := Aside0.mk (appV_bd (ns := bn) (vs := bv) (x := x1) hx1b.out)
              obtain ⟨x2, hx2e⟩ : ∃ x, appV bn bv x1 = x := ⟨_, rfl⟩
              rw [hx2e] at hx2b ⊢
              clear hx2e
              have hEa := Aside0.mk (hE9.out.trans hba)
              have hTa := Aside0.mk (hT9.out.on hba)
              have hb6a := Aside0.mk (blk_below hb69.out hba)
              have hLa := Aside0.mk (Loc.on hEa.out hL.out)
              clear hba
              go_wp2
              refine ⟨⟨hLa.out.1, hLa.out.2.1, hb6a.out⟩, ?_⟩
              refine Reg.tG ?_
              go_wp2
              have hIb := Aside0.mk (lit_I wa x2 hx2b.out)
              have hSb := Aside0.mk (On.alloc (On.refl wa) (.cells #[.int .i64 x2] 3 (0, 0)))
              have hTb := Aside0.mk (hTa.out.on hSb.out)
              have hltb := Aside0.mk (blk_lt (blk_below hb6a.out hSb.out))
              refine ⟨⟨blk_below hLa.out.1 hSb.out, blk_below hLa.out.2.1 hSb.out, blk_below hb6a.out hSb.out⟩, ?_⟩
              refine Reg.tG ?_
              obtain ⟨us, hus⟩ : ∃ us, vs ++ [x2] = us := ⟨_, rfl⟩
              refine apI 47 hus (OI.to hTb.out.r1) hIb.out.2.1 (by have := hltb.out; omega) (by have := hll'.out; have := hlk'.out; have := hlt'.out; simp; omega) fun v10 w10 hO10 hg10 hat10 => ?_
              have hO10' := Aside0.mk (OI.of hO10)
              have hT10 := Aside0.mk (hTb.out.app1 hltb.out (OI.of hO10) hg10 (hat10.imp id fun ⟨b, e, h⟩ => ⟨b, e, h⟩))
              have hS10 := Aside0.mk (Ex.of_grown hg10)
              have hb610 := Aside0.mk (blk_ex hS10.out (blk_below hb6a.out hSb.out) (fun e => hTb.out.n1 _ e.symm rfl))
              have hE10 := Aside0.mk (Ex.on (hEa.out.trans hSb.out) hS10.out (fun i e => by have h1 := own_base hTb.out.r1 i e.symm; have := hgs.out; omega))
              have hL10 := Aside0.mk (Loc.on hE10.out hL.out)
              have hul := Aside0.mk (show us.length = vs.length + 1 by rw [← hus]; simp)
              have hui := Aside0.mk (show InR us by rw [← hus]; intro z hz; exact (List.mem_append.1 hz).elim (hi1'.out z) (fun h => by rw [List.mem_singleton.1 h]; exact hx2b.out))
              clear hO10 hg10 hat10 hus
              obtain ⟨A10, c10, rfl⟩ := own_slice hO10'.out
              refine ⟨⟨hL10.out.1, hL10.out.2.1, hb610.out⟩, ?_⟩
              have hd6 := blk_cell hb610.out
              have hf6 := blk_frozen hb610.out
              simp only [Act.put, List.setIfInBounds_toArray, List.set_cons_zero, List.set_cons_succ]
              refine Reg.tG ?_
              go_wp2
              refine ⟨⟨hL10.out.1, hL10.out.2.1, hb610.out⟩, ?_⟩
              refine Reg.tE ?_
              go_wp2
              have EY := Ex.set w10 ⟨g6, 1, none⟩ (.slice A10 us.length c10)
              refine ⟨⟨k + 1, ms, us, A6, c6, A10, c10, by rw [hwk.out], by have := hlt'.out; omega, blk_set hb610.out 1 _, hT10.out.ex EY (fun b hb => .inr hb), hmi.out, hui.out, by have := hml.out; have := hul.out; have := hll'.out; omega, by have := hml.out; have := hlk'.out; omega, Ex.on hE10.out EY (fun i h => by have e' : i = g6 := h; have := hgs.out; omega)⟩, ?_⟩
              rw [hwk.out]
              have := hlt'.out
              simp [intOf]
              omega
            | false =>
              go_wp2
              refine ⟨⟨k + 1, ns, vs, C0, e0, C1, e1, by rw [hwk.out], by have := hlt'.out; omega, hb63.out, hT3.out, hi0'.out, hi1'.out, hll'.out, by have := hlk'.out; omega, hE3.out⟩, ?_⟩
              rw [hwk.out]
              have := hlt'.out
              simp [intOf]
              omega
        · have hcb : decide ((k : Int) < 40) = false := decide_eq_false (by omega)
          have hcn : decide (k < 40) = false := decide_eq_false hlt
          clear hlt
          have hLr := Aside0.mk (Loc.on hE1.out hL.out)
          have hr1 := Aside0.mk hLr.out.2.2.1
          have hd0 := blk_cell hb6'.out
          have hdr : ∀ i, wr.cell? ⟨w.heap.size + 1 + 1, i, none⟩ = _ := blk_cell hr1.out
          have hfr : ∀ i, wr.frozen? ⟨w.heap.size + 1 + 1, i, none⟩ = _ := blk_frozen hr1.out
          go_wp2
          refine bodyPost_ret (retSB2 rfl rfl (g := w.heap.size + 1 + 1) (blk_set (blk_set hr1.out 0 _) 1 _) rfl) rfl ?_
          exact ⟨_, rfl, _, _, _, _, _, _, congrArg (fun b => Value.tuple #[_, .bool b]) hno.out.symm, Reg.On.set (Reg.On.set (hb.out.trans hE1.out) (by simp; omega) _) (by simp; omega) _⟩
end Go.Proofs.YtgemaohdlibboaaGreatDoor.H
/- Walks: the draws of one relation and of any fact. What is told: sizes and ranges. No condition. -/
namespace Go.Proofs.YtgemaohdlibboaaGreatDoor.H
open Go Go.RowKit Go.Proofs.YtgemaohdlibboaaGreatDoorW.PrintWords Go.Proofs.YtgemaohdlibboaaGreatDoorW.PrintLast
open Go.Proofs.YtgemaohdlibboaaGreatDoor.Reg (On on_draw)
set_option maxHeartbeats 4000000
set_option maxRecDepth 100000
set_option linter.unusedVariables false
set_option linter.unusedSimpArgs false

theorem l1Pick_calls (w0 w : World) (q : Nat) (hC : Cu w0 w q) (ad : Addr) (c : Nat) (xs : List ByteArray) (hI : ∀ w', Ex (fun b => b = q) w w' → ∀ i (h : i < xs.length), w'.cell? (ad.add i) = some (.string xs[i])) (h1 : 1 ≤ xs.length) (h2 : xs.length ≤ 256) :
    Calls Tryz.prog 67 #[.pointer (some ⟨q, 0, none⟩), .slice (some ad) xs.length c] w (Dr w0 w q fun v _ => ∃ x, v = .string x ∧ x ∈ xs) := by
  have hC' := Aside0.mk hC
  have h1' := Aside0.mk h1
  have h2' := Aside0.mk h2
  have hI' := Aside0.mk hI
  clear hC h1 h2 hI
  go_enter Tryz.func67, Tryz.ntmps67
  go_wp2_with (go_at_call 138; refine (l1Below_calls w0 _ q hC'.out xs.length (by have := h1'.out; omega) (by have := h2'.out; omega)).mono ?_; rintro e w3 ⟨v, rfl, ⟨x, rfl, hx⟩, hC3, hE3⟩; replace hx := Aside0.mk hx; obtain ⟨k, hk⟩ := Int.eq_ofNat_of_zero_le hx.out.1; subst hk; have hkl : k < xs.length := (by have := hx.out; omega); have hx3 := hI'.out _ hE3 k hkl)
  go_ret
  exact ⟨_, rfl, ⟨_, rfl, List.getElem_mem (by have := hx.out; omega)⟩, hC3, hE3⟩
def names6 : List ByteArray := [⟨#[97]⟩, ⟨#[122]⟩, ⟨#[]⟩, ⟨#[65]⟩, ⟨#[97, 98]⟩, ⟨#[112]⟩]
theorem names6_at : ∀ (i : Nat) (h : i < names6.length), (#[.string ⟨#[97]⟩, .string ⟨#[122]⟩, .string ⟨#[]⟩, .string ⟨#[65]⟩, .string ⟨#[97, 98]⟩, .string ⟨#[112]⟩] : Array Value)[i]? = some (.string names6[i])
  | 0, _ => rfl
  | 1, _ => rfl
  | 2, _ => rfl
  | 3, _ => rfl
  | 4, _ => rfl
  | 5, _ => rfl
  | n + 6, h => absurd h (by show ¬ n + 6 < 6; omega)
theorem l3One_calls (w0 w : World) (q : Nat) (hC : Cu w0 w q) :
    Calls Tryz.prog 139 #[.pointer (some ⟨q, 0, none⟩)] w (Dr w0 w q fun v _ => ∃ r : Rel, v = .agg #[.string r.1, .int .i64 r.2.1, .bool r.2.2]) := by
  have hC' := Aside0.mk hC
  have hqw := Aside0.mk hC.lt
  have hq0 := Aside0.mk hC.lo
  have hb0 := Aside0.mk (On.alloc (On.alloc (On.refl w) (.cells #[.string ⟨#[]⟩, .int .i64 0, .bool false] 95 (0, 0))) (.cells #[.string ⟨#[97]⟩, .string ⟨#[122]⟩, .string ⟨#[]⟩, .string ⟨#[65]⟩, .string ⟨#[97, 98]⟩, .string ⟨#[112]⟩] 9 (0, 0)))
  have hl0 := Aside0.mk (loc2 w #[.string ⟨#[]⟩, .int .i64 0, .bool false] #[.string ⟨#[97]⟩, .string ⟨#[122]⟩, .string ⟨#[]⟩, .string ⟨#[65]⟩, .string ⟨#[97, 98]⟩, .string ⟨#[112]⟩] 95 9)
  clear hC
  go_enter Tryz.func139, Tryz.ntmps139
  go_wp2_with (go_at_call 67; refine Stop.out ?_)
  refine ⟨(l1Pick_calls w0 _ q (hC'.out.next hb0.out) ⟨w.heap.size + 1, 0, none⟩ 6 names6 (fun w' k i hi => ?_) (by show 1 ≤ 6; omega) (by show 6 ≤ 256; omega)).mono ?_⟩
  · have hb := blk_ex k hl0.out.2.1 (by have := hqw.out; omega)
    have h1 := (blk_cell hb i).trans (names6_at i hi)
    by_cases h0 : i = 0
    · subst h0; simpa [Addr.add] using h1
    · simpa [Addr.add, h0] using h1
  rintro e w1 ⟨v, rfl, ⟨s, rfl, -⟩, hC1, hE1⟩
  have hC1' := Aside0.mk hC1
  have hE1' := Aside0.mk ((Ex.of_on (S := fun b => b = q) hb0.out).trans hE1 fun _ _ h => h)
  have hr1 := Aside0.mk (blk_ex hE1 hl0.out.1 (by have := hqw.out; omega))
  clear hC1 hE1
  go_wp2_with (go_at_call 138; refine Stop.out ?_)
  refine ⟨(l1Below_calls w0 _ q hC1'.out 6 (by omega) (by omega)).mono ?_⟩
  rintro e w2 ⟨v, rfl, ⟨x, rfl, hx⟩, hC2, hE2⟩
  have hw : wrap64 (x - 1) = x - 1 := IntWalk.wrap64_in _ (by omega)
  have hC2' := Aside0.mk hC2
  have hE2' := Aside0.mk (hE1'.out.trans hE2 fun _ _ h => h)
  have hr2 := Aside0.mk (blk_ex hE2 hr1.out (by have := hqw.out; omega))
  clear hC2 hE2 hx
  go_wp2_with (go_at_call 66; refine Stop.out ?_)
  refine ⟨(l1Once_calls w0 _ q hC2'.out 2 (by omega) (by omega)).mono ?_⟩
  rintro e w3 ⟨v, rfl, ⟨b, rfl⟩, hC3, hE3⟩
  have hC3' := Aside0.mk hC3
  have hE3' := Aside0.mk (hE2'.out.trans hE3 fun _ _ h => h)
  have hr3 := Aside0.mk (blk_ex hE3 hr2.out (by have := hqw.out; omega))
  have hd0 := blk_cell hr3.out
  have hfr := blk_frozen hr3.out
  clear hC3 hE3
  go_wp2
  refine bodyPost_ret (retR rfl rfl (g := w.heap.size) (blk_set (blk_set (blk_set hr3.out 0 _) 1 _) 2 _) rfl) rfl ?_
  have EE := ((Ex.set w3 ⟨w.heap.size, 0, none⟩ (.string s)).trans (Ex.set _ ⟨w.heap.size, 1, none⟩ (.int .i64 (x - 1))) (fun _ _ h => h)).trans (Ex.set _ ⟨w.heap.size, 2, none⟩ (.bool b)) (fun _ _ h => h)
  have hq1 := hqw.out
  have hq2 := hq0.out
  exact ⟨_, rfl, ⟨(s, x - 1, b), rfl⟩, hC3'.out.ex EE (fun b hb => by have e' : b = w.heap.size := hb; omega), hE3'.out.trans EE (fun i hi h => by have e' : i = w.heap.size := h; omega)⟩
end Go.Proofs.YtgemaohdlibboaaGreatDoor.H
/- Walks: numbers below a great bound, texts drawn. What is told: ranges, lengths. No condition. -/
namespace Go.Proofs.YtgemaohdlibboaaGreatDoor.H
open Go Go.RowKit Go.Proofs.YtgemaohdlibboaaGreatDoorW.PrintWords Go.Proofs.YtgemaohdlibboaaGreatDoorW.PrintLast
open Go.Proofs.YtgemaohdlibboaaGreatDoor.Reg (On on_draw)
set_option maxHeartbeats 4000000
set_option maxRecDepth 100000
set_option linter.unusedVariables false
set_option linter.unusedSimpArgs false

/-! Rows of bytes of one's own. -/
abbrev OB (w : World) (lo : Nat) (v : Value) (xs : List Int) : Prop := w.ownsRow lo 5 1 v xs.length (encs (Value.int .u8) xs)
theorem OB.to {w : World} {lo : Nat} {v : Value} {xs : List Int} (h : OB w lo v xs) : kBytes.R 5 w lo (fun _ => True) v xs := Kd.R_of_own h (fun _ _ => trivial)
section
variable {ops : Array Oper} {rest : List Oper} {o : Oper} {a : Act} {Q : Exit → Act → World → Prop} {W : World}
end
end Go.Proofs.YtgemaohdlibboaaGreatDoor.H
/- The rule for regions that draw their order where what is read is told by a predicate G, and two operations that make memory may come up at once. No condition. -/
namespace Go.Proofs.YtgemaohdlibboaaGreatDoor.Reg
open Go Go.RowKit
set_option linter.unusedVariables false
variable {P : Program} {ops : Array Oper} {Q : Exit → Act → World → Prop} {md : Region.Mode}
/-- leaf: in line; r: a read, whatever G tells; n: the one operation that may come up; two: two that may come up. -/
inductive Th where
  | leaf (l : List Nat)
  | r (i : Nat) (p : Th)
  | n (i : Nat) (p : Th)
  | two (i j : Nat) (p q : Th)
def Th.len : Th → Nat
  | .leaf l => l.length
  | .r _ p => p.len + 1
  | .n _ p => p.len + 1
  | .two _ _ p _ => p.len + 1
def chkH (md : Region.Mode) (ops : Array Oper) (k : Nat) : Th → Array Bool → Bool
  | .leaf l, listed => chkTail md ops l listed && l.getLast? == some k
  | .r i p, listed => (Region.ready md ops listed).contains i && freeC md ops false listed i && reach md ops k i && !(k == i) && chkH md ops k p (listed.setIfInBounds i true)
  | .n i p, listed => Region.ready md ops listed == [i] && chkH md ops k p (listed.setIfInBounds i true)
  | .two i j p q, listed => Region.ready md ops listed == [i, j] && p.len == q.len && chkH md ops k p (listed.setIfInBounds i true) && chkH md ops k q (listed.setIfInBounds j true)
def wpH (P : Program) (ops : Array Oper) (Q : Exit → Act → World → Prop) (G : World → Prop) : Th → Act → World → Prop
  | .leaf l, a, w => tailG P ops Q G l a w
  | .r i p, a, w => match ops[i]? with
    | none => False
    | some o => if Region.wanted o (yielded ops a.tmps) then ∃ v, (∀ w, G w → (execOp a.eval o).run P w = .ok (.value v) w) ∧ wpH P ops Q G p (a.put o.dst v) w else wpH P ops Q G p (a.put o.dst undef) w
  | .n i p, a, w => wpOp P ops Q i (fun a' w' => G w' ∧ wpH P ops Q G p a' w') a w
  | .two i j p q, a, w => wpOp P ops Q i (fun a' w' => G w' ∧ wpH P ops Q G p a' w') a w ∧ wpOp P ops Q j (fun a' w' => G w' ∧ wpH P ops Q G q a' w') a w
theorem stepT_of_op {G : World → Prop} {j : Nat} {o : Oper} (hi : ops[j]? = some o) {a : Act} {W : World} {X : Act → World → Prop} {T : Act → (World → Prop) → Prop} (h : wpOp P ops Q j (fun a' w' => G w' ∧ X a' w') a W) (hX : ∀ a' w', G w' → X a' w' → T a' (fun w => w = w')) :
    stepT P ops Q (fun _ => true) T j a (fun w => w = W) := by
  unfold stepT
  rw [hi]
  show (if _ then _ else _)
  split
  · refine .inr (.inr ⟨.inr rfl, fun w hS => ?_⟩)
    subst hS
    exact wpOp_mono (fun a' w' (hh : G w' ∧ X a' w') => ⟨fun w => w = w', rfl, fun h0 => (by cases h0), hX _ _ hh.1 hh.2⟩) h
  · rename_i hw
    unfold wpOp at h
    simp only [hi] at h
    rw [if_neg hw] at h
    exact hX _ _ h.1 h.2
theorem wpG_of_H {G : World → Prop} {k : Nat} {ok : Oper} (hok : ops[k]? = some ok) (hs : Region.noSelect ops = true) (hQ : Plain Q) : ∀ (t : Th) (listed : Array Bool) (a : Act) (W : World), k < listed.size → closed md ops listed → chkH md ops k t listed = true → G W → wpH P ops Q G t a W → wpG P md ops Q (fun _ => true) G k t.len listed a (fun w => w = W)
  | .leaf l, listed, a, W, hsz, hclosed, hc, hG, h => by
    simp only [chkH, Bool.and_eq_true, beq_iff_eq] at hc
    obtain ⟨hc, hlast⟩ := hc
    exact wpG_of_tail l listed a _ hsz (fun e => by rw [e] at hlast; cases hlast) (fun hn => by rw [List.getLast?_eq_some_getLast hn] at hlast; exact Option.some.inj hlast) (fun i hi => rfl) hc (fun _ w e => by subst e; exact hG) (fun w e => by subst e; exact h)
  | .r i p, listed, a, W, hsz, hclosed, hc, hG, h => by
    simp only [chkH, Bool.and_eq_true] at hc
    obtain ⟨⟨⟨⟨hr, hf⟩, hki⟩, hne⟩, hl⟩ := hc
    have hne' : k ≠ i := by intro e; subst e; simp at hne
    simp only [wpH] at h
    cases hi : ops[i]? with
    | none => simp only [hi] at h
    | some o =>
      simp only [hi] at h
      have hri : i ∈ Region.ready md ops listed := by simpa using hr
      have ih := fun a h => wpG_of_H hok hs hQ p (listed.setIfInBounds i true) a W (by rw [Array.size_setIfInBounds]; exact hsz) (hclosed.set hri) hl hG h
      have sel := Region.noSelect_spec hs
      by_cases hw : Region.wanted o (yielded ops a.tmps) = true
      · rw [if_pos hw] at h
        obtain ⟨v, h1, h2⟩ := h
        exact wpG_first hne' hok hki hQ hi sel _ listed a _ hclosed (fun j oj hj hne hun hno => (freeC_spec hi hf j oj hj hne hun hno).1) hri (.inl ⟨hw, fun w hS => by simpa using h1 w hS⟩) (ih _ h2)
      · rw [if_neg hw] at h
        exact wpG_first hne' hok hki hQ hi sel _ listed a _ hclosed (fun j oj hj hne hun hno => (freeC_spec hi hf j oj hj hne hun hno).1) hri (.inr ⟨by simpa using hw, rfl⟩) (ih _ h)
  | .n i p, listed, a, W, hsz, hclosed, hc, hG, h => by
    simp only [chkH, Bool.and_eq_true, beq_iff_eq] at hc
    obtain ⟨hr, hl⟩ := hc
    simp only [wpH] at h
    refine ⟨fun _ w e => by subst e; exact hG, fun h0 => (by rw [hr] at h0; cases h0), fun j hj => ?_⟩
    have hj' := hj
    rw [hr] at hj
    obtain rfl := List.mem_singleton.1 hj
    obtain ⟨_, oj, hoj, _⟩ := mem_ready.1 hj'
    exact stepT_of_op hoj h fun a' w' hG' hX => wpG_of_H hok hs hQ p _ a' w' (by rw [Array.size_setIfInBounds]; exact hsz) (hclosed.set hj') hl hG' hX
  | .two i j p q, listed, a, W, hsz, hclosed, hc, hG, h => by
    simp only [chkH, Bool.and_eq_true, beq_iff_eq] at hc
    obtain ⟨⟨⟨hr, hlen⟩, hp⟩, hq⟩ := hc
    simp only [wpH] at h
    obtain ⟨h1, h2⟩ := h
    refine ⟨fun _ w e => by subst e; exact hG, fun h0 => (by rw [hr] at h0; cases h0), fun x hx => ?_⟩
    have hx' := hx
    rw [hr] at hx
    obtain ⟨_, ox, hox, _⟩ := mem_ready.1 hx'
    rcases List.mem_cons.1 hx with rfl | hx
    · exact stepT_of_op hox h1 fun a' w' hG' hX => wpG_of_H hok hs hQ p _ a' w' (by rw [Array.size_setIfInBounds]; exact hsz) (hclosed.set hx') hp hG' hX
    · obtain rfl := List.mem_singleton.1 hx
      exact stepT_of_op hox h2 fun a' w' hG' hX => hlen ▸ wpG_of_H hok hs hQ q _ a' w' (by rw [Array.size_setIfInBounds]; exact hsz) (hclosed.set hx') hq hG' hX
/-- The rule, shut. -/
structure OrdH (P : Program) (ops : Array Oper) (Q : Exit → Act → World → Prop) (G : World → Prop) (t : Th) (a : Act) (w : World) : Prop where mk :: (out : wpH P ops Q G t a w)
/-- What the region comes to is told (M) with the state ahead of it; what follows stands behind it. -/
theorem regionH {id : Nat} {a : Act} {w : World} (G : World → Prop) (t : Th) (k : Nat) (M : Act → Act → World → Prop) (hm : P.follows .mixedOrders = true) (hc : (Region.noSelect ops && (t.len == ops.size) && decide (k < ops.size) && chkH .any ops k t (Array.replicate ops.size false)) = true)
    (hG : G { w with drawn := w.drawn + 1 }) (h : OrdH P ops (fun x a' w => x = .normal ∧ M a a' w) G t a { w with drawn := w.drawn + 1 }) (hk : ∀ a' w', M a a' w' → Q .normal a' w') : (Code.region id ops true).wp P Q a w := by
  simp only [Bool.and_eq_true, beq_iff_eq, decide_eq_true_eq] at hc
  obtain ⟨⟨⟨h1, h2⟩, h3⟩, h5⟩ := hc
  refine Code.wp_mono (Q := fun x a' w => x = .normal ∧ M a a' w) (fun e a w hx => by obtain ⟨rfl, hM⟩ := hx; exact hk _ _ hM) ?_
  refine wp_region_any hm (wpAny_of_wpG (cl := fun _ => true) (G := G) (k := k) _ _ _ (fun w' => w' = { w with drawn := w.drawn + 1 }) _ rfl ?_)
  rw [← h2]
  exact wpG_of_H (Array.getElem?_eq_getElem h3) h1 (fun c a d v w h => by obtain ⟨h, _⟩ := h; cases h) t _ a _ (by rw [h2, Array.size_replicate]; exact h3) (closed.start _) (by rw [h2]; exact h5) hG h.out
section
variable {G : World → Prop} {i j : Nat} {p q : Th} {l : List Nat} {a a' : Act} {w : World} {o o' : Oper} {N : Tmp}
theorem hR {v : Value} (h : OrdH P ops Q G p a' w) (hi : ops[i]? = some o := by rfl) (hN : o.dst = some N := by rfl) (hw : Region.wanted o (yielded ops a.tmps) = true := by rfl)
    (hy : ∀ w, G w → (execOp a.eval o).run P w = .ok (.value v) w := by intro w' hS; (first | (have hA := blk_cell hS; clear hS; go_simp; first | done | rfl) | (clear hS; go_simp; first | done | rfl)))
    (ha : a.put (some N) v = a' := by simp only [Act.put, List.setIfInBounds_toArray, List.set_cons_zero, List.set_cons_succ]; rfl) : OrdH P ops Q G (.r i p) a w := by
  refine ⟨?_⟩
  simp only [wpH, hi]
  rw [if_pos hw]
  exact ⟨v, hy, by rw [hN, ha]; exact h.out⟩
theorem hN (h : wpList P ops (Exit.then (fun a' w' => G w' ∧ OrdH P ops Q G p a' w') Q) [o] a w) (hi : ops[i]? = some o := by rfl) : OrdH P ops Q G (.n i p) a w := by
  refine ⟨?_⟩
  simp only [wpH]
  exact wpOp_mono (fun a' w' hh => ⟨hh.1, hh.2.out⟩) (wpOp_of_one hi h)
theorem hLeaf (h : TailG P ops Q G l a w) : OrdH P ops Q G (.leaf l) a w := ⟨h.out⟩
end
end Go.Proofs.YtgemaohdlibboaaGreatDoor.Reg
/- Walks: texts cut, relations looked up, on both sides. No condition. -/
namespace Go.Proofs.YtgemaohdlibboaaGreatDoor.H
open Go Go.RowKit Go.Proofs.YtgemaohdlibboaaGreatDoorW.PrintWords Go.Proofs.YtgemaohdlibboaaGreatDoorW.PrintLast
open Go.Proofs.YtgemaohdlibboaaGreatDoor.Reg (On on_draw)
set_option maxHeartbeats 4000000
set_option maxRecDepth 100000
set_option linter.unusedVariables false
set_option linter.unusedSimpArgs false

end Go.Proofs.YtgemaohdlibboaaGreatDoor.H
/- Walks: texts cut at a sign, on both sides. No condition. -/
namespace Go.Proofs.YtgemaohdlibboaaGreatDoor.H
open Go Go.RowKit Go.Proofs.YtgemaohdlibboaaGreatDoorW.PrintWords Go.Proofs.YtgemaohdlibboaaGreatDoorW.PrintLast
open Go.Proofs.YtgemaohdlibboaaGreatDoor.Reg (On on_draw)
set_option maxHeartbeats 4000000
set_option maxRecDepth 100000
set_option linter.unusedVariables false
set_option linter.unusedSimpArgs false

end Go.Proofs.YtgemaohdlibboaaGreatDoor.H
/- Walks: a text spoiled. What is told: its length. No condition. -/
namespace Go.Proofs.YtgemaohdlibboaaGreatDoor.H
open Go Go.RowKit Go.Proofs.YtgemaohdlibboaaGreatDoorW.PrintWords Go.Proofs.YtgemaohdlibboaaGreatDoorW.PrintLast
open Go.Proofs.YtgemaohdlibboaaGreatDoor.Reg (On on_draw)
set_option maxHeartbeats 4000000
set_option maxRecDepth 100000
set_option linter.unusedVariables false
set_option linter.unusedSimpArgs false

end Go.Proofs.YtgemaohdlibboaaGreatDoor.H
