/- Walks: the program takes facts out of an instance. No condition. -/
import Derived.Test.YtngjhblbpapjeaaHC5
import Derived.Test.YtngjhblbpapjeaaHO3
namespace Go.Proofs.Ytngjhblbpapjeaa.H
open Go Go.RowKit Go.Proofs.YtngjhblbpapjeaaW.PrintWords Go.Proofs.YtngjhblbpapjeaaW.PrintLast
open Go.Proofs.Ytngjhblbpapjeaa.Reg (On on_draw)
set_option maxHeartbeats 4000000
set_option maxRecDepth 100000
set_option linter.unusedVariables false
set_option linter.unusedSimpArgs false

/-- The headers that are kept of the first j. -/
def kept (p : Fct → Bool) (hs : List Hdr) (fs : List Fct) (j : Nat) : List Hdr := (((hs.zip fs).take j).filter fun q => !p q.2).map Prod.fst
theorem kept_succ (p : Fct → Bool) (hs : List Hdr) (fs : List Fct) (j : Nat) (hl : hs.length = fs.length) (h : j < fs.length) : kept p hs fs (j + 1) = kept p hs fs j ++ (if p fs[j] then [] else [hs[j]'(by omega)]) := by
  unfold kept
  rw [List.take_succ_eq_append_getElem (by rw [List.length_zip]; omega), List.filter_append, List.map_append, List.getElem_zip, List.filter_cons]
  cases p fs[j] <;> simp
theorem kept_len (p : Fct → Bool) (hs : List Hdr) (fs : List Fct) (j : Nat) : (kept p hs fs j).length ≤ j := by
  unfold kept
  rw [List.length_map]
  exact Nat.le_trans (List.length_filter_le _ _) (by rw [List.length_take]; omega)
theorem filter_zip_snd (p : Fct → Bool) : ∀ (hs : List Hdr) (fs : List Fct), hs.length = fs.length → ((hs.zip fs).filter fun q => !p q.2).map Prod.snd = fs.filter fun f => !p f
  | [], [], _ => rfl
  | [], _ :: _, h => by simp at h
  | _ :: _, [], h => by simp at h
  | a :: hs, f :: fs, h => by
    have ih := filter_zip_snd p hs fs (by simpa using h)
    rw [List.zip_cons_cons, List.filter_cons, List.filter_cons]
    cases p f <;> simp [ih]
theorem kept_sep {w : World} {lo : Nat} {hs : List Hdr} {fs : List Fct} (h : Sep w lo hs fs) (p : Fct → Bool) : Sep w lo (kept p hs fs fs.length) (fs.filter fun f => !p f) := by
  have hq : ((hs.zip fs).filter fun q => !p q.2).Sublist (hs.zip fs) := List.filter_sublist
  have := h.sub hq
  rw [filter_zip_snd p hs fs h.len] at this
  unfold kept
  rw [List.take_of_length_le (by rw [List.length_zip]; omega)]
  exact this
theorem kept_front (p : Fct → Bool) (hs : List Hdr) (fs : List Fct) (hl : hs.length = fs.length) : ∀ j, j ≤ fs.length → (∀ i, (h : i < j) → (hi : i < fs.length) → p fs[i] = false) → kept p hs fs j = hs.take j
  | 0, _, _ => by simp [kept]
  | j + 1, hj, h => by
    rw [kept_succ p hs fs j hl (by omega), kept_front p hs fs hl j (by omega) (fun i hi hf => h i (by omega) hf), h j (by omega) (by omega), List.take_succ_eq_append_getElem (by omega)]
    rfl
theorem idxFrom_spec (p : Fct → Bool) : ∀ (l : List Fct) (i : Nat), (idxFrom p l i = -1 ∧ ∀ j, (h : j < l.length) → p l[j] = false) ∨ ∃ k, ∃ h : k < l.length, idxFrom p l i = ((i + k : Nat) : Int) ∧ p l[k] = true ∧ ∀ j, (hj : j < k) → p (l[j]'(by omega)) = false
  | [], _ => .inl ⟨rfl, fun j h => by simp at h⟩
  | x :: l, i => by
    unfold idxFrom
    cases hx : p x with
    | true => exact .inr ⟨0, by simp, by simp, by simpa using hx, fun j hj => by omega⟩
    | false =>
      rw [if_neg (by simp)]
      rcases idxFrom_spec p l (i + 1) with ⟨e, ha⟩ | ⟨k, hk, e, ht, ha⟩
      · refine .inl ⟨e, fun j h => ?_⟩
        cases j with
        | zero => exact hx
        | succ j => exact ha j (by simpa using h)
      · refine .inr ⟨k + 1, by simp; omega, by rw [e]; congr 1; omega, by simpa using ht, fun j hj => ?_⟩
        cases j with
        | zero => exact hx
        | succ j => exact ha j (by omega)
/-- How the row stands when j facts are looked at, of which i are kept. -/
structure KI (p : Fct → Bool) (hs : List Hdr) (fs : List Fct) (j i : Nat) (L : List Hdr) : Prop where
  len : L.length = fs.length
  lt : i < j
  is : i = (kept p hs fs j).length
  row : ∃ M, L = kept p hs fs j ++ M ++ hs.drop j
theorem KI.start (p : Fct → Bool) (hs : List Hdr) (fs : List Fct) (hl : hs.length = fs.length) (k : Nat) (hk : k < fs.length) (ht : p fs[k] = true) (hall : ∀ j, (hj : j < k) → p (fs[j]'(by omega)) = false) : KI p hs fs (k + 1) k hs := by
  have e : kept p hs fs (k + 1) = hs.take k := by
    rw [kept_succ p hs fs k hl hk, ht, if_pos rfl, List.append_nil, kept_front p hs fs hl k (by omega) (fun i hi _ => hall i hi)]
  refine ⟨hl, Nat.lt_succ_self _, by rw [e, List.length_take]; omega, ⟨[hs[k]], ?_⟩⟩
  rw [e, ← List.take_succ_eq_append_getElem (by omega), List.take_append_drop]
theorem KI.mid {p : Fct → Bool} {hs : List Hdr} {fs : List Fct} {j i : Nat} {L : List Hdr} (h : KI p hs fs j i L) (hl : hs.length = fs.length) (hj : j < fs.length) : ∃ m M, L = kept p hs fs j ++ (m :: M) ++ hs.drop j ∧ i + (M.length + 1) = j := by
  obtain ⟨M, e⟩ := h.row
  have h1 := congrArg List.length e
  rw [h.len, List.length_append, List.length_append, List.length_drop, ← h.is] at h1
  cases M with
  | nil => have := h.lt; simp at h1; omega
  | cons m M => exact ⟨m, M, e, by simp at h1; omega⟩
theorem KI.get {p : Fct → Bool} {hs : List Hdr} {fs : List Fct} {j i : Nat} {L : List Hdr} (h : KI p hs fs j i L) (hl : hs.length = fs.length) (hj : j < fs.length) : L[j]? = hs[j]? := by
  obtain ⟨m, M, e, hM⟩ := h.mid hl hj
  have h2 := h.is
  rw [e, List.getElem?_append_right (by simp; omega), List.length_append, List.length_cons, ← h2, show j - (i + (M.length + 1)) = 0 by omega, List.getElem?_drop]
  rfl
theorem KI.skip {p : Fct → Bool} {hs : List Hdr} {fs : List Fct} {j i : Nat} {L : List Hdr} (h : KI p hs fs j i L) (hl : hs.length = fs.length) (hj : j < fs.length) (hp : p fs[j] = true) : KI p hs fs (j + 1) i L := by
  obtain ⟨M, e⟩ := h.row
  have ek : kept p hs fs (j + 1) = kept p hs fs j := by rw [kept_succ p hs fs j hl hj, hp, if_pos rfl, List.append_nil]
  refine ⟨h.len, Nat.lt_succ_of_lt h.lt, by rw [ek]; exact h.is, ⟨M ++ [hs[j]'(by omega)], ?_⟩⟩
  rw [ek, e, List.drop_eq_getElem_cons (by omega : j < hs.length)]
  simp
theorem KI.keep {p : Fct → Bool} {hs : List Hdr} {fs : List Fct} {j i : Nat} {L : List Hdr} (h : KI p hs fs j i L) (hl : hs.length = fs.length) (hj : j < fs.length) (hp : p fs[j] = false) : KI p hs fs (j + 1) (i + 1) (L.set i (hs[j]'(by omega))) := by
  obtain ⟨m, M, e, hM⟩ := h.mid hl hj
  have ek : kept p hs fs (j + 1) = kept p hs fs j ++ [hs[j]'(by omega)] := by rw [kept_succ p hs fs j hl hj, hp, if_neg (by simp)]
  refine ⟨by rw [List.length_set]; exact h.len, Nat.succ_lt_succ h.lt, by rw [ek, List.length_append, ← h.is]; rfl, ⟨M ++ [hs[j]'(by omega)], ?_⟩⟩
  rw [ek, e, List.append_assoc, List.cons_append, set_mid _ _ _ _ _ h.is.symm, List.drop_eq_getElem_cons (by omega : j < hs.length)]
  simp
theorem KI.done {p : Fct → Bool} {hs : List Hdr} {fs : List Fct} {i : Nat} {L : List Hdr} (h : KI p hs fs fs.length i L) : L.take i = kept p hs fs fs.length := by
  obtain ⟨M, e⟩ := h.row
  rw [e, List.append_assoc, h.is, List.take_left]
theorem DeleteFuncF_calls (w : World) (lo : Nat) (v : Value) (hs : List Hdr) (fs : List Fct) (hO : OH w lo v hs) (hS : Sep w lo hs fs) {fn : FuncId} {F : Func} (caps : Array Value) (p : Fct → Bool) (hf : Try.prog.funcs[fn]? = some F) (hname : (F.name == "runtime.NumGoroutine") = false) (hbd : F.body.isSome = true)
    (hcl : ∀ (w' : World), Ex (fun b => some b = v.ownBlock) w w' → ∀ (f : Fct), f ∈ fs → ∀ (A1 : Option Addr) (c1 : Nat), Ints w' A1 c1 f.2 → Calls Try.prog fn (#[.agg #[.int .i64 f.1, .slice A1 f.2.length c1]] ++ caps) w' fun e w'' => e = .returned (.bool (p f)) ∧ On w' w'') :
    Calls Try.prog 68 #[v, .func (.func fn) #[] caps] w (Got fun v' w' => ∃ hs', OH w' lo v' hs' ∧ Sep w' lo hs' (fs.filter fun f => !p f) ∧ Ex (fun b => some b = v.ownBlock) w w' ∧ ∀ b, FB v' hs' b → FB v hs b) := by
  have hlen := hS.len
  have hF := OH.rd hO hS.reads
  obtain ⟨A, c, e0, hFc⟩ := hF
  have hn : v = .slice A hs.length c := by rw [hlen]; exact e0
  have hIF := IndexFuncF_calls w A c fs hFc caps p hf hname hbd (fun w' hw f hf A1 c1 hI => hcl w' (Ex.of_on hw) f hf A1 c1 hI)
  rcases idxFrom_spec p fs 0 with ⟨e1, hall⟩ | ⟨k0, hk0, e1, ht, hall⟩
  · have hk := Aside0.mk (kept_sep hS p)
    rw [kept_front p hs fs hlen fs.length (Nat.le_refl _) (fun i _ hi => hall i hi), List.take_of_length_le (by omega)] at hk
    rw [e1] at hIF
    have hIF' := Aside0.mk hIF
    have hO' := Aside0.mk hO
    subst e0
    clear hIF hall e1 hFc hcl hS hO hn
    go_enter Try.func68, Try.ntmps68
    go_wp2_with (go_at_call 113; refine hIF'.out.mono ?_; rintro e w1 ⟨rfl, hb1⟩)
    go_ret
    exact ⟨_, rfl, hs, pw_own_below hO'.out hb1, hk.out.on hb1, Ex.of_on hb1, fun _ h => h⟩
  · rcases hO.2 with ⟨hv, hz⟩ | ⟨g, cap, cur, hv, hg, _⟩
    · omega
    have e5 := hn.symm.trans hv
    injection e5 with e5 _ e6
    subst e5 e6 e0
    have hk0' := hk0
    have hcapm := (OH.rh (n := fs.length) hO).2.cap
    have hmx : fs.length ≤ 9223372036854775807 := by have := (OH.rh (n := fs.length) hO).2.max; omega
    rw [hlen] at hcapm
    have hI0 := Aside0.mk (KI.start p hs fs hlen k0 hk0 ht hall)
    rw [e1, Nat.zero_add] at hIF
    have hIF' := Aside0.mk hIF
    have hO' := Aside0.mk hO
    have hS' := Aside0.mk hS
    have hlen' := Aside0.mk hlen
    have hcl' := Aside0.mk hcl
    have hne : ((k0 : Int) == -1) = false := beq_eq_false_iff_ne.2 (by omega)
    clear hIF hall e1 hFc hcl hS hO hn hv ht hlen
    go_enter Try.func68, Try.ntmps68
    go_wp2_with (go_at_call 113; refine hIF'.out.mono ?_; rintro e w1 ⟨rfl, hb1⟩)
    go_loopw [5, 6] (fun v5 v6 wr => ∃ (i j : Nat) (L : List Hdr), v5 = .int .i64 i ∧ v6 = .int .i64 j ∧ j ≤ fs.length ∧ Aside0 (KI p hs fs j i L) ∧ Aside0 (OH wr lo (.slice (some ⟨g, 0, none⟩) fs.length c) L) ∧ Aside0 (Ex (fun b => some b = Value.ownBlock (.slice (some ⟨g, 0, none⟩) fs.length c)) w wr)) (fun _ v6 _ => fs.length - (intOf v6).toNat)
    case atStart => exact ⟨k0, k0 + 1, hs, rfl, by go_num, hk0, hI0, ⟨pw_own_below hO'.out hb1⟩, ⟨Ex.of_on hb1⟩⟩
    case round =>
      obtain ⟨i, j, L, rfl, rfl, hj, hK, hL, hE⟩ := hrel
      have hij := hK.out.lt
      have hLl := Aside0.mk hK.out.len
      by_cases hlt : j < fs.length
      · have hjh : j < hs.length := by have := hlen'.out; omega
        have hLj : L[j]'(by have := hLl.out; omega) = hs[j] := Option.some.inj (by rw [← List.getElem?_eq_getElem, ← List.getElem?_eq_getElem, hK.out.get hlen'.out hlt])
        obtain ⟨a1, a2, a3⟩ := hS'.out.reads.at_ j hs[j] fs[j] (List.getElem?_eq_getElem hjh) (List.getElem?_eq_getElem hlt)
        have hSr := hS'.out.ex hE.out (fun i a b ha hb e => (hS'.out.ne_row hO'.out ha hb) e.symm)
        obtain ⟨_, _, b3⟩ := hSr.reads.at_ j hs[j] fs[j] (List.getElem?_eq_getElem hjh) (List.getElem?_eq_getElem hlt)
        obtain ⟨hx0, hx1⟩ := hL.out.at j (by have := hLl.out; omega)
        rw [hLj, a1] at hx0
        rw [hLj] at hx1
        obtain ⟨hd, hhd⟩ : ∃ hd, hd = hs[j] := ⟨_, rfl⟩
        rw [← hhd] at a1 a2 b3 hx1
        obtain ⟨r1, A3, n3, c3⟩ := hd
        dsimp only at a1 a2 b3
        subst a1 a2
        have hx1 : wr.cell? ⟨g, j * 2 + 1, none⟩ = some (.slice A3 fs[j].2.length c3) := hx1
        have hhd' := Aside0.mk hhd
        have hfill := alloc_fill wr
        have hcn := blk_cell (loc_new wr #[.int .i64 fs[j].1, .slice A3 fs[j].2.length c3] 55)
        have hbx := Aside0.mk (On.alloc (On.refl wr) (.cells #[.int .i64 fs[j].1, .slice A3 fs[j].2.length c3] 55))
        have hcall := Aside0.mk (hcl'.out _ (hE.out.then_on hbx.out) fs[j] (List.getElem_mem hlt) A3 c3 (b3.on hbx.out))
        clear hLj a3 hSr hhd b3
        cases hq : p fs[j] with
        | true =>
          have hq' := Aside0.mk hq
          rw [hq] at hcall
          clear hq
          go_wp2_with (refine gate 28 ?_)
          refine ⟨goesC 28 hf hname hbd (hcall.out.mono fun e w2 h2 => ⟨_, h2.1, ?_⟩)⟩
          have hb2 := Aside0.mk (hbx.out.trans h2.2)
          clear h2 hfill hcn hx0 hx1
          go_wp2
          exact ⟨⟨i, j + 1, L, rfl, by go_num, hlt, ⟨hK.out.skip hlen'.out hlt hq'.out⟩, ⟨pw_own_below hL.out hb2.out⟩, ⟨hE.out.then_on hb2.out⟩⟩, by simp [intOf]; omega⟩
        | false =>
          have hq' := Aside0.mk hq
          rw [hq] at hcall
          clear hq
          go_wp2_with (refine gate 28 ?_)
          refine ⟨goesC 28 hf hname hbd (hcall.out.mono fun e w2 h2 => ⟨_, h2.1, ?_⟩)⟩
          have hb2 := Aside0.mk (hbx.out.trans h2.2)
          have hbc := blk_cell (blk_below (loc_new wr #[.int .i64 fs[j].1, .slice A3 fs[j].2.length c3] 55) h2.2)
          have hL2 := Aside0.mk (pw_own_below hL.out hb2.out)
          obtain ⟨hi0, hi1⟩ := OH.at hL2.out i (by have := hLl.out; omega)
          have hL2n : w2.ownsRow lo 55 2 (.slice (some ⟨g, 0, none⟩) fs.length c) fs.length (L.flatMap encH) := hLl.out ▸ hL2.out
          have hf0 := own_frozen hL2n (i * 2)
          have hf1 := own_frozen hL2n (i * 2 + 1)
          clear hL2n
          have hiL : i < L.length := by have := hLl.out; omega
          clear h2 hfill hcn hx0 hx1
          go_wp2
          have hst := OH.store hL2.out i hiL (fs[j].1, A3, fs[j].2.length, c3)
          have hkp := hK.out.keep hlen'.out hlt hq'.out
          rw [← hhd'.out] at hkp
          exact ⟨⟨i + 1, j + 1, _, by go_num, by go_num, hlt, ⟨hkp⟩, ⟨hst⟩, ⟨((hE.out.then_on hb2.out).trans' (Ex.mono (Ex.set _ _ _) (fun k e => by subst e; rfl))).trans' (Ex.mono (Ex.set _ _ _) (fun k e => by subst e; rfl))⟩⟩, by simp [intOf]; omega⟩
      · obtain rfl : j = fs.length := by omega
        have hclr := fun ty => run_clearF hL.out i hij (c - i) ty
        go_wp2_with (refine gate 38 ?_)
        refine ⟨slFF 38 (A := some ⟨g, 0, none⟩) (k := i) (n := fs.length) (c := c) (A' := some ⟨g, i * 2, none⟩) (m := fs.length - i) (c' := c - i) (by rw [if_neg (by omega), Option.map_some, add_plain]) rfl rfl (by omega) hcapm ?_⟩
        go_wp2_with (refine gate 41 ?_)
        refine ⟨slTF 41 (k := i) (n := fs.length) (c := c) (Nat.le_of_lt hij) hcapm ?_⟩
        go_wp2
        go_ret
        have hLn : wr.ownsRow lo 55 2 (.slice (some ⟨g, 0, none⟩) fs.length c) fs.length (L.flatMap encH) := hLl.out ▸ hL.out
        obtain ⟨h1, g1⟩ := own_sets (Builtin.zeroCells #[.int .i64 0, .slice none 0 0] (fs.length - i)).toList (i * 2) _ _ hLn (by rw [Array.length_toList, size_zeroCells]; show i * 2 + (fs.length - i) * 2 ≤ _; omega)
        have h2 := own_cut h1 i (Nat.le_of_lt hij)
        have hl0 : (L.flatMap encH).length = fs.length * 2 := hLn.1
        have e : ((L.flatMap encH).take (i * 2)) = (kept p hs fs fs.length).flatMap encH := by
          rw [← hK.out.done]
          have e2 : L.flatMap encH = (L.take i).flatMap encH ++ (L.drop i).flatMap encH := by rw [← List.flatMap_append, List.take_append_drop]
          have e3 : ((L.take i).flatMap encH).length = i * 2 := by rw [flat_len (enc := encH) (sz := 2) (fun _ => rfl), List.length_take, hLl.out]; congr 1; omega
          rw [e2, List.take_append_of_le_length (by omega), ← e3, List.take_length]
        rw [List.append_assoc, List.take_append_of_le_length (by rw [List.length_take]; omega), List.take_take, Nat.min_self, e] at h2
        have hE' := hE.out.trans' (Ex.of_grown g1)
        refine ⟨_, rfl, kept p hs fs fs.length, ?_, (kept_sep hS'.out p).ex hE' (fun i a b ha hb e => ?_), hE', fun b h => ?_⟩
        · show World.ownsRow _ _ _ _ _ (kept p hs fs fs.length).length _
          rw [← hK.out.is]; exact h2
        · have hk := kept_sep hS'.out p
          exact (hk.ne_row (hs' := hs) (lo' := lo) (by have := hO'.out; rw [← hlen'.out] at this ⊢; exact this) ha hb) e.symm
        · rcases h with h | ⟨m, a, ha, h⟩
          · exact .inl h
          · have hmem := List.mem_of_getElem? ha
            unfold kept at hmem
            obtain ⟨q, hq, rfl⟩ := List.mem_map.1 hmem
            have hq1 := List.mem_of_mem_take (List.mem_filter.1 hq).1
            have hq2 : q.1 ∈ hs := (List.of_mem_zip hq1).1
            obtain ⟨m', hm', e⟩ := List.mem_iff_getElem.1 hq2
            exact .inr ⟨m', q.1, by rw [List.getElem?_eq_getElem hm', e], h⟩
theorem DeleteFact1_calls (w : World) (A0 c0 A1 c1) (f g : Fct) (b : Nat) (h0 : Ints w A0 c0 f.2) (h1 : Ints w A1 c1 g.2) (hb0 : w.heap[b]? = some (.cells #[.int .i64 g.1, .slice A1 g.2.length c1] 55 (0, 0))) : Calls Try.prog 89 #[.agg #[.int .i64 f.1, .slice A0 f.2.length c0], .pointer (some ⟨b, 0, none⟩)] w fun e w' => e = .returned (.bool (cmpF f g == 0)) ∧ On w w' := by
  have hb := Aside0.mk (On.alloc (On.refl w) (.cells #[.int .i64 f.1, .slice A0 f.2.length c0] 55))
  have hc := blk_cell (blk_below hb0 hb.out)
  have hlt := Aside0.mk (blk_lt hb0)
  clear hb0
  go_enter Try.func89, Try.ntmps89
  go_wp2_with (go_at_call 90; refine (sameFact_calls _ A0 c0 A1 c1 f g (h0.on hb.out) (h1.on hb.out)).mono ?_; rintro e w1 ⟨rfl, hb1⟩)
  go_ret
  exact ⟨rfl, hb.out.trans hb1⟩
theorem Restrict1_calls (w : World) (A0 c0 A1 c1) (f : Fct) (rs : List Rel) (u : Value) (s : Bool) (b b2 : Nat) (t t2 : TypeId) (h0 : Ints w A0 c0 f.2) (h1 : Rels w A1 c1 rs) (hf0 : 0 ≤ f.1) (hf1 : f.1 < rs.length) (hb0 : w.heap[b]? = some (.cells #[.slice A1 rs.length c1, u] t (0, 0))) (hb2 : w.heap[b2]? = some (.cells #[.bool s] t2 (0, 0))) : Calls Try.prog 69 #[.agg #[.int .i64 f.1, .slice A0 f.2.length c0], .pointer (some ⟨b, 0, none⟩), .pointer (some ⟨b2, 0, none⟩)] w fun e w' => e = .returned (.bool (!(srcOf rs f.1 == s))) ∧ On w w' := by
  have hb := Aside0.mk (On.alloc (On.refl w) (.cells #[.int .i64 f.1, .slice A0 f.2.length c0] 55))
  have hc := blk_cell (blk_below hb0 hb.out)
  have hc2 := blk_cell (blk_below hb2 hb.out)
  have hcn := blk_cell (loc_new w #[.int .i64 f.1, .slice A0 f.2.length c0] 55)
  have hmx := h1.max
  have hat1 : f.1.toNat < rs.length := by omega
  obtain ⟨ad, rfl, _, _, hxs⟩ := (h1.on hb.out).at f.1.toNat hat1
  have hsr : rs[f.1.toNat].2.2 = srcOf rs f.1 := by simp [srcOf, hat1]
  rw [hsr] at hxs
  clear hb0 hb2 hsr
  go_enter Try.func69, Try.ntmps69
  go_wp2
  refine Reg.region [(0,.L),(1,.L),(2,.L),(3,.L),(4,.L),(5,.L),(6,.L),(7,.L),(8,.L),(9,.L)] [] (by kernel_rfl) (by kernel_rfl) ?_
  repeat first | refine sP ?_ | refine sS ?_ | refine sA ?_ | refine sL ?_ | refine sQ ?_ | refine sO ?_
  refine Reg.nil fun w2 hS => ?_
  go_wp2
  go_ret
  exact ⟨rfl, hb.out.trans hS⟩
theorem iDeleteFact_calls (w : World) (A0 c0 A1 c1) (rs : List Rel) (fs : List Fct) (h0 : Rels w A0 c0 rs) (h1 : Fcts w A1 c1 fs) (A2 c2) (g : Fct) (h2 : Ints w A2 c2 g.2) (hl0 : rs.length ≤ 2000000) (hl : fs.length ≤ 2000000) (hl2 : ∀ f ∈ fs, f.2.length ≤ 2000000) :
    Calls Try.prog 34 #[.agg #[.slice A0 rs.length c0, .slice A1 fs.length c1], .agg #[.int .i64 g.1, .slice A2 g.2.length c2]] w (Got fun v w' => ∃ v1, v = .tuple #[v1, .bool (okInst rs fs && hasF fs g)] ∧ OIn w' w.heap.size v1 rs (delI rs fs g) ∧ On w w') := by
  have hb := Aside0.mk (On.alloc (On.alloc (On.alloc (On.refl w) (.cells #[.slice A0 rs.length c0, .slice A1 fs.length c1] 32)) (.cells #[.int .i64 g.1, .slice A2 g.2.length c2] 55)) (.cells #[.slice none 0 0, .slice none 0 0] 32))
  have hL := Aside0.mk (loc3 w #[.slice A0 rs.length c0, .slice A1 fs.length c1] #[.int .i64 g.1, .slice A2 g.2.length c2] #[.slice none 0 0, .slice none 0 0] 32 55 32)
  have hsz3 := Aside0.mk (show (((w.alloc (.cells #[.slice A0 rs.length c0, .slice A1 fs.length c1] 32)).alloc (.cells #[.int .i64 g.1, .slice A2 g.2.length c2] 55)).alloc (.cells #[.slice none 0 0, .slice none 0 0] 32)).heap.size = w.heap.size + 3 by simp)
  cases ho : okInst rs fs && hasF fs g with
  | false =>
    have ho' := Aside0.mk ho
    clear ho
    go_enter Try.func34, Try.ntmps34
    go_wp2_with (first
      | (go_at_call 67; refine (instanceCopy_calls _ A0 c0 A1 c1 rs fs (h0.on hb.out) (h1.on hb.out) hl0 hl hl2).mono ?_; rintro e w1 ⟨v1, rfl, ⟨vr, vf, hs, rfl, hR, hH, hS⟩, hb1⟩; obtain ⟨Ar, cr, rfl⟩ := own_slice hR; obtain ⟨Af, cf, rfl⟩ := own_slice hH; have hfill := alloc_fill w1; have hI := Aside0.mk (OIn.mk ⟨_, _, hs, rfl, hR, hH, hS⟩); have hB1 := Aside0.mk (hb1.trans (On.alloc (On.refl _) (.cells #[.slice Ar rs.length cr, .slice Af hs.length cf] 32))); have hL1 := Aside0.mk (Loc.on hB1.out hL.out); have hc0 := blk_cell hL1.out.1; have hc1 := blk_cell hL1.out.2.1; have hY1 := Aside0.mk (loc_new w1 #[.slice Ar rs.length cr, .slice Af hs.length cf] 32); clear hR hH hS)
      | (go_at_call 88; refine (iContainsFact_calls _ A0 c0 A1 c1 rs fs (h0.on (hb.out.trans hB1.out)) (h1.on (hb.out.trans hB1.out)) A2 c2 g (h2.on (hb.out.trans hB1.out))).mono ?_; rintro e w2 ⟨rfl, hb2⟩; rw [ho'.out]; have hL2 := Aside0.mk (Loc.on (hB1.out.trans hb2) hL.out); have hy := blk_cell (blk_below hY1.out hb2); have hcr : ∀ i, w2.cell? ⟨w.heap.size + 1 + 1, i, none⟩ = _ := blk_cell hL2.out.2.2.1; have hfr : ∀ i, w2.frozen? ⟨w.heap.size + 1 + 1, i, none⟩ = _ := blk_frozen hL2.out.2.2.1; have hI2 := Aside0.mk (hI.out.on ((On.alloc (On.refl _) _).trans hb2)); clear hc0 hc1 hfill))
    refine bodyPost_ret (retIB rfl rfl (g := w.heap.size + 2) (blk_set (blk_set hL2.out.2.2.1 0 _) 1 _) rfl) rfl ?_
    have hI3 := hI2.out
    rw [hsz3.out] at hI3
    refine ⟨_, rfl, _, rfl, ?_, Reg.On.set (Reg.On.set (hb.out.trans (hB1.out.trans hb2)) (by simp; omega) _) (by simp; omega) _⟩
    unfold delI; rw [ho'.out, if_neg (by simp)]
    exact OIn.lower (OIn.set (OIn.set hI3 (by simp) _) (by simp) _) (by omega)
  | true =>
    have hdel := Aside0.mk (show delI rs fs g = fs.filter fun f => !(cmpF f g == 0) by unfold delI; rw [ho, if_pos rfl]; rfl)
    have ho' := Aside0.mk ho
    clear ho
    go_enter Try.func34, Try.ntmps34
    go_wp2_with (first
      | (go_at_call 67; refine (instanceCopy_calls _ A0 c0 A1 c1 rs fs (h0.on hb.out) (h1.on hb.out) hl0 hl hl2).mono ?_; rintro e w1 ⟨v1, rfl, ⟨vr, vf, hs, rfl, hR, hH, hS⟩, hb1⟩; obtain ⟨Ar, cr, rfl⟩ := own_slice hR; obtain ⟨Af, cf, rfl⟩ := own_slice hH; have hfill := alloc_fill w1; have hR1 := Aside0.mk hR; have hH1 := Aside0.mk hH; have hS1 := Aside0.mk hS; have hB1 := Aside0.mk (hb1.trans (On.alloc (On.refl _) (.cells #[.slice Ar rs.length cr, .slice Af hs.length cf] 32))); have hL1 := Aside0.mk (Loc.on hB1.out hL.out); have hc0 := blk_cell hL1.out.1; have hc1 := blk_cell hL1.out.2.1; have hY1 := Aside0.mk (loc_new w1 #[.slice Ar rs.length cr, .slice Af hs.length cf] 32); have hw1 : w.heap.size + 3 ≤ w1.heap.size := (by have := hb1.size; rwa [hsz3.out] at this); clear hR hH hS)
      | (go_at_call 88; refine (iContainsFact_calls _ A0 c0 A1 c1 rs fs (h0.on (hb.out.trans hB1.out)) (h1.on (hb.out.trans hB1.out)) A2 c2 g (h2.on (hb.out.trans hB1.out))).mono ?_; rintro e w2 ⟨rfl, hb2⟩; rw [ho'.out]; have hL2 := Aside0.mk (Loc.on (hB1.out.trans hb2) hL.out); have hY2 := Aside0.mk (blk_below hY1.out hb2); have hy := blk_cell hY2.out; have hb2' := Aside0.mk ((On.alloc (On.refl w1) (.cells #[.slice Ar rs.length cr, .slice Af hs.length cf] 32)).trans hb2); have hB2 := Aside0.mk (hb.out.trans (hB1.out.trans hb2)); have hge := Aside0.mk (fun i (e : some i = Value.ownBlock (.slice Af hs.length cf)) => show w.heap.size + 3 ≤ i ∧ i < w1.heap.size by have h5 := own_base hH1.out i e.symm; have h6 := own_lt hH1.out i e.symm; rw [hsz3.out] at h5; exact ⟨h5, h6⟩); clear hc0 hc1 hfill hb2)
      | (go_at_call 68; refine (DeleteFuncF_calls w2 _ _ hs fs (pw_own_below hH1.out hb2'.out) (hS1.out.on hb2'.out) (fn := 89) #[.pointer (some ⟨w.heap.size + 1, 0, none⟩)] (fun f => cmpF f g == 0) Try.func89 (by kernel_rfl) rfl (fun w' hw f hf B d hB => DeleteFact1_calls w' B d A2 c2 f g (w.heap.size + 1) hB (h2.on (Ex.on hB2.out hw (fun i e => by have := hge.out i e; omega))) (blk_ex hw hL2.out.2.1 (fun e => by have := hge.out _ e; omega)))).mono ?_; rintro e w3 ⟨v3, rfl, hs3, hO3, hS3, hE3, hFB3⟩; have hFB := Aside0.mk hFB3; clear hFB3; obtain ⟨A3, c3, rfl⟩ := own_slice hO3; have hY3 := Aside0.mk (blk_ex hE3 hY2.out (fun e => by have := hge.out _ e; omega)); have hR3 := Aside0.mk (blk_ex hE3 hL2.out.2.2.1 (fun e => by have := hge.out _ e; omega)); have hy3 := blk_cell hY3.out; have hf3 := blk_frozen hY3.out; have hcr : ∀ i, w3.cell? ⟨w.heap.size + 1 + 1, i, none⟩ = _ := blk_cell hR3.out; have hfr : ∀ i, w3.frozen? ⟨w.heap.size + 1 + 1, i, none⟩ = _ := blk_frozen hR3.out; have hne1 : ¬ (w.heap.size + 1 + 1 = w1.heap.size) := (by omega); have hne2 : ¬ (w1.heap.size = w.heap.size + 1 + 1) := (by omega); have hO3' := Aside0.mk hO3; have hS3' := Aside0.mk hS3; have hE3' := Aside0.mk hE3; clear hO3 hS3 hE3 hy))
    refine bodyPost_ret (retIB rfl rfl (g := w.heap.size + 2) (blk_set (blk_set (blk_far hR3.out (by simpa using hne1) _) 0 _) 1 _) rfl) rfl ?_
    have hw2 := hb2'.out.size
    have hI : OIn (w3.setCell ⟨w1.heap.size, 1, none⟩ (.slice A3 hs3.length c3)) (w.heap.size + 3) (.agg #[.slice Ar rs.length cr, .slice A3 hs3.length c3]) rs (delI rs fs g) := by
      have h5 := hO3'.out
      have h6 := hS3'.out
      have h7 := own_ex (pw_own_below hR1.out hb2'.out) hE3'.out (fun i hi e => by exact own_ne_blk hR1.out hH1.out (by decide) hi e.symm)
      rw [hsz3.out] at h5 h6 h7
      rw [hdel.out]
      refine ⟨_, _, hs3, rfl, own_ex h7 (Ex.set _ _ _) (fun i hi e => ?_), own_ex h5 (Ex.set _ _ _) (fun i hi e => ?_), h6.ex (Ex.set _ _ _) (fun i a b ha hb e => ?_)⟩
      · have := own_lt hR1.out i hi; have h8 : i = w1.heap.size := e; omega
      · have h9 := hFB.out i (.inl hi.symm)
        have h8 : i = w1.heap.size := e
        rcases h9 with h9 | ⟨m, a, ha, h9⟩
        · have := own_lt hH1.out i h9.symm; omega
        · have := (hS1.out.lt ha h9.symm).2; omega
      · have h9 := hFB.out b (.inr ⟨i, a, ha, hb.symm⟩)
        have h8 : b = w1.heap.size := e
        rcases h9 with h9 | ⟨m, a, ha, h9⟩
        · have := own_lt hH1.out b h9.symm; omega
        · have := (hS1.out.lt ha h9.symm).2; omega
    exact ⟨_, rfl, _, rfl, OIn.lower (OIn.set (OIn.set hI (by simp) _) (by simp) _) (by omega), Reg.On.set (Reg.On.set (Reg.On.set (Ex.on hB2.out hE3'.out (fun i e => by have := hge.out i e; omega)) (by simp; omega) _) (by simp; omega) _) (by simp; omega) _⟩
theorem iRestrict_calls (w : World) (A0 c0 A1 c1) (rs : List Rel) (fs : List Fct) (s : Bool) (h0 : Rels w A0 c0 rs) (h1 : Fcts w A1 c1 fs) :
    Calls Try.prog 22 #[.agg #[.slice A0 rs.length c0, .slice A1 fs.length c1], .bool s] w (Got fun v w' => OIn w' w.heap.size v (resR rs fs) (resI rs fs s) ∧ On w w') := by
  have hb := Aside0.mk (On.alloc (On.alloc (On.alloc (On.refl w) (.cells #[.slice A0 rs.length c0, .slice A1 fs.length c1] 32)) (.cells #[.bool s] 4)) (.cells #[.slice none 0 0, .slice none 0 0] 32))
  have hL := Aside0.mk (loc3 w #[.slice A0 rs.length c0, .slice A1 fs.length c1] #[.bool s] #[.slice none 0 0, .slice none 0 0] 32 4 32)
  have hsz3 := Aside0.mk (show (((w.alloc (.cells #[.slice A0 rs.length c0, .slice A1 fs.length c1] 32)).alloc (.cells #[.bool s] 4)).alloc (.cells #[.slice none 0 0, .slice none 0 0] 32)).heap.size = w.heap.size + 3 by simp)
  cases ho : okInst rs fs with
  | false =>
    have ho' := Aside0.mk ho
    clear ho
    go_enter Try.func22, Try.ntmps22
    go_wp2_with (go_at_call 66; refine (iIsValidInstance_calls _ A0 c0 A1 c1 rs fs (h0.on hb.out) (h1.on hb.out)).mono ?_; rintro e w1 ⟨rfl, hb1⟩; rw [ho'.out]; have hL1 := Aside0.mk (Loc.on hb1 hL.out); have hcr : ∀ i, w1.cell? ⟨w.heap.size + 1 + 1, i, none⟩ = _ := blk_cell hL1.out.2.2.1; have hfr : ∀ i, w1.frozen? ⟨w.heap.size + 1 + 1, i, none⟩ = _ := blk_frozen hL1.out.2.2.1)
    refine bodyPost_ret (retI rfl rfl (g := w.heap.size + 2) (blk_set (blk_set hL1.out.2.2.1 0 _) 1 _) rfl) rfl ?_
    refine ⟨_, rfl, ?_, Reg.On.set (Reg.On.set (hb.out.trans hb1) (by simp; omega) _) (by simp; omega) _⟩
    unfold resR resI; rw [ho'.out, if_neg (by simp), if_neg (by simp)]
    exact ⟨_, _, [], rfl, World.ownsRow_nil _ _ _ _, World.ownsRow_nil _ _ _ _, Sep.nil _ _⟩
  | true =>
    have hle := okInst_len ho
    have hmem := Aside0.mk (okInst_mem ho)
    have hdel := Aside0.mk (show resI rs fs s = fs.filter fun f => !(!(srcOf rs f.1 == s)) by unfold resI; rw [ho, if_pos rfl]; unfold resF; congr 1; funext f; simp)
    have hrr := Aside0.mk (show resR rs fs = rs by unfold resR; rw [ho, if_pos rfl])
    have ho' := Aside0.mk ho
    have hl0 : rs.length ≤ 2000000 := by omega
    have hl : fs.length ≤ 2000000 := by omega
    have hl2 : ∀ f ∈ fs, f.2.length ≤ 2000000 := fun f hf => Nat.le_trans (okFact_len (hmem.out f hf)) (by omega)
    clear ho
    go_enter Try.func22, Try.ntmps22
    go_wp2_with (first
      | (go_at_call 66; refine (iIsValidInstance_calls _ A0 c0 A1 c1 rs fs (h0.on hb.out) (h1.on hb.out)).mono ?_; rintro e w0 ⟨rfl, hb0⟩; rw [ho'.out]; have hL0 := Aside0.mk (Loc.on hb0 hL.out); have hc0 := blk_cell hL0.out.1; have hsz0 := hb0.size; rw [hsz3.out] at hsz0)
      | (go_at_call 67; refine (instanceCopy_calls w0 A0 c0 A1 c1 rs fs (h0.on (hb.out.trans hb0)) (h1.on (hb.out.trans hb0)) hl0 hl hl2).mono ?_; rintro e w1 ⟨v1, rfl, ⟨vr, vf, hs, rfl, hR, hH, hS⟩, hb1⟩; obtain ⟨Ar, cr, rfl⟩ := own_slice hR; obtain ⟨Af, cf, rfl⟩ := own_slice hH; have hfill := alloc_fill w1; have hR1 := Aside0.mk hR; have hH1 := Aside0.mk hH; have hS1 := Aside0.mk hS; have hB1 := Aside0.mk (hb1.trans (On.alloc (On.refl _) (.cells #[.slice Ar rs.length cr, .slice Af hs.length cf] 32))); have hL1 := Aside0.mk (Loc.on hB1.out hL0.out); have hc1 := blk_cell hL1.out.2.1; have hY1 := Aside0.mk (loc_new w1 #[.slice Ar rs.length cr, .slice Af hs.length cf] 32); have hcy := blk_cell hY1.out; have hw1 : w.heap.size + 3 ≤ w1.heap.size := (Nat.le_trans hsz0 hb1.size); have hge := Aside0.mk (fun i (e : some i = Value.ownBlock (.slice Af hs.length cf)) => show w.heap.size + 3 ≤ i ∧ i < w1.heap.size by have h5 := own_base hH1.out i e.symm; have h6 := own_lt hH1.out i e.symm; exact ⟨Nat.le_trans hsz0 h5, h6⟩); have hBy := Aside0.mk (On.alloc (On.refl w1) (.cells #[.slice Ar rs.length cr, .slice Af hs.length cf] 32)); have hRr := Aside0.mk (OR.rd hR); have hB2 := Aside0.mk ((hb.out.trans hb0).trans hB1.out); clear hR hH hS hc0)
      | (go_at_call 68; refine (DeleteFuncF_calls _ _ _ hs fs (pw_own_below hH1.out hBy.out) (hS1.out.on hBy.out) (fn := 69) #[.pointer (some ⟨w1.heap.size, 0, none⟩), .pointer (some ⟨w.heap.size + 1, 0, none⟩)] (fun f => !(srcOf rs f.1 == s)) Try.func69 (by kernel_rfl) rfl (fun w' hw f hf B d hB => by
          obtain ⟨Ar', cr', er, hRr2⟩ := OR.rd (own_ex (pw_own_below hR1.out hBy.out) hw (fun i hi e => own_ne_blk hR1.out hH1.out (by decide) hi e.symm))
          injection er with er1 er2 er3
          subst er1 er3
          have hat := okFact_at (hmem.out f hf)
          exact Restrict1_calls w' B d Ar cr f rs _ s w1.heap.size (w.heap.size + 1) _ _ hB hRr2 hat.1 hat.2 (blk_ex hw hY1.out (fun e => by have := hge.out _ e; omega)) (blk_ex hw hL1.out.2.1 (fun e => by have := hge.out _ e; omega)))).mono ?_; rintro e w3 ⟨v3, rfl, hs3, hO3, hS3, hE3, hFB3⟩; have hFB := Aside0.mk hFB3; clear hFB3; obtain ⟨A3, c3, rfl⟩ := own_slice hO3; have hY3 := Aside0.mk (blk_ex hE3 hY1.out (fun e => by have := hge.out _ e; omega)); have hR3 := Aside0.mk (blk_ex hE3 hL1.out.2.2.1 (fun e => by have := hge.out _ e; omega)); have hy3 := blk_cell hY3.out; have hf3 := blk_frozen hY3.out; have hcr : ∀ i, w3.cell? ⟨w.heap.size + 1 + 1, i, none⟩ = _ := blk_cell hR3.out; have hfr : ∀ i, w3.frozen? ⟨w.heap.size + 1 + 1, i, none⟩ = _ := blk_frozen hR3.out; have hne1 : ¬ (w.heap.size + 1 + 1 = w1.heap.size) := (by omega); have hne2 : ¬ (w1.heap.size = w.heap.size + 1 + 1) := (by omega); have hO3' := Aside0.mk hO3; have hS3' := Aside0.mk hS3; have hE3' := Aside0.mk hE3; clear hO3 hS3 hE3 hcy hc1 hfill))
    refine bodyPost_ret (retI rfl rfl (g := w.heap.size + 2) (blk_set (blk_set (blk_far hR3.out (by simpa using hne1) _) 0 _) 1 _) rfl) rfl ?_
    have hI : OIn (w3.setCell ⟨w1.heap.size, 1, none⟩ (.slice A3 hs3.length c3)) (w.heap.size + 3) (.agg #[.slice Ar rs.length cr, .slice A3 hs3.length c3]) (resR rs fs) (resI rs fs s) := by
      have h5 := own_lower hO3'.out hsz0
      have h6 := hS3'.out.lower hsz0
      have h7 := own_lower (own_ex (pw_own_below hR1.out hBy.out) hE3'.out (fun i hi e => by exact own_ne_blk hR1.out hH1.out (by decide) hi e.symm)) hsz0
      rw [hdel.out, hrr.out]
      refine ⟨_, _, hs3, rfl, own_ex h7 (Ex.set _ _ _) (fun i hi e => ?_), own_ex h5 (Ex.set _ _ _) (fun i hi e => ?_), h6.ex (Ex.set _ _ _) (fun i a b ha hb e => ?_)⟩
      · have := own_lt hR1.out i hi; have h8 : i = w1.heap.size := e; omega
      · have h9 := hFB.out i (.inl hi.symm)
        have h8 : i = w1.heap.size := e
        rcases h9 with h9 | ⟨m, a, ha, h9⟩
        · have := own_lt hH1.out i h9.symm; omega
        · have := (hS1.out.lt ha h9.symm).2; omega
      · have h9 := hFB.out b (.inr ⟨i, a, ha, hb.symm⟩)
        have h8 : b = w1.heap.size := e
        rcases h9 with h9 | ⟨m, a, ha, h9⟩
        · have := own_lt hH1.out b h9.symm; omega
        · have := (hS1.out.lt ha h9.symm).2; omega
    exact ⟨_, rfl, OIn.lower (OIn.set (OIn.set hI (by simp) _) (by simp) _) (by omega), Reg.On.set (Reg.On.set (Reg.On.set (Ex.on hB2.out hE3'.out (fun i e => by have := hge.out i e; omega)) (by simp; omega) _) (by simp; omega) _) (by simp; omega) _⟩
end Go.Proofs.Ytngjhblbpapjeaa.H
