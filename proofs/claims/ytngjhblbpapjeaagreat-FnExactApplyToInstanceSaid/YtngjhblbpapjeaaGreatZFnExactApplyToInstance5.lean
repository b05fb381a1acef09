/- Walks and plain laws for the law FnExactApplyToInstance, part 5 of 6: the texts HJ5, HJ6, HD3, HS2, HJ8, HS4, HJ9, HL10, HL11a in one. No condition. -/
import Derived.Shelf.SlSortCmp.NoneTotal
import Derived.Test.YtngjhblbpapjeaaGreatWEqStruct
import Derived.Test.YtngjhblbpapjeaaGreatZFnExactApplyToInstance4
/- The library's SortFunc at facts: the shelf's contract laid for this program. Printed by a program of this session. No condition. -/
namespace Go.Proofs.YtngjhblbpapjeaaGreat.H
open Go Go.RowKit Go.Shelf Go.Proofs.YtngjhblbpapjeaaGreatW.PrintWords Go.Proofs.YtngjhblbpapjeaaGreatW.PrintLast
open Go.Proofs.YtngjhblbpapjeaaGreat.Reg (On on_draw)
set_option maxHeartbeats 4000000
set_option maxRecDepth 100000
set_option linter.unusedVariables false
def sortRen : Go.Shelf.Ren := ⟨fun | 6 => 82 | 14 => 114 | 15 => 115 | 20 => 128 | 21 => 129 | 22 => 130 | 23 => 131 | 24 => 132 | 25 => 133 | 26 => 134 | 27 => 135 | 28 => 136 | 29 => 137 | 46 => 139 | 47 => 140 | 48 => 141 | 49 => 142 | 50 => 143 | 57 => 153 | n => n, fun | 0 => 0 | 3 => 3 | 4 => 4 | 5 => 5 | 9 => 9 | 22 => 25 | 24 => 30 | 25 => 38 | 39 => 123 | 45 => 134 | 46 => 135 | 50 => 124 | 53 => 141 | 55 => 143 | 66 => 145 | 70 => 149 | 76 => 157 | 77 => 158 | n => n, fun | n => n⟩
theorem laysSortF : Go.Proofs.SlLaysF0.n6 Tryz.prog sortRen := {
  mixed := by kernel_rfl
  f6 := ⟨Tryz.f82.name, by decide, Tryz.func82.trans (congrArg some (by kernel_rfl))⟩
  f14 := ⟨Tryz.f114.name, by decide, Tryz.func114.trans (congrArg some (by kernel_rfl))⟩
  f15 := Tryz.func115.trans (congrArg some (by kernel_rfl))
  f20 := ⟨Tryz.f128.name, by decide, Tryz.func128.trans (congrArg some (by kernel_rfl))⟩
  f21 := ⟨Tryz.f129.name, by decide, Tryz.func129.trans (congrArg some (by kernel_rfl))⟩
  f22 := ⟨Tryz.f130.name, by decide, Tryz.func130.trans (congrArg some (by kernel_rfl))⟩
  f23 := ⟨Tryz.f131.name, by decide, Tryz.func131.trans (congrArg some (by kernel_rfl))⟩
  f24 := ⟨Tryz.f132.name, by decide, Tryz.func132.trans (congrArg some (by kernel_rfl))⟩
  f25 := ⟨Tryz.f133.name, by decide, Tryz.func133.trans (congrArg some (by kernel_rfl))⟩
  f26 := ⟨Tryz.f134.name, by decide, Tryz.func134.trans (congrArg some (by kernel_rfl))⟩
  f27 := ⟨Tryz.f135.name, by decide, Tryz.func135.trans (congrArg some (by kernel_rfl))⟩
  f28 := Tryz.func136.trans (congrArg some (by kernel_rfl))
  f29 := Tryz.func137.trans (congrArg some (by kernel_rfl))
  f46 := ⟨Tryz.f139.name, by decide, Tryz.func139.trans (congrArg some (by kernel_rfl))⟩
  f47 := Tryz.func140.trans (congrArg some (by kernel_rfl))
  f48 := Tryz.func141.trans (congrArg some (by kernel_rfl))
  f49 := ⟨Tryz.f142.name, by decide, Tryz.func142.trans (congrArg some (by kernel_rfl))⟩
  f50 := ⟨Tryz.f143.name, by decide, Tryz.func143.trans (congrArg some (by kernel_rfl))⟩
  f57 := ⟨Tryz.f153.name, by decide, Tryz.func153.trans (congrArg some (by kernel_rfl))⟩
  t0 := Tryz.underlying0
  a0 := Tryz.isAgg0
  z0 := Tryz.sizeOf0
  v0 := Tryz.zeroValue0
  t3 := Tryz.underlying3
  a3 := Tryz.isAgg3
  z3 := Tryz.sizeOf3
  v3 := Tryz.zeroValue3
  t4 := Tryz.underlying4
  a4 := Tryz.isAgg4
  z4 := Tryz.sizeOf4
  v4 := Tryz.zeroValue4
  t5 := Tryz.underlying5
  a5 := Tryz.isAgg5
  z5 := Tryz.sizeOf5
  v5 := Tryz.zeroValue5
  t9 := Tryz.underlying9
  a9 := Tryz.isAgg9
  z9 := Tryz.sizeOf9
  v9 := Tryz.zeroValue9
  t22 := Tryz.underlying25
  a22 := Tryz.isAgg25
  z22 := Tryz.sizeOf25
  v22 := Tryz.zeroValue25
  t25 := Tryz.underlying38
  a25 := Tryz.isAgg38
  z25 := Tryz.sizeOf38
  v25 := Tryz.zeroValue38
  t39 := Tryz.underlying123
  a39 := Tryz.isAgg123
  z39 := Tryz.sizeOf123
  v39 := Tryz.zeroValue123
  t45 := Tryz.underlying134
  a45 := Tryz.isAgg134
  z45 := Tryz.sizeOf134
  v45 := Tryz.zeroValue134
  t46 := Tryz.underlying135
  a46 := Tryz.isAgg135
  z46 := Tryz.sizeOf135
  v46 := Tryz.zeroValue135
  t50 := Tryz.underlying124
  a50 := Tryz.isAgg124
  z50 := Tryz.sizeOf124
  v50 := Tryz.zeroValue124
  t53 := Tryz.underlying141
  a53 := Tryz.isAgg141
  z53 := Tryz.sizeOf141
  v53 := Tryz.zeroValue141
  t55 := Tryz.underlying143
  a55 := Tryz.isAgg143
  z55 := Tryz.sizeOf143
  v55 := Tryz.zeroValue143
  t66 := Tryz.underlying145
  a66 := Tryz.isAgg145
  z66 := Tryz.sizeOf145
  v66 := Tryz.zeroValue145
  t70 := Tryz.underlying149
  a70 := Tryz.isAgg149
  z70 := Tryz.sizeOf149
  v70 := Tryz.zeroValue149
  t76 := Tryz.underlying157
  a76 := Tryz.isAgg157
  z76 := Tryz.sizeOf157
  v76 := Tryz.zeroValue157
  t77 := Tryz.underlying158
  a77 := Tryz.isAgg158
  z77 := Tryz.sizeOf158
  v77 := Tryz.zeroValue158 }
theorem SortF_calls (w : World) (lo : Nat) (v : Value) (hs : List Hdr) (fs : List Fct) (hO : OH w lo v hs) (hS : Sep w lo hs fs) (hl : hs.length ≤ 1000000) :
    Calls Tryz.prog 82 #[v, .func (.func 12) #[] #[]] w (Got fun u w' => u = .tuple #[] ∧ ∃ hs' fs', OH w' lo v hs' ∧ Sep w' lo hs' fs' ∧ fs'.Perm fs ∧ fs'.Pairwise (fun f g => ¬ cmpF g f < 0) ∧ Ex (fun b => some b = v.ownBlock) w w' ∧ ∀ b, FB v hs' b → FB v hs b) := by
  rcases hO.2 with ⟨rfl, hn⟩ | ⟨g, cap, cur, rfl, hg, _⟩
  · obtain rfl : hs = [] := List.eq_nil_of_length_eq_zero hn
    obtain rfl : fs = [] := List.eq_nil_of_length_eq_zero hS.len.symm
    refine (Go.Proofs.AnyF.slices_SortFunc_none (ρ := sortRen) laysSortF none 0 (.func (.func 12) #[] #[]) w).mono fun e w' h => ?_
    obtain ⟨rfl, rfl⟩ := h
    exact ⟨_, rfl, rfl, [], [], hO, hS, List.Perm.refl _, List.Pairwise.nil, Ex.refl _ _, fun _ h => h⟩
  · obtain ⟨d, e1, e2⟩ := mkFa hs fs hS.len hS.at_
    have hdl : hs.length = d.length := by rw [← e1]; simp
    have hlt : g < w.heap.size := own_lt hO g rfl
    have hO1 : OH w lo (.slice (some ⟨g, 0, none⟩) d.length cap) (d.map Fa.h) := by rw [e1, ← hdl]; exact hO
    have hc := Go.Proofs.AnyQ.slices_SortFunc (ρ := sortRen) laysSortF 2 Tryz.isAgg30 Tryz.sizeOf30 encA (fun _ => rfl) (fun x u hu => by
      simp only [List.mem_cons, List.not_mem_nil, or_false] at hu
      rcases hu with rfl | rfl <;> rfl) cmpA swoA 12 #[] g 0 cap d.toArray w (enters_of Tryz.func12 (by kernel_rfl) rfl) (cmpLaysA hO _) (holdsA d hO1) hlt (by simp; omega)
    have hz : d.toArray.size = hs.length := by simp [hdl]
    rw [hz] at hc
    refine hc.mono fun e w' h => ?_
    obtain ⟨rfl, d', n, os, hp, hs', rfl⟩ := h
    obtain ⟨hps, _, hpp⟩ := hp
    have hl' : d'.toList.length = d.length := by rw [Array.length_toList, hps]; simp
    have hperm : d'.toList.Perm d := by
      have h1 := hpp
      rw [Array.extract_eq_self_of_le (by omega), Array.extract_eq_self_of_le (by simp; omega)] at h1
      simpa using h1
    have hE := ex_sortK (w := w) (encA (w := w) (lo := lo)) g n d' os
    have hsep : Sep w lo (d'.toList.map Fa.h) (d'.toList.map Fa.f) := sep_of (off_perm (e1 ▸ (hperm.map Fa.h).symm) hS.pair)
    have hO2 := own_sorted d d'.toList hl' n os hO1
    refine ⟨_, rfl, rfl, d'.toList.map Fa.h, d'.toList.map Fa.f, ?_, hsep.ex hE (fun i a b ha hb e => ?_), e2 ▸ hperm.map Fa.f, ?_, Ex.mono hE (fun b e => by rw [e]; rfl), fun b h => ?_⟩
    · rw [hdl]; simpa using hO2
    · exact hsep.ne_row hO ha hb (by rw [show b = g from e]; rfl)
    · rw [List.pairwise_map, List.pairwise_iff_getElem]
      intro i j hi hj hij
      have h1 := hs' i j (Nat.zero_le _) hij (by rw [← hz, ← hps]; simpa using hj)
      rw [getElem!_pos d' j (by simpa using hj), getElem!_pos d' i (by simpa using hi)] at h1
      simp only [Go.Proofs.ltOf, decide_eq_false_iff_not] at h1
      simpa using h1
    · rcases h with h | ⟨i, a, ha, h⟩
      · exact .inl h
      · have hm : a ∈ hs := by
          rw [← e1]
          exact ((hperm.map Fa.h).mem_iff).1 (List.mem_of_getElem? ha)
        obtain ⟨i', hi', e⟩ := List.getElem_of_mem hm
        exact .inr ⟨i', a, by rw [List.getElem?_eq_getElem hi', e], h⟩
end Go.Proofs.YtngjhblbpapjeaaGreat.H
/- Walks: the program puts a fact into an instance: facts sorted, each once. No condition. -/
namespace Go.Proofs.YtngjhblbpapjeaaGreat.H
open Go Go.RowKit Go.Proofs.YtngjhblbpapjeaaGreatW.PrintWords Go.Proofs.YtngjhblbpapjeaaGreatW.PrintLast
open Go.Proofs.YtngjhblbpapjeaaGreat.Reg (On on_draw)
set_option maxHeartbeats 4000000
set_option maxRecDepth 100000
set_option linter.unusedVariables false
set_option linter.unusedSimpArgs false

theorem row_ne_box {w : World} {lo e sz n b : Nat} {v : Value} {xs : List Value} {cs : Array Value} {t : TypeId} (h : w.ownsRow lo e sz v n xs) (hb : w.heap[b]? = some (.cells cs t (0, 0))) (hne : t ≠ e) : some b ≠ v.ownBlock := fun e1 => by
  obtain ⟨c, hc⟩ := own_typed h b e1.symm
  rw [hb] at hc
  injection hc with hc
  injection hc with _ h3
  exact hne h3
theorem factsSet_calls (w : World) (A n c) (fs : List Fct) (h : Fcts w A c fs) (hn : n = fs.length) (hl : fs.length ≤ 1000000) (hl2 : ∀ f ∈ fs, f.2.length ≤ 2000000) : Calls Tryz.prog 37 #[.slice A n c] w (Got fun v w' => ∃ hs, OH w' w.heap.size v hs ∧ Sep w' w.heap.size hs (setF fs) ∧ On w w') := by
  subst hn
  go_enter Tryz.func37, Tryz.ntmps37
  go_wp2_with (refine gate 5 ?_)
  refine ⟨goesF 5 Tryz.func81 ((factsCopy_calls w A c fs h (by omega) hl2).mono ?_)⟩
  rintro e w1 ⟨v1, rfl, hs, hO, hS, hb1⟩
  refine ⟨_, rfl, ?_⟩
  have hlen := hS.len
  go_wp2_with (refine gate 7 ?_)
  refine ⟨goesF 7 Tryz.func82 ((SortF_calls w1 w.heap.size v1 hs fs hO hS (by omega)).mono ?_)⟩
  rintro e w2 ⟨u2, rfl, rfl, hs2, fs2, hO2, hS2, hp2, hq2, hE2, hF2⟩
  refine ⟨_, rfl, ?_⟩
  go_wp2_with (refine gate 9 ?_)
  refine ⟨goesF 9 Tryz.func83 ((CompactF_calls w2 w.heap.size v1 hs2 fs2 hO2 hS2).mono ?_)⟩
  rintro e w3 ⟨v3, rfl, hs3, hO3, hS3, hE3, hF3⟩
  refine ⟨_, rfl, ?_⟩
  go_wp2
  go_ret
  have hB : On w w3 := Ex.on (Ex.on hb1 hE2 (fun i e => own_base hO i e.symm)) hE3 (fun i e => own_base hO i e.symm)
  refine ⟨_, rfl, hs3, hO3, ?_, hB⟩
  rw [← runs_setF hp2 (hq2.imp fun {a b} h => by omega)]
  exact hS3
/-- An instance with one fact more, if that is valid. -/
def insB (rs : List Rel) (fs : List Fct) (g : Fct) : Bool := okInst rs fs && (!hasF fs g && okInst rs (putF fs g))
def insI (rs : List Rel) (fs : List Fct) (g : Fct) : List Fct := if insB rs fs g then putF fs g else fs
theorem iInsertFact_calls (w : World) (A0 c0 A1 c1) (rs : List Rel) (fs : List Fct) (h0 : Rels w A0 c0 rs) (h1 : Fcts w A1 c1 fs) (A2 c2) (g : Fct) (h2 : Ints w A2 c2 g.2) (hl0 : rs.length ≤ 2000000) (hl : fs.length ≤ 2000000) (hl2 : ∀ f ∈ fs, f.2.length ≤ 2000000) (hg2 : g.2.length ≤ 2000000) :
    Calls Tryz.prog 8 #[.agg #[.slice A0 rs.length c0, .slice A1 fs.length c1], .agg #[.int .i64 g.1, .slice A2 g.2.length c2]] w (Got fun v w' => ∃ v1, v = .tuple #[v1, .bool (insB rs fs g)] ∧ OIn w' w.heap.size v1 rs (insI rs fs g) ∧ On w w') := by
  have hb := Aside0.mk (On.alloc (On.alloc (On.alloc (On.refl w) (.cells #[.slice A0 rs.length c0, .slice A1 fs.length c1] 27)) (.cells #[.int .i64 g.1, .slice A2 g.2.length c2] 30)) (.cells #[.slice none 0 0, .slice none 0 0] 27))
  have hL := Aside0.mk (loc3 w #[.slice A0 rs.length c0, .slice A1 fs.length c1] #[.int .i64 g.1, .slice A2 g.2.length c2] #[.slice none 0 0, .slice none 0 0] 27 30 27)
  have hsz3 := Aside0.mk (show (((w.alloc (.cells #[.slice A0 rs.length c0, .slice A1 fs.length c1] 27)).alloc (.cells #[.int .i64 g.1, .slice A2 g.2.length c2] 30)).alloc (.cells #[.slice none 0 0, .slice none 0 0] 27)).heap.size = w.heap.size + 3 by simp)
  cases ho : okInst rs fs with
  | false =>
    have hno := Aside0.mk (show insB rs fs g = false by unfold insB; rw [ho]; rfl)
    have ho' := Aside0.mk ho
    clear ho
    go_enter Tryz.func8, Tryz.ntmps8
    go_wp2_with (first
      | (go_at_call 17; refine (iIsValidInstance_calls _ A0 c0 A1 c1 rs fs (h0.on hb.out) (h1.on hb.out)).mono ?_; rintro e w1 ⟨rfl, hb1⟩; rw [ho'.out]; have hBx := Aside0.mk (hb.out.trans hb1); have hRx := Aside0.mk (Loc.on hb1 hL.out).2.2.1; have hd0 := blk_cell (Loc.on hb1 hL.out).1)
      | (refine gate 17 ?_))
    refine ⟨goesF 17 Tryz.func36 ((instanceCopy_calls _ A0 c0 A1 c1 rs fs (h0.on hBx.out) (h1.on hBx.out) hl0 hl hl2).mono ?_)⟩
    rintro e w5 ⟨v5, rfl, hI5, hb5⟩
    refine ⟨_, rfl, ?_⟩
    obtain ⟨a1, a2, a3, a4, a5, a6, rfl⟩ := hI5.read.shape
    have hI5' := Aside0.mk hI5
    have hR5 := Aside0.mk (blk_below hRx.out hb5)
    have hcr : ∀ i, w5.cell? ⟨w.heap.size + 1 + 1, i, none⟩ = _ := blk_cell hR5.out
    have hfr : ∀ i, w5.frozen? ⟨w.heap.size + 1 + 1, i, none⟩ = _ := blk_frozen hR5.out
    clear hI5
    go_wp2
    refine bodyPost_ret (retIB rfl rfl (g := w.heap.size + 2) (blk_set (blk_set hR5.out 0 _) 1 _) rfl) rfl ?_
    have hlt := blk_lt hRx.out
    refine ⟨_, rfl, _, by rw [hno.out]; rfl, ?_, Reg.On.set (Reg.On.set (hBx.out.trans hb5) (by simp; omega) _) (by simp; omega) _⟩
    have e6 : insI rs fs g = fs := by unfold insI; rw [hno.out]; rfl
    rw [e6]
    exact OIn.lower (OIn.set (OIn.set hI5'.out (by simp; omega) _) (by simp; omega) _) hBx.out.size
  | true =>
    have ho' := Aside0.mk ho
    cases hh : hasF fs g with
    | true =>
      have hno := Aside0.mk (show insB rs fs g = false by unfold insB; rw [ho, hh]; rfl)
      have hh' := Aside0.mk (show (fs.any fun f => cmpF f g == 0) = true from hh)
      clear ho hh
      go_enter Tryz.func8, Tryz.ntmps8
      go_wp2_with (first
        | (go_at_call 35; refine (hasFact_calls _ A1 c1 fs (h1.on (hb.out.trans hb1)) A2 c2 g (h2.on (hb.out.trans hb1))).mono ?_; rintro e w2 ⟨rfl, hb2⟩; rw [hh'.out]; have hBx := Aside0.mk ((hb.out.trans hb1).trans hb2); have hRx := Aside0.mk (Loc.on (hb1.trans hb2) hL.out).2.2.1; have hd0 := blk_cell (Loc.on (hb1.trans hb2) hL.out).1)
        | (go_at_call 17; refine (iIsValidInstance_calls _ A0 c0 A1 c1 rs fs (h0.on hb.out) (h1.on hb.out)).mono ?_; rintro e w1 ⟨rfl, hb1⟩; rw [ho'.out]; have hdd0 := blk_cell (Loc.on hb1 hL.out).1; have hdd1 := blk_cell (Loc.on hb1 hL.out).2.1)
        | (refine gate 17 ?_))
      refine ⟨goesF 17 Tryz.func36 ((instanceCopy_calls _ A0 c0 A1 c1 rs fs (h0.on hBx.out) (h1.on hBx.out) hl0 hl hl2).mono ?_)⟩
      rintro e w5 ⟨v5, rfl, hI5, hb5⟩
      refine ⟨_, rfl, ?_⟩
      obtain ⟨a1, a2, a3, a4, a5, a6, rfl⟩ := hI5.read.shape
      have hI5' := Aside0.mk hI5
      have hR5 := Aside0.mk (blk_below hRx.out hb5)
      have hcr : ∀ i, w5.cell? ⟨w.heap.size + 1 + 1, i, none⟩ = _ := blk_cell hR5.out
      have hfr : ∀ i, w5.frozen? ⟨w.heap.size + 1 + 1, i, none⟩ = _ := blk_frozen hR5.out
      clear hI5
      go_wp2
      refine bodyPost_ret (retIB rfl rfl (g := w.heap.size + 2) (blk_set (blk_set hR5.out 0 _) 1 _) rfl) rfl ?_
      have hlt := blk_lt hRx.out
      refine ⟨_, rfl, _, by rw [hno.out]; rfl, ?_, Reg.On.set (Reg.On.set (hBx.out.trans hb5) (by simp; omega) _) (by simp; omega) _⟩
      have e6 : insI rs fs g = fs := by unfold insI; rw [hno.out]; rfl
      rw [e6]
      exact OIn.lower (OIn.set (OIn.set hI5'.out (by simp; omega) _) (by simp; omega) _) hBx.out.size
    | false =>
      have hh' := Aside0.mk (show (fs.any fun f => cmpF f g == 0) = false from hh)
      have hasc := Aside0.mk (okInst_asc ho)
      have hle := Aside0.mk (okInst_len ho)
      have hle3 := Aside0.mk (fun f hf => okFact_len (okInst_mem ho f hf))
      have hhh := Aside0.mk hh
      have hoo := Aside0.mk ho
      clear ho hh
      go_enter Tryz.func8, Tryz.ntmps8
      go_wp2_with (first
        | (go_at_call 35; refine (hasFact_calls _ A1 c1 fs (h1.on (hb.out.trans hb1)) A2 c2 g (h2.on (hb.out.trans hb1))).mono ?_; rintro e w2 ⟨rfl, hb2⟩; rw [hh'.out]; have hB2 := Aside0.mk ((hb.out.trans hb1).trans hb2); have hL2 := Aside0.mk (Loc.on (hb1.trans hb2) hL.out); have hd0 := blk_cell hL2.out.1)
        | (go_at_call 17; refine (iIsValidInstance_calls _ A0 c0 A1 c1 rs fs (h0.on hb.out) (h1.on hb.out)).mono ?_; rintro e w1 ⟨rfl, hb1⟩; rw [ho'.out]; have hdd0 := blk_cell (Loc.on hb1 hL.out).1; have hdd1 := blk_cell (Loc.on hb1 hL.out).2.1)
        | (refine gate 19 ?_))
      clear hdd0 hdd1 hb1 hb2
      refine ⟨goesF 19 Tryz.func36 ((instanceCopy_calls w2 A0 c0 A1 c1 rs fs (h0.on hB2.out) (h1.on hB2.out) hl0 hl hl2).mono ?_)⟩
      rintro e w3 ⟨v3, rfl, ⟨vr, vf, hs, rfl, hR, hH, hS⟩, hb3⟩
      refine ⟨_, rfl, ?_⟩
      obtain ⟨Ar, cr, rfl⟩ := own_slice hR
      obtain ⟨Af, cf, rfl⟩ := own_slice hH
      have hlen := Aside0.mk hS.len
      have hR1 := Aside0.mk hR
      have hH1 := Aside0.mk hH
      have hS1 := Aside0.mk hS
      have hw2 := Aside0.mk (show w.heap.size + 3 ≤ w2.heap.size from blk_lt hL2.out.2.2.1)
      have hB3 := Aside0.mk (hb3.trans (On.alloc (On.refl w3) (.cells #[.slice Ar rs.length cr, .slice Af hs.length cf] 27)))
      have hL3 := Aside0.mk (Loc.on hB3.out hL2.out)
      have hY3 := Aside0.mk (loc_new w3 #[.slice Ar rs.length cr, .slice Af hs.length cf] 27)
      have hd1 := blk_cell hL3.out.2.1
      have hy := blk_cell hY3.out
      have hfill := alloc_fill w3
      have hb3' := Aside0.mk hb3
      clear hR hH hS hd0 hb3
      go_wp2_with (refine gate 24 ?_)
      clear hfill
      obtain ⟨w4, hw4⟩ : ∃ w4, w3.alloc (.cells #[.slice Ar rs.length cr, .slice Af hs.length cf] 27) = w4 := ⟨_, rfl⟩
      have hS34 : On w3 w4 := by rw [← hw4]; exact On.alloc (On.refl _) _
      have hsz4 : w4.heap.size = w3.heap.size + 1 := by rw [← hw4]; simp
      rw [hw4] at hB3 hL3 hY3 hd1 hy ⊢
      clear hw4 hd1 hy
      obtain ⟨zs, hzs⟩ : ∃ zs, hs ++ [((g.1, A2, g.2.length, c2) : Hdr)] = zs := ⟨_, rfl⟩
      have hBl := Aside0.mk (On.alloc (On.refl w4) (.cells #[.int .i64 g.1, .slice A2 g.2.length c2] 30))
      have hH4 := Aside0.mk (pw_own_below hH1.out (hS34.trans hBl.out))
      have hRH4 := lit_RH (On.refl (w4.alloc (.cells #[.int .i64 g.1, .slice A2 g.2.length c2] 30 (0, 0))))
      rw [hsz4] at hRH4
      refine ⟨apH 24 hzs hH4.out hRH4 (hB3.out.trans hBl.out).size (by have := hle.out; have := hlen.out; simp; omega) fun v6 w6 hO6 hg6 => ?_⟩
      obtain ⟨A6, c6, rfl⟩ := own_slice hO6
      have hB6 := Aside0.mk (own_grows (hB3.out.trans hBl.out) hH4.out hg6 (Nat.le_refl _))
      have hS6 : Sep w6 w2.heap.size hs fs := Sep.ex (hS1.out.on (hS34.trans hBl.out)) (Ex.of_grown hg6) (fun i a b ha hbk e => (hS1.out.ne_row hH1.out ha hbk) e.symm)
      have hRd := hS6.reads.snoc (a := (g.1, A2, g.2.length, c2)) (f := g) rfl rfl (h2.on (hB2.out.trans hB6.out))
      rw [hzs] at hRd
      have hF6 := (OH.rh hO6).2.fcts hRd
      have hR6 := Aside0.mk (own_ex (pw_own_below hR1.out (hS34.trans hBl.out)) (Ex.of_grown hg6) (fun i hi e => own_ne_blk hR1.out hH1.out (by decide) hi e.symm))
      have hY6 := Aside0.mk (blk_grown hg6 (blk_below hY3.out hBl.out) (row_ne_box hH4.out (blk_below hY3.out hBl.out) (by decide)))
      refine goesF 25 Tryz.func37 ((factsSet_calls w6 A6 zs.length c6 (fs ++ [g]) hF6 hRd.len (by have := hle.out; simp; omega) (fun f hf => ?_)).mono ?_)
      · rcases List.mem_append.1 hf with hf | hf
        · have := hle3.out f hf; omega
        · rw [List.mem_singleton.1 hf]; exact hg2
      rintro e w7 ⟨v7, rfl, hs7, hO7, hS7, hb7⟩
      rw [setF_put fs g hasc.out] at hS7
      obtain ⟨A7, c7, rfl⟩ := own_slice hO7
      refine ⟨_, rfl, ?_⟩
      have hl7 := hS7.len
      have hO7' := Aside0.mk hO7
      have hS7' := Aside0.mk hS7
      have hl7' := Aside0.mk hl7
      rw [hl7]
      have hY7 := Aside0.mk (blk_below hY6.out hb7)
      have hR7 := Aside0.mk (pw_own_below hR6.out hb7)
      have hB7 := Aside0.mk (hB6.out.trans hb7)
      have hL7 := Aside0.mk (Loc.on hB7.out hL2.out)
      have hw36 := Aside0.mk (show w3.heap.size < w6.heap.size from blk_lt hY6.out)
      have hcy := blk_cell hY7.out
      have hfy := blk_frozen hY7.out
      clear hO6 hg6 hS6 hRd hF6 hO7 hS7 hl7 hb7 hzs
      go_wp2_with (refine gate 28 ?_)
      clear hcy hfy
      have hE8 := Aside0.mk (Ex.set w7 ⟨w3.heap.size, 1, none⟩ (.slice A7 (putF fs g).length c7))
      have hY8 := Aside0.mk (blk_set hY7.out 1 (.slice A7 (putF fs g).length c7))
      have hw23 := Aside0.mk (show w2.heap.size ≤ w3.heap.size from hb3'.out.size)
      have hB8 := Aside0.mk (show On w2 (w7.setCell ⟨w3.heap.size, 1, none⟩ (.slice A7 (putF fs g).length c7)) from Reg.On.set hB7.out hw23.out _)
      obtain ⟨w8, hw8⟩ : ∃ w8, w7.setCell ⟨w3.heap.size, 1, none⟩ (.slice A7 (putF fs g).length c7) = w8 := ⟨_, rfl⟩
      rw [hw8] at hE8 hY8 hB8 ⊢
      clear hw8
      have hO8 := own_ex hO7'.out hE8.out (fun i hi e => by have := own_base hO7'.out i hi; have := hw36.out; have h5 : i = w3.heap.size := e; omega)
      have hS8 := hS7'.out.ex hE8.out (fun i a b ha hbk e => by have := (hS7'.out.lt ha hbk).1; have := hw36.out; have h5 : b = w3.heap.size := e; omega)
      have hR8 := own_ex hR7.out hE8.out (fun i hi e => by have := own_lt hR1.out i hi; have h5 : i = w3.heap.size := e; omega)
      have hF8 := (OH.rh hO8).2.fcts hS8.reads
      obtain ⟨Ar', cr', er, hRl8⟩ := OR.rd hR8
      injection er with er1 er2 er3
      subst er1 er3
      have hw26 : w2.heap.size ≤ w6.heap.size := hB6.out.size
      have hI8 := Aside0.mk (show OIn w8 w2.heap.size (.agg #[.slice Ar rs.length cr, .slice A7 (putF fs g).length c7]) rs (putF fs g) from ⟨_, _, hs7, rfl, hR8, hl7'.out ▸ own_lower hO8 hw26, hS8.lower hw26⟩)
      refine ⟨goesF 28 Tryz.func17 ((iIsValidInstance_calls w8 Ar cr A7 c7 rs (putF fs g) hRl8 hF8).mono ?_)⟩
      rintro e w9 ⟨rfl, hb9⟩
      refine ⟨_, rfl, ?_⟩
      have hI9 := Aside0.mk (hI8.out.on hb9)
      have hY9 := Aside0.mk (blk_below hY8.out hb9)
      have hB9 := Aside0.mk (hB8.out.trans hb9)
      have hL9 := Aside0.mk (Loc.on hB9.out hL2.out)
      have hBx := Aside0.mk (hB2.out.trans hB9.out)
      have hRx := Aside0.mk hL9.out.2.2.1
      have hd0 := blk_cell hL9.out.1
      have hy9 := blk_cell hY9.out
      clear hO8 hS8 hR8 hF8 hRl8 hb9 er2
      cases hv : okInst rs (putF fs g) with
      | false =>
        have hno := Aside0.mk (show insB rs fs g = false by unfold insB; rw [hoo.out, hhh.out, hv]; rfl)
        clear hv
        go_wp2_with (refine gate 31 ?_)
        clear hy9
        refine ⟨goesF 31 Tryz.func36 ((instanceCopy_calls _ A0 c0 A1 c1 rs fs (h0.on hBx.out) (h1.on hBx.out) hl0 hl hl2).mono ?_)⟩
        rintro e w5 ⟨v5, rfl, hI5, hb5⟩
        refine ⟨_, rfl, ?_⟩
        obtain ⟨a1, a2, a3, a4, a5, a6, rfl⟩ := hI5.read.shape
        have hI5' := Aside0.mk hI5
        have hR5 := Aside0.mk (blk_below hRx.out hb5)
        have hcr : ∀ i, w5.cell? ⟨w.heap.size + 1 + 1, i, none⟩ = _ := blk_cell hR5.out
        have hfr : ∀ i, w5.frozen? ⟨w.heap.size + 1 + 1, i, none⟩ = _ := blk_frozen hR5.out
        clear hI5
        go_wp2
        refine bodyPost_ret (retIB rfl rfl (g := w.heap.size + 2) (blk_set (blk_set hR5.out 0 _) 1 _) rfl) rfl ?_
        have hlt := blk_lt hRx.out
        refine ⟨_, rfl, _, by rw [hno.out]; rfl, ?_, Reg.On.set (Reg.On.set (hBx.out.trans hb5) (by simp; omega) _) (by simp; omega) _⟩
        have e6 : insI rs fs g = fs := by unfold insI; rw [hno.out]; rfl
        rw [e6]
        exact OIn.lower (OIn.set (OIn.set hI5'.out (by simp; omega) _) (by simp; omega) _) hBx.out.size
      | true =>
        have hyes := Aside0.mk (show insB rs fs g = true by unfold insB; rw [hoo.out, hhh.out, hv]; rfl)
        have hcr : ∀ i, w9.cell? ⟨w.heap.size + 1 + 1, i, none⟩ = _ := blk_cell hRx.out
        have hfr : ∀ i, w9.frozen? ⟨w.heap.size + 1 + 1, i, none⟩ = _ := blk_frozen hRx.out
        clear hv hd0
        go_wp2
        refine bodyPost_ret (retIB rfl rfl (g := w.heap.size + 2) (blk_set (blk_set hRx.out 0 _) 1 _) rfl) rfl ?_
        refine ⟨_, rfl, _, by rw [hyes.out]; rfl, ?_, Reg.On.set (Reg.On.set hBx.out (by simp; omega) _) (by simp; omega) _⟩
        have e6 : insI rs fs g = putF fs g := by unfold insI; rw [hyes.out]; rfl
        rw [e6]
        have hw2' := hw2.out
        exact OIn.lower (OIn.set (OIn.set hI9.out (by simp; omega) _) (by simp; omega) _) hB2.out.size
end Go.Proofs.YtngjhblbpapjeaaGreat.H
/- Substitutions, applied; homomorphisms. Plain. No condition. -/
namespace Go.Proofs.YtngjhblbpapjeaaGreat.H
open Go Go.RowKit Go.Proofs.YtngjhblbpapjeaaGreatW.PrintWords Go.Proofs.YtngjhblbpapjeaaGreatW.PrintLast
set_option linter.unusedVariables false
set_option linter.unusedSimpArgs false

/-- Substitutions: nulls in order, values. -/
def subFrom : Option Int → List Int → List Int → Bool
  | _, [], _ => true
  | p, k :: ns, vs => within k 0 39 && (match p with | none => true | some q => decide (q < k)) && okVal (vs.headD 0) && subFrom (some k) ns vs.tail
def okSub (ns vs : List Int) : Bool := decide (ns.length = vs.length) && subFrom none ns vs
def prevI (l : List Int) (k : Nat) : Option Int := if k = 0 then none else l[k - 1]?
def okPrevI (p : Option Int) (k : Int) : Bool := match p with | none => true | some q => decide (q < k)
theorem subFrom_step (ns vs : List Int) (k : Nat) (h : k < ns.length) (h2 : k < vs.length) : subFrom (prevI ns k) (ns.drop k) (vs.drop k) = (within ns[k] 0 39 && okPrevI (prevI ns k) ns[k] && okVal vs[k] && subFrom (prevI ns (k + 1)) (ns.drop (k + 1)) (vs.drop (k + 1))) := by
  rw [List.drop_eq_getElem_cons h, List.drop_eq_getElem_cons h2, show prevI ns (k + 1) = some ns[k] by simp [prevI, h]]
  rfl
theorem subFrom_mem {p : Option Int} {ns vs : List Int} (h : subFrom p ns vs = true) (hl : ns.length = vs.length) : (∀ k ∈ ns, 0 ≤ k ∧ k ≤ 39) ∧ (∀ v ∈ vs, -40 ≤ v ∧ v ≤ 9) ∧ ns.Pairwise (· < ·) ∧ ∀ q, p = some q → ∀ k ∈ ns, q < k := by
  induction ns generalizing p vs with
  | nil =>
    cases vs with
    | nil => simp
    | cons v vs => simp at hl
  | cons k ns ih =>
    cases vs with
    | nil => simp at hl
    | cons v vs =>
      simp only [subFrom, Bool.and_eq_true, List.headD_cons, List.tail_cons] at h
      obtain ⟨⟨⟨h1, h2⟩, h3⟩, h4⟩ := h
      obtain ⟨i1, i2, i3, i4⟩ := ih h4 (by simpa using hl)
      simp only [within, okVal, decide_eq_true_eq] at h1 h3
      refine ⟨fun x hx => ?_, fun x hx => ?_, ?_, fun q hq x hx => ?_⟩
      · rcases List.mem_cons.1 hx with rfl | hx
        · exact h1
        · exact i1 x hx
      · rcases List.mem_cons.1 hx with rfl | hx
        · exact h3
        · exact i2 x hx
      · rw [List.pairwise_cons]; exact ⟨i4 k rfl, i3⟩
      · subst hq
        have hqk : q < k := by simpa using h2
        rcases List.mem_cons.1 hx with rfl | hx
        · exact hqk
        · have := i4 k rfl x hx; omega
theorem okSub_spec {ns vs : List Int} (h : okSub ns vs = true) : ns.length = vs.length ∧ (∀ k ∈ ns, 0 ≤ k ∧ k ≤ 39) ∧ (∀ v ∈ vs, -40 ≤ v ∧ v ≤ 9) ∧ ns.Pairwise (· < ·) := by
  simp only [okSub, Bool.and_eq_true, decide_eq_true_eq] at h
  obtain ⟨a, b, c, _⟩ := subFrom_mem h.2 h.1
  exact ⟨h.1, a, b, c⟩
def findV : List Int → List Int → Int → Option Int
  | n :: ns, v :: vs, x => if -1 - n = x then some v else findV ns vs x
  | _, _, _ => none
def appV (ns vs : List Int) (x : Int) : Int := if okSub ns vs then (findV ns vs x).getD x else x
theorem findV_step (ns vs : List Int) (x : Int) (k : Nat) (h : k < ns.length) (h2 : k < vs.length) : findV (ns.drop k) (vs.drop k) x = if -1 - ns[k] = x then some vs[k] else findV (ns.drop (k + 1)) (vs.drop (k + 1)) x := by
  rw [List.drop_eq_getElem_cons h, List.drop_eq_getElem_cons h2]; rfl
theorem findV_nil (ns vs : List Int) (x : Int) (k : Nat) (h : ns.length ≤ k) : findV (ns.drop k) (vs.drop k) x = none := by
  rw [List.drop_of_length_le h]; rfl
theorem findV_mem : ∀ (ns vs : List Int) (x y : Int), findV ns vs x = some y → y ∈ vs
  | [], _, _, _, h => by simp [findV] at h
  | _ :: _, [], _, _, h => by simp [findV] at h
  | n :: ns, v :: vs, x, y, h => by
    unfold findV at h
    split at h
    · injection h with h; exact h ▸ List.mem_cons_self
    · exact List.mem_cons_of_mem _ (findV_mem ns vs x y h)
theorem appV_bd {ns vs : List Int} {x : Int} (h : -9223372036854775808 ≤ x ∧ x ≤ 9223372036854775807) : -9223372036854775808 ≤ appV ns vs x ∧ appV ns vs x ≤ 9223372036854775807 := by
  unfold appV
  split
  · rename_i h1
    cases h2 : findV ns vs x with
    | none => exact h
    | some y =>
      have := (okSub_spec h1).2.2.1 y (findV_mem _ _ _ _ h2)
      simp only [Option.getD_some]; omega
  · exact h
theorem appV_ok {ns vs : List Int} {x : Int} (h : okVal x = true) : okVal (appV ns vs x) = true := by
  unfold appV
  split
  · rename_i h1
    cases h2 : findV ns vs x with
    | none => exact h
    | some y =>
      have := (okSub_spec h1).2.2.1 y (findV_mem _ _ _ _ h2)
      simp only [Option.getD_some, okVal, decide_eq_true_eq]; exact this
  · exact h
/-- The program looks the null's number up. -/
theorem idx_findV : ∀ (ns vs : List Int) (x : Int) (i : Nat), ns.length = vs.length → (∀ k ∈ ns, 0 ≤ k ∧ k ≤ 39) → isNul x = true →
    (idxFrom (fun n => n == nulNum x) ns i = -1 ∧ findV ns vs x = none) ∨ ∃ k, ∃ h : k < vs.length, idxFrom (fun n => n == nulNum x) ns i = ((i + k : Nat) : Int) ∧ findV ns vs x = some vs[k]
  | [], [], _, _, _, _, _ => .inl ⟨rfl, rfl⟩
  | [], _ :: _, _, _, h, _, _ => by simp at h
  | _ :: _, [], _, _, h, _, _ => by simp at h
  | n :: ns, v :: vs, x, i, hl, hb, hx => by
    have hn := hb n List.mem_cons_self
    have e : (n == nulNum x) = decide (-1 - n = x) := by
      have hx' := hx
      simp only [isNul, decide_eq_true_eq] at hx'
      unfold nulNum; rw [if_pos hx]
      by_cases c : n = -1 - x
      · have : -1 - n = x := by omega
        simp [c]; omega
      · have : ¬ -1 - n = x := by omega
        simp [this, c]
    unfold idxFrom findV
    by_cases c : -1 - n = x
    · rw [if_pos c]
      refine .inr ⟨0, by simp, ?_, by simp⟩
      rw [if_pos (by rw [e]; exact decide_eq_true c)]; simp
    · rw [if_neg c, if_neg (by rw [e]; simpa using c)]
      rcases idx_findV ns vs x (i + 1) (by simpa using hl) (fun k hk => hb k (List.mem_cons_of_mem _ hk)) hx with h | ⟨k, hk, h1, h2⟩
      · exact .inl h
      · refine .inr ⟨k + 1, by simp; omega, ?_, by simpa using h2⟩
        rw [h1]; congr 1; omega
theorem findV_not {ns vs : List Int} {x : Int} (hb : ∀ k ∈ ns, 0 ≤ k ∧ k ≤ 39) (hx : isNul x = false) : findV ns vs x = none := by
  induction ns generalizing vs with
  | nil => rfl
  | cons n ns ih =>
    cases vs with
    | nil => rfl
    | cons v vs =>
      have hn := hb n List.mem_cons_self
      have : ¬ -1 - n = x := by
        intro c
        simp only [isNul, decide_eq_false_iff_not] at hx
        omega
      unfold findV
      rw [if_neg this]
      exact ih fun k hk => hb k (List.mem_cons_of_mem _ hk)
def appF (ns vs : List Int) (f : Fct) : Fct := (f.1, f.2.map (appV ns vs))
theorem ints_zero (a b : List Int) : (ints a b == 0) = decide (a = b) := by
  by_cases h : a = b
  · subst h; simp [(ints_eq a a).2 rfl]
  · have : ¬ ints a b = 0 := fun e => h ((ints_eq a b).1 e)
    simp [h, this]
/-- A homomorphism of instances. -/
def isHom (r1 : List Rel) (f1 : List Fct) (r2 : List Rel) (f2 : List Fct) (ns vs : List Int) : Bool :=
  okInst r1 f1 && (okInst r2 f2 && (okSub ns vs && (decide (r1 = r2) && (decide (ns = nulsI f1) && f1.all fun f => hasF f2 (appF ns vs f)))))
end Go.Proofs.YtngjhblbpapjeaaGreat.H
/- Walks: substitutions of the reference. No condition. -/
namespace Go.Proofs.YtngjhblbpapjeaaGreat.H
open Go Go.RowKit Go.Proofs.YtngjhblbpapjeaaGreatW.PrintWords Go.Proofs.YtngjhblbpapjeaaGreatW.PrintLast
open Go.Proofs.YtngjhblbpapjeaaGreat.Reg (On on_draw)
set_option maxHeartbeats 4000000
set_option maxRecDepth 100000
set_option linter.unusedVariables false
set_option linter.unusedSimpArgs false

theorem sIsValidSub_calls (w : World) (A0 c0 A1 c1) (ns vs : List Int) (h0 : Ints w A0 c0 ns) (h1 : Ints w A1 c1 vs) :
    Calls Tryz.prog 73 #[.agg #[.slice A0 ns.length c0, .slice A1 vs.length c1]] w fun e w' => e = .returned (.bool (okSub ns vs)) ∧ On w w' := by
  have hm0 := h0.max
  have hm1 := h1.max
  have hb := Aside0.mk (On.alloc (On.refl w) (.cells #[.slice A0 ns.length c0, .slice A1 vs.length c1] 58))
  have hL := Aside0.mk (loc1 w #[.slice A0 ns.length c0, .slice A1 vs.length c1] 58)
  by_cases hl : ns.length = vs.length
  · have hlb : ((ns.length : Int) == (vs.length : Int)) = true := by simp [hl]
    have hlc : ((ns.length : Int) != (vs.length : Int)) = false := by simp [bne, hlb]
    have hld : (ns.length == vs.length) = true := by simp [hl]
    have hl' := Aside0.mk hl
    clear hl
    go_enter Tryz.func73, Tryz.ntmps73
    go_wp2
    clear hlb hlc hld
    go_loopw [3] (fun v wr => ∃ k : Nat, k ≤ ns.length ∧ v = .int .i64 k ∧ Aside0 (subFrom (prevI ns k) (ns.drop k) (vs.drop k) = subFrom none ns vs) ∧ On w wr ∧ Loc wr [(w.heap.size, #[.slice A0 ns.length c0, .slice A1 vs.length c1], 58)]) (fun v _ => ns.length - (intOf v).toNat)
    case atStart => exact ⟨0, Nat.zero_le _, rfl, ⟨rfl⟩, hb.out, hL.out⟩
    case round =>
      obtain ⟨k, hk, rfl, hp, hB0, hL0⟩ := hrel
      have hc0 := blk_cell hL0.1
      have hL' := Aside0.mk hL0
      have hB := Aside0.mk hB0
      clear hL0
      by_cases hlt : k < ns.length
      · have hlt2 : k < vs.length := by have := hl'.out; omega
        obtain ⟨ad, rfl, hx⟩ := (h0.on hB0).at k hlt
        obtain ⟨bd, rfl, hy⟩ := (h1.on hB0).at k hlt2
        have hbd := h1.bd k hlt2
        have hst := Aside0.mk ((subFrom_step ns vs k hlt hlt2).symm.trans hp.out)
        clear hp hB0
        cases hi : within ns[k] 0 39 with
        | false =>
          have hi' := Aside0.mk hi
          clear hi
          go_wp2
          refine Reg.region [(0,.L),(1,.L),(2,.L),(3,.L),(4,.L),(5,.C),(6,.L),(7,.L),(8,.L),(9,.L),(10,.L),(11,.L),(12,.L),(13,.L),(14,.L),(15,.L),(16,.L),(17,.L),(18,.L),(19,.L),(20,.L),(21,.L),(22,.L),(23,.L),(24,.L),(25,.L),(26,.L),(27,.L),(28,.L),(29,.L),(30,.L),(31,.C),(32,.L),(33,.L)] [] (by kernel_rfl) (by kernel_rfl) ?_
          repeat first | refine sP ?_ | refine sS ?_ | refine sA ?_ | refine sL ?_ | refine sQ ?_ | refine sO ?_
          refine callC (.bool false) Tryz.func104 (fun w' hS => ?_) ?_
          focus exact (l1In_calls w' _ _ _).mono fun e w'' h => ⟨by rw [h.1, hi'.out], h.2⟩
          repeat first | refine sP ?_ | refine sS ?_ | refine sA ?_ | refine sL ?_ | refine sQ ?_ | refine sO ?_
          refine Reg.nil fun w2 hS => ?_
          go_wp2
          go_ret
          exact ⟨ret_bool (by have := hst.out; rw [hi'.out] at this; simp at this; simp [okSub, this]), hB.out.trans hS⟩
        | true =>
          have hi' := Aside0.mk hi
          clear hi
          by_cases hk0 : 0 < k
          · have hk0' : decide (0 < (k : Int)) = true := decide_eq_true (by omega)
            have hki : IntKind.i64.wrap ((k : Int) - 1) = ((k - 1 : Nat) : Int) := by rw [IntWalk.i64_in _ (by omega)]; omega
            have hk1 : k - 1 < ns.length := by omega
            obtain ⟨ad', e', hz⟩ := (h0.on hB.out).at (k - 1) hk1
            obtain rfl : ad = ad' := by simpa using e'
            have hpn : prevI ns k = some ns[k - 1] := by simp [prevI, show ¬ k = 0 by omega, show k - 1 < ns.length by omega]
            by_cases hc : ns[k] ≤ ns[k - 1]
            · have hcb : decide (ns[k] ≤ ns[k - 1]) = true := decide_eq_true hc
              have hp' := Aside0.mk (show okPrevI (prevI ns k) ns[k] = false by rw [hpn]; exact decide_eq_false (by omega))
              clear hc hpn
              go_wp2
              refine Reg.region [(0,.L),(1,.L),(2,.L),(3,.L),(4,.L),(5,.C),(6,.L),(7,.L),(8,.L),(9,.L),(10,.L),(11,.L),(12,.L),(13,.L),(14,.L),(15,.L),(16,.L),(17,.L),(18,.L),(19,.L),(20,.L),(21,.L),(22,.L),(23,.L),(24,.L),(25,.L),(26,.L),(27,.L),(28,.L),(29,.L),(30,.L),(31,.C),(32,.L),(33,.L)] [] (by kernel_rfl) (by kernel_rfl) ?_
              repeat first | refine sP ?_ | refine sS ?_ | refine sA ?_ | refine sL ?_ | refine sQ ?_ | refine sO ?_
              refine callC (.bool true) Tryz.func104 (fun w' hS => ?_) ?_
              focus exact (l1In_calls w' _ _ _).mono fun e w'' h => ⟨by rw [h.1, hi'.out], h.2⟩
              repeat first | refine sP ?_ | refine sS ?_ | refine sA ?_ | refine sL ?_ | refine sQ ?_ | refine sO ?_
              refine Reg.nil fun w2 hS => ?_
              go_wp2
              go_ret
              exact ⟨ret_bool (by have := hst.out; rw [hi'.out, hp'.out] at this; simp at this; simp [okSub, this]), hB.out.trans hS⟩
            · have hcb : decide (ns[k] ≤ ns[k - 1]) = false := decide_eq_false hc
              have hp' := Aside0.mk (show okPrevI (prevI ns k) ns[k] = true by rw [hpn]; exact decide_eq_true (by omega))
              clear hc hpn
              cases hv : okVal vs[k] with
              | true =>
                have hv' := Aside0.mk hv
                clear hv
                go_wp2
                refine Reg.region [(0,.L),(1,.L),(2,.L),(3,.L),(4,.L),(5,.C),(6,.L),(7,.L),(8,.L),(9,.L),(10,.L),(11,.L),(12,.L),(13,.L),(14,.L),(15,.L),(16,.L),(17,.L),(18,.L),(19,.L),(20,.L),(21,.L),(22,.L),(23,.L),(24,.L),(25,.L),(26,.L),(27,.L),(28,.L),(29,.L),(30,.L),(31,.C),(32,.L),(33,.L)] [] (by kernel_rfl) (by kernel_rfl) ?_
                repeat first | refine sP ?_ | refine sS ?_ | refine sA ?_ | refine sL ?_ | refine sQ ?_ | refine sO ?_
                refine callC (.bool true) Tryz.func104 (fun w' hS => ?_) ?_
                focus exact (l1In_calls w' _ _ _).mono fun e w'' h => ⟨by rw [h.1, hi'.out], h.2⟩
                repeat first | refine sP ?_ | refine sS ?_ | refine sA ?_ | refine sL ?_ | refine sQ ?_ | refine sO ?_
                refine callC (.bool true) Tryz.func105 (fun w' hS => ?_) ?_
                focus exact (IsValidValue_calls w' _ hbd.1).mono fun e w'' h => ⟨by rw [h.1, hv'.out], h.2⟩
                repeat first | refine sP ?_ | refine sS ?_ | refine sA ?_ | refine sL ?_ | refine sQ ?_ | refine sO ?_
                refine Reg.nil fun w2 hS => ?_
                go_wp2
                exact ⟨⟨k + 1, by omega, by go_num, ⟨by have := hst.out; rw [hi'.out, hp'.out, hv'.out] at this; simpa using this⟩, hB.out.trans hS, Loc.on hS hL'.out⟩, by simp [intOf]; omega⟩
              | false =>
                have hv' := Aside0.mk hv
                clear hv
                go_wp2
                refine Reg.region [(0,.L),(1,.L),(2,.L),(3,.L),(4,.L),(5,.C),(6,.L),(7,.L),(8,.L),(9,.L),(10,.L),(11,.L),(12,.L),(13,.L),(14,.L),(15,.L),(16,.L),(17,.L),(18,.L),(19,.L),(20,.L),(21,.L),(22,.L),(23,.L),(24,.L),(25,.L),(26,.L),(27,.L),(28,.L),(29,.L),(30,.L),(31,.C),(32,.L),(33,.L)] [] (by kernel_rfl) (by kernel_rfl) ?_
                repeat first | refine sP ?_ | refine sS ?_ | refine sA ?_ | refine sL ?_ | refine sQ ?_ | refine sO ?_
                refine callC (.bool true) Tryz.func104 (fun w' hS => ?_) ?_
                focus exact (l1In_calls w' _ _ _).mono fun e w'' h => ⟨by rw [h.1, hi'.out], h.2⟩
                repeat first | refine sP ?_ | refine sS ?_ | refine sA ?_ | refine sL ?_ | refine sQ ?_ | refine sO ?_
                refine callC (.bool false) Tryz.func105 (fun w' hS => ?_) ?_
                focus exact (IsValidValue_calls w' _ hbd.1).mono fun e w'' h => ⟨by rw [h.1, hv'.out], h.2⟩
                repeat first | refine sP ?_ | refine sS ?_ | refine sA ?_ | refine sL ?_ | refine sQ ?_ | refine sO ?_
                refine Reg.nil fun w2 hS => ?_
                go_wp2
                go_ret
                exact ⟨ret_bool (by have := hst.out; rw [hi'.out, hp'.out, hv'.out] at this; simp at this; simp [okSub, this]), hB.out.trans hS⟩
          · have hk0' : decide (0 < (k : Int)) = false := decide_eq_false (by omega)
            have hp' := Aside0.mk (show okPrevI (prevI ns k) ns[k] = true by simp [okPrevI, prevI, show k = 0 by omega])
            cases hv : okVal vs[k] with
            | true =>
              have hv' := Aside0.mk hv
              clear hv
              go_wp2
              refine Reg.region [(0,.L),(1,.L),(2,.L),(3,.L),(4,.L),(5,.C),(6,.L),(7,.L),(8,.L),(9,.L),(10,.L),(11,.L),(12,.L),(13,.L),(14,.L),(15,.L),(16,.L),(17,.L),(18,.L),(19,.L),(20,.L),(21,.L),(22,.L),(23,.L),(24,.L),(25,.L),(26,.L),(27,.L),(28,.L),(29,.L),(30,.L),(31,.C),(32,.L),(33,.L)] [] (by kernel_rfl) (by kernel_rfl) ?_
              repeat first | refine sP ?_ | refine sS ?_ | refine sA ?_ | refine sL ?_ | refine sQ ?_ | refine sO ?_
              refine callC (.bool true) Tryz.func104 (fun w' hS => ?_) ?_
              focus exact (l1In_calls w' _ _ _).mono fun e w'' h => ⟨by rw [h.1, hi'.out], h.2⟩
              repeat first | refine sP ?_ | refine sS ?_ | refine sA ?_ | refine sL ?_ | refine sQ ?_ | refine sO ?_
              refine callC (.bool true) Tryz.func105 (fun w' hS => ?_) ?_
              focus exact (IsValidValue_calls w' _ hbd.1).mono fun e w'' h => ⟨by rw [h.1, hv'.out], h.2⟩
              repeat first | refine sP ?_ | refine sS ?_ | refine sA ?_ | refine sL ?_ | refine sQ ?_ | refine sO ?_
              refine Reg.nil fun w2 hS => ?_
              go_wp2
              exact ⟨⟨k + 1, by omega, by go_num, ⟨by have := hst.out; rw [hi'.out, hp'.out, hv'.out] at this; simpa using this⟩, hB.out.trans hS, Loc.on hS hL'.out⟩, by simp [intOf]; omega⟩
            | false =>
              have hv' := Aside0.mk hv
              clear hv
              go_wp2
              refine Reg.region [(0,.L),(1,.L),(2,.L),(3,.L),(4,.L),(5,.C),(6,.L),(7,.L),(8,.L),(9,.L),(10,.L),(11,.L),(12,.L),(13,.L),(14,.L),(15,.L),(16,.L),(17,.L),(18,.L),(19,.L),(20,.L),(21,.L),(22,.L),(23,.L),(24,.L),(25,.L),(26,.L),(27,.L),(28,.L),(29,.L),(30,.L),(31,.C),(32,.L),(33,.L)] [] (by kernel_rfl) (by kernel_rfl) ?_
              repeat first | refine sP ?_ | refine sS ?_ | refine sA ?_ | refine sL ?_ | refine sQ ?_ | refine sO ?_
              refine callC (.bool true) Tryz.func104 (fun w' hS => ?_) ?_
              focus exact (l1In_calls w' _ _ _).mono fun e w'' h => ⟨by rw [h.1, hi'.out], h.2⟩
              repeat first | refine sP ?_ | refine sS ?_ | refine sA ?_ | refine sL ?_ | refine sQ ?_ | refine sO ?_
              refine callC (.bool false) Tryz.func105 (fun w' hS => ?_) ?_
              focus exact (IsValidValue_calls w' _ hbd.1).mono fun e w'' h => ⟨by rw [h.1, hv'.out], h.2⟩
              repeat first | refine sP ?_ | refine sS ?_ | refine sA ?_ | refine sL ?_ | refine sQ ?_ | refine sO ?_
              refine Reg.nil fun w2 hS => ?_
              go_wp2
              go_ret
              exact ⟨ret_bool (by have := hst.out; rw [hi'.out, hp'.out, hv'.out] at this; simp at this; simp [okSub, this]), hB.out.trans hS⟩
      · have hp' := Aside0.mk (show subFrom none ns vs = true by rw [← hp.out, List.drop_of_length_le (by omega)]; cases prevI ns k <;> rfl)
        clear hp hB0
        go_wp2
        go_ret
        exact ⟨ret_bool (by simp [okSub, hp'.out, hl'.out]), hB.out⟩
  · have hlb : ((ns.length : Int) == (vs.length : Int)) = false := by rw [beq_eq_false_iff_ne]; omega
    have hlc : ((ns.length : Int) != (vs.length : Int)) = true := by simp [bne, hlb]
    have hld : (ns.length == vs.length) = false := by simpa using hl
    have hl' := Aside0.mk hl
    clear hl
    go_enter Tryz.func73, Tryz.ntmps73
    go_wp2
    go_ret
    exact ⟨ret_bool (by simp [okSub, hl'.out]), hb.out⟩
theorem sNullValue_calls (w : World) (k : Int) (h : -9223372036854775000 ≤ k ∧ k ≤ 9223372036854775000) : Calls Tryz.prog 119 #[.int .i64 k] w fun e w' => e = .returned (.int .i64 (-1 - k)) ∧ On w w' := by
  go_enter Tryz.func119, Tryz.ntmps119
  go_wp2
  go_ret
  exact ⟨rfl, On.refl _⟩
theorem sApplyToValue_calls (w : World) (A0 c0 A1 c1) (ns vs : List Int) (h0 : Ints w A0 c0 ns) (h1 : Ints w A1 c1 vs) (x : Int) :
    Calls Tryz.prog 106 #[.agg #[.slice A0 ns.length c0, .slice A1 vs.length c1], .int .i64 x] w fun e w' => e = .returned (.int .i64 (appV ns vs x)) ∧ On w w' := by
  have hm0 := h0.max
  have hb := Aside0.mk (On.alloc (On.refl w) (.cells #[.slice A0 ns.length c0, .slice A1 vs.length c1] 58))
  have hL := Aside0.mk (loc1 w #[.slice A0 ns.length c0, .slice A1 vs.length c1] 58)
  cases ho : okSub ns vs with
  | false =>
    have ho' := Aside0.mk ho
    clear ho
    go_enter Tryz.func106, Tryz.ntmps106
    go_wp2
    go_loopw [5] (fun v wr => v = .int .i64 0 ∧ On w wr ∧ Loc wr [(w.heap.size, #[.slice A0 ns.length c0, .slice A1 vs.length c1], 58)]) (fun v _ => ns.length - (intOf v).toNat)
    case atStart => exact ⟨rfl, hb.out, hL.out⟩
    case round =>
      obtain ⟨rfl, hB0, hL0⟩ := hrel
      have hc0 := blk_cell hL0.1
      have hB := Aside0.mk hB0
      clear hL0 hB0
      by_cases hlt : 0 < ns.length
      · go_wp2_with (go_at_call 73; refine (sIsValidSub_calls _ A0 c0 A1 c1 ns vs (h0.on hB.out) (h1.on hB.out)).mono ?_; rintro e w2 ⟨rfl, hb2⟩; rw [ho'.out])
        go_ret
        exact ⟨ret_int (by simp [appV, ho'.out]), hB.out.trans hb2⟩
      · go_wp2
        go_ret
        exact ⟨ret_int (by simp [appV, ho'.out]), hB.out⟩
  | true =>
    have hsp := okSub_spec ho
    have hlen := Aside0.mk hsp.1
    have hnb := Aside0.mk hsp.2.1
    have ho' := Aside0.mk ho
    clear ho hsp
    go_enter Tryz.func106, Tryz.ntmps106
    go_wp2
    go_loopw [5] (fun v wr => ∃ k : Nat, k ≤ ns.length ∧ v = .int .i64 k ∧ Aside0 (findV (ns.drop k) (vs.drop k) x = findV ns vs x) ∧ On w wr ∧ Loc wr [(w.heap.size, #[.slice A0 ns.length c0, .slice A1 vs.length c1], 58)]) (fun v _ => ns.length - (intOf v).toNat)
    case atStart => exact ⟨0, Nat.zero_le _, rfl, ⟨rfl⟩, hb.out, hL.out⟩
    case round =>
      obtain ⟨k, hk, rfl, hp, hB0, hL0⟩ := hrel
      have hc0 := blk_cell hL0.1
      have hL' := Aside0.mk hL0
      have hB := Aside0.mk hB0
      clear hL0
      by_cases hlt : k < ns.length
      · have hlt2 : k < vs.length := by have := hlen.out; omega
        obtain ⟨ad, rfl, _⟩ := (h0.on hB0).at k hlt
        obtain ⟨bd, rfl, _⟩ := (h1.on hB0).at k hlt2
        have hst := Aside0.mk ((findV_step ns vs x k hlt hlt2).symm.trans hp.out)
        have hn := hnb.out _ (List.getElem_mem hlt)
        clear hp hB0
        by_cases hq : -1 - ns[k] = x
        · have hqb : (-1 - ns[k] == x) = true := by simpa using hq
          have hq' := Aside0.mk hq
          clear hq
          go_wp2_with (first
            | (go_at_call 73; refine (sIsValidSub_calls _ _ c0 _ c1 ns vs (h0.on hB.out) (h1.on hB.out)).mono ?_; rintro e w2 ⟨rfl, hb2⟩; rw [ho'.out]; have hc2 := blk_cell (Loc.on hb2 hL'.out).1; obtain ⟨ad', e', hx⟩ := (h0.on (hB.out.trans hb2)).at k hlt; obtain rfl : ad = ad' := (by simpa using e'); clear e')
            | (go_at_call 119; refine (sNullValue_calls _ _ (by omega)).mono ?_; rintro e w3 ⟨rfl, hb3⟩; have hc3 := blk_cell (Loc.on (hb2.trans hb3) hL'.out).1; obtain ⟨bd', e', hy⟩ := (h1.on (hB.out.trans (hb2.trans hb3))).at k hlt2; obtain rfl : bd = bd' := (by simpa using e'); clear e'))
          go_ret
          exact ⟨ret_int (by have := hst.out; rw [if_pos hq'.out] at this; simp [appV, ho'.out, ← this]), hB.out.trans (hb2.trans hb3)⟩
        · have hqb : (-1 - ns[k] == x) = false := by simpa using hq
          have hq' := Aside0.mk hq
          clear hq
          go_wp2_with (first
            | (go_at_call 73; refine (sIsValidSub_calls _ _ c0 _ c1 ns vs (h0.on hB.out) (h1.on hB.out)).mono ?_; rintro e w2 ⟨rfl, hb2⟩; rw [ho'.out]; have hc2 := blk_cell (Loc.on hb2 hL'.out).1; obtain ⟨ad', e', hx⟩ := (h0.on (hB.out.trans hb2)).at k hlt; obtain rfl : ad = ad' := (by simpa using e'); clear e')
            | (go_at_call 119; refine (sNullValue_calls _ _ (by omega)).mono ?_; rintro e w3 ⟨rfl, hb3⟩))
          exact ⟨⟨k + 1, by omega, by go_num, ⟨by have := hst.out; rwa [if_neg hq'.out] at this⟩, hB.out.trans (hb2.trans hb3), Loc.on (hb2.trans hb3) hL'.out⟩, by simp [intOf]; omega⟩
      · have hp' := Aside0.mk (show findV ns vs x = none by rw [← hp.out]; exact findV_nil ns vs x k (by omega))
        clear hp hB0
        go_wp2
        go_ret
        exact ⟨ret_int (by simp [appV, ho'.out, hp'.out]), hB.out⟩

theorem own1I (W : World) (x : Int) : OI (W.alloc (.cells #[.int .i64 x] 3 (0, 0))) W.heap.size (.slice (some ⟨W.heap.size, 0, none⟩) 1 1) [x] := lit_own W #[.int .i64 x] 3 1 1 W.heap.size (Nat.le_refl _) (by omega) rfl
theorem lit_RI {W w : World} {x : Int} (hx : -9223372036854775808 ≤ x ∧ x ≤ 9223372036854775807) (hb : On (W.alloc (.cells #[.int .i64 x] 3 (0, 0))) w) : kInts.C w (some ⟨W.heap.size, 0, none⟩) 1 [x] := by
  obtain ⟨A, c, e, h⟩ := OI.rd (pw_own_below (own1I W x) hb) (fun y hy => by simp at hy; subst hy; exact hx)
  injection e with e1 e2 e3
  subst e1
  exact h.2.1
theorem map_inR {ns vs xs : List Int} (h : InR xs) : InR (xs.map (appV ns vs)) := fun y hy => by
  obtain ⟨x, hx, rfl⟩ := List.mem_map.1 hy
  exact appV_bd (h x hx)
theorem sApplyToFact_calls (w : World) (A0 c0 A1 c1 A2 c2) (ns vs : List Int) (f : Fct) (h0 : Ints w A0 c0 ns) (h1 : Ints w A1 c1 vs) (h2 : Ints w A2 c2 f.2) (hl : f.2.length ≤ 2000000) :
    Calls Tryz.prog 74 #[.agg #[.slice A0 ns.length c0, .slice A1 vs.length c1], .agg #[.int .i64 f.1, .slice A2 f.2.length c2]] w (Got fun v w' => ∃ v1, v = .agg #[.int .i64 f.1, v1] ∧ OI w' w.heap.size v1 (f.2.map (appV ns vs)) ∧ On w w') := by
  have hb := Aside0.mk (On.alloc (On.alloc (On.alloc (On.refl w) (.cells #[.slice A0 ns.length c0, .slice A1 vs.length c1] 58)) (.cells #[.int .i64 f.1, .slice A2 f.2.length c2] 30)) (.cells #[.int .i64 0, .slice none 0 0] 30))
  have hL := Aside0.mk (loc3 w #[.slice A0 ns.length c0, .slice A1 vs.length c1] #[.int .i64 f.1, .slice A2 f.2.length c2] #[.int .i64 0, .slice none 0 0] 58 30 30)
  have hsz3 := Aside0.mk (show (((w.alloc (.cells #[.slice A0 ns.length c0, .slice A1 vs.length c1] 58)).alloc (.cells #[.int .i64 f.1, .slice A2 f.2.length c2] 30)).alloc (.cells #[.int .i64 0, .slice none 0 0] 30)).heap.size = w.heap.size + 3 by simp)
  have hfill := alloc_fill (((w.alloc (.cells #[.slice A0 ns.length c0, .slice A1 vs.length c1] 58)).alloc (.cells #[.int .i64 f.1, .slice A2 f.2.length c2] 30)).alloc (.cells #[.int .i64 0, .slice none 0 0] 30))
  go_enter Tryz.func74, Tryz.ntmps74
  go_wp2
  clear hfill
  obtain ⟨Wx, hWx⟩ : ∃ Wx, ((w.alloc (.cells #[.slice A0 ns.length c0, .slice A1 vs.length c1] 58)).alloc (.cells #[.int .i64 f.1, .slice A2 f.2.length c2] 30)).alloc (.cells #[.int .i64 0, .slice none 0 0] 30) = Wx := ⟨_, rfl⟩
  rw [hWx] at hb hL hsz3 ⊢
  clear hWx
  have hyb := Aside0.mk (show (Wx.alloc (.cells #[.int .i64 f.1, .slice none 0 0] 30)).heap[w.heap.size + 1 + 1 + 1]? = some (.cells #[.int .i64 f.1, .slice none 0 0] 30 (0, 0)) from by have h := loc_new Wx #[.int .i64 f.1, .slice none 0 0] 30; rw [hsz3.out] at h; exact h)
  have hBy := Aside0.mk (On.alloc (On.refl Wx) (.cells #[.int .i64 f.1, .slice none 0 0] 30))
  have hsy := Aside0.mk (show (Wx.alloc (.cells #[.int .i64 f.1, .slice none 0 0] 30)).heap.size = w.heap.size + 4 by simp [hsz3.out])
  obtain ⟨Wy, hWy⟩ : ∃ Wy, Wx.alloc (.cells #[.int .i64 f.1, .slice none 0 0] 30) = Wy := ⟨_, rfl⟩
  rw [hWy] at hyb hBy hsy ⊢
  clear hWy
  go_loopw [6] (fun v wr => ∃ (k : Nat) (xs : List Int) (A' : Option Addr) (c' : Nat), k ≤ f.2.length ∧ v = .int .i64 k ∧ Aside0 (xs = (f.2.take k).map (appV ns vs)) ∧ Aside0 (OI wr (w.heap.size + 4) (.slice A' xs.length c') xs) ∧ Aside0 (w.heap.size + 4 ≤ wr.heap.size) ∧ Aside0 (Ex (fun b => w.heap.size + 3 ≤ b) Wx wr) ∧ wr.heap[w.heap.size + 1 + 1 + 1]? = some (.cells #[.int .i64 f.1, .slice A' xs.length c'] 30 (0, 0))) (fun v _ => f.2.length - (intOf v).toNat)
  case atStart => exact ⟨0, [], none, 0, Nat.zero_le _, rfl, ⟨rfl⟩, ⟨World.ownsRow_nil _ _ _ _⟩, ⟨by rw [hsy.out]; exact Nat.le_refl _⟩, ⟨Ex.of_on hBy.out⟩, hyb.out⟩
  case round =>
    obtain ⟨k, xs, A', c', hk, rfl, hxs, hO, hsz, hE, hy⟩ := hrel
    have hlen := Aside0.mk (show xs.length = k by rw [hxs.out, List.length_map, List.length_take]; omega)
    have hLr := Aside0.mk (show Loc wr _ from Loc.on (Ex.to_on hE.out (fun i hi => by rw [hsz3.out]; exact hi)) hL.out)
    have hB := Aside0.mk (hb.out.trans (Ex.to_on hE.out (fun i hi => by rw [hsz3.out]; exact hi)))
    have hc0 := blk_cell hLr.out.1
    have hc1 := blk_cell hLr.out.2.1
    have hcy := blk_cell hy
    have hy' := Aside0.mk hy
    clear hy
    by_cases hlt : k < f.2.length
    · obtain ⟨ad, rfl, hx⟩ := (h2.on hB.out).at k hlt
      have hbd := h2.bd k hlt
      have hab := Aside0.mk (appV_bd (ns := ns) (vs := vs) hbd)
      go_wp2
      refine Reg.region [(0,.L),(1,.L),(2,.L),(3,.L),(4,.L),(5,.L),(6,.L),(7,.L),(8,.C),(9,.N)] [10,11,12] (by kernel_rfl) (by kernel_rfl) ?_
      repeat first | refine sP ?_ | refine sS ?_ | refine sA ?_ | refine sL ?_ | refine sQ ?_ | refine sO ?_
      refine callC (.int .i64 (appV ns vs f.2[k])) Tryz.func106 (fun w' hS => ?_) ?_
      focus exact sApplyToValue_calls w' A0 c0 A1 c1 ns vs (h0.on (hB.out.trans hS)) (h1.on (hB.out.trans hS)) f.2[k]
      refine stepM (fun w4 hS4 => ?_)
      go_wp2
      refine ⟨hS4.trans (On.alloc (On.refl _) _), ?_⟩
      refine Reg.tail_ fun w5 hS5 => ?_
      have hB5 := Aside0.mk ((hS4.trans (On.alloc (On.refl _) _)).trans hS5)
      have hO5 := Aside0.mk (pw_own_below hO.out hB5.out)
      obtain ⟨zs, hz⟩ : ∃ zs, xs ++ [appV ns vs f.2[k]] = zs := ⟨_, rfl⟩
      have hz' := Aside0.mk hz
      refine apI 27 hz (OI.to hO5.out) (lit_RI hab.out hS5) (Nat.le_trans hsz.out hB5.out.size) (by have := hlen.out; omega) fun v6 w6 hO6' hg6 hat6 => ?_
      have hO6 := OI.of hO6'
      obtain ⟨A6, c6, rfl⟩ := own_slice hO6
      have hgy : some (w.heap.size + 1 + 1 + 1) ≠ Value.ownBlock (.slice A' xs.length c') := fun e => by have := own_base hO.out _ e.symm; omega
      have hk6 := blk_grown hg6 (blk_below hy'.out hB5.out) hgy
      have hcy6 := blk_cell hk6
      have hf6 := blk_frozen hk6
      have hk6' := Aside0.mk hk6
      clear hk6 hgy hcy hz hat6 hO6'
      go_wp2
      refine ⟨⟨k + 1, zs, A6, c6, by omega, by go_num, ⟨?_⟩, ⟨ownsRow_setCell_below hO6 (by simp) _⟩, ⟨?_⟩, ⟨?_⟩, blk_set hk6'.out 1 _⟩, by simp [intOf]; omega⟩
      · rw [← hz'.out, List.take_succ_eq_append_getElem hlt, List.map_append, hxs.out]; rfl
      · have h3 := hg6.size; have h4 := hB5.out.size; have := hsz.out; simp [World.setCell]; omega
      · exact ((hE.out.then_on hB5.out).trans (Ex.of_grown hg6) (fun i _ e => by have := own_base hO5.out i e.symm; omega)).trans (Ex.set _ _ _) (fun i _ e => by have h : i = w.heap.size + 1 + 1 + 1 := e; omega)
    · have e1 : f.2.take k = f.2 := List.take_of_length_le (by omega)
      rw [e1] at hxs
      have hcr : ∀ i, wr.cell? ⟨w.heap.size + 1 + 1, i, none⟩ = _ := blk_cell hLr.out.2.2.1
      have hfr : ∀ i, wr.frozen? ⟨w.heap.size + 1 + 1, i, none⟩ = _ := blk_frozen hLr.out.2.2.1
      go_wp2
      refine bodyPost_ret (retF rfl rfl (g := w.heap.size + 2) (blk_set (blk_set hLr.out.2.2.1 0 _) 1 _) rfl) rfl ?_
      have hO2 := hO.out
      rw [hxs.out] at hO2
      refine ⟨_, rfl, _, rfl, ?_, Reg.On.set (Reg.On.set hB.out (by simp; omega) _) (by simp; omega) _⟩
      rw [hxs.out]
      exact own_lower (ownsRow_setCell_below (ownsRow_setCell_below hO2 (by simp) _) (by simp) _) (by omega)
/-- Two relations are the same. -/
def sameR (r q : Rel) : Bool := decide (r = q)
theorem sameR_eq (r q : Rel) : (r.1.toList == q.1.toList && (r.2.1 == q.2.1 && (r.2.2 == q.2.2))) = sameR r q := by
  obtain ⟨a, b, c⟩ := r
  obtain ⟨d, e, f⟩ := q
  rw [Bool.eq_iff_iff]
  simp only [sameR, Bool.and_eq_true, beq_iff_eq, decide_eq_true_eq, Prod.mk.injEq]
  rw [ByteArray.toList_eq, ByteArray.toList_eq, Array.toList_inj]
  exact ⟨fun h => ⟨ByteArray.ext h.1, h.2⟩, fun h => ⟨congrArg _ h.1, h.2⟩⟩
theorem eqRel (d : Nat) (w : World) (r q : Rel) :
    (Op.equalIn (d + 2) 81 (.agg #[.string r.1, .int .i64 r.2.1, .bool r.2.2]) (.agg #[.string q.1, .int .i64 q.2.1, .bool q.2.2])).run Tryz.prog w = .ok (sameR r q) w := by
  rw [← sameR_eq]
  refine eqA_of Tryz.underlying81 (by kernel_rfl) ?_
  refine eqf_cons (by rfl) (by go_simp; rfl) (by go_simp; rfl) (by go_simp) ?_
  refine eqf_cons (by rfl) (by go_simp; rfl) (by go_simp; rfl) (by go_simp) ?_
  exact eqf_last (by rfl) (by go_simp; rfl) (by go_simp; rfl) (by go_simp)
attribute [local go_sem high] eqRel
theorem l5Sigs_calls (w : World) (A c B d) (rs qs : List Rel) (h0 : Rels w A c rs) (h1 : Rels w B d qs) : Calls Tryz.prog 45 #[.slice A rs.length c, .slice B qs.length d] w fun e w' => e = .returned (.bool (decide (rs = qs))) ∧ On w w' := by
  have hm0 := h0.max
  have hm1 := h1.max
  by_cases hl : rs.length = qs.length
  · have hlb : ((rs.length : Int) == (qs.length : Int)) = true := by simp [hl]
    have hlc : ((rs.length : Int) != (qs.length : Int)) = false := by simp [bne, hlb]
    have hld : (rs.length == qs.length) = true := by simp [hl]
    have hl' := Aside0.mk hl
    clear hl
    go_enter Tryz.func45, Tryz.ntmps45
    go_wp2
    clear hlb hlc hld
    go_loopw [5] (fun v wr => ∃ k : Nat, k ≤ rs.length ∧ v = .int .i64 k ∧ Aside0 (rs.take k = qs.take k) ∧ On w wr) (fun v _ => rs.length - (intOf v).toNat)
    case atStart => exact ⟨0, Nat.zero_le _, rfl, ⟨rfl⟩, On.refl _⟩
    case round =>
      obtain ⟨k, hk, rfl, hp, hB⟩ := hrel
      by_cases hlt : k < rs.length
      · have hlt2 : k < qs.length := by have := hl'.out; omega
        obtain ⟨ad, rfl, hx0, hx1, hx2⟩ := (h0.on hB).at k hlt
        obtain ⟨bd, rfl, hy0, hy1, hy2⟩ := (h1.on hB).at k hlt2
        cases hq : sameR rs[k] qs[k] with
        | true =>
          have hq' := Aside0.mk (of_decide_eq_true hq : rs[k] = qs[k])
          go_wp2
          refine Reg.region [(0,.L),(1,.L),(2,.L),(3,.L),(4,.L),(5,.L),(6,.L),(7,.L),(8,.L)] [] (by kernel_rfl) (by kernel_rfl) ?_
          repeat first | refine sP ?_ | refine sS ?_ | refine sA ?_ | refine sL ?_ | refine sQ ?_ | refine sO ?_
          refine Reg.nil fun w2 hS => ?_
          clear hq
          go_wp2
          exact ⟨⟨k + 1, by omega, by go_num, ⟨by rw [List.take_succ_eq_append_getElem hlt, List.take_succ_eq_append_getElem hlt2, hp.out, hq'.out]⟩, hB.trans hS⟩, by simp [intOf]; omega⟩
        | false =>
          have hq' := Aside0.mk (of_decide_eq_false hq : ¬ rs[k] = qs[k])
          go_wp2
          refine Reg.region [(0,.L),(1,.L),(2,.L),(3,.L),(4,.L),(5,.L),(6,.L),(7,.L),(8,.L)] [] (by kernel_rfl) (by kernel_rfl) ?_
          repeat first | refine sP ?_ | refine sS ?_ | refine sA ?_ | refine sL ?_ | refine sQ ?_ | refine sO ?_
          refine Reg.nil fun w2 hS => ?_
          clear hq
          go_wp2
          go_ret
          exact ⟨ret_bool (by symm; exact decide_eq_false fun e => hq'.out (by subst e; rfl)), hB.trans hS⟩
      · have e1 : rs.take k = rs := List.take_of_length_le (by omega)
        have e2 : qs.take k = qs := List.take_of_length_le (by have := hl'.out; omega)
        rw [e1, e2] at hp
        go_wp2
        go_ret
        exact ⟨ret_bool (by symm; exact decide_eq_true hp.out), hB⟩
  · have hlb : ((rs.length : Int) == (qs.length : Int)) = false := by rw [beq_eq_false_iff_ne]; omega
    have hlc : ((rs.length : Int) != (qs.length : Int)) = true := by simp [bne, hlb]
    have hld : (rs.length == qs.length) = false := by simpa using hl
    have hl' := Aside0.mk hl
    clear hl
    go_enter Tryz.func45, Tryz.ntmps45
    go_wp2
    go_ret
    exact ⟨ret_bool (by symm; exact decide_eq_false fun e => hl'.out (congrArg _ e)), On.refl _⟩
end Go.Proofs.YtngjhblbpapjeaaGreat.H
/- Walks: the reference applies a substitution to an instance. No condition. -/
namespace Go.Proofs.YtngjhblbpapjeaaGreat.H
open Go Go.RowKit Go.Proofs.YtngjhblbpapjeaaGreatW.PrintWords Go.Proofs.YtngjhblbpapjeaaGreatW.PrintLast
open Go.Proofs.YtngjhblbpapjeaaGreat.Reg (On on_draw)
set_option maxHeartbeats 4000000
set_option maxRecDepth 100000
set_option linter.unusedVariables false
set_option linter.unusedSimpArgs false

def appOk (rs : List Rel) (fs : List Fct) (ns vs : List Int) : Bool := okSub ns vs && okInst rs fs
def appR (rs : List Rel) (fs : List Fct) (ns vs : List Int) : List Rel := if appOk rs fs ns vs then rs else []
def appI (rs : List Rel) (fs : List Fct) (ns vs : List Int) : List Fct := if appOk rs fs ns vs then setF (fs.map (appF ns vs)) else []
theorem setF_len (l : List Fct) : (setF l).length ≤ l.length := by
  have : ∀ (l out : List Fct), (l.foldl putF out).length ≤ out.length + l.length := by
    intro l
    induction l with
    | nil => intro out; simp
    | cons f l ih =>
      intro out
      rw [List.foldl_cons]
      have h1 := ih (putF out f)
      have h2 : (putF out f).length ≤ out.length + 1 := by
        clear h1 ih
        induction out with
        | nil => simp [putF]
        | cons y r ih => unfold putF; split <;> (try split) <;> simp <;> omega
      simp; omega
  simpa [setF] using this l []
theorem sApplyToInstance_calls (w : World) (A0 c0 A1 c1) (ns vs : List Int) (h0 : Ints w A0 c0 ns) (h1 : Ints w A1 c1 vs) (A2 c2 A3 c3) (rs : List Rel) (fs : List Fct) (h2 : Rels w A2 c2 rs) (h3 : Fcts w A3 c3 fs) :
    Calls Tryz.prog 29 #[.agg #[.slice A0 ns.length c0, .slice A1 vs.length c1], .agg #[.slice A2 rs.length c2, .slice A3 fs.length c3]] w (Got fun v w' => ∃ v1, v = .tuple #[v1, .bool (appOk rs fs ns vs)] ∧ OIn w' w.heap.size v1 (appR rs fs ns vs) (appI rs fs ns vs) ∧ On w w') := by
  have hb := Aside0.mk (On.alloc (On.alloc (On.alloc (On.refl w) (.cells #[.slice A0 ns.length c0, .slice A1 vs.length c1] 58)) (.cells #[.slice A2 rs.length c2, .slice A3 fs.length c3] 27)) (.cells #[.slice none 0 0, .slice none 0 0] 27))
  have hL := Aside0.mk (loc3 w #[.slice A0 ns.length c0, .slice A1 vs.length c1] #[.slice A2 rs.length c2, .slice A3 fs.length c3] #[.slice none 0 0, .slice none 0 0] 58 27 27)
  cases hs : okSub ns vs with
  | false =>
    have hno := Aside0.mk (show appOk rs fs ns vs = false by unfold appOk; rw [hs]; rfl)
    have hs' := Aside0.mk hs
    clear hs
    go_enter Tryz.func29, Tryz.ntmps29
    go_wp2_with (go_at_call 73; refine (sIsValidSub_calls _ A0 c0 A1 c1 ns vs (h0.on hb.out) (h1.on hb.out)).mono ?_; rintro e w1 ⟨rfl, hb1⟩; rw [hs'.out]; have hBx := Aside0.mk (hb.out.trans hb1); have hRx := Aside0.mk (Loc.on hb1 hL.out).2.2.1; have hcr : ∀ i, w1.cell? ⟨w.heap.size + 1 + 1, i, none⟩ = _ := blk_cell hRx.out; have hfr : ∀ i, w1.frozen? ⟨w.heap.size + 1 + 1, i, none⟩ = _ := blk_frozen hRx.out)
    go_wp2
    refine bodyPost_ret (retIB rfl rfl (g := w.heap.size + 2) (blk_set (blk_set hRx.out 0 _) 1 _) rfl) rfl ?_
    have hlt := blk_lt hRx.out
    refine ⟨_, rfl, _, by rw [hno.out]; rfl, ?_, Reg.On.set (Reg.On.set hBx.out (by simp; omega) _) (by simp; omega) _⟩
    have e1 : appR rs fs ns vs = [] := by unfold appR; rw [hno.out]; rfl
    have e2 : appI rs fs ns vs = [] := by unfold appI; rw [hno.out]; rfl
    rw [e1, e2]
    exact ⟨_, _, [], rfl, World.ownsRow_nil _ _ _ _, World.ownsRow_nil _ _ _ _, Sep.nil _ _⟩
  | true =>
    have hs' := Aside0.mk hs
    cases ho : okInst rs fs with
    | false =>
      have hno := Aside0.mk (show appOk rs fs ns vs = false by unfold appOk; rw [hs, ho]; rfl)
      have ho' := Aside0.mk ho
      clear hs ho
      go_enter Tryz.func29, Tryz.ntmps29
      go_wp2_with (first
        | (go_at_call 39; refine (IsValidInstance_calls _ A2 c2 A3 c3 rs fs (h2.on (hb.out.trans hb1)) (h3.on (hb.out.trans hb1))).mono ?_; rintro e w2 ⟨rfl, hb2⟩; rw [ho'.out]; have hBx := Aside0.mk ((hb.out.trans hb1).trans hb2); have hRx := Aside0.mk (Loc.on (hb1.trans hb2) hL.out).2.2.1; have hcr : ∀ i, w2.cell? ⟨w.heap.size + 1 + 1, i, none⟩ = _ := blk_cell hRx.out; have hfr : ∀ i, w2.frozen? ⟨w.heap.size + 1 + 1, i, none⟩ = _ := blk_frozen hRx.out)
        | (go_at_call 73; refine (sIsValidSub_calls _ A0 c0 A1 c1 ns vs (h0.on hb.out) (h1.on hb.out)).mono ?_; rintro e w1 ⟨rfl, hb1⟩; rw [hs'.out]; have hd0 := blk_cell (Loc.on hb1 hL.out).2.1))
      go_wp2
      refine bodyPost_ret (retIB rfl rfl (g := w.heap.size + 2) (blk_set (blk_set hRx.out 0 _) 1 _) rfl) rfl ?_
      have hlt := blk_lt hRx.out
      refine ⟨_, rfl, _, by rw [hno.out]; rfl, ?_, Reg.On.set (Reg.On.set hBx.out (by simp; omega) _) (by simp; omega) _⟩
      have e1 : appR rs fs ns vs = [] := by unfold appR; rw [hno.out]; rfl
      have e2 : appI rs fs ns vs = [] := by unfold appI; rw [hno.out]; rfl
      rw [e1, e2]
      exact ⟨_, _, [], rfl, World.ownsRow_nil _ _ _ _, World.ownsRow_nil _ _ _ _, Sep.nil _ _⟩
    | true =>
      have hyes := Aside0.mk (show appOk rs fs ns vs = true by unfold appOk; rw [hs, ho]; rfl)
      have ho' := Aside0.mk ho
      have hle := Aside0.mk (okInst_len ho)
      have hle3 := Aside0.mk (fun f hf => okFact_len (okInst_mem ho f hf))
      have hmx := h3.max
      clear hs ho
      go_enter Tryz.func29, Tryz.ntmps29
      go_wp2_with (first
        | (go_at_call 39; refine (IsValidInstance_calls _ A2 c2 A3 c3 rs fs (h2.on (hb.out.trans hb1)) (h3.on (hb.out.trans hb1))).mono ?_; rintro e w2 ⟨rfl, hb2⟩; rw [ho'.out]; have hB2 := Aside0.mk ((hb.out.trans hb1).trans hb2); have hL2 := Aside0.mk (Loc.on (hb1.trans hb2) hL.out); have hd1 := blk_cell (blk_below hL2.out.2.1 (On.alloc (On.refl w2) (.cells #[] 81))))
        | (go_at_call 73; refine (sIsValidSub_calls _ A0 c0 A1 c1 ns vs (h0.on hb.out) (h1.on hb.out)).mono ?_; rintro e w1 ⟨rfl, hb1⟩; rw [hs'.out]; have hd0 := blk_cell (Loc.on hb1 hL.out).2.1)
        | (refine gate 20 ?_))
      clear hd0 hd1 hb1 hb2
      refine ⟨apRf 20 (List.nil_append _) (lit_own w2 #[] 81 3 0 w2.heap.size (Nat.le_refl _) (by omega) rfl) rfl (h2.on (hB2.out.trans (On.alloc (On.refl _) _))) (by simp) (by have := hle.out; omega) fun v3 w3 hO3 hb3 => ?_⟩
      obtain ⟨B0, d0, rfl⟩ := own_slice hO3
      have hO3' := Aside0.mk hO3
      have hB3 := Aside0.mk ((On.alloc (On.refl w2) (.cells #[] 81)).trans hb3)
      have hfill := alloc_fill w3
      clear hO3 hb3
      go_wp2
      clear hfill
      obtain ⟨q, hq⟩ : ∃ q, w3.heap.size = q := ⟨_, rfl⟩
      have hqY := Aside0.mk (show (w3.alloc (.cells #[.slice B0 rs.length d0, .slice none 0 0] 27)).heap[q]? = some (.cells #[.slice B0 rs.length d0, .slice none 0 0] 27 (0, 0)) from by rw [← hq]; exact loc_new w3 #[.slice B0 rs.length d0, .slice none 0 0] 27)
      have hB4 := Aside0.mk (hB3.out.trans (On.alloc (On.refl w3) (.cells #[.slice B0 rs.length d0, .slice none 0 0] 27)))
      have hq2 := Aside0.mk (show w2.heap.size ≤ q from by rw [← hq]; exact hB3.out.size)
      have hO4 := pw_own_below hO3'.out (On.alloc (On.refl w3) (.cells #[.slice B0 rs.length d0, .slice none 0 0] 27))
      have hlo : ∀ i, Value.ownBlock (.slice B0 rs.length d0) = some i → i < q := fun i hi => by rw [← hq]; exact own_lt hO3'.out i hi
      obtain ⟨w4, hw4⟩ : ∃ w4, w3.alloc (.cells #[.slice B0 rs.length d0, .slice none 0 0] 27) = w4 := ⟨_, rfl⟩
      rw [hw4] at hqY hB4 hO4 ⊢
      try rw [hq]
      clear hw4 hq
      have hR4 := Aside0.mk (show RS (fun b => b = q) w4 (.agg #[.slice B0 rs.length d0, .slice none ([] : List Fct).length 0]) rs [] from ⟨B0, d0, none, 0, [], rfl, fun w' k => by
        have h5 := own_ex hO4 k (fun i hi e => by have := hlo i hi; omega)
        obtain ⟨A', c', e, h6⟩ := OR.rd h5
        injection e with e1 e2 e3
        subst e1 e3
        exact ⟨h6, ⟨Nat.le_refl _, by simp, fun j u hu => by simp at hu⟩, Reads.nil _⟩⟩)
      clear hO4 hlo
      go_loopw [7] (fun v7 wr => ∃ (i : Nat) (C0 : Option Addr) (e0 : Nat) (C1 : Option Addr) (e1 : Nat) (cur : List Fct), v7 = .int .i64 i ∧ i ≤ fs.length ∧ Aside0 (cur = ((fs.map (appF ns vs)).take i).foldl putF []) ∧ Aside0 (RS (fun b => b = q) wr (.agg #[.slice C0 rs.length e0, .slice C1 cur.length e1]) rs cur) ∧ Aside0 (On w2 wr) ∧ wr.heap[q]? = some (.cells #[.slice C0 rs.length e0, .slice C1 cur.length e1] 27 (0, 0))) (fun v7 _ => fs.length - (intOf v7).toNat)
      case atStart => exact ⟨0, B0, d0, none, 0, [], rfl, Nat.zero_le _, ⟨rfl⟩, hR4, hB4, hqY.out⟩
      case round =>
        obtain ⟨i, C0, e0, C1, e1, cur, rfl, hi, hcur, hR, hB, hY⟩ := hrel
        have hBw := Aside0.mk (hB2.out.trans hB.out)
        have hLr := Aside0.mk (Loc.on hB.out hL2.out)
        have hY' := Aside0.mk hY
        have hyc := blk_cell hY
        have hyf := blk_frozen hY
        have hd0 := blk_cell hLr.out.1
        have hd1 := blk_cell hLr.out.2.1
        have hspec := Aside0.mk (show Asc cur ∧ ∀ x, x ∈ cur → x ∈ fs.map (appF ns vs) by
          have h := foldl_putF ((fs.map (appF ns vs)).take i) [] List.Pairwise.nil
          rw [hcur.out]
          refine ⟨h.1, fun x hx => ?_⟩
          rcases (h.2 x).1 hx with h | h
          · cases h
          · exact List.mem_of_mem_take h)
        have hcl := Aside0.mk (show cur.length ≤ 30 by
          have h := setF_len ((fs.map (appF ns vs)).take i)
          rw [hcur.out]
          have h2 : (setF ((fs.map (appF ns vs)).take i)).length ≤ 30 := by
            have := hle.out
            rw [List.length_take, List.length_map] at h
            omega
          exact h2)
        clear hY
        by_cases hlt : i < fs.length
        · obtain ⟨ad, A5, c5, rfl, x0, x1, x2⟩ := (h3.on hBw.out).at i hlt
          have x2' := Aside0.mk x2
          have hf3 := Aside0.mk (hle3.out fs[i] (List.getElem_mem hlt))
          clear x2
          go_wp2
          refine Reg.region [(0,.L),(1,.L),(2,.L),(3,.L),(4,.L),(5,.L),(6,.L),(7,.N),(8,.N)] [9] (by kernel_rfl) (by kernel_rfl) ?_
          repeat first | refine sP ?_ | refine sS ?_ | refine sA ?_ | refine sL ?_ | refine sQ ?_ | refine sO ?_
          refine callN Tryz.func74 (fun w5 hS5 => ?_)
          refine (sApplyToFact_calls w5 A0 c0 A1 c1 A5 c5 ns vs fs[i] (h0.on (hBw.out.trans hS5)) (h1.on (hBw.out.trans hS5)) (x2'.out.on hS5) (by have := hf3.out; omega)).mono ?_
          rintro e w6 ⟨v6, rfl, u6, rfl, hO6, hb6⟩
          obtain ⟨F, hF⟩ : ∃ F : Fct, appF ns vs fs[i] = F := ⟨_, rfl⟩
          have hF1 : fs[i].1 = F.1 := by rw [← hF]; rfl
          have hF2 : fs[i].2.map (appV ns vs) = F.2 := by rw [← hF]; rfl
          have hFl : F.2.length = fs[i].2.length := by rw [← hF2, List.length_map]
          rw [hF2] at hO6
          have hFR : InR F.2 := by
            rw [← hF2]
            intro x hx
            obtain ⟨y, hy, rfl⟩ := List.mem_map.1 hx
            exact appV_bd (x2'.out.2.2 y hy)
          obtain ⟨A6, c6, rfl, hI6⟩ := OI.rd hO6 hFR
          refine ⟨.agg #[.int .i64 F.1, .slice A6 F.2.length c6], by rw [hF1], hb6, fun a' ha => ?_⟩
          simp only [Act.put, List.setIfInBounds_toArray, List.set_cons_zero, List.set_cons_succ] at ha
          subst ha
          refine callN Tryz.func41 (fun w7 hS7 => ?_)
          have hB7 := hS5.trans (hb6.trans hS7)
          obtain ⟨D0, g0, D1, g1, hh, eR, hAR⟩ := (hR.out.on hB7).out
          injection eR with eR
          have eR1 := congrArg (fun x => x.toList) eR
          simp only [List.cons.injEq, Value.slice.injEq] at eR1
          obtain ⟨⟨p1, p2, p3⟩, ⟨p4, p5, p6⟩, _⟩ := eR1
          subst p1 p3 p4 p6
          have hq7 := blk_lt (blk_below hY'.out hB7)
          refine (l5PutS_calls (fun b => b = q) w7 C0 e0 C1 e1 hh rs cur hAR (fun b hb => by rw [hb]; exact hq7) A6 c6 F (hI6.on hS7) (by have := hcl.out; omega) (by have := hf3.out; omega) hspec.out.1).mono ?_
          rintro e w8 ⟨v8, rfl, hR8, hb8⟩
          have hR8' := Aside0.mk hR8
          obtain ⟨G0, k0, G1, k1, hh8, rfl, hAR8⟩ := hR8.out
          refine ⟨_, rfl, hb8, fun a' ha => ?_⟩
          simp only [Act.put, List.setIfInBounds_toArray, List.set_cons_zero, List.set_cons_succ] at ha
          subst ha
          refine Reg.tail_ fun w9 hS9 => ?_
          have hB9 := Aside0.mk (hB7.trans (hb8.trans hS9))
          have hY9 := Aside0.mk (blk_below hY'.out hB9.out)
          have hyc9 := blk_cell hY9.out
          have hyf9 := blk_frozen hY9.out
          have hF' := Aside0.mk hF
          have hS9' := Aside0.mk hS9
          clear eR p2 p5 hAR hAR8 hR8 hyc hyf hd0 hd1 x0 x1 hO6 hI6 hF hF1 hF2 hS9
          go_wp2
          refine ⟨⟨i + 1, G0, k0, G1, k1, putF cur F, by go_num, by omega, ⟨?_⟩, ⟨(hR8'.out.on hS9'.out).ex ((Ex.set w9 ⟨q, 0, none⟩ _).trans (Ex.set _ ⟨q, 1, none⟩ _) (fun i _ h => h))⟩, ⟨Reg.On.set (Reg.On.set (hB.out.trans hB9.out) hq2.out _) hq2.out _⟩, blk_set (blk_set hY9.out 0 _) 1 _⟩, by simp [intOf]; omega⟩
          rw [List.take_succ_eq_append_getElem (by rw [List.length_map]; exact hlt), List.foldl_append, ← hcur.out, List.getElem_map, hF'.out]
          rfl
        · have hend := Aside0.mk (show appI rs fs ns vs = cur by
            unfold appI
            rw [hyes.out, if_pos rfl, hcur.out, List.take_of_length_le (by rw [List.length_map]; omega)]
            rfl)
          obtain ⟨D0, g0, D1, g1, hh, eR, hAR⟩ := hR.out.out
          injection eR with eR
          have eR1 := congrArg (fun x => x.toList) eR
          simp only [List.cons.injEq, Value.slice.injEq] at eR1
          obtain ⟨⟨p1, p2, p3⟩, ⟨p4, p5, p6⟩, _⟩ := eR1
          subst p1 p3 p4 p6
          obtain ⟨r0, r1, r2⟩ := hAR wr (Ex.refl _ _)
          clear eR p2 p5
          go_wp2_with (refine gate 39 ?_)
          refine ⟨goesF 39 Tryz.func38 ((l5Copy_calls wr C0 e0 C1 e1 rs cur r0 (r1.fcts r2) (by have := hle.out; omega) (by have := hcl.out; omega) (fun f hf => ?_)).mono ?_)⟩
          · obtain ⟨f0, hf0, rfl⟩ := List.mem_map.1 (hspec.out.2 f hf)
            have := hle3.out f0 hf0
            show (f0.2.map (appV ns vs)).length ≤ _
            rw [List.length_map]; omega
          rintro e w5 ⟨v5, rfl, hI5, hb5⟩
          refine ⟨_, rfl, ?_⟩
          obtain ⟨a1, a2, a3, a4, a5, a6, rfl⟩ := hI5.read.shape
          have hI5' := Aside0.mk hI5
          have hRx := Aside0.mk (blk_below hLr.out.2.2.1 hb5)
          have hBx := Aside0.mk (hBw.out.trans hb5)
          have hcr : ∀ i, w5.cell? ⟨w.heap.size + 1 + 1, i, none⟩ = _ := blk_cell hRx.out
          have hfr : ∀ i, w5.frozen? ⟨w.heap.size + 1 + 1, i, none⟩ = _ := blk_frozen hRx.out
          clear hI5 r0 r1 r2 hAR hyc hyf hd0 hd1
          go_wp2
          refine bodyPost_ret (retIB rfl rfl (g := w.heap.size + 2) (blk_set (blk_set hRx.out 0 _) 1 _) rfl) rfl ?_
          have hlt1 := blk_lt hLr.out.2.2.1
          have hlt2 := hBw.out.size
          refine ⟨_, rfl, _, by rw [hyes.out]; rfl, ?_, Reg.On.set (Reg.On.set hBx.out (by simp; omega) _) (by simp; omega) _⟩
          have e1 : appR rs fs ns vs = rs := by unfold appR; rw [hyes.out]; rfl
          rw [e1, hend.out]
          exact OIn.lower (OIn.set (OIn.set hI5'.out (by simp; omega) _) (by simp; omega) _) hlt2
end Go.Proofs.YtngjhblbpapjeaaGreat.H
/- Walks: the program's own substitutions. No condition. -/
namespace Go.Proofs.YtngjhblbpapjeaaGreat.H
open Go Go.RowKit Go.Proofs.YtngjhblbpapjeaaGreatW.PrintWords Go.Proofs.YtngjhblbpapjeaaGreatW.PrintLast
open Go.Proofs.YtngjhblbpapjeaaGreat.Reg (On on_draw)
set_option maxHeartbeats 4000000
set_option maxRecDepth 100000
set_option linter.unusedVariables false
set_option linter.unusedSimpArgs false

theorem iIsValidSub_calls (w : World) (A0 c0 A1 c1) (ns vs : List Int) (h0 : Ints w A0 c0 ns) (h1 : Ints w A1 c1 vs) :
    Calls Tryz.prog 75 #[.agg #[.slice A0 ns.length c0, .slice A1 vs.length c1]] w fun e w' => e = .returned (.bool (okSub ns vs)) ∧ On w w' := by
  have hm0 := h0.max
  have hm1 := h1.max
  have hb := Aside0.mk (On.alloc (On.refl w) (.cells #[.slice A0 ns.length c0, .slice A1 vs.length c1] 58))
  have hL := Aside0.mk (loc1 w #[.slice A0 ns.length c0, .slice A1 vs.length c1] 58)
  by_cases hl : ns.length = vs.length
  · have hlb : ((ns.length : Int) == (vs.length : Int)) = true := by simp [hl]
    have hlc : ((ns.length : Int) != (vs.length : Int)) = false := by simp [bne, hlb]
    have hld : (ns.length == vs.length) = true := by simp [hl]
    have hl' := Aside0.mk hl
    clear hl
    go_enter Tryz.func75, Tryz.ntmps75
    go_wp2
    clear hlb hlc hld
    go_loopw [15] (fun v wr => ∃ k : Nat, k ≤ ns.length ∧ v = .int .i64 k ∧ Aside0 (subFrom (prevI ns k) (ns.drop k) (vs.drop k) = subFrom none ns vs) ∧ On w wr ∧ Loc wr [(w.heap.size, #[.slice A0 ns.length c0, .slice A1 vs.length c1], 58)]) (fun v _ => ns.length - (intOf v).toNat)
    case atStart => exact ⟨0, Nat.zero_le _, rfl, ⟨rfl⟩, hb.out, hL.out⟩
    case round =>
      obtain ⟨k, hk, rfl, hp, hB0, hL0⟩ := hrel
      have hc0 := blk_cell hL0.1
      have hL' := Aside0.mk hL0
      have hB := Aside0.mk hB0
      clear hL0
      by_cases hlt : k < ns.length
      · have hlt2 : k < vs.length := by have := hl'.out; omega
        obtain ⟨ad, rfl, hx⟩ := (h0.on hB0).at k hlt
        obtain ⟨bd, rfl, hy⟩ := (h1.on hB0).at k hlt2
        have hbd := h1.bd k hlt2
        have hst := Aside0.mk ((subFrom_step ns vs k hlt hlt2).symm.trans hp.out)
        clear hp hB0
        cases hi : within ns[k] 0 39 with
        | false =>
          have hi' := Aside0.mk hi
          clear hi
          go_wp2_with (go_at_call 94; refine (within_calls _ _ _ _).mono ?_; rintro e w2 ⟨rfl, hb2⟩; rw [hi'.out])
          go_ret
          exact ⟨ret_bool (by have := hst.out; rw [hi'.out] at this; simp at this; simp [okSub, this]), hB.out.trans hb2⟩
        | true =>
          have hi' := Aside0.mk hi
          clear hi
          by_cases hk0 : 0 < k
          · have hk0' : decide (0 < (k : Int)) = true := decide_eq_true (by omega)
            have hki : IntKind.i64.wrap ((k : Int) - 1) = ((k - 1 : Nat) : Int) := by rw [IntWalk.i64_in _ (by omega)]; omega
            have hk1 : k - 1 < ns.length := by omega
            obtain ⟨ad', e', hz⟩ := (h0.on hB.out).at (k - 1) hk1
            obtain rfl : ad = ad' := by simpa using e'
            have hpn : prevI ns k = some ns[k - 1] := by simp [prevI, show ¬ k = 0 by omega, show k - 1 < ns.length by omega]
            by_cases hc : ns[k] ≤ ns[k - 1]
            · have hcb : decide (ns[k] ≤ ns[k - 1]) = true := decide_eq_true hc
              have hp' := Aside0.mk (show okPrevI (prevI ns k) ns[k] = false by rw [hpn]; exact decide_eq_false (by omega))
              clear hpn
              go_wp2_with (go_at_call 94; refine (within_calls _ _ _ _).mono ?_; rintro e w2 ⟨rfl, hb2⟩; rw [hi'.out]; have hc2 := blk_cell (Loc.on hb2 hL'.out).1; replace hz := (hb2.eq _ (by rw [hz]; rfl)).trans hz)
              go_ret
              exact ⟨ret_bool (by have := hst.out; rw [hi'.out, hp'.out] at this; simp at this; simp [okSub, this]), hB.out.trans hb2⟩
            · have hcb : decide (ns[k] ≤ ns[k - 1]) = false := decide_eq_false hc
              have hp' := Aside0.mk (show okPrevI (prevI ns k) ns[k] = true by rw [hpn]; exact decide_eq_true (by omega))
              clear hpn
              cases hv : okVal vs[k] with
              | true =>
                have hv' := Aside0.mk hv
                clear hv
                go_wp2_with (first
                  | (go_at_call 94; refine (within_calls _ _ _ _).mono ?_; rintro e w2 ⟨rfl, hb2⟩; rw [hi'.out]; have hc2 := blk_cell (Loc.on hb2 hL'.out).1; (try replace hz := (hb2.eq _ (by rw [hz]; rfl)).trans hz); replace hy := (hb2.eq _ (by rw [hy]; rfl)).trans hy)
                  | (go_at_call 97; refine (iIsValidValue_calls _ _).mono ?_; rintro e w3 ⟨rfl, hb3⟩; rw [hv'.out]))
                exact ⟨⟨k + 1, by omega, by go_num, ⟨by have := hst.out; rw [hi'.out, hp'.out, hv'.out] at this; simpa using this⟩, hB.out.trans (hb2.trans hb3), Loc.on (hb2.trans hb3) hL'.out⟩, by simp [intOf]; omega⟩
              | false =>
                have hv' := Aside0.mk hv
                clear hv
                go_wp2_with (first
                  | (go_at_call 94; refine (within_calls _ _ _ _).mono ?_; rintro e w2 ⟨rfl, hb2⟩; rw [hi'.out]; have hc2 := blk_cell (Loc.on hb2 hL'.out).1; (try replace hz := (hb2.eq _ (by rw [hz]; rfl)).trans hz); replace hy := (hb2.eq _ (by rw [hy]; rfl)).trans hy)
                  | (go_at_call 97; refine (iIsValidValue_calls _ _).mono ?_; rintro e w3 ⟨rfl, hb3⟩; rw [hv'.out]))
                go_ret
                exact ⟨ret_bool (by have := hst.out; rw [hi'.out, hp'.out, hv'.out] at this; simp at this; simp [okSub, this]), hB.out.trans (hb2.trans hb3)⟩
          · have hk0' : decide (0 < (k : Int)) = false := decide_eq_false (by omega)
            have hp' := Aside0.mk (show okPrevI (prevI ns k) ns[k] = true by simp [okPrevI, prevI, show k = 0 by omega])
            cases hv : okVal vs[k] with
            | true =>
              have hv' := Aside0.mk hv
              clear hv
              go_wp2_with (first
                | (go_at_call 94; refine (within_calls _ _ _ _).mono ?_; rintro e w2 ⟨rfl, hb2⟩; rw [hi'.out]; have hc2 := blk_cell (Loc.on hb2 hL'.out).1; (try replace hz := (hb2.eq _ (by rw [hz]; rfl)).trans hz); replace hy := (hb2.eq _ (by rw [hy]; rfl)).trans hy)
                | (go_at_call 97; refine (iIsValidValue_calls _ _).mono ?_; rintro e w3 ⟨rfl, hb3⟩; rw [hv'.out]))
              exact ⟨⟨k + 1, by omega, by go_num, ⟨by have := hst.out; rw [hi'.out, hp'.out, hv'.out] at this; simpa using this⟩, hB.out.trans (hb2.trans hb3), Loc.on (hb2.trans hb3) hL'.out⟩, by simp [intOf]; omega⟩
            | false =>
              have hv' := Aside0.mk hv
              clear hv
              go_wp2_with (first
                | (go_at_call 94; refine (within_calls _ _ _ _).mono ?_; rintro e w2 ⟨rfl, hb2⟩; rw [hi'.out]; have hc2 := blk_cell (Loc.on hb2 hL'.out).1; (try replace hz := (hb2.eq _ (by rw [hz]; rfl)).trans hz); replace hy := (hb2.eq _ (by rw [hy]; rfl)).trans hy)
                | (go_at_call 97; refine (iIsValidValue_calls _ _).mono ?_; rintro e w3 ⟨rfl, hb3⟩; rw [hv'.out]))
              go_ret
              exact ⟨ret_bool (by have := hst.out; rw [hi'.out, hp'.out, hv'.out] at this; simp at this; simp [okSub, this]), hB.out.trans (hb2.trans hb3)⟩
      · have hp' := Aside0.mk (show subFrom none ns vs = true by rw [← hp.out, List.drop_of_length_le (by omega)]; cases prevI ns k <;> rfl)
        clear hp hB0
        go_wp2
        go_ret
        exact ⟨ret_bool (by simp [okSub, hp'.out, hl'.out]), hB.out⟩
  · have hlb : ((ns.length : Int) == (vs.length : Int)) = false := by rw [beq_eq_false_iff_ne]; omega
    have hlc : ((ns.length : Int) != (vs.length : Int)) = true := by simp [bne, hlb]
    have hld : (ns.length == vs.length) = false := by simpa using hl
    have hl' := Aside0.mk hl
    clear hl
    go_enter Tryz.func75, Tryz.ntmps75
    go_wp2
    go_ret
    exact ⟨ret_bool (by simp [okSub, hl'.out]), hb.out⟩
theorem indexI_calls (w : World) (A c) (xs : List Int) (y : Int) (h : Ints w A c xs) : Calls Tryz.prog 125 #[.slice A xs.length c, .int .i64 y] w fun e w' => e = .returned (.int .i64 (idxFrom (fun n => n == y) xs 0)) ∧ On w w' := by
  have hmax := h.max
  go_enter Tryz.func125, Tryz.ntmps125
  go_wp2
  go_loopw [8] (fun v wr => ∃ k : Nat, k ≤ xs.length ∧ v = .int .i64 k ∧ Aside0 (idxFrom (fun n => n == y) (xs.drop k) k = idxFrom (fun n => n == y) xs 0) ∧ On w wr) (fun v _ => xs.length - (intOf v).toNat)
  case atStart => exact ⟨0, Nat.zero_le _, rfl, ⟨rfl⟩, On.refl _⟩
  case round =>
    obtain ⟨k, hk, rfl, hp, hB⟩ := hrel
    by_cases hlt : k < xs.length
    · obtain ⟨ad, rfl, hx⟩ := (h.on hB).at k hlt
      have hst := Aside0.mk ((idxFrom_step (fun n => n == y) xs k hlt).symm.trans hp.out)
      clear hp
      by_cases hq : xs[k] = y
      · have hqb : (y == xs[k]) = true := by simp [hq]
        have hq' := Aside0.mk hq
        clear hq
        go_wp2
        go_ret
        exact ⟨ret_int (by have := hst.out; rw [if_pos (by simp [hq'.out])] at this; exact this), hB⟩
      · have hqb : (y == xs[k]) = false := by simp; exact fun e => hq e.symm
        have hq' := Aside0.mk hq
        clear hq
        go_wp2
        exact ⟨⟨k + 1, by omega, by go_num, ⟨by have := hst.out; rwa [if_neg (by simp [hq'.out])] at this⟩, hB⟩, by simp [intOf]; omega⟩
    · go_wp2
      go_ret
      exact ⟨ret_int (by rw [← hp.out, List.drop_of_length_le (by omega)]; rfl), hB⟩
theorem iApplyToValue_calls (w : World) (A0 c0 A1 c1) (ns vs : List Int) (h0 : Ints w A0 c0 ns) (h1 : Ints w A1 c1 vs) (x : Int) (hx : -9223372036854775808 ≤ x ∧ x ≤ 9223372036854775807) :
    Calls Tryz.prog 108 #[.agg #[.slice A0 ns.length c0, .slice A1 vs.length c1], .int .i64 x] w fun e w' => e = .returned (.int .i64 (appV ns vs x)) ∧ On w w' := by
  have hb := Aside0.mk (On.alloc (On.refl w) (.cells #[.slice A0 ns.length c0, .slice A1 vs.length c1] 58))
  have hL := Aside0.mk (loc1 w #[.slice A0 ns.length c0, .slice A1 vs.length c1] 58)
  have hm1 := h1.max
  cases hn : isNul x with
  | false =>
    have hr := Aside0.mk (show appV ns vs x = x by
      unfold appV
      split
      · rename_i ho; rw [findV_not (okSub_spec ho).2.1 hn]; rfl
      · rfl)
    have hn' := Aside0.mk hn
    clear hn
    go_enter Tryz.func108, Tryz.ntmps108
    go_wp2_with (first
      | (go_at_call 121; refine (iNullNumber_calls _ _ hx).mono ?_; rintro e w2 ⟨rfl, hb2⟩; rw [hn'.out]; have hc2 := blk_cell (Loc.on hb2 hL.out).1)
      | (go_at_call 125; refine (indexI_calls _ A0 c0 ns _ (h0.on (hb.out.trans hb2))).mono ?_; rintro e w3 ⟨rfl, hb3⟩))
    go_ret
    exact ⟨ret_int hr.out.symm, hb.out.trans (hb2.trans hb3)⟩
  | true =>
    have hn' := Aside0.mk hn
    cases ho : okSub ns vs with
    | false =>
      have hr := Aside0.mk (show appV ns vs x = x by unfold appV; rw [ho]; rfl)
      have ho' := Aside0.mk ho
      clear hn ho
      by_cases hlt : idxFrom (fun n => n == nulNum x) ns 0 < 0
      · have hltb : decide (idxFrom (fun n => n == nulNum x) ns 0 < 0) = true := decide_eq_true hlt
        go_enter Tryz.func108, Tryz.ntmps108
        go_wp2_with (first
          | (go_at_call 121; refine (iNullNumber_calls _ _ hx).mono ?_; rintro e w2 ⟨rfl, hb2⟩; rw [hn'.out]; have hc2 := blk_cell (Loc.on hb2 hL.out).1)
          | (go_at_call 125; refine (indexI_calls _ A0 c0 ns _ (h0.on (hb.out.trans hb2))).mono ?_; rintro e w3 ⟨rfl, hb3⟩))
        go_ret
        exact ⟨ret_int hr.out.symm, hb.out.trans (hb2.trans hb3)⟩
      · have hltb : decide (idxFrom (fun n => n == nulNum x) ns 0 < 0) = false := decide_eq_false hlt
        go_enter Tryz.func108, Tryz.ntmps108
        go_wp2_with (first
          | (go_at_call 121; refine (iNullNumber_calls _ _ hx).mono ?_; rintro e w2 ⟨rfl, hb2⟩; rw [hn'.out]; have hc2 := blk_cell (Loc.on hb2 hL.out).1)
          | (go_at_call 125; refine (indexI_calls _ A0 c0 ns _ (h0.on (hb.out.trans hb2))).mono ?_; rintro e w3 ⟨rfl, hb3⟩; have hc3 := blk_cell (Loc.on (hb2.trans hb3) hL.out).1)
          | (go_at_call 75; refine (iIsValidSub_calls _ A0 c0 A1 c1 ns vs (h0.on (hb.out.trans (hb2.trans hb3))) (h1.on (hb.out.trans (hb2.trans hb3)))).mono ?_; rintro e w4 ⟨rfl, hb4⟩; rw [ho'.out]))
        go_ret
        exact ⟨ret_int hr.out.symm, hb.out.trans (hb2.trans (hb3.trans hb4))⟩
    | true =>
      have hsp := okSub_spec ho
      have ho' := Aside0.mk ho
      rcases idx_findV ns vs x 0 hsp.1 hsp.2.1 hn with ⟨e1, e2⟩ | ⟨k, hk, e1, e2⟩
      · have hr := Aside0.mk (show appV ns vs x = x by unfold appV; rw [ho, if_pos rfl, e2]; rfl)
        have e1' := Aside0.mk e1
        clear hn ho e1 e2 hsp
        go_enter Tryz.func108, Tryz.ntmps108
        go_wp2_with (first
          | (go_at_call 121; refine (iNullNumber_calls _ _ hx).mono ?_; rintro e w2 ⟨rfl, hb2⟩; rw [hn'.out]; have hc2 := blk_cell (Loc.on hb2 hL.out).1)
          | (go_at_call 125; refine (indexI_calls _ A0 c0 ns _ (h0.on (hb.out.trans hb2))).mono ?_; rintro e w3 ⟨rfl, hb3⟩; rw [e1'.out]))
        go_ret
        exact ⟨ret_int hr.out.symm, hb.out.trans (hb2.trans hb3)⟩
      · have hr := Aside0.mk (show appV ns vs x = vs[k] by unfold appV; rw [ho, if_pos rfl, e2]; rfl)
        rw [Nat.zero_add] at e1
        have e1' := Aside0.mk e1
        clear hn ho e1 e2 hsp
        go_enter Tryz.func108, Tryz.ntmps108
        go_wp2_with (first
          | (go_at_call 121; refine (iNullNumber_calls _ _ hx).mono ?_; rintro e w2 ⟨rfl, hb2⟩; rw [hn'.out]; have hc2 := blk_cell (Loc.on hb2 hL.out).1)
          | (go_at_call 125; refine (indexI_calls _ A0 c0 ns _ (h0.on (hb.out.trans hb2))).mono ?_; rintro e w3 ⟨rfl, hb3⟩; rw [e1'.out]; have hc3 := blk_cell (Loc.on (hb2.trans hb3) hL.out).1)
          | (go_at_call 75; refine (iIsValidSub_calls _ A0 c0 A1 c1 ns vs (h0.on (hb.out.trans (hb2.trans hb3))) (h1.on (hb.out.trans (hb2.trans hb3)))).mono ?_; rintro e w4 ⟨rfl, hb4⟩; rw [ho'.out]; have hc4 := blk_cell (Loc.on (hb2.trans (hb3.trans hb4)) hL.out).1; obtain ⟨bd, rfl, hy⟩ := (h1.on (hb.out.trans (hb2.trans (hb3.trans hb4)))).at k hk))
        go_ret
        exact ⟨ret_int hr.out.symm, hb.out.trans (hb2.trans (hb3.trans hb4))⟩

theorem own_some0 {w : World} {lo e sz n c : Nat} {A : Option Addr} {cs : List Value} (h : w.ownsRow lo e sz (.slice A n c) n cs) (hn : 0 < n) : ∃ g, A = some ⟨g, 0, none⟩ := by
  rcases h.2 with ⟨h', h2⟩ | ⟨g', cap', cur, h', _⟩
  · injection h' with e1 e2 e3
    subst e1
    omega
  · injection h' with e1 e2 e3
    exact ⟨g', e1⟩
theorem own_ltS {w : World} {lo e sz n c g : Nat} {cs : List Value} (h : w.ownsRow lo e sz (.slice (some ⟨g, 0, none⟩) n c) n cs) : g < w.heap.size := by
  rcases h.2 with ⟨h', _⟩ | ⟨g', cap', cur, h', _, hh, _⟩
  · cases h'
  · have : g = g' := by injection h' with h'; injection h' with h'; injection h' with h'
    subst this
    exact (Array.getElem?_eq_some_iff.1 hh).1
theorem iApplyToFact_calls (w : World) (A0 c0 A1 c1 A2 c2) (ns vs : List Int) (f : Fct) (h0 : Ints w A0 c0 ns) (h1 : Ints w A1 c1 vs) (h2 : Ints w A2 c2 f.2) (hl : f.2.length ≤ 2000000) :
    Calls Tryz.prog 76 #[.agg #[.slice A0 ns.length c0, .slice A1 vs.length c1], .agg #[.int .i64 f.1, .slice A2 f.2.length c2]] w (Got fun v w' => ∃ v1, v = .agg #[.int .i64 f.1, v1] ∧ OI w' w.heap.size v1 (f.2.map (appV ns vs)) ∧ On w w') := by
  have hmax := h2.max
  have hb := Aside0.mk (On.alloc (On.alloc (On.alloc (On.refl w) (.cells #[.slice A0 ns.length c0, .slice A1 vs.length c1] 58)) (.cells #[.int .i64 f.1, .slice A2 f.2.length c2] 30)) (.cells #[.int .i64 0, .slice none 0 0] 30))
  have hL := Aside0.mk (loc3 w #[.slice A0 ns.length c0, .slice A1 vs.length c1] #[.int .i64 f.1, .slice A2 f.2.length c2] #[.int .i64 0, .slice none 0 0] 58 30 30)
  have hsz3 := Aside0.mk (show (((w.alloc (.cells #[.slice A0 ns.length c0, .slice A1 vs.length c1] 58)).alloc (.cells #[.int .i64 f.1, .slice A2 f.2.length c2] 30)).alloc (.cells #[.int .i64 0, .slice none 0 0] 30)).heap.size = w.heap.size + 3 by simp)
  go_enter Tryz.func76, Tryz.ntmps76
  go_wp2_with (refine gate 9 ?_)
  obtain ⟨Wx, hWx⟩ : ∃ Wx, ((w.alloc (.cells #[.slice A0 ns.length c0, .slice A1 vs.length c1] 58)).alloc (.cells #[.int .i64 f.1, .slice A2 f.2.length c2] 30)).alloc (.cells #[.int .i64 0, .slice none 0 0] 30) = Wx := ⟨_, rfl⟩
  rw [hWx] at hb hL hsz3 ⊢
  clear hWx
  refine ⟨goesC 9 Tryz.func107 (by kernel_rfl) rfl ((factCopy_calls Wx A2 c2 f (h2.on hb.out) hl).mono fun e w1 hh => ?_)⟩
  obtain ⟨v, rfl, v1, rfl, hO1, hb1⟩ := hh
  refine ⟨_, rfl, ?_⟩
  obtain ⟨A3, c3, rfl⟩ := own_slice hO1
  have hO1' := Aside0.mk hO1
  have hb1' := Aside0.mk hb1
  clear hO1 hb1
  have hfill := alloc_fill w1
  have hL1 := Aside0.mk (Loc.on (hb1'.out.trans (On.alloc (On.refl w1) (.cells #[.int .i64 f.1, .slice A3 f.2.length c3] 30))) hL.out)
  have hcf := blk_cell hL1.out.2.1
  go_wp2
  clear hfill hcf hL1
  have hyb := Aside0.mk (loc_new w1 #[.int .i64 f.1, .slice A3 f.2.length c3] 30)
  have hBy := Aside0.mk (On.alloc (On.refl w1) (.cells #[.int .i64 f.1, .slice A3 f.2.length c3] 30))
  obtain ⟨Wy, hWy⟩ : ∃ Wy, w1.alloc (.cells #[.int .i64 f.1, .slice A3 f.2.length c3] 30) = Wy := ⟨_, rfl⟩
  rw [hWy] at hyb hBy ⊢
  clear hWy
  have hyz := Aside0.mk (show w.heap.size + 3 ≤ w1.heap.size by have := hb1'.out.size; rw [hsz3.out] at this; exact this)
  obtain ⟨y, hy⟩ : ∃ y, w1.heap.size = y := ⟨_, rfl⟩
  rw [hy] at hyb hyz ⊢
  have hyw := Aside0.mk hy
  clear hy
  go_loopw [13] (fun v wr => ∃ k : Nat, k ≤ f.2.length ∧ v = .int .i64 k ∧ Aside0 (wr.ownsRow (w.heap.size + 3) 3 1 (.slice A3 f.2.length c3) f.2.length (((f.2.take k).map (appV ns vs)).flatMap encI ++ (f.2.drop k).flatMap encI)) ∧ Aside0 (On Wx wr) ∧ wr.heap[y]? = some (.cells #[.int .i64 f.1, .slice A3 f.2.length c3] 30 (0, 0))) (fun v _ => f.2.length - (intOf v).toNat)
  case atStart => exact ⟨0, Nat.zero_le _, rfl, ⟨by rw [← hsz3.out]; exact pw_own_below hO1'.out hBy.out⟩, ⟨hb1'.out.trans hBy.out⟩, hyb.out⟩
  case round =>
    obtain ⟨k, hk, rfl, hO, hB, hyr⟩ := hrel
    have hBw := Aside0.mk (hb.out.trans hB.out)
    have hLr := Aside0.mk (Loc.on hB.out hL.out)
    have hcy := blk_cell hyr
    have hyr' := Aside0.mk hyr
    clear hyr
    by_cases hlt : k < f.2.length
    · obtain ⟨ad, rfl, hx⟩ := (h2.on hBw.out).at k hlt
      have hc0 := blk_cell hLr.out.1
      obtain ⟨g, rfl⟩ := own_some0 hO.out (by omega)
      have hbd := h2.bd k hlt
      go_wp2
      refine Reg.region [(0,.L),(1,.L),(2,.L),(3,.L),(4,.L),(5,.C),(6,.L)] [7] (by kernel_rfl) (by kernel_rfl) ?_
      repeat first | refine sP ?_ | refine sS ?_ | refine sA ?_ | refine sL ?_ | refine sQ ?_ | refine sO ?_
      refine callC (.int .i64 (appV ns vs f.2[k])) Tryz.func108 (fun w' hS => ?_) ?_
      focus exact iApplyToValue_calls w' A0 c0 A1 c1 ns vs (h0.on (hBw.out.trans hS)) (h1.on (hBw.out.trans hS)) f.2[k] hbd
      repeat first | refine sP ?_ | refine sS ?_ | refine sA ?_ | refine sL ?_ | refine sQ ?_ | refine sO ?_
      refine Reg.tail_ fun w5 hS5 => ?_
      have hO5 := Aside0.mk (pw_own_below hO.out hS5)
      have hfz : w5.frozen? ⟨g, k, none⟩ = false := own_frozen hO5.out k
      obtain ⟨z, hz⟩ := own_some hO5.out k (by omega)
      have hgl := Aside0.mk (show w.heap.size + 3 ≤ g from own_base hO5.out g rfl)
      have hgy := Aside0.mk (show g ≠ y from fun e => by have h3 := own_ltS hO1'.out; have h4 := hyw.out; omega)
      clear hcy hc0
      go_wp2
      refine ⟨⟨k + 1, by omega, by go_num, ⟨?_⟩, ⟨Reg.On.set (hB.out.trans hS5) (by rw [hsz3.out]; exact hgl.out) _⟩, ?_⟩, by simp [intOf]; omega⟩
      · have h3 := (hO5.out.stored k (.int .i64 (appV ns vs f.2[k]))).1
        rw [List.drop_eq_getElem_cons hlt, List.flatMap_cons] at h3
        rw [List.take_succ_eq_append_getElem hlt, List.map_append, List.flatMap_append, List.append_assoc]
        rw [show encI f.2[k] ++ (f.2.drop (k + 1)).flatMap encI = .int .i64 f.2[k] :: (f.2.drop (k + 1)).flatMap encI from rfl, set1 k (by rw [flat_len (enc := encI) (sz := 1) (fun _ => rfl), List.length_map, List.length_take]; omega)] at h3
        exact h3
      · rw [Below.heap_setCell _ _ _ _ (fun e => hgy.out (by have h : y = g := e; exact h.symm))]
        exact blk_below hyr'.out hS5
    · have e1 : f.2.take k = f.2 := List.take_of_length_le (by omega)
      have e2 : f.2.drop k = [] := List.drop_of_length_le (by omega)
      rw [e1, e2, List.flatMap_nil, List.append_nil] at hO
      have hcr : ∀ i, wr.cell? ⟨w.heap.size + 1 + 1, i, none⟩ = _ := blk_cell hLr.out.2.2.1
      have hfr : ∀ i, wr.frozen? ⟨w.heap.size + 1 + 1, i, none⟩ = _ := blk_frozen hLr.out.2.2.1
      go_wp2
      refine bodyPost_ret (retF rfl rfl (g := w.heap.size + 2) (blk_set (blk_set hLr.out.2.2.1 0 _) 1 _) rfl) rfl ?_
      have hO2 : OI wr (w.heap.size + 3) (.slice A3 f.2.length c3) (f.2.map (appV ns vs)) := by
        have := hO.out
        unfold OI
        rw [List.length_map]
        exact this
      refine ⟨_, rfl, _, rfl, ?_, Reg.On.set (Reg.On.set hBw.out (by first | (simp; done) | (simp; omega)) _) (by first | (simp; done) | (simp; omega)) _⟩
      exact own_lower (ownsRow_setCell_below (ownsRow_setCell_below hO2 (by first | (simp; done) | (simp; omega)) _) (by first | (simp; done) | (simp; omega)) _) (by omega)
end Go.Proofs.YtngjhblbpapjeaaGreat.H
/- Walks: the program applies a substitution to an instance. No condition. -/
namespace Go.Proofs.YtngjhblbpapjeaaGreat.H
open Go Go.RowKit Go.Proofs.YtngjhblbpapjeaaGreatW.PrintWords Go.Proofs.YtngjhblbpapjeaaGreatW.PrintLast
open Go.Proofs.YtngjhblbpapjeaaGreat.Reg (On on_draw)
set_option maxHeartbeats 4000000
set_option maxRecDepth 100000
set_option linter.unusedVariables false
set_option linter.unusedSimpArgs false

theorem own_at1 {w : World} {lo e sz m n c : Nat} {A : Option Addr} {cs : List Value} (h : w.ownsRow lo e sz (.slice A m c) n cs) (hn : 0 < n) : ∃ g, A = some ⟨g, 0, none⟩ := by
  rcases h.2 with ⟨h', h2⟩ | ⟨g', cap', cur, h', _⟩
  · injection h' with e1 e2 e3
    subst e1
    omega
  · injection h' with e1 e2 e3
    exact ⟨g', e1⟩
theorem Sep.store {S : Nat → Prop} {W w : World} {lo : Nat} {hs : List Hdr} {fs : List Fct} {i : Nat} {a : Hdr} {f : Fct} (h : Sep W lo hs fs) (hE : Ex S W w) (hS : ∀ (j : Nat) (b : Hdr) (k : Nat), hs[j]? = some b → (hdV b).ownBlock = some k → ¬ S k) (hi : i < hs.length) (h1 : a.1 = f.1) (h2 : OI w W.heap.size (hdV a) f.2) (h3 : InR f.2) (hlo : lo ≤ W.heap.size) : Sep w lo (hs.set i a) (fs.set i f) := by
  have hl := h.len
  refine ⟨by simp [hl], fun j b g hb hg => ?_, fun j j' b b' k hb hb' e1 e2 => ?_⟩
  · by_cases e : i = j
    · subst e
      rw [List.getElem?_set_self hi] at hb
      rw [List.getElem?_set_self (by omega)] at hg
      injection hb with hb; injection hg with hg; subst hb hg
      exact ⟨h1, own_lower h2 hlo, h3⟩
    · rw [List.getElem?_set_ne e] at hb hg
      obtain ⟨q1, q2, q3⟩ := h.at_ j b g hb hg
      exact ⟨q1, own_ex q2 hE (fun m hm => hS j b m hb hm), q3⟩
  · by_cases e : i = j <;> by_cases e' : i = j'
    · omega
    · subst e
      rw [List.getElem?_set_self hi] at hb
      rw [List.getElem?_set_ne e'] at hb'
      injection hb with hb; subst hb
      have := own_base h2 k e1
      have := (h.lt hb' e2).2
      omega
    · subst e'
      rw [List.getElem?_set_self hi] at hb'
      rw [List.getElem?_set_ne e] at hb
      injection hb' with hb'; subst hb'
      have := own_base h2 k e2
      have := (h.lt hb e1).2
      omega
    · rw [List.getElem?_set_ne e] at hb
      rw [List.getElem?_set_ne e'] at hb'
      exact h.apart j j' b b' k hb hb' e1 e2
theorem iApplyToInstance_calls (w : World) (A0 c0 A1 c1) (ns vs : List Int) (h0 : Ints w A0 c0 ns) (h1 : Ints w A1 c1 vs) (A2 c2 A3 c3) (rs : List Rel) (fs : List Fct) (h2 : Rels w A2 c2 rs) (h3 : Fcts w A3 c3 fs) :
    Calls Tryz.prog 31 #[.agg #[.slice A0 ns.length c0, .slice A1 vs.length c1], .agg #[.slice A2 rs.length c2, .slice A3 fs.length c3]] w (Got fun v w' => ∃ v1, v = .tuple #[v1, .bool (appOk rs fs ns vs)] ∧ OIn w' w.heap.size v1 (appR rs fs ns vs) (appI rs fs ns vs) ∧ On w w') := by
  have hb := Aside0.mk (On.alloc (On.alloc (On.alloc (On.refl w) (.cells #[.slice A0 ns.length c0, .slice A1 vs.length c1] 58)) (.cells #[.slice A2 rs.length c2, .slice A3 fs.length c3] 27)) (.cells #[.slice none 0 0, .slice none 0 0] 27))
  have hL := Aside0.mk (loc3 w #[.slice A0 ns.length c0, .slice A1 vs.length c1] #[.slice A2 rs.length c2, .slice A3 fs.length c3] #[.slice none 0 0, .slice none 0 0] 58 27 27)
  cases hs : okSub ns vs with
  | false =>
    have hno := Aside0.mk (show appOk rs fs ns vs = false by unfold appOk; rw [hs]; rfl)
    have hs' := Aside0.mk hs
    clear hs
    go_enter Tryz.func31, Tryz.ntmps31
    go_wp2_with (go_at_call 75; refine (iIsValidSub_calls _ A0 c0 A1 c1 ns vs (h0.on hb.out) (h1.on hb.out)).mono ?_; rintro e w1 ⟨rfl, hb1⟩; rw [hs'.out]; have hBx := Aside0.mk (hb.out.trans hb1); have hRx := Aside0.mk (Loc.on hb1 hL.out).2.2.1; have hcr : ∀ i, w1.cell? ⟨w.heap.size + 1 + 1, i, none⟩ = _ := blk_cell hRx.out; have hfr : ∀ i, w1.frozen? ⟨w.heap.size + 1 + 1, i, none⟩ = _ := blk_frozen hRx.out)
    go_wp2
    refine bodyPost_ret (retIB rfl rfl (g := w.heap.size + 2) (blk_set (blk_set hRx.out 0 _) 1 _) rfl) rfl ?_
    have hlt := blk_lt hRx.out
    refine ⟨_, rfl, _, by rw [hno.out]; rfl, ?_, Reg.On.set (Reg.On.set hBx.out (by simp; omega) _) (by simp; omega) _⟩
    have e1 : appR rs fs ns vs = [] := by unfold appR; rw [hno.out]; rfl
    have e2 : appI rs fs ns vs = [] := by unfold appI; rw [hno.out]; rfl
    rw [e1, e2]
    exact ⟨_, _, [], rfl, World.ownsRow_nil _ _ _ _, World.ownsRow_nil _ _ _ _, Sep.nil _ _⟩
  | true =>
    have hs' := Aside0.mk hs
    cases ho : okInst rs fs with
    | false =>
      have hno := Aside0.mk (show appOk rs fs ns vs = false by unfold appOk; rw [hs, ho]; rfl)
      have ho' := Aside0.mk ho
      clear hs ho
      go_enter Tryz.func31, Tryz.ntmps31
      go_wp2_with (first
        | (go_at_call 17; refine (iIsValidInstance_calls _ A2 c2 A3 c3 rs fs (h2.on (hb.out.trans hb1)) (h3.on (hb.out.trans hb1))).mono ?_; rintro e w2 ⟨rfl, hb2⟩; rw [ho'.out]; have hBx := Aside0.mk ((hb.out.trans hb1).trans hb2); have hRx := Aside0.mk (Loc.on (hb1.trans hb2) hL.out).2.2.1; have hcr : ∀ i, w2.cell? ⟨w.heap.size + 1 + 1, i, none⟩ = _ := blk_cell hRx.out; have hfr : ∀ i, w2.frozen? ⟨w.heap.size + 1 + 1, i, none⟩ = _ := blk_frozen hRx.out)
        | (go_at_call 75; refine (iIsValidSub_calls _ A0 c0 A1 c1 ns vs (h0.on hb.out) (h1.on hb.out)).mono ?_; rintro e w1 ⟨rfl, hb1⟩; rw [hs'.out]; have hd0 := blk_cell (Loc.on hb1 hL.out).2.1))
      go_wp2
      refine bodyPost_ret (retIB rfl rfl (g := w.heap.size + 2) (blk_set (blk_set hRx.out 0 _) 1 _) rfl) rfl ?_
      have hlt := blk_lt hRx.out
      refine ⟨_, rfl, _, by rw [hno.out]; rfl, ?_, Reg.On.set (Reg.On.set hBx.out (by simp; omega) _) (by simp; omega) _⟩
      have e1 : appR rs fs ns vs = [] := by unfold appR; rw [hno.out]; rfl
      have e2 : appI rs fs ns vs = [] := by unfold appI; rw [hno.out]; rfl
      rw [e1, e2]
      exact ⟨_, _, [], rfl, World.ownsRow_nil _ _ _ _, World.ownsRow_nil _ _ _ _, Sep.nil _ _⟩
    | true =>
      have hyes := Aside0.mk (show appOk rs fs ns vs = true by unfold appOk; rw [hs, ho]; rfl)
      have ho' := Aside0.mk ho
      have hle := Aside0.mk (okInst_len ho)
      have hle3 := Aside0.mk (fun f hf => okFact_len (okInst_mem ho f hf))
      have hmx := h3.max
      clear hs ho
      go_enter Tryz.func31, Tryz.ntmps31
      go_wp2_with (first
        | (go_at_call 17; refine (iIsValidInstance_calls _ A2 c2 A3 c3 rs fs (h2.on (hb.out.trans hb1)) (h3.on (hb.out.trans hb1))).mono ?_; rintro e w2 ⟨rfl, hb2⟩; rw [ho'.out]; have hB2 := Aside0.mk ((hb.out.trans hb1).trans hb2); have hL2 := Aside0.mk (Loc.on (hb1.trans hb2) hL.out); have hd1 := blk_cell hL2.out.2.1)
        | (go_at_call 75; refine (iIsValidSub_calls _ A0 c0 A1 c1 ns vs (h0.on hb.out) (h1.on hb.out)).mono ?_; rintro e w1 ⟨rfl, hb1⟩; rw [hs'.out]; have hd0 := blk_cell (Loc.on hb1 hL.out).2.1)
        | (refine gate 19 ?_))
      clear hd0 hd1 hb1 hb2
      refine ⟨goesF 19 Tryz.func36 ((instanceCopy_calls w2 A2 c2 A3 c3 rs fs (h2.on hB2.out) (h3.on hB2.out) (by have := hle.out; omega) (by have := hle.out; omega) (fun f hf => by have := hle3.out f hf; omega)).mono ?_)⟩
      rintro e w3 ⟨v3, rfl, ⟨vr, vf, hs0, rfl, hR, hH, hS⟩, hb3⟩
      refine ⟨_, rfl, ?_⟩
      obtain ⟨Ar, cr, rfl⟩ := own_slice hR
      obtain ⟨Af, cf, rfl⟩ := own_slice hH
      have hlen := Aside0.mk hS.len
      have hR1 := Aside0.mk hR
      have hH1 := Aside0.mk hH
      have hw2 := Aside0.mk (show w.heap.size + 3 ≤ w2.heap.size from blk_lt hL2.out.2.2.1)
      have hb3' := Aside0.mk hb3
      have hfill := alloc_fill w3
      have hS34 := On.alloc (On.refl w3) (.cells #[.slice Ar rs.length cr, .slice Af hs0.length cf] 27)
      have hY3 := loc_new w3 #[.slice Ar rs.length cr, .slice Af hs0.length cf] 27
      obtain ⟨q, hq⟩ : ∃ q, w3.heap.size = q := ⟨_, rfl⟩
      rw [hq] at hY3
      have hqq := Aside0.mk (show ∀ i, Value.ownBlock (.slice Ar rs.length cr) = some i → i < q from fun i hi => by rw [← hq]; exact own_lt hR i hi)
      have hq2 := Aside0.mk (show w2.heap.size ≤ q from by rw [← hq]; exact hb3.size)
      go_wp2_with (refine gate 21 ?_)
      clear hfill
      obtain ⟨w4, hw4⟩ : ∃ w4, w3.alloc (.cells #[.slice Ar rs.length cr, .slice Af hs0.length cf] 27) = w4 := ⟨_, rfl⟩
      rw [hw4] at hS34 hY3 ⊢
      try rw [hq]
      clear hw4 hq
      have hB4 := Aside0.mk (hb3.trans hS34)
      have hL4 := Aside0.mk (Loc.on hB4.out hL2.out)
      have hO4 := Aside0.mk (pw_own_below hH hS34)
      have hR4 := Aside0.mk (pw_own_below hR hS34)
      have hS4 := Aside0.mk (hS.on hS34)
      have hY4 := Aside0.mk hY3
      have hd1 := blk_cell hL4.out.2.1
      clear hR hH hS hb3 hS34 hY3
      refine ⟨?_⟩
      go_wp2
      clear hd1
      go_loopw [23] (fun v23 wr => ∃ (i : Nat) (L : List Hdr), v23 = .int .i64 i ∧ i ≤ fs.length ∧ Aside0 (L.length = hs0.length) ∧ Aside0 (OH wr w2.heap.size (.slice Af hs0.length cf) L) ∧ Aside0 (Sep wr w2.heap.size L ((fs.map (appF ns vs)).take i ++ fs.drop i)) ∧ Aside0 (OR wr w2.heap.size (.slice Ar rs.length cr) rs) ∧ Aside0 (On w2 wr) ∧ wr.heap[q]? = some (.cells #[.slice Ar rs.length cr, .slice Af hs0.length cf] 27 (0, 0))) (fun v23 _ => fs.length - (intOf v23).toNat)
      case atStart => exact ⟨0, hs0, rfl, Nat.zero_le _, ⟨rfl⟩, hO4, by simpa using hS4, hR4, hB4, hY4.out⟩
      case round =>
        obtain ⟨i, L, rfl, hi, hLl, hO, hSp, hR, hB, hY⟩ := hrel
        have hBw := Aside0.mk (hB2.out.trans hB.out)
        have hLr := Aside0.mk (Loc.on hB.out hL2.out)
        have hY' := Aside0.mk hY
        clear hY
        by_cases hlt : i < fs.length
        · have hiL := Aside0.mk (show i < L.length by rw [hLl.out, hlen.out]; exact hlt)
          have hlt0 : i < hs0.length := by have := hlen.out; omega
          have hmh : hs0.length ≤ 9223372036854775807 := by have := hlen.out; omega
          obtain ⟨g, rfl⟩ := own_at1 hO.out (by have := hiL.out; omega)
          obtain ⟨ad, A5, c5, rfl, x0, x1, x2⟩ := (h3.on hBw.out).at i hlt
          have x2' := Aside0.mk x2
          have hf3 := Aside0.mk (hle3.out fs[i] (List.getElem_mem hlt))
          have hfill := alloc_fill wr
          have hbx := Aside0.mk (On.alloc (On.refl wr) (.cells #[.int .i64 fs[i].1, .slice A5 fs[i].2.length c5] 30))
          have hcn := blk_cell (loc_new wr #[.int .i64 fs[i].1, .slice A5 fs[i].2.length c5] 30)
          have hd0 := blk_cell (blk_below hLr.out.1 hbx.out)
          have hyc := blk_cell (blk_below hY'.out hbx.out)
          clear x2
          go_wp2
          clear hfill
          refine Reg.region [(0,.L),(1,.L),(2,.L),(3,.L),(4,.L),(5,.N)] [6,7] (by kernel_rfl) (by kernel_rfl) ?_
          repeat first | refine sP ?_ | refine sS ?_ | refine sA ?_ | refine sL ?_ | refine sQ ?_ | refine sO ?_
          refine callN Tryz.func76 (fun w5 hS5 => ?_)
          have hB5 := Aside0.mk (hbx.out.trans hS5)
          refine (iApplyToFact_calls w5 A0 c0 A1 c1 A5 c5 ns vs fs[i] (h0.on (hBw.out.trans hB5.out)) (h1.on (hBw.out.trans hB5.out)) (x2'.out.on hB5.out) (by have := hf3.out; omega)).mono ?_
          rintro e w6 ⟨v6, rfl, u6, rfl, hO6, hb6⟩
          obtain ⟨F, hF⟩ : ∃ F : Fct, appF ns vs fs[i] = F := ⟨_, rfl⟩
          have hF1 : fs[i].1 = F.1 := by rw [← hF]; rfl
          have hF2 : fs[i].2.map (appV ns vs) = F.2 := by rw [← hF]; rfl
          rw [hF2] at hO6
          have hFR := Aside0.mk (show InR F.2 by
            rw [← hF2]
            intro x hx
            obtain ⟨y, hy, rfl⟩ := List.mem_map.1 hx
            exact appV_bd (x2'.out.2.2 y hy))
          obtain ⟨A6, c6, rfl⟩ := own_slice hO6
          refine ⟨.agg #[.int .i64 F.1, .slice A6 F.2.length c6], by rw [hF1], hb6, fun a' ha => ?_⟩
          simp only [Act.put, List.setIfInBounds_toArray, List.set_cons_zero, List.set_cons_succ] at ha
          subst ha
          refine Reg.tail_ fun w8 hS8 => ?_
          have hB8 := Aside0.mk (hB5.out.trans (hb6.trans hS8))
          have hO8 := Aside0.mk (pw_own_below hO.out hB8.out)
          have hO6' := Aside0.mk (own_lower (pw_own_below hO6 hS8) hB5.out.size)
          have hF' := Aside0.mk hF
          obtain ⟨hi0, hi1⟩ := OH.at hO8.out i hiL.out
          have hL2n : w8.ownsRow w2.heap.size 30 2 (.slice (some ⟨g, 0, none⟩) hs0.length cf) hs0.length (L.flatMap encH) := hLl.out ▸ hO8.out
          have hf0 := own_frozen hL2n (i * 2)
          have hf1 := own_frozen hL2n (i * 2 + 1)
          clear hL2n hO6 hF hF1 hF2 x0 x1 hcn hd0 hyc hb6
          go_wp2
          have hst := OH.store hO8.out i hiL.out (F.1, A6, F.2.length, c6)
          have hEs : Ex (fun b => b = g) w8 ((w8.setCell ⟨g, i * 2, none⟩ (.int .i64 F.1)).setCell ⟨g, i * 2 + 1, none⟩ (.slice A6 F.2.length c6)) := (Ex.set w8 ⟨g, i * 2, none⟩ _).trans (Ex.set _ ⟨g, i * 2 + 1, none⟩ _) (fun i _ h => h)
          have hEr := (Ex.of_on (S := fun b => b = g) hB8.out).trans hEs (fun _ _ h => h)
          have hgb : Value.ownBlock (.slice (some ⟨g, 0, none⟩) hs0.length cf) = some g := rfl
          have hgw := own_base hO8.out g hgb
          refine ⟨⟨i + 1, L.set i (F.1, A6, F.2.length, c6), by go_num, by omega, ⟨by rw [List.length_set]; exact hLl.out⟩, ⟨hst⟩, ⟨?_⟩, ⟨own_ex (pw_own_below hR.out hB8.out) hEs (fun k hk e => own_ne_blk (pw_own_below hR.out hB8.out) hO8.out (by decide) hk (by rw [e]; exact hgb))⟩, ⟨Reg.On.set (Reg.On.set (hB.out.trans hB8.out) hgw _) hgw _⟩, blk_ex hEs (blk_below hY'.out hB8.out) (fun e => row_ne_box hO8.out (blk_below hY'.out hB8.out) (by decide) (by rw [e]; rfl))⟩, by simp [intOf]; omega⟩
          have h9 := Sep.store (a := (F.1, A6, F.2.length, c6)) (f := F) hSp.out hEr (fun j b k hb hk e => (hSp.out.ne_row hO.out hb hk) (by rw [e]; rfl)) hiL.out rfl (own_ex hO6'.out hEs (fun k hk e => own_ne_blk hO6'.out hO8.out (by decide) hk (by rw [e]; exact hgb))) hFR.out hB.out.size
          have e2 : ((fs.map (appF ns vs)).take i ++ fs.drop i).set i F = (fs.map (appF ns vs)).take (i + 1) ++ fs.drop (i + 1) := by
            rw [List.drop_eq_getElem_cons hlt, set_mid _ _ _ _ i (by rw [List.length_take, List.length_map]; omega), List.take_succ_eq_append_getElem (by rw [List.length_map]; exact hlt), List.getElem_map, hF'.out, List.append_assoc]
            rfl
          rw [e2] at h9
          exact h9
        · have e1 : (fs.map (appF ns vs)).take i ++ fs.drop i = fs.map (appF ns vs) := by
            rw [List.take_of_length_le (by rw [List.length_map]; omega), List.drop_of_length_le (by omega), List.append_nil]
          rw [e1] at hSp
          have hyc := blk_cell hY'.out
          go_wp2_with (refine gate 38 ?_)
          have hRH := (OH.rh hO.out)
          have hFl := hRH.2.fcts hSp.out.reads
          have hlm : hs0.length = (fs.map (appF ns vs)).length := by rw [List.length_map]; exact hlen.out
          refine ⟨goesF 38 Tryz.func37 ((factsSet_calls wr Af hs0.length cf (fs.map (appF ns vs)) hFl hlm (by rw [List.length_map]; have := hle.out; omega) (fun f hf => ?_)).mono ?_)⟩
          · obtain ⟨f0, hf0, rfl⟩ := List.mem_map.1 hf
            have := hle3.out f0 hf0
            show (f0.2.map (appV ns vs)).length ≤ _
            rw [List.length_map]; omega
          rintro e w7 ⟨v7, rfl, hs7, hO7, hS7, hb7⟩
          obtain ⟨A7, c7, rfl⟩ := own_slice hO7
          refine ⟨_, rfl, ?_⟩
          have hO7' := Aside0.mk hO7
          have hS7' := Aside0.mk hS7
          have hB7 := Aside0.mk (hB.out.trans hb7)
          have hL7 := Aside0.mk (Loc.on hB7.out hL2.out)
          have hY7 := Aside0.mk (blk_below hY'.out hb7)
          have hR7 := Aside0.mk (pw_own_below hR.out hb7)
          have hwr := Aside0.mk (show q < wr.heap.size ∧ w2.heap.size ≤ wr.heap.size from ⟨blk_lt hY'.out, hB.out.size⟩)
          have hcy := blk_cell hY7.out
          have hfy := blk_frozen hY7.out
          have hcr : ∀ i, w7.cell? ⟨w.heap.size + 1 + 1, i, none⟩ = _ := blk_cell hL7.out.2.2.1
          have hfr : ∀ i, w7.frozen? ⟨w.heap.size + 1 + 1, i, none⟩ = _ := blk_frozen hL7.out.2.2.1
          have hne1 : ¬ (w.heap.size + 1 + 1 = q) := by have := hw2.out; have := hq2.out; omega
          have hne2 : ¬ (q = w.heap.size + 1 + 1) := fun e => hne1 e.symm
          clear hyc hO7 hS7 hRH hFl hlm hb7
          go_wp2
          refine bodyPost_ret (retIB rfl rfl (g := w.heap.size + 2) (blk_set (blk_set (blk_far hL7.out.2.2.1 (by simpa using hne1) _) 0 _) 1 _) rfl) rfl ?_
          have hw2' := hw2.out
          have hq2' := hq2.out
          have hwr' := hwr.out
          have hBx := Reg.On.set (p := ⟨q, 1, none⟩) (hB2.out.trans hB7.out) (by have := hB2.out.size; show _ ≤ q; omega) (.slice A7 hs7.length c7)
          refine ⟨_, rfl, _, by rw [hyes.out]; rfl, ?_, Reg.On.set (Reg.On.set hBx (by simp; omega) _) (by simp; omega) _⟩
          have e3 : appR rs fs ns vs = rs := by unfold appR; rw [hyes.out]; rfl
          have e4 : appI rs fs ns vs = setF (fs.map (appF ns vs)) := by unfold appI; rw [hyes.out]; rfl
          rw [e3, e4]
          have hEq := Ex.set w7 ⟨q, 1, none⟩ (.slice A7 hs7.length c7)
          have hI : OIn (w7.setCell ⟨q, 1, none⟩ (.slice A7 hs7.length c7)) w2.heap.size (.agg #[.slice Ar rs.length cr, .slice A7 hs7.length c7]) rs (setF (fs.map (appF ns vs))) :=
            ⟨_, _, hs7, rfl, own_ex hR7.out hEq (fun i hi e => by have := hqq.out i hi; have h5 : i = q := e; omega), own_lower (own_ex hO7'.out hEq (fun i hi e => by have := own_base hO7'.out i hi; have h5 : i = q := e; omega)) hwr'.2, (hS7'.out.ex hEq (fun i a b ha hb e => by have := (hS7'.out.lt ha hb).1; have h5 : b = q := e; omega)).lower hwr'.2⟩
          exact OIn.lower (OIn.set (OIn.set hI (by simp; omega) _) (by simp; omega) _) hB2.out.size
end Go.Proofs.YtngjhblbpapjeaaGreat.H
/- Walks: the laws' own substitutions: size, copy, comparison. No condition. -/
namespace Go.Proofs.YtngjhblbpapjeaaGreat.H
open Go Go.RowKit Go.Proofs.YtngjhblbpapjeaaGreatW.PrintWords Go.Proofs.YtngjhblbpapjeaaGreatW.PrintLast
open Go.Proofs.YtngjhblbpapjeaaGreat.Reg (On on_draw)
set_option maxHeartbeats 4000000
set_option maxRecDepth 100000
set_option linter.unusedVariables false
set_option linter.unusedSimpArgs false

section
variable {fn : Func} {p : Tmp} {tmps : Array Value} {w : World} {g : Nat} {t : TypeId} {cs : Array Value} {fr : Nat × Nat}
theorem retSu (h : fn.results = #[.cell p 58]) (hp : tmps.getD p undef = .pointer (some ⟨g, 0, none⟩)) (hg : w.heap[g]? = some (.cells cs t fr)) (hs : cs.size = 2) : (results fn tmps).run Tryz.prog w = .ok (.agg cs) w :=
  results_cell_row h tmps w g t cs fr _ hp hg Tryz.underlying58 rfl (by rw [hs]; kernel_rfl)
end
theorem szSubstitution_calls (w : World) (A0 c0 A1 c1) (ns vs : List Int) (n : Int) (h0 : 0 ≤ n) (h1 : n ≤ 2000000) (hr : Ints w A0 c0 ns) (hf : Ints w A1 c1 vs) : Calls Tryz.prog 28 #[.agg #[.slice A0 ns.length c0, .slice A1 vs.length c1], .int .i64 n] w (Sz n (ns.length + vs.length) w) := by
  have hb := Aside0.mk (On.alloc (On.refl w) (.cells #[.slice A0 ns.length c0, .slice A1 vs.length c1] 55))
  go_enter Tryz.func28, Tryz.ntmps28
  go_wp2_with (first | (go_at_call 61; refine (szIntS_calls _ A1 c1 vs q (by omega) (by have := hq.out (by omega); omega) (hf.on (hb.out.trans hb1))).mono ?_; rintro e w2 ⟨q2, rfl, hq0, hb2⟩; have hq2 := Aside0.mk hq0; clear hq0; by_cases hneg2 : q2 < 0) | (go_at_call 61; refine (szIntS_calls _ A0 c0 ns n h0 h1 (hr.on hb.out)).mono ?_; rintro e w1 ⟨q, rfl, hq0, hb1⟩; have hq := Aside0.mk hq0; clear hq0; have hc0 := blk_cell (Loc.on hb1 (loc1 w #[.slice A0 ns.length c0, .slice A1 vs.length c1] 55)).1; by_cases hneg : q < 0))
  all_goals
    go_ret
    first | exact ⟨_, rfl, fun h => by omega, (hb.out.trans hb1).trans hb2⟩ | exact ⟨_, rfl, fun h => by omega, hb.out.trans hb1⟩ | exact ⟨_, rfl, fun h => by have := hq.out (by omega); have := hq2.out (by omega); omega, (hb.out.trans hb1).trans hb2⟩
theorem toSubstitution_calls (w : World) (A0 c0 A1 c1) (ns vs : List Int) (h0 : Ints w A0 c0 ns) (h1 : Ints w A1 c1 vs) (hl0 : ns.length ≤ 2000000) (hl : vs.length ≤ 2000000) : Calls Tryz.prog 30 #[.agg #[.slice A0 ns.length c0, .slice A1 vs.length c1]] w (Got fun v w' => ∃ v1 v2, v = .agg #[v1, v2] ∧ OI w' w.heap.size v1 ns ∧ OI w' w.heap.size v2 vs ∧ (∀ k, v1.ownBlock = some k → v2.ownBlock = some k → False) ∧ On w w') := by
  have hb := Aside0.mk (On.alloc (On.alloc (On.alloc (On.refl w) (.cells #[.slice A0 ns.length c0, .slice A1 vs.length c1] 55)) (.cells #[.slice none 0 0, .slice none 0 0] 58)) (.cells #[.slice none 0 0, .slice none 0 0] 58))
  have hL := Aside0.mk (loc3 w #[.slice A0 ns.length c0, .slice A1 vs.length c1] #[.slice none 0 0, .slice none 0 0] #[.slice none 0 0, .slice none 0 0] 55 58 58)
  go_enter Tryz.func30, Tryz.ntmps30
  go_wp2_with (first | (go_at_call 64; have hB2 := Aside0.mk (Reg.On.set (hb.out.trans hb1) (p := ⟨w.heap.size + 1 + 1, 0, none⟩) (by simp; omega) (.slice A2 ns.length c2)); refine (toIntS_calls _ A1 c1 vs (h1.on hB2.out) hl).mono ?_; rintro e w3 ⟨v3, rfl, hO3, hb3⟩; obtain ⟨A3, c3, rfl⟩ := own_slice hO3; clear hc0 hc1 hc2 hf1 hf2; have hk1 := blk_below (blk_far hL1.out.2.1 (p := ⟨w.heap.size + 1 + 1, 0, none⟩) (by simp) (.slice A2 ns.length c2)) hb3; have hk2 : w3.heap[w.heap.size + 1 + 1]? = some (.cells #[.slice A2 ns.length c2, .slice none 0 0] 58 (0, 0)) := blk_below (blk_set hL1.out.2.2.1 0 (.slice A2 ns.length c2)) hb3; have hc1 := blk_cell hk1; have hc2 := blk_cell hk2; have hf1 := blk_frozen hk1; have hf2 := blk_frozen hk2; have hk1' := Aside0.mk hk1; clear hk1 hk2; have hO3' := Aside0.mk hO3; clear hO3; have hb3' := Aside0.mk hb3; clear hb3) | (go_at_call 64; refine (toIntS_calls _ A0 c0 ns (h0.on hb.out) hl0).mono ?_; rintro e w1 ⟨v1, rfl, hO, hb1⟩; obtain ⟨A2, c2, rfl⟩ := own_slice hO; have hL1 := Aside0.mk (Loc.on hb1 hL.out); have hc0 := blk_cell hL1.out.1; have hc1 := blk_cell hL1.out.2.1; have hc2 : ∀ i, w1.cell? ⟨w.heap.size + 1 + 1, i, none⟩ = _ := blk_cell hL1.out.2.2.1; have hf1 := blk_frozen hL1.out.2.1; have hf2 : ∀ i, w1.frozen? ⟨w.heap.size + 1 + 1, i, none⟩ = false := blk_frozen hL1.out.2.2.1; have hO' := Aside0.mk hO; clear hO))
  have hsz : (((w.alloc (.cells #[.slice A0 ns.length c0, .slice A1 vs.length c1] 55)).alloc (.cells #[.slice none 0 0, .slice none 0 0] 58)).alloc (.cells #[.slice none 0 0, .slice none 0 0] 58)).heap.size = w.heap.size + 3 := by simp
  have hO := hO'.out
  rw [hsz] at hO
  have hsz1 := hb1.size
  rw [hsz] at hsz1
  have hsz2 : (w1.setCell ⟨w.heap.size + 1 + 1, 0, none⟩ (.slice A2 ns.length c2)).heap.size = w1.heap.size := by simp [World.setCell]
  have hO4 := hO3'.out
  rw [hsz2] at hO4
  refine bodyPost_ret (retSu rfl rfl (g := w.heap.size + 1) (blk_set (blk_set (blk_far hk1'.out (p := ⟨w.heap.size + 1 + 1, 1, none⟩) (by simp) _) 0 _) 1 _) rfl) rfl ?_
  refine ⟨_, rfl, _, _, rfl, ?_, ?_, fun k k1 k2 => ?_, ?_⟩
  · have h5 := pw_own_below (ownsRow_setCell_below hO (a := ⟨w.heap.size + 1 + 1, 0, none⟩) (by simp) (.slice A2 ns.length c2)) hb3'.out
    exact own_lower (ownsRow_setCell_below (ownsRow_setCell_below (ownsRow_setCell_below h5 (by simp) _) (by simp) _) (by simp) _) (by omega)
  · exact own_lower (ownsRow_setCell_below (ownsRow_setCell_below (ownsRow_setCell_below hO4 (by simp; omega) _) (by simp; omega) _) (by simp; omega) _) (by omega)
  · have := own_lt hO'.out k k1
    have := own_base hO4 k k2
    omega
  · exact Reg.On.set (Reg.On.set (Reg.On.set (hB2.out.trans hb3'.out) (by simp; omega) _) (by simp) _) (by simp) _
theorem eqSubstitution_calls (w : World) (A0 c0 A1 c1 B0 d0 B1 d1) (ns vs : List Int) (h0 : Ints w A0 c0 ns) (h1 : Ints w A1 c1 vs) (h2 : Ints w B0 d0 ns) (h3 : Ints w B1 d1 vs) : Calls Tryz.prog 32 #[.agg #[.slice A0 ns.length c0, .slice A1 vs.length c1], .agg #[.slice B0 ns.length d0, .slice B1 vs.length d1]] w fun e w' => e = .returned (.bool true) ∧ On w w' := by
  have hb := Aside0.mk (On.alloc (On.alloc (On.refl w) (.cells #[.slice A0 ns.length c0, .slice A1 vs.length c1] 58)) (.cells #[.slice B0 ns.length d0, .slice B1 vs.length d1] 58))
  have hL := Aside0.mk (loc2 w #[.slice A0 ns.length c0, .slice A1 vs.length c1] #[.slice B0 ns.length d0, .slice B1 vs.length d1] 58 58)
  go_enter Tryz.func32, Tryz.ntmps32
  go_wp2_with (first | (go_at_call 67; refine (eqIntS_calls _ A1 c1 B1 d1 vs (h1.on (hb.out.trans hb1)) (h3.on (hb.out.trans hb1))).mono ?_; rintro e w2 ⟨rfl, hb2⟩) | (go_at_call 67; refine (eqIntS_calls _ A0 c0 B0 d0 ns (h0.on hb.out) (h2.on hb.out)).mono ?_; rintro e w1 ⟨rfl, hb1⟩; have hL1 := Loc.on hb1 hL.out; have hc0 := blk_cell hL1.1; have hc1 := blk_cell hL1.2.1; have hL2 := Aside0.mk hL1; clear hL1))
  go_ret
  exact ⟨rfl, (hb.out.trans hb1).trans hb2⟩
/-! In values. -/
structure RSu (w : World) (v : Value) (ns vs : List Int) : Prop where mk :: (out : ∃ A c B d, v = .agg #[.slice A ns.length c, .slice B vs.length d] ∧ Ints w A c ns ∧ Ints w B d vs)
structure OSb (w : World) (lo hi : Nat) (v : Value) (ns vs : List Int) : Prop where mk :: (out : ∃ v1 v2, v = .agg #[v1, v2] ∧ OI w lo v1 ns ∧ OI w lo v2 vs ∧ InR ns ∧ InR vs ∧ (∀ b, v1.ownBlock = some b → b < hi) ∧ ∀ b, v2.ownBlock = some b → b < hi)
structure OSu (w : World) (lo : Nat) (v : Value) (ns vs : List Int) : Prop where mk :: (out : ∃ v1 v2, v = .agg #[v1, v2] ∧ OI w lo v1 ns ∧ OI w lo v2 vs ∧ InR ns ∧ InR vs)
theorem OSu.b {w : World} {lo : Nat} {v : Value} {ns vs : List Int} (h : OSu w lo v ns vs) : OSb w lo w.heap.size v ns vs := by
  obtain ⟨v1, v2, e, h0, h1, h2, h3⟩ := h.out
  exact ⟨v1, v2, e, h0, h1, h2, h3, fun b hb => own_lt h0 b hb, fun b hb => own_lt h1 b hb⟩
theorem OSb.read {w : World} {lo hi : Nat} {v : Value} {ns vs : List Int} (h : OSb w lo hi v ns vs) : RSu w v ns vs := by
  obtain ⟨v1, v2, e, h0, h1, h2, h3, _⟩ := h.out
  obtain ⟨A, c, rfl, k0⟩ := OI.rd h0 h2
  obtain ⟨B, d, rfl, k1⟩ := OI.rd h1 h3
  exact ⟨A, c, B, d, e, k0, k1⟩
theorem OSu.read {w : World} {lo : Nat} {v : Value} {ns vs : List Int} (h : OSu w lo v ns vs) : RSu w v ns vs := h.b.read
theorem OSb.on {W w : World} {lo hi : Nat} {v : Value} {ns vs : List Int} (h : OSb W lo hi v ns vs) (hb : On W w) : OSb w lo hi v ns vs := by
  obtain ⟨v1, v2, e, h0, h1, h2, h3, h4, h5⟩ := h.out
  exact ⟨v1, v2, e, pw_own_below h0 hb, pw_own_below h1 hb, h2, h3, h4, h5⟩
theorem OSb.ex {S : Nat → Prop} {W w : World} {lo hi : Nat} {v : Value} {ns vs : List Int} (h : OSb W lo hi v ns vs) (k : Ex S W w) (hS : ∀ b, lo ≤ b → b < hi → ¬ S b) : OSb w lo hi v ns vs := by
  obtain ⟨v1, v2, e, h0, h1, h2, h3, h4, h5⟩ := h.out
  exact ⟨v1, v2, e, own_ex h0 k (fun i hi h => hS i (own_base h0 i hi) (h4 i hi) h), own_ex h1 k (fun i hi h => hS i (own_base h1 i hi) (h5 i hi) h), h2, h3, h4, h5⟩
theorem RSu.on {W w : World} {v : Value} {ns vs : List Int} (h : RSu W v ns vs) (hb : On W w) : RSu w v ns vs := by
  obtain ⟨A, c, B, d, e, h0, h1⟩ := h.out
  exact ⟨A, c, B, d, e, h0.on hb, h1.on hb⟩
theorem RSu.shape {w : World} {v : Value} {ns vs : List Int} (h : RSu w v ns vs) : ∃ A n c B m d, v = .agg #[.slice A n c, .slice B m d] := by
  obtain ⟨A, c, B, d, e, _⟩ := h.out
  exact ⟨_, _, _, _, _, _, e⟩
theorem szS_calls (w : World) (v : Value) (ns vs : List Int) (n : Int) (h0 : 0 ≤ n) (h1 : n ≤ 2000000) (h : RSu w v ns vs) : Calls Tryz.prog 28 #[v, .int .i64 n] w (Sz n (ns.length + vs.length) w) := by
  obtain ⟨A, c, B, d, rfl, k0, k1⟩ := h.out
  exact szSubstitution_calls w A c B d ns vs n h0 h1 k0 k1
theorem toS_calls (w : World) (v : Value) (ns vs : List Int) (h : RSu w v ns vs) (hl : ns.length + vs.length ≤ 1048576) : Calls Tryz.prog 30 #[v] w (Got fun v w' => OSu w' w.heap.size v ns vs ∧ On w w') := by
  obtain ⟨A, c, B, d, rfl, k0, k1⟩ := h.out
  refine (toSubstitution_calls w A c B d ns vs k0 k1 (by omega) (by omega)).mono fun e w' hh => ?_
  obtain ⟨v, rfl, v1, v2, rfl, hO, hO2, _, hb⟩ := hh
  exact ⟨_, rfl, ⟨v1, v2, rfl, hO, hO2, k0.2.2, k1.2.2⟩, hb⟩
theorem eqS_calls (w : World) (v u : Value) (ns vs : List Int) (h : RSu w v ns vs) (k : RSu w u ns vs) : Calls Tryz.prog 32 #[v, u] w fun e w' => e = .returned (.bool true) ∧ On w w' := by
  obtain ⟨A, c, B, d, rfl, h0, h1⟩ := h.out
  obtain ⟨A2, c2, B2, d2, rfl, k0, k1⟩ := k.out
  exact eqSubstitution_calls w A c B d A2 c2 B2 d2 ns vs h0 h1 k0 k1
end Go.Proofs.YtngjhblbpapjeaaGreat.H
/- Walks: the laws' own marks on substitutions. No condition. -/
namespace Go.Proofs.YtngjhblbpapjeaaGreat.H
open Go Go.RowKit Go.Proofs.YtngjhblbpapjeaaGreatW.PrintWords Go.Proofs.YtngjhblbpapjeaaGreatW.PrintLast
open Go.Proofs.YtngjhblbpapjeaaGreat.Reg (On on_draw)
set_option maxHeartbeats 4000000
set_option maxRecDepth 100000
set_option linter.unusedVariables false
set_option linter.unusedSimpArgs false

/-- Two rows of one's own in different blocks. -/
def ApO (u v : Value) : Prop := ∀ k, u.ownBlock = some k → v.ownBlock = some k → False
def wS (ns vs : List Int) : Nat := ns.length + vs.length
/-- A substitution of one's own whose rows lie apart. -/
structure OSp (w : World) (lo : Nat) (v : Value) (ns vs : List Int) : Prop where mk :: (out : ∃ v1 v2, v = .agg #[v1, v2] ∧ OI w lo v1 ns ∧ OI w lo v2 vs ∧ InR ns ∧ InR vs ∧ ApO v1 v2)
structure OSq (w : World) (lo hi : Nat) (v : Value) (ns vs : List Int) : Prop where mk :: (out : ∃ v1 v2, v = .agg #[v1, v2] ∧ OI w lo v1 ns ∧ OI w lo v2 vs ∧ InR ns ∧ InR vs ∧ ApO v1 v2 ∧ (∀ b, v1.ownBlock = some b → b < hi) ∧ ∀ b, v2.ownBlock = some b → b < hi)
theorem OSp.b {w : World} {lo : Nat} {v : Value} {ns vs : List Int} (h : OSp w lo v ns vs) : OSq w lo w.heap.size v ns vs := by
  obtain ⟨v1, v2, e, h0, h1, h2, h3, h4⟩ := h.out
  exact ⟨v1, v2, e, h0, h1, h2, h3, h4, fun b hb => own_lt h0 b hb, fun b hb => own_lt h1 b hb⟩
theorem OSp.lower {w : World} {lo lo' : Nat} {v : Value} {ns vs : List Int} (h : OSp w lo v ns vs) (hl : lo' ≤ lo) : OSp w lo' v ns vs := by
  obtain ⟨v1, v2, e, h0, h1, h2, h3, h4⟩ := h.out
  exact ⟨v1, v2, e, own_lower h0 hl, own_lower h1 hl, h2, h3, h4⟩
theorem OSq.n {w : World} {lo hi : Nat} {v : Value} {ns vs : List Int} (h : OSq w lo hi v ns vs) : OSp w lo v ns vs := by
  obtain ⟨v1, v2, e, h0, h1, h2, h3, h4, _⟩ := h.out
  exact ⟨v1, v2, e, h0, h1, h2, h3, h4⟩
theorem OSp.read {w : World} {lo : Nat} {v : Value} {ns vs : List Int} (h : OSp w lo v ns vs) : RSu w v ns vs := by
  obtain ⟨v1, v2, e, h0, h1, h2, h3, _⟩ := h.out
  obtain ⟨A, c, rfl, k0⟩ := OI.rd h0 h2
  obtain ⟨B, d, rfl, k1⟩ := OI.rd h1 h3
  exact ⟨A, c, B, d, e, k0, k1⟩
theorem OSq.read {w : World} {lo hi : Nat} {v : Value} {ns vs : List Int} (h : OSq w lo hi v ns vs) : RSu w v ns vs := h.n.read
theorem OSq.on {W w : World} {lo hi : Nat} {v : Value} {ns vs : List Int} (h : OSq W lo hi v ns vs) (hb : On W w) : OSq w lo hi v ns vs := by
  obtain ⟨v1, v2, e, h0, h1, h2, h3, h4, h5, h6⟩ := h.out
  exact ⟨v1, v2, e, pw_own_below h0 hb, pw_own_below h1 hb, h2, h3, h4, h5, h6⟩
theorem OSq.ex {S : Nat → Prop} {W w : World} {lo hi : Nat} {v : Value} {ns vs : List Int} (h : OSq W lo hi v ns vs) (k : Ex S W w) (hS : ∀ b, lo ≤ b → b < hi → ¬ S b) : OSq w lo hi v ns vs := by
  obtain ⟨v1, v2, e, h0, h1, h2, h3, h4, h5, h6⟩ := h.out
  exact ⟨v1, v2, e, own_ex h0 k (fun i hi h => hS i (own_base h0 i hi) (h5 i hi) h), own_ex h1 k (fun i hi h => hS i (own_base h1 i hi) (h6 i hi) h), h2, h3, h4, h5, h6⟩
theorem OSq.set {W : World} {lo hi g j : Nat} {v u : Value} {ns vs : List Int} (h : OSq W lo hi v ns vs) (hg : g < lo ∨ hi ≤ g) : OSq (W.setCell ⟨g, j, none⟩ u) lo hi v ns vs :=
  h.ex (Ex.set W ⟨g, j, none⟩ u) (fun b h1 h2 h3 => by have h4 : b = g := h3; omega)
theorem mkS_calls (w : World) (lo hi : Nat) (v : Value) (ns vs : List Int) (k0 : Int) (h : OSq w lo hi v ns vs) (h0 : 1 ≤ k0) (h1 : k0 + wS ns vs ≤ 10000000) : Calls Tryz.prog 33 #[v, .int .i64 k0] w fun e w' => e = .returned (.int .i64 (k0 + wS ns vs)) ∧ OSq w' lo hi v (markI k0 ns.length) (markI (k0 + ns.length) vs.length) ∧ Ex (fun b => lo ≤ b ∧ b < hi) w w' := by
  obtain ⟨v1, v2, rfl, hO1, hO2, hR1, hR2, hAp, hh1, hh2⟩ := h.out
  unfold wS at h1 ⊢
  obtain ⟨A1, c1, rfl⟩ := own_slice hO1
  obtain ⟨A2, c2, rfl⟩ := own_slice hO2
  have hh1' := Aside0.mk hh1
  have hh2' := Aside0.mk hh2
  have hAp' := Aside0.mk hAp
  have hO1' := Aside0.mk hO1
  have hO2' := Aside0.mk hO2
  have hb := Aside0.mk (On.alloc (On.refl w) (.cells #[.slice A1 ns.length c1, .slice A2 vs.length c2] 58))
  have hL := Aside0.mk (loc_new w #[.slice A1 ns.length c1, .slice A2 vs.length c2] 58)
  clear hh1 hh2 hAp hO1 hO2 h hR1 hR2
  go_enter Tryz.func33, Tryz.ntmps33
  go_wp2_with (refine gate 8 ?_)
  refine ⟨goesF 8 Tryz.func70 ((markIntS_calls _ lo _ ns k0 (pw_own_below hO1'.out hb.out) (by omega) (by omega)).mono ?_)⟩
  rintro e w1 ⟨rfl, hM1, hE1⟩
  refine ⟨_, rfl, ?_⟩
  have hk1 := Aside0.mk (blk_ex hE1 hL.out (fun e => by have := own_lt hO1'.out _ e.symm; omega))
  have hM2 := Aside0.mk (own_ex (pw_own_below hO2'.out hb.out) hE1 (fun i h1 h2 => hAp'.out i h2.symm h1))
  have hE1' := Aside0.mk hE1
  have hM1' := Aside0.mk hM1
  have hc1 := blk_cell hk1.out
  clear hM1 hE1
  go_wp2_with (refine gate 12 ?_)
  refine ⟨goesF 12 Tryz.func70 ((markIntS_calls _ lo _ vs (k0 + ns.length) hM2.out (by omega) (by omega)).mono ?_)⟩
  rintro e w2 ⟨rfl, hM3, hE2⟩
  refine ⟨_, rfl, ?_⟩
  have hM3' := Aside0.mk hM3
  have hE2' := Aside0.mk hE2
  clear hM3 hE2
  go_wp2
  go_ret
  refine ⟨ret_int (by omega), ⟨_, _, rfl, ?_, ?_, markI_inR _ _ (by omega) (by omega), markI_inR _ _ (by omega) (by omega), hAp'.out, hh1'.out, hh2'.out⟩, ?_⟩
  · exact own_ex hM1'.out hE2'.out (fun i h1 h2 => hAp'.out i h1 h2.symm)
  · exact hM3'.out
  · refine ((Ex.of_on (S := fun b => lo ≤ b ∧ b < hi) hb.out).trans hE1'.out (fun i _ e => ⟨own_base hO1'.out i e.symm, hh1'.out i e.symm⟩)).trans hE2'.out (fun i _ e => ⟨own_base hO2'.out i e.symm, hh2'.out i e.symm⟩)
theorem toSp_calls (w : World) (v : Value) (ns vs : List Int) (h : RSu w v ns vs) (hl : ns.length + vs.length ≤ 1048576) : Calls Tryz.prog 30 #[v] w (Got fun v w' => OSp w' w.heap.size v ns vs ∧ On w w') := by
  obtain ⟨A, c, B, d, rfl, k0, k1⟩ := h.out
  refine (toSubstitution_calls w A c B d ns vs k0 k1 (by omega) (by omega)).mono fun e w' hh => ?_
  obtain ⟨v, rfl, v1, v2, rfl, hO, hO2, hA, hb⟩ := hh
  exact ⟨_, rfl, ⟨v1, v2, rfl, hO, hO2, k0.2.2, k1.2.2, hA⟩, hb⟩
end Go.Proofs.YtngjhblbpapjeaaGreat.H
