/- Walks and plain laws for the law FnSubstitutions, part 6 of 7: the texts HG4, HG4s, HG7, HG8, HF15, HG24, HU1, HU2, HT2, HT3, HT5, HT6 in one. No condition. -/
import Derived.Test.YtgemaohdlibboaaGreatDoorWZeros
import Derived.Test.YtgemaohdlibboaaGreatDoorZFnSubstitutions5
/- Walks: the draws of instances. What is told: sizes and ranges. No condition. -/
namespace Go.Proofs.YtgemaohdlibboaaGreatDoor.H
open Go Go.RowKit Go.Proofs.YtgemaohdlibboaaGreatDoorW.PrintWords Go.Proofs.YtgemaohdlibboaaGreatDoorW.PrintLast
open Go.Proofs.YtgemaohdlibboaaGreatDoor.Reg (On on_draw)
set_option maxHeartbeats 4000000
set_option maxRecDepth 100000
set_option linter.unusedVariables false
set_option linter.unusedSimpArgs false

theorem putF_le (l : List Fct) (x : Fct) : (putF l x).length ≤ l.length + 1 := by
  induction l with
  | nil => simp [putF]
  | cons y r ih => unfold putF; split <;> (try split) <;> simp <;> omega
theorem RS.start {S : Nat → Prop} {w : World} {lo : Nat} {A : Option Addr} {n c : Nat} {rs : List Rel} (h : OR w lo (.slice A n c) rs) (hS : ∀ b, lo ≤ b → b < w.heap.size → ¬ S b) : RS S w (.agg #[.slice A n c, .slice none 0 0]) rs [] := by
  obtain rfl := (OR.same h).1
  refine ⟨A, c, none, 0, [], rfl, fun w' k => ?_⟩
  have h3 := own_ex h k (fun i hi e => hS i (own_base h i hi) (own_lt h i hi) e)
  exact ⟨(OR.same h3).2, (OH.rh (World.ownsRow_nil w' 0 60 2 : OH w' 0 (.slice none 0 0) [])).2, Reads.nil _⟩
theorem RS.parts {S : Nat → Prop} {w : World} {A0 A1 : Option Addr} {n0 n1 c0 c1 : Nat} {rs : List Rel} {fs : List Fct} (h : RS S w (.agg #[.slice A0 n0 c0, .slice A1 n1 c1]) rs fs) : n0 = rs.length ∧ n1 = fs.length ∧ ∃ hs, ∀ w', Ex S w w' → Rels w' A0 c0 rs ∧ RH w' A1 c1 hs ∧ Reads w' hs fs := by
  obtain ⟨B0, d0, B1, d1, hs, e, h⟩ := h.out
  injection e with e
  have e' := congrArg Array.toList e
  simp only [List.cons.injEq, Value.slice.injEq, and_true] at e'
  obtain ⟨⟨rfl, rfl, rfl⟩, rfl, rfl, rfl⟩ := e'
  exact ⟨rfl, rfl, hs, h⟩
theorem l5Target_calls (w0 w : World) (q : Nat) (hC : Cu w0 w q) (a : Int) (ha0 : 0 ≤ a) (ha1 : a ≤ 200) (m : Int) (h0 : 0 ≤ m) (h2 : m ≤ 256) :
    Calls Tryz.prog 136 #[.pointer (some ⟨q, 0, none⟩), .int .i64 a, .int .i64 m] w (Dr w0 w q fun v w' => ∃ fs, OIn w' w.heap.size v sigs fs ∧ Asc fs ∧ (fs.length : Int) ≤ a ∧ ∀ f ∈ fs, f.2.length ≤ 2) := by
  have hC' := Aside0.mk hC
  have hqw := Aside0.mk hC.lt
  have hq0 := Aside0.mk hC.lo
  have hA' := Aside0.mk (And.intro ha0 ha1)
  have hm' := Aside0.mk (And.intro h0 h2)
  have hb0 := Aside0.mk (On.alloc (On.refl w) (.cells #[.slice none 0 0, .slice none 0 0] 25 (0, 0)))
  have hl0 := Aside0.mk (loc_new w #[.slice none 0 0, .slice none 0 0] 25)
  have hwr : wrap64 (a + 1) = a + 1 := IntWalk.wrap64_in _ (by omega)
  clear hC ha0 ha1 h0 h2
  go_enter Tryz.func136, Tryz.ntmps136
  go_wp2_with (go_at_call 115; refine Stop.out ?_)
  refine ⟨(l3Sigs_calls _).mono ?_⟩
  rintro e w1 ⟨v, rfl, hR, hb1⟩
  obtain ⟨As, cs, rfl⟩ := own_slice hR
  have hR' := Aside0.mk hR
  have hb1' := Aside0.mk hb1
  have hl1 := Aside0.mk (blk_below hl0.out hb1)
  have hsz := Aside0.mk (show w.heap.size + 1 ≤ w1.heap.size by have := blk_lt hl1.out; omega)
  have hfill := alloc_fill w1
  clear hR hb1
  go_wp2_with (go_at_call 138; refine Stop.out ?_)
  refine ⟨?_⟩
  clear hfill
  obtain ⟨wa, hwa⟩ : ∃ wa, w1.alloc (.cells #[.slice As sigs.length cs, .slice none 0 0] 25 (0, 0)) = wa := ⟨_, rfl⟩
  have hsa := Aside0.mk (show wa.heap.size = w1.heap.size + 1 from hwa ▸ by simp)
  have hl8 := Aside0.mk (show wa.heap[w1.heap.size]? = some (.cells #[.slice As sigs.length cs, .slice none 0 0] 25 (0, 0)) from hwa ▸ loc_new w1 _ _)
  have hba := Aside0.mk (show On w1 wa from hwa ▸ On.alloc (On.refl _) _)
  rw [hwa]
  clear hwa
  obtain ⟨g7, hg7⟩ : ∃ g7, w1.heap.size = g7 := ⟨_, rfl⟩
  rw [hg7] at hl8 hsz hsa ⊢
  have hba0 := Aside0.mk (hb0.out.trans (hb1'.out.trans hba.out))
  have hbl := Aside0.mk (show w1.heap.size = g7 from hg7)
  clear hg7
  refine (l1Below_calls w0 _ q (hC'.out.next hba0.out) (a + 1) (by have := hA'.out; omega) (by have := hA'.out; omega)).mono ?_
  rintro e w2 ⟨v, rfl, ⟨c0, rfl, hc0⟩, hC2, hE2⟩
  replace hc0 := Aside0.mk hc0
  have hC2' := Aside0.mk hC2
  have hE2' := Aside0.mk hE2
  have hl2 := Aside0.mk (blk_ex hE2 hl8.out (by have := hqw.out; have := hsz.out; omega))
  have hR2 := Aside0.mk (show RS (fun b => b = q ∨ b = g7) w2 (.agg #[.slice As sigs.length cs, .slice none 0 0]) sigs [] from RS.ex (RS.on (RS.start hR'.out (fun b h1 h2 h3 => by
    have := hqw.out; have := hbl.out; simp at h1; omega)) hba.out) (hE2.mono fun _ h => .inl h))
  clear hC2 hE2
  go_wp2
  go_loopw [8] (fun v8 wr => ∃ (c : Nat) (fs : List Fct) (A0 : Option Addr) (d0 : Nat) (A1 : Option Addr) (d1 : Nat), v8 = .int .i64 c ∧ wr.heap[g7]? = some (.cells #[.slice A0 sigs.length d0, .slice A1 fs.length d1] 25 (0, 0)) ∧ RS (fun b => b = q ∨ b = g7) wr (.agg #[.slice A0 sigs.length d0, .slice A1 fs.length d1]) sigs fs ∧ Asc fs ∧ (fs.length : Int) + (c : Int) ≤ a ∧ (∀ f ∈ fs, f.2.length ≤ 2) ∧ Cu w0 wr q ∧ Ex (fun b => b = q) w wr ∧ Ex (fun b => b = q ∨ b = g7) wa wr) (fun v8 _ => (intOf v8).toNat)
  case atStart => exact ⟨c0.toNat, [], As, cs, none, 0, by have := hc0.out; congr 1; omega, hl2.out, hR2.out, List.Pairwise.nil, by have := hc0.out; have := hA'.out; simp; omega, fun _ h => absurd h (by simp), hC2'.out, (Ex.of_on (S := fun b => b = q) hba0.out).trans hE2'.out fun _ _ h => h, hE2'.out.mono fun _ h => .inl h⟩
  case round =>
    obtain ⟨c, fs, A0, d0, A1, d1, rfl, hb7, hR, ha, hl, hl2, hC, hE, hEa⟩ := hrel
    have hb7' := Aside0.mk hb7
    have hRa := Aside0.mk hR
    have ha' := Aside0.mk ha
    have hl' := Aside0.mk hl
    have hl2' := Aside0.mk hl2
    have hC1 := Aside0.mk hC
    have hE' := Aside0.mk hE
    have hEa' := Aside0.mk hEa
    have hd0 := blk_cell hb7 0
    have hd1 := blk_cell hb7 1
    clear hb7 hR ha hl hl2 hC hE hEa
    by_cases hc : 0 < c
    · have hc' := Aside0.mk hc
      have hcb : decide ((0 : Int) < (c : Int)) = true := decide_eq_true (by omega)
      have hcn : decide (0 < c) = true := decide_eq_true hc
      clear hc
      go_wp2
      refine Reg.regionG (fun w' => w'.heap[g7]? = some (.cells #[.slice A0 sigs.length d0, .slice A1 fs.length d1] 25 (0, 0))) [0,1,2,5] [3,4,6,7,8] 8 (by kernel_rfl) (by kernel_rfl) hb7'.out ?_
      repeat refine Reg.sG ?_
      refine Reg.startG ?_
      obtain ⟨w3, hw3⟩ : ∃ w3, ({ wr with drawn := wr.drawn + 1 } : World) = w3 := ⟨_, rfl⟩
      have hS3 := Aside0.mk (show On wr w3 from (hw3 ▸ on_draw wr))
      rw [hw3]
      clear hw3 hd0 hd1
      refine Reg.tG ?_
      go_wp2_with (go_at_call 138; refine Stop.out ?_)
      refine ⟨(l1Below_calls w0 _ q (hC1.out.next hS3.out) 3 (by omega) (by omega)).mono ?_⟩
      rintro e w4 ⟨v, rfl, ⟨x, rfl, hx⟩, hC4, hE4⟩
      obtain ⟨y, rfl⟩ := Int.eq_ofNat_of_zero_le hx.1
      obtain ⟨k, hk⟩ : ∃ k, 2 + y = k := ⟨_, rfl⟩
      have hkb := Aside0.mk (show k < 5 by omega)
      have hw2 : wrap64 (2 + (y : Int)) = (k : Int) := by rw [IntWalk.wrap64_in _ (by omega)]; omega
      have hC4' := Aside0.mk hC4
      have hE4' := Aside0.mk ((Ex.of_on (S := fun b => b = q) hS3.out).trans hE4 fun _ _ h => h)
      have hb4 := Aside0.mk (blk_ex hE4'.out hb7'.out (by have := hqw.out; have := hsz.out; omega))
      clear hC4 hE4 hx hk
      go_wp2
      refine ⟨hb4.out, ?_⟩
      refine Reg.tG ?_
      go_wp2
      refine ⟨hb4.out, ?_⟩
      refine Reg.tG ?_
      go_wp2_with (go_at_call 170; refine Stop.out ?_)
      refine ⟨(l4Fact_calls w0 _ q hC4'.out k hkb.out m hm'.out.1 hm'.out.2).mono ?_⟩
      rintro e w5 ⟨v, rfl, ⟨f, hO5, hf1, hf2⟩, hC5, hE5⟩
      obtain ⟨v5, rfl, hO5, hI5⟩ := hO5.out
      obtain ⟨A5, c5, rfl⟩ := own_slice hO5
      have hI5' := Aside0.mk (OI.same hO5 hI5).2
      have hf2' := Aside0.mk (show f.2.length ≤ 2 by rw [hf2]; exact (arN_in k).2)
      have hC5' := Aside0.mk hC5
      have hE5' := Aside0.mk (hE4'.out.trans hE5 fun _ _ h => h)
      have hb5 := Aside0.mk (blk_ex hE5'.out hb7'.out (by have := hqw.out; have := hsz.out; omega))
      clear hC5 hE5 hf1 hf2 hO5 hI5
      go_wp2
      refine ⟨hb5.out, ?_⟩
      refine Reg.tG ?_
      go_wp2_with (go_at_call 81; refine Stop.out ?_)
      obtain ⟨_, _, hs, hall⟩ := (RS.ex hRa.out (hE5'.out.mono fun _ h => .inl h)).parts
      refine ⟨(l5PutS_calls (fun b => b = q ∨ b = g7) _ A0 d0 A1 d1 hs sigs fs hall (fun b hb => by have := blk_lt hb5.out; have := hC5'.out.lt; rcases hb with h | h <;> omega) A5 c5 f hI5'.out (by have := hl'.out; have := hA'.out; omega) (by have := hf2'.out; omega) ha'.out).mono ?_⟩
      rintro e w6 ⟨v6, rfl, hR6, hb6⟩
      obtain ⟨fs', hfs⟩ : ∃ fs', putF fs f = fs' := ⟨_, rfl⟩
      rw [hfs] at hR6
      have hR6' := Aside0.mk hR6
      obtain ⟨B0, e0, B1, e1, hs', rfl, -⟩ := hR6.out
      have ha6 := Aside0.mk (show Asc fs' from hfs ▸ putF_asc f fs ha'.out)
      have hl6 := Aside0.mk (show fs'.length ≤ fs.length + 1 from hfs ▸ putF_le fs f)
      have hm6 := Aside0.mk (show ∀ g ∈ fs', g.2.length ≤ 2 by
        rw [← hfs]; intro g hg; rcases (mem_putF f g fs).1 hg with rfl | h
        · exact hf2'.out
        · exact hl2'.out g h)
      have hb6' := Aside0.mk hb6
      have hbl6 := Aside0.mk (blk_below hb5.out hb6)
      have hcr := blk_cell hbl6.out
      have hfr := blk_frozen hbl6.out
      clear hR6 hfs hb6
      go_wp2
      refine ⟨hbl6.out, ?_⟩
      refine Reg.tE ?_
      go_wp2
      have EE := (Ex.set w6 ⟨g7, 0, none⟩ (.slice B0 sigs.length e0)).trans (Ex.set _ ⟨g7, 1, none⟩ (.slice B1 fs'.length e1)) (fun _ _ h => h)
      have hwc : wrap64 ((c : Int) - 1) = ((c - 1 : Nat) : Int) := by have := hc'.out; have := hl'.out; have := hA'.out; rw [IntWalk.wrap64_in _ (by omega)]; omega
      have hs1 := hsz.out
      have hq1 := hqw.out
      have hq2 := hq0.out
      refine ⟨⟨c - 1, fs', B0, e0, B1, e1, by rw [hwc], blk_set (blk_set hbl6.out 0 _) 1 _, RS.ex hR6'.out (EE.mono fun _ h => .inr h), ha6.out, by have := hc'.out; have := hl'.out; have := hA'.out; have := hl6.out; omega, hm6.out,
        (hC5'.out.next hb6'.out).ex EE (fun b hb => by have e' : b = g7 := hb; omega), ((hE'.out.trans hE5'.out fun _ _ h => h).then_on hb6'.out).trans EE (fun i hi h => by have e' : i = g7 := h; omega),
        ((hEa'.out.trans hE5'.out fun _ _ h => .inl h).then_on hb6'.out).trans EE (fun i hi h => .inr h)⟩, ?_⟩
      rw [hwc]
      have := hc'.out
      simp [intOf]
      omega
    · have hcb : decide ((0 : Int) < (c : Int)) = false := decide_eq_false (by omega)
      have hcn : decide (0 < c) = false := decide_eq_false hc
      clear hc
      go_wp2_with (go_at_call 69; refine Stop.out ?_)
      obtain ⟨_, _, hs, hall⟩ := hRa.out.parts
      obtain ⟨h1, h2, h3⟩ := hall wr (Ex.refl _ _)
      refine ⟨(l5Copy_calls _ A0 d0 A1 d1 sigs fs h1 (h2.fcts h3) (by show (5 : Nat) ≤ _; omega) (by have := hl'.out; have := hA'.out; omega) (fun f hf => by have := hl2'.out f hf; omega)).mono ?_⟩
      rintro e w7 ⟨v7, rfl, hI0, hb7x⟩
      obtain ⟨a1, a2, a3, a4, a5, a6, rfl⟩ := hI0.read.shape
      have hI := Aside0.mk hI0
      have hb7a := Aside0.mk hb7x
      have hr7 := Aside0.mk (blk_below (blk_ex hEa'.out (blk_below hl1.out hba.out) (by have := hqw.out; have := hsz.out; omega)) hb7x)
      have hd0 := blk_cell hr7.out
      have hfr := blk_frozen hr7.out
      clear hI0 hb7x h1 h2 h3 hall
      go_wp2
      refine bodyPost_ret (retI rfl rfl (g := w.heap.size) (blk_set (blk_set hr7.out 0 _) 1 _) rfl) rfl ?_
      have EE := (Ex.set w7 ⟨w.heap.size, 0, none⟩ (.slice a1 a2 a3)).trans (Ex.set _ ⟨w.heap.size, 1, none⟩ (.slice a4 a5 a6)) (fun _ _ h => h)
      have hlo : w.heap.size < wr.heap.size := blk_lt (blk_ex hEa'.out (blk_below hl1.out hba.out) (by have := hqw.out; have := hsz.out; omega))
      have hq1 := hqw.out
      have hq2 := hq0.out
      exact ⟨_, rfl, ⟨fs, OIn.lower (OIn.set (OIn.set hI.out hlo _) hlo _) (Nat.le_of_lt hlo), ha'.out, by have := hl'.out; have := hA'.out; omega, hl2'.out⟩,
        (hC1.out.next hb7a.out).ex EE (fun b hb => by have e' : b = w.heap.size := hb; omega), (hE'.out.then_on hb7a.out).trans EE (fun i hi h => by have e' : i = w.heap.size := h; omega)⟩
end Go.Proofs.YtgemaohdlibboaaGreatDoor.H
/- Walks: the draws of instances, once more. What is told: sizes and ranges. No condition. -/
namespace Go.Proofs.YtgemaohdlibboaaGreatDoor.H
open Go Go.RowKit Go.Proofs.YtgemaohdlibboaaGreatDoorW.PrintWords Go.Proofs.YtgemaohdlibboaaGreatDoorW.PrintLast
open Go.Proofs.YtgemaohdlibboaaGreatDoor.Reg (On on_draw)
set_option maxHeartbeats 4000000
set_option maxRecDepth 100000
set_option linter.unusedVariables false
set_option linter.unusedSimpArgs false

theorem l5Source_calls (w0 w : World) (q : Nat) (hC : Cu w0 w q) (a : Int) (ha0 : 0 ≤ a) (ha1 : a ≤ 200) :
    Calls Tryz.prog 137 #[.pointer (some ⟨q, 0, none⟩), .int .i64 a] w (Dr w0 w q fun v w' => ∃ fs, OIn w' w.heap.size v sigs fs ∧ Asc fs ∧ (fs.length : Int) ≤ a ∧ ∀ f ∈ fs, f.2.length ≤ 2) := by
  have hC' := Aside0.mk hC
  have hqw := Aside0.mk hC.lt
  have hq0 := Aside0.mk hC.lo
  have hA' := Aside0.mk (And.intro ha0 ha1)
  have hb0 := Aside0.mk (On.alloc (On.refl w) (.cells #[.slice none 0 0, .slice none 0 0] 25 (0, 0)))
  have hl0 := Aside0.mk (loc_new w #[.slice none 0 0, .slice none 0 0] 25)
  have hwr : wrap64 (a + 1) = a + 1 := IntWalk.wrap64_in _ (by omega)
  clear hC ha0 ha1
  go_enter Tryz.func137, Tryz.ntmps137
  go_wp2_with (go_at_call 115; refine Stop.out ?_)
  refine ⟨(l3Sigs_calls _).mono ?_⟩
  rintro e w1 ⟨v, rfl, hR, hb1⟩
  obtain ⟨As, cs, rfl⟩ := own_slice hR
  have hR' := Aside0.mk hR
  have hb1' := Aside0.mk hb1
  have hl1 := Aside0.mk (blk_below hl0.out hb1)
  have hsz := Aside0.mk (show w.heap.size + 1 ≤ w1.heap.size by have := blk_lt hl1.out; omega)
  have hfill := alloc_fill w1
  clear hR hb1
  go_wp2_with (go_at_call 138; refine Stop.out ?_)
  refine ⟨?_⟩
  clear hfill
  obtain ⟨wa, hwa⟩ : ∃ wa, w1.alloc (.cells #[.slice As sigs.length cs, .slice none 0 0] 25 (0, 0)) = wa := ⟨_, rfl⟩
  have hsa := Aside0.mk (show wa.heap.size = w1.heap.size + 1 from hwa ▸ by simp)
  have hl8 := Aside0.mk (show wa.heap[w1.heap.size]? = some (.cells #[.slice As sigs.length cs, .slice none 0 0] 25 (0, 0)) from hwa ▸ loc_new w1 _ _)
  have hba := Aside0.mk (show On w1 wa from hwa ▸ On.alloc (On.refl _) _)
  rw [hwa]
  clear hwa
  obtain ⟨g7, hg7⟩ : ∃ g7, w1.heap.size = g7 := ⟨_, rfl⟩
  rw [hg7] at hl8 hsz hsa ⊢
  have hba0 := Aside0.mk (hb0.out.trans (hb1'.out.trans hba.out))
  have hbl := Aside0.mk (show w1.heap.size = g7 from hg7)
  clear hg7
  refine (l1Below_calls w0 _ q (hC'.out.next hba0.out) (a + 1) (by have := hA'.out; omega) (by have := hA'.out; omega)).mono ?_
  rintro e w2 ⟨v, rfl, ⟨c0, rfl, hc0⟩, hC2, hE2⟩
  replace hc0 := Aside0.mk hc0
  have hC2' := Aside0.mk hC2
  have hE2' := Aside0.mk hE2
  have hl2 := Aside0.mk (blk_ex hE2 hl8.out (by have := hqw.out; have := hsz.out; omega))
  have hR2 := Aside0.mk (show RS (fun b => b = q ∨ b = g7) w2 (.agg #[.slice As sigs.length cs, .slice none 0 0]) sigs [] from RS.ex (RS.on (RS.start hR'.out (fun b h1 h2 h3 => by
    have := hqw.out; have := hbl.out; simp at h1; omega)) hba.out) (hE2.mono fun _ h => .inl h))
  clear hC2 hE2
  go_wp2
  go_loopw [6] (fun v8 wr => ∃ (c : Nat) (fs : List Fct) (A0 : Option Addr) (d0 : Nat) (A1 : Option Addr) (d1 : Nat), v8 = .int .i64 c ∧ wr.heap[g7]? = some (.cells #[.slice A0 sigs.length d0, .slice A1 fs.length d1] 25 (0, 0)) ∧ RS (fun b => b = q ∨ b = g7) wr (.agg #[.slice A0 sigs.length d0, .slice A1 fs.length d1]) sigs fs ∧ Asc fs ∧ (fs.length : Int) + (c : Int) ≤ a ∧ (∀ f ∈ fs, f.2.length ≤ 2) ∧ Cu w0 wr q ∧ Ex (fun b => b = q) w wr ∧ Ex (fun b => b = q ∨ b = g7) wa wr) (fun v8 _ => (intOf v8).toNat)
  case atStart => exact ⟨c0.toNat, [], As, cs, none, 0, by have := hc0.out; congr 1; omega, hl2.out, hR2.out, List.Pairwise.nil, by have := hc0.out; have := hA'.out; simp; omega, fun _ h => absurd h (by simp), hC2'.out, (Ex.of_on (S := fun b => b = q) hba0.out).trans hE2'.out fun _ _ h => h, hE2'.out.mono fun _ h => .inl h⟩
  case round =>
    obtain ⟨c, fs, A0, d0, A1, d1, rfl, hb7, hR, ha, hl, hl2, hC, hE, hEa⟩ := hrel
    have hb7' := Aside0.mk hb7
    have hRa := Aside0.mk hR
    have ha' := Aside0.mk ha
    have hl' := Aside0.mk hl
    have hl2' := Aside0.mk hl2
    have hC1 := Aside0.mk hC
    have hE' := Aside0.mk hE
    have hEa' := Aside0.mk hEa
    have hd0 := blk_cell hb7 0
    have hd1 := blk_cell hb7 1
    clear hb7 hR ha hl hl2 hC hE hEa
    by_cases hc : 0 < c
    · have hc' := Aside0.mk hc
      have hcb : decide ((0 : Int) < (c : Int)) = true := decide_eq_true (by omega)
      have hcn : decide (0 < c) = true := decide_eq_true hc
      clear hc
      go_wp2
      refine Reg.regionG (fun w' => w'.heap[g7]? = some (.cells #[.slice A0 sigs.length d0, .slice A1 fs.length d1] 25 (0, 0))) [0,1,2] [3,4,5,6] 6 (by kernel_rfl) (by kernel_rfl) hb7'.out ?_
      repeat refine Reg.sG ?_
      refine Reg.startG ?_
      obtain ⟨w3, hw3⟩ : ∃ w3, ({ wr with drawn := wr.drawn + 1 } : World) = w3 := ⟨_, rfl⟩
      have hS3 := Aside0.mk (show On wr w3 from (hw3 ▸ on_draw wr))
      rw [hw3]
      clear hw3 hd0 hd1
      refine Reg.tG ?_
      go_wp2_with (go_at_call 138; refine Stop.out ?_)
      refine ⟨(l1Below_calls w0 _ q (hC1.out.next hS3.out) 2 (by omega) (by omega)).mono ?_⟩
      rintro e w4 ⟨v, rfl, ⟨x, rfl, hx⟩, hC4, hE4⟩
      obtain ⟨y, rfl⟩ := Int.eq_ofNat_of_zero_le hx.1
      have hkb := Aside0.mk (show y < 5 by omega)
      have hC4' := Aside0.mk hC4
      have hE4' := Aside0.mk ((Ex.of_on (S := fun b => b = q) hS3.out).trans hE4 fun _ _ h => h)
      have hb4 := Aside0.mk (blk_ex hE4'.out hb7'.out (by have := hqw.out; have := hsz.out; omega))
      clear hC4 hE4 hx
      go_wp2
      refine ⟨hb4.out, ?_⟩
      refine Reg.tG ?_
      go_wp2_with (go_at_call 170; refine Stop.out ?_)
      refine ⟨(l4Fact_calls w0 _ q hC4'.out y hkb.out 0 (by omega) (by omega)).mono ?_⟩
      rintro e w5 ⟨v, rfl, ⟨f, hO5, hf1, hf2⟩, hC5, hE5⟩
      obtain ⟨v5, rfl, hO5, hI5⟩ := hO5.out
      obtain ⟨A5, c5, rfl⟩ := own_slice hO5
      have hI5' := Aside0.mk (OI.same hO5 hI5).2
      have hf2' := Aside0.mk (show f.2.length ≤ 2 by rw [hf2]; exact (arN_in _).2)
      have hC5' := Aside0.mk hC5
      have hE5' := Aside0.mk (hE4'.out.trans hE5 fun _ _ h => h)
      have hb5 := Aside0.mk (blk_ex hE5'.out hb7'.out (by have := hqw.out; have := hsz.out; omega))
      clear hC5 hE5 hf1 hf2 hO5 hI5
      go_wp2
      refine ⟨hb5.out, ?_⟩
      refine Reg.tG ?_
      go_wp2_with (go_at_call 81; refine Stop.out ?_)
      obtain ⟨_, _, hs, hall⟩ := (RS.ex hRa.out (hE5'.out.mono fun _ h => .inl h)).parts
      refine ⟨(l5PutS_calls (fun b => b = q ∨ b = g7) _ A0 d0 A1 d1 hs sigs fs hall (fun b hb => by have := blk_lt hb5.out; have := hC5'.out.lt; rcases hb with h | h <;> omega) A5 c5 f hI5'.out (by have := hl'.out; have := hA'.out; omega) (by have := hf2'.out; omega) ha'.out).mono ?_⟩
      rintro e w6 ⟨v6, rfl, hR6, hb6⟩
      obtain ⟨fs', hfs⟩ : ∃ fs', putF fs f = fs' := ⟨_, rfl⟩
      rw [hfs] at hR6
      have hR6' := Aside0.mk hR6
      obtain ⟨B0, e0, B1, e1, hs', rfl, -⟩ := hR6.out
      have ha6 := Aside0.mk (show Asc fs' from hfs ▸ putF_asc f fs ha'.out)
      have hl6 := Aside0.mk (show fs'.length ≤ fs.length + 1 from hfs ▸ putF_le fs f)
      have hm6 := Aside0.mk (show ∀ g ∈ fs', g.2.length ≤ 2 by
        rw [← hfs]; intro g hg; rcases (mem_putF f g fs).1 hg with rfl | h
        · exact hf2'.out
        · exact hl2'.out g h)
      have hb6' := Aside0.mk hb6
      have hbl6 := Aside0.mk (blk_below hb5.out hb6)
      have hcr := blk_cell hbl6.out
      have hfr := blk_frozen hbl6.out
      clear hR6 hfs hb6
      go_wp2
      refine ⟨hbl6.out, ?_⟩
      refine Reg.tE ?_
      go_wp2
      have EE := (Ex.set w6 ⟨g7, 0, none⟩ (.slice B0 sigs.length e0)).trans (Ex.set _ ⟨g7, 1, none⟩ (.slice B1 fs'.length e1)) (fun _ _ h => h)
      have hwc : wrap64 ((c : Int) - 1) = ((c - 1 : Nat) : Int) := by have := hc'.out; have := hl'.out; have := hA'.out; rw [IntWalk.wrap64_in _ (by omega)]; omega
      have hs1 := hsz.out
      have hq1 := hqw.out
      have hq2 := hq0.out
      refine ⟨⟨c - 1, fs', B0, e0, B1, e1, by rw [hwc], blk_set (blk_set hbl6.out 0 _) 1 _, RS.ex hR6'.out (EE.mono fun _ h => .inr h), ha6.out, by have := hc'.out; have := hl'.out; have := hA'.out; have := hl6.out; omega, hm6.out,
        (hC5'.out.next hb6'.out).ex EE (fun b hb => by have e' : b = g7 := hb; omega), ((hE'.out.trans hE5'.out fun _ _ h => h).then_on hb6'.out).trans EE (fun i hi h => by have e' : i = g7 := h; omega),
        ((hEa'.out.trans hE5'.out fun _ _ h => .inl h).then_on hb6'.out).trans EE (fun i hi h => .inr h)⟩, ?_⟩
      rw [hwc]
      have := hc'.out
      simp [intOf]
      omega
    · have hcb : decide ((0 : Int) < (c : Int)) = false := decide_eq_false (by omega)
      have hcn : decide (0 < c) = false := decide_eq_false hc
      clear hc
      go_wp2_with (go_at_call 69; refine Stop.out ?_)
      obtain ⟨_, _, hs, hall⟩ := hRa.out.parts
      obtain ⟨h1, h2, h3⟩ := hall wr (Ex.refl _ _)
      refine ⟨(l5Copy_calls _ A0 d0 A1 d1 sigs fs h1 (h2.fcts h3) (by show (5 : Nat) ≤ _; omega) (by have := hl'.out; have := hA'.out; omega) (fun f hf => by have := hl2'.out f hf; omega)).mono ?_⟩
      rintro e w7 ⟨v7, rfl, hI0, hb7x⟩
      obtain ⟨a1, a2, a3, a4, a5, a6, rfl⟩ := hI0.read.shape
      have hI := Aside0.mk hI0
      have hb7a := Aside0.mk hb7x
      have hr7 := Aside0.mk (blk_below (blk_ex hEa'.out (blk_below hl1.out hba.out) (by have := hqw.out; have := hsz.out; omega)) hb7x)
      have hd0 := blk_cell hr7.out
      have hfr := blk_frozen hr7.out
      clear hI0 hb7x h1 h2 h3 hall
      go_wp2
      refine bodyPost_ret (retI rfl rfl (g := w.heap.size) (blk_set (blk_set hr7.out 0 _) 1 _) rfl) rfl ?_
      have EE := (Ex.set w7 ⟨w.heap.size, 0, none⟩ (.slice a1 a2 a3)).trans (Ex.set _ ⟨w.heap.size, 1, none⟩ (.slice a4 a5 a6)) (fun _ _ h => h)
      have hlo : w.heap.size < wr.heap.size := blk_lt (blk_ex hEa'.out (blk_below hl1.out hba.out) (by have := hqw.out; have := hsz.out; omega))
      have hq1 := hqw.out
      have hq2 := hq0.out
      exact ⟨_, rfl, ⟨fs, OIn.lower (OIn.set (OIn.set hI.out hlo _) hlo _) (Nat.le_of_lt hlo), ha'.out, by have := hl'.out; have := hA'.out; omega, hl2'.out⟩,
        (hC1.out.next hb7a.out).ex EE (fun b hb => by have e' : b = w.heap.size := hb; omega), (hE'.out.then_on hb7a.out).trans EE (fun i hi h => by have e' : i = w.heap.size := h; omega)⟩
end Go.Proofs.YtgemaohdlibboaaGreatDoor.H
/- Walks: the draw of any instance. What is told: sizes and ranges. No condition. -/
namespace Go.Proofs.YtgemaohdlibboaaGreatDoor.H
open Go Go.RowKit Go.Proofs.YtgemaohdlibboaaGreatDoorW.PrintWords Go.Proofs.YtgemaohdlibboaaGreatDoorW.PrintLast
open Go.Proofs.YtgemaohdlibboaaGreatDoor.Reg (On on_draw)
set_option maxHeartbeats 4000000
set_option maxRecDepth 100000
set_option linter.unusedVariables false
set_option linter.unusedSimpArgs false

/-- An own instance none of whose blocks is g. -/
structure IW (g lo : Nat) (w : World) (vr vf : Value) (rs : List Rel) (hs : List Hdr) (fs : List Fct) : Prop where
  r : OR w lo vr rs
  f : OH w lo vf hs
  s : Sep w lo hs fs
  nr : ∀ b, vr.ownBlock = some b → b ≠ g
  nf : ∀ b, vf.ownBlock = some b → b ≠ g
  ns : ∀ (i : Nat) (a : Hdr) (b : Nat), hs[i]? = some a → (hdV a).ownBlock = some b → b ≠ g
theorem IW.of {g lo lo' : Nat} {w : World} {v : Value} {rs : List Rel} {fs : List Fct} (h : OIn w lo' v rs fs) (hl : lo ≤ lo') (hg : w.heap.size ≤ g ∨ g < lo') : ∃ vr vf hs, v = .agg #[vr, vf] ∧ IW g lo w vr vf rs hs fs := by
  obtain ⟨vr, vf, hs, rfl, h0, h1, h2⟩ := h.out
  exact ⟨vr, vf, hs, rfl, own_lower h0 hl, own_lower h1 hl, h2.lower hl, fun b hb => by have := own_base h0 b hb; have := own_lt h0 b hb; omega,
    fun b hb => by have := own_base h1 b hb; have := own_lt h1 b hb; omega, fun i a b ha hb => by have := h2.lt ha hb; omega⟩
theorem IW.ex {g lo : Nat} {S : Nat → Prop} {W w : World} {vr vf : Value} {rs : List Rel} {hs : List Hdr} {fs : List Fct} (h : IW g lo W vr vf rs hs fs) (k : Ex S W w) (hS : ∀ b, S b → b < lo ∨ b = g) : IW g lo w vr vf rs hs fs :=
  ⟨own_ex h.r k (fun i hi e => by have := own_base h.r i hi; have := h.nr i hi; have := hS i e; omega),
   own_ex h.f k (fun i hi e => by have := own_base h.f i hi; have := h.nf i hi; have := hS i e; omega),
   h.s.ex k (fun i a b ha hb e => by have := (h.s.lt ha hb).1; have := h.ns i a b ha hb; have := hS b e; omega), h.nr, h.nf, h.ns⟩
theorem IW.on {g lo : Nat} {W w : World} {vr vf : Value} {rs : List Rel} {hs : List Hdr} {fs : List Fct} (h : IW g lo W vr vf rs hs fs) (k : On W w) : IW g lo w vr vf rs hs fs := h.ex (Ex.of_on (S := fun _ => False) k) fun _ h => h.elim
theorem IW.rs {g lo : Nat} {S : Nat → Prop} {w : World} {vr vf : Value} {rs : List Rel} {hs : List Hdr} {fs : List Fct} (h : IW g lo w vr vf rs hs fs) (hS : ∀ b, S b → b < lo ∨ b = g) : RS S w (.agg #[vr, vf]) rs fs := by
  obtain ⟨A0, c0, rfl, _⟩ := OR.rd h.r
  obtain ⟨A1, c1, rfl⟩ := own_slice h.f
  refine ⟨A0, c0, A1, c1, hs, by rw [h.s.len], fun w' k => ?_⟩
  have h' := h.ex k hS
  exact ⟨(OR.same h'.r).2, (OH.rh h'.f).2, h'.s.reads⟩
theorem RS.mono {S S' : Nat → Prop} {w : World} {v : Value} {rs : List Rel} {fs : List Fct} (h : RS S w v rs fs) (hs : ∀ b, S' b → S b) : RS S' w v rs fs := by
  obtain ⟨A0, c0, A1, c1, hs', e, h⟩ := h.out
  exact ⟨A0, c0, A1, c1, hs', e, fun w' k => h w' (k.mono hs)⟩
theorem drop1 {w : World} {A : Option Addr} {c : Nat} {rs : List Rel} (h : Rels w A c rs) (hl : 1 ≤ rs.length) : Rels w (if c = 1 then A else A.map (·.add (1 * 3))) (c - 1) (rs.drop 1) :=
  ⟨by rw [List.length_drop]; have := h.1; omega, Kd.C_drop (m := 1) (c := c) h.2 hl h.1⟩
theorem own_off {w : World} {lo e sz n g : Nat} {v : Value} {cs : List Value} {ds : Array Value} {t : TypeId} {fr : Nat × Nat} (h : w.ownsRow lo e sz v n cs) (hb : w.heap[g]? = some (.cells ds t fr)) (hne : t ≠ e) : ∀ b, v.ownBlock = some b → b ≠ g := fun b hv hbg => by
  obtain ⟨c, hc⟩ := own_typed h b hv
  subst hbg
  rw [hb] at hc
  injection hc with hc
  injection hc with _ ht
  exact hne ht
theorem Reads.one {w : World} {a : Hdr} {f : Fct} (h1 : a.1 = f.1) (h2 : a.2.2.1 = f.2.length) (h3 : Ints w a.2.1 a.2.2.2 f.2) : Reads w [a] [f] := ⟨rfl, fun i b g hb hg => by
  have hi : i = 0 := by have := (List.getElem?_eq_some_iff.1 hb).1; simp at this; omega
  subst hi
  simp at hb hg
  subst hb hg
  exact ⟨h1, h2, h3⟩⟩
theorem flat_set (rs : List Rel) (k : Nat) (hk : k < rs.length) (r : Rel) : ((((rs.flatMap encR).set (k * 3) (.string r.1)).set (k * 3 + 1) (.int .i64 r.2.1)).set (k * 3 + 2) (.bool r.2.2)) = (rs.set k r).flatMap encR := by
  have e : rs = rs.take k ++ rs[k] :: rs.drop (k + 1) := by rw [List.getElem_cons_drop, List.take_append_drop]
  have h1 : rs.flatMap encR = (rs.take k).flatMap encR ++ (Value.string rs[k].1 :: Value.int .i64 rs[k].2.1 :: Value.bool rs[k].2.2 :: (rs.drop (k + 1)).flatMap encR) := by
    conv => lhs; rw [e]
    rw [List.flatMap_append, List.flatMap_cons]
    rfl
  rw [h1, set3 (k * 3) (by rw [flat_len (enc := encR) (sz := 3) (fun _ => rfl), List.length_take]; omega), List.set_eq_take_append_cons_drop, if_pos hk, List.flatMap_append, List.flatMap_cons]
  rfl
/-- An element of a row of relations stored. -/
theorem OR.setAt {W : World} {lo : Nat} {A : Option Addr} {n c k : Nat} {rs : List Rel} (h : OR W lo (.slice A n c) rs) (hk : k < rs.length) : ∃ g, A = some ⟨g, 0, none⟩ ∧ (Value.slice A n c).ownBlock = some g ∧ (∃ z, W.cell? ⟨g, k * 3, none⟩ = some z) ∧ (∃ z, W.cell? ⟨g, k * 3 + 1, none⟩ = some z) ∧ (∃ z, W.cell? ⟨g, k * 3 + 2, none⟩ = some z) ∧ (∀ j, W.frozen? ⟨g, j, none⟩ = false) ∧
    ∀ r : Rel, OR (((W.setCell ⟨g, k * 3, none⟩ (.string r.1)).setCell ⟨g, k * 3 + 1, none⟩ (.int .i64 r.2.1)).setCell ⟨g, k * 3 + 2, none⟩ (.bool r.2.2)) lo (.slice A n c) (rs.set k r) := by
  have hn := (OR.same h).1
  rcases h.2 with ⟨h', hn0⟩ | ⟨g, cap, cur, h', hg, hh, hnc, hcm, hcs, htk⟩
  · omega
  · injection h' with e1 e2 e3
    subst e1 e2 e3
    refine ⟨g, rfl, rfl, own_some h (k * 3) (by omega), own_some h (k * 3 + 1) (by omega), own_some h (k * 3 + 2) (by omega), fun j => own_frozen h j, fun r => ?_⟩
    have := ((h.stored (k * 3) (.string r.1)).1.stored (k * 3 + 1) (.int .i64 r.2.1)).1.stored (k * 3 + 2) (.bool r.2.2) |>.1
    rw [flat_set rs k hk r] at this
    show World.ownsRow _ _ _ _ _ (rs.set k r).length _
    rw [List.length_set]
    exact this
/-- What l5Any hands back. -/
abbrev AnyI (lo : Nat) (v : Value) (w : World) : Prop := ∃ rs fs, RS (fun b => b < lo) w v rs fs ∧ rs.length ≤ 5 ∧ fs.length ≤ 200 ∧ ∀ f ∈ fs, f.2.length ≤ 3
theorem inst_end {w0 w wz : World} {q : Nat} {A0 A1 : Option Addr} {n0 c0 n1 c1 : Nat} {rz : List Rel} {fz : List Fct} (hqw : q < w.heap.size) (hq0 : w0.heap.size ≤ q) (hR : RS (fun b => b ≤ w.heap.size) wz (.agg #[.slice A0 n0 c0, .slice A1 n1 c1]) rz fz) (hr : rz.length ≤ 5) (hl : fz.length ≤ 200) (hl2 : ∀ f ∈ fz, f.2.length ≤ 3) (hC : Cu w0 wz q) (hE : Ex (fun b => b = q) w wz) :
    Dr w0 w q (AnyI w.heap.size) (.returned (.agg #[.slice A0 n0 c0, .slice A1 n1 c1])) ((wz.setCell ⟨w.heap.size, 0, none⟩ (.slice A0 n0 c0)).setCell ⟨w.heap.size, 1, none⟩ (.slice A1 n1 c1)) := by
  have EE := (Ex.set wz ⟨w.heap.size, 0, none⟩ (.slice A0 n0 c0)).trans (Ex.set _ ⟨w.heap.size, 1, none⟩ (.slice A1 n1 c1)) (fun _ _ h => h)
  exact ⟨_, rfl, ⟨rz, fz, (hR.ex (EE.mono fun _ h => Nat.le_of_eq h)).mono fun _ h => Nat.le_of_lt h, hr, hl, hl2⟩,
    hC.ex EE (fun b hb => by have e' : b = w.heap.size := hb; omega), hE.trans EE (fun i hi h => by have e' : i = w.heap.size := h; omega)⟩
section
variable {ops : Array Oper} {rest : List Oper} {o : Oper} {a : Act} {Q : Exit → Act → World → Prop} {W : World}
/-- A cut of relations: all but the first. -/
theorem slR (N : Tmp) {x y : Operand} {A : Option Addr} {n c k : Nat} (hk : k ≤ n) (hc : n ≤ c) (h : wpList Tryz.prog ops Q rest (a.put (some N) (.slice (if c = k then A else A.map (·.add (k * 3))) (n - k) (c - k))) W)
    (hop : o.op = .slice 22 x (some y) none none := by rfl) (hd : o.dst = some N := by rfl) (hg : o.guard = none := by rfl) (hx : a.eval x = .slice A n c := by rfl) (hy : a.eval y = .int .i64 (k : Int) := by rfl) : wpList Tryz.prog ops Q (o :: rest) a W := by
  obtain ⟨i0, hi0, _, hsz, _⟩ := info_parts infoR
  have hcut := cut_from (P := Tryz.prog) 22 95 .i64 Tryz.underlying22 hi0 3 hsz A n c (k : Int) (by omega) (by omega)
  refine wpList_plain hg fun K hK => ?_
  have hrun : (execOp a.eval o).run Tryz.prog W = .ok (.value (.slice (if c = k then A else A.map (·.add (k * 3))) (n - k) (c - k))) W := by
    unfold execOp
    simp only [hop, hx, hy, Option.map_some, Option.map_none]
    have := hcut W
    simp only [Int.toNat_natCast] at this
    go_simp
  unfold Oper.wp
  rw [hrun]
  refine hK _ _ ?_
  rw [hd]
  exact h
end
end Go.Proofs.YtgemaohdlibboaaGreatDoor.H
/- Walks: the draw of any instance. What is told: sizes and ranges. No condition. -/
namespace Go.Proofs.YtgemaohdlibboaaGreatDoor.H
open Go Go.RowKit Go.Proofs.YtgemaohdlibboaaGreatDoorW.PrintWords Go.Proofs.YtgemaohdlibboaaGreatDoorW.PrintLast
open Go.Proofs.YtgemaohdlibboaaGreatDoor.Reg (On on_draw)
set_option maxHeartbeats 4000000
set_option maxRecDepth 100000
set_option linter.unusedVariables false
set_option linter.unusedSimpArgs false

theorem l5Any_calls (w0 w : World) (q : Nat) (hC : Cu w0 w q) :
    Calls Tryz.prog 63 #[.pointer (some ⟨q, 0, none⟩)] w (Dr w0 w q (AnyI w.heap.size)) := by
  have hC' := Aside0.mk hC
  have hqw := Aside0.mk hC.lt
  have hq0 := Aside0.mk hC.lo
  have hb0 := Aside0.mk (On.alloc (On.refl w) (.cells #[.slice none 0 0, .slice none 0 0] 25 (0, 0)))
  have hl0 := Aside0.mk (loc_new w #[.slice none 0 0, .slice none 0 0] 25)
  clear hC
  go_enter Tryz.func63, Tryz.ntmps63
  go_wp2_with (go_at_call 136; refine Stop.out ?_)
  refine ⟨(l5Target_calls w0 _ q (hC'.out.next hb0.out) 5 (by omega) (by omega) 3 (by omega) (by omega)).mono ?_⟩
  rintro e w1 ⟨v, rfl, ⟨fs, hI, ha, hl, hm⟩, hC1, hE1⟩
  obtain ⟨vr, vf, hs, rfl, hIW⟩ := IW.of (g := w1.heap.size) (lo := w.heap.size + 1) hI (by simp) (.inl (Nat.le_refl _))
  obtain ⟨A0, d0, rfl⟩ := own_slice hIW.r
  obtain ⟨A1, d1, rfl⟩ := own_slice hIW.f
  have hla := Aside0.mk hIW.s.len
  rw [hla.out] at hIW
  have hI1 := Aside0.mk hIW
  have hfa := Aside0.mk ha
  have hfl := Aside0.mk (show fs.length ≤ 5 ∧ ∀ f ∈ fs, f.2.length ≤ 2 from ⟨by omega, hm⟩)
  have hC1' := Aside0.mk hC1
  have hE1' := Aside0.mk ((Ex.of_on (S := fun b => b = q) hb0.out).trans hE1 fun _ _ h => h)
  have hr1 := Aside0.mk (blk_ex hE1 hl0.out (by have := hqw.out; omega))
  rw [hla.out]
  clear hC1 hE1 hI hIW ha hl hm
  have hfill := alloc_fill w1
  go_wp2_with (go_at_call 66; refine Stop.out ?_)
  refine ⟨?_⟩
  clear hfill
  obtain ⟨wa, hwa⟩ : ∃ wa, w1.alloc (.cells #[.slice A0 sigs.length d0, .slice A1 fs.length d1] 25 (0, 0)) = wa := ⟨_, rfl⟩
  have hl3 := Aside0.mk (show wa.heap[w1.heap.size]? = some (.cells #[.slice A0 sigs.length d0, .slice A1 fs.length d1] 25 (0, 0)) from hwa ▸ loc_new w1 _ _)
  have hba := Aside0.mk (show On w1 wa from hwa ▸ On.alloc (On.refl _) _)
  rw [hwa]
  clear hwa
  have hgg := Aside0.mk (show w.heap.size < w1.heap.size from blk_lt hr1.out)
  obtain ⟨g3, hg3⟩ : ∃ g3, w1.heap.size = g3 := ⟨_, rfl⟩
  rw [hg3] at hl3 hgg hI1 ⊢
  clear hg3
  refine (l1Once_calls w0 _ q (hC1'.out.next hba.out) 2 (by omega) (by omega)).mono ?_
  rintro e w2 ⟨v, rfl, ⟨b, rfl⟩, hC2, hE2⟩
  have hC2' := Aside0.mk hC2
  have hE2a := Aside0.mk ((Ex.of_on (S := fun b => b = q) hba.out).trans hE2 fun _ _ h => h)
  have hr2 := Aside0.mk (blk_ex hE2a.out hr1.out (by have := hqw.out; omega))
  have hb2 := Aside0.mk (blk_ex hE2 hl3.out (by have := hqw.out; have := hgg.out; omega))
  have hE2' := Aside0.mk (hE1'.out.trans hE2a.out fun _ _ h => h)
  have hI2 := Aside0.mk (hI1.out.ex hE2a.out fun b hb => .inl (by have := hqw.out; omega))
  clear hC2 hE2
  cases b with
  | false =>
    go_wp2_with (go_at_call 138; refine Stop.out ?_)
    refine ⟨?_⟩
    have hCx := Aside0.mk hC2'.out
    have hIW := Aside0.mk hI2.out
    have hbx := Aside0.mk hb2.out
    have hrx := Aside0.mk hr2.out
    have hEx := Aside0.mk hE2'.out
    have hfl0 := hfl.out
    clear hfl
    have hfl := Aside0.mk (show fs.length ≤ 100 ∧ ∀ f ∈ fs, f.2.length ≤ 3 from ⟨by omega, fun f hf => by have := hfl0.2 f hf; omega⟩)
    clear hfl0
    as_aux_lemma =>
      refine (l1Below_calls w0 _ q hCx.out 14 (by omega) (by omega)).mono ?_
      rintro e w8 ⟨v, rfl, ⟨x, rfl, hx⟩, hC8, hE8⟩
      have hC8' := Aside0.mk hC8
      have hq1 := Aside0.mk (show q < w.heap.size + 1 by have := hqw.out; omega)
      have hI8 := Aside0.mk (hIW.out.ex hE8 fun b hb => .inl (by have := hq1.out; omega))
      have hb8 := Aside0.mk (blk_ex hE8 hbx.out (by have := hqw.out; have := hgg.out; omega))
      have hr8 := Aside0.mk (blk_ex hE8 hrx.out (by have := hqw.out; omega))
      have hE8' := Aside0.mk (hEx.out.trans hE8 fun _ _ h => h)
      have hS3 := Aside0.mk (show ∀ b, (b ≤ w.heap.size ∨ b = g3) → b < w.heap.size + 1 ∨ b = g3 from fun b hb => by have := hqw.out; omega)
      clear hC8 hE8 hx
      have hd0 := blk_cell hb8.out
      have hf0 := blk_frozen hb8.out
      by_cases hx0 : x = 0
      · subst hx0
        go_wp2
        refine Reg.regionG (fun w' => w'.heap[g3]? = some (.cells #[.slice A0 sigs.length d0, .slice A1 fs.length d1] 25 (0, 0))) [0,1,2] [3,4,5,6,7] 7 (by kernel_rfl) (by kernel_rfl) hb8.out ?_
        repeat refine Reg.sG ?_
        refine Reg.startG ?_
        obtain ⟨w9, hw9⟩ : ∃ w9, ({ w8 with drawn := w8.drawn + 1 } : World) = w9 := ⟨_, rfl⟩
        have hS9 := Aside0.mk (show On w8 w9 from (hw9 ▸ on_draw w8))
        rw [hw9]
        clear hw9 hd0 hf0
        refine Reg.tG ?_
        go_wp2_with (go_at_call 116; refine Stop.out ?_)
        refine ⟨(l4Any_calls w0 _ q (hC8'.out.next hS9.out)).mono ?_⟩
        rintro e wa ⟨v, rfl, ⟨f, hO, hf3⟩, hCa, hEa⟩
        obtain ⟨va, rfl, hO, hIr⟩ := hO.out
        obtain ⟨Aa, ca, rfl⟩ := own_slice hO
        have hlo9 := Aside0.mk (show w.heap.size + 1 ≤ w9.heap.size ∧ g3 < w9.heap.size ∧ q < w9.heap.size from ⟨blk_lt (blk_below hr8.out hS9.out), blk_lt (blk_below hb8.out hS9.out), (hC8'.out.next hS9.out).lt⟩)
        have hOa := Aside0.mk hO
        have hIr' := Aside0.mk hIr
        have hf3' := Aside0.mk hf3
        have hCa' := Aside0.mk hCa
        have hEa' := Aside0.mk ((Ex.of_on (S := fun b => b = q) hS9.out).trans hEa fun _ _ h => h)
        have hba := Aside0.mk (blk_ex hEa'.out hb8.out (by have := hqw.out; have := hgg.out; omega))
        have hra := Aside0.mk (blk_ex hEa'.out hr8.out (by have := hqw.out; omega))
        have hIa := Aside0.mk (hI8.out.ex hEa'.out fun b hb => .inl (by have := hq1.out; omega))
        clear hCa hEa hO hIr hf3
        go_wp2
        refine ⟨hba.out, ?_⟩
        refine Reg.tG ?_
        go_wp2
        obtain ⟨wb, hwb⟩ : ∃ wb, wa.alloc (.cells #[.int .i64 f.1, .slice Aa f.2.length ca] 60 (0, 0)) = wb := ⟨_, rfl⟩
        have hSb := Aside0.mk (show On wa wb from hwb ▸ On.alloc (On.refl _) _)
        have hRb := Aside0.mk (show RH wb (some ⟨wa.heap.size, 0, none⟩) 1 [(f.1, Aa, f.2.length, ca)] from lit_RH (hwb ▸ On.refl _))
        have hIb := Aside0.mk (hIa.out.on hSb.out)
        have hbb := Aside0.mk (blk_below hba.out hSb.out)
        have hrb := Aside0.mk (blk_below hra.out hSb.out)
        try rw [hwb]
        clear hwb
        refine ⟨hbb.out, ?_⟩
        refine Reg.tG ?_
        obtain ⟨zs, hzs⟩ : ∃ zs, hs ++ [((f.1, Aa, f.2.length, ca) : Hdr)] = zs := ⟨_, rfl⟩
        have hhl := Aside0.mk hIb.out.s.len
        refine apH 37 hzs hIb.out.f hRb.out (by have := blk_lt hrb.out; omega) (by have := hhl.out; have := hfl.out.1; simp; omega) (fun v11 w11 hO11 hg11 => ?_)
        have hO11' := Aside0.mk hO11
        have hGr := Aside0.mk (Ex.of_grown hg11)
        have hb11 := Aside0.mk (blk_ex hGr.out hbb.out (fun e => hIb.out.nf _ e.symm rfl))
        have hr11 := Aside0.mk (blk_ex hGr.out hrb.out (fun e => by have := own_base hIb.out.f _ e.symm; omega))
        clear hO11 hg11
        obtain ⟨A11, c11, rfl⟩ := own_slice hO11'.out
        refine ⟨hb11.out, ?_⟩
        have hd6 := blk_cell hb11.out
        have hf6 := blk_frozen hb11.out
        simp only [Act.put, List.setIfInBounds_toArray, List.set_cons_zero, List.set_cons_succ]
        refine Reg.tG ?_
        go_wp2
        refine ⟨hb11.out, ?_⟩
        refine Reg.tE ?_
        have hx11 := Aside0.mk (show (w11.setCell ⟨g3, 1, none⟩ (.slice A11 zs.length c11)).heap[w.heap.size]? = _ from blk_far hr11.out (by show ¬ _; simp; have := hgg.out; omega) _)
        have hy11 := Aside0.mk (blk_set hb11.out 1 (.slice A11 zs.length c11))
        have hd1 := blk_cell hx11.out
        have hf1 := blk_frozen hx11.out
        go_wp2
        refine bodyPost_ret (retI rfl rfl (g := w.heap.size) (blk_set (blk_set hx11.out 0 _) 1 _) rfl) rfl ?_
        have EX := Ex.set w11 ⟨g3, 1, none⟩ (.slice A11 zs.length c11)
        have hb1 := hgg.out
        have hb2 := hqw.out
        have hb3 := hq0.out
        have hb4 := hlo9.out
        have hzl : zs.length = (fs ++ [f]).length := by rw [← hzs]; simp; exact hhl.out
        have hRS : RS (fun b => b ≤ w.heap.size ∨ b = g3) w11 (.agg #[.slice A0 sigs.length d0, .slice A11 zs.length c11]) sigs (fs ++ [f]) := by
          have hIo := own_ex (pw_own_below hOa.out hSb.out) hGr.out (fun i hi e => own_ne_blk (pw_own_below hOa.out hSb.out) hIb.out.f (by decide) hi e.symm)
          refine ⟨A0, d0, A11, c11, zs, by rw [hzl], fun w' k => ⟨?_, ?_, ?_⟩⟩
          · have h1 := own_ex hIb.out.r hGr.out (fun i hi e => own_ne_blk hIb.out.r hIb.out.f (by decide) hi e.symm)
            exact (OR.same (own_ex h1 k (fun i hi e => by have := own_base h1 i hi; have := hIb.out.nr i hi; have := hS3.out i e; omega))).2
          · exact (OH.rh (own_ex hO11'.out k (fun i hi e => by have := own_base hO11'.out i hi; have := own_off hO11'.out hb11.out (by decide) i hi; have := hS3.out i e; omega))).2
          · rw [← hzs]
            refine Reads.append ?_ (Reads.one rfl rfl (OI.same (own_ex hIo k (fun i hi e => by have := own_base hOa.out i hi; omega)) hIr'.out).2)
            have h1 : Sep w11 (w.heap.size + 1) hs fs := hIb.out.s.ex hGr.out (fun i a b ha hb e => by
              have hi : i < fs.length := by rw [← hIb.out.s.len]; exact (List.getElem?_eq_some_iff.1 ha).1
              exact own_ne_blk (hIb.out.s.at_ i a fs[i] ha (List.getElem?_eq_getElem hi)).2.1 hIb.out.f (by decide) hb e.symm)
            exact (h1.ex k (fun i a b ha hb e => by have := (h1.lt ha hb).1; have := hIb.out.ns i a b ha hb; have := hS3.out b e; omega)).reads
        have hCE := ((hCa'.out.next hSb.out).ex hGr.out (fun b hb => by have := own_base hIb.out.f b hb.symm; omega)).ex EX (fun b hb => by have e' : b = g3 := hb; omega)
        have hEE := (((hE8'.out.trans hEa'.out fun _ _ h => h).then_on hSb.out).trans hGr.out (fun i hi h => by have := own_base hIb.out.f i h.symm; omega)).trans EX (fun i hi h => by have e' : i = g3 := h; omega)
        exact inst_end hqw.out hq0.out ((hRS.ex (EX.mono fun _ h => .inr h)).mono fun b h => .inl h) (by show 5 ≤ 5; omega) (by have := hfl.out.1; simp; omega) (fun g hg => (List.mem_append.1 hg).elim (fun h => hfl.out.2 g h) (fun h => by rw [List.mem_singleton.1 h]; exact hf3'.out)) hCE hEE
      · by_cases hx1 : x = 1
        · subst hx1
          obtain ⟨hcA, hRA⟩ := OR.same hI8.out.r
          have hcap := Aside0.mk hRA.1
          go_wp2_with (refine gate 43 ?_)
          refine ⟨slR 43 (k := 1) (A := A0) (n := sigs.length) (c := d0) (by show 1 ≤ 5; omega) hcap.out ?_⟩
          obtain ⟨Ac, hAc⟩ : ∃ Ac, (if d0 = 1 then A0 else A0.map (·.add (1 * 3))) = Ac := ⟨_, rfl⟩
          obtain ⟨dc, hdc⟩ : ∃ dc, d0 - 1 = dc := ⟨_, rfl⟩
          have hRS := Aside0.mk (show RS (fun b => b ≤ w.heap.size ∨ b = g3) w8 (.agg #[.slice Ac (sigs.length - 1) dc, .slice A1 fs.length d1]) (sigs.drop 1) fs from by
            refine ⟨Ac, dc, A1, d1, hs, rfl, fun w' k => ?_⟩
            have h' := hI8.out.ex k hS3.out
            refine ⟨?_, (OH.rh h'.f).2, h'.s.reads⟩
            rw [← hAc, ← hdc]
            exact drop1 (OR.same h'.r).2 (by show 1 ≤ 5; omega))
          rw [hAc, hdc]
          clear hAc hdc hcA hRA
          obtain ⟨m4, hm4⟩ : ∃ m4, sigs.length - 1 = m4 := ⟨_, rfl⟩
          rw [hm4] at hRS ⊢
          clear hm4
          simp only [Act.put, List.setIfInBounds_toArray, List.set_cons_zero, List.set_cons_succ]
          have hx8 := Aside0.mk (show (w8.setCell ⟨g3, 0, none⟩ (.slice Ac m4 dc)).heap[w.heap.size]? = _ from blk_far hr8.out (by show ¬ _; simp; have := hgg.out; omega) _)
          have hd1 := blk_cell hx8.out
          have hf1 := blk_frozen hx8.out
          go_wp2
          refine bodyPost_ret (retI rfl rfl (g := w.heap.size) (blk_set (blk_set hx8.out 0 _) 1 _) rfl) rfl ?_
          have EX := Ex.set w8 ⟨g3, 0, none⟩ (.slice Ac m4 dc)
          have hb1 := hgg.out
          have hb2 := hqw.out
          have hb3 := hq0.out
          exact inst_end hqw.out hq0.out ((hRS.out.ex (EX.mono fun _ h => .inr h)).mono fun b h => .inl h) (by show 4 ≤ 5; omega) (by have := hfl.out.1; omega) hfl.out.2 (hC8'.out.ex EX (fun b hb => by have e' : b = g3 := hb; omega)) (hE8'.out.trans EX (fun i hi h => by have e' : i = g3 := h; omega))
        · by_cases hx2 : x = 2
          · subst hx2
            go_wp2
            refine Reg.regionG (fun w' => w'.heap[g3]? = some (.cells #[.slice A0 sigs.length d0, .slice A1 fs.length d1] 25 (0, 0))) [0,1,2,4] [3,5,6,7] 7 (by kernel_rfl) (by kernel_rfl) hb8.out ?_
            repeat refine Reg.sG ?_
            refine Reg.startG ?_
            obtain ⟨w9, hw9⟩ : ∃ w9, ({ w8 with drawn := w8.drawn + 1 } : World) = w9 := ⟨_, rfl⟩
            have hS9 := Aside0.mk (show On w8 w9 from (hw9 ▸ on_draw w8))
            rw [hw9]
            clear hw9 hd0 hf0
            refine Reg.tG ?_
            go_wp2_with (go_at_call 138; refine Stop.out ?_)
            refine ⟨(l1Below_calls w0 _ q (hC8'.out.next hS9.out) 5 (by omega) (by omega)).mono ?_⟩
            rintro e wa ⟨v, rfl, ⟨y, rfl, hy⟩, hCa, hEa⟩
            obtain ⟨k, rfl⟩ := Int.eq_ofNat_of_zero_le hy.1
            have hk := Aside0.mk (show k < sigs.length by show k < 5; omega)
            have hCa' := Aside0.mk hCa
            have hEa' := Aside0.mk ((Ex.of_on (S := fun b => b = q) hS9.out).trans hEa fun _ _ h => h)
            have hba := Aside0.mk (blk_ex hEa'.out hb8.out (by have := hqw.out; have := hgg.out; omega))
            clear hCa hEa hy
            go_wp2
            refine ⟨hba.out, ?_⟩
            refine Reg.tG ?_
            go_wp2_with (go_at_call 139; refine Stop.out ?_)
            refine ⟨(l3One_calls w0 _ q hCa'.out).mono ?_⟩
            rintro e wb ⟨v, rfl, ⟨r, rfl⟩, hCb, hEb⟩
            have hCb' := Aside0.mk hCb
            have hEb' := Aside0.mk (hEa'.out.trans hEb fun _ _ h => h)
            have hbb := Aside0.mk (blk_ex hEb'.out hb8.out (by have := hqw.out; have := hgg.out; omega))
            have hrb := Aside0.mk (blk_ex hEb'.out hr8.out (by have := hqw.out; omega))
            have hIb := Aside0.mk (hI8.out.ex hEb'.out fun b hb => .inl (by have := hq1.out; omega))
            clear hCb hEb
            obtain ⟨gr, hgA, hgo, ⟨z0, hz0⟩, ⟨z1, hz1⟩, ⟨z2, hz2⟩, hfz, hset⟩ := hIb.out.r.setAt hk.out
            have hset' := Aside0.mk (hset r)
            have hgo' := Aside0.mk hgo
            have hgr := Aside0.mk (show w.heap.size + 1 ≤ gr ∧ gr ≠ g3 from ⟨own_base hIb.out.r gr hgo, hIb.out.nr gr hgo⟩)
            have hkb := hk.out
            clear hset hgo
            subst hgA
            go_wp2
            refine ⟨hbb.out, ?_⟩
            refine Reg.tG ?_
            go_wp2
            refine ⟨hbb.out, ?_⟩
            refine Reg.tE ?_
            obtain ⟨X, hX⟩ : ∃ X, ((wb.setCell ⟨gr, k * 3, none⟩ (.string r.1)).setCell ⟨gr, k * 3 + 1, none⟩ (.int .i64 r.2.1)).setCell ⟨gr, k * 3 + 2, none⟩ (.bool r.2.2) = X := ⟨_, rfl⟩
            have hX' := Aside0.mk hX
            have n1 : ¬ gr = g3 := hgr.out.2
            have n2 : ¬ gr = w.heap.size := by have := hgr.out.1; omega
            have hy11 := Aside0.mk (show (((wb.setCell ⟨gr, k * 3, none⟩ (.string r.1)).setCell ⟨gr, k * 3 + 1, none⟩ (.int .i64 r.2.1)).setCell ⟨gr, k * 3 + 2, none⟩ (.bool r.2.2)).heap[g3]? = _ from blk_far (blk_far (blk_far hbb.out (fun e => n1 e.symm) _) (fun e => n1 e.symm) _) (fun e => n1 e.symm) _)
            have hx11 := Aside0.mk (show (((wb.setCell ⟨gr, k * 3, none⟩ (.string r.1)).setCell ⟨gr, k * 3 + 1, none⟩ (.int .i64 r.2.1)).setCell ⟨gr, k * 3 + 2, none⟩ (.bool r.2.2)).heap[w.heap.size]? = _ from blk_far (blk_far (blk_far hrb.out (fun e => n2 e.symm) _) (fun e => n2 e.symm) _) (fun e => n2 e.symm) _)
            have hd0 := blk_cell hy11.out
            have hd1 := blk_cell hx11.out
            have hf1 := blk_frozen hx11.out
            clear hX n1 n2
            go_wp2
            refine bodyPost_ret (retI rfl rfl (g := w.heap.size) (blk_set (blk_set hx11.out 0 _) 1 _) rfl) rfl ?_
            have EX := ((Ex.set wb ⟨gr, k * 3, none⟩ (.string r.1)).trans (Ex.set _ ⟨gr, k * 3 + 1, none⟩ (.int .i64 r.2.1)) (fun _ _ h => h)).trans (Ex.set _ ⟨gr, k * 3 + 2, none⟩ (.bool r.2.2)) (fun _ _ h => h)
            have hb1 := hgr.out.1
            have hb2 := hqw.out
            have hb3 := hq0.out
            have hRS : RS (fun b => b ≤ w.heap.size ∨ b = g3) (((wb.setCell ⟨gr, k * 3, none⟩ (.string r.1)).setCell ⟨gr, k * 3 + 1, none⟩ (.int .i64 r.2.1)).setCell ⟨gr, k * 3 + 2, none⟩ (.bool r.2.2)) (.agg #[.slice (some ⟨gr, 0, none⟩) sigs.length d0, .slice A1 fs.length d1]) (sigs.set k r) fs := by
              have hf := own_ex hIb.out.f EX (fun i hi e => own_ne_blk hIb.out.f hIb.out.r (by decide) hi (e ▸ hgo'.out))
              have hs' : Sep (((wb.setCell ⟨gr, k * 3, none⟩ (.string r.1)).setCell ⟨gr, k * 3 + 1, none⟩ (.int .i64 r.2.1)).setCell ⟨gr, k * 3 + 2, none⟩ (.bool r.2.2)) (w.heap.size + 1) hs fs := hIb.out.s.ex EX (fun i a b ha hb e => by
                have hi : i < fs.length := by rw [← hIb.out.s.len]; exact (List.getElem?_eq_some_iff.1 ha).1
                exact own_ne_blk (hIb.out.s.at_ i a fs[i] ha (List.getElem?_eq_getElem hi)).2.1 hIb.out.r (by decide) hb (e ▸ hgo'.out))
              refine ⟨some ⟨gr, 0, none⟩, d0, A1, d1, hs, by rw [List.length_set], fun w' kk => ⟨?_, ?_, ?_⟩⟩
              · exact (OR.same (own_ex hset'.out kk (fun i hi e => by have := own_base hset'.out i hi; have := hIb.out.nr i hi; have := hS3.out i e; omega))).2
              · exact (OH.rh (own_ex hf kk (fun i hi e => by have := own_base hf i hi; have := hIb.out.nf i hi; have := hS3.out i e; omega))).2
              · exact (hs'.ex kk (fun i a b ha hb e => by have := (hs'.lt ha hb).1; have := hIb.out.ns i a b ha hb; have := hS3.out b e; omega)).reads
            exact inst_end hqw.out hq0.out (hRS.mono fun b h => .inl h) (by rw [List.length_set]; show 5 ≤ 5; omega) (by have := hfl.out.1; omega) hfl.out.2 (hCb'.out.ex EX (fun b hb => by have e' : b = gr := hb; omega)) ((hE8'.out.trans hEb'.out fun _ _ h => h).trans EX (fun i hi h => by have e' : i = gr := h; omega))
          · have b0 : (x == 0) = false := by simpa using hx0
            have b1 : (x == 1) = false := by simpa using hx1
            have b2 : (x == 2) = false := by simpa using hx2
            have hd1 := blk_cell hr8.out
            have hf1 := blk_frozen hr8.out
            clear hx0 hx1 hx2
            go_wp2
            refine bodyPost_ret (retI rfl rfl (g := w.heap.size) (blk_set (blk_set hr8.out 0 _) 1 _) rfl) rfl ?_
            exact inst_end hqw.out hq0.out ((hI8.out.rs hS3.out).mono fun b h => .inl h) (by show 5 ≤ 5; omega) (by have := hfl.out.1; omega) hfl.out.2 hC8'.out hE8'.out
  | true =>
    go_wp2_with (go_at_call 137; refine Stop.out ?_)
    refine ⟨(l5Source_calls w0 _ q hC2'.out 3 (by omega) (by omega)).mono ?_⟩
    rintro e w3 ⟨v, rfl, ⟨gs, hG, -, hgl, hgm⟩, hC3, hE3⟩
    have hg3w := Aside0.mk (show w.heap.size < w2.heap.size ∧ g3 < w2.heap.size from ⟨blk_lt hr2.out, blk_lt hb2.out⟩)
    obtain ⟨ur, uf, us, rfl, hIG⟩ := IW.of (g := g3) (lo := w.heap.size + 1) hG hg3w.out.1 (.inr hg3w.out.2)
    obtain ⟨B0, e0, rfl⟩ := own_slice hIG.r
    obtain ⟨B1, e1, rfl⟩ := own_slice hIG.f
    have hlb := Aside0.mk hIG.s.len
    rw [hlb.out] at hIG
    have hI3 := Aside0.mk hIG
    have hgf := Aside0.mk (show gs.length ≤ 3 ∧ ∀ f ∈ gs, f.2.length ≤ 2 from ⟨by omega, hgm⟩)
    have hC3' := Aside0.mk hC3
    have hr3 := Aside0.mk (blk_ex hE3 hr2.out (by have := hqw.out; omega))
    have hb3 := Aside0.mk (blk_ex hE3 hb2.out (by have := hqw.out; have := hgg.out; omega))
    have hE3' := Aside0.mk (hE2'.out.trans hE3 fun _ _ h => h)
    have hF3 := Aside0.mk (hI2.out.ex hE3 fun b hb => .inl (by have := hqw.out; omega))
    rw [hlb.out]
    clear hC3 hE3 hG hIG hgl hgm
    have hfill := alloc_fill w3
    go_wp2
    clear hfill
    obtain ⟨wc, hwc⟩ : ∃ wc, w3.alloc (.cells #[.slice B0 sigs.length e0, .slice B1 gs.length e1] 25 (0, 0)) = wc := ⟨_, rfl⟩
    have hl4 := Aside0.mk (show wc.heap[w3.heap.size]? = some (.cells #[.slice B0 sigs.length e0, .slice B1 gs.length e1] 25 (0, 0)) from hwc ▸ loc_new w3 _ _)
    have hbc := Aside0.mk (show On w3 wc from hwc ▸ On.alloc (On.refl _) _)
    rw [hwc]
    clear hwc
    have hg34 := Aside0.mk (show g3 < w3.heap.size ∧ q < w3.heap.size from ⟨blk_lt hb3.out, hC3'.out.lt⟩)
    obtain ⟨g4, hg4⟩ : ∃ g4, w3.heap.size = g4 := ⟨_, rfl⟩
    rw [hg4] at hl4 hg34 ⊢
    clear hg4
    have hS2 := Aside0.mk (show ∀ b, (b = q ∨ b = g3) → b < w.heap.size + 1 ∨ b = g3 from fun b hb => by have := hqw.out; omega)
    have hsrc := Aside0.mk ((hI3.out.on hbc.out).rs hS2.out)
    have htgt := Aside0.mk ((hF3.out.on hbc.out).rs hS2.out)
    have hbc3 := Aside0.mk (blk_below hb3.out hbc.out)
    go_loopw [5] (fun v5 wr => ∃ (k : Nat) (fs : List Fct) (A0 : Option Addr) (d0 : Nat) (A1 : Option Addr) (d1 : Nat), k ≤ gs.length ∧ v5 = .int .i64 k ∧ wr.heap[g3]? = some (.cells #[.slice A0 sigs.length d0, .slice A1 fs.length d1] 25 (0, 0)) ∧ RS (fun b => b = q ∨ b = g3) wr (.agg #[.slice A0 sigs.length d0, .slice A1 fs.length d1]) sigs fs ∧ Asc fs ∧ fs.length ≤ 5 + k ∧ (∀ f ∈ fs, f.2.length ≤ 2) ∧ Ex (fun b => b = g3) wc wr) (fun v5 _ => gs.length - (intOf v5).toNat)
    case atStart => exact ⟨0, fs, A0, d0, A1, d1, Nat.zero_le _, rfl, hbc3.out, htgt.out, hfa.out, by have := hfl.out.1; omega, hfl.out.2, Ex.refl _ _⟩
    case round =>
      obtain ⟨k, fs, A0, d0, A1, d1, hk, rfl, hbr, hR, ha, hl, hm, hE⟩ := hrel
      have hbr' := Aside0.mk hbr
      have hRr := Aside0.mk hR
      have ha' := Aside0.mk ha
      have hl' := Aside0.mk hl
      have hm' := Aside0.mk hm
      have hEr := Aside0.mk hE
      have hb4 := Aside0.mk (blk_ex hE hl4.out (by have := hg34.out; omega))
      have hd0 := blk_cell hbr 0
      have hd1 := blk_cell hbr 1
      have hd2 := blk_cell hb4.out 0
      have hd3 := blk_cell hb4.out 1
      have hCr := Aside0.mk ((hC3'.out.next hbc.out).ex hE (fun b hb => by have := hgg.out; have := hqw.out; have := hq0.out; omega))
      clear hbr hR ha hl hm hE
      by_cases hlt : k < gs.length
      · obtain ⟨_, _, us', hall⟩ := (hsrc.out.ex (hEr.out.mono fun _ h => .inr h)).parts
        obtain ⟨h1, h2, h3⟩ := hall wr (Ex.refl _ _)
        obtain ⟨ad, A3, c3, hA1, x0, x1, x2⟩ := (h2.fcts h3).at k hlt
        subst hA1
        have x2' := Aside0.mk x2
        have hkk := Aside0.mk hlt
        have hfk := Aside0.mk (show gs[k].2.length ≤ 2 from hgf.out.2 _ (List.getElem_mem hlt))
        obtain ⟨_, _, hs', hall'⟩ := hRr.out.parts
        have hall2 := Aside0.mk hall'
        clear x2 h1 h2 h3 hall hall'
        go_wp2
        refine Reg.region [(0,.L),(1,.L),(2,.L),(3,.L),(4,.L),(5,.L),(6,.N)] [7] (by kernel_rfl) (by kernel_rfl) ?_
        repeat first | refine sP ?_ | refine sS ?_ | refine sA ?_ | refine sL ?_ | refine sQ ?_ | refine sO ?_
        clear hd0 hd1 hd2 hd3 x0 x1
        refine callN Tryz.func81 (fun w4 hS4 => ?_)
        refine (l5PutS_calls (fun b => b = q ∨ b = g3) w4 A0 d0 A1 d1 hs' sigs fs (fun w' kk => hall2.out w' ((Ex.of_on hS4).trans kk fun _ _ h => h)) (fun b hb => by have := blk_lt (blk_below hbr'.out hS4); have := (hCr.out.next hS4).lt; rcases hb with h | h <;> omega) A3 c3 gs[k] (x2'.out.on hS4) (by have := hl'.out; have := hgf.out.1; omega) (by have := hfk.out; omega) ha'.out).mono ?_
        rintro e w5 ⟨v5, rfl, hR5, hb5⟩
        obtain ⟨fs', hfs⟩ : ∃ fs', putF fs gs[k] = fs' := ⟨_, rfl⟩
        rw [hfs] at hR5
        have hR5' := Aside0.mk hR5
        obtain ⟨C0, i0, C1, i1, hs'', rfl, -⟩ := hR5.out
        have ha6 := Aside0.mk (show Asc fs' from hfs ▸ putF_asc gs[k] fs ha'.out)
        have hl6 := Aside0.mk (show fs'.length ≤ fs.length + 1 from hfs ▸ putF_le fs gs[k])
        have hm6 := Aside0.mk (show ∀ g ∈ fs', g.2.length ≤ 2 by
          rw [← hfs]; intro g hg; rcases (mem_putF gs[k] g fs).1 hg with rfl | h
          · exact hfk.out
          · exact hm'.out g h)
        have hB5 := Aside0.mk (hS4.trans hb5)
        refine ⟨_, rfl, hb5, fun a' ha'' => ?_⟩
        simp only [Act.put, List.setIfInBounds_toArray, List.set_cons_zero, List.set_cons_succ] at ha''
        subst ha''
        clear hR5 hfs
        refine Reg.tail_ fun w6 hS6 => ?_
        have hb6 := Aside0.mk (blk_below hbr'.out (hB5.out.trans hS6))
        have hR6 := Aside0.mk (hR5'.out.on hS6)
        have hB6 := Aside0.mk (hB5.out.trans hS6)
        have hcr := blk_cell hb6.out
        have hfr := blk_frozen hb6.out
        clear hS6
        go_wp2
        have EE := (Ex.set w6 ⟨g3, 0, none⟩ (.slice C0 sigs.length i0)).trans (Ex.set _ ⟨g3, 1, none⟩ (.slice C1 fs'.length i1)) (fun _ _ h => h)
        have hk1 := hkk.out
        have hwk : wrap64 ((k : Int) + 1) = ((k + 1 : Nat) : Int) := by rw [IntWalk.wrap64_in _ (by have := hgf.out.1; omega)]; omega
        refine ⟨⟨k + 1, fs', C0, i0, C1, i1, by omega, by rw [hwk], blk_set (blk_set hb6.out 0 _) 1 _, hR6.out.ex (EE.mono fun _ h => .inr h), ha6.out, by have := hl'.out; have := hl6.out; omega, hm6.out, (hEr.out.then_on hB6.out).trans EE fun _ _ h => h⟩, by rw [hwk]; simp [intOf]; omega⟩
      · have hge : ¬ k < gs.length := hlt
        go_wp2_with (go_at_call 69; refine Stop.out ?_)
        obtain ⟨_, _, hs', hall⟩ := hRr.out.parts
        obtain ⟨h1, h2, h3⟩ := hall wr (Ex.refl _ _)
        refine ⟨(l5Copy_calls _ A0 d0 A1 d1 sigs fs h1 (h2.fcts h3) (by show (5 : Nat) ≤ _; omega) (by have := hl'.out; have := hgf.out.1; omega) (fun f hf => by have := hm'.out f hf; omega)).mono ?_⟩
        rintro e w7 ⟨v7, rfl, hI7, hb7⟩
        have hgl := Aside0.mk (blk_lt hbr'.out)
        obtain ⟨vr, vf, hs, rfl, hIW0⟩ := IW.of (g := g3) (lo := w.heap.size + 1) hI7 (by have := hgl.out; have := hgg.out; omega) (.inr hgl.out)
        obtain ⟨A0, d0, rfl⟩ := own_slice hIW0.r
        obtain ⟨A1, d1, rfl⟩ := own_slice hIW0.f
        have hlz := Aside0.mk hIW0.s.len
        rw [hlz.out] at hIW0 ⊢
        have hIW1 := Aside0.mk hIW0
        have hb7' := Aside0.mk hb7
        have hbx7 := Aside0.mk (blk_below hbr'.out hb7)
        have hrx7 := Aside0.mk (blk_below (blk_ex hEr.out (blk_below hr3.out hbc.out) (by have := hgg.out; omega)) hb7)
        have hfx := Aside0.mk (show fs.length ≤ 100 ∧ ∀ f ∈ fs, f.2.length ≤ 3 from ⟨by have := hl'.out; have := hgf.out.1; omega, fun f hf => by have := hm'.out f hf; omega⟩)
        have hcr := blk_cell hbx7.out
        have hfr := blk_frozen hbx7.out
        clear hIW0 hb7 hI7 hfl h1 h2 h3 hall hd0 hd1 hd2 hd3 hge hlt
        go_wp2_with (go_at_call 138; refine Stop.out ?_)
        refine ⟨?_⟩
        have hq5 := hqw.out
        have hq6 := hgg.out
        have hq7 := hq0.out
        have EE := (Ex.set w7 ⟨g3, 0, none⟩ (.slice A0 sigs.length d0)).trans (Ex.set _ ⟨g3, 1, none⟩ (.slice A1 fs.length d1)) (fun _ _ h => h)
        have hIW := Aside0.mk (hIW1.out.ex EE fun b hb => .inr hb)
        have hbx := Aside0.mk (blk_set (blk_set hbx7.out 0 (.slice A0 sigs.length d0)) 1 (.slice A1 fs.length d1))
        have hrx := Aside0.mk (blk_ex EE hrx7.out (fun e => by have e' : w.heap.size = g3 := e; omega))
        have hCx := Aside0.mk ((hCr.out.next hb7'.out).ex EE (fun b hb => by have e' : b = g3 := hb; omega))
        have hEx := Aside0.mk ((((hE3'.out.then_on hbc.out).trans hEr.out (fun i hi h => by have e' : i = g3 := h; omega)).then_on hb7'.out).trans EE (fun i hi h => by have e' : i = g3 := h; omega))
        have hfl := hfx
        clear hcr hfr EE hq5 hq6 hq7
        obtain ⟨wx, hwx⟩ : ∃ wx, (w7.setCell ⟨g3, 0, none⟩ (.slice A0 sigs.length d0)).setCell ⟨g3, 1, none⟩ (.slice A1 fs.length d1) = wx := ⟨_, rfl⟩
        rw [hwx] at hIW hbx hrx hCx hEx ⊢
        clear hwx
        as_aux_lemma =>
          refine (l1Below_calls w0 _ q hCx.out 14 (by omega) (by omega)).mono ?_
          rintro e w8 ⟨v, rfl, ⟨x, rfl, hx⟩, hC8, hE8⟩
          have hC8' := Aside0.mk hC8
          have hq1 := Aside0.mk (show q < w.heap.size + 1 by have := hqw.out; omega)
          have hI8 := Aside0.mk (hIW.out.ex hE8 fun b hb => .inl (by have := hq1.out; omega))
          have hb8 := Aside0.mk (blk_ex hE8 hbx.out (by have := hqw.out; have := hgg.out; omega))
          have hr8 := Aside0.mk (blk_ex hE8 hrx.out (by have := hqw.out; omega))
          have hE8' := Aside0.mk (hEx.out.trans hE8 fun _ _ h => h)
          have hS3 := Aside0.mk (show ∀ b, (b ≤ w.heap.size ∨ b = g3) → b < w.heap.size + 1 ∨ b = g3 from fun b hb => by have := hqw.out; omega)
          clear hC8 hE8 hx
          have hd0 := blk_cell hb8.out
          have hf0 := blk_frozen hb8.out
          by_cases hx0 : x = 0
          · subst hx0
            go_wp2
            refine Reg.regionG (fun w' => w'.heap[g3]? = some (.cells #[.slice A0 sigs.length d0, .slice A1 fs.length d1] 25 (0, 0))) [0,1,2] [3,4,5,6,7] 7 (by kernel_rfl) (by kernel_rfl) hb8.out ?_
            repeat refine Reg.sG ?_
            refine Reg.startG ?_
            obtain ⟨w9, hw9⟩ : ∃ w9, ({ w8 with drawn := w8.drawn + 1 } : World) = w9 := ⟨_, rfl⟩
            have hS9 := Aside0.mk (show On w8 w9 from (hw9 ▸ on_draw w8))
            rw [hw9]
            clear hw9 hd0 hf0
            refine Reg.tG ?_
            go_wp2_with (go_at_call 116; refine Stop.out ?_)
            refine ⟨(l4Any_calls w0 _ q (hC8'.out.next hS9.out)).mono ?_⟩
            rintro e wa ⟨v, rfl, ⟨f, hO, hf3⟩, hCa, hEa⟩
            obtain ⟨va, rfl, hO, hIr⟩ := hO.out
            obtain ⟨Aa, ca, rfl⟩ := own_slice hO
            have hlo9 := Aside0.mk (show w.heap.size + 1 ≤ w9.heap.size ∧ g3 < w9.heap.size ∧ q < w9.heap.size from ⟨blk_lt (blk_below hr8.out hS9.out), blk_lt (blk_below hb8.out hS9.out), (hC8'.out.next hS9.out).lt⟩)
            have hOa := Aside0.mk hO
            have hIr' := Aside0.mk hIr
            have hf3' := Aside0.mk hf3
            have hCa' := Aside0.mk hCa
            have hEa' := Aside0.mk ((Ex.of_on (S := fun b => b = q) hS9.out).trans hEa fun _ _ h => h)
            have hba := Aside0.mk (blk_ex hEa'.out hb8.out (by have := hqw.out; have := hgg.out; omega))
            have hra := Aside0.mk (blk_ex hEa'.out hr8.out (by have := hqw.out; omega))
            have hIa := Aside0.mk (hI8.out.ex hEa'.out fun b hb => .inl (by have := hq1.out; omega))
            clear hCa hEa hO hIr hf3
            go_wp2
            refine ⟨hba.out, ?_⟩
            refine Reg.tG ?_
            go_wp2
            obtain ⟨wb, hwb⟩ : ∃ wb, wa.alloc (.cells #[.int .i64 f.1, .slice Aa f.2.length ca] 60 (0, 0)) = wb := ⟨_, rfl⟩
            have hSb := Aside0.mk (show On wa wb from hwb ▸ On.alloc (On.refl _) _)
            have hRb := Aside0.mk (show RH wb (some ⟨wa.heap.size, 0, none⟩) 1 [(f.1, Aa, f.2.length, ca)] from lit_RH (hwb ▸ On.refl _))
            have hIb := Aside0.mk (hIa.out.on hSb.out)
            have hbb := Aside0.mk (blk_below hba.out hSb.out)
            have hrb := Aside0.mk (blk_below hra.out hSb.out)
            try rw [hwb]
            clear hwb
            refine ⟨hbb.out, ?_⟩
            refine Reg.tG ?_
            obtain ⟨zs, hzs⟩ : ∃ zs, hs ++ [((f.1, Aa, f.2.length, ca) : Hdr)] = zs := ⟨_, rfl⟩
            have hhl := Aside0.mk hIb.out.s.len
            refine apH 37 hzs hIb.out.f hRb.out (by have := blk_lt hrb.out; omega) (by have := hhl.out; have := hfl.out.1; simp; omega) (fun v11 w11 hO11 hg11 => ?_)
            have hO11' := Aside0.mk hO11
            have hGr := Aside0.mk (Ex.of_grown hg11)
            have hb11 := Aside0.mk (blk_ex hGr.out hbb.out (fun e => hIb.out.nf _ e.symm rfl))
            have hr11 := Aside0.mk (blk_ex hGr.out hrb.out (fun e => by have := own_base hIb.out.f _ e.symm; omega))
            clear hO11 hg11
            obtain ⟨A11, c11, rfl⟩ := own_slice hO11'.out
            refine ⟨hb11.out, ?_⟩
            have hd6 := blk_cell hb11.out
            have hf6 := blk_frozen hb11.out
            simp only [Act.put, List.setIfInBounds_toArray, List.set_cons_zero, List.set_cons_succ]
            refine Reg.tG ?_
            go_wp2
            refine ⟨hb11.out, ?_⟩
            refine Reg.tE ?_
            have hx11 := Aside0.mk (show (w11.setCell ⟨g3, 1, none⟩ (.slice A11 zs.length c11)).heap[w.heap.size]? = _ from blk_far hr11.out (by show ¬ _; simp; have := hgg.out; omega) _)
            have hy11 := Aside0.mk (blk_set hb11.out 1 (.slice A11 zs.length c11))
            have hd1 := blk_cell hx11.out
            have hf1 := blk_frozen hx11.out
            go_wp2
            refine bodyPost_ret (retI rfl rfl (g := w.heap.size) (blk_set (blk_set hx11.out 0 _) 1 _) rfl) rfl ?_
            have EX := Ex.set w11 ⟨g3, 1, none⟩ (.slice A11 zs.length c11)
            have hb1 := hgg.out
            have hb2 := hqw.out
            have hb3 := hq0.out
            have hb4 := hlo9.out
            have hzl : zs.length = (fs ++ [f]).length := by rw [← hzs]; simp; exact hhl.out
            have hRS : RS (fun b => b ≤ w.heap.size ∨ b = g3) w11 (.agg #[.slice A0 sigs.length d0, .slice A11 zs.length c11]) sigs (fs ++ [f]) := by
              have hIo := own_ex (pw_own_below hOa.out hSb.out) hGr.out (fun i hi e => own_ne_blk (pw_own_below hOa.out hSb.out) hIb.out.f (by decide) hi e.symm)
              refine ⟨A0, d0, A11, c11, zs, by rw [hzl], fun w' k => ⟨?_, ?_, ?_⟩⟩
              · have h1 := own_ex hIb.out.r hGr.out (fun i hi e => own_ne_blk hIb.out.r hIb.out.f (by decide) hi e.symm)
                exact (OR.same (own_ex h1 k (fun i hi e => by have := own_base h1 i hi; have := hIb.out.nr i hi; have := hS3.out i e; omega))).2
              · exact (OH.rh (own_ex hO11'.out k (fun i hi e => by have := own_base hO11'.out i hi; have := own_off hO11'.out hb11.out (by decide) i hi; have := hS3.out i e; omega))).2
              · rw [← hzs]
                refine Reads.append ?_ (Reads.one rfl rfl (OI.same (own_ex hIo k (fun i hi e => by have := own_base hOa.out i hi; omega)) hIr'.out).2)
                have h1 : Sep w11 (w.heap.size + 1) hs fs := hIb.out.s.ex hGr.out (fun i a b ha hb e => by
                  have hi : i < fs.length := by rw [← hIb.out.s.len]; exact (List.getElem?_eq_some_iff.1 ha).1
                  exact own_ne_blk (hIb.out.s.at_ i a fs[i] ha (List.getElem?_eq_getElem hi)).2.1 hIb.out.f (by decide) hb e.symm)
                exact (h1.ex k (fun i a b ha hb e => by have := (h1.lt ha hb).1; have := hIb.out.ns i a b ha hb; have := hS3.out b e; omega)).reads
            have hCE := ((hCa'.out.next hSb.out).ex hGr.out (fun b hb => by have := own_base hIb.out.f b hb.symm; omega)).ex EX (fun b hb => by have e' : b = g3 := hb; omega)
            have hEE := (((hE8'.out.trans hEa'.out fun _ _ h => h).then_on hSb.out).trans hGr.out (fun i hi h => by have := own_base hIb.out.f i h.symm; omega)).trans EX (fun i hi h => by have e' : i = g3 := h; omega)
            exact inst_end hqw.out hq0.out ((hRS.ex (EX.mono fun _ h => .inr h)).mono fun b h => .inl h) (by show 5 ≤ 5; omega) (by have := hfl.out.1; simp; omega) (fun g hg => (List.mem_append.1 hg).elim (fun h => hfl.out.2 g h) (fun h => by rw [List.mem_singleton.1 h]; exact hf3'.out)) hCE hEE
          · by_cases hx1 : x = 1
            · subst hx1
              obtain ⟨hcA, hRA⟩ := OR.same hI8.out.r
              have hcap := Aside0.mk hRA.1
              go_wp2_with (refine gate 43 ?_)
              refine ⟨slR 43 (k := 1) (A := A0) (n := sigs.length) (c := d0) (by show 1 ≤ 5; omega) hcap.out ?_⟩
              obtain ⟨Ac, hAc⟩ : ∃ Ac, (if d0 = 1 then A0 else A0.map (·.add (1 * 3))) = Ac := ⟨_, rfl⟩
              obtain ⟨dc, hdc⟩ : ∃ dc, d0 - 1 = dc := ⟨_, rfl⟩
              have hRS := Aside0.mk (show RS (fun b => b ≤ w.heap.size ∨ b = g3) w8 (.agg #[.slice Ac (sigs.length - 1) dc, .slice A1 fs.length d1]) (sigs.drop 1) fs from by
                refine ⟨Ac, dc, A1, d1, hs, rfl, fun w' k => ?_⟩
                have h' := hI8.out.ex k hS3.out
                refine ⟨?_, (OH.rh h'.f).2, h'.s.reads⟩
                rw [← hAc, ← hdc]
                exact drop1 (OR.same h'.r).2 (by show 1 ≤ 5; omega))
              rw [hAc, hdc]
              clear hAc hdc hcA hRA
              obtain ⟨m4, hm4⟩ : ∃ m4, sigs.length - 1 = m4 := ⟨_, rfl⟩
              rw [hm4] at hRS ⊢
              clear hm4
              simp only [Act.put, List.setIfInBounds_toArray, List.set_cons_zero, List.set_cons_succ]
              have hx8 := Aside0.mk (show (w8.setCell ⟨g3, 0, none⟩ (.slice Ac m4 dc)).heap[w.heap.size]? = _ from blk_far hr8.out (by show ¬ _; simp; have := hgg.out; omega) _)
              have hd1 := blk_cell hx8.out
              have hf1 := blk_frozen hx8.out
              go_wp2
              refine bodyPost_ret (retI rfl rfl (g := w.heap.size) (blk_set (blk_set hx8.out 0 _) 1 _) rfl) rfl ?_
              have EX := Ex.set w8 ⟨g3, 0, none⟩ (.slice Ac m4 dc)
              have hb1 := hgg.out
              have hb2 := hqw.out
              have hb3 := hq0.out
              exact inst_end hqw.out hq0.out ((hRS.out.ex (EX.mono fun _ h => .inr h)).mono fun b h => .inl h) (by show 4 ≤ 5; omega) (by have := hfl.out.1; omega) hfl.out.2 (hC8'.out.ex EX (fun b hb => by have e' : b = g3 := hb; omega)) (hE8'.out.trans EX (fun i hi h => by have e' : i = g3 := h; omega))
            · by_cases hx2 : x = 2
              · subst hx2
                go_wp2
                refine Reg.regionG (fun w' => w'.heap[g3]? = some (.cells #[.slice A0 sigs.length d0, .slice A1 fs.length d1] 25 (0, 0))) [0,1,2,4] [3,5,6,7] 7 (by kernel_rfl) (by kernel_rfl) hb8.out ?_
                repeat refine Reg.sG ?_
                refine Reg.startG ?_
                obtain ⟨w9, hw9⟩ : ∃ w9, ({ w8 with drawn := w8.drawn + 1 } : World) = w9 := ⟨_, rfl⟩
                have hS9 := Aside0.mk (show On w8 w9 from (hw9 ▸ on_draw w8))
                rw [hw9]
                clear hw9 hd0 hf0
                refine Reg.tG ?_
                go_wp2_with (go_at_call 138; refine Stop.out ?_)
                refine ⟨(l1Below_calls w0 _ q (hC8'.out.next hS9.out) 5 (by omega) (by omega)).mono ?_⟩
                rintro e wa ⟨v, rfl, ⟨y, rfl, hy⟩, hCa, hEa⟩
                obtain ⟨k, rfl⟩ := Int.eq_ofNat_of_zero_le hy.1
                have hk := Aside0.mk (show k < sigs.length by show k < 5; omega)
                have hCa' := Aside0.mk hCa
                have hEa' := Aside0.mk ((Ex.of_on (S := fun b => b = q) hS9.out).trans hEa fun _ _ h => h)
                have hba := Aside0.mk (blk_ex hEa'.out hb8.out (by have := hqw.out; have := hgg.out; omega))
                clear hCa hEa hy
                go_wp2
                refine ⟨hba.out, ?_⟩
                refine Reg.tG ?_
                go_wp2_with (go_at_call 139; refine Stop.out ?_)
                refine ⟨(l3One_calls w0 _ q hCa'.out).mono ?_⟩
                rintro e wb ⟨v, rfl, ⟨r, rfl⟩, hCb, hEb⟩
                have hCb' := Aside0.mk hCb
                have hEb' := Aside0.mk (hEa'.out.trans hEb fun _ _ h => h)
                have hbb := Aside0.mk (blk_ex hEb'.out hb8.out (by have := hqw.out; have := hgg.out; omega))
                have hrb := Aside0.mk (blk_ex hEb'.out hr8.out (by have := hqw.out; omega))
                have hIb := Aside0.mk (hI8.out.ex hEb'.out fun b hb => .inl (by have := hq1.out; omega))
                clear hCb hEb
                obtain ⟨gr, hgA, hgo, ⟨z0, hz0⟩, ⟨z1, hz1⟩, ⟨z2, hz2⟩, hfz, hset⟩ := hIb.out.r.setAt hk.out
                have hset' := Aside0.mk (hset r)
                have hgo' := Aside0.mk hgo
                have hgr := Aside0.mk (show w.heap.size + 1 ≤ gr ∧ gr ≠ g3 from ⟨own_base hIb.out.r gr hgo, hIb.out.nr gr hgo⟩)
                have hkb := hk.out
                clear hset hgo
                subst hgA
                go_wp2
                refine ⟨hbb.out, ?_⟩
                refine Reg.tG ?_
                go_wp2
                refine ⟨hbb.out, ?_⟩
                refine Reg.tE ?_
                obtain ⟨X, hX⟩ : ∃ X, ((wb.setCell ⟨gr, k * 3, none⟩ (.string r.1)).setCell ⟨gr, k * 3 + 1, none⟩ (.int .i64 r.2.1)).setCell ⟨gr, k * 3 + 2, none⟩ (.bool r.2.2) = X := ⟨_, rfl⟩
                have hX' := Aside0.mk hX
                have n1 : ¬ gr = g3 := hgr.out.2
                have n2 : ¬ gr = w.heap.size := by have := hgr.out.1; omega
                have hy11 := Aside0.mk (show (((wb.setCell ⟨gr, k * 3, none⟩ (.string r.1)).setCell ⟨gr, k * 3 + 1, none⟩ (.int .i64 r.2.1)).setCell ⟨gr, k * 3 + 2, none⟩ (.bool r.2.2)).heap[g3]? = _ from blk_far (blk_far (blk_far hbb.out (fun e => n1 e.symm) _) (fun e => n1 e.symm) _) (fun e => n1 e.symm) _)
                have hx11 := Aside0.mk (show (((wb.setCell ⟨gr, k * 3, none⟩ (.string r.1)).setCell ⟨gr, k * 3 + 1, none⟩ (.int .i64 r.2.1)).setCell ⟨gr, k * 3 + 2, none⟩ (.bool r.2.2)).heap[w.heap.size]? = _ from blk_far (blk_far (blk_far hrb.out (fun e => n2 e.symm) _) (fun e => n2 e.symm) _) (fun e => n2 e.symm) _)
                have hd0 := blk_cell hy11.out
                have hd1 := blk_cell hx11.out
                have hf1 := blk_frozen hx11.out
                clear hX n1 n2
                go_wp2
                refine bodyPost_ret (retI rfl rfl (g := w.heap.size) (blk_set (blk_set hx11.out 0 _) 1 _) rfl) rfl ?_
                have EX := ((Ex.set wb ⟨gr, k * 3, none⟩ (.string r.1)).trans (Ex.set _ ⟨gr, k * 3 + 1, none⟩ (.int .i64 r.2.1)) (fun _ _ h => h)).trans (Ex.set _ ⟨gr, k * 3 + 2, none⟩ (.bool r.2.2)) (fun _ _ h => h)
                have hb1 := hgr.out.1
                have hb2 := hqw.out
                have hb3 := hq0.out
                have hRS : RS (fun b => b ≤ w.heap.size ∨ b = g3) (((wb.setCell ⟨gr, k * 3, none⟩ (.string r.1)).setCell ⟨gr, k * 3 + 1, none⟩ (.int .i64 r.2.1)).setCell ⟨gr, k * 3 + 2, none⟩ (.bool r.2.2)) (.agg #[.slice (some ⟨gr, 0, none⟩) sigs.length d0, .slice A1 fs.length d1]) (sigs.set k r) fs := by
                  have hf := own_ex hIb.out.f EX (fun i hi e => own_ne_blk hIb.out.f hIb.out.r (by decide) hi (e ▸ hgo'.out))
                  have hs' : Sep (((wb.setCell ⟨gr, k * 3, none⟩ (.string r.1)).setCell ⟨gr, k * 3 + 1, none⟩ (.int .i64 r.2.1)).setCell ⟨gr, k * 3 + 2, none⟩ (.bool r.2.2)) (w.heap.size + 1) hs fs := hIb.out.s.ex EX (fun i a b ha hb e => by
                    have hi : i < fs.length := by rw [← hIb.out.s.len]; exact (List.getElem?_eq_some_iff.1 ha).1
                    exact own_ne_blk (hIb.out.s.at_ i a fs[i] ha (List.getElem?_eq_getElem hi)).2.1 hIb.out.r (by decide) hb (e ▸ hgo'.out))
                  refine ⟨some ⟨gr, 0, none⟩, d0, A1, d1, hs, by rw [List.length_set], fun w' kk => ⟨?_, ?_, ?_⟩⟩
                  · exact (OR.same (own_ex hset'.out kk (fun i hi e => by have := own_base hset'.out i hi; have := hIb.out.nr i hi; have := hS3.out i e; omega))).2
                  · exact (OH.rh (own_ex hf kk (fun i hi e => by have := own_base hf i hi; have := hIb.out.nf i hi; have := hS3.out i e; omega))).2
                  · exact (hs'.ex kk (fun i a b ha hb e => by have := (hs'.lt ha hb).1; have := hIb.out.ns i a b ha hb; have := hS3.out b e; omega)).reads
                exact inst_end hqw.out hq0.out (hRS.mono fun b h => .inl h) (by rw [List.length_set]; show 5 ≤ 5; omega) (by have := hfl.out.1; omega) hfl.out.2 (hCb'.out.ex EX (fun b hb => by have e' : b = gr := hb; omega)) ((hE8'.out.trans hEb'.out fun _ _ h => h).trans EX (fun i hi h => by have e' : i = gr := h; omega))
              · have b0 : (x == 0) = false := by simpa using hx0
                have b1 : (x == 1) = false := by simpa using hx1
                have b2 : (x == 2) = false := by simpa using hx2
                have hd1 := blk_cell hr8.out
                have hf1 := blk_frozen hr8.out
                clear hx0 hx1 hx2
                go_wp2
                refine bodyPost_ret (retI rfl rfl (g := w.heap.size) (blk_set (blk_set hr8.out 0 _) 1 _) rfl) rfl ?_
                exact inst_end hqw.out hq0.out ((hI8.out.rs hS3.out).mono fun b h => .inl h) (by show 5 ≤ 5; omega) (by have := hfl.out.1; omega) hfl.out.2 hC8'.out hE8'.out
end Go.Proofs.YtgemaohdlibboaaGreatDoor.H
/- Walks: instances written, on both sides. No condition. -/
namespace Go.Proofs.YtgemaohdlibboaaGreatDoor.H
open Go Go.RowKit Go.Proofs.YtgemaohdlibboaaGreatDoorW.PrintWords Go.Proofs.YtgemaohdlibboaaGreatDoorW.PrintLast
open Go.Proofs.YtgemaohdlibboaaGreatDoor.Reg (On on_draw)
set_option maxHeartbeats 4000000
set_option maxRecDepth 100000
set_option linter.unusedVariables false
set_option linter.unusedSimpArgs false

end Go.Proofs.YtgemaohdlibboaaGreatDoor.H
/- Walks: the draws of instances and of their texts. What is told: that they can be read; sizes. No condition. -/
namespace Go.Proofs.YtgemaohdlibboaaGreatDoor.H
open Go Go.RowKit Go.Proofs.YtgemaohdlibboaaGreatDoorW.PrintWords Go.Proofs.YtgemaohdlibboaaGreatDoorW.PrintLast
open Go.Proofs.YtgemaohdlibboaaGreatDoor.Reg (On on_draw)
set_option maxHeartbeats 8000000
set_option maxRecDepth 100000
set_option linter.unusedVariables false
set_option linter.unusedSimpArgs false

section
variable {fn : Func} {p u : Tmp} {tmps : Array Value} {w : World} {g g' : Nat} {t t' : TypeId} {cs cs' : Array Value} {fr fr' : Nat × Nat}
end
end Go.Proofs.YtgemaohdlibboaaGreatDoor.H
/- Walks: the draw of two substitutions. What is told: that they can be read. No condition. -/
namespace Go.Proofs.YtgemaohdlibboaaGreatDoor.H
open Go Go.RowKit Go.Proofs.YtgemaohdlibboaaGreatDoorW.PrintWords Go.Proofs.YtgemaohdlibboaaGreatDoorW.PrintLast
open Go.Proofs.YtgemaohdlibboaaGreatDoor.Reg (On on_draw)
set_option maxHeartbeats 8000000
set_option maxRecDepth 100000
set_option linter.unusedVariables false
set_option linter.unusedSimpArgs false

structure CmV (w : World) (v1 v2 : Value) : Prop where mk :: (out : ∃ an av bn bv, RSu w v1 an av ∧ RSu w v2 bn bv)
structure MCm (w : World) (a' : Act) (w' : World) : Prop where mk :: (out : a'.tmps.getD 2 undef = .pointer (some ⟨w.heap.size, 0, none⟩) ∧ a'.tmps.getD 3 undef = .pointer (some ⟨w.heap.size + 1, 0, none⟩) ∧ a'.defers = [] ∧ ∃ c1 c2 : Array Value, w'.heap[w.heap.size]? = some (.cells c1 41 (0, 0)) ∧ w'.heap[w.heap.size + 1]? = some (.cells c2 41 (0, 0)) ∧ c1.size = 2 ∧ c2.size = 2 ∧ CmV w' (.agg c1) (.agg c2) ∧ On w w')
section
variable {fn : Func} {p u : Tmp} {tmps : Array Value} {w : World} {g g' : Nat} {t t' : TypeId} {cs cs' : Array Value} {fr fr' : Nat × Nat}
theorem retS2 (h : fn.results = #[.cell p 41, .cell u 41]) (hp : tmps.getD p undef = .pointer (some ⟨g, 0, none⟩)) (hp' : tmps.getD u undef = .pointer (some ⟨g', 0, none⟩)) (hg : w.heap[g]? = some (.cells cs t fr)) (hg' : w.heap[g']? = some (.cells cs' t' fr')) (hs : cs.size = 2) (hs' : cs'.size = 2) : (results fn tmps).run Tryz.prog w = .ok (.tuple #[.agg cs, .agg cs']) w :=
  results_cc h tmps w g g' t t' cs cs' fr fr' _ _ hp hg Tryz.underlying41 rfl (by rw [hs]; kernel_rfl) hp' hg' Tryz.underlying41 rfl (by rw [hs']; kernel_rfl)
end
theorem DrawCompose_calls (w : World) (A c) (xs : List Int) (hc : xs.length ≤ c) (hK : kBytes.C w A xs.length xs) :
    Calls Tryz.prog 23 #[.slice A xs.length c] w (Got fun v w' => ∃ v1 v2, v = .tuple #[v1, v2] ∧ CmV w' v1 v2 ∧ On w w') := by
  have hb0 := Aside0.mk (On.alloc (On.alloc (On.refl w) (.cells #[.slice none 0 0, .slice none 0 0] 41 (0, 0))) (.cells #[.slice none 0 0, .slice none 0 0] 41 (0, 0)))
  have hL := Aside0.mk (loc2 w #[.slice none 0 0, .slice none 0 0] #[.slice none 0 0, .slice none 0 0] 41 41)
  have hw0 := Aside0.mk (show ((w.alloc (.cells #[.slice none 0 0, .slice none 0 0] 41 (0, 0))).alloc (.cells #[.slice none 0 0, .slice none 0 0] 41 (0, 0))).heap.size = w.heap.size + 2 by simp only [World.size_alloc])
  have hK' := Aside0.mk hK
  have hc' := Aside0.mk hc
  clear hK hc
  go_enter Tryz.func23, Tryz.ntmps23
  go_wp2_with (go_at_call 64; refine Stop.out ?_)
  obtain ⟨w0, hw⟩ : ∃ w0, (w.alloc (.cells #[.slice none 0 0, .slice none 0 0] 41 (0, 0))).alloc (.cells #[.slice none 0 0, .slice none 0 0] 41 (0, 0)) = w0 := ⟨_, rfl⟩
  rw [hw] at hb0 hL hw0 ⊢
  clear hw
  refine ⟨(l1New_calls w0 A c xs hc'.out (Kd.C_below hK'.out hb0.out)).mono ?_⟩
  rintro e w1 ⟨v, rfl, q, rfl, hC1, hb1⟩
  have hi1 := Aside0.mk (blk_below hL.out.1 hb1)
  have hr1 := Aside0.mk (blk_below hL.out.2.1 hb1)
  have hq := Aside0.mk (show w.heap.size + 2 ≤ q by have := hC1.lo; have := hw0.out; omega)
  have hs1 := Aside0.mk (show w.heap.size + 2 ≤ w1.heap.size by have := hb1.size; have := hw0.out; omega)
  have hql := Aside0.mk hC1.lt
  have hW1 := Aside0.mk (hb0.out.trans hb1)
  have hC1' := Aside0.mk hC1
  clear hC1 hb1 hb0 hL
  go_wp2_with (go_at_call 77; refine Stop.out ?_)
  refine ⟨(l6Sub_calls w0 w1 q hC1'.out 4 (by omega)).mono ?_⟩
  rintro e w2 ⟨v, rfl, ⟨A0, c0, A1, c1, an, av, rfl, hN0, hN1, hi0, hi1', -, -⟩, hC2, hE2⟩
  have hqq := hq.out
  have hO := Aside0.mk (And.intro hN0 hN1)
  have hin := Aside0.mk (And.intro hi0 hi1')
  have hC2' := Aside0.mk hC2
  have hi2 := Aside0.mk (blk_ex hE2 hi1.out (by omega))
  have hr2 := Aside0.mk (blk_ex hE2 hr1.out (by omega))
  have hW2 := Aside0.mk (Ex.on hW1.out hE2 (fun i e => by have h' : i = q := e; omega))
  have hs2 := Aside0.mk (show w1.heap.size ≤ w2.heap.size from hE2.size)
  have hfill := alloc_fill w2
  have hk5 := Aside0.mk (loc_new w2 #[.slice A0 an.length c0, .slice A1 av.length c1] 41)
  have hb5 := Aside0.mk (On.alloc (On.refl w2) (.cells #[.slice A0 an.length c0, .slice A1 av.length c1] 41 (0, 0)))
  clear hN0 hN1 hi0 hi1' hC2 hE2 hqq
  go_wp2
  clear hfill
  obtain ⟨w3, hw3⟩ : ∃ w3, w2.alloc (.cells #[.slice A0 an.length c0, .slice A1 av.length c1] 41 (0, 0)) = w3 := ⟨_, rfl⟩
  rw [hw3] at hk5 hb5 ⊢
  clear hw3
  obtain ⟨g5, hg5⟩ : ∃ g5, w2.heap.size = g5 := ⟨_, rfl⟩
  rw [hg5] at hk5 hs2 ⊢
  clear hg5
  have hq5 := Aside0.mk (show q < g5 from Nat.lt_of_lt_of_le hql.out hs2.out)
  have hsg := Aside0.mk (show w.heap.size + 2 ≤ g5 by have := hs1.out; have := hs2.out; omega)
  have hi4 := Aside0.mk (blk_below hi2.out hb5.out)
  have hr4 := Aside0.mk (blk_below hr2.out hb5.out)
  have hC4' := Aside0.mk (hC2'.out.next hb5.out)
  have hW4 := Aside0.mk (hW2.out.trans hb5.out)
  have hO4 := Aside0.mk (And.intro (pw_own_below hO.out.1 hb5.out) (pw_own_below hO.out.2 hb5.out))
  clear hi2 hr2 hC2' hW2 hO hb5
  refine Reg.regionH (fun w' => w'.heap[g5]? = some (.cells #[.slice A0 an.length c0, .slice A1 av.length c1] 41 (0, 0))) (.r 0 (.r 1 (.n 2 (.leaf [3,4])))) 4 (fun a a' w' => MCm w a' w') (by kernel_rfl) (by kernel_rfl) (blk_below hk5.out (on_draw _)) ?_ ?_
  · obtain ⟨u0, hu0⟩ : ∃ u0, ({ w3 with drawn := w3.drawn + 1 } : World) = u0 := ⟨_, rfl⟩
    have hS0 := Aside0.mk (show On w3 u0 from (hu0 ▸ on_draw w3))
    rw [hu0]
    clear hu0
    refine Reg.hR ?_
    refine Reg.hR ?_
    refine Reg.hN ?_
    refine goesF 12 Tryz.func77 ((l6Sub_calls w0 u0 q (hC4'.out.next hS0.out) 4 (by omega)).mono ?_)
    rintro e u ⟨v, rfl, ⟨D0, y0, D1, y1, bn, bv, rfl, hM0, hM1, hj0, hj1, -, -⟩, hC, hE⟩
    have hE' := Aside0.mk ((Ex.of_on (S := fun b => b = q) hS0.out).trans hE fun _ _ h => h)
    have hqq := hq.out
    have hqa := hq5.out
    have hs1' := hs1.out
    have hsz := Aside0.mk (show w.heap.size + 2 ≤ u0.heap.size by have h1 := blk_lt hk5.out; have h2 := hS0.out.size; have := hsg.out; omega)
    have hgu := Aside0.mk (blk_ex hE'.out hk5.out (by omega))
    have hiu := Aside0.mk (blk_ex hE'.out hi4.out (by omega))
    have hru := Aside0.mk (blk_ex hE'.out hr4.out (by omega))
    have hql' := hql.out
    have hAu := Aside0.mk (And.intro (own_lower (own_ex hO4.out.1 hE'.out (fun i hi e => by have := own_base hO4.out.1 i hi; have e' : i = q := e; omega)) hs1.out) (own_lower (own_ex hO4.out.2 hE'.out (fun i hi e => by have := own_base hO4.out.2 i hi; have e' : i = q := e; omega)) hs1.out))
    have hBu := Aside0.mk (And.intro (own_lower hM0 hsz.out) (own_lower hM1 hsz.out))
    have hin2 := Aside0.mk (And.intro hj0 hj1)
    have hWu := Aside0.mk (Ex.on hW4.out hE'.out (fun i e => by have h' : i = q := e; omega))
    clear hM0 hM1 hj0 hj1 hC hE hqq hqa hs1' hql'
    refine ⟨_, rfl, hgu.out, ?_⟩
    simp only [Act.put, List.setIfInBounds_toArray, List.set_cons_zero, List.set_cons_succ]
    refine Reg.hLeaf ?_
    refine Reg.tG ?_
    have hcr := blk_cell hiu.out
    have hfr := blk_frozen hiu.out
    have hqs := hsg.out
    obtain ⟨X, hX⟩ : ∃ X, (u.setCell ⟨w.heap.size, 0, none⟩ (.slice A0 an.length c0)).setCell ⟨w.heap.size, 1, none⟩ (.slice A1 av.length c1) = X := ⟨_, rfl⟩
    have EX := Aside0.mk (show Ex (fun b => b = w.heap.size) u X from hX ▸ (Ex.set u ⟨w.heap.size, 0, none⟩ (.slice A0 an.length c0)).trans (Ex.set _ ⟨w.heap.size, 1, none⟩ (.slice A1 av.length c1)) (fun _ _ h => h))
    have hiX := Aside0.mk (show X.heap[w.heap.size]? = some (.cells #[.slice A0 an.length c0, .slice A1 av.length c1] 41 (0, 0)) from hX ▸ blk_set (blk_set hiu.out 0 _) 1 _)
    have hrX := Aside0.mk (blk_ex EX.out hru.out (by omega))
    have hgX := Aside0.mk (blk_ex EX.out hgu.out (by omega))
    have hX' := Aside0.mk hX
    clear hX hqs
    go_wp2
    rw [hX'.out]
    refine ⟨hgX.out, ?_⟩
    refine Reg.tE ?_
    clear hcr hfr
    have hcr := blk_cell hrX.out
    have hfr := blk_frozen hrX.out
    go_wp2
    have EZ := (Ex.set X ⟨w.heap.size + 1, 0, none⟩ (.slice D0 bn.length y0)).trans (Ex.set _ ⟨w.heap.size + 1, 1, none⟩ (.slice D1 bv.length y1)) (fun _ _ h => h)
    have EE := (EX.out.mono (S' := fun b => b = w.heap.size ∨ b = w.heap.size + 1) fun _ h => .inl h).trans EZ (fun i hi h => .inr h)
    have hqs := hsg.out
    have hP0 := own_ex hAu.out.1 EE (fun i hi e => by have := own_base hAu.out.1 i hi; omega)
    have hP1 := own_ex hAu.out.2 EE (fun i hi e => by have := own_base hAu.out.2 i hi; omega)
    have hQ0 := own_ex hBu.out.1 EE (fun i hi e => by have := own_base hBu.out.1 i hi; omega)
    have hQ1 := own_ex hBu.out.2 EE (fun i hi e => by have := own_base hBu.out.2 i hi; omega)
    exact ⟨trivial, rfl, rfl, rfl, #[.slice A0 an.length c0, .slice A1 av.length c1], #[.slice D0 bn.length y0, .slice D1 bv.length y1], blk_ex EZ hiX.out (fun e => by have e' : w.heap.size = w.heap.size + 1 := e; omega), blk_set (blk_set hrX.out 0 _) 1 _, rfl, rfl, ⟨an, av, bn, bv, ⟨A0, c0, A1, c1, rfl, (OI.same hP0 hin.out.1).2, (OI.same hP1 hin.out.2).2⟩, ⟨D0, y0, D1, y1, rfl, (OI.same hQ0 hin2.out.1).2, (OI.same hQ1 hin2.out.2).2⟩⟩, Ex.on hWu.out EE (fun i h => by omega)⟩
  · intro a' w' hM
    obtain ⟨h2, h3, hd, k1, k2, e1, e2, z1, z2, hV, hb⟩ := hM.out
    go_wp2
    refine bodyPost_ret (retS2 rfl h2 h3 e1 e2 z1 z2) hd ?_
    exact ⟨_, rfl, _, _, rfl, hV, hb⟩
end Go.Proofs.YtgemaohdlibboaaGreatDoor.H
/- Walks: the draw of a substitution and an instance. What is told: that they can be read; sizes. No condition. -/
namespace Go.Proofs.YtgemaohdlibboaaGreatDoor.H
open Go Go.RowKit Go.Proofs.YtgemaohdlibboaaGreatDoorW.PrintWords Go.Proofs.YtgemaohdlibboaaGreatDoorW.PrintLast
open Go.Proofs.YtgemaohdlibboaaGreatDoor.Reg (On on_draw)
set_option maxHeartbeats 8000000
set_option maxRecDepth 100000
set_option linter.unusedVariables false
set_option linter.unusedSimpArgs false

structure SiV (w : World) (v1 v2 : Value) : Prop where mk :: (out : ∃ ns vs rs fs, RSu w v1 ns vs ∧ RIn w v2 rs fs ∧ fs.length ≤ 200 ∧ ∀ f ∈ fs, f.2.length ≤ 3)
section
variable {fn : Func} {p u : Tmp} {tmps : Array Value} {w : World} {g g' : Nat} {t t' : TypeId} {cs cs' : Array Value} {fr fr' : Nat × Nat}
theorem retSI (h : fn.results = #[.cell p 41, .cell u 25]) (hp : tmps.getD p undef = .pointer (some ⟨g, 0, none⟩)) (hp' : tmps.getD u undef = .pointer (some ⟨g', 0, none⟩)) (hg : w.heap[g]? = some (.cells cs t fr)) (hg' : w.heap[g']? = some (.cells cs' t' fr')) (hs : cs.size = 2) (hs' : cs'.size = 2) : (results fn tmps).run Tryz.prog w = .ok (.tuple #[.agg cs, .agg cs']) w :=
  results_cc h tmps w g g' t t' cs cs' fr fr' _ _ hp hg Tryz.underlying41 rfl (by rw [hs]; kernel_rfl) hp' hg' Tryz.underlying25 rfl (by rw [hs']; kernel_rfl)
end
theorem DrawApplyToInstance_calls (w : World) (A c) (xs : List Int) (hc : xs.length ≤ c) (hK : kBytes.C w A xs.length xs) :
    Calls Tryz.prog 22 #[.slice A xs.length c] w (Got fun v w' => ∃ v1 v2, v = .tuple #[v1, v2] ∧ SiV w' v1 v2 ∧ On w w') := by
  have hb0 := Aside0.mk (On.alloc (On.alloc (On.refl w) (.cells #[.slice none 0 0, .slice none 0 0] 41 (0, 0))) (.cells #[.slice none 0 0, .slice none 0 0] 25 (0, 0)))
  have hL := Aside0.mk (loc2 w #[.slice none 0 0, .slice none 0 0] #[.slice none 0 0, .slice none 0 0] 41 25)
  have hw0 := Aside0.mk (show ((w.alloc (.cells #[.slice none 0 0, .slice none 0 0] 41 (0, 0))).alloc (.cells #[.slice none 0 0, .slice none 0 0] 25 (0, 0))).heap.size = w.heap.size + 2 by simp only [World.size_alloc])
  have hK' := Aside0.mk hK
  have hc' := Aside0.mk hc
  clear hK hc
  go_enter Tryz.func22, Tryz.ntmps22
  go_wp2_with (go_at_call 64; refine Stop.out ?_)
  obtain ⟨w0, hw⟩ : ∃ w0, (w.alloc (.cells #[.slice none 0 0, .slice none 0 0] 41 (0, 0))).alloc (.cells #[.slice none 0 0, .slice none 0 0] 25 (0, 0)) = w0 := ⟨_, rfl⟩
  rw [hw] at hb0 hL hw0 ⊢
  clear hw
  refine ⟨(l1New_calls w0 A c xs hc'.out (Kd.C_below hK'.out hb0.out)).mono ?_⟩
  rintro e w1 ⟨v, rfl, q, rfl, hC1, hb1⟩
  have hi1 := Aside0.mk (blk_below hL.out.1 hb1)
  have hr1 := Aside0.mk (blk_below hL.out.2.1 hb1)
  have hq := Aside0.mk (show w.heap.size + 2 ≤ q by have := hC1.lo; have := hw0.out; omega)
  have hs1 := Aside0.mk (show w.heap.size + 2 ≤ w1.heap.size by have := hb1.size; have := hw0.out; omega)
  have hql := Aside0.mk hC1.lt
  have hW1 := Aside0.mk (hb0.out.trans hb1)
  have hC1' := Aside0.mk hC1
  clear hC1 hb1 hb0 hL
  go_wp2_with (go_at_call 77; refine Stop.out ?_)
  refine ⟨(l6Sub_calls w0 w1 q hC1'.out 3 (by omega)).mono ?_⟩
  rintro e w2 ⟨v, rfl, ⟨A0, c0, A1, c1, ns, vs, rfl, hN0, hN1, hi0, hi1', -, -⟩, hC2, hE2⟩
  have hqq := hq.out
  have hO := Aside0.mk (And.intro hN0 hN1)
  have hin := Aside0.mk (And.intro hi0 hi1')
  have hC2' := Aside0.mk hC2
  have hi2 := Aside0.mk (blk_ex hE2 hi1.out (by omega))
  have hr2 := Aside0.mk (blk_ex hE2 hr1.out (by omega))
  have hW2 := Aside0.mk (Ex.on hW1.out hE2 (fun i e => by have h' : i = q := e; omega))
  have hs2 := Aside0.mk (show w1.heap.size ≤ w2.heap.size from hE2.size)
  clear hN0 hN1 hi0 hi1' hC2 hE2 hqq
  go_wp2_with (go_at_call 63; refine Stop.out ?_)
  refine ⟨(l5Any_calls w0 w2 q hC2'.out).mono ?_⟩
  rintro e w3 ⟨v, rfl, ⟨rs, fs, hR, hz1, hz2, hz3⟩, hC3, hE3⟩
  obtain ⟨B0, n0, d0, B1, n1, d1, rfl⟩ := hR.read.shape
  have hqq := hq.out
  have hql' := hql.out
  have hs1' := hs1.out
  have hR' := Aside0.mk (hR.mono (S' := fun b => b < w.heap.size + 2) (fun b h => by have := hs2.out; omega))
  have hz := Aside0.mk (And.intro hz2 hz3)
  have hi := Aside0.mk (blk_ex hE3 hi2.out (by omega))
  have hr := Aside0.mk (blk_ex hE3 hr2.out (by omega))
  have hW3 := Aside0.mk (Ex.on hW2.out hE3 (fun i e => by have h' : i = q := e; omega))
  have hA := Aside0.mk (And.intro (own_lower (own_ex hO.out.1 hE3 (fun i hi e => by have := own_base hO.out.1 i hi; have e' : i = q := e; omega)) hs1.out) (own_lower (own_ex hO.out.2 hE3 (fun i hi e => by have := own_base hO.out.2 i hi; have e' : i = q := e; omega)) hs1.out))
  clear hR hC3 hE3 hqq hql' hs1' hz1 hz2 hz3
  have hd0 := blk_cell hi.out
  have hf0 := blk_frozen hi.out
  obtain ⟨X, hX⟩ : ∃ X, (w3.setCell ⟨w.heap.size, 0, none⟩ (.slice A0 ns.length c0)).setCell ⟨w.heap.size, 1, none⟩ (.slice A1 vs.length c1) = X := ⟨_, rfl⟩
  have EX := Aside0.mk (show Ex (fun b => b = w.heap.size) w3 X from hX ▸ (Ex.set w3 ⟨w.heap.size, 0, none⟩ (.slice A0 ns.length c0)).trans (Ex.set _ ⟨w.heap.size, 1, none⟩ (.slice A1 vs.length c1)) (fun _ _ h => h))
  have hiX := Aside0.mk (show X.heap[w.heap.size]? = some (.cells #[.slice A0 ns.length c0, .slice A1 vs.length c1] 41 (0, 0)) from hX ▸ blk_set (blk_set hi.out 0 _) 1 _)
  have hrX := Aside0.mk (blk_ex EX.out hr.out (by omega))
  have hd1 := blk_cell hrX.out
  have hf1 := blk_frozen hrX.out
  rw [← hX] at hd1 hf1
  have hX' := Aside0.mk hX
  clear hX
  go_wp2
  rw [hX'.out]
  have EY := (Ex.set X ⟨w.heap.size + 1, 0, none⟩ (.slice B0 n0 d0)).trans (Ex.set _ ⟨w.heap.size + 1, 1, none⟩ (.slice B1 n1 d1)) (fun _ _ h => h)
  refine bodyPost_ret (retSI rfl rfl rfl (g := w.heap.size) (g' := w.heap.size + 1) (blk_ex EY hiX.out (fun e => by have e' : w.heap.size = w.heap.size + 1 := e; omega)) (blk_set (blk_set hrX.out 0 _) 1 _) rfl rfl) rfl ?_
  have EE := (EX.out.mono (S' := fun b => b = w.heap.size ∨ b = w.heap.size + 1) fun _ h => .inl h).trans EY (fun i hi h => .inr h)
  have hP0 := own_ex hA.out.1 EE (fun i hi e => by have := own_base hA.out.1 i hi; omega)
  have hP1 := own_ex hA.out.2 EE (fun i hi e => by have := own_base hA.out.2 i hi; omega)
  exact ⟨_, rfl, _, _, rfl, ⟨ns, vs, rs, fs, ⟨A0, c0, A1, c1, rfl, (OI.same hP0 hin.out.1).2, (OI.same hP1 hin.out.2).2⟩, (hR'.out.ex (EE.mono fun b h => by omega)).read, hz.out.1, hz.out.2⟩, Ex.on hW3.out EE (fun i h => by omega)⟩
end Go.Proofs.YtgemaohdlibboaaGreatDoor.H
/- Walks: a substitution written, by the reference. No condition. -/
namespace Go.Proofs.YtgemaohdlibboaaGreatDoor.H
open Go Go.RowKit Go.Proofs.YtgemaohdlibboaaGreatDoorW.PrintWords Go.Proofs.YtgemaohdlibboaaGreatDoorW.PrintLast
open Go.Proofs.YtgemaohdlibboaaGreatDoor.Reg (On on_draw)
set_option maxHeartbeats 4000000
set_option maxRecDepth 100000
set_option linter.unusedVariables false
set_option linter.unusedSimpArgs false

theorem sFormatSub_calls (w : World) (V : Value) (ns vs : List Int) (h : RSu w V ns vs) : Calls Tryz.prog 31 #[V] w fun e w' => e = .returned (.string (strB (fmtS ns vs))) ∧ On w w' := by
  obtain ⟨A0, c0, A1, c1, rfl, h0, h1⟩ := h.out
  have h0' := Aside0.mk h0
  have h1' := Aside0.mk h1
  have hmx := h0.max
  clear h0 h1 h
  have hbx := Aside0.mk (loc1 w #[.slice A0 ns.length c0, .slice A1 vs.length c1] 41)
  have hB0 := Aside0.mk (On.alloc (On.refl w) (.cells #[.slice A0 ns.length c0, .slice A1 vs.length c1] 41 (0, 0)))
  cases ho : okSub ns vs with
  | false =>
    have ho' := Aside0.mk ho
    clear ho
    go_enter Tryz.func31, Tryz.ntmps31
    go_wp2
    obtain ⟨w0, hw0⟩ : ∃ w0, w.alloc (.cells #[.slice A0 ns.length c0, .slice A1 vs.length c1] 41 (0, 0)) = w0 := ⟨_, rfl⟩
    rw [hw0] at hbx hB0 ⊢
    clear hw0
    go_loopw [3, 4] (fun v3 v4 wr => v3 = .string (strB []) ∧ v4 = .int .i64 (0 : Nat) ∧ On w0 wr) (fun _ v4 _ => 0)
    case atStart => exact ⟨rfl, rfl, On.refl _⟩
    case round =>
      obtain ⟨rfl, rfl, hB⟩ := hrel
      have hB' := Aside0.mk (hB0.out.trans hB)
      have hq0 := blk_cell (blk_below hbx.out.1 hB)
      clear hB
      by_cases hlt : 0 < ns.length
      · have hkb : decide ((0 : Int) < (ns.length : Int)) = true := decide_eq_true (by omega)
        have hkn : decide (0 < ns.length) = true := decide_eq_true hlt
        clear hlt
        go_wp2_with (go_at_call 29; refine Stop.out ?_)
        refine ⟨(sIsValidSub_calls _ A0 c0 A1 c1 ns vs (h0'.out.on hB'.out) (h1'.out.on hB'.out)).mono ?_⟩
        rintro e w1 ⟨rfl, hb1⟩
        rw [ho'.out]
        clear hq0
        go_wp2
        go_ret
        exact ⟨by unfold fmtS; rw [if_neg (by rw [ho'.out]; simp)]; rfl, hB'.out.trans hb1⟩
      · have hkb : decide ((0 : Int) < (ns.length : Int)) = false := decide_eq_false (by omega)
        have hkn : decide (0 < ns.length) = false := decide_eq_false hlt
        clear hlt
        go_wp2
        go_ret
        exact ⟨by unfold fmtS; rw [if_neg (by rw [ho'.out]; simp)]; rfl, hB'.out⟩
  | true =>
    have ho' := Aside0.mk ho
    have hsp := Aside0.mk (okSub_spec ho)
    have hln := Aside0.mk (okSub_len ho)
    clear ho
    go_enter Tryz.func31, Tryz.ntmps31
    go_wp2
    obtain ⟨w0, hw0⟩ : ∃ w0, w.alloc (.cells #[.slice A0 ns.length c0, .slice A1 vs.length c1] 41 (0, 0)) = w0 := ⟨_, rfl⟩
    rw [hw0] at hbx hB0 ⊢
    clear hw0
    go_loopw [3, 4] (fun v3 v4 wr => ∃ (k : Nat) (s : List UInt8), k ≤ ns.length ∧ v3 = .string (strB s) ∧ v4 = .int .i64 k ∧ Aside0 (s = txtS ns vs k) ∧ On w0 wr) (fun _ v4 _ => ns.length - (intOf v4).toNat)
    case atStart => exact ⟨0, [], Nat.zero_le _, rfl, rfl, ⟨by unfold txtS; simp [join_nil']⟩, On.refl _⟩
    case round =>
      obtain ⟨k, s, hk, rfl, rfl, hs, hB⟩ := hrel
      have hBr0 := Aside0.mk hB
      have hsl := Aside0.mk (show s.length ≤ 400 by rw [hs.out]; exact txtS_len k hln.out)
      have hbxr := Aside0.mk (blk_below hbx.out.1 hB)
      have hq0 := blk_cell hbxr.out
      clear hB
      by_cases hlt : k < ns.length
      · have hlt2 : k < vs.length := by have := hsp.out.1; omega
        have hk' := Aside0.mk hlt
        have hstep := Aside0.mk (txtS_succ k hlt hlt2)
        have hnb := Aside0.mk (hsp.out.2.1 _ (List.getElem_mem hlt))
        have hvb := Aside0.mk (h1'.out.bd k hlt2)
        go_wp2_with (go_at_call 29; refine Stop.out ?_)
        refine ⟨(sIsValidSub_calls _ A0 c0 A1 c1 ns vs (h0'.out.on (hB0.out.trans hBr0.out)) (h1'.out.on (hB0.out.trans hBr0.out))).mono ?_⟩
        rintro e w1 ⟨rfl, hb1⟩
        rw [ho'.out]
        have hBr := Aside0.mk (hBr0.out.trans hb1)
        clear hq0
        have hbx1 := Aside0.mk (blk_below hbxr.out hb1)
        have hq0 := blk_cell hbx1.out
        clear hb1
        obtain ⟨ad, rfl, x0⟩ := (h0'.out.on (hB0.out.trans hBr.out)).at k hlt
        obtain ⟨bd, rfl, x1⟩ := (h1'.out.on (hB0.out.trans hBr.out)).at k hlt2
        obtain ⟨n, hn⟩ : ∃ n, ns[k] = n := ⟨_, rfl⟩
        obtain ⟨v, hv⟩ : ∃ v, vs[k] = v := ⟨_, rfl⟩
        rw [hn] at x0 hstep hnb
        rw [hv] at x1 hstep hvb
        clear hn hv
        have hfa := Aside0.mk (fvL_len (-1 - n))
        have hfb := Aside0.mk (fvL_len v)
        have hs' := Aside0.mk hs.out
        clear hs
        by_cases hk0 : 0 < k
        · have hkb : decide ((0 : Int) < (k : Int)) = true := decide_eq_true (by omega)
          have hkn : decide (0 < k) = true := decide_eq_true hk0
          have c2 := cat1 s 32
          have z2 := szOk1 (a := s) (by have := hsl.out; omega)
          obtain ⟨t, ht⟩ : ∃ t, s ++ [32] = t := ⟨_, rfl⟩
          have htl := Aside0.mk (show t.length ≤ 401 by rw [← ht]; have := hsl.out; simp; omega)
          have hst := Aside0.mk (show (if k = 0 then [] else txtS ns vs k ++ [32]) = t by rw [if_neg (by omega), ← ht, hs'.out])
          rw [ht] at c2
          clear ht hk0
          have c3 := strB_append t (fvL (-1 - n))
          have z3 := szOk (a := t) (b := fvL (-1 - n)) (by have := htl.out; have := hfa.out; omega)
          obtain ⟨x, hx⟩ : ∃ x, t ++ fvL (-1 - n) = x := ⟨_, rfl⟩
          have hxl := Aside0.mk (show x.length ≤ 404 by rw [← hx]; have := htl.out; have := hfa.out; simp; omega)
          rw [hx] at c3
          have c4 := cat1 x 61
          have z4 := szOk1 (a := x) (by have := hxl.out; omega)
          obtain ⟨y, hy⟩ : ∃ y, x ++ [61] = y := ⟨_, rfl⟩
          have hyl := Aside0.mk (show y.length ≤ 405 by rw [← hy]; have := hxl.out; simp; omega)
          rw [hy] at c4
          have c5 := strB_append y (fvL v)
          have z5 := szOk (a := y) (b := fvL v) (by have := hyl.out; have := hfb.out; omega)
          have hfin := Aside0.mk (show y ++ fvL v = txtS ns vs (k + 1) by rw [← hy, ← hx, hstep.out, hst.out]; simp [itL])
          clear hx hy
          go_wp2
          refine Reg.region [(0,.L),(1,.L),(2,.L),(3,.L),(4,.L),(5,.L),(6,.C),(7,.C),(8,.L),(9,.L),(10,.L),(11,.L),(12,.L),(13,.L),(14,.L),(15,.C),(16,.L)] [17] (by kernel_rfl) (by kernel_rfl) ?_
          repeat first | refine sP ?_ | refine sS ?_ | refine sA ?_ | refine sL ?_ | refine sQ ?_ | refine sO ?_
          refine callC (.int .i64 (-1 - n)) Tryz.func90 (fun w' hS => ?_) ?_
          focus exact sNullValue_calls w' n (by have := hnb.out; omega)
          repeat first | refine sP ?_ | refine sS ?_ | refine sA ?_ | refine sL ?_ | refine sQ ?_ | refine sO ?_
          refine callC (.string (strB (fvL (-1 - n)))) Tryz.func96 (fun w' hS => ?_) ?_
          focus exact sFormatValue_calls w' (-1 - n) (by have := hnb.out; omega)
          repeat first | refine sP ?_ | refine sS ?_ | refine sA ?_ | refine sL ?_ | refine sQ ?_ | refine sO ?_
          refine callC (.string (strB (fvL v))) Tryz.func96 (fun w' hS => ?_) ?_
          focus exact sFormatValue_calls w' v hvb.out
          repeat first | refine sP ?_ | refine sS ?_ | refine sA ?_ | refine sL ?_ | refine sQ ?_ | refine sO ?_
          refine Reg.tail_ fun w3 hS => ?_
          have hb3' := Aside0.mk (hBr.out.trans hS)
          clear hS
          go_wp2
          exact ⟨⟨k + 1, _, by have := hk'.out; omega, rfl, by go_num, ⟨hfin.out⟩, hb3'.out⟩, by simp [intOf]; have := hk'.out; omega⟩
        · have hkb : decide ((0 : Int) < (k : Int)) = false := decide_eq_false (by omega)
          have hkn : decide (0 < k) = false := decide_eq_false hk0
          obtain ⟨t, ht⟩ : ∃ t, s = t := ⟨_, rfl⟩
          subst ht
          have htl := Aside0.mk (show s.length ≤ 401 by have := hsl.out; omega)
          have hst := Aside0.mk (show (if k = 0 then [] else txtS ns vs k ++ [32]) = s by rw [if_pos (by omega), hs'.out, show k = 0 by omega]; unfold txtS; simp [join_nil'])
          clear hk0
          have c3 := strB_append s (fvL (-1 - n))
          have z3 := szOk (a := s) (b := fvL (-1 - n)) (by have := htl.out; have := hfa.out; omega)
          obtain ⟨x, hx⟩ : ∃ x, s ++ fvL (-1 - n) = x := ⟨_, rfl⟩
          have hxl := Aside0.mk (show x.length ≤ 404 by rw [← hx]; have := htl.out; have := hfa.out; simp; omega)
          rw [hx] at c3
          have c4 := cat1 x 61
          have z4 := szOk1 (a := x) (by have := hxl.out; omega)
          obtain ⟨y, hy⟩ : ∃ y, x ++ [61] = y := ⟨_, rfl⟩
          have hyl := Aside0.mk (show y.length ≤ 405 by rw [← hy]; have := hxl.out; simp; omega)
          rw [hy] at c4
          have c5 := strB_append y (fvL v)
          have z5 := szOk (a := y) (b := fvL v) (by have := hyl.out; have := hfb.out; omega)
          have hfin := Aside0.mk (show y ++ fvL v = txtS ns vs (k + 1) by rw [← hy, ← hx, hstep.out, hst.out]; simp [itL])
          clear hx hy
          go_wp2
          refine Reg.region [(0,.L),(1,.L),(2,.L),(3,.L),(4,.L),(5,.L),(6,.C),(7,.C),(8,.L),(9,.L),(10,.L),(11,.L),(12,.L),(13,.L),(14,.L),(15,.C),(16,.L)] [17] (by kernel_rfl) (by kernel_rfl) ?_
          repeat first | refine sP ?_ | refine sS ?_ | refine sA ?_ | refine sL ?_ | refine sQ ?_ | refine sO ?_
          refine callC (.int .i64 (-1 - n)) Tryz.func90 (fun w' hS => ?_) ?_
          focus exact sNullValue_calls w' n (by have := hnb.out; omega)
          repeat first | refine sP ?_ | refine sS ?_ | refine sA ?_ | refine sL ?_ | refine sQ ?_ | refine sO ?_
          refine callC (.string (strB (fvL (-1 - n)))) Tryz.func96 (fun w' hS => ?_) ?_
          focus exact sFormatValue_calls w' (-1 - n) (by have := hnb.out; omega)
          repeat first | refine sP ?_ | refine sS ?_ | refine sA ?_ | refine sL ?_ | refine sQ ?_ | refine sO ?_
          refine callC (.string (strB (fvL v))) Tryz.func96 (fun w' hS => ?_) ?_
          focus exact sFormatValue_calls w' v hvb.out
          repeat first | refine sP ?_ | refine sS ?_ | refine sA ?_ | refine sL ?_ | refine sQ ?_ | refine sO ?_
          refine Reg.tail_ fun w3 hS => ?_
          have hb3' := Aside0.mk (hBr.out.trans hS)
          clear hS
          go_wp2
          exact ⟨⟨k + 1, _, by have := hk'.out; omega, rfl, by go_num, ⟨hfin.out⟩, hb3'.out⟩, by simp [intOf]; have := hk'.out; omega⟩
      · have hfin := Aside0.mk (show s = fmtS ns vs by unfold fmtS; rw [if_pos ho'.out, hs.out, txtS_all k (by omega)])
        clear hs
        go_wp2
        go_ret
        exact ⟨by rw [← hfin.out]; rfl, hB0.out.trans hBr0.out⟩
end Go.Proofs.YtgemaohdlibboaaGreatDoor.H
/- Walks: a substitution written, by the program. No condition. -/
namespace Go.Proofs.YtgemaohdlibboaaGreatDoor.H
open Go Go.RowKit Go.Proofs.YtgemaohdlibboaaGreatDoorW.PrintWords Go.Proofs.YtgemaohdlibboaaGreatDoorW.PrintLast
open Go.Proofs.YtgemaohdlibboaaGreatDoor.Reg (On on_draw)
set_option maxHeartbeats 4000000
set_option maxRecDepth 100000
set_option linter.unusedVariables false
set_option linter.unusedSimpArgs false

theorem iFormatSub_calls (w : World) (V : Value) (ns vs : List Int) (h : RSu w V ns vs) : Calls Tryz.prog 30 #[V] w fun e w' => e = .returned (.string (strB (fmtS ns vs))) ∧ On w w' := by
  obtain ⟨A0, c0, A1, c1, rfl, h0, h1⟩ := h.out
  have h0' := Aside0.mk h0
  have h1' := Aside0.mk h1
  have hmx := h0.max
  clear h0 h1 h
  have hbx := Aside0.mk (loc1 w #[.slice A0 ns.length c0, .slice A1 vs.length c1] 41)
  have hB0 := Aside0.mk (On.alloc (On.refl w) (.cells #[.slice A0 ns.length c0, .slice A1 vs.length c1] 41 (0, 0)))
  cases ho : okSub ns vs with
  | false =>
    have ho' := Aside0.mk ho
    clear ho
    go_enter Tryz.func30, Tryz.ntmps30
    go_wp2_with (go_at_call 28; refine Stop.out ?_)
    refine ⟨(iIsValidSub_calls _ A0 c0 A1 c1 ns vs (h0'.out.on hB0.out) (h1'.out.on hB0.out)).mono ?_⟩
    rintro e w1 ⟨rfl, hb1⟩
    rw [ho'.out]
    go_wp2
    go_ret
    exact ⟨by unfold fmtS; rw [if_neg (by rw [ho'.out]; simp)]; rfl, hB0.out.trans hb1⟩
  | true =>
    have ho' := Aside0.mk ho
    have hsp := Aside0.mk (okSub_spec ho)
    have hln := Aside0.mk (okSub_len ho)
    clear ho
    go_enter Tryz.func30, Tryz.ntmps30
    go_wp2_with (go_at_call 28; refine Stop.out ?_)
    refine ⟨(iIsValidSub_calls _ A0 c0 A1 c1 ns vs (h0'.out.on hB0.out) (h1'.out.on hB0.out)).mono ?_⟩
    rintro e w1 ⟨rfl, hb1⟩
    rw [ho'.out]
    have hB1 := Aside0.mk (hB0.out.trans hb1)
    have hbx1 := Aside0.mk (blk_below hbx.out.1 hb1)
    have hq0 := blk_cell (blk_below hbx1.out (On.alloc (On.refl w1) (.cells #[] 9 (0, 0))))
    clear hb1
    go_wp2
    clear hq0
    go_loopw [3, 13] (fun v3 v13 wr => ∃ k : Nat, k ≤ ns.length ∧ v13 = .int .i64 k ∧ OSt wr w1.heap.size v3 ((itsL ns vs).take k) ∧ On w1 wr) (fun _ v13 _ => ns.length - (intOf v13).toNat)
    case atStart => exact ⟨0, Nat.zero_le _, rfl, ownS0 rfl (Nat.le_refl _), On.alloc (On.refl _) _⟩
    case round =>
      obtain ⟨k, hk, rfl, hO, hB⟩ := hrel
      have hB' := Aside0.mk hB
      obtain ⟨ls, hls⟩ : ∃ ls, (itsL ns vs).take k = ls := ⟨_, rfl⟩
      rw [hls] at hO
      have hls' := Aside0.mk hls
      have hO' := Aside0.mk hO
      have hbxr := Aside0.mk (blk_below hbx1.out hB)
      have hq0 := blk_cell hbxr.out
      clear hB hO hls
      by_cases hlt : k < ns.length
      · have hlt2 : k < vs.length := by have := hsp.out.1; omega
        have hk' := Aside0.mk hlt
        have hlk := Aside0.mk (show ls.length ≤ 40 by rw [← hls'.out, List.length_take]; have := hln.out; omega)
        have hstep := Aside0.mk (its_take ns vs k hlt hlt2)
        have hnb := Aside0.mk (hsp.out.2.1 _ (List.getElem_mem hlt))
        have hvb := Aside0.mk (h1'.out.bd k hlt2)
        obtain ⟨ad, rfl, x0⟩ := (h0'.out.on (hB1.out.trans hB'.out)).at k hlt
        obtain ⟨bd, rfl, x1⟩ := (h1'.out.on (hB1.out.trans hB'.out)).at k hlt2
        obtain ⟨n, hn⟩ : ∃ n, ns[k] = n := ⟨_, rfl⟩
        obtain ⟨v, hv⟩ : ∃ v, vs[k] = v := ⟨_, rfl⟩
        rw [hn] at x0 hstep hnb
        rw [hv] at x1 hstep hvb
        clear hn hv
        have hfa := Aside0.mk (fvL_len (-1 - n))
        have hfb := Aside0.mk (fvL_len v)
        have c4 := cat1 (fvL (-1 - n)) 61
        have z4 := szOk1 (a := fvL (-1 - n)) (by have := hfa.out; omega)
        obtain ⟨t, ht⟩ : ∃ t, fvL (-1 - n) ++ [61] = t := ⟨_, rfl⟩
        have htl := Aside0.mk (show t.length ≤ 5 by rw [← ht]; have := hfa.out; simp; omega)
        rw [ht] at c4
        have c5 := strB_append t (fvL v)
        have z5 := szOk (a := t) (b := fvL v) (by have := htl.out; have := hfb.out; omega)
        obtain ⟨y, hy⟩ : ∃ y, t ++ fvL v = y := ⟨_, rfl⟩
        rw [hy] at c5
        have hyr := Aside0.mk (show itL n v = y by rw [← hy, ← ht]; rfl)
        clear ht hy
        go_wp2
        refine Reg.region [(0,.P),(1,.L),(2,.C),(3,.C),(4,.L),(5,.L),(6,.L),(7,.L),(8,.L),(9,.L),(10,.C),(11,.L)] [12,13,14] (by kernel_rfl) (by kernel_rfl) ?_
        repeat first | refine sP ?_ | refine sS ?_ | refine sA ?_ | refine sL ?_ | refine sQ ?_ | refine sO ?_
        refine callC (.int .i64 (-1 - n)) Tryz.func87 (fun w' hS => ?_) ?_
        focus exact iNullValue_calls w' n (by have := hnb.out; omega)
        repeat first | refine sP ?_ | refine sS ?_ | refine sA ?_ | refine sL ?_ | refine sQ ?_ | refine sO ?_
        refine callC (.string (strB (fvL (-1 - n)))) Tryz.func95 (fun w' hS => ?_) ?_
        focus exact iFormatValue_calls w' (-1 - n) (by have := hnb.out; omega)
        repeat first | refine sP ?_ | refine sS ?_ | refine sA ?_ | refine sL ?_ | refine sQ ?_ | refine sO ?_
        refine callC (.string (strB (fvL v))) Tryz.func95 (fun w' hS => ?_) ?_
        focus exact iFormatValue_calls w' v hvb.out
        repeat first | refine sP ?_ | refine sS ?_ | refine sA ?_ | refine sL ?_ | refine sQ ?_ | refine sO ?_
        refine Reg.tail_ fun w2 hS => ?_
        clear hq0
        refine litS1 30 (y := y) ?_
        have hOA := Aside0.mk (own_ex hO'.out (Ex.of_on (S := fun _ => False) (hS.trans (On.alloc (On.refl w2) (.cells #[.string (strB y)] 9 (0, 0))))) (fun _ _ h => h))
        have hBA := Aside0.mk (hB'.out.trans (hS.trans (On.alloc (On.refl w2) (.cells #[.string (strB y)] 9 (0, 0)))))
        obtain ⟨ys, hys⟩ : ∃ ys, ls ++ [y] = ys := ⟨_, rfl⟩
        have hys' := Aside0.mk hys
        refine apS1 31 hys hOA.out (lit_S w2 y) hBA.out.size (by have := hlk.out; simp; omega) fun v3 w3 hO3 hg3 => ?_
        have hO3' := Aside0.mk hO3
        have hB3 := Aside0.mk (Ex.on hBA.out (Ex.of_grown hg3) (fun i e => own_base hO'.out i e.symm))
        clear hys hO3 hg3
        go_wp2
        refine ⟨⟨k + 1, by have := hk'.out; omega, by go_num, ?_, hB3.out⟩, by simp [intOf]; have := hk'.out; omega⟩
        rw [hstep.out, hls'.out, hyr.out, hys'.out]; exact hO3'.out
      · have e1 : (itsL ns vs).take k = itsL ns vs := List.take_of_length_le (by rw [its_len hsp.out.1]; omega)
        have hls2 := Aside0.mk (show itsL ns vs = ls by rw [← hls'.out, e1])
        clear e1
        obtain ⟨Aq, cq, rfl⟩ := own_slice hO'.out
        have hSt' := Aside0.mk (OSt.same hO'.out).2
        have hjl := Aside0.mk (show (Lib.join ls [32]).length ≤ 400 by rw [← hls2.out]; have := txtS_len (vs := vs) ns.length hln.out; rwa [txtS_all _ (Nat.le_refl _)] at this)
        have hll := Aside0.mk (show ls.length ≤ 1000000 by rw [← hls2.out, its_len hsp.out.1]; have := hln.out; omega)
        have hfin := Aside0.mk (show Lib.join ls [32] = fmtS ns vs by unfold fmtS; rw [if_pos ho'.out, hls2.out])
        obtain ⟨j, hj⟩ : ∃ j, Lib.join ls [32] = j := ⟨_, rfl⟩
        have hj' := Aside0.mk hj
        rw [hj] at hjl hfin
        clear hj
        go_wp2_with (go_at_call 65; refine Stop.out ?_)
        refine ⟨(Join_calls wr Aq cq ls [32] hSt'.out hll.out (by rw [hj'.out]; have := hjl.out; omega)).mono ?_⟩
        rintro e w2 ⟨rfl, hb2⟩
        rw [hj'.out]
        go_wp2
        go_ret
        exact ⟨by rw [← hfin.out]; rfl, (hB1.out.trans hB'.out).trans hb2⟩
end Go.Proofs.YtgemaohdlibboaaGreatDoor.H
/- Walks: the library's Grow and Concat at rows of numbers. No condition. -/
namespace Go.Proofs.YtgemaohdlibboaaGreatDoor.H
open Go Go.RowKit Go.Proofs.YtgemaohdlibboaaGreatDoorW.PrintWords Go.Proofs.YtgemaohdlibboaaGreatDoorW.PrintLast
open Go.Proofs.YtgemaohdlibboaaGreatDoor.Reg (On on_draw)
set_option maxHeartbeats 8000000
set_option maxRecDepth 100000
set_option linter.unusedVariables false
set_option linter.unusedSimpArgs false

theorem own_cut0 {base g cap n : Nat} {e : TypeId} {w : World} {xs : List Value} (h : w.ownsRow base e 1 (.slice (some ⟨g, 0, none⟩) n cap) n xs) : w.ownsRow base e 1 (.slice (some ⟨g, 0, none⟩) 0 cap) 0 [] := by
  rcases h.2 with ⟨h', _⟩ | ⟨g', cap', cur, h', hg, hh, hnc, hcm, hcs, htk⟩
  · cases h'
  · injection h' with h1 h2 h3
    injection h1 with h1
    injection h1 with h1
    subst h1 h3
    exact ⟨rfl, .inr ⟨g, cap, cur, rfl, hg, hh, Nat.zero_le _, hcm, hcs, by simp⟩⟩
theorem growI_calls (w : World) (m : Nat) (hm : m ≤ 1000000) : Calls Tryz.prog 156 #[.slice none 0 0, .int .i64 m] w (Got fun v w' => OI w' w.heap.size v [] ∧ On w w') := by
  have hm' := Aside0.mk hm
  have b0 : decide ((m : Int) < 0) = false := decide_eq_false (by omega)
  have HB := Aside0.mk (On.refl w)
  have ew : wrap64 ((m : Int) - 0) = m := by unfold wrap64; omega
  have ew2 : wrap64 (m : Int) = m := by unfold wrap64; omega
  by_cases hp : 0 < m
  · have b1 : decide ((0 : Int) < (m : Int)) = true := decide_eq_true (by omega)
    have b2 : decide (0 < m) = true := decide_eq_true hp
    have HO := Aside0.mk (Kd.R_nil (Kd.int .i64) 3 w w.heap.size (fun _ => True))
    have hp' := Aside0.mk hp
    clear hp hm
    go_enter Tryz.func156, Tryz.ntmps156
    go_wp2_with (refine gate 22 ?_)
    refine ⟨?_⟩
    refine Kd.R_append_zeros (Kd.int .i64) (w0 := w) w.heap.size rfl (.tmp 20) (.tmp 21) 39 3 3 (.int .i64 0) 8 rfl Tryz.underlying39 Tryz.underlying3 infoI rfl (by decide) (by omega) (.slice none 0 0) [] 0 m (fun _ => True) rfl (congrArg (Value.int .i64) ew2) rfl (fun _ _ => trivial) HO.out (by omega) HB.out (Nat.le_refl _) (by have := hm'.out; simp; omega) fun v7 w7 ho7 hb7 _ _ => ?_
    have HO7 := Aside0.mk ho7
    have HB7 := Aside0.mk hb7
    clear ho7 hb7
    obtain ⟨g7, cap7, ev7, _, _⟩ := (Kd.own_of_R HO7.out).form (by have := hp'.out; simp; omega)
    subst ev7
    go_wp2
    go_ret
    exact ⟨_, rfl, own_cut0 (Kd.own_of_R HO7.out), HB7.out⟩
  · have b1 : decide ((0 : Int) < (m : Int)) = false := decide_eq_false (by omega)
    have b2 : decide (0 < m) = false := decide_eq_false hp
    clear hp hm
    go_enter Tryz.func156, Tryz.ntmps156
    go_wp2
    go_ret
    exact ⟨_, rfl, World.ownsRow_nil _ _ _ _, HB.out⟩
def szK (a b : Nat) : Nat → Nat
  | 0 => 0
  | 1 => a
  | _ => a + b
def catK (a b : List Int) : Nat → List Int
  | 0 => []
  | 1 => a
  | _ => a ++ b
theorem Concat_calls (w : World) (g A0 c0 B0 d0) (an bn : List Int) (hg : w.heap[g]? = some (.cells #[.slice A0 an.length c0, .slice B0 bn.length d0] 39 (0, 0))) (h0 : Ints w A0 c0 an) (k0 : Ints w B0 d0 bn) (hl0 : an.length ≤ 1000) (hl1 : bn.length ≤ 1000) :
    Calls Tryz.prog 83 #[.slice (some ⟨g, 0, none⟩) 2 2] w (Got fun v w' => OI w' w.heap.size v (an ++ bn) ∧ On w w') := by
  have hg' := Aside0.mk hg
  have h0' := Aside0.mk h0
  have k0' := Aside0.mk k0
  have hl0' := Aside0.mk hl0
  have hl1' := Aside0.mk hl1
  clear hg h0 k0 hl0 hl1
  go_enter Tryz.func83, Tryz.ntmps83
  go_wp2
  go_loopw [3, 11] (fun v3 v11 wr => ∃ k m : Nat, k ≤ 2 ∧ v11 = .int .i64 k ∧ v3 = .int .i64 m ∧ Aside0 (m = szK an.length bn.length k) ∧ On w wr) (fun _ v11 _ => 2 - (intOf v11).toNat)
  case atStart => exact ⟨0, 0, Nat.zero_le _, rfl, rfl, ⟨rfl⟩, On.refl _⟩
  case round =>
    obtain ⟨k, m, hk, rfl, rfl, hm, hB⟩ := hrel
    have hq := blk_cell (blk_below hg'.out hB)
    obtain rfl | rfl | rfl : k = 0 ∨ k = 1 ∨ k = 2 := by omega
    · obtain rfl : m = 0 := hm.out
      have ew := Aside0.mk (show wrap64 (an.length : Int) = an.length by have := hl0'.out; rw [IntWalk.wrap64_in _ (by omega)])
      have ex : decide (wrap64 (an.length : Int) < 0) = false := decide_eq_false (by rw [ew.out]; omega)
      clear hm hk
      go_wp2
      exact ⟨⟨1, an.length, by omega, by go_num, congrArg (Value.int .i64) ew.out, ⟨rfl⟩, hB⟩, by simp [intOf]⟩
    · obtain rfl : m = an.length := hm.out
      have ew := Aside0.mk (show wrap64 ((an.length : Int) + (bn.length : Int)) = ((an.length + bn.length : Nat) : Int) by have := hl0'.out; have := hl1'.out; rw [IntWalk.wrap64_in _ (by omega)]; omega)
      have ex : decide (wrap64 ((an.length : Int) + (bn.length : Int)) < 0) = false := decide_eq_false (by rw [ew.out]; omega)
      clear hm hk
      go_wp2
      exact ⟨⟨2, an.length + bn.length, by omega, by go_num, congrArg (Value.int .i64) ew.out, ⟨rfl⟩, hB⟩, by simp [intOf]⟩
    · obtain rfl : m = an.length + bn.length := hm.out
      clear hm hk
      have hB' := Aside0.mk hB
      clear hB hq
      go_wp2_with (go_at_call 156; refine Stop.out ?_)
      refine ⟨(growI_calls wr (an.length + bn.length) (by have := hl0'.out; have := hl1'.out; omega)).mono ?_⟩
      rintro e w2 ⟨v2, rfl, hO2, hb2⟩
      have hO2' := Aside0.mk hO2
      have hB2 := Aside0.mk (hB'.out.trans hb2)
      have hws := Aside0.mk hB'.out.size
      clear hO2 hb2
      go_wp2
      go_loopw [6, 27] (fun v6 v27 wt => ∃ k : Nat, k ≤ 2 ∧ v27 = .int .i64 k ∧ Aside0 (OI wt w.heap.size v6 (catK an bn k)) ∧ On w wt) (fun _ v27 _ => 2 - (intOf v27).toNat)
      case atStart => exact ⟨0, Nat.zero_le _, rfl, ⟨own_lower hO2'.out hws.out⟩, hB2.out⟩
      case round =>
        obtain ⟨k, hk, rfl, hO, hB⟩ := hrel
        have hq := blk_cell (blk_below hg'.out hB)
        have hB' := Aside0.mk hB
        clear hB
        obtain rfl | rfl | rfl : k = 0 ∨ k = 1 ∨ k = 2 := by omega
        · clear hk
          go_wp2_with (refine gate 33 ?_)
          refine ⟨apI 33 (List.nil_append an) (OI.to hO.out) (h0'.out.on hB'.out).2.1 hB'.out.size (by have := hl0'.out; simp; omega) fun v6 w6 hO6 hg6 hat6 => ?_⟩
          have hO6' := Aside0.mk (OI.of hO6)
          have hB6 := Aside0.mk (Ex.on hB'.out (Ex.of_grown hg6) (fun i e => own_base hO.out i e.symm))
          clear hO6 hg6 hat6 hq
          go_wp2
          exact ⟨⟨1, by omega, by go_num, ⟨hO6'.out⟩, hB6.out⟩, by simp [intOf]⟩
        · clear hk
          obtain ⟨zs, hz⟩ : ∃ zs, an ++ bn = zs := ⟨_, rfl⟩
          have hz' := Aside0.mk hz
          go_wp2_with (refine gate 33 ?_)
          refine ⟨apI 33 hz (OI.to hO.out) (k0'.out.on hB'.out).2.1 hB'.out.size (by have := hl0'.out; have := hl1'.out; show an.length + _ ≤ _; omega) fun v6 w6 hO6 hg6 hat6 => ?_⟩
          have hO6' := Aside0.mk (OI.of hO6)
          have hB6 := Aside0.mk (Ex.on hB'.out (Ex.of_grown hg6) (fun i e => own_base hO.out i e.symm))
          clear hO6 hg6 hat6 hq hz
          go_wp2
          exact ⟨⟨2, by omega, by go_num, ⟨show OI w6 _ v6 (an ++ bn) from hz'.out ▸ hO6'.out⟩, hB6.out⟩, by simp [intOf]⟩
        · clear hk hq
          go_wp2
          go_ret
          exact ⟨_, rfl, hO.out, hB'.out⟩
end Go.Proofs.YtgemaohdlibboaaGreatDoor.H
/- Walks: the program composes substitutions. No condition. -/
namespace Go.Proofs.YtgemaohdlibboaaGreatDoor.H
open Go Go.RowKit Go.Proofs.YtgemaohdlibboaaGreatDoorW.PrintWords Go.Proofs.YtgemaohdlibboaaGreatDoorW.PrintLast
open Go.Proofs.YtgemaohdlibboaaGreatDoor.Reg (On on_draw)
set_option maxHeartbeats 8000000
set_option maxRecDepth 100000
set_option linter.unusedVariables false
set_option linter.unusedSimpArgs false

def cpN (r : Bool) (an bn : List Int) : List Int := bif r then cmpN an bn else []
def cpV (r : Bool) (an av bn bv : List Int) : List Int := bif r then cmpV an av bn bv else []
theorem RSu.nil (w : World) : RSu w (.agg #[.slice none 0 0, .slice none 0 0]) [] [] := by
  obtain ⟨A, c, e, h⟩ := OI.rd (w := w) (lo := 0) (v := .slice none 0 0) (xs := []) (World.ownsRow_nil _ _ _ _) (fun x hx => by cases hx)
  injection e with e1 e2 e3
  subst e1 e3
  exact ⟨none, 0, none, 0, rfl, h, h⟩
theorem own_ne_box {w : World} {lo g : Nat} {v : Value} {xs : List Int} {cs : Array Value} (h : OI w lo v xs) (hg : w.heap[g]? = some (.cells cs 41 (0, 0))) : ∀ b, v.ownBlock = some b → b ≠ g := by
  intro b hb e
  subst e
  rcases h.2 with ⟨rfl, _⟩ | ⟨g', cap', cur, rfl, _, hh, _⟩
  · simp [Value.ownBlock] at hb
  · obtain rfl : g' = b := by simpa [Value.ownBlock] using hb
    rw [hg] at hh
    injection hh with hh
    injection hh with _ hh
    exact absurd hh (by decide)
theorem iCompose_calls (w : World) (V U : Value) (an av bn bv : List Int) (h : RSu w V an av) (k : RSu w U bn bv) :
    Calls Tryz.prog 26 #[V, U] w (Got fun r w' => ∃ v1, r = .tuple #[v1, .bool (okSub an av && okSub bn bv)] ∧ RSu w' v1 (cpN (okSub an av && okSub bn bv) an bn) (cpV (okSub an av && okSub bn bv) an av bn bv) ∧ On w w') := by
  obtain ⟨A0, c0, A1, c1, rfl, h0, h1⟩ := h.out
  obtain ⟨B0, d0, B1, d1, rfl, k0, k1⟩ := k.out
  have h0' := Aside0.mk h0
  have h1' := Aside0.mk h1
  have k0' := Aside0.mk k0
  have k1' := Aside0.mk k1
  clear h0 h1 k0 k1 h k
  have hb := Aside0.mk (On.alloc (On.alloc (On.alloc (On.refl w) (.cells #[.slice A0 an.length c0, .slice A1 av.length c1] 41)) (.cells #[.slice B0 bn.length d0, .slice B1 bv.length d1] 41)) (.cells #[.slice none 0 0, .slice none 0 0] 41))
  have hL := Aside0.mk (loc3 w #[.slice A0 an.length c0, .slice A1 av.length c1] #[.slice B0 bn.length d0, .slice B1 bv.length d1] #[.slice none 0 0, .slice none 0 0] 41 41 41)
  have hsz3 := Aside0.mk (show (((w.alloc (.cells #[.slice A0 an.length c0, .slice A1 av.length c1] 41)).alloc (.cells #[.slice B0 bn.length d0, .slice B1 bv.length d1] 41)).alloc (.cells #[.slice none 0 0, .slice none 0 0] 41)).heap.size = w.heap.size + 3 by simp)
  obtain ⟨r, hr⟩ : ∃ r, (okSub an av && okSub bn bv) = r := ⟨_, rfl⟩
  rw [hr]
  cases ha : okSub an av with
  | false =>
    have hno := Aside0.mk (show r = false by rw [← hr, ha]; rfl)
    have ha' := Aside0.mk ha
    clear ha hr
    go_enter Tryz.func26, Tryz.ntmps26
    go_wp2_with (go_at_call 28; refine Stop.out ?_)
    obtain ⟨Wx, hWx⟩ : ∃ Wx, ((w.alloc (.cells #[.slice A0 an.length c0, .slice A1 av.length c1] 41 (0, 0))).alloc (.cells #[.slice B0 bn.length d0, .slice B1 bv.length d1] 41 (0, 0))).alloc (.cells #[.slice none 0 0, .slice none 0 0] 41 (0, 0)) = Wx := ⟨_, rfl⟩
    rw [hWx] at hb hL hsz3 ⊢
    clear hWx
    refine ⟨(iIsValidSub_calls _ A0 c0 A1 c1 an av (h0'.out.on hb.out) (h1'.out.on hb.out)).mono ?_⟩
    rintro e w1 ⟨rfl, hb1⟩
    rw [ha'.out]
    have hx1 := Aside0.mk hb1
    have hL1 := Aside0.mk (Loc.on hb1 hL.out)
    clear hb1
    have hr1 := Aside0.mk hL1.out.2.2.1
    have hdr := blk_cell hr1.out
    have hfr := blk_frozen hr1.out
    go_wp2
    refine bodyPost_ret (retSB2 rfl rfl (g := w.heap.size + 1 + 1) (blk_set (blk_set hr1.out 0 _) 1 _) rfl) rfl ?_
    exact ⟨_, rfl, _, congrArg (fun b => Value.tuple #[_, .bool b]) hno.out.symm, hno.out ▸ RSu.nil _, Reg.On.set (Reg.On.set (hb.out.trans hx1.out) (by simp; omega) _) (by simp; omega) _⟩
  | true =>
    cases hbb : okSub bn bv with
    | false =>
      have hno := Aside0.mk (show r = false by rw [← hr, ha, hbb]; rfl)
      have ha' := Aside0.mk ha
      have hb' := Aside0.mk hbb
      clear ha hbb hr
      go_enter Tryz.func26, Tryz.ntmps26
      go_wp2_with (go_at_call 28; refine Stop.out ?_)
      obtain ⟨Wx, hWx⟩ : ∃ Wx, ((w.alloc (.cells #[.slice A0 an.length c0, .slice A1 av.length c1] 41 (0, 0))).alloc (.cells #[.slice B0 bn.length d0, .slice B1 bv.length d1] 41 (0, 0))).alloc (.cells #[.slice none 0 0, .slice none 0 0] 41 (0, 0)) = Wx := ⟨_, rfl⟩
      rw [hWx] at hb hL hsz3 ⊢
      clear hWx
      refine ⟨(iIsValidSub_calls _ A0 c0 A1 c1 an av (h0'.out.on hb.out) (h1'.out.on hb.out)).mono ?_⟩
      rintro e w1 ⟨rfl, hb1⟩
      rw [ha'.out]
      have hx1 := Aside0.mk hb1
      have hL1 := Aside0.mk (Loc.on hb1 hL.out)
      clear hb1
      have hd1 := blk_cell hL1.out.2.1
      go_wp2_with (go_at_call 28; refine Stop.out ?_)
      refine ⟨(iIsValidSub_calls _ B0 d0 B1 d1 bn bv (k0'.out.on (hb.out.trans hx1.out)) (k1'.out.on (hb.out.trans hx1.out))).mono ?_⟩
      rintro e w2 ⟨rfl, hb2⟩
      rw [hb'.out]
      clear hd1
      replace hx1 := Aside0.mk (hx1.out.trans hb2)
      replace hL1 := Aside0.mk (Loc.on hx1.out hL.out)
      clear hb2
      have hr1 := Aside0.mk hL1.out.2.2.1
      have hdr := blk_cell hr1.out
      have hfr := blk_frozen hr1.out
      go_wp2
      refine bodyPost_ret (retSB2 rfl rfl (g := w.heap.size + 1 + 1) (blk_set (blk_set hr1.out 0 _) 1 _) rfl) rfl ?_
      exact ⟨_, rfl, _, congrArg (fun b => Value.tuple #[_, .bool b]) hno.out.symm, hno.out ▸ RSu.nil _, Reg.On.set (Reg.On.set (hb.out.trans hx1.out) (by simp; omega) _) (by simp; omega) _⟩
    | true =>
      have hno := Aside0.mk (show r = true by rw [← hr, ha, hbb]; rfl)
      have ha' := Aside0.mk ha
      have hb' := Aside0.mk hbb
      have hl0 := Aside0.mk (okSub_len ha)
      have hl1 := Aside0.mk (okSub_len hbb)
      have hso := Aside0.mk (cmpN_sort ha hbb)
      clear ha hbb hr
      go_enter Tryz.func26, Tryz.ntmps26
      go_wp2_with (go_at_call 28; refine Stop.out ?_)
      obtain ⟨Wx, hWx⟩ : ∃ Wx, ((w.alloc (.cells #[.slice A0 an.length c0, .slice A1 av.length c1] 41 (0, 0))).alloc (.cells #[.slice B0 bn.length d0, .slice B1 bv.length d1] 41 (0, 0))).alloc (.cells #[.slice none 0 0, .slice none 0 0] 41 (0, 0)) = Wx := ⟨_, rfl⟩
      rw [hWx] at hb hL hsz3 ⊢
      clear hWx
      refine ⟨(iIsValidSub_calls _ A0 c0 A1 c1 an av (h0'.out.on hb.out) (h1'.out.on hb.out)).mono ?_⟩
      rintro e w1 ⟨rfl, hb1⟩
      rw [ha'.out]
      have hx1 := Aside0.mk hb1
      have hL1 := Aside0.mk (Loc.on hb1 hL.out)
      clear hb1
      have hd1 := blk_cell hL1.out.2.1
      go_wp2_with (go_at_call 28; refine Stop.out ?_)
      refine ⟨(iIsValidSub_calls _ B0 d0 B1 d1 bn bv (k0'.out.on (hb.out.trans hx1.out)) (k1'.out.on (hb.out.trans hx1.out))).mono ?_⟩
      rintro e w2 ⟨rfl, hb2⟩
      rw [hb'.out]
      clear hd1
      replace hx1 := Aside0.mk (hx1.out.trans hb2)
      replace hL1 := Aside0.mk (Loc.on hx1.out hL.out)
      clear hb2
      have hd0 := blk_cell hL1.out.1
      have hd1 := blk_cell hL1.out.2.1
      go_wp2_with (go_at_call 83; refine Stop.out ?_)
      clear hd0 hd1
      have hk3 := Aside0.mk (loc_new w2 #[.slice A0 an.length c0, .slice B0 bn.length d0] 39)
      have hS3 := Aside0.mk (On.alloc (On.refl w2) (.cells #[.slice A0 an.length c0, .slice B0 bn.length d0] 39 (0, 0)))
      obtain ⟨w3, hw3⟩ : ∃ w3, w2.alloc (.cells #[.slice A0 an.length c0, .slice B0 bn.length d0] 39 (0, 0)) = w3 := ⟨_, rfl⟩
      rw [hw3] at hk3 hS3 ⊢
      clear hw3
      have hx3 := Aside0.mk (hx1.out.trans hS3.out)
      refine ⟨(Concat_calls w3 _ A0 c0 B0 d0 an bn hk3.out (h0'.out.on (hb.out.trans hx3.out)) (k0'.out.on (hb.out.trans hx3.out)) (by have := hl0.out; omega) (by have := hl1.out; omega)).mono ?_⟩
      rintro e w4 ⟨v, rfl, hO4, hb4⟩
      obtain ⟨zs, hzs⟩ : ∃ zs, an ++ bn = zs := ⟨_, rfl⟩
      have hzl := Aside0.mk (show zs.length ≤ 80 by rw [← hzs, List.length_append]; have := hl0.out; have := hl1.out; omega)
      rw [hzs] at hO4 hso
      clear hzs
      obtain ⟨A4, c4, rfl⟩ := own_slice hO4
      have hO4' := Aside0.mk (own_lower hO4 hx3.out.size)
      have hx4 := Aside0.mk (hx3.out.trans hb4)
      have hfill := alloc_fill w4
      clear hO4 hb4 hk3 hS3
      have hk5 := Aside0.mk (loc_new w4 #[.slice A4 zs.length c4, .slice none 0 0] 41)
      have hS5 := Aside0.mk (On.alloc (On.refl w4) (.cells #[.slice A4 zs.length c4, .slice none 0 0] 41 (0, 0)))
      have hq5 := blk_cell hk5.out
      go_wp2_with (go_at_call 84; refine Stop.out ?_)
      clear hfill hq5
      obtain ⟨w5, hw5⟩ : ∃ w5, w4.alloc (.cells #[.slice A4 zs.length c4, .slice none 0 0] 41 (0, 0)) = w5 := ⟨_, rfl⟩
      rw [hw5] at hk5 hS5 ⊢
      clear hw5
      obtain ⟨g6, hg6⟩ : ∃ g6, w4.heap.size = g6 := ⟨_, rfl⟩
      have hgs := Aside0.mk (show Wx.heap.size ≤ g6 by rw [← hg6]; exact hx4.out.size)
      rw [hg6] at hk5 ⊢
      clear hg6
      have hx5 := Aside0.mk (hx4.out.trans hS5.out)
      have hO5 := Aside0.mk (pw_own_below hO4'.out hS5.out)
      have hne5 := Aside0.mk (own_ne_box hO5.out hk5.out)
      refine ⟨(sortI_calls w5 Wx.heap.size _ zs hO5.out (by have := hzl.out; omega)).mono ?_⟩
      rintro e w6 ⟨rfl, hO6, hE6⟩
      have hO6' := Aside0.mk hO6
      have hk6 := Aside0.mk (blk_ex hE6 hk5.out (fun e => hne5.out _ e.symm rfl))
      have hx6 := Aside0.mk (Ex.on hx5.out hE6 (fun i e => own_base hO5.out i e.symm))
      clear hO6 hE6
      have hq6 := blk_cell hk6.out
      go_wp2_with (go_at_call 85; refine Stop.out ?_)
      clear hq6
      refine ⟨(compactI_calls w6 Wx.heap.size _ _ hO6'.out (by rw [List.length_mergeSort]; have := hzl.out; omega)).mono ?_⟩
      rintro e w7 ⟨v7, rfl, hO7, hE7⟩
      have hk7 := Aside0.mk (blk_ex hE7 hk6.out (fun e => hne5.out _ e.symm rfl))
      have hx7 := Aside0.mk (Ex.on hx6.out hE7 (fun i e => own_base hO6'.out i e.symm))
      have hO7' := Aside0.mk (show OI w7 Wx.heap.size v7 (cmpN an bn) from hso.out ▸ hO7)
      clear hO7 hE7 hO4' hO5 hO6' hne5 hk5 hk6
      have hcs := Aside0.mk (cmpN_len an bn)
      have hcb := Aside0.mk (fun x hx => (mem_cmpN (an := an) (bn := bn) (k := x)).1 hx |>.1)
      have hcv := Aside0.mk (show cmpV an av bn bv = (cmpN an bn).map fun k => appV bn bv (appV an av (-1 - k)) from rfl)
      obtain ⟨cs, hcse⟩ : ∃ cs, cmpN an bn = cs := ⟨_, rfl⟩
      have hcse' := Aside0.mk hcse
      rw [hcse] at hO7' hcs hcb hcv
      clear hcse
      obtain ⟨A7, c7, rfl⟩ := own_slice hO7'.out
      have hq7 := blk_cell hk7.out
      have hf7 := blk_frozen hk7.out
      obtain ⟨X, hX⟩ : ∃ X, w7.setCell ⟨g6, 0, none⟩ (.slice A7 cs.length c7) = X := ⟨_, rfl⟩
      have EX := Aside0.mk (show Ex (fun b => b = g6) w7 X from hX ▸ Ex.set w7 ⟨g6, 0, none⟩ (.slice A7 cs.length c7))
      have hkX := Aside0.mk (show X.heap[g6]? = some (.cells #[.slice A7 cs.length c7, .slice none 0 0] 41 (0, 0)) from hX ▸ blk_set hk7.out 0 _)
      have hqX := blk_cell hkX.out
      go_wp2
      clear hq7 hf7 hqX
      try rw [hX]
      clear hX
      have hne7 := Aside0.mk (own_ne_box hO7'.out hk7.out)
      have hOX := Aside0.mk (own_ex hO7'.out EX.out (fun i hi e => hne7.out i hi e))
      have hxX := Aside0.mk (Ex.on hx7.out EX.out (fun i e => by have e' : i = g6 := e; have := hgs.out; omega))
      have hiN := Aside0.mk (show InR cs from fun x hx => by have := hcb.out x hx; omega)
      go_loopw [35] (fun v35 wr => ∃ (k : Nat) (us : List Int) (C1 : Option Addr) (e1 : Nat), v35 = .int .i64 k ∧ k ≤ cs.length ∧ Aside0 (us = (cs.take k).map fun k => appV bn bv (appV an av (-1 - k))) ∧ wr.heap[g6]? = some (.cells #[.slice A7 cs.length c7, .slice C1 us.length e1] 41 (0, 0)) ∧ TW g6 Wx.heap.size wr (.slice A7 cs.length c7) (.slice C1 us.length e1) cs us ∧ InR us ∧ On Wx wr) (fun v35 _ => cs.length - (intOf v35).toNat)
      case atStart => exact ⟨0, [], none, 0, rfl, Nat.zero_le _, ⟨rfl⟩, hkX.out, ⟨hOX.out, World.ownsRow_nil _ _ _ _, hne7.out, by intro b h; simp [Value.ownBlock] at h, by intro b _ h; simp [Value.ownBlock] at h⟩, fun _ h => absurd h (by simp), hxX.out⟩
      case round =>
        obtain ⟨k, us, C1, e1, rfl, hk, hus, hb6, hT, hi1, hE⟩ := hrel
        have hus' := Aside0.mk hus.out
        have hb6' := Aside0.mk hb6
        have hT' := Aside0.mk hT
        have hi1' := Aside0.mk hi1
        have hE1 := Aside0.mk hE
        have hul := Aside0.mk (show us.length = k by rw [hus.out, List.length_map, List.length_take]; omega)
        clear hb6 hT hi1 hE hus
        by_cases hlt : k < cs.length
        · have hlt' := Aside0.mk hlt
          have hwk := Aside0.mk (show wrap64 ((k : Int) + 1) = ((k + 1 : Nat) : Int) by have := hcs.out; rw [IntWalk.wrap64_in _ (by omega)]; omega)
          obtain ⟨ad, hA, x0⟩ := (OI.same hT'.out.r0 hiN.out).2.at k hlt
          subst hA
          have hnb := Aside0.mk (hcb.out _ (List.getElem_mem hlt))
          have hstep := Aside0.mk (show (cs.take (k + 1)).map (fun k => appV bn bv (appV an av (-1 - k))) = us ++ [appV bn bv (appV an av (-1 - cs[k]))] by rw [hus'.out, List.take_succ_eq_append_getElem hlt, List.map_append]; rfl)
          obtain ⟨n, hn⟩ : ∃ n, cs[k] = n := ⟨_, rfl⟩
          rw [hn] at x0 hnb hstep
          clear hn
          have hLr := Aside0.mk (Loc.on hE1.out hL.out)
          go_wp2
          clear x0
          refine Reg.regionG (fun w' => w'.heap[w.heap.size]? = some (.cells #[.slice A0 an.length c0, .slice A1 av.length c1] 41 (0, 0)) ∧ w'.heap[w.heap.size + 1]? = some (.cells #[.slice B0 bn.length d0, .slice B1 bv.length d1] 41 (0, 0)) ∧ w'.heap[g6]? = some (.cells #[.slice (some ad) cs.length c7, .slice C1 us.length e1] 41 (0, 0))) [0,1,2,3,4] [5,6,7,8,9,10,11] 11 (by kernel_rfl) (by kernel_rfl) ⟨hLr.out.1, hLr.out.2.1, hb6'.out⟩ ?_
          refine Reg.sG ?_ (hy := by intro w' hS; have hA := blk_cell hS.1; have hB := blk_cell hS.2.1; have hD := blk_cell hS.2.2; clear hS; go_simp; first | done | rfl)
          refine Reg.sG ?_ (hy := by intro w' hS; have hA := blk_cell hS.1; have hB := blk_cell hS.2.1; have hD := blk_cell hS.2.2; clear hS; go_simp; first | done | rfl)
          refine Reg.sG ?_ (hy := by intro w' hS; have hA := blk_cell hS.1; have hB := blk_cell hS.2.1; have hD := blk_cell hS.2.2; clear hS; go_simp; first | done | rfl)
          refine Reg.sG ?_ (hy := by intro w' hS; have hA := blk_cell hS.1; have hB := blk_cell hS.2.1; have hD := blk_cell hS.2.2; clear hS; go_simp; first | done | rfl)
          refine Reg.sG ?_ (hy := by intro w' hS; have hA := blk_cell hS.1; have hB := blk_cell hS.2.1; have hD := blk_cell hS.2.2; clear hS; go_simp; first | done | rfl)
          refine Reg.startG ?_
          obtain ⟨y7, hy7⟩ : ∃ y7, ({ wr with drawn := wr.drawn + 1 } : World) = y7 := ⟨_, rfl⟩
          have hS7 := Aside0.mk (show On wr y7 from (hy7 ▸ on_draw wr))
          rw [hy7]
          clear hy7
          refine Reg.tG ?_
          go_wp2_with (go_at_call 87; refine Stop.out ?_)
          refine ⟨(iNullValue_calls _ n (by have := hnb.out; omega)).mono ?_⟩
          rintro e y8 ⟨rfl, hb8⟩
          have hE8 := Aside0.mk (hE1.out.trans (hS7.out.trans hb8))
          have hT8 := Aside0.mk (hT'.out.on (hS7.out.trans hb8))
          have hb68 := Aside0.mk (blk_below hb6'.out (hS7.out.trans hb8))
          have hL8 := Aside0.mk (Loc.on hE8.out hL.out)
          clear hb8
          go_wp2
          refine ⟨⟨hL8.out.1, hL8.out.2.1, hb68.out⟩, ?_⟩
          refine Reg.tG ?_
          go_wp2_with (go_at_call 86; refine Stop.out ?_)
          refine ⟨(iApplyToValue_calls _ A0 c0 A1 c1 an av (h0'.out.on (hb.out.trans hE8.out)) (h1'.out.on (hb.out.trans hE8.out)) (-1 - n) (by have := hnb.out; omega)).mono ?_⟩
          rintro e y9 ⟨rfl, hb9⟩
          have hx1b := Aside0.mk (appV_bd (ns := an) (vs := av) (x := -1 - n) (by have := hnb.out; omega))
          obtain ⟨x1, hx1e⟩ : ∃ x, appV an av (-1 - n) = x := ⟨_, rfl⟩
          rw [hx1e] at hx1b hstep ⊢
          clear hx1e
          have hE9 := Aside0.mk (hE8.out.trans hb9)
          have hT9 := Aside0.mk (hT8.out.on hb9)
          have hb69 := Aside0.mk (blk_below hb68.out hb9)
          have hL9 := Aside0.mk (Loc.on hE9.out hL.out)
          clear hb9
          go_wp2
          refine ⟨⟨hL9.out.1, hL9.out.2.1, hb69.out⟩, ?_⟩
          refine Reg.tG ?_
          go_wp2_with (go_at_call 86; refine Stop.out ?_)
          refine ⟨(iApplyToValue_calls _ B0 d0 B1 d1 bn bv (k0'.out.on (hb.out.trans hE9.out)) (k1'.out.on (hb.out.trans hE9.out)) x1 hx1b.out).mono ?_⟩
          rintro e wa ⟨rfl, hba⟩
          have hx2b := Aside0.mk (appV_bd (ns := bn) (vs := bv) (x := x1) hx1b.out)
          obtain ⟨x2, hx2e⟩ : ∃ x, appV bn bv x1 = x := ⟨_, rfl⟩
          rw [hx2e] at hx2b hstep ⊢
          clear hx2e
          have hEa := Aside0.mk (hE9.out.trans hba)
          have hTa := Aside0.mk (hT9.out.on hba)
          have hb6a := Aside0.mk (blk_below hb69.out hba)
          have hLa := Aside0.mk (Loc.on hEa.out hL.out)
          clear hba
          go_wp2
          refine ⟨⟨hLa.out.1, hLa.out.2.1, hb6a.out⟩, ?_⟩
          refine Reg.tG ?_
          go_wp2
          have hIb := Aside0.mk (lit_I wa x2 hx2b.out)
          have hSb := Aside0.mk (On.alloc (On.refl wa) (.cells #[.int .i64 x2] 3 (0, 0)))
          have hTb := Aside0.mk (hTa.out.on hSb.out)
          have hltb := Aside0.mk (blk_lt (blk_below hb6a.out hSb.out))
          refine ⟨⟨blk_below hLa.out.1 hSb.out, blk_below hLa.out.2.1 hSb.out, blk_below hb6a.out hSb.out⟩, ?_⟩
          refine Reg.tG ?_
          obtain ⟨zs, hzs⟩ : ∃ zs, us ++ [x2] = zs := ⟨_, rfl⟩
          refine apI 48 hzs (OI.to hTb.out.r1) hIb.out.2.1 (by have := hltb.out; have := hgs.out; omega) (by have := hul.out; have := hlt'.out; have := hcs.out; simp; omega) fun v10 w10 hO10 hg10 hat10 => ?_
          have hO10' := Aside0.mk (OI.of hO10)
          have hT10 := Aside0.mk (hTb.out.app1 hltb.out (OI.of hO10) hg10 (hat10.imp id fun ⟨b, e, h⟩ => ⟨b, e, h⟩))
          have hS10 := Aside0.mk (Ex.of_grown hg10)
          have hb610 := Aside0.mk (blk_ex hS10.out (blk_below hb6a.out hSb.out) (fun e => hTb.out.n1 _ e.symm rfl))
          have hE10 := Aside0.mk (Ex.on (hEa.out.trans hSb.out) hS10.out (fun i e => own_base hTb.out.r1 i e.symm))
          have hL10 := Aside0.mk (Loc.on hE10.out hL.out)
          have hzs' := Aside0.mk hzs
          have hzi := Aside0.mk (show InR zs by rw [← hzs]; intro z hz; exact (List.mem_append.1 hz).elim (hi1'.out z) (fun h => by rw [List.mem_singleton.1 h]; exact hx2b.out))
          clear hO10 hg10 hat10 hzs
          obtain ⟨A10, c10, rfl⟩ := own_slice hO10'.out
          refine ⟨⟨hL10.out.1, hL10.out.2.1, hb610.out⟩, ?_⟩
          have hd6 := blk_cell hb610.out
          have hf6 := blk_frozen hb610.out
          simp only [Act.put, List.setIfInBounds_toArray, List.set_cons_zero, List.set_cons_succ]
          refine Reg.tG ?_
          go_wp2
          refine ⟨⟨hL10.out.1, hL10.out.2.1, hb610.out⟩, ?_⟩
          refine Reg.tE ?_
          go_wp2
          have EY := Ex.set w10 ⟨g6, 1, none⟩ (.slice A10 zs.length c10)
          refine ⟨⟨k + 1, zs, A10, c10, by rw [hwk.out], by have := hlt'.out; omega, ⟨by rw [hstep.out, hzs'.out]⟩, blk_set hb610.out 1 _, hT10.out.ex EY (fun b hb => .inr hb), hzi.out, Ex.on hE10.out EY (fun i h => by have e' : i = g6 := h; have := hgs.out; omega)⟩, ?_⟩
          rw [hwk.out]
          have := hlt'.out
          simp [intOf]
          omega
        · have hfin := Aside0.mk (show us = cmpV an av bn bv by rw [hcv.out, hus'.out, List.take_of_length_le (by omega)])
          have hkc : decide ((k : Int) < (cs.length : Int)) = false := decide_eq_false (by omega)
          have hkn : decide (k < cs.length) = false := decide_eq_false hlt
          clear hlt
          have hLr := Aside0.mk (Loc.on hE1.out hL.out)
          have hr1 := Aside0.mk hLr.out.2.2.1
          have hd0 := blk_cell hb6'.out
          have hdr : ∀ i, wr.cell? ⟨w.heap.size + 1 + 1, i, none⟩ = _ := blk_cell hr1.out
          have hfr : ∀ i, wr.frozen? ⟨w.heap.size + 1 + 1, i, none⟩ = _ := blk_frozen hr1.out
          go_wp2
          refine bodyPost_ret (retSB2 rfl rfl (g := w.heap.size + 1 + 1) (blk_set (blk_set hr1.out 0 _) 1 _) rfl) rfl ?_
          have EE := (Ex.set wr ⟨w.heap.size + 1 + 1, 0, none⟩ (.slice A7 cs.length c7)).trans (Ex.set _ ⟨w.heap.size + 1 + 1, 1, none⟩ (.slice C1 us.length e1)) (fun _ _ h => h)
          have hTz := hT'.out
          have z0 := own_ex hTz.r0 EE (fun i hi e => by have h1 := own_base hTz.r0 i hi; have e' : i = w.heap.size + 1 + 1 := e; have := hsz3.out; omega)
          have z1 := own_ex hTz.r1 EE (fun i hi e => by have h1 := own_base hTz.r1 i hi; have e' : i = w.heap.size + 1 + 1 := e; have := hsz3.out; omega)
          refine ⟨_, rfl, .agg #[.slice A7 cs.length c7, .slice C1 us.length e1], congrArg (fun b => Value.tuple #[_, .bool b]) hno.out.symm, ?_, Ex.on (hb.out.trans hE1.out) EE (fun i h => by have e' : i = w.heap.size + 1 + 1 := h; omega)⟩
          have f1 : cpN r an bn = cs := by rw [hno.out]; exact hcse'.out
          have f2 : cpV r an av bn bv = us := by rw [hno.out]; exact hfin.out.symm
          rw [f1, f2]
          exact ⟨A7, c7, C1, e1, rfl, (OI.same z0 hiN.out).2, (OI.same z1 hi1'.out).2⟩
end Go.Proofs.YtgemaohdlibboaaGreatDoor.H
