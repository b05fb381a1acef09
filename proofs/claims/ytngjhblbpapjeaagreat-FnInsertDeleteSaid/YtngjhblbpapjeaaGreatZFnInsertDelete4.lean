/- Walks and plain laws for the law FnInsertDelete, part 4 of 6: the texts HG3, HG4, HG4s, HG5, HG6, HG7, HG8, HG9, HG10, HG11, HG12 in one. No condition. -/
import Derived.Test.YtngjhblbpapjeaaGreatZFnInsertDelete3
/- Walks: the draws of facts. What is told: sizes and ranges. No condition. -/
namespace Go.Proofs.YtngjhblbpapjeaaGreat.H
open Go Go.RowKit Go.Proofs.YtngjhblbpapjeaaGreatW.PrintWords Go.Proofs.YtngjhblbpapjeaaGreatW.PrintLast
open Go.Proofs.YtngjhblbpapjeaaGreat.Reg (On on_draw)
set_option maxHeartbeats 4000000
set_option maxRecDepth 100000
set_option linter.unusedVariables false
set_option linter.unusedSimpArgs false

def arN : Nat → Nat
  | 0 => 2
  | 1 => 1
  | 2 => 2
  | 3 => 2
  | _ => 1
theorem arN_sigs : ∀ (k : Nat) (h : k < sigs.length), sigs[k].2.1 = (arN k : Int)
  | 0, _ => rfl
  | 1, _ => rfl
  | 2, _ => rfl
  | 3, _ => rfl
  | 4, _ => rfl
  | n + 5, h => absurd h (by show ¬ n + 5 < 5; omega)
theorem arN_in (k : Nat) : 1 ≤ arN k ∧ arN k ≤ 2 := by unfold arN; split <;> omega
def lenOf : Option Value → Nat
  | some (.slice _ n _) => n
  | _ => 0
theorem lit_I (W : World) (x : Int) (hx : -9223372036854775808 ≤ x ∧ x ≤ 9223372036854775807) : Ints (W.alloc (.cells #[.int .i64 x] 3 (0, 0))) (some ⟨W.heap.size, 0, none⟩) 1 [x] := by
  have h : OI (W.alloc (.cells #[.int .i64 x] 3 (0, 0))) W.heap.size (.slice (some ⟨W.heap.size, 0, none⟩) 1 1) [x] := lit_own W #[.int .i64 x] 3 1 1 W.heap.size (Nat.le_refl _) (by omega) rfl
  obtain ⟨A, c, e, hI⟩ := OI.rd h (fun y hy => by rw [List.mem_singleton.1 hy]; exact hx)
  injection e with e1 e2 e3
  subst e1 e3
  exact hI
theorem OR.same {w : World} {lo : Nat} {A : Option Addr} {n c : Nat} {rs : List Rel} (h : OR w lo (.slice A n c) rs) : n = rs.length ∧ Rels w A c rs := by
  obtain ⟨A', c', e, hR⟩ := OR.rd h
  injection e with e1 e2 e3
  subst e1 e3
  exact ⟨e2, hR⟩
theorem OI.same {w : World} {lo : Nat} {A : Option Addr} {n c : Nat} {xs : List Int} (h : OI w lo (.slice A n c) xs) (hr : InR xs) : n = xs.length ∧ Ints w A c xs := by
  obtain ⟨A', c', e, hR⟩ := OI.rd h hr
  injection e with e1 e2 e3
  subst e1 e3
  exact ⟨e2, hR⟩

theorem l4Fact_calls (w0 w : World) (q : Nat) (hC : Cu w0 w q) (k : Nat) (hk : k < 5) (m : Int) (h0 : 0 ≤ m) (h2 : m ≤ 256) :
    Calls Tryz.prog 43 #[.pointer (some ⟨q, 0, none⟩), .int .i64 k, .int .i64 m] w (Dr w0 w q fun v w' => ∃ f : Fct, OFa w' w.heap.size v f ∧ f.1 = k ∧ f.2.length = arN k) := by
  have hC' := Aside0.mk hC
  have hqw := Aside0.mk hC.lt
  have hk' := Aside0.mk hk
  have hm0 := Aside0.mk h0
  have hm2 := Aside0.mk h2
  obtain ⟨n, hn⟩ : ∃ n, arN k = n := ⟨_, rfl⟩
  have hnb := Aside0.mk (hn ▸ arN_in k : 1 ≤ n ∧ n ≤ 2)
  have hn' := Aside0.mk hn
  have hb0 := Aside0.mk (On.alloc (On.refl w) (.cells #[.int .i64 0, .slice none 0 0] 30 (0, 0)))
  have hl0 := Aside0.mk (loc_new w #[.int .i64 0, .slice none 0 0] 30)
  clear hC hk h0 h2 hn
  go_enter Tryz.func43, Tryz.ntmps43
  go_wp2_with (go_at_call 88; refine Stop.out ?_)
  refine ⟨(l3Sigs_calls _).mono ?_⟩
  rintro e w1 ⟨v, rfl, hR, hb1⟩
  obtain ⟨As, cs, rfl⟩ := own_slice hR
  have hR' := Aside0.mk hR
  have hb1' := Aside0.mk hb1
  have hl1 := Aside0.mk (blk_below hl0.out hb1)
  have hsz := Aside0.mk (show w.heap.size + 1 ≤ w1.heap.size by have := blk_lt hl1.out; omega)
  have hfill := alloc_fill w1
  clear hR hb1
  go_wp2
  clear hfill
  obtain ⟨wa, hwa⟩ : ∃ wa, w1.alloc (.cells #[.int .i64 k, .slice none 0 0] 30 (0, 0)) = wa := ⟨_, rfl⟩
  have hl8 := Aside0.mk (show wa.heap[w1.heap.size]? = some (.cells #[.int .i64 k, .slice none 0 0] 30 (0, 0)) from hwa ▸ loc_new w1 _ _)
  have hsa := Aside0.mk (show wa.heap.size = w1.heap.size + 1 from hwa ▸ by simp)
  have hba := Aside0.mk (show On w1 wa from hwa ▸ On.alloc (On.refl _) _)
  try rw [hwa]
  obtain ⟨g8, hg8⟩ : ∃ g8, w1.heap.size = g8 := ⟨_, rfl⟩
  rw [hg8] at hl8 hsz hsa ⊢
  have hba0 := Aside0.mk (hb0.out.trans (hb1'.out.trans hba.out))
  clear hwa
  have hbl := Aside0.mk (show w1.heap.size = g8 from hg8)
  clear hg8
  go_loopw [] (fun wr => ∃ (xs : List Int) (vr : Value), xs.length ≤ n ∧ wr.heap[g8]? = some (.cells #[.int .i64 k, vr] 30 (0, 0)) ∧ OI wr (g8 + 1) vr xs ∧ InR xs ∧ Cu w0 wr q ∧ Ex (fun b => b = q) w wr ∧ Ex (fun b => b = q ∨ b = g8) wa wr) (fun wr => n - lenOf (wr.cell? ⟨g8, 1, none⟩))
  case atStart => exact ⟨[], _, Nat.zero_le _, hl8.out, World.ownsRow_nil _ _ _ _, fun _ h => absurd h (by simp), hC'.out.next hba0.out, Ex.of_on hba0.out, Ex.refl _ _⟩
  case round =>
    obtain ⟨xs, vr, hxl, hbl8, hO, hIn, hC, hE, hEa⟩ := hrel
    obtain ⟨Ar, cr, rfl⟩ := own_slice hO
    have hOr := own_ex (pw_own_below hR'.out hba.out) hEa (fun i hi => by
      have h1 := own_base hR'.out i hi
      have h2 := own_lt hR'.out i hi
      have := hqw.out
      have := hbl.out
      simp at h1
      omega)
    obtain ⟨ad, hA, x0, x1, x2⟩ := (OR.same hOr).2.at k hk'.out
    subst hA
    rw [arN_sigs k hk'.out, hn'.out] at x1
    have hkb : k < sigs.length := hk'.out
    have hd0 := blk_cell hbl8 0
    have hd1 := blk_cell hbl8 1
    have hbl8' := Aside0.mk hbl8
    have hO' := Aside0.mk hO
    have hIn' := Aside0.mk hIn
    have hC1 := Aside0.mk hC
    have hE' := Aside0.mk hE
    have hEa' := Aside0.mk hEa
    have hxl' := Aside0.mk hxl
    clear hO hIn hC hE hEa hbl8 hOr x0 x2 hxl
    by_cases hlt : xs.length < n
    · have hlt' := Aside0.mk hlt
      have hltb : decide ((xs.length : Int) < (n : Int)) = true := decide_eq_true (by omega)
      have hltn : decide (xs.length < n) = true := decide_eq_true hlt
      clear hlt
      go_wp2
      refine Reg.region [(0,.L),(1,.L),(2,.L),(3,.L),(4,.L),(5,.L),(6,.L),(7,.L),(8,.L)] [] (by kernel_rfl) (by kernel_rfl) ?_
      repeat first | refine sP ?_ | refine sS ?_ | refine sA ?_ | refine sL ?_ | refine sQ ?_ | refine sO ?_
      refine Reg.nil fun w2 hS => ?_
      clear x1 hd0 hd1 hkb
      have hb2 := Aside0.mk (blk_below hbl8'.out hS)
      have hS2 := Aside0.mk hS
      clear hS
      go_wp2
      refine Reg.regionG (fun w' => w'.heap[g8]? = some (.cells #[.int .i64 k, .slice Ar xs.length cr] 30 (0, 0))) [0,1,2,3] [4,5,6,7,8] 8 (by kernel_rfl) (by kernel_rfl) hb2.out ?_
      repeat refine Reg.sG ?_
      refine Reg.startG ?_
      obtain ⟨w3, hw3⟩ : ∃ w3, ({ w2 with drawn := w2.drawn + 1 } : World) = w3 := ⟨_, rfl⟩
      have hS3 := Aside0.mk (show On wr w3 from hS2.out.trans (hw3 ▸ on_draw w2))
      rw [hw3]
      clear hw3
      refine Reg.tG ?_
      go_wp2_with (go_at_call 89; refine Stop.out ?_)
      refine ⟨(l4Value_calls w0 _ q (hC1.out.next hS3.out) m hm0.out hm2.out).mono ?_⟩
      rintro e w4 ⟨v, rfl, ⟨x, rfl, hx⟩, hC4, hE4⟩
      replace hx := Aside0.mk hx
      have hC4' := Aside0.mk hC4
      have hE4' := Aside0.mk hE4
      have hb4 := Aside0.mk (blk_ex hE4 (blk_below hbl8'.out hS3.out) (by have := hqw.out; have := hsz.out; omega))
      clear hC4 hE4
      go_wp2
      refine ⟨hb4.out, ?_⟩
      refine Reg.tG ?_
      go_wp2
      have hI5 := Aside0.mk (lit_I w4 x (by have := hx.out; omega))
      have hS5 := Aside0.mk (On.alloc (On.refl w4) (.cells #[.int .i64 x] 3 (0, 0)))
      refine ⟨blk_below hb4.out hS5.out, ?_⟩
      refine Reg.tG ?_
      have hO5 := Aside0.mk (pw_own_below (own_ex (pw_own_below hO'.out hS3.out) hE4'.out (fun i hi e => by have := own_base hO'.out i hi; have := hqw.out; have := hsz.out; omega)) hS5.out)
      obtain ⟨ys, hys⟩ : ∃ ys, xs ++ [x] = ys := ⟨_, rfl⟩
      have hsz5 := Aside0.mk (show g8 + 1 ≤ (w4.alloc (.cells #[.int .i64 x] 3 (0, 0))).heap.size by have := blk_lt (blk_below hb4.out hS5.out); omega)
      refine apI 27 hys (OI.to hO5.out) hI5.out.2.1 hsz5.out (by have := hlt'.out; have := hnb.out; simp; omega) fun v6 w6 hO6 hg6 hat6 => ?_
      have hO6' := Aside0.mk (OI.of hO6)
      have hS6 := Aside0.mk (show Ex (fun b => g8 + 1 ≤ b) (w4.alloc (.cells #[.int .i64 x] 3 (0, 0))) w6 from (Ex.of_grown hg6).mono fun b hb => own_base hO5.out b hb.symm)
      have hb6 := Aside0.mk (blk_ex hS6.out (blk_below hb4.out hS5.out) (by omega))
      have hyl := Aside0.mk (show ys.length = xs.length + 1 by rw [← hys]; simp)
      have hyi := Aside0.mk (show InR ys by rw [← hys]; intro z hz; rcases List.mem_append.1 hz with h | h; exact hIn'.out z h; rw [List.mem_singleton.1 h]; have := hx.out; omega)
      clear hO6 hg6 hat6 hys
      obtain ⟨A6, c6, rfl⟩ := own_slice hO6'.out
      refine ⟨hb6.out, ?_⟩
      have hd6 := blk_cell hb6.out 1
      have hf6 := blk_frozen hb6.out 1
      simp only [Act.put, List.setIfInBounds_toArray, List.set_cons_zero, List.set_cons_succ]
      refine Reg.tG ?_
      go_wp2
      refine ⟨hb6.out, ?_⟩
      refine Reg.tE ?_
      go_wp2
      have hq0 := hC'.out.lo
      have E2 := ((Ex.of_on (S := fun b => b = q) hS3.out).trans hE4'.out fun _ _ h => h).then_on hS5.out
      have E4 := (hE'.out.trans E2 fun _ _ h => h).trans hS6.out (fun i hi h => by have := hsz.out; omega)
      have F4 := (hEa'.out.trans E2 fun _ _ h => .inl h).trans hS6.out (fun i hi h => by have := hsa.out; omega)
      refine ⟨⟨ys, _, by have := hyl.out; have := hlt'.out; omega, blk_set hb6.out 1 _, own_ex hO6'.out (Ex.set w6 ⟨g8, 1, none⟩ _) (fun i hi e => by have := own_base hO6'.out i hi; have e' : i = g8 := e; omega), hyi.out,
        ((hC4'.out.next hS5.out).ex hS6.out (fun b hb => by have := hsz.out; have := hqw.out; omega)).ex (Ex.set w6 ⟨g8, 1, none⟩ _) (fun b hb => by have e' : b = g8 := hb; have := hsz.out; have := hqw.out; omega),
        E4.trans (Ex.set w6 ⟨g8, 1, none⟩ _) (fun i hi h => by have e' : i = g8 := h; have := hsz.out; omega), F4.trans (Ex.set w6 ⟨g8, 1, none⟩ _) (fun i hi h => .inr h)⟩, ?_⟩
      rw [blk_cell (blk_set hb6.out 1 _) 1, blk_cell hbl8'.out 1]
      show n - ys.length < n - xs.length
      have := hyl.out
      have := hlt'.out
      omega
    · have hltb : decide ((xs.length : Int) < (n : Int)) = false := decide_eq_false (by omega)
      have hltn : decide (xs.length < n) = false := decide_eq_false hlt
      have hge := Aside0.mk (show n ≤ xs.length by omega)
      clear hlt
      go_wp2
      refine Reg.region [(0,.L),(1,.L),(2,.L),(3,.L),(4,.L),(5,.L),(6,.L),(7,.L),(8,.L)] [] (by kernel_rfl) (by kernel_rfl) ?_
      repeat first | refine sP ?_ | refine sS ?_ | refine sA ?_ | refine sL ?_ | refine sQ ?_ | refine sO ?_
      refine Reg.nil fun w2 hS => ?_
      have hS2 := Aside0.mk hS
      have hb2 := Aside0.mk (blk_below hbl8'.out hS)
      have hd0 := blk_cell hb2.out 0
      have hd1 := blk_cell hb2.out 1
      have hl2 := Aside0.mk (blk_ex (hEa'.out.then_on hS) (blk_below hl1.out hba.out) (by have := hqw.out; have := hsz.out; omega))
      have hcr : ∀ i, w2.cell? ⟨w.heap.size, i, none⟩ = _ := blk_cell hl2.out
      have hfr : ∀ i, w2.frozen? ⟨w.heap.size, i, none⟩ = _ := blk_frozen hl2.out
      clear x1 hS
      go_wp2
      refine bodyPost_ret (retF rfl rfl (g := w.heap.size) (blk_set (blk_set hl2.out 0 _) 1 _) rfl) rfl ?_
      have hq0 := hC'.out.lo
      have hO2 := pw_own_below hO'.out hS2.out
      have hS := (Ex.set w2 ⟨w.heap.size, 0, none⟩ (.int .i64 k)).trans (Ex.set _ ⟨w.heap.size, 1, none⟩ (.slice Ar xs.length cr)) (fun _ _ h => h)
      have hOz := own_lower (lo' := w.heap.size) (own_ex hO2 hS (fun i hi e => by have := own_base hO2 i hi; have e' : i = w.heap.size := e; have := hsz.out; omega)) (by have := hsz.out; omega)
      exact ⟨_, rfl, ⟨(k, xs), ⟨_, rfl, hOz, hIn'.out⟩, rfl, by have := hn'.out; have := hge.out; have := hxl'.out; show xs.length = _; omega⟩,
        (hC1.out.next hS2.out).ex hS (fun b hb => by have e' : b = w.heap.size := hb; have := hqw.out; omega), (hE'.out.then_on hS2.out).trans hS (fun i hi h => by have e' : i = w.heap.size := h; omega)⟩
end Go.Proofs.YtngjhblbpapjeaaGreat.H
/- Walks: the draws of instances. What is told: sizes and ranges. No condition. -/
namespace Go.Proofs.YtngjhblbpapjeaaGreat.H
open Go Go.RowKit Go.Proofs.YtngjhblbpapjeaaGreatW.PrintWords Go.Proofs.YtngjhblbpapjeaaGreatW.PrintLast
open Go.Proofs.YtngjhblbpapjeaaGreat.Reg (On on_draw)
set_option maxHeartbeats 4000000
set_option maxRecDepth 100000
set_option linter.unusedVariables false
set_option linter.unusedSimpArgs false

theorem putF_le (l : List Fct) (x : Fct) : (putF l x).length ≤ l.length + 1 := by
  induction l with
  | nil => simp [putF]
  | cons y r ih => unfold putF; split <;> (try split) <;> simp <;> omega
theorem RS.start {S : Nat → Prop} {w : World} {lo : Nat} {A : Option Addr} {n c : Nat} {rs : List Rel} (h : OR w lo (.slice A n c) rs) (hS : ∀ b, lo ≤ b → b < w.heap.size → ¬ S b) : RS S w (.agg #[.slice A n c, .slice none 0 0]) rs [] := by
  obtain rfl := (OR.same h).1
  refine ⟨A, c, none, 0, [], rfl, fun w' k => ?_⟩
  have h3 := own_ex h k (fun i hi e => hS i (own_base h i hi) (own_lt h i hi) e)
  exact ⟨(OR.same h3).2, (OH.rh (World.ownsRow_nil w' 0 30 2 : OH w' 0 (.slice none 0 0) [])).2, Reads.nil _⟩
theorem RS.parts {S : Nat → Prop} {w : World} {A0 A1 : Option Addr} {n0 n1 c0 c1 : Nat} {rs : List Rel} {fs : List Fct} (h : RS S w (.agg #[.slice A0 n0 c0, .slice A1 n1 c1]) rs fs) : n0 = rs.length ∧ n1 = fs.length ∧ ∃ hs, ∀ w', Ex S w w' → Rels w' A0 c0 rs ∧ RH w' A1 c1 hs ∧ Reads w' hs fs := by
  obtain ⟨B0, d0, B1, d1, hs, e, h⟩ := h.out
  injection e with e
  have e' := congrArg Array.toList e
  simp only [List.cons.injEq, Value.slice.injEq, and_true] at e'
  obtain ⟨⟨rfl, rfl, rfl⟩, rfl, rfl, rfl⟩ := e'
  exact ⟨rfl, rfl, hs, h⟩
theorem l5Target_calls (w0 w : World) (q : Nat) (hC : Cu w0 w q) (a : Int) (ha0 : 0 ≤ a) (ha1 : a ≤ 200) (m : Int) (h0 : 0 ≤ m) (h2 : m ≤ 256) :
    Calls Tryz.prog 109 #[.pointer (some ⟨q, 0, none⟩), .int .i64 a, .int .i64 m] w (Dr w0 w q fun v w' => ∃ fs, OIn w' w.heap.size v sigs fs ∧ Asc fs ∧ (fs.length : Int) ≤ a ∧ ∀ f ∈ fs, f.2.length ≤ 2) := by
  have hC' := Aside0.mk hC
  have hqw := Aside0.mk hC.lt
  have hq0 := Aside0.mk hC.lo
  have hA' := Aside0.mk (And.intro ha0 ha1)
  have hm' := Aside0.mk (And.intro h0 h2)
  have hb0 := Aside0.mk (On.alloc (On.refl w) (.cells #[.slice none 0 0, .slice none 0 0] 27 (0, 0)))
  have hl0 := Aside0.mk (loc_new w #[.slice none 0 0, .slice none 0 0] 27)
  have hwr : wrap64 (a + 1) = a + 1 := IntWalk.wrap64_in _ (by omega)
  clear hC ha0 ha1 h0 h2
  go_enter Tryz.func109, Tryz.ntmps109
  go_wp2_with (go_at_call 88; refine Stop.out ?_)
  refine ⟨(l3Sigs_calls _).mono ?_⟩
  rintro e w1 ⟨v, rfl, hR, hb1⟩
  obtain ⟨As, cs, rfl⟩ := own_slice hR
  have hR' := Aside0.mk hR
  have hb1' := Aside0.mk hb1
  have hl1 := Aside0.mk (blk_below hl0.out hb1)
  have hsz := Aside0.mk (show w.heap.size + 1 ≤ w1.heap.size by have := blk_lt hl1.out; omega)
  have hfill := alloc_fill w1
  clear hR hb1
  go_wp2_with (go_at_call 44; refine Stop.out ?_)
  refine ⟨?_⟩
  clear hfill
  obtain ⟨wa, hwa⟩ : ∃ wa, w1.alloc (.cells #[.slice As sigs.length cs, .slice none 0 0] 27 (0, 0)) = wa := ⟨_, rfl⟩
  have hsa := Aside0.mk (show wa.heap.size = w1.heap.size + 1 from hwa ▸ by simp)
  have hl8 := Aside0.mk (show wa.heap[w1.heap.size]? = some (.cells #[.slice As sigs.length cs, .slice none 0 0] 27 (0, 0)) from hwa ▸ loc_new w1 _ _)
  have hba := Aside0.mk (show On w1 wa from hwa ▸ On.alloc (On.refl _) _)
  rw [hwa]
  clear hwa
  obtain ⟨g7, hg7⟩ : ∃ g7, w1.heap.size = g7 := ⟨_, rfl⟩
  rw [hg7] at hl8 hsz hsa ⊢
  have hba0 := Aside0.mk (hb0.out.trans (hb1'.out.trans hba.out))
  have hbl := Aside0.mk (show w1.heap.size = g7 from hg7)
  clear hg7
  refine (l1Below_calls w0 _ q (hC'.out.next hba0.out) (a + 1) (by have := hA'.out; omega) (by have := hA'.out; omega)).mono ?_
  rintro e w2 ⟨v, rfl, ⟨c0, rfl, hc0⟩, hC2, hE2⟩
  replace hc0 := Aside0.mk hc0
  have hC2' := Aside0.mk hC2
  have hE2' := Aside0.mk hE2
  have hl2 := Aside0.mk (blk_ex hE2 hl8.out (by have := hqw.out; have := hsz.out; omega))
  have hR2 := Aside0.mk (show RS (fun b => b = q ∨ b = g7) w2 (.agg #[.slice As sigs.length cs, .slice none 0 0]) sigs [] from RS.ex (RS.on (RS.start hR'.out (fun b h1 h2 h3 => by
    have := hqw.out; have := hbl.out; simp at h1; omega)) hba.out) (hE2.mono fun _ h => .inl h))
  clear hC2 hE2
  go_wp2
  go_loopw [8] (fun v8 wr => ∃ (c : Nat) (fs : List Fct) (A0 : Option Addr) (d0 : Nat) (A1 : Option Addr) (d1 : Nat), v8 = .int .i64 c ∧ wr.heap[g7]? = some (.cells #[.slice A0 sigs.length d0, .slice A1 fs.length d1] 27 (0, 0)) ∧ RS (fun b => b = q ∨ b = g7) wr (.agg #[.slice A0 sigs.length d0, .slice A1 fs.length d1]) sigs fs ∧ Asc fs ∧ (fs.length : Int) + (c : Int) ≤ a ∧ (∀ f ∈ fs, f.2.length ≤ 2) ∧ Cu w0 wr q ∧ Ex (fun b => b = q) w wr ∧ Ex (fun b => b = q ∨ b = g7) wa wr) (fun v8 _ => (intOf v8).toNat)
  case atStart => exact ⟨c0.toNat, [], As, cs, none, 0, by have := hc0.out; congr 1; omega, hl2.out, hR2.out, List.Pairwise.nil, by have := hc0.out; have := hA'.out; simp; omega, fun _ h => absurd h (by simp), hC2'.out, (Ex.of_on (S := fun b => b = q) hba0.out).trans hE2'.out fun _ _ h => h, hE2'.out.mono fun _ h => .inl h⟩
  case round =>
    obtain ⟨c, fs, A0, d0, A1, d1, rfl, hb7, hR, ha, hl, hl2, hC, hE, hEa⟩ := hrel
    have hb7' := Aside0.mk hb7
    have hRa := Aside0.mk hR
    have ha' := Aside0.mk ha
    have hl' := Aside0.mk hl
    have hl2' := Aside0.mk hl2
    have hC1 := Aside0.mk hC
    have hE' := Aside0.mk hE
    have hEa' := Aside0.mk hEa
    have hd0 := blk_cell hb7 0
    have hd1 := blk_cell hb7 1
    clear hb7 hR ha hl hl2 hC hE hEa
    by_cases hc : 0 < c
    · have hc' := Aside0.mk hc
      have hcb : decide ((0 : Int) < (c : Int)) = true := decide_eq_true (by omega)
      have hcn : decide (0 < c) = true := decide_eq_true hc
      clear hc
      go_wp2
      refine Reg.regionG (fun w' => w'.heap[g7]? = some (.cells #[.slice A0 sigs.length d0, .slice A1 fs.length d1] 27 (0, 0))) [0,1,2,5] [3,4,6,7,8] 8 (by kernel_rfl) (by kernel_rfl) hb7'.out ?_
      repeat refine Reg.sG ?_
      refine Reg.startG ?_
      obtain ⟨w3, hw3⟩ : ∃ w3, ({ wr with drawn := wr.drawn + 1 } : World) = w3 := ⟨_, rfl⟩
      have hS3 := Aside0.mk (show On wr w3 from (hw3 ▸ on_draw wr))
      rw [hw3]
      clear hw3 hd0 hd1
      refine Reg.tG ?_
      go_wp2_with (go_at_call 44; refine Stop.out ?_)
      refine ⟨(l1Below_calls w0 _ q (hC1.out.next hS3.out) 3 (by omega) (by omega)).mono ?_⟩
      rintro e w4 ⟨v, rfl, ⟨x, rfl, hx⟩, hC4, hE4⟩
      obtain ⟨y, rfl⟩ := Int.eq_ofNat_of_zero_le hx.1
      obtain ⟨k, hk⟩ : ∃ k, 2 + y = k := ⟨_, rfl⟩
      have hkb := Aside0.mk (show k < 5 by omega)
      have hw2 : wrap64 (2 + (y : Int)) = (k : Int) := by rw [IntWalk.wrap64_in _ (by omega)]; omega
      have hC4' := Aside0.mk hC4
      have hE4' := Aside0.mk ((Ex.of_on (S := fun b => b = q) hS3.out).trans hE4 fun _ _ h => h)
      have hb4 := Aside0.mk (blk_ex hE4'.out hb7'.out (by have := hqw.out; have := hsz.out; omega))
      clear hC4 hE4 hx hk
      go_wp2
      refine ⟨hb4.out, ?_⟩
      refine Reg.tG ?_
      go_wp2
      refine ⟨hb4.out, ?_⟩
      refine Reg.tG ?_
      go_wp2_with (go_at_call 43; refine Stop.out ?_)
      refine ⟨(l4Fact_calls w0 _ q hC4'.out k hkb.out m hm'.out.1 hm'.out.2).mono ?_⟩
      rintro e w5 ⟨v, rfl, ⟨f, hO5, hf1, hf2⟩, hC5, hE5⟩
      obtain ⟨v5, rfl, hO5, hI5⟩ := hO5.out
      obtain ⟨A5, c5, rfl⟩ := own_slice hO5
      have hI5' := Aside0.mk (OI.same hO5 hI5).2
      have hf2' := Aside0.mk (show f.2.length ≤ 2 by rw [hf2]; exact (arN_in k).2)
      have hC5' := Aside0.mk hC5
      have hE5' := Aside0.mk (hE4'.out.trans hE5 fun _ _ h => h)
      have hb5 := Aside0.mk (blk_ex hE5'.out hb7'.out (by have := hqw.out; have := hsz.out; omega))
      clear hC5 hE5 hf1 hf2 hO5 hI5
      go_wp2
      refine ⟨hb5.out, ?_⟩
      refine Reg.tG ?_
      go_wp2_with (go_at_call 41; refine Stop.out ?_)
      obtain ⟨_, _, hs, hall⟩ := (RS.ex hRa.out (hE5'.out.mono fun _ h => .inl h)).parts
      refine ⟨(l5PutS_calls (fun b => b = q ∨ b = g7) _ A0 d0 A1 d1 hs sigs fs hall (fun b hb => by have := blk_lt hb5.out; have := hC5'.out.lt; rcases hb with h | h <;> omega) A5 c5 f hI5'.out (by have := hl'.out; have := hA'.out; omega) (by have := hf2'.out; omega) ha'.out).mono ?_⟩
      rintro e w6 ⟨v6, rfl, hR6, hb6⟩
      obtain ⟨fs', hfs⟩ : ∃ fs', putF fs f = fs' := ⟨_, rfl⟩
      rw [hfs] at hR6
      have hR6' := Aside0.mk hR6
      obtain ⟨B0, e0, B1, e1, hs', rfl, -⟩ := hR6.out
      have ha6 := Aside0.mk (show Asc fs' from hfs ▸ putF_asc f fs ha'.out)
      have hl6 := Aside0.mk (show fs'.length ≤ fs.length + 1 from hfs ▸ putF_le fs f)
      have hm6 := Aside0.mk (show ∀ g ∈ fs', g.2.length ≤ 2 by
        rw [← hfs]; intro g hg; rcases (mem_putF f g fs).1 hg with rfl | h
        · exact hf2'.out
        · exact hl2'.out g h)
      have hb6' := Aside0.mk hb6
      have hbl6 := Aside0.mk (blk_below hb5.out hb6)
      have hcr := blk_cell hbl6.out
      have hfr := blk_frozen hbl6.out
      clear hR6 hfs hb6
      go_wp2
      refine ⟨hbl6.out, ?_⟩
      refine Reg.tE ?_
      go_wp2
      have EE := (Ex.set w6 ⟨g7, 0, none⟩ (.slice B0 sigs.length e0)).trans (Ex.set _ ⟨g7, 1, none⟩ (.slice B1 fs'.length e1)) (fun _ _ h => h)
      have hwc : wrap64 ((c : Int) - 1) = ((c - 1 : Nat) : Int) := by have := hc'.out; have := hl'.out; have := hA'.out; rw [IntWalk.wrap64_in _ (by omega)]; omega
      have hs1 := hsz.out
      have hq1 := hqw.out
      have hq2 := hq0.out
      refine ⟨⟨c - 1, fs', B0, e0, B1, e1, by rw [hwc], blk_set (blk_set hbl6.out 0 _) 1 _, RS.ex hR6'.out (EE.mono fun _ h => .inr h), ha6.out, by have := hc'.out; have := hl'.out; have := hA'.out; have := hl6.out; omega, hm6.out,
        (hC5'.out.next hb6'.out).ex EE (fun b hb => by have e' : b = g7 := hb; omega), ((hE'.out.trans hE5'.out fun _ _ h => h).then_on hb6'.out).trans EE (fun i hi h => by have e' : i = g7 := h; omega),
        ((hEa'.out.trans hE5'.out fun _ _ h => .inl h).then_on hb6'.out).trans EE (fun i hi h => .inr h)⟩, ?_⟩
      rw [hwc]
      have := hc'.out
      simp [intOf]
      omega
    · have hcb : decide ((0 : Int) < (c : Int)) = false := decide_eq_false (by omega)
      have hcn : decide (0 < c) = false := decide_eq_false hc
      clear hc
      go_wp2_with (go_at_call 38; refine Stop.out ?_)
      obtain ⟨_, _, hs, hall⟩ := hRa.out.parts
      obtain ⟨h1, h2, h3⟩ := hall wr (Ex.refl _ _)
      refine ⟨(l5Copy_calls _ A0 d0 A1 d1 sigs fs h1 (h2.fcts h3) (by show (5 : Nat) ≤ _; omega) (by have := hl'.out; have := hA'.out; omega) (fun f hf => by have := hl2'.out f hf; omega)).mono ?_⟩
      rintro e w7 ⟨v7, rfl, hI0, hb7x⟩
      obtain ⟨a1, a2, a3, a4, a5, a6, rfl⟩ := hI0.read.shape
      have hI := Aside0.mk hI0
      have hb7a := Aside0.mk hb7x
      have hr7 := Aside0.mk (blk_below (blk_ex hEa'.out (blk_below hl1.out hba.out) (by have := hqw.out; have := hsz.out; omega)) hb7x)
      have hd0 := blk_cell hr7.out
      have hfr := blk_frozen hr7.out
      clear hI0 hb7x h1 h2 h3 hall
      go_wp2
      refine bodyPost_ret (retI rfl rfl (g := w.heap.size) (blk_set (blk_set hr7.out 0 _) 1 _) rfl) rfl ?_
      have EE := (Ex.set w7 ⟨w.heap.size, 0, none⟩ (.slice a1 a2 a3)).trans (Ex.set _ ⟨w.heap.size, 1, none⟩ (.slice a4 a5 a6)) (fun _ _ h => h)
      have hlo : w.heap.size < wr.heap.size := blk_lt (blk_ex hEa'.out (blk_below hl1.out hba.out) (by have := hqw.out; have := hsz.out; omega))
      have hq1 := hqw.out
      have hq2 := hq0.out
      exact ⟨_, rfl, ⟨fs, OIn.lower (OIn.set (OIn.set hI.out hlo _) hlo _) (Nat.le_of_lt hlo), ha'.out, by have := hl'.out; have := hA'.out; omega, hl2'.out⟩,
        (hC1.out.next hb7a.out).ex EE (fun b hb => by have e' : b = w.heap.size := hb; omega), (hE'.out.then_on hb7a.out).trans EE (fun i hi h => by have e' : i = w.heap.size := h; omega)⟩
end Go.Proofs.YtngjhblbpapjeaaGreat.H
/- Walks: the draws of instances, once more. What is told: sizes and ranges. No condition. -/
namespace Go.Proofs.YtngjhblbpapjeaaGreat.H
open Go Go.RowKit Go.Proofs.YtngjhblbpapjeaaGreatW.PrintWords Go.Proofs.YtngjhblbpapjeaaGreatW.PrintLast
open Go.Proofs.YtngjhblbpapjeaaGreat.Reg (On on_draw)
set_option maxHeartbeats 4000000
set_option maxRecDepth 100000
set_option linter.unusedVariables false
set_option linter.unusedSimpArgs false

theorem l5Source_calls (w0 w : World) (q : Nat) (hC : Cu w0 w q) (a : Int) (ha0 : 0 ≤ a) (ha1 : a ≤ 200) :
    Calls Tryz.prog 111 #[.pointer (some ⟨q, 0, none⟩), .int .i64 a] w (Dr w0 w q fun v w' => ∃ fs, OIn w' w.heap.size v sigs fs ∧ Asc fs ∧ (fs.length : Int) ≤ a ∧ ∀ f ∈ fs, f.2.length ≤ 2) := by
  have hC' := Aside0.mk hC
  have hqw := Aside0.mk hC.lt
  have hq0 := Aside0.mk hC.lo
  have hA' := Aside0.mk (And.intro ha0 ha1)
  have hb0 := Aside0.mk (On.alloc (On.refl w) (.cells #[.slice none 0 0, .slice none 0 0] 27 (0, 0)))
  have hl0 := Aside0.mk (loc_new w #[.slice none 0 0, .slice none 0 0] 27)
  have hwr : wrap64 (a + 1) = a + 1 := IntWalk.wrap64_in _ (by omega)
  clear hC ha0 ha1
  go_enter Tryz.func111, Tryz.ntmps111
  go_wp2_with (go_at_call 88; refine Stop.out ?_)
  refine ⟨(l3Sigs_calls _).mono ?_⟩
  rintro e w1 ⟨v, rfl, hR, hb1⟩
  obtain ⟨As, cs, rfl⟩ := own_slice hR
  have hR' := Aside0.mk hR
  have hb1' := Aside0.mk hb1
  have hl1 := Aside0.mk (blk_below hl0.out hb1)
  have hsz := Aside0.mk (show w.heap.size + 1 ≤ w1.heap.size by have := blk_lt hl1.out; omega)
  have hfill := alloc_fill w1
  clear hR hb1
  go_wp2_with (go_at_call 44; refine Stop.out ?_)
  refine ⟨?_⟩
  clear hfill
  obtain ⟨wa, hwa⟩ : ∃ wa, w1.alloc (.cells #[.slice As sigs.length cs, .slice none 0 0] 27 (0, 0)) = wa := ⟨_, rfl⟩
  have hsa := Aside0.mk (show wa.heap.size = w1.heap.size + 1 from hwa ▸ by simp)
  have hl8 := Aside0.mk (show wa.heap[w1.heap.size]? = some (.cells #[.slice As sigs.length cs, .slice none 0 0] 27 (0, 0)) from hwa ▸ loc_new w1 _ _)
  have hba := Aside0.mk (show On w1 wa from hwa ▸ On.alloc (On.refl _) _)
  rw [hwa]
  clear hwa
  obtain ⟨g7, hg7⟩ : ∃ g7, w1.heap.size = g7 := ⟨_, rfl⟩
  rw [hg7] at hl8 hsz hsa ⊢
  have hba0 := Aside0.mk (hb0.out.trans (hb1'.out.trans hba.out))
  have hbl := Aside0.mk (show w1.heap.size = g7 from hg7)
  clear hg7
  refine (l1Below_calls w0 _ q (hC'.out.next hba0.out) (a + 1) (by have := hA'.out; omega) (by have := hA'.out; omega)).mono ?_
  rintro e w2 ⟨v, rfl, ⟨c0, rfl, hc0⟩, hC2, hE2⟩
  replace hc0 := Aside0.mk hc0
  have hC2' := Aside0.mk hC2
  have hE2' := Aside0.mk hE2
  have hl2 := Aside0.mk (blk_ex hE2 hl8.out (by have := hqw.out; have := hsz.out; omega))
  have hR2 := Aside0.mk (show RS (fun b => b = q ∨ b = g7) w2 (.agg #[.slice As sigs.length cs, .slice none 0 0]) sigs [] from RS.ex (RS.on (RS.start hR'.out (fun b h1 h2 h3 => by
    have := hqw.out; have := hbl.out; simp at h1; omega)) hba.out) (hE2.mono fun _ h => .inl h))
  clear hC2 hE2
  go_wp2
  go_loopw [6] (fun v8 wr => ∃ (c : Nat) (fs : List Fct) (A0 : Option Addr) (d0 : Nat) (A1 : Option Addr) (d1 : Nat), v8 = .int .i64 c ∧ wr.heap[g7]? = some (.cells #[.slice A0 sigs.length d0, .slice A1 fs.length d1] 27 (0, 0)) ∧ RS (fun b => b = q ∨ b = g7) wr (.agg #[.slice A0 sigs.length d0, .slice A1 fs.length d1]) sigs fs ∧ Asc fs ∧ (fs.length : Int) + (c : Int) ≤ a ∧ (∀ f ∈ fs, f.2.length ≤ 2) ∧ Cu w0 wr q ∧ Ex (fun b => b = q) w wr ∧ Ex (fun b => b = q ∨ b = g7) wa wr) (fun v8 _ => (intOf v8).toNat)
  case atStart => exact ⟨c0.toNat, [], As, cs, none, 0, by have := hc0.out; congr 1; omega, hl2.out, hR2.out, List.Pairwise.nil, by have := hc0.out; have := hA'.out; simp; omega, fun _ h => absurd h (by simp), hC2'.out, (Ex.of_on (S := fun b => b = q) hba0.out).trans hE2'.out fun _ _ h => h, hE2'.out.mono fun _ h => .inl h⟩
  case round =>
    obtain ⟨c, fs, A0, d0, A1, d1, rfl, hb7, hR, ha, hl, hl2, hC, hE, hEa⟩ := hrel
    have hb7' := Aside0.mk hb7
    have hRa := Aside0.mk hR
    have ha' := Aside0.mk ha
    have hl' := Aside0.mk hl
    have hl2' := Aside0.mk hl2
    have hC1 := Aside0.mk hC
    have hE' := Aside0.mk hE
    have hEa' := Aside0.mk hEa
    have hd0 := blk_cell hb7 0
    have hd1 := blk_cell hb7 1
    clear hb7 hR ha hl hl2 hC hE hEa
    by_cases hc : 0 < c
    · have hc' := Aside0.mk hc
      have hcb : decide ((0 : Int) < (c : Int)) = true := decide_eq_true (by omega)
      have hcn : decide (0 < c) = true := decide_eq_true hc
      clear hc
      go_wp2
      refine Reg.regionG (fun w' => w'.heap[g7]? = some (.cells #[.slice A0 sigs.length d0, .slice A1 fs.length d1] 27 (0, 0))) [0,1,2] [3,4,5,6] 6 (by kernel_rfl) (by kernel_rfl) hb7'.out ?_
      repeat refine Reg.sG ?_
      refine Reg.startG ?_
      obtain ⟨w3, hw3⟩ : ∃ w3, ({ wr with drawn := wr.drawn + 1 } : World) = w3 := ⟨_, rfl⟩
      have hS3 := Aside0.mk (show On wr w3 from (hw3 ▸ on_draw wr))
      rw [hw3]
      clear hw3 hd0 hd1
      refine Reg.tG ?_
      go_wp2_with (go_at_call 44; refine Stop.out ?_)
      refine ⟨(l1Below_calls w0 _ q (hC1.out.next hS3.out) 2 (by omega) (by omega)).mono ?_⟩
      rintro e w4 ⟨v, rfl, ⟨x, rfl, hx⟩, hC4, hE4⟩
      obtain ⟨y, rfl⟩ := Int.eq_ofNat_of_zero_le hx.1
      have hkb := Aside0.mk (show y < 5 by omega)
      have hC4' := Aside0.mk hC4
      have hE4' := Aside0.mk ((Ex.of_on (S := fun b => b = q) hS3.out).trans hE4 fun _ _ h => h)
      have hb4 := Aside0.mk (blk_ex hE4'.out hb7'.out (by have := hqw.out; have := hsz.out; omega))
      clear hC4 hE4 hx
      go_wp2
      refine ⟨hb4.out, ?_⟩
      refine Reg.tG ?_
      go_wp2_with (go_at_call 43; refine Stop.out ?_)
      refine ⟨(l4Fact_calls w0 _ q hC4'.out y hkb.out 0 (by omega) (by omega)).mono ?_⟩
      rintro e w5 ⟨v, rfl, ⟨f, hO5, hf1, hf2⟩, hC5, hE5⟩
      obtain ⟨v5, rfl, hO5, hI5⟩ := hO5.out
      obtain ⟨A5, c5, rfl⟩ := own_slice hO5
      have hI5' := Aside0.mk (OI.same hO5 hI5).2
      have hf2' := Aside0.mk (show f.2.length ≤ 2 by rw [hf2]; exact (arN_in _).2)
      have hC5' := Aside0.mk hC5
      have hE5' := Aside0.mk (hE4'.out.trans hE5 fun _ _ h => h)
      have hb5 := Aside0.mk (blk_ex hE5'.out hb7'.out (by have := hqw.out; have := hsz.out; omega))
      clear hC5 hE5 hf1 hf2 hO5 hI5
      go_wp2
      refine ⟨hb5.out, ?_⟩
      refine Reg.tG ?_
      go_wp2_with (go_at_call 41; refine Stop.out ?_)
      obtain ⟨_, _, hs, hall⟩ := (RS.ex hRa.out (hE5'.out.mono fun _ h => .inl h)).parts
      refine ⟨(l5PutS_calls (fun b => b = q ∨ b = g7) _ A0 d0 A1 d1 hs sigs fs hall (fun b hb => by have := blk_lt hb5.out; have := hC5'.out.lt; rcases hb with h | h <;> omega) A5 c5 f hI5'.out (by have := hl'.out; have := hA'.out; omega) (by have := hf2'.out; omega) ha'.out).mono ?_⟩
      rintro e w6 ⟨v6, rfl, hR6, hb6⟩
      obtain ⟨fs', hfs⟩ : ∃ fs', putF fs f = fs' := ⟨_, rfl⟩
      rw [hfs] at hR6
      have hR6' := Aside0.mk hR6
      obtain ⟨B0, e0, B1, e1, hs', rfl, -⟩ := hR6.out
      have ha6 := Aside0.mk (show Asc fs' from hfs ▸ putF_asc f fs ha'.out)
      have hl6 := Aside0.mk (show fs'.length ≤ fs.length + 1 from hfs ▸ putF_le fs f)
      have hm6 := Aside0.mk (show ∀ g ∈ fs', g.2.length ≤ 2 by
        rw [← hfs]; intro g hg; rcases (mem_putF f g fs).1 hg with rfl | h
        · exact hf2'.out
        · exact hl2'.out g h)
      have hb6' := Aside0.mk hb6
      have hbl6 := Aside0.mk (blk_below hb5.out hb6)
      have hcr := blk_cell hbl6.out
      have hfr := blk_frozen hbl6.out
      clear hR6 hfs hb6
      go_wp2
      refine ⟨hbl6.out, ?_⟩
      refine Reg.tE ?_
      go_wp2
      have EE := (Ex.set w6 ⟨g7, 0, none⟩ (.slice B0 sigs.length e0)).trans (Ex.set _ ⟨g7, 1, none⟩ (.slice B1 fs'.length e1)) (fun _ _ h => h)
      have hwc : wrap64 ((c : Int) - 1) = ((c - 1 : Nat) : Int) := by have := hc'.out; have := hl'.out; have := hA'.out; rw [IntWalk.wrap64_in _ (by omega)]; omega
      have hs1 := hsz.out
      have hq1 := hqw.out
      have hq2 := hq0.out
      refine ⟨⟨c - 1, fs', B0, e0, B1, e1, by rw [hwc], blk_set (blk_set hbl6.out 0 _) 1 _, RS.ex hR6'.out (EE.mono fun _ h => .inr h), ha6.out, by have := hc'.out; have := hl'.out; have := hA'.out; have := hl6.out; omega, hm6.out,
        (hC5'.out.next hb6'.out).ex EE (fun b hb => by have e' : b = g7 := hb; omega), ((hE'.out.trans hE5'.out fun _ _ h => h).then_on hb6'.out).trans EE (fun i hi h => by have e' : i = g7 := h; omega),
        ((hEa'.out.trans hE5'.out fun _ _ h => .inl h).then_on hb6'.out).trans EE (fun i hi h => .inr h)⟩, ?_⟩
      rw [hwc]
      have := hc'.out
      simp [intOf]
      omega
    · have hcb : decide ((0 : Int) < (c : Int)) = false := decide_eq_false (by omega)
      have hcn : decide (0 < c) = false := decide_eq_false hc
      clear hc
      go_wp2_with (go_at_call 38; refine Stop.out ?_)
      obtain ⟨_, _, hs, hall⟩ := hRa.out.parts
      obtain ⟨h1, h2, h3⟩ := hall wr (Ex.refl _ _)
      refine ⟨(l5Copy_calls _ A0 d0 A1 d1 sigs fs h1 (h2.fcts h3) (by show (5 : Nat) ≤ _; omega) (by have := hl'.out; have := hA'.out; omega) (fun f hf => by have := hl2'.out f hf; omega)).mono ?_⟩
      rintro e w7 ⟨v7, rfl, hI0, hb7x⟩
      obtain ⟨a1, a2, a3, a4, a5, a6, rfl⟩ := hI0.read.shape
      have hI := Aside0.mk hI0
      have hb7a := Aside0.mk hb7x
      have hr7 := Aside0.mk (blk_below (blk_ex hEa'.out (blk_below hl1.out hba.out) (by have := hqw.out; have := hsz.out; omega)) hb7x)
      have hd0 := blk_cell hr7.out
      have hfr := blk_frozen hr7.out
      clear hI0 hb7x h1 h2 h3 hall
      go_wp2
      refine bodyPost_ret (retI rfl rfl (g := w.heap.size) (blk_set (blk_set hr7.out 0 _) 1 _) rfl) rfl ?_
      have EE := (Ex.set w7 ⟨w.heap.size, 0, none⟩ (.slice a1 a2 a3)).trans (Ex.set _ ⟨w.heap.size, 1, none⟩ (.slice a4 a5 a6)) (fun _ _ h => h)
      have hlo : w.heap.size < wr.heap.size := blk_lt (blk_ex hEa'.out (blk_below hl1.out hba.out) (by have := hqw.out; have := hsz.out; omega))
      have hq1 := hqw.out
      have hq2 := hq0.out
      exact ⟨_, rfl, ⟨fs, OIn.lower (OIn.set (OIn.set hI.out hlo _) hlo _) (Nat.le_of_lt hlo), ha'.out, by have := hl'.out; have := hA'.out; omega, hl2'.out⟩,
        (hC1.out.next hb7a.out).ex EE (fun b hb => by have e' : b = w.heap.size := hb; omega), (hE'.out.then_on hb7a.out).trans EE (fun i hi h => by have e' : i = w.heap.size := h; omega)⟩
end Go.Proofs.YtngjhblbpapjeaaGreat.H
/- Walks: the draws of one relation and of any fact. What is told: sizes and ranges. No condition. -/
namespace Go.Proofs.YtngjhblbpapjeaaGreat.H
open Go Go.RowKit Go.Proofs.YtngjhblbpapjeaaGreatW.PrintWords Go.Proofs.YtngjhblbpapjeaaGreatW.PrintLast
open Go.Proofs.YtngjhblbpapjeaaGreat.Reg (On on_draw)
set_option maxHeartbeats 4000000
set_option maxRecDepth 100000
set_option linter.unusedVariables false
set_option linter.unusedSimpArgs false

theorem l1Pick_calls (w0 w : World) (q : Nat) (hC : Cu w0 w q) (ad : Addr) (c : Nat) (xs : List ByteArray) (hI : ∀ w', Ex (fun b => b = q) w w' → ∀ i (h : i < xs.length), w'.cell? (ad.add i) = some (.string xs[i])) (h1 : 1 ≤ xs.length) (h2 : xs.length ≤ 256) :
    Calls Tryz.prog 127 #[.pointer (some ⟨q, 0, none⟩), .slice (some ad) xs.length c] w (Dr w0 w q fun v _ => ∃ x, v = .string x ∧ x ∈ xs) := by
  have hC' := Aside0.mk hC
  have h1' := Aside0.mk h1
  have h2' := Aside0.mk h2
  have hI' := Aside0.mk hI
  clear hC h1 h2 hI
  go_enter Tryz.func127, Tryz.ntmps127
  go_wp2_with (go_at_call 44; refine (l1Below_calls w0 _ q hC'.out xs.length (by have := h1'.out; omega) (by have := h2'.out; omega)).mono ?_; rintro e w3 ⟨v, rfl, ⟨x, rfl, hx⟩, hC3, hE3⟩; replace hx := Aside0.mk hx; obtain ⟨k, hk⟩ := Int.eq_ofNat_of_zero_le hx.out.1; subst hk; have hkl : k < xs.length := (by have := hx.out; omega); have hx3 := hI'.out _ hE3 k hkl)
  go_ret
  exact ⟨_, rfl, ⟨_, rfl, List.getElem_mem (by have := hx.out; omega)⟩, hC3, hE3⟩
def names6 : List ByteArray := [⟨#[97]⟩, ⟨#[122]⟩, ⟨#[]⟩, ⟨#[65]⟩, ⟨#[97, 98]⟩, ⟨#[112]⟩]
theorem names6_at : ∀ (i : Nat) (h : i < names6.length), (#[.string ⟨#[97]⟩, .string ⟨#[122]⟩, .string ⟨#[]⟩, .string ⟨#[65]⟩, .string ⟨#[97, 98]⟩, .string ⟨#[112]⟩] : Array Value)[i]? = some (.string names6[i])
  | 0, _ => rfl
  | 1, _ => rfl
  | 2, _ => rfl
  | 3, _ => rfl
  | 4, _ => rfl
  | 5, _ => rfl
  | n + 6, h => absurd h (by show ¬ n + 6 < 6; omega)
theorem l3One_calls (w0 w : World) (q : Nat) (hC : Cu w0 w q) :
    Calls Tryz.prog 113 #[.pointer (some ⟨q, 0, none⟩)] w (Dr w0 w q fun v _ => ∃ r : Rel, v = .agg #[.string r.1, .int .i64 r.2.1, .bool r.2.2]) := by
  have hC' := Aside0.mk hC
  have hqw := Aside0.mk hC.lt
  have hq0 := Aside0.mk hC.lo
  have hb0 := Aside0.mk (On.alloc (On.alloc (On.refl w) (.cells #[.string ⟨#[]⟩, .int .i64 0, .bool false] 81 (0, 0))) (.cells #[.string ⟨#[97]⟩, .string ⟨#[122]⟩, .string ⟨#[]⟩, .string ⟨#[65]⟩, .string ⟨#[97, 98]⟩, .string ⟨#[112]⟩] 9 (0, 0)))
  have hl0 := Aside0.mk (loc2 w #[.string ⟨#[]⟩, .int .i64 0, .bool false] #[.string ⟨#[97]⟩, .string ⟨#[122]⟩, .string ⟨#[]⟩, .string ⟨#[65]⟩, .string ⟨#[97, 98]⟩, .string ⟨#[112]⟩] 81 9)
  clear hC
  go_enter Tryz.func113, Tryz.ntmps113
  go_wp2_with (go_at_call 127; refine Stop.out ?_)
  refine ⟨(l1Pick_calls w0 _ q (hC'.out.next hb0.out) ⟨w.heap.size + 1, 0, none⟩ 6 names6 (fun w' k i hi => ?_) (by show 1 ≤ 6; omega) (by show 6 ≤ 256; omega)).mono ?_⟩
  · have hb := blk_ex k hl0.out.2.1 (by have := hqw.out; omega)
    have h1 := (blk_cell hb i).trans (names6_at i hi)
    by_cases h0 : i = 0
    · subst h0; simpa [Addr.add] using h1
    · simpa [Addr.add, h0] using h1
  rintro e w1 ⟨v, rfl, ⟨s, rfl, -⟩, hC1, hE1⟩
  have hC1' := Aside0.mk hC1
  have hE1' := Aside0.mk ((Ex.of_on (S := fun b => b = q) hb0.out).trans hE1 fun _ _ h => h)
  have hr1 := Aside0.mk (blk_ex hE1 hl0.out.1 (by have := hqw.out; omega))
  clear hC1 hE1
  go_wp2_with (go_at_call 44; refine Stop.out ?_)
  refine ⟨(l1Below_calls w0 _ q hC1'.out 6 (by omega) (by omega)).mono ?_⟩
  rintro e w2 ⟨v, rfl, ⟨x, rfl, hx⟩, hC2, hE2⟩
  have hw : wrap64 (x - 1) = x - 1 := IntWalk.wrap64_in _ (by omega)
  have hC2' := Aside0.mk hC2
  have hE2' := Aside0.mk (hE1'.out.trans hE2 fun _ _ h => h)
  have hr2 := Aside0.mk (blk_ex hE2 hr1.out (by have := hqw.out; omega))
  clear hC2 hE2 hx
  go_wp2_with (go_at_call 110; refine Stop.out ?_)
  refine ⟨(l1Once_calls w0 _ q hC2'.out 2 (by omega) (by omega)).mono ?_⟩
  rintro e w3 ⟨v, rfl, ⟨b, rfl⟩, hC3, hE3⟩
  have hC3' := Aside0.mk hC3
  have hE3' := Aside0.mk (hE2'.out.trans hE3 fun _ _ h => h)
  have hr3 := Aside0.mk (blk_ex hE3 hr2.out (by have := hqw.out; omega))
  have hd0 := blk_cell hr3.out
  have hfr := blk_frozen hr3.out
  clear hC3 hE3
  go_wp2
  refine bodyPost_ret (retR rfl rfl (g := w.heap.size) (blk_set (blk_set (blk_set hr3.out 0 _) 1 _) 2 _) rfl) rfl ?_
  have EE := ((Ex.set w3 ⟨w.heap.size, 0, none⟩ (.string s)).trans (Ex.set _ ⟨w.heap.size, 1, none⟩ (.int .i64 (x - 1))) (fun _ _ h => h)).trans (Ex.set _ ⟨w.heap.size, 2, none⟩ (.bool b)) (fun _ _ h => h)
  have hq1 := hqw.out
  have hq2 := hq0.out
  exact ⟨_, rfl, ⟨(s, x - 1, b), rfl⟩, hC3'.out.ex EE (fun b hb => by have e' : b = w.heap.size := hb; omega), hE3'.out.trans EE (fun i hi h => by have e' : i = w.heap.size := h; omega)⟩
end Go.Proofs.YtngjhblbpapjeaaGreat.H
/- Walks: the draw of any fact. What is told: sizes and ranges. No condition. -/
namespace Go.Proofs.YtngjhblbpapjeaaGreat.H
open Go Go.RowKit Go.Proofs.YtngjhblbpapjeaaGreatW.PrintWords Go.Proofs.YtngjhblbpapjeaaGreatW.PrintLast
open Go.Proofs.YtngjhblbpapjeaaGreat.Reg (On on_draw)
set_option maxHeartbeats 4000000
set_option maxRecDepth 100000
set_option linter.unusedVariables false
set_option linter.unusedSimpArgs false

/-- The first number of a row stored. -/
theorem OI.set0 {W : World} {lo : Nat} {A : Option Addr} {n c : Nat} {y : Int} {ys : List Int} (h : OI W lo (.slice A n c) (y :: ys)) : ∃ g, A = some ⟨g, 0, none⟩ ∧ lo ≤ g ∧ g < W.heap.size ∧ (∃ z, W.cell? ⟨g, 0, none⟩ = some z) ∧ W.frozen? ⟨g, 0, none⟩ = false ∧ ∀ x, OI (W.setCell ⟨g, 0, none⟩ (.int .i64 x)) lo (.slice A n c) (x :: ys) := by
  have hx := h.1
  rcases h.2 with ⟨h', hn⟩ | ⟨g, cap, cur, h', hg, hh, hnc, hcm, hcs, htk⟩
  · simp at hn
  · injection h' with e1 e2 e3
    subst e1 e2 e3
    refine ⟨g, rfl, hg, own_lt h g rfl, ?_, own_frozen h 0, fun x => ?_⟩
    · obtain ⟨z, hz⟩ := own_some h 0 (by simp)
      exact ⟨z, hz⟩
    · have := (h.stored 0 (.int .i64 x)).1
      exact this
theorem fact_end {w0 w wz : World} {q : Nat} {rz : Int} {Az : Option Addr} {n cz : Nat} {zs : List Int} (hqw : q < w.heap.size) (hq0 : w0.heap.size ≤ q) (hO : OI wz (w.heap.size + 1) (.slice Az n cz) zs) (hI : InR zs) (hl : zs.length ≤ 3) (hC : Cu w0 wz q) (hE : Ex (fun b => b = q) w wz) :
    Dr w0 w q (fun v w' => ∃ f : Fct, OFa w' w.heap.size v f ∧ f.2.length ≤ 3) (.returned (.agg #[.int .i64 rz, .slice Az n cz])) ((wz.setCell ⟨w.heap.size, 0, none⟩ (.int .i64 rz)).setCell ⟨w.heap.size, 1, none⟩ (.slice Az n cz)) := by
  have EE := (Ex.set wz ⟨w.heap.size, 0, none⟩ (.int .i64 rz)).trans (Ex.set _ ⟨w.heap.size, 1, none⟩ (.slice Az n cz)) (fun _ _ h => h)
  exact ⟨_, rfl, ⟨(rz, zs), ⟨_, rfl, own_lower (own_ex hO EE (fun i hi e => by have := own_base hO i hi; have e' : i = w.heap.size := e; omega)) (by omega), hI⟩, hl⟩,
    hC.ex EE (fun b hb => by have e' : b = w.heap.size := hb; omega), hE.trans EE (fun i hi h => by have e' : i = w.heap.size := h; omega)⟩
theorem l4Any_calls (w0 w : World) (q : Nat) (hC : Cu w0 w q) :
    Calls Tryz.prog 112 #[.pointer (some ⟨q, 0, none⟩)] w (Dr w0 w q fun v w' => ∃ f : Fct, OFa w' w.heap.size v f ∧ f.2.length ≤ 3) := by
  have hC' := Aside0.mk hC
  have hqw := Aside0.mk hC.lt
  have hq0 := Aside0.mk hC.lo
  have hb0 := Aside0.mk (On.alloc (On.refl w) (.cells #[.int .i64 0, .slice none 0 0] 30 (0, 0)))
  have hl0 := Aside0.mk (loc_new w #[.int .i64 0, .slice none 0 0] 30)
  clear hC
  go_enter Tryz.func112, Tryz.ntmps112
  go_wp2_with (go_at_call 44; refine Stop.out ?_)
  refine ⟨(l1Below_calls w0 _ q (hC'.out.next hb0.out) 5 (by omega) (by omega)).mono ?_⟩
  rintro e w1 ⟨v, rfl, ⟨x, rfl, hx⟩, hC1, hE1⟩
  obtain ⟨k, rfl⟩ := Int.eq_ofNat_of_zero_le hx.1
  have hk := Aside0.mk (show k < 5 by omega)
  have hC1' := Aside0.mk hC1
  have hE1' := Aside0.mk ((Ex.of_on (S := fun b => b = q) hb0.out).trans hE1 fun _ _ h => h)
  have hr1 := Aside0.mk (blk_ex hE1 hl0.out (by have := hqw.out; omega))
  clear hC1 hE1 hx
  go_wp2_with (go_at_call 43; refine Stop.out ?_)
  refine ⟨(l4Fact_calls w0 _ q hC1'.out k hk.out 4 (by omega) (by omega)).mono ?_⟩
  rintro e w2 ⟨v, rfl, ⟨f, hO, hf1, hf2⟩, hC2, hE2⟩
  obtain ⟨v2, rfl, hO, hI⟩ := hO.out
  obtain ⟨A2, c2, rfl⟩ := own_slice hO
  have hO' := Aside0.mk (own_lower (lo' := w.heap.size + 1) hO (by have := blk_lt hr1.out; omega))
  have hI' := Aside0.mk hI
  have hf2' := Aside0.mk (show 1 ≤ f.2.length ∧ f.2.length ≤ 2 by rw [hf2]; exact arN_in k)
  have hC2' := Aside0.mk hC2
  have hE2' := Aside0.mk (hE1'.out.trans hE2 fun _ _ h => h)
  have hr2 := Aside0.mk (blk_ex hE2 hr1.out (by have := hqw.out; omega))
  clear hC2 hE2 hO hI hf1 hf2
  obtain ⟨r, xs⟩ := f
  simp only at hO' hI' hf2' ⊢
  have hfill := alloc_fill w2
  go_wp2_with (go_at_call 44; refine Stop.out ?_)
  refine ⟨?_⟩
  clear hfill
  obtain ⟨wa, hwa⟩ : ∃ wa, w2.alloc (.cells #[.int .i64 r, .slice A2 xs.length c2] 30 (0, 0)) = wa := ⟨_, rfl⟩
  have hl3 := Aside0.mk (show wa.heap[w2.heap.size]? = some (.cells #[.int .i64 r, .slice A2 xs.length c2] 30 (0, 0)) from hwa ▸ loc_new w2 _ _)
  have hba := Aside0.mk (show On w2 wa from hwa ▸ On.alloc (On.refl _) _)
  rw [hwa]
  clear hwa
  have hbl := Aside0.mk (show w.heap.size < w2.heap.size from blk_lt hr2.out)
  have hblx := Aside0.mk (show ∀ i, (Value.slice A2 xs.length c2).ownBlock = some i → i < w2.heap.size from fun i hi => own_lt hO'.out i hi)
  obtain ⟨g3, hg3⟩ : ∃ g3, w2.heap.size = g3 := ⟨_, rfl⟩
  rw [hg3] at hl3 hbl hblx ⊢
  clear hg3
  refine (l1Below_calls w0 _ q (hC2'.out.next hba.out) 10 (by omega) (by omega)).mono ?_
  rintro e w3 ⟨v, rfl, ⟨x, rfl, hx⟩, hC3, hE3⟩
  have hC3' := Aside0.mk hC3
  have hE3a := Aside0.mk ((Ex.of_on (S := fun b => b = q) hba.out).trans hE3 fun _ _ h => h)
  have hr3 := Aside0.mk (blk_ex hE3a.out hr2.out (by have := hqw.out; omega))
  have hg3 := Aside0.mk (blk_ex hE3 hl3.out (by have := hqw.out; have := hbl.out; omega))
  have hE3' := Aside0.mk (hE2'.out.trans hE3a.out fun _ _ h => h)
  have hO3 := Aside0.mk (own_ex hO'.out hE3a.out (fun i hi e => by have := own_base hO'.out i hi; have := hqw.out; omega))
  clear hC3 hE3 hx
  by_cases hx0 : x = 0
  · subst hx0
    go_wp2_with (go_at_call 44; refine Stop.out ?_)
    refine ⟨(l1Below_calls w0 _ q hC3'.out 7 (by omega) (by omega)).mono ?_⟩
    rintro e w4 ⟨v, rfl, ⟨y, rfl, hy⟩, hC4, hE4⟩
    have hw : wrap64 (y - 1) = y - 1 := IntWalk.wrap64_in _ (by omega)
    have hC4' := Aside0.mk hC4
    have hr4 := Aside0.mk (blk_ex hE4 hr3.out (by have := hqw.out; omega))
    have hg4 := Aside0.mk (blk_ex hE4 hg3.out (by have := hqw.out; have := hbl.out; omega))
    have hE4' := Aside0.mk (hE3'.out.trans hE4 fun _ _ h => h)
    have hO4 := Aside0.mk (own_ex hO3.out hE4 (fun i hi e => by have := own_base hO3.out i hi; have := hqw.out; omega))
    clear hC4 hE4 hy
    have hne := Aside0.mk (show w.heap.size ≠ g3 by have := hbl.out; omega)
    have hd0 := blk_cell hg4.out
    have hf0 := blk_frozen hg4.out
    have hx4 := Aside0.mk (show (w4.setCell ⟨g3, 0, none⟩ (.int .i64 (y - 1))).heap[w.heap.size]? = _ from blk_far hr4.out (by show ¬ _; simp; have := hbl.out; omega) _)
    have hd1 := blk_cell hx4.out
    have hf1 := blk_frozen hx4.out
    go_wp2
    refine bodyPost_ret (retF rfl rfl (g := w.heap.size) (blk_set (blk_set hx4.out 0 _) 1 _) rfl) rfl ?_
    have EX := Ex.set w4 ⟨g3, 0, none⟩ (.int .i64 (y - 1))
    have hb1 := hbl.out
    have hb2 := hqw.out
    have hb3 := hq0.out
    exact fact_end hqw.out hq0.out (own_ex hO4.out EX (fun i hi e => by have e' : i = g3 := e; have := hblx.out i hi; omega)) hI'.out (by have := hf2'.out; omega) (hC4'.out.ex EX (fun b hb => by have e' : b = g3 := hb; omega)) (hE4'.out.trans EX (fun i hi h => by have e' : i = g3 := h; omega))
  · by_cases hx1 : x = 1
    · subst hx1
      have hd0 := blk_cell hg3.out
      have hf0 := blk_frozen hg3.out
      go_wp2_with (refine gate 21 ?_)
      have hI5 := Aside0.mk (lit_I w3 1 (by omega))
      have hS5 := Aside0.mk (On.alloc (On.refl w3) (.cells #[.int .i64 1] 3 (0, 0)))
      obtain ⟨ys, hys⟩ : ∃ ys, xs ++ [1] = ys := ⟨_, rfl⟩
      refine ⟨apI 21 hys (OI.to (pw_own_below hO3.out hS5.out)) hI5.out.2.1 (by have := blk_lt (blk_below hr3.out hS5.out); omega) (by have := hf2'.out; simp; omega) fun v6 w6 hO6 hg6 hat6 => ?_⟩
      have hO6' := Aside0.mk (OI.of hO6)
      have hS6 := Aside0.mk (Ex.of_grown hg6)
      have hr6 := Aside0.mk (blk_ex hS6.out (blk_below hr3.out hS5.out) (fun e => by have := own_base hO3.out _ e.symm; omega))
      have hg6' := Aside0.mk (blk_ex hS6.out (blk_below hg3.out hS5.out) (fun e => by have := hblx.out _ e.symm; omega))
      have hyl := Aside0.mk (show ys.length = xs.length + 1 by rw [← hys]; simp)
      have hyi := Aside0.mk (show InR ys by rw [← hys]; intro z hz; rcases List.mem_append.1 hz with h | h; exact hI'.out z h; rw [List.mem_singleton.1 h]; omega)
      have hlt6 := Aside0.mk (show ∀ i, v6.ownBlock = some i → i ≠ g3 ∧ w.heap.size < i from fun i hi => by
        have h1 := own_base hO6'.out i hi
        refine ⟨?_, by omega⟩
        rcases hat6 with e | ⟨b, e, hb⟩
        · have := hblx.out i (e ▸ hi); omega
        · rw [e] at hi; cases hi; have := blk_lt (blk_below hg3.out hS5.out); omega)
      clear hO6 hg6 hat6 hys hd0 hf0
      obtain ⟨A6, c6, rfl⟩ := own_slice hO6'.out
      have hd6 := blk_cell hg6'.out
      have hf6 := blk_frozen hg6'.out
      have hx6 := Aside0.mk (show (w6.setCell ⟨g3, 1, none⟩ (.slice A6 ys.length c6)).heap[w.heap.size]? = _ from blk_far hr6.out (by show ¬ _; simp; have := hbl.out; omega) _)
      have hd1 := blk_cell hx6.out
      have hf1 := blk_frozen hx6.out
      go_wp2
      refine bodyPost_ret (retF rfl rfl (g := w.heap.size) (blk_set (blk_set hx6.out 0 _) 1 _) rfl) rfl ?_
      have EX := Ex.set w6 ⟨g3, 1, none⟩ (.slice A6 ys.length c6)
      have hb1 := hbl.out
      have hb2 := hqw.out
      have hb3 := hq0.out
      have hE6 := (hE3'.out.then_on hS5.out).trans hS6.out (fun i hi h => by have := own_base hO3.out i h.symm; omega)
      exact fact_end hqw.out hq0.out (own_ex hO6'.out EX (fun i hi e => by have e' : i = g3 := e; have := (hlt6.out i hi).1; omega)) hyi.out (by have := hf2'.out; have := hyl.out; omega) (((hC3'.out.next hS5.out).ex hS6.out (fun b hb => by have := own_base hO3.out b hb.symm; omega)).ex EX (fun b hb => by have e' : b = g3 := hb; omega)) (hE6.trans EX (fun i hi h => by have e' : i = g3 := h; omega))
    · by_cases hx2 : x = 2
      · subst hx2
        have hd0 := blk_cell hg3.out
        have hf0 := blk_frozen hg3.out
        obtain ⟨y0, ys, rfl⟩ : ∃ y0 ys, xs = y0 :: ys := by
          cases xs with
          | nil => have := hf2'.out; simp at this
          | cons a b => exact ⟨a, b, rfl⟩
        obtain ⟨gr, rfl, hgr1, hgr2, -⟩ := OI.set0 hO3.out
        have hgr := Aside0.mk (show w.heap.size + 1 ≤ gr ∧ gr < g3 from ⟨hgr1, hblx.out gr rfl⟩)
        clear hgr1 hgr2
        go_wp2
        refine Reg.regionG (fun w' => w'.heap[g3]? = some (.cells #[.int .i64 r, .slice (some ⟨gr, 0, none⟩) (y0 :: ys).length c2] 30 (0, 0))) [0,1,2] [3,4,5,6] 6 (by kernel_rfl) (by kernel_rfl) hg3.out ?_
        repeat refine Reg.sG ?_
        refine Reg.startG ?_
        obtain ⟨w4, hw4⟩ : ∃ w4, ({ w3 with drawn := w3.drawn + 1 } : World) = w4 := ⟨_, rfl⟩
        have hS4 := Aside0.mk (show On w3 w4 from (hw4 ▸ on_draw w3))
        rw [hw4]
        clear hw4 hd0 hf0
        refine Reg.tG ?_
        go_wp2
        have hlt := Aside0.mk (show OI (w4.alloc (.cells #[.int .i64 10, .int .i64 (-41), .int .i64 9] 3 (0, 0))) w4.heap.size (.slice (some ⟨w4.heap.size, 0, none⟩) 3 3) [10, -41, 9] from lit_own w4 #[.int .i64 10, .int .i64 (-41), .int .i64 9] 3 1 3 w4.heap.size (Nat.le_refl _) (by omega) rfl)
        have hS5 := Aside0.mk (hS4.out.trans (On.alloc (On.refl w4) (.cells #[.int .i64 10, .int .i64 (-41), .int .i64 9] 3 (0, 0))))
        have hqs := Aside0.mk (show q < w4.heap.size from (hC3'.out.next hS4.out).lt)
        refine ⟨blk_below hg3.out hS5.out, ?_⟩
        refine Reg.tG ?_
        go_wp2_with (go_at_call 126; refine Stop.out ?_)
        refine ⟨(l1PickInt_calls w0 _ q (hC3'.out.next hS5.out) (some ⟨w4.heap.size, 0, none⟩) 3 [10, -41, 9] (fun w' k => (OI.same (own_ex hlt.out k (fun i hi e => by have := own_base hlt.out i hi; have := hqs.out; omega)) (fun z hz => by simp at hz; omega)).2) (by simp) (by simp)).mono ?_⟩
        rintro e w6 ⟨v, rfl, ⟨x, rfl, hx⟩, hC6, hE6⟩
        have hx' := Aside0.mk (show -41 ≤ x ∧ x ≤ 10 by simp at hx; omega)
        have hC6' := Aside0.mk hC6
        have hE6' := Aside0.mk ((Ex.of_on (S := fun b => b = q) hS5.out).trans hE6 fun _ _ h => h)
        have hg6 := Aside0.mk (blk_ex hE6'.out hg3.out (by have := hqw.out; have := hbl.out; omega))
        have hr6 := Aside0.mk (blk_ex hE6'.out hr3.out (by have := hqw.out; omega))
        have hO6 := Aside0.mk (own_ex hO3.out hE6'.out (fun i hi e => by have := own_base hO3.out i hi; have := hqw.out; omega))
        clear hC6 hE6 hx
        obtain ⟨gr', hgr', -, -, ⟨z, hz⟩, hfz, hset⟩ := OI.set0 hO6.out
        obtain rfl : gr = gr' := by injection hgr' with e; injection e
        clear hgr'
        have hset' := Aside0.mk (hset x)
        clear hset
        go_wp2
        refine ⟨hg6.out, ?_⟩
        refine Reg.tG ?_
        go_wp2
        refine ⟨hg6.out, ?_⟩
        refine Reg.tE ?_
        have hx6 := Aside0.mk (show (w6.setCell ⟨gr, 0, none⟩ (.int .i64 x)).heap[w.heap.size]? = _ from blk_far hr6.out (by show ¬ _; simp; have := hgr.out; omega) _)
        have hy6 := Aside0.mk (show (w6.setCell ⟨gr, 0, none⟩ (.int .i64 x)).heap[g3]? = _ from blk_far hg6.out (by show ¬ _; simp; have := hgr.out; omega) _)
        have hd0 := blk_cell hy6.out
        have hf0 := blk_frozen hy6.out
        have hd1 := blk_cell hx6.out
        have hf1 := blk_frozen hx6.out
        go_wp2
        refine bodyPost_ret (retF rfl rfl (g := w.heap.size) (blk_set (blk_set hx6.out 0 _) 1 _) rfl) rfl ?_
        have EX := Ex.set w6 ⟨gr, 0, none⟩ (.int .i64 x)
        have hb1 := hgr.out
        have hb2 := hqw.out
        have hb3 := hq0.out
        exact fact_end (zs := x :: ys) hqw.out hq0.out hset'.out (fun z hz => (List.mem_cons.1 hz).elim (fun e => by have := hx'.out; omega) (fun h => hI'.out z (List.mem_cons_of_mem _ h))) (by have := hf2'.out; simp at this ⊢; omega) (hC6'.out.ex EX (fun b hb => by have e' : b = gr := hb; omega)) ((hE3'.out.trans hE6'.out fun _ _ h => h).trans EX (fun i hi h => by have e' : i = gr := h; omega))
      · have b0 : (x == 0) = false := by simpa using hx0
        have b1 : (x == 1) = false := by simpa using hx1
        have b2 : (x == 2) = false := by simpa using hx2
        have hd0 := blk_cell hg3.out
        have hf0 := blk_frozen hg3.out
        have hd1 := blk_cell hr3.out
        have hf1 := blk_frozen hr3.out
        clear hx0 hx1 hx2
        go_wp2
        refine bodyPost_ret (retF rfl rfl (g := w.heap.size) (blk_set (blk_set hr3.out 0 _) 1 _) rfl) rfl ?_
        exact fact_end hqw.out hq0.out hO3.out hI'.out (by have := hf2'.out; omega) hC3'.out hE3'.out
end Go.Proofs.YtngjhblbpapjeaaGreat.H
/- Walks: the draw of any instance. What is told: sizes and ranges. No condition. -/
namespace Go.Proofs.YtngjhblbpapjeaaGreat.H
open Go Go.RowKit Go.Proofs.YtngjhblbpapjeaaGreatW.PrintWords Go.Proofs.YtngjhblbpapjeaaGreatW.PrintLast
open Go.Proofs.YtngjhblbpapjeaaGreat.Reg (On on_draw)
set_option maxHeartbeats 4000000
set_option maxRecDepth 100000
set_option linter.unusedVariables false
set_option linter.unusedSimpArgs false

/-- An own instance none of whose blocks is g. -/
structure IW (g lo : Nat) (w : World) (vr vf : Value) (rs : List Rel) (hs : List Hdr) (fs : List Fct) : Prop where
  r : OR w lo vr rs
  f : OH w lo vf hs
  s : Sep w lo hs fs
  nr : ∀ b, vr.ownBlock = some b → b ≠ g
  nf : ∀ b, vf.ownBlock = some b → b ≠ g
  ns : ∀ (i : Nat) (a : Hdr) (b : Nat), hs[i]? = some a → (hdV a).ownBlock = some b → b ≠ g
theorem IW.of {g lo lo' : Nat} {w : World} {v : Value} {rs : List Rel} {fs : List Fct} (h : OIn w lo' v rs fs) (hl : lo ≤ lo') (hg : w.heap.size ≤ g ∨ g < lo') : ∃ vr vf hs, v = .agg #[vr, vf] ∧ IW g lo w vr vf rs hs fs := by
  obtain ⟨vr, vf, hs, rfl, h0, h1, h2⟩ := h.out
  exact ⟨vr, vf, hs, rfl, own_lower h0 hl, own_lower h1 hl, h2.lower hl, fun b hb => by have := own_base h0 b hb; have := own_lt h0 b hb; omega,
    fun b hb => by have := own_base h1 b hb; have := own_lt h1 b hb; omega, fun i a b ha hb => by have := h2.lt ha hb; omega⟩
theorem IW.ex {g lo : Nat} {S : Nat → Prop} {W w : World} {vr vf : Value} {rs : List Rel} {hs : List Hdr} {fs : List Fct} (h : IW g lo W vr vf rs hs fs) (k : Ex S W w) (hS : ∀ b, S b → b < lo ∨ b = g) : IW g lo w vr vf rs hs fs :=
  ⟨own_ex h.r k (fun i hi e => by have := own_base h.r i hi; have := h.nr i hi; have := hS i e; omega),
   own_ex h.f k (fun i hi e => by have := own_base h.f i hi; have := h.nf i hi; have := hS i e; omega),
   h.s.ex k (fun i a b ha hb e => by have := (h.s.lt ha hb).1; have := h.ns i a b ha hb; have := hS b e; omega), h.nr, h.nf, h.ns⟩
theorem IW.on {g lo : Nat} {W w : World} {vr vf : Value} {rs : List Rel} {hs : List Hdr} {fs : List Fct} (h : IW g lo W vr vf rs hs fs) (k : On W w) : IW g lo w vr vf rs hs fs := h.ex (Ex.of_on (S := fun _ => False) k) fun _ h => h.elim
theorem IW.rs {g lo : Nat} {S : Nat → Prop} {w : World} {vr vf : Value} {rs : List Rel} {hs : List Hdr} {fs : List Fct} (h : IW g lo w vr vf rs hs fs) (hS : ∀ b, S b → b < lo ∨ b = g) : RS S w (.agg #[vr, vf]) rs fs := by
  obtain ⟨A0, c0, rfl, _⟩ := OR.rd h.r
  obtain ⟨A1, c1, rfl⟩ := own_slice h.f
  refine ⟨A0, c0, A1, c1, hs, by rw [h.s.len], fun w' k => ?_⟩
  have h' := h.ex k hS
  exact ⟨(OR.same h'.r).2, (OH.rh h'.f).2, h'.s.reads⟩
theorem RS.mono {S S' : Nat → Prop} {w : World} {v : Value} {rs : List Rel} {fs : List Fct} (h : RS S w v rs fs) (hs : ∀ b, S' b → S b) : RS S' w v rs fs := by
  obtain ⟨A0, c0, A1, c1, hs', e, h⟩ := h.out
  exact ⟨A0, c0, A1, c1, hs', e, fun w' k => h w' (k.mono hs)⟩
theorem drop1 {w : World} {A : Option Addr} {c : Nat} {rs : List Rel} (h : Rels w A c rs) (hl : 1 ≤ rs.length) : Rels w (if c = 1 then A else A.map (·.add (1 * 3))) (c - 1) (rs.drop 1) :=
  ⟨by rw [List.length_drop]; have := h.1; omega, Kd.C_drop (m := 1) (c := c) h.2 hl h.1⟩
theorem own_off {w : World} {lo e sz n g : Nat} {v : Value} {cs : List Value} {ds : Array Value} {t : TypeId} {fr : Nat × Nat} (h : w.ownsRow lo e sz v n cs) (hb : w.heap[g]? = some (.cells ds t fr)) (hne : t ≠ e) : ∀ b, v.ownBlock = some b → b ≠ g := fun b hv hbg => by
  obtain ⟨c, hc⟩ := own_typed h b hv
  subst hbg
  rw [hb] at hc
  injection hc with hc
  injection hc with _ ht
  exact hne ht
theorem Reads.one {w : World} {a : Hdr} {f : Fct} (h1 : a.1 = f.1) (h2 : a.2.2.1 = f.2.length) (h3 : Ints w a.2.1 a.2.2.2 f.2) : Reads w [a] [f] := ⟨rfl, fun i b g hb hg => by
  have hi : i = 0 := by have := (List.getElem?_eq_some_iff.1 hb).1; simp at this; omega
  subst hi
  simp at hb hg
  subst hb hg
  exact ⟨h1, h2, h3⟩⟩
theorem flat_set (rs : List Rel) (k : Nat) (hk : k < rs.length) (r : Rel) : ((((rs.flatMap encR).set (k * 3) (.string r.1)).set (k * 3 + 1) (.int .i64 r.2.1)).set (k * 3 + 2) (.bool r.2.2)) = (rs.set k r).flatMap encR := by
  have e : rs = rs.take k ++ rs[k] :: rs.drop (k + 1) := by rw [List.getElem_cons_drop, List.take_append_drop]
  have h1 : rs.flatMap encR = (rs.take k).flatMap encR ++ (Value.string rs[k].1 :: Value.int .i64 rs[k].2.1 :: Value.bool rs[k].2.2 :: (rs.drop (k + 1)).flatMap encR) := by
    conv => lhs; rw [e]
    rw [List.flatMap_append, List.flatMap_cons]
    rfl
  rw [h1, set3 (k * 3) (by rw [flat_len (enc := encR) (sz := 3) (fun _ => rfl), List.length_take]; omega), List.set_eq_take_append_cons_drop, if_pos hk, List.flatMap_append, List.flatMap_cons]
  rfl
/-- An element of a row of relations stored. -/
theorem OR.setAt {W : World} {lo : Nat} {A : Option Addr} {n c k : Nat} {rs : List Rel} (h : OR W lo (.slice A n c) rs) (hk : k < rs.length) : ∃ g, A = some ⟨g, 0, none⟩ ∧ (Value.slice A n c).ownBlock = some g ∧ (∃ z, W.cell? ⟨g, k * 3, none⟩ = some z) ∧ (∃ z, W.cell? ⟨g, k * 3 + 1, none⟩ = some z) ∧ (∃ z, W.cell? ⟨g, k * 3 + 2, none⟩ = some z) ∧ (∀ j, W.frozen? ⟨g, j, none⟩ = false) ∧
    ∀ r : Rel, OR (((W.setCell ⟨g, k * 3, none⟩ (.string r.1)).setCell ⟨g, k * 3 + 1, none⟩ (.int .i64 r.2.1)).setCell ⟨g, k * 3 + 2, none⟩ (.bool r.2.2)) lo (.slice A n c) (rs.set k r) := by
  have hn := (OR.same h).1
  rcases h.2 with ⟨h', hn0⟩ | ⟨g, cap, cur, h', hg, hh, hnc, hcm, hcs, htk⟩
  · omega
  · injection h' with e1 e2 e3
    subst e1 e2 e3
    refine ⟨g, rfl, rfl, own_some h (k * 3) (by omega), own_some h (k * 3 + 1) (by omega), own_some h (k * 3 + 2) (by omega), fun j => own_frozen h j, fun r => ?_⟩
    have := ((h.stored (k * 3) (.string r.1)).1.stored (k * 3 + 1) (.int .i64 r.2.1)).1.stored (k * 3 + 2) (.bool r.2.2) |>.1
    rw [flat_set rs k hk r] at this
    show World.ownsRow _ _ _ _ _ (rs.set k r).length _
    rw [List.length_set]
    exact this
/-- What l5Any hands back. -/
abbrev AnyI (lo : Nat) (v : Value) (w : World) : Prop := ∃ rs fs, RS (fun b => b < lo) w v rs fs ∧ rs.length ≤ 5 ∧ fs.length ≤ 200 ∧ ∀ f ∈ fs, f.2.length ≤ 3
theorem inst_end {w0 w wz : World} {q : Nat} {A0 A1 : Option Addr} {n0 c0 n1 c1 : Nat} {rz : List Rel} {fz : List Fct} (hqw : q < w.heap.size) (hq0 : w0.heap.size ≤ q) (hR : RS (fun b => b ≤ w.heap.size) wz (.agg #[.slice A0 n0 c0, .slice A1 n1 c1]) rz fz) (hr : rz.length ≤ 5) (hl : fz.length ≤ 200) (hl2 : ∀ f ∈ fz, f.2.length ≤ 3) (hC : Cu w0 wz q) (hE : Ex (fun b => b = q) w wz) :
    Dr w0 w q (AnyI w.heap.size) (.returned (.agg #[.slice A0 n0 c0, .slice A1 n1 c1])) ((wz.setCell ⟨w.heap.size, 0, none⟩ (.slice A0 n0 c0)).setCell ⟨w.heap.size, 1, none⟩ (.slice A1 n1 c1)) := by
  have EE := (Ex.set wz ⟨w.heap.size, 0, none⟩ (.slice A0 n0 c0)).trans (Ex.set _ ⟨w.heap.size, 1, none⟩ (.slice A1 n1 c1)) (fun _ _ h => h)
  exact ⟨_, rfl, ⟨rz, fz, (hR.ex (EE.mono fun _ h => Nat.le_of_eq h)).mono fun _ h => Nat.le_of_lt h, hr, hl, hl2⟩,
    hC.ex EE (fun b hb => by have e' : b = w.heap.size := hb; omega), hE.trans EE (fun i hi h => by have e' : i = w.heap.size := h; omega)⟩
section
variable {ops : Array Oper} {rest : List Oper} {o : Oper} {a : Act} {Q : Exit → Act → World → Prop} {W : World}
/-- A cut of relations: all but the first. -/
theorem slR (N : Tmp) {x y : Operand} {A : Option Addr} {n c k : Nat} (hk : k ≤ n) (hc : n ≤ c) (h : wpList Tryz.prog ops Q rest (a.put (some N) (.slice (if c = k then A else A.map (·.add (k * 3))) (n - k) (c - k))) W)
    (hop : o.op = .slice 24 x (some y) none none := by rfl) (hd : o.dst = some N := by rfl) (hg : o.guard = none := by rfl) (hx : a.eval x = .slice A n c := by rfl) (hy : a.eval y = .int .i64 (k : Int) := by rfl) : wpList Tryz.prog ops Q (o :: rest) a W := by
  obtain ⟨i0, hi0, _, hsz, _⟩ := info_parts infoR
  have hcut := cut_from (P := Tryz.prog) 24 81 .i64 Tryz.underlying24 hi0 3 hsz A n c (k : Int) (by omega) (by omega)
  refine wpList_plain hg fun K hK => ?_
  have hrun : (execOp a.eval o).run Tryz.prog W = .ok (.value (.slice (if c = k then A else A.map (·.add (k * 3))) (n - k) (c - k))) W := by
    unfold execOp
    simp only [hop, hx, hy, Option.map_some, Option.map_none]
    have := hcut W
    simp only [Int.toNat_natCast] at this
    go_simp
  unfold Oper.wp
  rw [hrun]
  refine hK _ _ ?_
  rw [hd]
  exact h
end
end Go.Proofs.YtngjhblbpapjeaaGreat.H
/- Walks: the draw of any instance. What is told: sizes and ranges. No condition. -/
namespace Go.Proofs.YtngjhblbpapjeaaGreat.H
open Go Go.RowKit Go.Proofs.YtngjhblbpapjeaaGreatW.PrintWords Go.Proofs.YtngjhblbpapjeaaGreatW.PrintLast
open Go.Proofs.YtngjhblbpapjeaaGreat.Reg (On on_draw)
set_option maxHeartbeats 4000000
set_option maxRecDepth 100000
set_option linter.unusedVariables false
set_option linter.unusedSimpArgs false

theorem l5Any_calls (w0 w : World) (q : Nat) (hC : Cu w0 w q) :
    Calls Tryz.prog 77 #[.pointer (some ⟨q, 0, none⟩)] w (Dr w0 w q (AnyI w.heap.size)) := by
  have hC' := Aside0.mk hC
  have hqw := Aside0.mk hC.lt
  have hq0 := Aside0.mk hC.lo
  have hb0 := Aside0.mk (On.alloc (On.refl w) (.cells #[.slice none 0 0, .slice none 0 0] 27 (0, 0)))
  have hl0 := Aside0.mk (loc_new w #[.slice none 0 0, .slice none 0 0] 27)
  clear hC
  go_enter Tryz.func77, Tryz.ntmps77
  go_wp2_with (go_at_call 109; refine Stop.out ?_)
  refine ⟨(l5Target_calls w0 _ q (hC'.out.next hb0.out) 5 (by omega) (by omega) 3 (by omega) (by omega)).mono ?_⟩
  rintro e w1 ⟨v, rfl, ⟨fs, hI, ha, hl, hm⟩, hC1, hE1⟩
  obtain ⟨vr, vf, hs, rfl, hIW⟩ := IW.of (g := w1.heap.size) (lo := w.heap.size + 1) hI (by simp) (.inl (Nat.le_refl _))
  obtain ⟨A0, d0, rfl⟩ := own_slice hIW.r
  obtain ⟨A1, d1, rfl⟩ := own_slice hIW.f
  have hla := Aside0.mk hIW.s.len
  rw [hla.out] at hIW
  have hI1 := Aside0.mk hIW
  have hfa := Aside0.mk ha
  have hfl := Aside0.mk (show fs.length ≤ 5 ∧ ∀ f ∈ fs, f.2.length ≤ 2 from ⟨by omega, hm⟩)
  have hC1' := Aside0.mk hC1
  have hE1' := Aside0.mk ((Ex.of_on (S := fun b => b = q) hb0.out).trans hE1 fun _ _ h => h)
  have hr1 := Aside0.mk (blk_ex hE1 hl0.out (by have := hqw.out; omega))
  rw [hla.out]
  clear hC1 hE1 hI hIW ha hl hm
  have hfill := alloc_fill w1
  go_wp2_with (go_at_call 110; refine Stop.out ?_)
  refine ⟨?_⟩
  clear hfill
  obtain ⟨wa, hwa⟩ : ∃ wa, w1.alloc (.cells #[.slice A0 sigs.length d0, .slice A1 fs.length d1] 27 (0, 0)) = wa := ⟨_, rfl⟩
  have hl3 := Aside0.mk (show wa.heap[w1.heap.size]? = some (.cells #[.slice A0 sigs.length d0, .slice A1 fs.length d1] 27 (0, 0)) from hwa ▸ loc_new w1 _ _)
  have hba := Aside0.mk (show On w1 wa from hwa ▸ On.alloc (On.refl _) _)
  rw [hwa]
  clear hwa
  have hgg := Aside0.mk (show w.heap.size < w1.heap.size from blk_lt hr1.out)
  obtain ⟨g3, hg3⟩ : ∃ g3, w1.heap.size = g3 := ⟨_, rfl⟩
  rw [hg3] at hl3 hgg hI1 ⊢
  clear hg3
  refine (l1Once_calls w0 _ q (hC1'.out.next hba.out) 2 (by omega) (by omega)).mono ?_
  rintro e w2 ⟨v, rfl, ⟨b, rfl⟩, hC2, hE2⟩
  have hC2' := Aside0.mk hC2
  have hE2a := Aside0.mk ((Ex.of_on (S := fun b => b = q) hba.out).trans hE2 fun _ _ h => h)
  have hr2 := Aside0.mk (blk_ex hE2a.out hr1.out (by have := hqw.out; omega))
  have hb2 := Aside0.mk (blk_ex hE2 hl3.out (by have := hqw.out; have := hgg.out; omega))
  have hE2' := Aside0.mk (hE1'.out.trans hE2a.out fun _ _ h => h)
  have hI2 := Aside0.mk (hI1.out.ex hE2a.out fun b hb => .inl (by have := hqw.out; omega))
  clear hC2 hE2
  cases b with
  | false =>
    go_wp2_with (go_at_call 44; refine Stop.out ?_)
    refine ⟨?_⟩
    have hCx := Aside0.mk hC2'.out
    have hIW := Aside0.mk hI2.out
    have hbx := Aside0.mk hb2.out
    have hrx := Aside0.mk hr2.out
    have hEx := Aside0.mk hE2'.out
    have hfl0 := hfl.out
    clear hfl
    have hfl := Aside0.mk (show fs.length ≤ 100 ∧ ∀ f ∈ fs, f.2.length ≤ 3 from ⟨by omega, fun f hf => by have := hfl0.2 f hf; omega⟩)
    clear hfl0
    as_aux_lemma =>
      refine (l1Below_calls w0 _ q hCx.out 14 (by omega) (by omega)).mono ?_
      rintro e w8 ⟨v, rfl, ⟨x, rfl, hx⟩, hC8, hE8⟩
      have hC8' := Aside0.mk hC8
      have hq1 := Aside0.mk (show q < w.heap.size + 1 by have := hqw.out; omega)
      have hI8 := Aside0.mk (hIW.out.ex hE8 fun b hb => .inl (by have := hq1.out; omega))
      have hb8 := Aside0.mk (blk_ex hE8 hbx.out (by have := hqw.out; have := hgg.out; omega))
      have hr8 := Aside0.mk (blk_ex hE8 hrx.out (by have := hqw.out; omega))
      have hE8' := Aside0.mk (hEx.out.trans hE8 fun _ _ h => h)
      have hS3 := Aside0.mk (show ∀ b, (b ≤ w.heap.size ∨ b = g3) → b < w.heap.size + 1 ∨ b = g3 from fun b hb => by have := hqw.out; omega)
      clear hC8 hE8 hx
      have hd0 := blk_cell hb8.out
      have hf0 := blk_frozen hb8.out
      by_cases hx0 : x = 0
      · subst hx0
        go_wp2
        refine Reg.regionG (fun w' => w'.heap[g3]? = some (.cells #[.slice A0 sigs.length d0, .slice A1 fs.length d1] 27 (0, 0))) [0,1,2] [3,4,5,6,7] 7 (by kernel_rfl) (by kernel_rfl) hb8.out ?_
        repeat refine Reg.sG ?_
        refine Reg.startG ?_
        obtain ⟨w9, hw9⟩ : ∃ w9, ({ w8 with drawn := w8.drawn + 1 } : World) = w9 := ⟨_, rfl⟩
        have hS9 := Aside0.mk (show On w8 w9 from (hw9 ▸ on_draw w8))
        rw [hw9]
        clear hw9 hd0 hf0
        refine Reg.tG ?_
        go_wp2_with (go_at_call 112; refine Stop.out ?_)
        refine ⟨(l4Any_calls w0 _ q (hC8'.out.next hS9.out)).mono ?_⟩
        rintro e wa ⟨v, rfl, ⟨f, hO, hf3⟩, hCa, hEa⟩
        obtain ⟨va, rfl, hO, hIr⟩ := hO.out
        obtain ⟨Aa, ca, rfl⟩ := own_slice hO
        have hlo9 := Aside0.mk (show w.heap.size + 1 ≤ w9.heap.size ∧ g3 < w9.heap.size ∧ q < w9.heap.size from ⟨blk_lt (blk_below hr8.out hS9.out), blk_lt (blk_below hb8.out hS9.out), (hC8'.out.next hS9.out).lt⟩)
        have hOa := Aside0.mk hO
        have hIr' := Aside0.mk hIr
        have hf3' := Aside0.mk hf3
        have hCa' := Aside0.mk hCa
        have hEa' := Aside0.mk ((Ex.of_on (S := fun b => b = q) hS9.out).trans hEa fun _ _ h => h)
        have hba := Aside0.mk (blk_ex hEa'.out hb8.out (by have := hqw.out; have := hgg.out; omega))
        have hra := Aside0.mk (blk_ex hEa'.out hr8.out (by have := hqw.out; omega))
        have hIa := Aside0.mk (hI8.out.ex hEa'.out fun b hb => .inl (by have := hq1.out; omega))
        clear hCa hEa hO hIr hf3
        go_wp2
        refine ⟨hba.out, ?_⟩
        refine Reg.tG ?_
        go_wp2
        obtain ⟨wb, hwb⟩ : ∃ wb, wa.alloc (.cells #[.int .i64 f.1, .slice Aa f.2.length ca] 30 (0, 0)) = wb := ⟨_, rfl⟩
        have hSb := Aside0.mk (show On wa wb from hwb ▸ On.alloc (On.refl _) _)
        have hRb := Aside0.mk (show RH wb (some ⟨wa.heap.size, 0, none⟩) 1 [(f.1, Aa, f.2.length, ca)] from lit_RH (hwb ▸ On.refl _))
        have hIb := Aside0.mk (hIa.out.on hSb.out)
        have hbb := Aside0.mk (blk_below hba.out hSb.out)
        have hrb := Aside0.mk (blk_below hra.out hSb.out)
        try rw [hwb]
        clear hwb
        refine ⟨hbb.out, ?_⟩
        refine Reg.tG ?_
        obtain ⟨zs, hzs⟩ : ∃ zs, hs ++ [((f.1, Aa, f.2.length, ca) : Hdr)] = zs := ⟨_, rfl⟩
        have hhl := Aside0.mk hIb.out.s.len
        refine apH 37 hzs hIb.out.f hRb.out (by have := blk_lt hrb.out; omega) (by have := hhl.out; have := hfl.out.1; simp; omega) (fun v11 w11 hO11 hg11 => ?_)
        have hO11' := Aside0.mk hO11
        have hGr := Aside0.mk (Ex.of_grown hg11)
        have hb11 := Aside0.mk (blk_ex hGr.out hbb.out (fun e => hIb.out.nf _ e.symm rfl))
        have hr11 := Aside0.mk (blk_ex hGr.out hrb.out (fun e => by have := own_base hIb.out.f _ e.symm; omega))
        clear hO11 hg11
        obtain ⟨A11, c11, rfl⟩ := own_slice hO11'.out
        refine ⟨hb11.out, ?_⟩
        have hd6 := blk_cell hb11.out
        have hf6 := blk_frozen hb11.out
        simp only [Act.put, List.setIfInBounds_toArray, List.set_cons_zero, List.set_cons_succ]
        refine Reg.tG ?_
        go_wp2
        refine ⟨hb11.out, ?_⟩
        refine Reg.tE ?_
        have hx11 := Aside0.mk (show (w11.setCell ⟨g3, 1, none⟩ (.slice A11 zs.length c11)).heap[w.heap.size]? = _ from blk_far hr11.out (by show ¬ _; simp; have := hgg.out; omega) _)
        have hy11 := Aside0.mk (blk_set hb11.out 1 (.slice A11 zs.length c11))
        have hd1 := blk_cell hx11.out
        have hf1 := blk_frozen hx11.out
        go_wp2
        refine bodyPost_ret (retI rfl rfl (g := w.heap.size) (blk_set (blk_set hx11.out 0 _) 1 _) rfl) rfl ?_
        have EX := Ex.set w11 ⟨g3, 1, none⟩ (.slice A11 zs.length c11)
        have hb1 := hgg.out
        have hb2 := hqw.out
        have hb3 := hq0.out
        have hb4 := hlo9.out
        have hzl : zs.length = (fs ++ [f]).length := by rw [← hzs]; simp; exact hhl.out
        have hRS : RS (fun b => b ≤ w.heap.size ∨ b = g3) w11 (.agg #[.slice A0 sigs.length d0, .slice A11 zs.length c11]) sigs (fs ++ [f]) := by
          have hIo := own_ex (pw_own_below hOa.out hSb.out) hGr.out (fun i hi e => own_ne_blk (pw_own_below hOa.out hSb.out) hIb.out.f (by decide) hi e.symm)
          refine ⟨A0, d0, A11, c11, zs, by rw [hzl], fun w' k => ⟨?_, ?_, ?_⟩⟩
          · have h1 := own_ex hIb.out.r hGr.out (fun i hi e => own_ne_blk hIb.out.r hIb.out.f (by decide) hi e.symm)
            exact (OR.same (own_ex h1 k (fun i hi e => by have := own_base h1 i hi; have := hIb.out.nr i hi; have := hS3.out i e; omega))).2
          · exact (OH.rh (own_ex hO11'.out k (fun i hi e => by have := own_base hO11'.out i hi; have := own_off hO11'.out hb11.out (by decide) i hi; have := hS3.out i e; omega))).2
          · rw [← hzs]
            refine Reads.append ?_ (Reads.one rfl rfl (OI.same (own_ex hIo k (fun i hi e => by have := own_base hOa.out i hi; omega)) hIr'.out).2)
            have h1 : Sep w11 (w.heap.size + 1) hs fs := hIb.out.s.ex hGr.out (fun i a b ha hb e => by
              have hi : i < fs.length := by rw [← hIb.out.s.len]; exact (List.getElem?_eq_some_iff.1 ha).1
              exact own_ne_blk (hIb.out.s.at_ i a fs[i] ha (List.getElem?_eq_getElem hi)).2.1 hIb.out.f (by decide) hb e.symm)
            exact (h1.ex k (fun i a b ha hb e => by have := (h1.lt ha hb).1; have := hIb.out.ns i a b ha hb; have := hS3.out b e; omega)).reads
        have hCE := ((hCa'.out.next hSb.out).ex hGr.out (fun b hb => by have := own_base hIb.out.f b hb.symm; omega)).ex EX (fun b hb => by have e' : b = g3 := hb; omega)
        have hEE := (((hE8'.out.trans hEa'.out fun _ _ h => h).then_on hSb.out).trans hGr.out (fun i hi h => by have := own_base hIb.out.f i h.symm; omega)).trans EX (fun i hi h => by have e' : i = g3 := h; omega)
        exact inst_end hqw.out hq0.out ((hRS.ex (EX.mono fun _ h => .inr h)).mono fun b h => .inl h) (by show 5 ≤ 5; omega) (by have := hfl.out.1; simp; omega) (fun g hg => (List.mem_append.1 hg).elim (fun h => hfl.out.2 g h) (fun h => by rw [List.mem_singleton.1 h]; exact hf3'.out)) hCE hEE
      · by_cases hx1 : x = 1
        · subst hx1
          obtain ⟨hcA, hRA⟩ := OR.same hI8.out.r
          have hcap := Aside0.mk hRA.1
          go_wp2_with (refine gate 43 ?_)
          refine ⟨slR 43 (k := 1) (A := A0) (n := sigs.length) (c := d0) (by show 1 ≤ 5; omega) hcap.out ?_⟩
          obtain ⟨Ac, hAc⟩ : ∃ Ac, (if d0 = 1 then A0 else A0.map (·.add (1 * 3))) = Ac := ⟨_, rfl⟩
          obtain ⟨dc, hdc⟩ : ∃ dc, d0 - 1 = dc := ⟨_, rfl⟩
          have hRS := Aside0.mk (show RS (fun b => b ≤ w.heap.size ∨ b = g3) w8 (.agg #[.slice Ac (sigs.length - 1) dc, .slice A1 fs.length d1]) (sigs.drop 1) fs from by
            refine ⟨Ac, dc, A1, d1, hs, rfl, fun w' k => ?_⟩
            have h' := hI8.out.ex k hS3.out
            refine ⟨?_, (OH.rh h'.f).2, h'.s.reads⟩
            rw [← hAc, ← hdc]
            exact drop1 (OR.same h'.r).2 (by show 1 ≤ 5; omega))
          rw [hAc, hdc]
          clear hAc hdc hcA hRA
          obtain ⟨m4, hm4⟩ : ∃ m4, sigs.length - 1 = m4 := ⟨_, rfl⟩
          rw [hm4] at hRS ⊢
          clear hm4
          simp only [Act.put, List.setIfInBounds_toArray, List.set_cons_zero, List.set_cons_succ]
          have hx8 := Aside0.mk (show (w8.setCell ⟨g3, 0, none⟩ (.slice Ac m4 dc)).heap[w.heap.size]? = _ from blk_far hr8.out (by show ¬ _; simp; have := hgg.out; omega) _)
          have hd1 := blk_cell hx8.out
          have hf1 := blk_frozen hx8.out
          go_wp2
          refine bodyPost_ret (retI rfl rfl (g := w.heap.size) (blk_set (blk_set hx8.out 0 _) 1 _) rfl) rfl ?_
          have EX := Ex.set w8 ⟨g3, 0, none⟩ (.slice Ac m4 dc)
          have hb1 := hgg.out
          have hb2 := hqw.out
          have hb3 := hq0.out
          exact inst_end hqw.out hq0.out ((hRS.out.ex (EX.mono fun _ h => .inr h)).mono fun b h => .inl h) (by show 4 ≤ 5; omega) (by have := hfl.out.1; omega) hfl.out.2 (hC8'.out.ex EX (fun b hb => by have e' : b = g3 := hb; omega)) (hE8'.out.trans EX (fun i hi h => by have e' : i = g3 := h; omega))
        · by_cases hx2 : x = 2
          · subst hx2
            go_wp2
            refine Reg.regionG (fun w' => w'.heap[g3]? = some (.cells #[.slice A0 sigs.length d0, .slice A1 fs.length d1] 27 (0, 0))) [0,1,2,4] [3,5,6,7] 7 (by kernel_rfl) (by kernel_rfl) hb8.out ?_
            repeat refine Reg.sG ?_
            refine Reg.startG ?_
            obtain ⟨w9, hw9⟩ : ∃ w9, ({ w8 with drawn := w8.drawn + 1 } : World) = w9 := ⟨_, rfl⟩
            have hS9 := Aside0.mk (show On w8 w9 from (hw9 ▸ on_draw w8))
            rw [hw9]
            clear hw9 hd0 hf0
            refine Reg.tG ?_
            go_wp2_with (go_at_call 44; refine Stop.out ?_)
            refine ⟨(l1Below_calls w0 _ q (hC8'.out.next hS9.out) 5 (by omega) (by omega)).mono ?_⟩
            rintro e wa ⟨v, rfl, ⟨y, rfl, hy⟩, hCa, hEa⟩
            obtain ⟨k, rfl⟩ := Int.eq_ofNat_of_zero_le hy.1
            have hk := Aside0.mk (show k < sigs.length by show k < 5; omega)
            have hCa' := Aside0.mk hCa
            have hEa' := Aside0.mk ((Ex.of_on (S := fun b => b = q) hS9.out).trans hEa fun _ _ h => h)
            have hba := Aside0.mk (blk_ex hEa'.out hb8.out (by have := hqw.out; have := hgg.out; omega))
            clear hCa hEa hy
            go_wp2
            refine ⟨hba.out, ?_⟩
            refine Reg.tG ?_
            go_wp2_with (go_at_call 113; refine Stop.out ?_)
            refine ⟨(l3One_calls w0 _ q hCa'.out).mono ?_⟩
            rintro e wb ⟨v, rfl, ⟨r, rfl⟩, hCb, hEb⟩
            have hCb' := Aside0.mk hCb
            have hEb' := Aside0.mk (hEa'.out.trans hEb fun _ _ h => h)
            have hbb := Aside0.mk (blk_ex hEb'.out hb8.out (by have := hqw.out; have := hgg.out; omega))
            have hrb := Aside0.mk (blk_ex hEb'.out hr8.out (by have := hqw.out; omega))
            have hIb := Aside0.mk (hI8.out.ex hEb'.out fun b hb => .inl (by have := hq1.out; omega))
            clear hCb hEb
            obtain ⟨gr, hgA, hgo, ⟨z0, hz0⟩, ⟨z1, hz1⟩, ⟨z2, hz2⟩, hfz, hset⟩ := hIb.out.r.setAt hk.out
            have hset' := Aside0.mk (hset r)
            have hgo' := Aside0.mk hgo
            have hgr := Aside0.mk (show w.heap.size + 1 ≤ gr ∧ gr ≠ g3 from ⟨own_base hIb.out.r gr hgo, hIb.out.nr gr hgo⟩)
            have hkb := hk.out
            clear hset hgo
            subst hgA
            go_wp2
            refine ⟨hbb.out, ?_⟩
            refine Reg.tG ?_
            go_wp2
            refine ⟨hbb.out, ?_⟩
            refine Reg.tE ?_
            obtain ⟨X, hX⟩ : ∃ X, ((wb.setCell ⟨gr, k * 3, none⟩ (.string r.1)).setCell ⟨gr, k * 3 + 1, none⟩ (.int .i64 r.2.1)).setCell ⟨gr, k * 3 + 2, none⟩ (.bool r.2.2) = X := ⟨_, rfl⟩
            have hX' := Aside0.mk hX
            have n1 : ¬ gr = g3 := hgr.out.2
            have n2 : ¬ gr = w.heap.size := by have := hgr.out.1; omega
            have hy11 := Aside0.mk (show (((wb.setCell ⟨gr, k * 3, none⟩ (.string r.1)).setCell ⟨gr, k * 3 + 1, none⟩ (.int .i64 r.2.1)).setCell ⟨gr, k * 3 + 2, none⟩ (.bool r.2.2)).heap[g3]? = _ from blk_far (blk_far (blk_far hbb.out (fun e => n1 e.symm) _) (fun e => n1 e.symm) _) (fun e => n1 e.symm) _)
            have hx11 := Aside0.mk (show (((wb.setCell ⟨gr, k * 3, none⟩ (.string r.1)).setCell ⟨gr, k * 3 + 1, none⟩ (.int .i64 r.2.1)).setCell ⟨gr, k * 3 + 2, none⟩ (.bool r.2.2)).heap[w.heap.size]? = _ from blk_far (blk_far (blk_far hrb.out (fun e => n2 e.symm) _) (fun e => n2 e.symm) _) (fun e => n2 e.symm) _)
            have hd0 := blk_cell hy11.out
            have hd1 := blk_cell hx11.out
            have hf1 := blk_frozen hx11.out
            clear hX n1 n2
            go_wp2
            refine bodyPost_ret (retI rfl rfl (g := w.heap.size) (blk_set (blk_set hx11.out 0 _) 1 _) rfl) rfl ?_
            have EX := ((Ex.set wb ⟨gr, k * 3, none⟩ (.string r.1)).trans (Ex.set _ ⟨gr, k * 3 + 1, none⟩ (.int .i64 r.2.1)) (fun _ _ h => h)).trans (Ex.set _ ⟨gr, k * 3 + 2, none⟩ (.bool r.2.2)) (fun _ _ h => h)
            have hb1 := hgr.out.1
            have hb2 := hqw.out
            have hb3 := hq0.out
            have hRS : RS (fun b => b ≤ w.heap.size ∨ b = g3) (((wb.setCell ⟨gr, k * 3, none⟩ (.string r.1)).setCell ⟨gr, k * 3 + 1, none⟩ (.int .i64 r.2.1)).setCell ⟨gr, k * 3 + 2, none⟩ (.bool r.2.2)) (.agg #[.slice (some ⟨gr, 0, none⟩) sigs.length d0, .slice A1 fs.length d1]) (sigs.set k r) fs := by
              have hf := own_ex hIb.out.f EX (fun i hi e => own_ne_blk hIb.out.f hIb.out.r (by decide) hi (e ▸ hgo'.out))
              have hs' : Sep (((wb.setCell ⟨gr, k * 3, none⟩ (.string r.1)).setCell ⟨gr, k * 3 + 1, none⟩ (.int .i64 r.2.1)).setCell ⟨gr, k * 3 + 2, none⟩ (.bool r.2.2)) (w.heap.size + 1) hs fs := hIb.out.s.ex EX (fun i a b ha hb e => by
                have hi : i < fs.length := by rw [← hIb.out.s.len]; exact (List.getElem?_eq_some_iff.1 ha).1
                exact own_ne_blk (hIb.out.s.at_ i a fs[i] ha (List.getElem?_eq_getElem hi)).2.1 hIb.out.r (by decide) hb (e ▸ hgo'.out))
              refine ⟨some ⟨gr, 0, none⟩, d0, A1, d1, hs, by rw [List.length_set], fun w' kk => ⟨?_, ?_, ?_⟩⟩
              · exact (OR.same (own_ex hset'.out kk (fun i hi e => by have := own_base hset'.out i hi; have := hIb.out.nr i hi; have := hS3.out i e; omega))).2
              · exact (OH.rh (own_ex hf kk (fun i hi e => by have := own_base hf i hi; have := hIb.out.nf i hi; have := hS3.out i e; omega))).2
              · exact (hs'.ex kk (fun i a b ha hb e => by have := (hs'.lt ha hb).1; have := hIb.out.ns i a b ha hb; have := hS3.out b e; omega)).reads
            exact inst_end hqw.out hq0.out (hRS.mono fun b h => .inl h) (by rw [List.length_set]; show 5 ≤ 5; omega) (by have := hfl.out.1; omega) hfl.out.2 (hCb'.out.ex EX (fun b hb => by have e' : b = gr := hb; omega)) ((hE8'.out.trans hEb'.out fun _ _ h => h).trans EX (fun i hi h => by have e' : i = gr := h; omega))
          · have b0 : (x == 0) = false := by simpa using hx0
            have b1 : (x == 1) = false := by simpa using hx1
            have b2 : (x == 2) = false := by simpa using hx2
            have hd1 := blk_cell hr8.out
            have hf1 := blk_frozen hr8.out
            clear hx0 hx1 hx2
            go_wp2
            refine bodyPost_ret (retI rfl rfl (g := w.heap.size) (blk_set (blk_set hr8.out 0 _) 1 _) rfl) rfl ?_
            exact inst_end hqw.out hq0.out ((hI8.out.rs hS3.out).mono fun b h => .inl h) (by show 5 ≤ 5; omega) (by have := hfl.out.1; omega) hfl.out.2 hC8'.out hE8'.out
  | true =>
    go_wp2_with (go_at_call 111; refine Stop.out ?_)
    refine ⟨(l5Source_calls w0 _ q hC2'.out 3 (by omega) (by omega)).mono ?_⟩
    rintro e w3 ⟨v, rfl, ⟨gs, hG, -, hgl, hgm⟩, hC3, hE3⟩
    have hg3w := Aside0.mk (show w.heap.size < w2.heap.size ∧ g3 < w2.heap.size from ⟨blk_lt hr2.out, blk_lt hb2.out⟩)
    obtain ⟨ur, uf, us, rfl, hIG⟩ := IW.of (g := g3) (lo := w.heap.size + 1) hG hg3w.out.1 (.inr hg3w.out.2)
    obtain ⟨B0, e0, rfl⟩ := own_slice hIG.r
    obtain ⟨B1, e1, rfl⟩ := own_slice hIG.f
    have hlb := Aside0.mk hIG.s.len
    rw [hlb.out] at hIG
    have hI3 := Aside0.mk hIG
    have hgf := Aside0.mk (show gs.length ≤ 3 ∧ ∀ f ∈ gs, f.2.length ≤ 2 from ⟨by omega, hgm⟩)
    have hC3' := Aside0.mk hC3
    have hr3 := Aside0.mk (blk_ex hE3 hr2.out (by have := hqw.out; omega))
    have hb3 := Aside0.mk (blk_ex hE3 hb2.out (by have := hqw.out; have := hgg.out; omega))
    have hE3' := Aside0.mk (hE2'.out.trans hE3 fun _ _ h => h)
    have hF3 := Aside0.mk (hI2.out.ex hE3 fun b hb => .inl (by have := hqw.out; omega))
    rw [hlb.out]
    clear hC3 hE3 hG hIG hgl hgm
    have hfill := alloc_fill w3
    go_wp2
    clear hfill
    obtain ⟨wc, hwc⟩ : ∃ wc, w3.alloc (.cells #[.slice B0 sigs.length e0, .slice B1 gs.length e1] 27 (0, 0)) = wc := ⟨_, rfl⟩
    have hl4 := Aside0.mk (show wc.heap[w3.heap.size]? = some (.cells #[.slice B0 sigs.length e0, .slice B1 gs.length e1] 27 (0, 0)) from hwc ▸ loc_new w3 _ _)
    have hbc := Aside0.mk (show On w3 wc from hwc ▸ On.alloc (On.refl _) _)
    rw [hwc]
    clear hwc
    have hg34 := Aside0.mk (show g3 < w3.heap.size ∧ q < w3.heap.size from ⟨blk_lt hb3.out, hC3'.out.lt⟩)
    obtain ⟨g4, hg4⟩ : ∃ g4, w3.heap.size = g4 := ⟨_, rfl⟩
    rw [hg4] at hl4 hg34 ⊢
    clear hg4
    have hS2 := Aside0.mk (show ∀ b, (b = q ∨ b = g3) → b < w.heap.size + 1 ∨ b = g3 from fun b hb => by have := hqw.out; omega)
    have hsrc := Aside0.mk ((hI3.out.on hbc.out).rs hS2.out)
    have htgt := Aside0.mk ((hF3.out.on hbc.out).rs hS2.out)
    have hbc3 := Aside0.mk (blk_below hb3.out hbc.out)
    go_loopw [5] (fun v5 wr => ∃ (k : Nat) (fs : List Fct) (A0 : Option Addr) (d0 : Nat) (A1 : Option Addr) (d1 : Nat), k ≤ gs.length ∧ v5 = .int .i64 k ∧ wr.heap[g3]? = some (.cells #[.slice A0 sigs.length d0, .slice A1 fs.length d1] 27 (0, 0)) ∧ RS (fun b => b = q ∨ b = g3) wr (.agg #[.slice A0 sigs.length d0, .slice A1 fs.length d1]) sigs fs ∧ Asc fs ∧ fs.length ≤ 5 + k ∧ (∀ f ∈ fs, f.2.length ≤ 2) ∧ Ex (fun b => b = g3) wc wr) (fun v5 _ => gs.length - (intOf v5).toNat)
    case atStart => exact ⟨0, fs, A0, d0, A1, d1, Nat.zero_le _, rfl, hbc3.out, htgt.out, hfa.out, by have := hfl.out.1; omega, hfl.out.2, Ex.refl _ _⟩
    case round =>
      obtain ⟨k, fs, A0, d0, A1, d1, hk, rfl, hbr, hR, ha, hl, hm, hE⟩ := hrel
      have hbr' := Aside0.mk hbr
      have hRr := Aside0.mk hR
      have ha' := Aside0.mk ha
      have hl' := Aside0.mk hl
      have hm' := Aside0.mk hm
      have hEr := Aside0.mk hE
      have hb4 := Aside0.mk (blk_ex hE hl4.out (by have := hg34.out; omega))
      have hd0 := blk_cell hbr 0
      have hd1 := blk_cell hbr 1
      have hd2 := blk_cell hb4.out 0
      have hd3 := blk_cell hb4.out 1
      have hCr := Aside0.mk ((hC3'.out.next hbc.out).ex hE (fun b hb => by have := hgg.out; have := hqw.out; have := hq0.out; omega))
      clear hbr hR ha hl hm hE
      by_cases hlt : k < gs.length
      · obtain ⟨_, _, us', hall⟩ := (hsrc.out.ex (hEr.out.mono fun _ h => .inr h)).parts
        obtain ⟨h1, h2, h3⟩ := hall wr (Ex.refl _ _)
        obtain ⟨ad, A3, c3, hA1, x0, x1, x2⟩ := (h2.fcts h3).at k hlt
        subst hA1
        have x2' := Aside0.mk x2
        have hkk := Aside0.mk hlt
        have hfk := Aside0.mk (show gs[k].2.length ≤ 2 from hgf.out.2 _ (List.getElem_mem hlt))
        obtain ⟨_, _, hs', hall'⟩ := hRr.out.parts
        have hall2 := Aside0.mk hall'
        clear x2 h1 h2 h3 hall hall'
        go_wp2
        refine Reg.region [(0,.L),(1,.L),(2,.L),(3,.L),(4,.L),(5,.L),(6,.N)] [7] (by kernel_rfl) (by kernel_rfl) ?_
        repeat first | refine sP ?_ | refine sS ?_ | refine sA ?_ | refine sL ?_ | refine sQ ?_ | refine sO ?_
        clear hd0 hd1 hd2 hd3 x0 x1
        refine callN Tryz.func41 (fun w4 hS4 => ?_)
        refine (l5PutS_calls (fun b => b = q ∨ b = g3) w4 A0 d0 A1 d1 hs' sigs fs (fun w' kk => hall2.out w' ((Ex.of_on hS4).trans kk fun _ _ h => h)) (fun b hb => by have := blk_lt (blk_below hbr'.out hS4); have := (hCr.out.next hS4).lt; rcases hb with h | h <;> omega) A3 c3 gs[k] (x2'.out.on hS4) (by have := hl'.out; have := hgf.out.1; omega) (by have := hfk.out; omega) ha'.out).mono ?_
        rintro e w5 ⟨v5, rfl, hR5, hb5⟩
        obtain ⟨fs', hfs⟩ : ∃ fs', putF fs gs[k] = fs' := ⟨_, rfl⟩
        rw [hfs] at hR5
        have hR5' := Aside0.mk hR5
        obtain ⟨C0, i0, C1, i1, hs'', rfl, -⟩ := hR5.out
        have ha6 := Aside0.mk (show Asc fs' from hfs ▸ putF_asc gs[k] fs ha'.out)
        have hl6 := Aside0.mk (show fs'.length ≤ fs.length + 1 from hfs ▸ putF_le fs gs[k])
        have hm6 := Aside0.mk (show ∀ g ∈ fs', g.2.length ≤ 2 by
          rw [← hfs]; intro g hg; rcases (mem_putF gs[k] g fs).1 hg with rfl | h
          · exact hfk.out
          · exact hm'.out g h)
        have hB5 := Aside0.mk (hS4.trans hb5)
        refine ⟨_, rfl, hb5, fun a' ha'' => ?_⟩
        simp only [Act.put, List.setIfInBounds_toArray, List.set_cons_zero, List.set_cons_succ] at ha''
        subst ha''
        clear hR5 hfs
        refine Reg.tail_ fun w6 hS6 => ?_
        have hb6 := Aside0.mk (blk_below hbr'.out (hB5.out.trans hS6))
        have hR6 := Aside0.mk (hR5'.out.on hS6)
        have hB6 := Aside0.mk (hB5.out.trans hS6)
        have hcr := blk_cell hb6.out
        have hfr := blk_frozen hb6.out
        clear hS6
        go_wp2
        have EE := (Ex.set w6 ⟨g3, 0, none⟩ (.slice C0 sigs.length i0)).trans (Ex.set _ ⟨g3, 1, none⟩ (.slice C1 fs'.length i1)) (fun _ _ h => h)
        have hk1 := hkk.out
        have hwk : wrap64 ((k : Int) + 1) = ((k + 1 : Nat) : Int) := by rw [IntWalk.wrap64_in _ (by have := hgf.out.1; omega)]; omega
        refine ⟨⟨k + 1, fs', C0, i0, C1, i1, by omega, by rw [hwk], blk_set (blk_set hb6.out 0 _) 1 _, hR6.out.ex (EE.mono fun _ h => .inr h), ha6.out, by have := hl'.out; have := hl6.out; omega, hm6.out, (hEr.out.then_on hB6.out).trans EE fun _ _ h => h⟩, by rw [hwk]; simp [intOf]; omega⟩
      · have hge : ¬ k < gs.length := hlt
        go_wp2_with (go_at_call 38; refine Stop.out ?_)
        obtain ⟨_, _, hs', hall⟩ := hRr.out.parts
        obtain ⟨h1, h2, h3⟩ := hall wr (Ex.refl _ _)
        refine ⟨(l5Copy_calls _ A0 d0 A1 d1 sigs fs h1 (h2.fcts h3) (by show (5 : Nat) ≤ _; omega) (by have := hl'.out; have := hgf.out.1; omega) (fun f hf => by have := hm'.out f hf; omega)).mono ?_⟩
        rintro e w7 ⟨v7, rfl, hI7, hb7⟩
        have hgl := Aside0.mk (blk_lt hbr'.out)
        obtain ⟨vr, vf, hs, rfl, hIW0⟩ := IW.of (g := g3) (lo := w.heap.size + 1) hI7 (by have := hgl.out; have := hgg.out; omega) (.inr hgl.out)
        obtain ⟨A0, d0, rfl⟩ := own_slice hIW0.r
        obtain ⟨A1, d1, rfl⟩ := own_slice hIW0.f
        have hlz := Aside0.mk hIW0.s.len
        rw [hlz.out] at hIW0 ⊢
        have hIW1 := Aside0.mk hIW0
        have hb7' := Aside0.mk hb7
        have hbx7 := Aside0.mk (blk_below hbr'.out hb7)
        have hrx7 := Aside0.mk (blk_below (blk_ex hEr.out (blk_below hr3.out hbc.out) (by have := hgg.out; omega)) hb7)
        have hfx := Aside0.mk (show fs.length ≤ 100 ∧ ∀ f ∈ fs, f.2.length ≤ 3 from ⟨by have := hl'.out; have := hgf.out.1; omega, fun f hf => by have := hm'.out f hf; omega⟩)
        have hcr := blk_cell hbx7.out
        have hfr := blk_frozen hbx7.out
        clear hIW0 hb7 hI7 hfl h1 h2 h3 hall hd0 hd1 hd2 hd3 hge hlt
        go_wp2_with (go_at_call 44; refine Stop.out ?_)
        refine ⟨?_⟩
        have hq5 := hqw.out
        have hq6 := hgg.out
        have hq7 := hq0.out
        have EE := (Ex.set w7 ⟨g3, 0, none⟩ (.slice A0 sigs.length d0)).trans (Ex.set _ ⟨g3, 1, none⟩ (.slice A1 fs.length d1)) (fun _ _ h => h)
        have hIW := Aside0.mk (hIW1.out.ex EE fun b hb => .inr hb)
        have hbx := Aside0.mk (blk_set (blk_set hbx7.out 0 (.slice A0 sigs.length d0)) 1 (.slice A1 fs.length d1))
        have hrx := Aside0.mk (blk_ex EE hrx7.out (fun e => by have e' : w.heap.size = g3 := e; omega))
        have hCx := Aside0.mk ((hCr.out.next hb7'.out).ex EE (fun b hb => by have e' : b = g3 := hb; omega))
        have hEx := Aside0.mk ((((hE3'.out.then_on hbc.out).trans hEr.out (fun i hi h => by have e' : i = g3 := h; omega)).then_on hb7'.out).trans EE (fun i hi h => by have e' : i = g3 := h; omega))
        have hfl := hfx
        clear hcr hfr EE hq5 hq6 hq7
        obtain ⟨wx, hwx⟩ : ∃ wx, (w7.setCell ⟨g3, 0, none⟩ (.slice A0 sigs.length d0)).setCell ⟨g3, 1, none⟩ (.slice A1 fs.length d1) = wx := ⟨_, rfl⟩
        rw [hwx] at hIW hbx hrx hCx hEx ⊢
        clear hwx
        as_aux_lemma =>
          refine (l1Below_calls w0 _ q hCx.out 14 (by omega) (by omega)).mono ?_
          rintro e w8 ⟨v, rfl, ⟨x, rfl, hx⟩, hC8, hE8⟩
          have hC8' := Aside0.mk hC8
          have hq1 := Aside0.mk (show q < w.heap.size + 1 by have := hqw.out; omega)
          have hI8 := Aside0.mk (hIW.out.ex hE8 fun b hb => .inl (by have := hq1.out; omega))
          have hb8 := Aside0.mk (blk_ex hE8 hbx.out (by have := hqw.out; have := hgg.out; omega))
          have hr8 := Aside0.mk (blk_ex hE8 hrx.out (by have := hqw.out; omega))
          have hE8' := Aside0.mk (hEx.out.trans hE8 fun _ _ h => h)
          have hS3 := Aside0.mk (show ∀ b, (b ≤ w.heap.size ∨ b = g3) → b < w.heap.size + 1 ∨ b = g3 from fun b hb => by have := hqw.out; omega)
          clear hC8 hE8 hx
          have hd0 := blk_cell hb8.out
          have hf0 := blk_frozen hb8.out
          by_cases hx0 : x = 0
          · subst hx0
            go_wp2
            refine Reg.regionG (fun w' => w'.heap[g3]? = some (.cells #[.slice A0 sigs.length d0, .slice A1 fs.length d1] 27 (0, 0))) [0,1,2] [3,4,5,6,7] 7 (by kernel_rfl) (by kernel_rfl) hb8.out ?_
            repeat refine Reg.sG ?_
            refine Reg.startG ?_
            obtain ⟨w9, hw9⟩ : ∃ w9, ({ w8 with drawn := w8.drawn + 1 } : World) = w9 := ⟨_, rfl⟩
            have hS9 := Aside0.mk (show On w8 w9 from (hw9 ▸ on_draw w8))
            rw [hw9]
            clear hw9 hd0 hf0
            refine Reg.tG ?_
            go_wp2_with (go_at_call 112; refine Stop.out ?_)
            refine ⟨(l4Any_calls w0 _ q (hC8'.out.next hS9.out)).mono ?_⟩
            rintro e wa ⟨v, rfl, ⟨f, hO, hf3⟩, hCa, hEa⟩
            obtain ⟨va, rfl, hO, hIr⟩ := hO.out
            obtain ⟨Aa, ca, rfl⟩ := own_slice hO
            have hlo9 := Aside0.mk (show w.heap.size + 1 ≤ w9.heap.size ∧ g3 < w9.heap.size ∧ q < w9.heap.size from ⟨blk_lt (blk_below hr8.out hS9.out), blk_lt (blk_below hb8.out hS9.out), (hC8'.out.next hS9.out).lt⟩)
            have hOa := Aside0.mk hO
            have hIr' := Aside0.mk hIr
            have hf3' := Aside0.mk hf3
            have hCa' := Aside0.mk hCa
            have hEa' := Aside0.mk ((Ex.of_on (S := fun b => b = q) hS9.out).trans hEa fun _ _ h => h)
            have hba := Aside0.mk (blk_ex hEa'.out hb8.out (by have := hqw.out; have := hgg.out; omega))
            have hra := Aside0.mk (blk_ex hEa'.out hr8.out (by have := hqw.out; omega))
            have hIa := Aside0.mk (hI8.out.ex hEa'.out fun b hb => .inl (by have := hq1.out; omega))
            clear hCa hEa hO hIr hf3
            go_wp2
            refine ⟨hba.out, ?_⟩
            refine Reg.tG ?_
            go_wp2
            obtain ⟨wb, hwb⟩ : ∃ wb, wa.alloc (.cells #[.int .i64 f.1, .slice Aa f.2.length ca] 30 (0, 0)) = wb := ⟨_, rfl⟩
            have hSb := Aside0.mk (show On wa wb from hwb ▸ On.alloc (On.refl _) _)
            have hRb := Aside0.mk (show RH wb (some ⟨wa.heap.size, 0, none⟩) 1 [(f.1, Aa, f.2.length, ca)] from lit_RH (hwb ▸ On.refl _))
            have hIb := Aside0.mk (hIa.out.on hSb.out)
            have hbb := Aside0.mk (blk_below hba.out hSb.out)
            have hrb := Aside0.mk (blk_below hra.out hSb.out)
            try rw [hwb]
            clear hwb
            refine ⟨hbb.out, ?_⟩
            refine Reg.tG ?_
            obtain ⟨zs, hzs⟩ : ∃ zs, hs ++ [((f.1, Aa, f.2.length, ca) : Hdr)] = zs := ⟨_, rfl⟩
            have hhl := Aside0.mk hIb.out.s.len
            refine apH 37 hzs hIb.out.f hRb.out (by have := blk_lt hrb.out; omega) (by have := hhl.out; have := hfl.out.1; simp; omega) (fun v11 w11 hO11 hg11 => ?_)
            have hO11' := Aside0.mk hO11
            have hGr := Aside0.mk (Ex.of_grown hg11)
            have hb11 := Aside0.mk (blk_ex hGr.out hbb.out (fun e => hIb.out.nf _ e.symm rfl))
            have hr11 := Aside0.mk (blk_ex hGr.out hrb.out (fun e => by have := own_base hIb.out.f _ e.symm; omega))
            clear hO11 hg11
            obtain ⟨A11, c11, rfl⟩ := own_slice hO11'.out
            refine ⟨hb11.out, ?_⟩
            have hd6 := blk_cell hb11.out
            have hf6 := blk_frozen hb11.out
            simp only [Act.put, List.setIfInBounds_toArray, List.set_cons_zero, List.set_cons_succ]
            refine Reg.tG ?_
            go_wp2
            refine ⟨hb11.out, ?_⟩
            refine Reg.tE ?_
            have hx11 := Aside0.mk (show (w11.setCell ⟨g3, 1, none⟩ (.slice A11 zs.length c11)).heap[w.heap.size]? = _ from blk_far hr11.out (by show ¬ _; simp; have := hgg.out; omega) _)
            have hy11 := Aside0.mk (blk_set hb11.out 1 (.slice A11 zs.length c11))
            have hd1 := blk_cell hx11.out
            have hf1 := blk_frozen hx11.out
            go_wp2
            refine bodyPost_ret (retI rfl rfl (g := w.heap.size) (blk_set (blk_set hx11.out 0 _) 1 _) rfl) rfl ?_
            have EX := Ex.set w11 ⟨g3, 1, none⟩ (.slice A11 zs.length c11)
            have hb1 := hgg.out
            have hb2 := hqw.out
            have hb3 := hq0.out
            have hb4 := hlo9.out
            have hzl : zs.length = (fs ++ [f]).length := by rw [← hzs]; simp; exact hhl.out
            have hRS : RS (fun b => b ≤ w.heap.size ∨ b = g3) w11 (.agg #[.slice A0 sigs.length d0, .slice A11 zs.length c11]) sigs (fs ++ [f]) := by
              have hIo := own_ex (pw_own_below hOa.out hSb.out) hGr.out (fun i hi e => own_ne_blk (pw_own_below hOa.out hSb.out) hIb.out.f (by decide) hi e.symm)
              refine ⟨A0, d0, A11, c11, zs, by rw [hzl], fun w' k => ⟨?_, ?_, ?_⟩⟩
              · have h1 := own_ex hIb.out.r hGr.out (fun i hi e => own_ne_blk hIb.out.r hIb.out.f (by decide) hi e.symm)
                exact (OR.same (own_ex h1 k (fun i hi e => by have := own_base h1 i hi; have := hIb.out.nr i hi; have := hS3.out i e; omega))).2
              · exact (OH.rh (own_ex hO11'.out k (fun i hi e => by have := own_base hO11'.out i hi; have := own_off hO11'.out hb11.out (by decide) i hi; have := hS3.out i e; omega))).2
              · rw [← hzs]
                refine Reads.append ?_ (Reads.one rfl rfl (OI.same (own_ex hIo k (fun i hi e => by have := own_base hOa.out i hi; omega)) hIr'.out).2)
                have h1 : Sep w11 (w.heap.size + 1) hs fs := hIb.out.s.ex hGr.out (fun i a b ha hb e => by
                  have hi : i < fs.length := by rw [← hIb.out.s.len]; exact (List.getElem?_eq_some_iff.1 ha).1
                  exact own_ne_blk (hIb.out.s.at_ i a fs[i] ha (List.getElem?_eq_getElem hi)).2.1 hIb.out.f (by decide) hb e.symm)
                exact (h1.ex k (fun i a b ha hb e => by have := (h1.lt ha hb).1; have := hIb.out.ns i a b ha hb; have := hS3.out b e; omega)).reads
            have hCE := ((hCa'.out.next hSb.out).ex hGr.out (fun b hb => by have := own_base hIb.out.f b hb.symm; omega)).ex EX (fun b hb => by have e' : b = g3 := hb; omega)
            have hEE := (((hE8'.out.trans hEa'.out fun _ _ h => h).then_on hSb.out).trans hGr.out (fun i hi h => by have := own_base hIb.out.f i h.symm; omega)).trans EX (fun i hi h => by have e' : i = g3 := h; omega)
            exact inst_end hqw.out hq0.out ((hRS.ex (EX.mono fun _ h => .inr h)).mono fun b h => .inl h) (by show 5 ≤ 5; omega) (by have := hfl.out.1; simp; omega) (fun g hg => (List.mem_append.1 hg).elim (fun h => hfl.out.2 g h) (fun h => by rw [List.mem_singleton.1 h]; exact hf3'.out)) hCE hEE
          · by_cases hx1 : x = 1
            · subst hx1
              obtain ⟨hcA, hRA⟩ := OR.same hI8.out.r
              have hcap := Aside0.mk hRA.1
              go_wp2_with (refine gate 43 ?_)
              refine ⟨slR 43 (k := 1) (A := A0) (n := sigs.length) (c := d0) (by show 1 ≤ 5; omega) hcap.out ?_⟩
              obtain ⟨Ac, hAc⟩ : ∃ Ac, (if d0 = 1 then A0 else A0.map (·.add (1 * 3))) = Ac := ⟨_, rfl⟩
              obtain ⟨dc, hdc⟩ : ∃ dc, d0 - 1 = dc := ⟨_, rfl⟩
              have hRS := Aside0.mk (show RS (fun b => b ≤ w.heap.size ∨ b = g3) w8 (.agg #[.slice Ac (sigs.length - 1) dc, .slice A1 fs.length d1]) (sigs.drop 1) fs from by
                refine ⟨Ac, dc, A1, d1, hs, rfl, fun w' k => ?_⟩
                have h' := hI8.out.ex k hS3.out
                refine ⟨?_, (OH.rh h'.f).2, h'.s.reads⟩
                rw [← hAc, ← hdc]
                exact drop1 (OR.same h'.r).2 (by show 1 ≤ 5; omega))
              rw [hAc, hdc]
              clear hAc hdc hcA hRA
              obtain ⟨m4, hm4⟩ : ∃ m4, sigs.length - 1 = m4 := ⟨_, rfl⟩
              rw [hm4] at hRS ⊢
              clear hm4
              simp only [Act.put, List.setIfInBounds_toArray, List.set_cons_zero, List.set_cons_succ]
              have hx8 := Aside0.mk (show (w8.setCell ⟨g3, 0, none⟩ (.slice Ac m4 dc)).heap[w.heap.size]? = _ from blk_far hr8.out (by show ¬ _; simp; have := hgg.out; omega) _)
              have hd1 := blk_cell hx8.out
              have hf1 := blk_frozen hx8.out
              go_wp2
              refine bodyPost_ret (retI rfl rfl (g := w.heap.size) (blk_set (blk_set hx8.out 0 _) 1 _) rfl) rfl ?_
              have EX := Ex.set w8 ⟨g3, 0, none⟩ (.slice Ac m4 dc)
              have hb1 := hgg.out
              have hb2 := hqw.out
              have hb3 := hq0.out
              exact inst_end hqw.out hq0.out ((hRS.out.ex (EX.mono fun _ h => .inr h)).mono fun b h => .inl h) (by show 4 ≤ 5; omega) (by have := hfl.out.1; omega) hfl.out.2 (hC8'.out.ex EX (fun b hb => by have e' : b = g3 := hb; omega)) (hE8'.out.trans EX (fun i hi h => by have e' : i = g3 := h; omega))
            · by_cases hx2 : x = 2
              · subst hx2
                go_wp2
                refine Reg.regionG (fun w' => w'.heap[g3]? = some (.cells #[.slice A0 sigs.length d0, .slice A1 fs.length d1] 27 (0, 0))) [0,1,2,4] [3,5,6,7] 7 (by kernel_rfl) (by kernel_rfl) hb8.out ?_
                repeat refine Reg.sG ?_
                refine Reg.startG ?_
                obtain ⟨w9, hw9⟩ : ∃ w9, ({ w8 with drawn := w8.drawn + 1 } : World) = w9 := ⟨_, rfl⟩
                have hS9 := Aside0.mk (show On w8 w9 from (hw9 ▸ on_draw w8))
                rw [hw9]
                clear hw9 hd0 hf0
                refine Reg.tG ?_
                go_wp2_with (go_at_call 44; refine Stop.out ?_)
                refine ⟨(l1Below_calls w0 _ q (hC8'.out.next hS9.out) 5 (by omega) (by omega)).mono ?_⟩
                rintro e wa ⟨v, rfl, ⟨y, rfl, hy⟩, hCa, hEa⟩
                obtain ⟨k, rfl⟩ := Int.eq_ofNat_of_zero_le hy.1
                have hk := Aside0.mk (show k < sigs.length by show k < 5; omega)
                have hCa' := Aside0.mk hCa
                have hEa' := Aside0.mk ((Ex.of_on (S := fun b => b = q) hS9.out).trans hEa fun _ _ h => h)
                have hba := Aside0.mk (blk_ex hEa'.out hb8.out (by have := hqw.out; have := hgg.out; omega))
                clear hCa hEa hy
                go_wp2
                refine ⟨hba.out, ?_⟩
                refine Reg.tG ?_
                go_wp2_with (go_at_call 113; refine Stop.out ?_)
                refine ⟨(l3One_calls w0 _ q hCa'.out).mono ?_⟩
                rintro e wb ⟨v, rfl, ⟨r, rfl⟩, hCb, hEb⟩
                have hCb' := Aside0.mk hCb
                have hEb' := Aside0.mk (hEa'.out.trans hEb fun _ _ h => h)
                have hbb := Aside0.mk (blk_ex hEb'.out hb8.out (by have := hqw.out; have := hgg.out; omega))
                have hrb := Aside0.mk (blk_ex hEb'.out hr8.out (by have := hqw.out; omega))
                have hIb := Aside0.mk (hI8.out.ex hEb'.out fun b hb => .inl (by have := hq1.out; omega))
                clear hCb hEb
                obtain ⟨gr, hgA, hgo, ⟨z0, hz0⟩, ⟨z1, hz1⟩, ⟨z2, hz2⟩, hfz, hset⟩ := hIb.out.r.setAt hk.out
                have hset' := Aside0.mk (hset r)
                have hgo' := Aside0.mk hgo
                have hgr := Aside0.mk (show w.heap.size + 1 ≤ gr ∧ gr ≠ g3 from ⟨own_base hIb.out.r gr hgo, hIb.out.nr gr hgo⟩)
                have hkb := hk.out
                clear hset hgo
                subst hgA
                go_wp2
                refine ⟨hbb.out, ?_⟩
                refine Reg.tG ?_
                go_wp2
                refine ⟨hbb.out, ?_⟩
                refine Reg.tE ?_
                obtain ⟨X, hX⟩ : ∃ X, ((wb.setCell ⟨gr, k * 3, none⟩ (.string r.1)).setCell ⟨gr, k * 3 + 1, none⟩ (.int .i64 r.2.1)).setCell ⟨gr, k * 3 + 2, none⟩ (.bool r.2.2) = X := ⟨_, rfl⟩
                have hX' := Aside0.mk hX
                have n1 : ¬ gr = g3 := hgr.out.2
                have n2 : ¬ gr = w.heap.size := by have := hgr.out.1; omega
                have hy11 := Aside0.mk (show (((wb.setCell ⟨gr, k * 3, none⟩ (.string r.1)).setCell ⟨gr, k * 3 + 1, none⟩ (.int .i64 r.2.1)).setCell ⟨gr, k * 3 + 2, none⟩ (.bool r.2.2)).heap[g3]? = _ from blk_far (blk_far (blk_far hbb.out (fun e => n1 e.symm) _) (fun e => n1 e.symm) _) (fun e => n1 e.symm) _)
                have hx11 := Aside0.mk (show (((wb.setCell ⟨gr, k * 3, none⟩ (.string r.1)).setCell ⟨gr, k * 3 + 1, none⟩ (.int .i64 r.2.1)).setCell ⟨gr, k * 3 + 2, none⟩ (.bool r.2.2)).heap[w.heap.size]? = _ from blk_far (blk_far (blk_far hrb.out (fun e => n2 e.symm) _) (fun e => n2 e.symm) _) (fun e => n2 e.symm) _)
                have hd0 := blk_cell hy11.out
                have hd1 := blk_cell hx11.out
                have hf1 := blk_frozen hx11.out
                clear hX n1 n2
                go_wp2
                refine bodyPost_ret (retI rfl rfl (g := w.heap.size) (blk_set (blk_set hx11.out 0 _) 1 _) rfl) rfl ?_
                have EX := ((Ex.set wb ⟨gr, k * 3, none⟩ (.string r.1)).trans (Ex.set _ ⟨gr, k * 3 + 1, none⟩ (.int .i64 r.2.1)) (fun _ _ h => h)).trans (Ex.set _ ⟨gr, k * 3 + 2, none⟩ (.bool r.2.2)) (fun _ _ h => h)
                have hb1 := hgr.out.1
                have hb2 := hqw.out
                have hb3 := hq0.out
                have hRS : RS (fun b => b ≤ w.heap.size ∨ b = g3) (((wb.setCell ⟨gr, k * 3, none⟩ (.string r.1)).setCell ⟨gr, k * 3 + 1, none⟩ (.int .i64 r.2.1)).setCell ⟨gr, k * 3 + 2, none⟩ (.bool r.2.2)) (.agg #[.slice (some ⟨gr, 0, none⟩) sigs.length d0, .slice A1 fs.length d1]) (sigs.set k r) fs := by
                  have hf := own_ex hIb.out.f EX (fun i hi e => own_ne_blk hIb.out.f hIb.out.r (by decide) hi (e ▸ hgo'.out))
                  have hs' : Sep (((wb.setCell ⟨gr, k * 3, none⟩ (.string r.1)).setCell ⟨gr, k * 3 + 1, none⟩ (.int .i64 r.2.1)).setCell ⟨gr, k * 3 + 2, none⟩ (.bool r.2.2)) (w.heap.size + 1) hs fs := hIb.out.s.ex EX (fun i a b ha hb e => by
                    have hi : i < fs.length := by rw [← hIb.out.s.len]; exact (List.getElem?_eq_some_iff.1 ha).1
                    exact own_ne_blk (hIb.out.s.at_ i a fs[i] ha (List.getElem?_eq_getElem hi)).2.1 hIb.out.r (by decide) hb (e ▸ hgo'.out))
                  refine ⟨some ⟨gr, 0, none⟩, d0, A1, d1, hs, by rw [List.length_set], fun w' kk => ⟨?_, ?_, ?_⟩⟩
                  · exact (OR.same (own_ex hset'.out kk (fun i hi e => by have := own_base hset'.out i hi; have := hIb.out.nr i hi; have := hS3.out i e; omega))).2
                  · exact (OH.rh (own_ex hf kk (fun i hi e => by have := own_base hf i hi; have := hIb.out.nf i hi; have := hS3.out i e; omega))).2
                  · exact (hs'.ex kk (fun i a b ha hb e => by have := (hs'.lt ha hb).1; have := hIb.out.ns i a b ha hb; have := hS3.out b e; omega)).reads
                exact inst_end hqw.out hq0.out (hRS.mono fun b h => .inl h) (by rw [List.length_set]; show 5 ≤ 5; omega) (by have := hfl.out.1; omega) hfl.out.2 (hCb'.out.ex EX (fun b hb => by have e' : b = gr := hb; omega)) ((hE8'.out.trans hEb'.out fun _ _ h => h).trans EX (fun i hi h => by have e' : i = gr := h; omega))
              · have b0 : (x == 0) = false := by simpa using hx0
                have b1 : (x == 1) = false := by simpa using hx1
                have b2 : (x == 2) = false := by simpa using hx2
                have hd1 := blk_cell hr8.out
                have hf1 := blk_frozen hr8.out
                clear hx0 hx1 hx2
                go_wp2
                refine bodyPost_ret (retI rfl rfl (g := w.heap.size) (blk_set (blk_set hr8.out 0 _) 1 _) rfl) rfl ?_
                exact inst_end hqw.out hq0.out ((hI8.out.rs hS3.out).mono fun b h => .inl h) (by show 5 ≤ 5; omega) (by have := hfl.out.1; omega) hfl.out.2 hC8'.out hE8'.out
end Go.Proofs.YtngjhblbpapjeaaGreat.H
/- Walks: the draws of one fact of an instance, of an instance with a fact. What is told: sizes and ranges. No condition. -/
namespace Go.Proofs.YtngjhblbpapjeaaGreat.H
open Go Go.RowKit Go.Proofs.YtngjhblbpapjeaaGreatW.PrintWords Go.Proofs.YtngjhblbpapjeaaGreatW.PrintLast
open Go.Proofs.YtngjhblbpapjeaaGreat.Reg (On on_draw)
set_option maxHeartbeats 4000000
set_option maxRecDepth 100000
set_option linter.unusedVariables false
set_option linter.unusedSimpArgs false

/-- A fact read whatever happens to blocks S. -/
def RSa (S : Nat → Prop) (w : World) (v : Value) (f : Fct) : Prop := ∀ w', Ex S w w' → RFa w' v f
theorem RSa.ex {S : Nat → Prop} {W w : World} {v : Value} {f : Fct} (h : RSa S W v f) (k : Ex S W w) : RSa S w v f := fun w' h' => h w' (k.trans h' fun _ _ h => h)
theorem OFa.rs {S : Nat → Prop} {w : World} {lo : Nat} {v : Value} {f : Fct} (h : OFa w lo v f) (hS : ∀ b, S b → b < lo) : RSa S w v f := fun w' k => (h.ex k hS).read
theorem RH.at {w : World} {A : Option Addr} {c : Nat} {hs : List Hdr} (h : RH w A c hs) (k : Nat) (hk : k < hs.length) : ∃ ad, A = some ad ∧ w.cell? (ad.add (k * 2)) = some (.int .i64 hs[k].1) ∧ w.cell? ⟨(ad.add (k * 2)).block, (ad.add (k * 2)).off + 1, none⟩ = some (hdV hs[k]) := by
  obtain ⟨ad, e, h0⟩ := h.cell (k * 2 + 0) _ ((flat_get (enc := encH) (sz := 2) (fun _ => rfl) hs k 0 hk (by omega)).trans rfl)
  obtain ⟨ad', e', h1⟩ := h.cell (k * 2 + 1) _ ((flat_get (enc := encH) (sz := 2) (fun _ => rfl) hs k 1 hk (by omega)).trans rfl)
  obtain rfl : ad = ad' := Option.some.inj (e.symm.trans e')
  exact ⟨ad, e, h0, by rw [← add_field _ _ 1 (by omega)]; exact h1⟩
theorem one_end {S : Nat → Prop} {w0 w wz : World} {q : Nat} {r : Int} {A : Option Addr} {n c : Nat} {f : Fct} (hqw : q < w.heap.size) (hq0 : w0.heap.size ≤ q) (hR : RSa (fun b => S b ∨ b = w.heap.size + 1) wz (.agg #[.int .i64 r, .slice A n c]) f) (hl : f.2.length ≤ 3) (hC : Cu w0 wz q) (hE : Ex (fun b => b = q) w wz) :
    Dr w0 w q (fun v w' => ∃ f, RSa S w' v f ∧ f.2.length ≤ 3) (.returned (.agg #[.int .i64 r, .slice A n c])) ((wz.setCell ⟨w.heap.size + 1, 0, none⟩ (.int .i64 r)).setCell ⟨w.heap.size + 1, 1, none⟩ (.slice A n c)) := by
  have EE := (Ex.set wz ⟨w.heap.size + 1, 0, none⟩ (.int .i64 r)).trans (Ex.set _ ⟨w.heap.size + 1, 1, none⟩ (.slice A n c)) (fun _ _ h => h)
  exact ⟨_, rfl, ⟨f, fun w' k => (hR.ex (EE.mono fun _ h => .inr h)) w' (k.mono fun _ h => .inl h), hl⟩,
    hC.ex EE (fun b hb => by have e' : b = w.heap.size + 1 := hb; omega), hE.trans EE (fun i hi h => by have e' : i = w.heap.size + 1 := h; omega)⟩
theorem l5One_calls (S : Nat → Prop) (w0 w : World) (q : Nat) (hC : Cu w0 w q) (hSq : S q) (hSb : ∀ b, S b → b < w.heap.size) (A0 c0 A1 c1) (rs : List Rel) (fs : List Fct) (hR : RS S w (.agg #[.slice A0 rs.length c0, .slice A1 fs.length c1]) rs fs) (hl : fs.length ≤ 200) (hl2 : ∀ f ∈ fs, f.2.length ≤ 3) :
    Calls Tryz.prog 78 #[.pointer (some ⟨q, 0, none⟩), .agg #[.slice A0 rs.length c0, .slice A1 fs.length c1]] w (Dr w0 w q fun v w' => ∃ f, RSa S w' v f ∧ f.2.length ≤ 3) := by
  have hC' := Aside0.mk hC
  have hqw := Aside0.mk hC.lt
  have hq0 := Aside0.mk hC.lo
  have hSq' := Aside0.mk hSq
  have hSb' := Aside0.mk hSb
  have hR' := Aside0.mk hR
  have hl' := Aside0.mk hl
  have hl2' := Aside0.mk hl2
  have hb0 := Aside0.mk (On.alloc (On.alloc (On.refl w) (.cells #[.slice A0 rs.length c0, .slice A1 fs.length c1] 27 (0, 0))) (.cells #[.int .i64 0, .slice none 0 0] 30 (0, 0)))
  have hL := Aside0.mk (loc2 w #[.slice A0 rs.length c0, .slice A1 fs.length c1] #[.int .i64 0, .slice none 0 0] 27 30)
  clear hC hSq hSb hR hl hl2
  obtain ⟨W, hW⟩ : ∃ W, (w.alloc (.cells #[.slice A0 rs.length c0, .slice A1 fs.length c1] 27 (0, 0))).alloc (.cells #[.int .i64 0, .slice none 0 0] 30 (0, 0)) = W := ⟨_, rfl⟩
  rw [hW] at hb0 hL
  have hWs := Aside0.mk (show W.heap.size = w.heap.size + 2 by rw [← hW]; simp)
  have hW' := Aside0.mk hW
  clear hW
  by_cases hn : 0 < fs.length
  · have hn' := Aside0.mk hn
    have hnb : decide ((0 : Int) < (fs.length : Int)) = true := decide_eq_true (by omega)
    have hnn : decide (0 < fs.length) = true := decide_eq_true hn
    clear hn
    go_enter Tryz.func78, Tryz.ntmps78
    go_wp2_with (go_at_call 110; refine Stop.out ?_)
    rw [hW'.out]
    refine ⟨(l1Once_calls w0 _ q (hC'.out.next hb0.out) 2 (by omega) (by omega)).mono ?_⟩
    rintro e w1 ⟨v, rfl, ⟨b, rfl⟩, hC1, hE1⟩
    have hC1' := Aside0.mk hC1
    have hE1' := Aside0.mk ((Ex.of_on (S := fun b => b = q) hb0.out).trans hE1 fun _ _ h => h)
    have hi1 := Aside0.mk (blk_ex hE1 hL.out.1 (by have := hqw.out; omega))
    have hr1 := Aside0.mk (blk_ex hE1 hL.out.2.1 (by have := hqw.out; omega))
    clear hC1 hE1
    cases b with
    | true =>
      have hd0 := blk_cell hi1.out
      go_wp2
      refine Reg.regionG (fun w' => w'.heap[w.heap.size]? = some (.cells #[.slice A0 rs.length c0, .slice A1 fs.length c1] 27 (0, 0))) [0,1,2,3,4,5] [6,7,8,9] 9 (by kernel_rfl) (by kernel_rfl) hi1.out ?_
      repeat refine Reg.sG ?_
      refine Reg.startG ?_
      obtain ⟨w2, hw2⟩ : ∃ w2, ({ w1 with drawn := w1.drawn + 1 } : World) = w2 := ⟨_, rfl⟩
      have hS2 := Aside0.mk (show On w1 w2 from (hw2 ▸ on_draw w1))
      rw [hw2]
      clear hw2 hd0
      refine Reg.tG ?_
      go_wp2_with (go_at_call 44; refine Stop.out ?_)
      refine ⟨(l1Below_calls w0 _ q (hC1'.out.next hS2.out) fs.length (by have := hn'.out; omega) (by have := hl'.out; omega)).mono ?_⟩
      rintro e w3 ⟨v, rfl, ⟨y, rfl, hy⟩, hC3, hE3⟩
      obtain ⟨k, rfl⟩ := Int.eq_ofNat_of_zero_le hy.1
      have hk := Aside0.mk (show k < fs.length by omega)
      have hC3' := Aside0.mk hC3
      have hE3' := Aside0.mk ((hE1'.out.then_on hS2.out).trans hE3 fun _ _ h => h)
      have hi3 := Aside0.mk (blk_ex hE3 (blk_below hi1.out hS2.out) (by have := hqw.out; omega))
      have hr3 := Aside0.mk (blk_ex hE3 (blk_below hr1.out hS2.out) (by have := hqw.out; omega))
      clear hC3 hE3 hy
      obtain ⟨_, _, hs, hall⟩ := hR'.out.parts
      obtain ⟨-, hH, hRd⟩ := hall w3 (hE3'.out.mono fun b hb => hb ▸ hSq'.out)
      have hlen := Aside0.mk hRd.len
      have hkh : k < hs.length := by have := hk.out; have := hlen.out; omega
      obtain ⟨ad, hA, x0, x1⟩ := hH.at k hkh
      have hkf : k < fs.length := hk.out
      obtain ⟨f1, f2, -⟩ := hRd.at_ k hs[k] fs[k] (List.getElem?_eq_getElem hkh) (List.getElem?_eq_getElem hk.out)
      have hallA := Aside0.mk hall
      subst hA
      obtain ⟨hd, hhd⟩ : ∃ hd : Hdr, hs[k] = hd := ⟨_, rfl⟩
      have hhd' := Aside0.mk (show hs[k]? = some hd by rw [List.getElem?_eq_getElem hkh, hhd])
      rw [hhd] at x0 x1 f1 f2
      obtain ⟨hr, hA, hn, hc⟩ := hd
      simp only at x0 x1 f1 f2
      have f1' := Aside0.mk f1
      have f2' := Aside0.mk f2
      clear hall hH hRd hhd hkh f1 f2
      go_wp2
      refine ⟨hi3.out, ?_⟩
      refine Reg.tG ?_
      go_wp2
      refine ⟨hi3.out, ?_⟩
      refine Reg.tG ?_
      go_wp2
      refine ⟨hi3.out, ?_⟩
      refine Reg.tE ?_
      have hd1 := blk_cell hr3.out
      have hf1 := blk_frozen hr3.out
      clear x0 x1
      go_wp2
      refine bodyPost_ret (retF rfl rfl (g := w.heap.size + 1) (blk_set (blk_set hr3.out 0 _) 1 _) rfl) rfl ?_
      refine one_end hqw.out hq0.out (f := fs[k]) (fun w' kk => ?_) (hl2'.out _ (List.getElem_mem hk.out)) hC3'.out hE3'.out
      have kw : Ex S w w' := (hE3'.out.mono fun b hb => (show S b from hb ▸ hSq'.out)).trans kk fun i hi h => h.elim id fun e => by omega
      obtain ⟨-, -, hRd⟩ := hallA.out w' kw
      obtain ⟨g1, g2, g3⟩ := hRd.at_ k (hr, hA, hn, hc) fs[k] hhd'.out (List.getElem?_eq_getElem hk.out)
      exact ⟨hA, hc, by rw [← f1'.out, ← f2'.out], g3⟩
    | false =>
      go_wp2_with (go_at_call 112; refine Stop.out ?_)
      try rw [hW'.out]
      refine ⟨(l4Any_calls w0 _ q hC1'.out).mono ?_⟩
      rintro e w2 ⟨v, rfl, ⟨f, hO, hf3⟩, hC2, hE2⟩
      obtain ⟨v2, rfl, hO, hI⟩ := hO.out
      obtain ⟨A2, c2, rfl⟩ := own_slice hO
      have hO2 := Aside0.mk (show OFa w2 (w.heap.size + 2) (.agg #[.int .i64 f.1, .slice A2 f.2.length c2]) f from ⟨_, rfl, own_lower hO (by have := blk_lt hr1.out; omega), hI⟩)
      have hf3' := Aside0.mk hf3
      have hC2' := Aside0.mk hC2
      have hE2' := Aside0.mk (hE1'.out.trans hE2 fun _ _ h => h)
      have hr2 := Aside0.mk (blk_ex hE2 hr1.out (by have := hqw.out; omega))
      have hd1 := blk_cell hr2.out
      have hf1 := blk_frozen hr2.out
      clear hC2 hE2 hO hI hf3
      go_wp2
      refine bodyPost_ret (retF rfl rfl (g := w.heap.size + 1) (blk_set (blk_set hr2.out 0 _) 1 _) rfl) rfl ?_
      exact one_end hqw.out hq0.out (hO2.out.rs fun b hb => hb.elim (fun h => by have := hSb'.out b h; omega) (fun h => by omega)) hf3'.out hC2'.out hE2'.out
  · have hnb : decide ((0 : Int) < (fs.length : Int)) = false := decide_eq_false (by omega)
    have hnn : decide (0 < fs.length) = false := decide_eq_false hn
    have hd0 := blk_cell hL.out.1
    clear hn
    have hC1' := Aside0.mk (hC'.out.next hb0.out)
    have hE1' := Aside0.mk (Ex.of_on (S := fun b => b = q) hb0.out)
    have hr1 := Aside0.mk hL.out.2.1
    go_enter Tryz.func78, Tryz.ntmps78
    go_wp2_with (go_at_call 112; refine Stop.out ?_)
    try rw [hW'.out]
    refine ⟨(l4Any_calls w0 _ q hC1'.out).mono ?_⟩
    rintro e w2 ⟨v, rfl, ⟨f, hO, hf3⟩, hC2, hE2⟩
    obtain ⟨v2, rfl, hO, hI⟩ := hO.out
    obtain ⟨A2, c2, rfl⟩ := own_slice hO
    have hO2 := Aside0.mk (show OFa w2 (w.heap.size + 2) (.agg #[.int .i64 f.1, .slice A2 f.2.length c2]) f from ⟨_, rfl, own_lower hO (by have := blk_lt hr1.out; omega), hI⟩)
    have hf3' := Aside0.mk hf3
    have hC2' := Aside0.mk hC2
    have hE2' := Aside0.mk (hE1'.out.trans hE2 fun _ _ h => h)
    have hr2 := Aside0.mk (blk_ex hE2 hr1.out (by have := hqw.out; omega))
    have hd1 := blk_cell hr2.out
    have hf1 := blk_frozen hr2.out
    clear hC2 hE2 hO hI hf3
    go_wp2
    refine bodyPost_ret (retF rfl rfl (g := w.heap.size + 1) (blk_set (blk_set hr2.out 0 _) 1 _) rfl) rfl ?_
    exact one_end hqw.out hq0.out (hO2.out.rs fun b hb => hb.elim (fun h => by have := hSb'.out b h; omega) (fun h => by omega)) hf3'.out hC2'.out hE2'.out
section
variable {fn : Func} {p u : Tmp} {tmps : Array Value} {w : World} {g g' : Nat} {t t' : TypeId} {cs cs' : Array Value} {fr fr' : Nat × Nat}
theorem retIF (h : fn.results = #[.cell p 27, .cell u 30]) (hp : tmps.getD p undef = .pointer (some ⟨g, 0, none⟩)) (hp' : tmps.getD u undef = .pointer (some ⟨g', 0, none⟩)) (hg : w.heap[g]? = some (.cells cs t fr)) (hg' : w.heap[g']? = some (.cells cs' t' fr')) (hs : cs.size = 2) (hs' : cs'.size = 2) : (results fn tmps).run Tryz.prog w = .ok (.tuple #[.agg cs, .agg cs']) w :=
  results_cc h tmps w g g' t t' cs cs' fr fr' _ _ hp hg Tryz.underlying27 rfl (by rw [hs]; kernel_rfl) hp' hg' Tryz.underlying30 rfl (by rw [hs']; kernel_rfl)
end
theorem DrawContainsFact_calls (w : World) (A c) (xs : List Int) (hc : xs.length ≤ c) (hK : kBytes.C w A xs.length xs) :
    Calls Tryz.prog 34 #[.slice A xs.length c] w (Got fun v w' => ∃ v1 v2 rs fs f, v = .tuple #[v1, v2] ∧ RS (fun b => b < w.heap.size) w' v1 rs fs ∧ RSa (fun b => b < w.heap.size) w' v2 f ∧ rs.length ≤ 5 ∧ fs.length ≤ 200 ∧ (∀ f ∈ fs, f.2.length ≤ 3) ∧ f.2.length ≤ 3 ∧ On w w') := by
  have hK' := Aside0.mk hK
  have hc' := Aside0.mk hc
  have hb0 := Aside0.mk (On.alloc (On.alloc (On.refl w) (.cells #[.slice none 0 0, .slice none 0 0] 27 (0, 0))) (.cells #[.int .i64 0, .slice none 0 0] 30 (0, 0)))
  have hL := Aside0.mk (loc2 w #[.slice none 0 0, .slice none 0 0] #[.int .i64 0, .slice none 0 0] 27 30)
  clear hK hc
  go_enter Tryz.func34, Tryz.ntmps34
  go_wp2_with (go_at_call 42; refine Stop.out ?_)
  refine ⟨(l1New_calls _ A c xs hc'.out (Kd.C_below hK'.out hb0.out)).mono ?_⟩
  rintro e w1 ⟨v, rfl, q, rfl, hC1, hb1⟩
  have hC1' := Aside0.mk hC1
  have hb1' := Aside0.mk (hb0.out.trans hb1)
  have hi1 := Aside0.mk (blk_below hL.out.1 hb1)
  have hr1 := Aside0.mk (blk_below hL.out.2.1 hb1)
  have hq := Aside0.mk (show w.heap.size + 2 ≤ q ∧ q < w1.heap.size from ⟨by have := hC1.lo; simpa using this, hC1.lt⟩)
  clear hC1 hb1
  go_wp2_with (go_at_call 77; refine Stop.out ?_)
  refine ⟨(l5Any_calls _ w1 q hC1'.out).mono ?_⟩
  rintro e w2 ⟨v, rfl, ⟨rs, fs, hR, hl0, hl, hl2⟩, hC2, hE2⟩
  obtain ⟨A0, c0, A1, c1, hs, rfl, -⟩ := hR.out
  have hR2 := Aside0.mk hR
  have hC2' := Aside0.mk hC2
  have hE2' := Aside0.mk hE2
  have hl' := Aside0.mk (And.intro hl0 (And.intro hl hl2))
  have hi2 := Aside0.mk (blk_ex hE2 hi1.out (by have := hq.out; omega))
  have hr2 := Aside0.mk (blk_ex hE2 hr1.out (by have := hq.out; omega))
  clear hR hl0 hl hl2 hC2 hE2
  have hfill := alloc_fill w2
  go_wp2
  clear hfill
  obtain ⟨wa, hwa⟩ : ∃ wa, w2.alloc (.cells #[.slice A0 rs.length c0, .slice A1 fs.length c1] 27 (0, 0)) = wa := ⟨_, rfl⟩
  have hl5 := Aside0.mk (show wa.heap[w2.heap.size]? = some (.cells #[.slice A0 rs.length c0, .slice A1 fs.length c1] 27 (0, 0)) from hwa ▸ loc_new w2 _ _)
  have hba := Aside0.mk (show On w2 wa from hwa ▸ On.alloc (On.refl _) _)
  try rw [hwa]
  clear hwa
  have hg5 := Aside0.mk (show w1.heap.size ≤ w2.heap.size from hE2'.out.size)
  obtain ⟨g5, hg5e⟩ : ∃ g5, w2.heap.size = g5 := ⟨_, rfl⟩
  rw [hg5e] at hl5 hg5 ⊢
  clear hg5e
  refine Reg.regionG (fun w' => w'.heap[g5]? = some (.cells #[.slice A0 rs.length c0, .slice A1 fs.length c1] 27 (0, 0))) [0,1,2] [3,4,5] 5 (by kernel_rfl) (by kernel_rfl) hl5.out ?_
  repeat refine Reg.sG ?_
  refine Reg.startG ?_
  obtain ⟨w3, hw3⟩ : ∃ w3, ({ wa with drawn := wa.drawn + 1 } : World) = w3 := ⟨_, rfl⟩
  have hS3 := Aside0.mk (show On w2 w3 from hba.out.trans (hw3 ▸ on_draw wa))
  have hl53 := Aside0.mk (show w3.heap[g5]? = _ from blk_below hl5.out (hw3 ▸ on_draw wa))
  rw [hw3]
  clear hw3
  refine Reg.tG ?_
  go_wp2_with (go_at_call 78; refine Stop.out ?_)
  refine ⟨(l5One_calls (fun b => b < w1.heap.size) _ w3 q (hC2'.out.next hS3.out) hq.out.2 (fun b hb => by have := hE2'.out.size; have := hS3.out.size; omega) A0 c0 A1 c1 rs fs (hR2.out.on hS3.out) hl'.out.2.1 hl'.out.2.2).mono ?_⟩
  rintro e w4 ⟨v, rfl, ⟨f, hF, hf3⟩, hC4, hE4⟩
  obtain ⟨A2, c2, rfl, -⟩ := hF w4 (Ex.refl _ _)
  have hF4 := Aside0.mk hF
  have hf3' := Aside0.mk hf3
  have hE4' := Aside0.mk ((Ex.of_on (S := fun b => b = q) hS3.out).trans hE4 fun _ _ h => h)
  have hR4 := Aside0.mk (hR2.out.ex (hE4'.out.mono fun b hb => by have := hq.out; omega))
  have hi4 := Aside0.mk (blk_ex hE4'.out hi2.out (by have := hq.out; omega))
  have hr4 := Aside0.mk (blk_ex hE4'.out hr2.out (by have := hq.out; omega))
  have hb5 := Aside0.mk (blk_ex hE4 hl53.out (by have := hq.out; have := hg5.out; omega))
  have hC4' := Aside0.mk hC4
  clear hC4 hE4 hF hf3
  go_wp2
  refine ⟨hb5.out, ?_⟩
  refine Reg.tG ?_
  have hd0 := blk_cell hi4.out
  have hf0 := blk_frozen hi4.out
  go_wp2
  have hq1 := hq.out
  have hq2 := hg5.out
  obtain ⟨X, hX⟩ : ∃ X, (w4.setCell ⟨w.heap.size, 0, none⟩ (.slice A0 rs.length c0)).setCell ⟨w.heap.size, 1, none⟩ (.slice A1 fs.length c1) = X := ⟨_, rfl⟩
  have EX := Aside0.mk (show Ex (fun b => b = w.heap.size) w4 X from hX ▸ (Ex.set w4 ⟨w.heap.size, 0, none⟩ (.slice A0 rs.length c0)).trans (Ex.set _ ⟨w.heap.size, 1, none⟩ (.slice A1 fs.length c1)) (fun _ _ h => h))
  have hiX := Aside0.mk (show X.heap[w.heap.size]? = some (.cells #[.slice A0 rs.length c0, .slice A1 fs.length c1] 27 (0, 0)) from hX ▸ blk_set (blk_set hi4.out 0 _) 1 _)
  have hrX := Aside0.mk (blk_ex EX.out hr4.out (by omega))
  have hbX := Aside0.mk (blk_ex EX.out hb5.out (by omega))
  rw [hX]
  clear hX hd0 hf0
  refine ⟨hbX.out, ?_⟩
  refine Reg.tE ?_
  have hd0 := blk_cell hrX.out
  have hf0 := blk_frozen hrX.out
  go_wp2
  have EY := (Ex.set X ⟨w.heap.size + 1, 0, none⟩ (.int .i64 f.1)).trans (Ex.set _ ⟨w.heap.size + 1, 1, none⟩ (.slice A2 f.2.length c2)) (fun _ _ h => h)
  refine bodyPost_ret (retIF rfl rfl rfl (g := w.heap.size) (g' := w.heap.size + 1) (blk_ex EY hiX.out (fun e => by have e' : w.heap.size = w.heap.size + 1 := e; omega)) (blk_set (blk_set hrX.out 0 _) 1 _) rfl rfl) rfl ?_
  have EZ := (EX.out.mono (S' := fun b => b = w.heap.size ∨ b = w.heap.size + 1) fun _ h => .inl h).trans EY (fun i hi h => .inr h)
  have hO4 : On w w4 := Ex.on hb1'.out (hE2'.out.trans hE4'.out fun _ _ h => h) (fun i e => by omega)
  exact ⟨_, rfl, _, _, rs, fs, f, rfl, (hR4.out.ex (EZ.mono fun b h => by omega)).mono (fun b h => by omega), fun w' k => hF4.out w' ((EZ.mono (fun b h => by omega)).trans (k.mono (S' := fun b => b < w1.heap.size) fun b h => by omega) fun _ _ h => h), hl'.out.1, hl'.out.2.1, hl'.out.2.2, hf3'.out, Ex.on hO4 EZ (fun i e => by omega)⟩
end Go.Proofs.YtngjhblbpapjeaaGreat.H
/- Walks: the reference's draws of an instance with a fact and of two facts. What is told: sizes and ranges. No condition. -/
namespace Go.Proofs.YtngjhblbpapjeaaGreat.H
open Go Go.RowKit Go.Proofs.YtngjhblbpapjeaaGreatW.PrintWords Go.Proofs.YtngjhblbpapjeaaGreatW.PrintLast
open Go.Proofs.YtngjhblbpapjeaaGreat.Reg (On on_draw)
set_option maxHeartbeats 4000000
set_option maxRecDepth 100000
set_option linter.unusedVariables false
set_option linter.unusedSimpArgs false

theorem DrawInsertFact_calls (w : World) (A c) (xs : List Int) (hc : xs.length ≤ c) (hK : kBytes.C w A xs.length xs) :
    Calls Tryz.prog 7 #[.slice A xs.length c] w (Got fun v w' => ∃ v1 v2 rs fs f, v = .tuple #[v1, v2] ∧ RS (fun b => b < w.heap.size) w' v1 rs fs ∧ RSa (fun b => b < w.heap.size) w' v2 f ∧ rs.length ≤ 5 ∧ fs.length ≤ 200 ∧ (∀ f ∈ fs, f.2.length ≤ 3) ∧ f.2.length ≤ 3 ∧ On w w') := by
  have hb0 := Aside0.mk (On.alloc (On.alloc (On.refl w) (.cells #[.slice none 0 0, .slice none 0 0] 27 (0, 0))) (.cells #[.int .i64 0, .slice none 0 0] 30 (0, 0)))
  have hL := Aside0.mk (loc2 w #[.slice none 0 0, .slice none 0 0] #[.int .i64 0, .slice none 0 0] 27 30)
  have hK' := Aside0.mk hK
  have hc' := Aside0.mk hc
  clear hK hc
  go_enter Tryz.func7, Tryz.ntmps7
  go_wp2_with (go_at_call 34; refine Stop.out ?_)
  refine ⟨(DrawContainsFact_calls _ A c xs hc'.out (Kd.C_below hK'.out hb0.out)).mono ?_⟩
  rintro e w1 ⟨v, rfl, v1, v2, rs, fs, f, rfl, hR, hF, hl0, hl, hl2, hl3, hb1⟩
  obtain ⟨A0, n0, c0, A1, n1, c1, rfl⟩ := hR.read.shape
  obtain ⟨r2, A2, n2, c2, rfl⟩ := (hF _ (Ex.refl _ _)).shape
  have hR' := Aside0.mk hR
  have hF' := Aside0.mk hF
  have hl' := Aside0.mk (And.intro hl0 (And.intro hl (And.intro hl2 hl3)))
  have hb1' := Aside0.mk hb1
  have hi := Aside0.mk (blk_below hL.out.1 hb1)
  have hr := Aside0.mk (blk_below hL.out.2.1 hb1)
  clear hR hF hl0 hl hl2 hl3 hb1
  have hd0 := blk_cell hi.out
  have hf0 := blk_frozen hi.out
  obtain ⟨X, hX⟩ : ∃ X, (w1.setCell ⟨w.heap.size, 0, none⟩ (.slice A0 n0 c0)).setCell ⟨w.heap.size, 1, none⟩ (.slice A1 n1 c1) = X := ⟨_, rfl⟩
  have EX := Aside0.mk (show Ex (fun b => b = w.heap.size) w1 X from hX ▸ (Ex.set w1 ⟨w.heap.size, 0, none⟩ (.slice A0 n0 c0)).trans (Ex.set _ ⟨w.heap.size, 1, none⟩ (.slice A1 n1 c1)) (fun _ _ h => h))
  have hiX := Aside0.mk (show X.heap[w.heap.size]? = some (.cells #[.slice A0 n0 c0, .slice A1 n1 c1] 27 (0, 0)) from hX ▸ blk_set (blk_set hi.out 0 _) 1 _)
  have hrX := Aside0.mk (blk_ex EX.out hr.out (by omega))
  have hd1 := blk_cell hrX.out
  have hf1 := blk_frozen hrX.out
  rw [← hX] at hd1 hf1
  have hX' := Aside0.mk hX
  clear hX
  go_wp2
  rw [hX'.out]
  have EY := (Ex.set X ⟨w.heap.size + 1, 0, none⟩ (.int .i64 r2)).trans (Ex.set _ ⟨w.heap.size + 1, 1, none⟩ (.slice A2 n2 c2)) (fun _ _ h => h)
  refine bodyPost_ret (retIF rfl rfl rfl (g := w.heap.size) (g' := w.heap.size + 1) (blk_ex EY hiX.out (fun e => by have e' : w.heap.size = w.heap.size + 1 := e; omega)) (blk_set (blk_set hrX.out 0 _) 1 _) rfl rfl) rfl ?_
  have EZ := (EX.out.mono (S' := fun b => b = w.heap.size ∨ b = w.heap.size + 1) fun _ h => .inl h).trans EY (fun i hi h => .inr h)
  exact ⟨_, rfl, _, _, rs, fs, f, rfl, (hR'.out.ex (EZ.mono fun b h => by simp; omega)).mono (fun b h => by simp; omega), fun w' k => hF'.out w' ((EZ.mono (fun b h => by simp; omega)).trans (k.mono (S' := fun b => b < ((w.alloc (.cells #[.slice none 0 0, .slice none 0 0] 27 (0, 0))).alloc (.cells #[.int .i64 0, .slice none 0 0] 30 (0, 0))).heap.size) fun b h => by simp; omega) fun _ _ h => h),
    hl'.out.1, hl'.out.2.1, hl'.out.2.2.1, hl'.out.2.2.2, Ex.on (hb0.out.trans hb1'.out) EZ (fun i e => by omega)⟩
end Go.Proofs.YtngjhblbpapjeaaGreat.H
/- Walks: the reference's draw of two facts. What is told: sizes and ranges. No condition. -/
namespace Go.Proofs.YtngjhblbpapjeaaGreat.H
open Go Go.RowKit Go.Proofs.YtngjhblbpapjeaaGreatW.PrintWords Go.Proofs.YtngjhblbpapjeaaGreatW.PrintLast
open Go.Proofs.YtngjhblbpapjeaaGreat.Reg (On on_draw)
set_option maxHeartbeats 4000000
set_option maxRecDepth 100000
set_option linter.unusedVariables false
set_option linter.unusedSimpArgs false

section
variable {fn : Func} {p u : Tmp} {tmps : Array Value} {w : World} {g g' : Nat} {t t' : TypeId} {cs cs' : Array Value} {fr fr' : Nat × Nat}
theorem retFF (h : fn.results = #[.cell p 30, .cell u 30]) (hp : tmps.getD p undef = .pointer (some ⟨g, 0, none⟩)) (hp' : tmps.getD u undef = .pointer (some ⟨g', 0, none⟩)) (hg : w.heap[g]? = some (.cells cs t fr)) (hg' : w.heap[g']? = some (.cells cs' t' fr')) (hs : cs.size = 2) (hs' : cs'.size = 2) : (results fn tmps).run Tryz.prog w = .ok (.tuple #[.agg cs, .agg cs']) w :=
  results_cc h tmps w g g' t t' cs cs' fr fr' _ _ hp hg Tryz.underlying30 rfl (by rw [hs]; kernel_rfl) hp' hg' Tryz.underlying30 rfl (by rw [hs']; kernel_rfl)
end
theorem DrawCompareFacts_calls (w : World) (A c) (xs : List Int) (hc : xs.length ≤ c) (hK : kBytes.C w A xs.length xs) :
    Calls Tryz.prog 10 #[.slice A xs.length c] w (Got fun v w' => ∃ v1 v2 f g, v = .tuple #[v1, v2] ∧ RFa w' v1 f ∧ RFa w' v2 g ∧ f.2.length ≤ 3 ∧ g.2.length ≤ 3 ∧ On w w') := by
  have hK' := Aside0.mk hK
  have hc' := Aside0.mk hc
  have hb0 := Aside0.mk (On.alloc (On.alloc (On.refl w) (.cells #[.int .i64 0, .slice none 0 0] 30 (0, 0))) (.cells #[.int .i64 0, .slice none 0 0] 30 (0, 0)))
  have hL := Aside0.mk (loc2 w #[.int .i64 0, .slice none 0 0] #[.int .i64 0, .slice none 0 0] 30 30)
  clear hK hc
  go_enter Tryz.func10, Tryz.ntmps10
  go_wp2_with (go_at_call 42; refine Stop.out ?_)
  refine ⟨(l1New_calls _ A c xs hc'.out (Kd.C_below hK'.out hb0.out)).mono ?_⟩
  rintro e w1 ⟨v, rfl, q, rfl, hC1, hb1⟩
  have hC1' := Aside0.mk hC1
  have hb1' := Aside0.mk (hb0.out.trans hb1)
  have hi1 := Aside0.mk (blk_below hL.out.1 hb1)
  have hr1 := Aside0.mk (blk_below hL.out.2.1 hb1)
  have hq := Aside0.mk (show w.heap.size + 2 ≤ q ∧ q < w1.heap.size from ⟨by have := hC1.lo; simpa using this, hC1.lt⟩)
  clear hC1 hb1
  go_wp2_with (go_at_call 44; refine Stop.out ?_)
  refine ⟨(l1Below_calls _ w1 q hC1'.out 5 (by omega) (by omega)).mono ?_⟩
  rintro e w2 ⟨v, rfl, ⟨y, rfl, hy⟩, hC2, hE2⟩
  obtain ⟨k, rfl⟩ := Int.eq_ofNat_of_zero_le hy.1
  have hk := Aside0.mk (show k < 5 by omega)
  have hC2' := Aside0.mk hC2
  have hE2' := Aside0.mk hE2
  clear hC2 hE2 hy
  go_wp2_with (go_at_call 43; refine Stop.out ?_)
  refine ⟨(l4Fact_calls _ w2 q hC2'.out k hk.out 2 (by omega) (by omega)).mono ?_⟩
  rintro e w3 ⟨v, rfl, ⟨f, hO, hf1, hf2⟩, hC3, hE3⟩
  obtain ⟨r1, A1, n1, c1, rfl⟩ := hO.read.shape
  have hF3 := Aside0.mk (hO.rs (S := fun b => b < w1.heap.size) fun b hb => by have := hE2'.out.size; omega)
  have hf3' := Aside0.mk (show f.2.length ≤ 3 by rw [hf2]; have := arN_in k; omega)
  have hC3' := Aside0.mk hC3
  have hE3' := Aside0.mk (hE2'.out.trans hE3 fun _ _ h => h)
  have hg3 := Aside0.mk (show w1.heap.size ≤ w3.heap.size by have := hE2'.out.size; have := hE3.size; omega)
  have hi3 := Aside0.mk (blk_ex hE3'.out hi1.out (by have := hq.out; omega))
  have hr3 := Aside0.mk (blk_ex hE3'.out hr1.out (by have := hq.out; omega))
  clear hC3 hE3 hO hf1 hf2
  have hfill := alloc_fill w3
  go_wp2
  clear hfill
  obtain ⟨wa, hwa⟩ : ∃ wa, w3.alloc (.cells #[.int .i64 r1, .slice A1 n1 c1] 30 (0, 0)) = wa := ⟨_, rfl⟩
  have hl5 := Aside0.mk (show wa.heap[w3.heap.size]? = some (.cells #[.int .i64 r1, .slice A1 n1 c1] 30 (0, 0)) from hwa ▸ loc_new w3 _ _)
  have hba := Aside0.mk (show On w3 wa from hwa ▸ On.alloc (On.refl _) _)
  try rw [hwa]
  clear hwa
  obtain ⟨g5, hg5e⟩ : ∃ g5, w3.heap.size = g5 := ⟨_, rfl⟩
  rw [hg5e] at hl5 hg3 ⊢
  clear hg5e
  refine Reg.regionG (fun w' => w'.heap[g5]? = some (.cells #[.int .i64 r1, .slice A1 n1 c1] 30 (0, 0))) [0,1,2] [3,4,5,6] 6 (by kernel_rfl) (by kernel_rfl) hl5.out ?_
  repeat refine Reg.sG ?_
  refine Reg.startG ?_
  obtain ⟨w4, hw4⟩ : ∃ w4, ({ wa with drawn := wa.drawn + 1 } : World) = w4 := ⟨_, rfl⟩
  have hS4 := Aside0.mk (show On w3 w4 from hba.out.trans (hw4 ▸ on_draw wa))
  have hl54 := Aside0.mk (show w4.heap[g5]? = _ from blk_below hl5.out (hw4 ▸ on_draw wa))
  rw [hw4]
  clear hw4
  refine Reg.tG ?_
  go_wp2_with (go_at_call 44; refine Stop.out ?_)
  refine ⟨(l1Below_calls _ w4 q (hC3'.out.next hS4.out) 5 (by omega) (by omega)).mono ?_⟩
  rintro e w5 ⟨v, rfl, ⟨y, rfl, hy⟩, hC5, hE5⟩
  obtain ⟨j, rfl⟩ := Int.eq_ofNat_of_zero_le hy.1
  have hj := Aside0.mk (show j < 5 by omega)
  have hC5' := Aside0.mk hC5
  have hE5' := Aside0.mk ((Ex.of_on (S := fun b => b = q) hS4.out).trans hE5 fun _ _ h => h)
  have hb5 := Aside0.mk (blk_ex hE5 hl54.out (by have := hq.out; have := hg3.out; omega))
  clear hC5 hE5 hy
  go_wp2
  refine ⟨hb5.out, ?_⟩
  refine Reg.tG ?_
  go_wp2_with (go_at_call 43; refine Stop.out ?_)
  refine ⟨(l4Fact_calls _ w5 q hC5'.out j hj.out 2 (by omega) (by omega)).mono ?_⟩
  rintro e w6 ⟨v, rfl, ⟨g, hO, hf1, hf2⟩, hC6, hE6⟩
  obtain ⟨r2, A2, n2, c2, rfl⟩ := hO.read.shape
  have hG6 := Aside0.mk (hO.rs (S := fun b => b < w1.heap.size) fun b hb => by have := hE3'.out.size; have := hE5'.out.size; omega)
  have hgf' := Aside0.mk (show g.2.length ≤ 3 by rw [hf2]; have := arN_in j; omega)
  have hE6' := Aside0.mk (hE5'.out.trans hE6 fun _ _ h => h)
  have hi6 := Aside0.mk (blk_ex hE6'.out hi3.out (by have := hq.out; omega))
  have hr6 := Aside0.mk (blk_ex hE6'.out hr3.out (by have := hq.out; omega))
  have hb6 := Aside0.mk (blk_ex hE6 hb5.out (by have := hq.out; have := hg3.out; omega))
  clear hC6 hE6 hO hf1 hf2
  go_wp2
  refine ⟨hb6.out, ?_⟩
  refine Reg.tG ?_
  have hd0 := blk_cell hi6.out
  have hf0 := blk_frozen hi6.out
  go_wp2
  have hq1 := hq.out
  have hq2 := hg3.out
  obtain ⟨X, hX⟩ : ∃ X, (w6.setCell ⟨w.heap.size, 0, none⟩ (.int .i64 r1)).setCell ⟨w.heap.size, 1, none⟩ (.slice A1 n1 c1) = X := ⟨_, rfl⟩
  have EX := Aside0.mk (show Ex (fun b => b = w.heap.size) w6 X from hX ▸ (Ex.set w6 ⟨w.heap.size, 0, none⟩ (.int .i64 r1)).trans (Ex.set _ ⟨w.heap.size, 1, none⟩ (.slice A1 n1 c1)) (fun _ _ h => h))
  have hiX := Aside0.mk (show X.heap[w.heap.size]? = some (.cells #[.int .i64 r1, .slice A1 n1 c1] 30 (0, 0)) from hX ▸ blk_set (blk_set hi6.out 0 _) 1 _)
  have hrX := Aside0.mk (blk_ex EX.out hr6.out (by omega))
  have hbX := Aside0.mk (blk_ex EX.out hb6.out (by omega))
  rw [hX]
  clear hX hd0 hf0
  refine ⟨hbX.out, ?_⟩
  refine Reg.tE ?_
  have hd0 := blk_cell hrX.out
  have hf0 := blk_frozen hrX.out
  go_wp2
  have EY := (Ex.set X ⟨w.heap.size + 1, 0, none⟩ (.int .i64 r2)).trans (Ex.set _ ⟨w.heap.size + 1, 1, none⟩ (.slice A2 n2 c2)) (fun _ _ h => h)
  refine bodyPost_ret (retFF rfl rfl rfl (g := w.heap.size) (g' := w.heap.size + 1) (blk_ex EY hiX.out (fun e => by have e' : w.heap.size = w.heap.size + 1 := e; omega)) (blk_set (blk_set hrX.out 0 _) 1 _) rfl rfl) rfl ?_
  have EZ := (EX.out.mono (S' := fun b => b = w.heap.size ∨ b = w.heap.size + 1) fun _ h => .inl h).trans EY (fun i hi h => .inr h)
  have hO6 : On w w6 := Ex.on hb1'.out (hE3'.out.trans hE6'.out fun _ _ h => h) (fun i e => by omega)
  exact ⟨_, rfl, _, _, f, g, rfl, hF3.out _ ((hE6'.out.mono fun b h => by omega).trans (EZ.mono fun b h => by omega) fun _ _ h => h), hG6.out _ (EZ.mono fun b h => by omega), hf3'.out, hgf'.out, Ex.on hO6 EZ (fun i e => by omega)⟩
end Go.Proofs.YtngjhblbpapjeaaGreat.H
/- Walk: spec.EqualInstances. No condition. -/
namespace Go.Proofs.YtngjhblbpapjeaaGreat.H
open Go Go.RowKit Go.Proofs.YtngjhblbpapjeaaGreatW.PrintWords Go.Proofs.YtngjhblbpapjeaaGreatW.PrintLast
open Go.Proofs.YtngjhblbpapjeaaGreat.Reg (On on_draw)
set_option maxHeartbeats 4000000
set_option maxRecDepth 100000
set_option linter.unusedVariables false
set_option linter.unusedSimpArgs false

theorem take_eq_succ {fs gs : List Fct} {k : Nat} (h1 : k < fs.length) (h2 : k < gs.length) (h : fs.take k = gs.take k) (he : fs[k] = gs[k]) : fs.take (k + 1) = gs.take (k + 1) := by
  rw [List.take_succ_eq_append_getElem h1, List.take_succ_eq_append_getElem h2, h, he]
theorem EqualInstances_calls (w : World) (A0 c0 A1 c1) (rs : List Rel) (fs : List Fct) (h0 : Rels w A0 c0 rs) (h1 : Fcts w A1 c1 fs) (A2 c2 A3 c3) (qs : List Rel) (gs : List Fct) (h2 : Rels w A2 c2 qs) (h3 : Fcts w A3 c3 gs) :
    Calls Tryz.prog 11 #[.agg #[.slice A0 rs.length c0, .slice A1 fs.length c1], .agg #[.slice A2 qs.length c2, .slice A3 gs.length c3]] w fun e w' => e = .returned (.bool (decide (rs = qs) && decide (fs = gs))) ∧ On w w' := by
  have hb := Aside0.mk (On.alloc (On.alloc (On.refl w) (.cells #[.slice A0 rs.length c0, .slice A1 fs.length c1] 27)) (.cells #[.slice A2 qs.length c2, .slice A3 gs.length c3] 27))
  have hL := Aside0.mk (loc2 w #[.slice A0 rs.length c0, .slice A1 fs.length c1] #[.slice A2 qs.length c2, .slice A3 gs.length c3] 27 27)
  cases he : decide (rs = qs) with
  | false =>
    have he' := Aside0.mk he
    clear he
    go_enter Tryz.func11, Tryz.ntmps11
    go_wp2_with (go_at_call 45; refine (l5Sigs_calls _ A0 c0 A2 c2 rs qs (h0.on hb.out) (h2.on hb.out)).mono ?_; rintro e w1 ⟨rfl, hb1⟩; rw [he'.out])
    go_ret
    exact ⟨ret_bool (by rw [Bool.false_and]), hb.out.trans hb1⟩
  | true =>
    have he' := Aside0.mk he
    clear he
    by_cases hl : fs.length = gs.length
    · have hl' := Aside0.mk hl
      have hlb : ((fs.length : Int) == (gs.length : Int)) = true := by simp [hl]
      have hlc : ((fs.length : Int) != (gs.length : Int)) = false := by simp [bne, hlb]
      have hld : (fs.length == gs.length) = true := by simp [hl]
      clear hl
      go_enter Tryz.func11, Tryz.ntmps11
      go_wp2_with (go_at_call 45; refine (l5Sigs_calls _ A0 c0 A2 c2 rs qs (h0.on hb.out) (h2.on hb.out)).mono ?_; rintro e w1 ⟨rfl, hb1⟩; rw [he'.out]; have hd := blk_cell (Loc.on hb1 hL.out).1; have hdx := blk_cell (Loc.on hb1 hL.out).2.1)
      clear hlb hlc hld hd hdx
      have hW1 := Aside0.mk (hb.out.trans hb1)
      have hL1 := Aside0.mk (Loc.on hb1 hL.out)
      clear hb1
      go_loopw [5] (fun v5 wr => ∃ (k : Nat), v5 = .int .i64 k ∧ k ≤ fs.length ∧ Aside0 (fs.take k = gs.take k) ∧ Aside0 (On w1 wr)) (fun v5 _ => fs.length - (intOf v5).toNat)
      case atStart => exact ⟨0, rfl, Nat.zero_le _, ⟨rfl⟩, ⟨On.refl _⟩⟩
      case round =>
        obtain ⟨k, rfl, hk, hall, hB⟩ := hrel
        have hBw := Aside0.mk (hW1.out.trans hB.out)
        have hLr := Aside0.mk (Loc.on hB.out hL1.out)
        have hd0 := blk_cell hLr.out.1
        have hd1 := blk_cell hLr.out.2.1
        by_cases hlt : k < fs.length
        · have hlt2 : k < gs.length := by have := hl'.out; omega
          obtain ⟨ad, B3, e3, hA1, x0, x1, x2⟩ := (h1.on hBw.out).at k hlt
          obtain ⟨bd, B4, e4, hA3, y0, y1, y2⟩ := (h3.on hBw.out).at k hlt2
          subst hA1 hA3
          have x2' := Aside0.mk x2
          have y2' := Aside0.mk y2
          have hB' := hB
          clear x2 y2
          by_cases hc : cmpF fs[k] gs[k] = 0
          · as_aux_lemma =>
              have hc' := Aside0.mk hc
              have hc1 : (cmpF fs[k] gs[k] != 0) = false := by simp [hc]
              have hc2 : (cmpF fs[k] gs[k] == 0) = true := by simp [hc]
              clear hc
              go_wp2
              refine Reg.region [(0,.L),(1,.L),(2,.L),(3,.L),(4,.L),(5,.L),(6,.L),(7,.L),(8,.L),(9,.L),(10,.C),(11,.L)] [] (by kernel_rfl) (by kernel_rfl) ?_
              repeat first | refine sP ?_ | refine sS ?_ | refine sA ?_ | refine sL ?_ | refine sQ ?_ | refine sO ?_
              refine callC (.int .i64 (cmpF fs[k] gs[k])) Tryz.func13 (fun w' hS => ?_) ?_
              focus exact CompareFacts_calls w' _ _ _ _ fs[k] gs[k] (x2'.out.on hS) (y2'.out.on hS)
              repeat first | refine sP ?_ | refine sS ?_ | refine sA ?_ | refine sL ?_ | refine sQ ?_ | refine sO ?_
              refine Reg.nil fun w2 hS => ?_
              clear x0 x1 y0 y1 hd0 hd1
              go_wp2
              have hwk : wrap64 ((k : Int) + 1) = ((k + 1 : Nat) : Int) := by rw [IntWalk.wrap64_in _ (by have := h1.max; omega)]; omega
              exact ⟨⟨k + 1, by rw [hwk], by omega, ⟨take_eq_succ hlt hlt2 hall.out ((cmpF_eq _ _).1 hc'.out)⟩, ⟨hB.out.trans hS⟩⟩, by rw [hwk]; simp [intOf]; omega⟩
          · as_aux_lemma =>
              have hc1 : (cmpF fs[k] gs[k] != 0) = true := by simp [hc]
              have hc2 : (cmpF fs[k] gs[k] == 0) = false := by simp [hc]
              have hne := Aside0.mk (show ¬ fs = gs from fun e => by subst e; exact hc (cmpF_self _))
              clear hc
              go_wp2
              refine Reg.region [(0,.L),(1,.L),(2,.L),(3,.L),(4,.L),(5,.L),(6,.L),(7,.L),(8,.L),(9,.L),(10,.C),(11,.L)] [] (by kernel_rfl) (by kernel_rfl) ?_
              repeat first | refine sP ?_ | refine sS ?_ | refine sA ?_ | refine sL ?_ | refine sQ ?_ | refine sO ?_
              refine callC (.int .i64 (cmpF fs[k] gs[k])) Tryz.func13 (fun w' hS => ?_) ?_
              focus exact CompareFacts_calls w' _ _ _ _ fs[k] gs[k] (x2'.out.on hS) (y2'.out.on hS)
              repeat first | refine sP ?_ | refine sS ?_ | refine sA ?_ | refine sL ?_ | refine sQ ?_ | refine sO ?_
              refine Reg.nil fun w2 hS => ?_
              clear x0 x1 y0 y1 hd0 hd1
              go_wp2
              go_ret
              exact ⟨ret_bool (by rw [decide_eq_false hne.out, Bool.and_false]), hBw.out.trans hS⟩
        · have hge := Aside0.mk (show fs = gs by
            have := hall.out
            rw [List.take_of_length_le (by omega), List.take_of_length_le (by have := hl'.out; omega)] at this
            exact this)
          go_wp2
          go_ret
          exact ⟨ret_bool (by rw [decide_eq_true hge.out]; rfl), hBw.out⟩
    · have hlb : ((fs.length : Int) == (gs.length : Int)) = false := by simp; omega
      have hlc : ((fs.length : Int) != (gs.length : Int)) = true := by simp [bne, hlb]
      have hld : (fs.length == gs.length) = false := by simp [hl]
      have hne := Aside0.mk (show ¬ fs = gs from fun e => hl (congrArg _ e))
      clear hl
      go_enter Tryz.func11, Tryz.ntmps11
      go_wp2_with (go_at_call 45; refine (l5Sigs_calls _ A0 c0 A2 c2 rs qs (h0.on hb.out) (h2.on hb.out)).mono ?_; rintro e w1 ⟨rfl, hb1⟩; rw [he'.out]; have hd := blk_cell (Loc.on hb1 hL.out).1; have hdx := blk_cell (Loc.on hb1 hL.out).2.1)
      go_ret
      exact ⟨ret_bool (by rw [decide_eq_false hne.out, Bool.and_false]), hb.out.trans hb1⟩
end Go.Proofs.YtngjhblbpapjeaaGreat.H
