/- From an argument that reads as data to what the printed words say of its cells: kind by kind; of whatever program. -/
import Derived.Test.YtgemaohdlibboaaGreatDoorWWords
import Derived.Lib.SmallJoins
import Derived.SizedLaws
namespace Go.Proofs.YtgemaohdlibboaaGreatDoor.Opens
open Go.ChangeShapes Go.WideShapes Go.RowKit Go.Deep Go.Proofs.YtgemaohdlibboaaGreatDoorW.PrintWords

/-- Whatever reads as a datum of type t holds a value of the kind d, of which G is true. -/
def Opens (P : Program) {α : Type} (d : Kd α) (t : TypeId) (G : α → Prop) : Prop :=
  P.cellsOf t = d.sz ∧ ∀ {H : Type} (enc : TypeId × Value → H) (w : World) (fuel : Nat) (cs : List Value) (x : DataW H × List MemPlace),
    DataW.trod enc P w 0 (fun _ => true) true fuel t cs = some x → ∃ a : α, d.K w a cs ∧ G a

def GI (n : Int) : Prop := -9223372036854775808 ≤ n ∧ n ≤ 9223372036854775807
def GU (n : Int) : Prop := 0 ≤ n ∧ n ≤ 255
def GB (_ : Bool) : Prop := True
def GS (s : ByteArray) : Prop := s.size ≤ 9223372036854775807
def GL {α : Type} (G : α → Prop) (l : List α) : Prop := l.length ≤ 9223372036854775807 ∧ ∀ x ∈ l, G x
def GP {α β : Type} (G : α → Prop) (G' : β → Prop) (p : α × β) : Prop := G p.1 ∧ G' p.2

theorem opens_int {P : Program} {t : TypeId} (hu : P.underlying t = some (.int .i64)) (hc : P.cellsOf t = 1) : Opens P (Kd.int .i64) t GI := by
  refine ⟨hc, fun enc w fuel cs x h => ?_⟩
  obtain ⟨n, rfl, _, hw⟩ := DataW.trod_int hu h
  refine ⟨n, rfl, ?_⟩
  simp [Lit.wf, IntKind.min, IntKind.max, IntKind.signed, IntKind.bits] at hw
  unfold GI
  omega
theorem opens_u8 {P : Program} {t : TypeId} (hu : P.underlying t = some (.int .u8)) (hc : P.cellsOf t = 1) : Opens P (Kd.int .u8) t GU := by
  refine ⟨hc, fun enc w fuel cs x h => ?_⟩
  obtain ⟨n, rfl, _, hw⟩ := DataW.trod_int hu h
  refine ⟨n, rfl, ?_⟩
  simp [Lit.wf, IntKind.min, IntKind.max, IntKind.signed, IntKind.bits] at hw
  unfold GU
  omega
theorem opens_bool {P : Program} {t : TypeId} (hu : P.underlying t = some .bool) (hc : P.cellsOf t = 1) : Opens P Kd.bool t GB := by
  refine ⟨hc, fun enc w fuel cs x h => ?_⟩
  obtain ⟨b, rfl, _⟩ := DataW.trod_bool hu h
  exact ⟨b, rfl, trivial⟩
theorem opens_string {P : Program} {t : TypeId} (hu : P.underlying t = some .string) (hc : P.cellsOf t = 1) : Opens P Kd.string t GS := by
  refine ⟨hc, fun enc w fuel cs x h => ?_⟩
  obtain ⟨s, rfl, _, hs⟩ := DataW.trod_string hu h
  exact ⟨s, rfl, hs⟩
theorem opens_slice {P : Program} {α : Type} {d : Kd α} {t e : TypeId} {G : α → Prop} (hu : P.underlying t = some (.slice e)) (hc : P.cellsOf t = 1) (z : α) (h : Opens P d e G) : Opens P (Kd.slice e d) t (GL G) := by
  obtain ⟨hs, h⟩ := h
  refine ⟨hc, fun enc w fuel cs x hx => ?_⟩
  rcases Go.Deep.open_slice hu hx with ⟨rfl, _⟩ | ⟨a, len, cap, m, n, D, Pl, rfl, _, hl, hm, rfl, _, hel⟩
  · exact ⟨[], ⟨none, 0, rfl, Nat.le_refl _, Kd.C_nil d w⟩, by simp, by simp⟩
  · haveI : Inhabited α := ⟨z⟩
    unfold maxLen at hm
    obtain ⟨f, hf⟩ := Go.Deep.choose_lt (n := len) (p := fun i (x : α) => (∃ c, c.length = d.sz ∧ d.K w x c ∧ ∀ j u, c[j]? = some u → w.cell? (a.add (i * d.sz + j)) = some u) ∧ G x) (fun i hi => by
      obtain ⟨cs', h1, h2⟩ := hel i (by omega)
      obtain ⟨x, hK, hG⟩ := h enc w n cs' _ h2
      obtain ⟨_, hlen, hcell⟩ := World.cells?_some h1
      refine ⟨x, ⟨cs', by rw [hlen, hs], hK, fun j u hj => ?_⟩, hG⟩
      have hjl : j < P.cellsOf e := by
        have := (List.getElem?_eq_some_iff.1 hj).1
        omega
      have := hcell j hjl
      rw [hj, hs, Addr.add_add] at this
      exact this)
    refine ⟨(List.range len).map f, ⟨some a, m, by simp, by simpa using hl, by simp, by simp; omega, fun hpos => ⟨a, rfl, fun j p hj => ?_⟩⟩, by simp; omega, fun x hx => ?_⟩
    · rw [List.getElem?_map] at hj
      obtain ⟨i, hi, rfl⟩ := Option.map_eq_some_iff.1 hj
      rw [List.getElem?_eq_some_iff] at hi
      obtain ⟨hj1, hj2⟩ := hi
      simp at hj1 hj2
      subst hj2
      exact (hf j hj1).1
    · obtain ⟨i, hi, rfl⟩ := List.mem_map.1 hx
      exact (hf i (by simpa using hi)).2
theorem opens_pair2 {P : Program} {α β : Type} {d0 : Kd α} {d1 : Kd β} {t : TypeId} {f0 f1 : Field} {G0 : α → Prop} {G1 : β → Prop} (hu : P.underlying t = some (.struct #[f0, f1])) (hone : oneCellFields P #[f0, f1] = true) (hc : P.cellsOf t = 2)
    (h0 : Opens P d0 f0.type G0) (h1 : Opens P d1 f1.type G1) : Opens P (Kd.pair d0 d1) t (GP G0 G1) := by
  obtain ⟨o0, k0⟩ := hone_of hone 0 f0 rfl
  obtain ⟨o1, k1⟩ := hone_of hone 1 f1 rfl
  refine ⟨by rw [hc]; show 2 = d0.sz + d1.sz; rw [← h0.1, ← h1.1, k0, k1], fun enc w fuel cs x h => ?_⟩
  obtain ⟨y0, y1, n, _, hl, e0, e1⟩ := trod_struct2 hu h
  rw [hc] at hl
  match cs, hl with
  | [c0, c1], _ =>
    simp only [o0, o1, k0, k1, List.drop_zero, List.drop_succ_cons, List.take_succ_cons, List.take_zero] at e0 e1
    obtain ⟨a0, K0, g0⟩ := h0.2 enc w n _ _ e0
    obtain ⟨a1, K1, g1⟩ := h1.2 enc w n _ _ e1
    exact ⟨(a0, a1), ⟨[c0], [c1], rfl, K0, K1⟩, g0, g1⟩
theorem opens_pair3 {P : Program} {α β γ : Type} {d0 : Kd α} {d1 : Kd β} {d2 : Kd γ} {t : TypeId} {f0 f1 f2 : Field} {G0 : α → Prop} {G1 : β → Prop} {G2 : γ → Prop} (hu : P.underlying t = some (.struct #[f0, f1, f2])) (hone : oneCellFields P #[f0, f1, f2] = true) (hc : P.cellsOf t = 3)
    (h0 : Opens P d0 f0.type G0) (h1 : Opens P d1 f1.type G1) (h2 : Opens P d2 f2.type G2) : Opens P (Kd.pair d0 (Kd.pair d1 d2)) t (GP G0 (GP G1 G2)) := by
  obtain ⟨o0, k0⟩ := hone_of hone 0 f0 rfl
  obtain ⟨o1, k1⟩ := hone_of hone 1 f1 rfl
  obtain ⟨o2, k2⟩ := hone_of hone 2 f2 rfl
  refine ⟨by rw [hc]; show 3 = d0.sz + (d1.sz + d2.sz); rw [← h0.1, ← h1.1, ← h2.1, k0, k1, k2], fun enc w fuel cs x h => ?_⟩
  obtain ⟨y0, y1, y2, n, _, hl, e0, e1, e2⟩ := trod_struct3 hu h
  rw [hc] at hl
  match cs, hl with
  | [c0, c1, c2], _ =>
    simp only [o0, o1, o2, k0, k1, k2, List.drop_zero, List.drop_succ_cons, List.take_succ_cons, List.take_zero] at e0 e1 e2
    obtain ⟨a0, K0, g0⟩ := h0.2 enc w n _ _ e0
    obtain ⟨a1, K1, g1⟩ := h1.2 enc w n _ _ e1
    obtain ⟨a2, K2, g2⟩ := h2.2 enc w n _ _ e2
    exact ⟨(a0, a1, a2), ⟨[c0], [c1, c2], rfl, K0, ⟨[c1], [c2], rfl, K1, K2⟩⟩, g0, g1, g2⟩
theorem opens_iso {P : Program} {α β : Type} {d : Kd α} {t : TypeId} {G : α → Prop} (f : β → α) (g : α → β) (hfg : ∀ a, f (g a) = a) (h : Opens P d t G) : Opens P (Kd.iso d f) t (fun x => G (f x)) := by
  refine ⟨h.1, fun enc w fuel cs x hx => ?_⟩
  obtain ⟨a, K, g'⟩ := h.2 enc w fuel cs x hx
  exact ⟨g a, by show d.K w (f (g a)) cs; rw [hfg]; exact K, by show G (f (g a)); rw [hfg]; exact g'⟩
theorem Opens.at {P : Program} {α : Type} {d : Kd α} {t : TypeId} {G : α → Prop} (o : Opens P d t G) {H : Type} {enc : TypeId × Value → H} {w : World} {v : Value} {x : DataW H} {p : List MemPlace}
    (h : DataW.Trod enc P w 0 (fun _ => true) true t v x p) : ∃ a : α, d.K w a v.cells.toList ∧ G a := by
  obtain ⟨fuel, h⟩ := h
  exact o.2 enc w fuel _ _ h
end Go.Proofs.YtgemaohdlibboaaGreatDoor.Opens
