-- Written by a program of this session: the kit's printer, turned by wip/mkprint.py.
import Derived.Test.YtjphbdnfbkfgiaaDoorPFnEncodingsx0
import Derived.Test.YtjphbdnfbkfgiaaDoorPFnEncodingsx1
import Derived.Test.YtjphbdnfbkfgiaaDoorPFnEncodingsx2
import Derived.Test.YtjphbdnfbkfgiaaDoorPFnEncodingsx3
import Derived.Test.YtjphbdnfbkfgiaaDoorPFnEncodingsx4
namespace Go.Proofs.YtjphbdnfbkfgiaaDoor.PFnEncodings
open Go.RowKit Go.Proofs.YtjphbdnfbkfgiaaDoorW.PrintWords Go.Proofs.YtjphbdnfbkfgiaaDoorW.PrintLast Go.Proofs.YtjphbdnfbkfgiaaDoorW.PrintMore
attribute [local go_sem] max2_int min2_int max_two min_two max_three min_three max_four min_four   -- for this text's walks alone
set_option linter.unusedVariables false
set_option linter.unusedSimpArgs false

/-! ### laws_FnEncodings: function 7 -/
mutual
def laws_FnEncodings.j0 : Nat → List Int → Int → ByteArray → Bool → Option (Bool)
 | 0, _, _, _, _ => none
 | k + 1, x0, x3, x4, x55 => if x55 = true then (some false) else ((impl_EncodeFixed.f k x3 7).bind fun t276 => (if t276.size + x4.size ≤ 9223372036854775807 then ((impl_DecodeFixed.f k (t276 ++ x4) 7).bind fun bt277 => (if t276.toList = ([] : List UInt8) then (if x3 < 0 then (laws_FnEncodings.j1 k x0 x3 x4 false) else (if x3 ≥ 72057594037927936 then (laws_FnEncodings.j1 k x0 x3 x4 false) else (laws_FnEncodings.j1 k x0 x3 x4 true))) else (if bt277.2 = true then (if bt277.1 = x3 then (if (t276.size : Int) = 7 then (if x3 < 0 then (laws_FnEncodings.j1 k x0 x3 x4 true) else (if x3 ≥ 72057594037927936 then (laws_FnEncodings.j1 k x0 x3 x4 true) else (laws_FnEncodings.j1 k x0 x3 x4 false))) else (laws_FnEncodings.j1 k x0 x3 x4 true)) else (laws_FnEncodings.j1 k x0 x3 x4 true)) else (laws_FnEncodings.j1 k x0 x3 x4 true)))) else (none)))
def laws_FnEncodings.j1 : Nat → List Int → Int → ByteArray → Bool → Option (Bool)
 | 0, _, _, _, _ => none
 | k + 1, x0, x3, x4, x91 => if x91 = true then (some false) else ((impl_FormatInt.f x3).bind fun t279 => ((impl_ParseInt.f k t279).bind fun bt280 => (if x3 > (-1000000000) then (if x3 < 1000000000 then (if (bt280.2 != true) = true then (laws_FnEncodings.j2 k x0 x4 true) else (if bt280.2 = true then (laws_FnEncodings.j2 k x0 x4 (bt280.1 != x3)) else (laws_FnEncodings.j2 k x0 x4 false))) else (if (bt280.2 != false) = true then (laws_FnEncodings.j2 k x0 x4 true) else (if bt280.2 = true then (laws_FnEncodings.j2 k x0 x4 (bt280.1 != x3)) else (laws_FnEncodings.j2 k x0 x4 false)))) else (if (bt280.2 != false) = true then (laws_FnEncodings.j2 k x0 x4 true) else (if bt280.2 = true then (laws_FnEncodings.j2 k x0 x4 (bt280.1 != x3)) else (laws_FnEncodings.j2 k x0 x4 false))))))
def laws_FnEncodings.j2 : Nat → List Int → ByteArray → Bool → Option (Bool)
 | 0, _, _, _ => none
 | k + 1, x0, x4, x113 => if x113 = true then (some false) else ((impl_EncodeHex.f k x4).bind fun t282 => ((impl_DecodeHex.f k t282).bind fun bt283 => ((spec_DrawDecodeVarint.f k x0).bind fun t285 => ((impl_DecodeVarint.f k t285).bind fun bt286 => (if bt283.2 = true then (if bt283.1.toList = x4.toList then (if bt286.2 = 0 then (some true) else (if bt286.2 > 0 then (if bt286.2 ≤ (t285.size : Int) then ((impl_EncodeVarint.f k bt286.1).bind fun t288 => (if 0 ≤ bt286.2 then (some (t288.toList == (t285.extract 0 (bt286.2 : Int).toNat).toList)) else (none))) else (some false)) else (some false))) else (some false)) else (some false))))))
end
def laws_FnEncodings.f (k : Nat) (l0 : List Int) : Option (Bool) := (laws_big.f l0).bind fun t270 => (if t270 = true then (some true) else ((spec_DrawEncodeVarint.f k l0).bind fun t271 => ((spec_DrawEncodeHex.f k l0).bind fun t272 => ((impl_EncodeVarint.f k t271).bind fun t273 => (if t273.size + t272.size ≤ 9223372036854775807 then ((impl_DecodeVarint.f k (t273 ++ t272)).bind fun bt274 => (if t271 ≥ 0 then (if t273.toList = ([] : List UInt8) then (if t271 ≤ 562949953421311 then (laws_FnEncodings.j0 k l0 t271 t272 true) else (laws_FnEncodings.j0 k l0 t271 t272 false)) else (if t271 ≤ 562949953421311 then (if bt274.1 = t271 then (laws_FnEncodings.j0 k l0 t271 t272 (bt274.2 != (t273.size : Int))) else (laws_FnEncodings.j0 k l0 t271 t272 true)) else (laws_FnEncodings.j0 k l0 t271 t272 true))) else (if t273.toList = ([] : List UInt8) then (laws_FnEncodings.j0 k l0 t271 t272 false) else (laws_FnEncodings.j0 k l0 t271 t272 true)))) else (none))))))
theorem laws_FnEncodings.mono_l : ∀ k, (∀ y0 y1 y2 y3, LeO (laws_FnEncodings.j0 k y0 y1 y2 y3) (laws_FnEncodings.j0 (k + 1) y0 y1 y2 y3)) ∧ (∀ y0 y1 y2 y3, LeO (laws_FnEncodings.j1 k y0 y1 y2 y3) (laws_FnEncodings.j1 (k + 1) y0 y1 y2 y3)) ∧ (∀ y0 y1 y2, LeO (laws_FnEncodings.j2 k y0 y1 y2) (laws_FnEncodings.j2 (k + 1) y0 y1 y2))
 | 0 => ⟨fun _ _ _ _ r h => by simp [laws_FnEncodings.j0] at h, fun _ _ _ _ r h => by simp [laws_FnEncodings.j1] at h, fun _ _ _ r h => by simp [laws_FnEncodings.j2] at h⟩
 | k + 1 => by
  obtain ⟨ih0, ih1, ih2⟩ := laws_FnEncodings.mono_l k
  refine ⟨?_, ?_, ?_⟩
  ·intro y0 y1 y2 y3
   unfold laws_FnEncodings.j0
   repeat' first
   | (with_reducible exact ih0 _ _ _ _)
   | (with_reducible exact ih1 _ _ _ _)
   | (with_reducible exact ih2 _ _ _)
   | (with_reducible exact impl_DecodeFixed.mono _ _ _)
   | (with_reducible exact impl_DecodeHex.mono _ _)
   | (with_reducible exact impl_DecodeVarint.mono _ _)
   | (with_reducible exact impl_EncodeFixed.mono _ _ _)
   | (with_reducible exact impl_EncodeHex.mono _ _)
   | (with_reducible exact impl_EncodeVarint.mono _ _)
   | (with_reducible exact impl_ParseInt.mono _ _)
   | (with_reducible exact spec_DrawDecodeVarint.mono _ _)
   | (with_reducible exact spec_DrawEncodeHex.mono _ _)
   | (with_reducible exact spec_DrawEncodeVarint.mono _ _)
   | (with_reducible exact LeO.refl _)
   | (with_reducible exact LeO.none _)
   | (with_reducible refine LeO.ite ?_ ?_)
   | (with_reducible refine LeO.bind ?_ (fun _ => ?_))
   | exact ih0 _ _ _ _
   | exact ih1 _ _ _ _
   | exact ih2 _ _ _
   | exact impl_DecodeFixed.mono _ _ _
   | exact impl_DecodeHex.mono _ _
   | exact impl_DecodeVarint.mono _ _
   | exact impl_EncodeFixed.mono _ _ _
   | exact impl_EncodeHex.mono _ _
   | exact impl_EncodeVarint.mono _ _
   | exact impl_ParseInt.mono _ _
   | exact spec_DrawDecodeVarint.mono _ _
   | exact spec_DrawEncodeHex.mono _ _
   | exact spec_DrawEncodeVarint.mono _ _
   | exact LeO.none _
   | refine LeO.ite ?_ ?_
   | refine LeO.bind ?_ (fun _ => ?_)
  ·intro y0 y1 y2 y3
   unfold laws_FnEncodings.j1
   repeat' first
   | (with_reducible exact ih0 _ _ _ _)
   | (with_reducible exact ih1 _ _ _ _)
   | (with_reducible exact ih2 _ _ _)
   | (with_reducible exact impl_DecodeFixed.mono _ _ _)
   | (with_reducible exact impl_DecodeHex.mono _ _)
   | (with_reducible exact impl_DecodeVarint.mono _ _)
   | (with_reducible exact impl_EncodeFixed.mono _ _ _)
   | (with_reducible exact impl_EncodeHex.mono _ _)
   | (with_reducible exact impl_EncodeVarint.mono _ _)
   | (with_reducible exact impl_ParseInt.mono _ _)
   | (with_reducible exact spec_DrawDecodeVarint.mono _ _)
   | (with_reducible exact spec_DrawEncodeHex.mono _ _)
   | (with_reducible exact spec_DrawEncodeVarint.mono _ _)
   | (with_reducible exact LeO.refl _)
   | (with_reducible exact LeO.none _)
   | (with_reducible refine LeO.ite ?_ ?_)
   | (with_reducible refine LeO.bind ?_ (fun _ => ?_))
   | exact ih0 _ _ _ _
   | exact ih1 _ _ _ _
   | exact ih2 _ _ _
   | exact impl_DecodeFixed.mono _ _ _
   | exact impl_DecodeHex.mono _ _
   | exact impl_DecodeVarint.mono _ _
   | exact impl_EncodeFixed.mono _ _ _
   | exact impl_EncodeHex.mono _ _
   | exact impl_EncodeVarint.mono _ _
   | exact impl_ParseInt.mono _ _
   | exact spec_DrawDecodeVarint.mono _ _
   | exact spec_DrawEncodeHex.mono _ _
   | exact spec_DrawEncodeVarint.mono _ _
   | exact LeO.none _
   | refine LeO.ite ?_ ?_
   | refine LeO.bind ?_ (fun _ => ?_)
  ·intro y0 y1 y2
   unfold laws_FnEncodings.j2
   repeat' first
   | (with_reducible exact ih0 _ _ _ _)
   | (with_reducible exact ih1 _ _ _ _)
   | (with_reducible exact ih2 _ _ _)
   | (with_reducible exact impl_DecodeFixed.mono _ _ _)
   | (with_reducible exact impl_DecodeHex.mono _ _)
   | (with_reducible exact impl_DecodeVarint.mono _ _)
   | (with_reducible exact impl_EncodeFixed.mono _ _ _)
   | (with_reducible exact impl_EncodeHex.mono _ _)
   | (with_reducible exact impl_EncodeVarint.mono _ _)
   | (with_reducible exact impl_ParseInt.mono _ _)
   | (with_reducible exact spec_DrawDecodeVarint.mono _ _)
   | (with_reducible exact spec_DrawEncodeHex.mono _ _)
   | (with_reducible exact spec_DrawEncodeVarint.mono _ _)
   | (with_reducible exact LeO.refl _)
   | (with_reducible exact LeO.none _)
   | (with_reducible refine LeO.ite ?_ ?_)
   | (with_reducible refine LeO.bind ?_ (fun _ => ?_))
   | exact ih0 _ _ _ _
   | exact ih1 _ _ _ _
   | exact ih2 _ _ _
   | exact impl_DecodeFixed.mono _ _ _
   | exact impl_DecodeHex.mono _ _
   | exact impl_DecodeVarint.mono _ _
   | exact impl_EncodeFixed.mono _ _ _
   | exact impl_EncodeHex.mono _ _
   | exact impl_EncodeVarint.mono _ _
   | exact impl_ParseInt.mono _ _
   | exact spec_DrawDecodeVarint.mono _ _
   | exact spec_DrawEncodeHex.mono _ _
   | exact spec_DrawEncodeVarint.mono _ _
   | exact LeO.none _
   | refine LeO.ite ?_ ?_
   | refine LeO.bind ?_ (fun _ => ?_)
theorem laws_FnEncodings.mono : ∀ a0 k, LeO (laws_FnEncodings.f k a0) (laws_FnEncodings.f (k + 1) a0) := by
 intro a0 k
 obtain ⟨ih0, ih1, ih2⟩ := laws_FnEncodings.mono_l k
 unfold laws_FnEncodings.f
 repeat' first
   | (with_reducible exact ih0 _ _ _ _)
   | (with_reducible exact ih1 _ _ _ _)
   | (with_reducible exact ih2 _ _ _)
   | (with_reducible exact impl_DecodeFixed.mono _ _ _)
   | (with_reducible exact impl_DecodeHex.mono _ _)
   | (with_reducible exact impl_DecodeVarint.mono _ _)
   | (with_reducible exact impl_EncodeFixed.mono _ _ _)
   | (with_reducible exact impl_EncodeHex.mono _ _)
   | (with_reducible exact impl_EncodeVarint.mono _ _)
   | (with_reducible exact impl_ParseInt.mono _ _)
   | (with_reducible exact spec_DrawDecodeVarint.mono _ _)
   | (with_reducible exact spec_DrawEncodeHex.mono _ _)
   | (with_reducible exact spec_DrawEncodeVarint.mono _ _)
   | (with_reducible exact LeO.refl _)
   | (with_reducible exact LeO.none _)
   | (with_reducible refine LeO.ite ?_ ?_)
   | (with_reducible refine LeO.bind ?_ (fun _ => ?_))
   | exact ih0 _ _ _ _
   | exact ih1 _ _ _ _
   | exact ih2 _ _ _
   | exact impl_DecodeFixed.mono _ _ _
   | exact impl_DecodeHex.mono _ _
   | exact impl_DecodeVarint.mono _ _
   | exact impl_EncodeFixed.mono _ _ _
   | exact impl_EncodeHex.mono _ _
   | exact impl_EncodeVarint.mono _ _
   | exact impl_ParseInt.mono _ _
   | exact spec_DrawDecodeVarint.mono _ _
   | exact spec_DrawEncodeHex.mono _ _
   | exact spec_DrawEncodeVarint.mono _ _
   | exact LeO.none _
   | refine LeO.ite ?_ ?_
   | refine LeO.bind ?_ (fun _ => ?_)
set_option maxHeartbeats 8000000 in
set_option maxRecDepth 100000 in
theorem laws_FnEncodings.calls (k : Nat) (A0 : Option Addr) (c0 : Nat) (l0 : List Int) (w : World) (hr0 : Kd.C (Kd.int .u8) w A0 l0.length l0) (hc0 : l0.length ≤ c0) (hT : GT w) (h : laws_FnEncodings.f k l0 = some true) :
  Calls Tryd.prog 7 #[.slice A0 l0.length c0] w fun e w' => e = .returned (.bool true) ∧ Below w.heap.size w w' := by
 have HR0 := Aside0.mk hr0
 have HC0 := Aside0.mk hc0
 clear hr0 hc0
 have HB := Aside0.mk (Below.refl w.heap.size w)
 have H : ((laws_big.f l0).bind fun t270 => (if t270 = true then (some true) else ((spec_DrawEncodeVarint.f k l0).bind fun t271 => ((spec_DrawEncodeHex.f k l0).bind fun t272 => ((impl_EncodeVarint.f k t271).bind fun t273 => (if t273.size + t272.size ≤ 9223372036854775807 then ((impl_DecodeVarint.f k (t273 ++ t272)).bind fun bt274 => (if t271 ≥ 0 then (if t273.toList = ([] : List UInt8) then (if t271 ≤ 562949953421311 then (laws_FnEncodings.j0 k l0 t271 t272 true) else (laws_FnEncodings.j0 k l0 t271 t272 false)) else (if t271 ≤ 562949953421311 then (if bt274.1 = t271 then (laws_FnEncodings.j0 k l0 t271 t272 (bt274.2 != (t273.size : Int))) else (laws_FnEncodings.j0 k l0 t271 t272 true)) else (laws_FnEncodings.j0 k l0 t271 t272 true))) else (if t273.toList = ([] : List UInt8) then (laws_FnEncodings.j0 k l0 t271 t272 false) else (laws_FnEncodings.j0 k l0 t271 t272 true)))) else (none))))))) = some true := h
 clear h
 replace H := Option.bind_eq_some_iff.mp H
 obtain ⟨t270, A20, H⟩ := H
 replace H : (if t270 = true then (some true) else ((spec_DrawEncodeVarint.f k l0).bind fun t271 => ((spec_DrawEncodeHex.f k l0).bind fun t272 => ((impl_EncodeVarint.f k t271).bind fun t273 => (if t273.size + t272.size ≤ 9223372036854775807 then ((impl_DecodeVarint.f k (t273 ++ t272)).bind fun bt274 => (if t271 ≥ 0 then (if t273.toList = ([] : List UInt8) then (if t271 ≤ 562949953421311 then (laws_FnEncodings.j0 k l0 t271 t272 true) else (laws_FnEncodings.j0 k l0 t271 t272 false)) else (if t271 ≤ 562949953421311 then (if bt274.1 = t271 then (laws_FnEncodings.j0 k l0 t271 t272 (bt274.2 != (t273.size : Int))) else (laws_FnEncodings.j0 k l0 t271 t272 true)) else (laws_FnEncodings.j0 k l0 t271 t272 true))) else (if t273.toList = ([] : List UInt8) then (laws_FnEncodings.j0 k l0 t271 t272 false) else (laws_FnEncodings.j0 k l0 t271 t272 true)))) else (none)))))) = some true := H
 have A2 := Aside0.mk A20
 clear A20
 by_cases c3 : t270 = true
 ·subst c3
  have H1 : (some true) = some true := by first | with_reducible rfl | (rw [if_pos rfl] at H; exact H)
  clear H
  have H := H1
  clear H1
  clear H
  as_aux_lemma =>
   go_enter Tryd.func7, Tryd.ntmps7
   go_wp2_with (first | (go_at_call 17; (with_reducible refine (laws_big.calls _ _ l0 true _ ?side1 ?side2 A2.out).mono ?_); (case side1 => repeat (first | exact HR0.out | (with_reducible refine Kd.C_alloc ?_ _) | (with_reducible refine Kd.C_drewN ?_ _) | (with_reducible refine Kd.C_drew ?_))); (case side2 => exact HC0.out); rintro e w' ⟨rfl, ⟨nd, rfl⟩⟩) | ((with_reducible refine gate_callee (f := 17) rfl ?_); refine zg (some 18) Tryd.func17 #[.slice A0 l0.length c0] ?_; (with_reducible refine (laws_big.calls _ _ l0 true _ ?side1 ?side2 A2.out).mono ?_); (case side1 => repeat (first | exact HR0.out | (with_reducible refine Kd.C_alloc ?_ _) | (with_reducible refine Kd.C_drewN ?_ _) | (with_reducible refine Kd.C_drew ?_))); (case side2 => exact HC0.out); rintro e w' ⟨rfl, ⟨nd, rfl⟩⟩; refine ⟨_, rfl, ?_⟩))
   go_ret
   exact ⟨by first | rfl | (simp [errW_none, errW_some] <;> rfl) | (simp [*, errW_none, errW_some] <;> rfl), zl⟩
 ·replace c3 := Bool.eq_false_iff.mpr c3
  subst c3
  have H1 : ((spec_DrawEncodeVarint.f k l0).bind fun t271 => ((spec_DrawEncodeHex.f k l0).bind fun t272 => ((impl_EncodeVarint.f k t271).bind fun t273 => (if t273.size + t272.size ≤ 9223372036854775807 then ((impl_DecodeVarint.f k (t273 ++ t272)).bind fun bt274 => (if t271 ≥ 0 then (if t273.toList = ([] : List UInt8) then (if t271 ≤ 562949953421311 then (laws_FnEncodings.j0 k l0 t271 t272 true) else (laws_FnEncodings.j0 k l0 t271 t272 false)) else (if t271 ≤ 562949953421311 then (if bt274.1 = t271 then (laws_FnEncodings.j0 k l0 t271 t272 (bt274.2 != (t273.size : Int))) else (laws_FnEncodings.j0 k l0 t271 t272 true)) else (laws_FnEncodings.j0 k l0 t271 t272 true))) else (if t273.toList = ([] : List UInt8) then (laws_FnEncodings.j0 k l0 t271 t272 false) else (laws_FnEncodings.j0 k l0 t271 t272 true)))) else (none))))) = some true := by first | with_reducible rfl | (rw [if_neg (show ¬ (false = true) by decide)] at H; exact H)
  clear H
  have H := H1
  clear H1
  replace H := Option.bind_eq_some_iff.mp H
  obtain ⟨t271, A40, H⟩ := H
  replace H : ((spec_DrawEncodeHex.f k l0).bind fun t272 => ((impl_EncodeVarint.f k t271).bind fun t273 => (if t273.size + t272.size ≤ 9223372036854775807 then ((impl_DecodeVarint.f k (t273 ++ t272)).bind fun bt274 => (if t271 ≥ 0 then (if t273.toList = ([] : List UInt8) then (if t271 ≤ 562949953421311 then (laws_FnEncodings.j0 k l0 t271 t272 true) else (laws_FnEncodings.j0 k l0 t271 t272 false)) else (if t271 ≤ 562949953421311 then (if bt274.1 = t271 then (laws_FnEncodings.j0 k l0 t271 t272 (bt274.2 != (t273.size : Int))) else (laws_FnEncodings.j0 k l0 t271 t272 true)) else (laws_FnEncodings.j0 k l0 t271 t272 true))) else (if t273.toList = ([] : List UInt8) then (laws_FnEncodings.j0 k l0 t271 t272 false) else (laws_FnEncodings.j0 k l0 t271 t272 true)))) else (none)))) = some true := H
  have A4 := Aside0.mk A40
  clear A40
  replace H := Option.bind_eq_some_iff.mp H
  obtain ⟨t272, A50, H⟩ := H
  replace H : ((impl_EncodeVarint.f k t271).bind fun t273 => (if t273.size + t272.size ≤ 9223372036854775807 then ((impl_DecodeVarint.f k (t273 ++ t272)).bind fun bt274 => (if t271 ≥ 0 then (if t273.toList = ([] : List UInt8) then (if t271 ≤ 562949953421311 then (laws_FnEncodings.j0 k l0 t271 t272 true) else (laws_FnEncodings.j0 k l0 t271 t272 false)) else (if t271 ≤ 562949953421311 then (if bt274.1 = t271 then (laws_FnEncodings.j0 k l0 t271 t272 (bt274.2 != (t273.size : Int))) else (laws_FnEncodings.j0 k l0 t271 t272 true)) else (laws_FnEncodings.j0 k l0 t271 t272 true))) else (if t273.toList = ([] : List UInt8) then (laws_FnEncodings.j0 k l0 t271 t272 false) else (laws_FnEncodings.j0 k l0 t271 t272 true)))) else (none))) = some true := H
  have A5 := Aside0.mk A50
  clear A50
  replace H := Option.bind_eq_some_iff.mp H
  obtain ⟨t273, A60, H⟩ := H
  replace H : (if t273.size + t272.size ≤ 9223372036854775807 then ((impl_DecodeVarint.f k (t273 ++ t272)).bind fun bt274 => (if t271 ≥ 0 then (if t273.toList = ([] : List UInt8) then (if t271 ≤ 562949953421311 then (laws_FnEncodings.j0 k l0 t271 t272 true) else (laws_FnEncodings.j0 k l0 t271 t272 false)) else (if t271 ≤ 562949953421311 then (if bt274.1 = t271 then (laws_FnEncodings.j0 k l0 t271 t272 (bt274.2 != (t273.size : Int))) else (laws_FnEncodings.j0 k l0 t271 t272 true)) else (laws_FnEncodings.j0 k l0 t271 t272 true))) else (if t273.toList = ([] : List UInt8) then (laws_FnEncodings.j0 k l0 t271 t272 false) else (laws_FnEncodings.j0 k l0 t271 t272 true)))) else (none)) = some true := H
  have A6 := Aside0.mk A60
  clear A60
  by_cases c7 : t273.size + t272.size ≤ 9223372036854775807
  ·rw [if_pos c7] at H
   have c7b0 := eq_true c7
   have c7b1 : decide (t273.size + t272.size ≤ 9223372036854775807) = true := decide_eq_true c7
   try have c7b2 : (9223372036854775807 < t273.size + t272.size) = False := eq_false (Nat.not_lt.2 c7)
   replace H := Option.bind_eq_some_iff.mp H
   obtain ⟨⟨t274, t275⟩, A80, H⟩ := H
   replace H : (if t271 ≥ 0 then (if t273.toList = ([] : List UInt8) then (if t271 ≤ 562949953421311 then (laws_FnEncodings.j0 k l0 t271 t272 true) else (laws_FnEncodings.j0 k l0 t271 t272 false)) else (if t271 ≤ 562949953421311 then (if t274 = t271 then (laws_FnEncodings.j0 k l0 t271 t272 (t275 != (t273.size : Int))) else (laws_FnEncodings.j0 k l0 t271 t272 true)) else (laws_FnEncodings.j0 k l0 t271 t272 true))) else (if t273.toList = ([] : List UInt8) then (laws_FnEncodings.j0 k l0 t271 t272 false) else (laws_FnEncodings.j0 k l0 t271 t272 true))) = some true := H
   have A8 := Aside0.mk A80
   clear A80
   have HC9 := Aside0.mk H
   clear H
   go_enter Tryd.func7, Tryd.ntmps7
   go_upto_region 7 with (first | (go_at_call 17; (with_reducible refine (laws_big.calls _ _ l0 false _ ?side1 ?side2 A2.out).mono ?_); (case side1 => repeat (first | exact HR0.out | (with_reducible refine Kd.C_alloc ?_ _) | (with_reducible refine Kd.C_drewN ?_ _) | (with_reducible refine Kd.C_drew ?_))); (case side2 => exact HC0.out); rintro e w' ⟨rfl, ⟨nd, rfl⟩⟩) | ((with_reducible refine gate_callee (f := 17) rfl ?_); refine zg (some 18) Tryd.func17 #[.slice A0 l0.length c0] ?_; (with_reducible refine (laws_big.calls _ _ l0 false _ ?side1 ?side2 A2.out).mono ?_); (case side1 => repeat (first | exact HR0.out | (with_reducible refine Kd.C_alloc ?_ _) | (with_reducible refine Kd.C_drewN ?_ _) | (with_reducible refine Kd.C_drew ?_))); (case side2 => exact HC0.out); rintro e w' ⟨rfl, ⟨nd, rfl⟩⟩; refine ⟨_, rfl, ?_⟩) | (go_at_call 26; (with_reducible refine (spec_DrawEncodeVarint.calls k _ _ l0 t271 _ ?side1 ?side2 A4.out).mono ?_); (case side1 => repeat (first | exact HR0.out | (with_reducible refine Kd.C_alloc ?_ _) | (with_reducible refine Kd.C_drewN ?_ _) | (with_reducible refine Kd.C_drew ?_))); (case side2 => exact HC0.out); rintro e w10 ⟨rfl, hb⟩; have n0_ := Aside0.mk (below_step zl hb); clear HB; have HB := n0_; clear n0_; (try clear hb)) | ((with_reducible refine gate_callee (f := 26) rfl ?_); refine zg (some 20) Tryd.func26 #[.slice A0 l0.length c0] ?_; (with_reducible refine (spec_DrawEncodeVarint.calls k _ _ l0 t271 _ ?side1 ?side2 A4.out).mono ?_); (case side1 => repeat (first | exact HR0.out | (with_reducible refine Kd.C_alloc ?_ _) | (with_reducible refine Kd.C_drewN ?_ _) | (with_reducible refine Kd.C_drew ?_))); (case side2 => exact HC0.out); rintro e w10 ⟨rfl, hb⟩; refine ⟨_, rfl, ?_⟩; replace HB := zm (below_step zl hb); (try clear hb)) | (go_at_call 27; (with_reducible refine (spec_DrawEncodeHex.calls k _ _ l0 t272 _ ?side1 ?side2 A5.out).mono ?_); (case side1 => exact zc HR0.out); (case side2 => exact HC0.out); rintro e w11 ⟨rfl, hb⟩; have n0_ := Aside0.mk (below_step zl hb); clear HB; have HB := n0_; clear n0_; (try clear hb)) | ((with_reducible refine gate_callee (f := 27) rfl ?_); refine zg (some 22) Tryd.func27 #[.slice A0 l0.length c0] ?_; (with_reducible refine (spec_DrawEncodeHex.calls k _ _ l0 t272 _ ?side1 ?side2 A5.out).mono ?_); (case side1 => exact zc HR0.out); (case side2 => exact HC0.out); rintro e w11 ⟨rfl, hb⟩; refine ⟨_, rfl, ?_⟩; replace HB := zm (below_step zl hb); (try clear hb)) | (go_at_call 28; (with_reducible refine (impl_EncodeVarint.calls k t271 t273 _ A6.out).mono ?_); rintro e w12 ⟨rfl, hb⟩; have n0_ := Aside0.mk (below_step zl hb); clear HB; have HB := n0_; clear n0_; (try clear hb)) | ((with_reducible refine gate_callee (f := 28) rfl ?_); refine zg (some 24) Tryd.func28 #[.int .i64 t271] ?_; (with_reducible refine (impl_EncodeVarint.calls k t271 t273 _ A6.out).mono ?_); rintro e w12 ⟨rfl, hb⟩; refine ⟨_, rfl, ?_⟩; replace HB := zm (below_step zl hb); (try clear hb)) | (go_at_call 29; (with_reducible refine (impl_DecodeVarint.calls k (t273 ++ t272) t274 t275 _ A8.out).mono ?_); rintro e w13 ⟨rfl, hb⟩; have n0_ := Aside0.mk (below_step zl hb); clear HB; have HB := n0_; clear n0_; (try clear hb)) | ((with_reducible refine gate_callee (f := 29) rfl ?_); refine zg (some 29) Tryd.func29 #[.string (t273 ++ t272)] ?_; (with_reducible refine (impl_DecodeVarint.calls k (t273 ++ t272) t274 t275 _ A8.out).mono ?_); rintro e w13 ⟨rfl, hb⟩; refine ⟨_, rfl, ?_⟩; replace HB := zm (below_step zl hb); (try clear hb)))
   (try simp only [Act.put, List.setIfInBounds_toArray, List.set_cons_zero, List.set_cons_succ])
   go_cut [55] (fun v55 wc => ∃ (kq : Nat) (x55_8 : Bool), v55 = .bool x55_8 ∧ Aside0 (laws_FnEncodings.j0 kq l0 t271 t272 x55_8 = some true) ∧ Aside0 (kq ≤ k) ∧ Aside0 (Below w.heap.size w wc))
   case first =>
    have H := HC9.out
    clear HC9
    by_cases c14 : t271 ≥ 0
    ·rw [if_pos c14] at H
     have c14b0 : decide (0 ≤ t271) = true := decide_eq_true c14
     clear c14
     (first | rw [c14b0] | (simp only [i64_w, i32_w]; rw [c14b0]) | skip)
     by_cases c15 : t273.toList = ([] : List UInt8)
     ·rw [if_pos c15] at H
      have c15b0 : (t273.toList == ([] : List UInt8)) = true := beq_iff_eq.mpr c15
      have c15b1 : (t273.toList != ([] : List UInt8)) = false := bne_eq_false_iff_eq.mpr c15
      clear c15
      by_cases c16 : t271 ≤ 562949953421311
      ·rw [if_pos c16] at H
       have c16b0 : decide (t271 ≤ 562949953421311) = true := decide_eq_true c16
       clear c16
       have H' := Aside0.mk H
       clear H
       as_aux_lemma =>
        go_wp2
        go_meet
        case rel => exact ⟨_, (true), (by first | rfl | (simp; done) | (simp [*]; done)), H', ⟨by first | omega | exact Nat.le_refl _⟩, ⟨zl⟩⟩
      ·rw [if_neg c16] at H
       have c16b0 : decide (t271 ≤ 562949953421311) = false := decide_eq_false c16
       clear c16
       have H' := Aside0.mk H
       clear H
       as_aux_lemma =>
        go_wp2
        go_meet
        case rel => exact ⟨_, (false), (by first | rfl | (simp; done) | (simp [*]; done)), H', ⟨by first | omega | exact Nat.le_refl _⟩, ⟨zl⟩⟩
     ·rw [if_neg c15] at H
      have c15b0 : (t273.toList == ([] : List UInt8)) = false := beq_eq_false_iff_ne.mpr c15
      have c15b1 : (t273.toList != ([] : List UInt8)) = true := bne_iff_ne.mpr c15
      by_cases c17 : t271 ≤ 562949953421311
      ·rw [if_pos c17] at H
       have c17b0 : decide (t271 ≤ 562949953421311) = true := decide_eq_true c17
       clear c17
       by_cases c18 : t274 = t271
       ·rw [if_pos c18] at H
        have c18b0 : (t274 == t271) = true := beq_iff_eq.mpr c18
        have c18b1 : (t274 != t271) = false := bne_eq_false_iff_eq.mpr c18
        clear c18
        have H' := Aside0.mk H
        clear H
        as_aux_lemma =>
         go_wp2
         go_meet
         case rel => exact ⟨_, ((t275 != (t273.size : Int))), (by first | rfl | (simp; done) | (simp [*]; done)), H', ⟨by first | omega | exact Nat.le_refl _⟩, ⟨zl⟩⟩
       ·rw [if_neg c18] at H
        have c18b0 : (t274 == t271) = false := beq_eq_false_iff_ne.mpr c18
        have c18b1 : (t274 != t271) = true := bne_iff_ne.mpr c18
        have H' := Aside0.mk H
        clear H
        as_aux_lemma =>
         go_wp2
         go_meet
         case rel => exact ⟨_, (true), (by first | rfl | (simp; done) | (simp [*]; done)), H', ⟨by first | omega | exact Nat.le_refl _⟩, ⟨zl⟩⟩
      ·rw [if_neg c17] at H
       have c17b0 : decide (t271 ≤ 562949953421311) = false := decide_eq_false c17
       clear c17
       have H' := Aside0.mk H
       clear H
       as_aux_lemma =>
        go_wp2
        go_meet
        case rel => exact ⟨_, (true), (by first | rfl | (simp; done) | (simp [*]; done)), H', ⟨by first | omega | exact Nat.le_refl _⟩, ⟨zl⟩⟩
    ·rw [if_neg c14] at H
     have c14b0 : decide (0 ≤ t271) = false := decide_eq_false c14
     clear c14
     (first | rw [c14b0] | (simp only [i64_w, i32_w]; rw [c14b0]) | skip)
     by_cases c19 : t273.toList = ([] : List UInt8)
     ·rw [if_pos c19] at H
      have c19b0 : (t273.toList == ([] : List UInt8)) = true := beq_iff_eq.mpr c19
      have c19b1 : (t273.toList != ([] : List UInt8)) = false := bne_eq_false_iff_eq.mpr c19
      clear c19
      have H' := Aside0.mk H
      clear H
      as_aux_lemma =>
       go_wp2
       go_meet
       case rel => exact ⟨_, (false), (by first | rfl | (simp; done) | (simp [*]; done)), H', ⟨by first | omega | exact Nat.le_refl _⟩, ⟨zl⟩⟩
     ·rw [if_neg c19] at H
      have c19b0 : (t273.toList == ([] : List UInt8)) = false := beq_eq_false_iff_ne.mpr c19
      have c19b1 : (t273.toList != ([] : List UInt8)) = true := bne_iff_ne.mpr c19
      have H' := Aside0.mk H
      clear H
      as_aux_lemma =>
       go_wp2
       go_meet
       case rel => exact ⟨_, (true), (by first | rfl | (simp; done) | (simp [*]; done)), H', ⟨by first | omega | exact Nat.le_refl _⟩, ⟨zl⟩⟩
   case rest =>
    clear HC9
    try clear c1
    try clear c2
    try clear p2
    try clear c3
    try clear c7
    try clear c7b0
    try clear c7b1
    try clear c7b2
    try clear c14
    try clear c14b0
    try clear c15
    try clear c15b0
    try clear c15b1
    try clear c16
    try clear c16b0
    try clear c17
    try clear c17b0
    try clear c18
    try clear c18b0
    try clear c18b1
    try clear c19
    try clear c19b0
    try clear c19b1
    obtain ⟨kq, x55_8, rfl, HA, HJ8, HB⟩ := hcut
    cases kq with
    | zero => exact absurd HA.out (by simp [laws_FnEncodings.j0])
    | succ kj8 =>
     have H := HA.out
     clear HA
     simp only [laws_FnEncodings.j0] at H
     by_cases c20 : x55_8 = true
     ·subst c20
      have H1 : (some false) = some true := by first | with_reducible rfl | (rw [if_pos rfl] at H; exact H)
      clear H
      have H := H1
      clear H1
      exact absurd H (by simp)
     ·replace c20 := Bool.eq_false_iff.mpr c20
      subst c20
      have H1 : ((impl_EncodeFixed.f kj8 t271 7).bind fun t276 => (if t276.size + t272.size ≤ 9223372036854775807 then ((impl_DecodeFixed.f kj8 (t276 ++ t272) 7).bind fun bt277 => (if t276.toList = ([] : List UInt8) then (if t271 < 0 then (laws_FnEncodings.j1 kj8 l0 t271 t272 false) else (if t271 ≥ 72057594037927936 then (laws_FnEncodings.j1 kj8 l0 t271 t272 false) else (laws_FnEncodings.j1 kj8 l0 t271 t272 true))) else (if bt277.2 = true then (if bt277.1 = t271 then (if (t276.size : Int) = 7 then (if t271 < 0 then (laws_FnEncodings.j1 kj8 l0 t271 t272 true) else (if t271 ≥ 72057594037927936 then (laws_FnEncodings.j1 kj8 l0 t271 t272 true) else (laws_FnEncodings.j1 kj8 l0 t271 t272 false))) else (laws_FnEncodings.j1 kj8 l0 t271 t272 true)) else (laws_FnEncodings.j1 kj8 l0 t271 t272 true)) else (laws_FnEncodings.j1 kj8 l0 t271 t272 true)))) else (none))) = some true := by first | with_reducible rfl | (rw [if_neg (show ¬ (false = true) by decide)] at H; exact H)
      clear H
      have H := H1
      clear H1
      replace H := Option.bind_eq_some_iff.mp H
      obtain ⟨t276, A210, H⟩ := H
      replace H : (if t276.size + t272.size ≤ 9223372036854775807 then ((impl_DecodeFixed.f kj8 (t276 ++ t272) 7).bind fun bt277 => (if t276.toList = ([] : List UInt8) then (if t271 < 0 then (laws_FnEncodings.j1 kj8 l0 t271 t272 false) else (if t271 ≥ 72057594037927936 then (laws_FnEncodings.j1 kj8 l0 t271 t272 false) else (laws_FnEncodings.j1 kj8 l0 t271 t272 true))) else (if bt277.2 = true then (if bt277.1 = t271 then (if (t276.size : Int) = 7 then (if t271 < 0 then (laws_FnEncodings.j1 kj8 l0 t271 t272 true) else (if t271 ≥ 72057594037927936 then (laws_FnEncodings.j1 kj8 l0 t271 t272 true) else (laws_FnEncodings.j1 kj8 l0 t271 t272 false))) else (laws_FnEncodings.j1 kj8 l0 t271 t272 true)) else (laws_FnEncodings.j1 kj8 l0 t271 t272 true)) else (laws_FnEncodings.j1 kj8 l0 t271 t272 true)))) else (none)) = some true := H
      have A21 := Aside0.mk A210
      clear A210
      by_cases c22 : t276.size + t272.size ≤ 9223372036854775807
      ·rw [if_pos c22] at H
       have c22b0 := eq_true c22
       have c22b1 : decide (t276.size + t272.size ≤ 9223372036854775807) = true := decide_eq_true c22
       try have c22b2 : (9223372036854775807 < t276.size + t272.size) = False := eq_false (Nat.not_lt.2 c22)
       replace H := Option.bind_eq_some_iff.mp H
       obtain ⟨⟨t277, t278⟩, A230, H⟩ := H
       replace H : (if t276.toList = ([] : List UInt8) then (if t271 < 0 then (laws_FnEncodings.j1 kj8 l0 t271 t272 false) else (if t271 ≥ 72057594037927936 then (laws_FnEncodings.j1 kj8 l0 t271 t272 false) else (laws_FnEncodings.j1 kj8 l0 t271 t272 true))) else (if t278 = true then (if t277 = t271 then (if (t276.size : Int) = 7 then (if t271 < 0 then (laws_FnEncodings.j1 kj8 l0 t271 t272 true) else (if t271 ≥ 72057594037927936 then (laws_FnEncodings.j1 kj8 l0 t271 t272 true) else (laws_FnEncodings.j1 kj8 l0 t271 t272 false))) else (laws_FnEncodings.j1 kj8 l0 t271 t272 true)) else (laws_FnEncodings.j1 kj8 l0 t271 t272 true)) else (laws_FnEncodings.j1 kj8 l0 t271 t272 true))) = some true := H
       have A23 := Aside0.mk A230
       clear A230
       have HC24 := Aside0.mk H
       clear H
       go_upto_region 11 with (first | (go_at_call 30; (with_reducible refine (impl_EncodeFixed.calls kj8 t271 7 t276 _ A21.out).mono ?_); rintro e w25 ⟨rfl, hb⟩; have n0_ := Aside0.mk (below_step zl hb); clear HB; have HB := n0_; clear n0_; (try clear hb)) | ((with_reducible refine gate_callee (f := 30) rfl ?_); refine zg (some 57) Tryd.func30 #[.int .i64 t271, .int .i64 7] ?_; (with_reducible refine (impl_EncodeFixed.calls kj8 t271 7 t276 _ A21.out).mono ?_); rintro e w25 ⟨rfl, hb⟩; refine ⟨_, rfl, ?_⟩; replace HB := zm (below_step zl hb); (try clear hb)) | (go_at_call 31; (with_reducible refine (impl_DecodeFixed.calls kj8 (t276 ++ t272) 7 t277 t278 _ A23.out).mono ?_); rintro e w' ⟨rfl, ⟨nd, rfl⟩⟩) | ((with_reducible refine gate_callee (f := 31) rfl ?_); refine zg (some 62) Tryd.func31 #[.string (t276 ++ t272), .int .i64 7] ?_; (with_reducible refine (impl_DecodeFixed.calls kj8 (t276 ++ t272) 7 t277 t278 _ A23.out).mono ?_); rintro e w' ⟨rfl, ⟨nd, rfl⟩⟩; refine ⟨_, rfl, ?_⟩))
       (try simp only [Act.put, List.setIfInBounds_toArray, List.set_cons_zero, List.set_cons_succ])
       go_cut [91] (fun v91 wc => ∃ (kq : Nat) (x91_23 : Bool), v91 = .bool x91_23 ∧ Aside0 (laws_FnEncodings.j1 kq l0 t271 t272 x91_23 = some true) ∧ Aside0 (kq ≤ kj8) ∧ Aside0 (Below w.heap.size w wc))
       case first =>
        have H := HC24.out
        clear HC24
        by_cases c26 : t276.toList = ([] : List UInt8)
        ·rw [if_pos c26] at H
         have c26b0 : (t276.toList == ([] : List UInt8)) = true := beq_iff_eq.mpr c26
         have c26b1 : (t276.toList != ([] : List UInt8)) = false := bne_eq_false_iff_eq.mpr c26
         clear c26
         (first | rw [c26b0] | (simp only [i64_w, i32_w]; rw [c26b0]) | skip)
         by_cases c27 : t271 < 0
         ·rw [if_pos c27] at H
          have c27b0 : decide (t271 < 0) = true := decide_eq_true c27
          clear c27
          have H' := Aside0.mk H
          clear H
          as_aux_lemma =>
           go_wp2
           go_meet
           case rel => exact ⟨_, (false), (by first | rfl | (simp; done) | (simp [*]; done)), H', ⟨by have := HJ8.out; first | omega | exact Nat.le_refl _⟩, ⟨zl⟩⟩
         ·rw [if_neg c27] at H
          have c27b0 : decide (t271 < 0) = false := decide_eq_false c27
          clear c27
          by_cases c28 : t271 ≥ 72057594037927936
          ·rw [if_pos c28] at H
           have c28b0 : decide (72057594037927936 ≤ t271) = true := decide_eq_true c28
           clear c28
           have H' := Aside0.mk H
           clear H
           as_aux_lemma =>
            go_wp2
            go_meet
            case rel => exact ⟨_, (false), (by first | rfl | (simp; done) | (simp [*]; done)), H', ⟨by have := HJ8.out; first | omega | exact Nat.le_refl _⟩, ⟨zl⟩⟩
          ·rw [if_neg c28] at H
           have c28b0 : decide (72057594037927936 ≤ t271) = false := decide_eq_false c28
           clear c28
           have H' := Aside0.mk H
           clear H
           as_aux_lemma =>
            go_wp2
            go_meet
            case rel => exact ⟨_, (true), (by first | rfl | (simp; done) | (simp [*]; done)), H', ⟨by have := HJ8.out; first | omega | exact Nat.le_refl _⟩, ⟨zl⟩⟩
        ·rw [if_neg c26] at H
         have c26b0 : (t276.toList == ([] : List UInt8)) = false := beq_eq_false_iff_ne.mpr c26
         have c26b1 : (t276.toList != ([] : List UInt8)) = true := bne_iff_ne.mpr c26
         (first | rw [c26b0] | (simp only [i64_w, i32_w]; rw [c26b0]) | skip)
         by_cases c29 : t278 = true
         ·subst c29
          have H1 : (if t277 = t271 then (if (t276.size : Int) = 7 then (if t271 < 0 then (laws_FnEncodings.j1 kj8 l0 t271 t272 true) else (if t271 ≥ 72057594037927936 then (laws_FnEncodings.j1 kj8 l0 t271 t272 true) else (laws_FnEncodings.j1 kj8 l0 t271 t272 false))) else (laws_FnEncodings.j1 kj8 l0 t271 t272 true)) else (laws_FnEncodings.j1 kj8 l0 t271 t272 true)) = some true := by first | with_reducible rfl | (rw [if_pos rfl] at H; exact H)
          clear H
          have H := H1
          clear H1
          by_cases c30 : t277 = t271
          ·rw [if_pos c30] at H
           have c30b0 : (t277 == t271) = true := beq_iff_eq.mpr c30
           have c30b1 : (t277 != t271) = false := bne_eq_false_iff_eq.mpr c30
           clear c30
           by_cases c31 : (t276.size : Int) = 7
           ·rw [if_pos c31] at H
            have c31b0 : ((t276.size : Int) == 7) = true := beq_iff_eq.mpr c31
            have c31b1 : ((t276.size : Int) != 7) = false := bne_eq_false_iff_eq.mpr c31
            clear c31
            by_cases c32 : t271 < 0
            ·rw [if_pos c32] at H
             have c32b0 : decide (t271 < 0) = true := decide_eq_true c32
             clear c32
             have H' := Aside0.mk H
             clear H
             as_aux_lemma =>
              go_wp2
              go_meet
              case rel => exact ⟨_, (true), (by first | rfl | (simp; done) | (simp [*]; done)), H', ⟨by have := HJ8.out; first | omega | exact Nat.le_refl _⟩, ⟨zl⟩⟩
            ·rw [if_neg c32] at H
             have c32b0 : decide (t271 < 0) = false := decide_eq_false c32
             clear c32
             by_cases c33 : t271 ≥ 72057594037927936
             ·rw [if_pos c33] at H
              have c33b0 : decide (72057594037927936 ≤ t271) = true := decide_eq_true c33
              clear c33
              have H' := Aside0.mk H
              clear H
              as_aux_lemma =>
               go_wp2
               go_meet
               case rel => exact ⟨_, (true), (by first | rfl | (simp; done) | (simp [*]; done)), H', ⟨by have := HJ8.out; first | omega | exact Nat.le_refl _⟩, ⟨zl⟩⟩
             ·rw [if_neg c33] at H
              have c33b0 : decide (72057594037927936 ≤ t271) = false := decide_eq_false c33
              clear c33
              have H' := Aside0.mk H
              clear H
              as_aux_lemma =>
               go_wp2
               go_meet
               case rel => exact ⟨_, (false), (by first | rfl | (simp; done) | (simp [*]; done)), H', ⟨by have := HJ8.out; first | omega | exact Nat.le_refl _⟩, ⟨zl⟩⟩
           ·rw [if_neg c31] at H
            have c31b0 : ((t276.size : Int) == 7) = false := beq_eq_false_iff_ne.mpr c31
            have c31b1 : ((t276.size : Int) != 7) = true := bne_iff_ne.mpr c31
            have H' := Aside0.mk H
            clear H
            as_aux_lemma =>
             go_wp2
             go_meet
             case rel => exact ⟨_, (true), (by first | rfl | (simp; done) | (simp [*]; done)), H', ⟨by have := HJ8.out; first | omega | exact Nat.le_refl _⟩, ⟨zl⟩⟩
          ·rw [if_neg c30] at H
           have c30b0 : (t277 == t271) = false := beq_eq_false_iff_ne.mpr c30
           have c30b1 : (t277 != t271) = true := bne_iff_ne.mpr c30
           have H' := Aside0.mk H
           clear H
           as_aux_lemma =>
            go_wp2
            go_meet
            case rel => exact ⟨_, (true), (by first | rfl | (simp; done) | (simp [*]; done)), H', ⟨by have := HJ8.out; first | omega | exact Nat.le_refl _⟩, ⟨zl⟩⟩
         ·replace c29 := Bool.eq_false_iff.mpr c29
          subst c29
          have H1 : (laws_FnEncodings.j1 kj8 l0 t271 t272 true) = some true := by first | with_reducible rfl | (rw [if_neg (show ¬ (false = true) by decide)] at H; exact H)
          clear H
          have H := H1
          clear H1
          have H' := Aside0.mk H
          clear H
          as_aux_lemma =>
           go_wp2
           go_meet
           case rel => exact ⟨_, (true), (by first | rfl | (simp; done) | (simp [*]; done)), H', ⟨by have := HJ8.out; first | omega | exact Nat.le_refl _⟩, ⟨zl⟩⟩
       case rest =>
        clear HC24
        try clear c1
        try clear c2
        try clear p2
        try clear c3
        try clear c7
        try clear c7b0
        try clear c7b1
        try clear c7b2
        try clear c14
        try clear c14b0
        try clear c15
        try clear c15b0
        try clear c15b1
        try clear c16
        try clear c16b0
        try clear c17
        try clear c17b0
        try clear c18
        try clear c18b0
        try clear c18b1
        try clear c19
        try clear c19b0
        try clear c19b1
        try clear c20
        try clear c22
        try clear c22b0
        try clear c22b1
        try clear c22b2
        try clear c26
        try clear c26b0
        try clear c26b1
        try clear c27
        try clear c27b0
        try clear c28
        try clear c28b0
        try clear c29
        try clear c30
        try clear c30b0
        try clear c30b1
        try clear c31
        try clear c31b0
        try clear c31b1
        try clear c32
        try clear c32b0
        try clear c33
        try clear c33b0
        try clear p2
        obtain ⟨kq, x91_23, rfl, HA, HJ23, HB⟩ := hcut
        cases kq with
        | zero => exact absurd HA.out (by simp [laws_FnEncodings.j1])
        | succ kj23 =>
         have H := HA.out
         clear HA
         simp only [laws_FnEncodings.j1] at H
         by_cases c34 : x91_23 = true
         ·subst c34
          have H1 : (some false) = some true := by first | with_reducible rfl | (rw [if_pos rfl] at H; exact H)
          clear H
          have H := H1
          clear H1
          exact absurd H (by simp)
         ·replace c34 := Bool.eq_false_iff.mpr c34
          subst c34
          have H1 : ((impl_FormatInt.f t271).bind fun t279 => ((impl_ParseInt.f kj23 t279).bind fun bt280 => (if t271 > (-1000000000) then (if t271 < 1000000000 then (if (bt280.2 != true) = true then (laws_FnEncodings.j2 kj23 l0 t272 true) else (if bt280.2 = true then (laws_FnEncodings.j2 kj23 l0 t272 (bt280.1 != t271)) else (laws_FnEncodings.j2 kj23 l0 t272 false))) else (if (bt280.2 != false) = true then (laws_FnEncodings.j2 kj23 l0 t272 true) else (if bt280.2 = true then (laws_FnEncodings.j2 kj23 l0 t272 (bt280.1 != t271)) else (laws_FnEncodings.j2 kj23 l0 t272 false)))) else (if (bt280.2 != false) = true then (laws_FnEncodings.j2 kj23 l0 t272 true) else (if bt280.2 = true then (laws_FnEncodings.j2 kj23 l0 t272 (bt280.1 != t271)) else (laws_FnEncodings.j2 kj23 l0 t272 false)))))) = some true := by first | with_reducible rfl | (rw [if_neg (show ¬ (false = true) by decide)] at H; exact H)
          clear H
          have H := H1
          clear H1
          replace H := Option.bind_eq_some_iff.mp H
          obtain ⟨t279, A350, H⟩ := H
          replace H : ((impl_ParseInt.f kj23 t279).bind fun bt280 => (if t271 > (-1000000000) then (if t271 < 1000000000 then (if (bt280.2 != true) = true then (laws_FnEncodings.j2 kj23 l0 t272 true) else (if bt280.2 = true then (laws_FnEncodings.j2 kj23 l0 t272 (bt280.1 != t271)) else (laws_FnEncodings.j2 kj23 l0 t272 false))) else (if (bt280.2 != false) = true then (laws_FnEncodings.j2 kj23 l0 t272 true) else (if bt280.2 = true then (laws_FnEncodings.j2 kj23 l0 t272 (bt280.1 != t271)) else (laws_FnEncodings.j2 kj23 l0 t272 false)))) else (if (bt280.2 != false) = true then (laws_FnEncodings.j2 kj23 l0 t272 true) else (if bt280.2 = true then (laws_FnEncodings.j2 kj23 l0 t272 (bt280.1 != t271)) else (laws_FnEncodings.j2 kj23 l0 t272 false))))) = some true := H
          have A35 := Aside0.mk A350
          clear A350
          replace H := Option.bind_eq_some_iff.mp H
          obtain ⟨⟨t280, t281⟩, A360, H⟩ := H
          replace H : (if t271 > (-1000000000) then (if t271 < 1000000000 then (if (t281 != true) = true then (laws_FnEncodings.j2 kj23 l0 t272 true) else (if t281 = true then (laws_FnEncodings.j2 kj23 l0 t272 (t280 != t271)) else (laws_FnEncodings.j2 kj23 l0 t272 false))) else (if (t281 != false) = true then (laws_FnEncodings.j2 kj23 l0 t272 true) else (if t281 = true then (laws_FnEncodings.j2 kj23 l0 t272 (t280 != t271)) else (laws_FnEncodings.j2 kj23 l0 t272 false)))) else (if (t281 != false) = true then (laws_FnEncodings.j2 kj23 l0 t272 true) else (if t281 = true then (laws_FnEncodings.j2 kj23 l0 t272 (t280 != t271)) else (laws_FnEncodings.j2 kj23 l0 t272 false)))) = some true := H
          have A36 := Aside0.mk A360
          clear A360
          have HC37 := Aside0.mk H
          clear H
          go_upto_region 14 with (first | (go_at_call 32; (with_reducible refine (impl_FormatInt.calls t271 t279 _ (zt hT) A35.out).mono ?_); rintro e w38 ⟨rfl, hb⟩; have n0_ := Aside0.mk (below_step zl hb); clear HB; have HB := n0_; clear n0_; (try clear hb)) | ((with_reducible refine gate_callee (f := 32) rfl ?_); refine zg (some 94) Tryd.func32 #[.int .i64 t271] ?_; (with_reducible refine (impl_FormatInt.calls t271 t279 _ (zt hT) A35.out).mono ?_); rintro e w38 ⟨rfl, hb⟩; refine ⟨_, rfl, ?_⟩; replace HB := zm (below_step zl hb); (try clear hb)) | (go_at_call 14; (with_reducible refine (impl_ParseInt.calls kj23 t279 t280 t281 _ (zt hT) A36.out).mono ?_); rintro e w39 ⟨rfl, hb⟩; have n0_ := Aside0.mk (below_step zl hb); clear HB; have HB := n0_; clear n0_; (try clear hb)) | ((with_reducible refine gate_callee (f := 14) rfl ?_); refine zg (some 95) Tryd.func14 #[.string t279] ?_; (with_reducible refine (impl_ParseInt.calls kj23 t279 t280 t281 _ (zt hT) A36.out).mono ?_); rintro e w39 ⟨rfl, hb⟩; refine ⟨_, rfl, ?_⟩; replace HB := zm (below_step zl hb); (try clear hb)))
          (try simp only [Act.put, List.setIfInBounds_toArray, List.set_cons_zero, List.set_cons_succ])
          go_cut [113] (fun v113 wc => ∃ (kq : Nat) (x113_36 : Bool), v113 = .bool x113_36 ∧ Aside0 (laws_FnEncodings.j2 kq l0 t272 x113_36 = some true) ∧ Aside0 (kq ≤ kj23) ∧ Aside0 (Below w.heap.size w wc))
          case first =>
           have H := HC37.out
           clear HC37
           by_cases c40 : t271 > (-1000000000)
           ·rw [if_pos c40] at H
            have c40b0 : decide ((-1000000000) < t271) = true := decide_eq_true c40
            clear c40
            (first | rw [c40b0] | (simp only [i64_w, i32_w]; rw [c40b0]) | skip)
            by_cases c41 : t271 < 1000000000
            ·rw [if_pos c41] at H
             have c41b0 : decide (t271 < 1000000000) = true := decide_eq_true c41
             clear c41
             by_cases c42 : (t281 != true) = true
             ·rw [if_pos c42] at H
              have c42b0 : (t281 != true) = true := c42
              (try (have c42b1 : decide (t281 = true) = false := by simpa using c42))
              (try (have c42b2 : (t281 == true) = false := by simpa using c42))
              (try (have c42b3 : ¬ (t281 = true) := by simpa using c42))
              clear c42
              have H' := Aside0.mk H
              clear H
              as_aux_lemma =>
               go_wp2
               go_meet
               case rel => exact ⟨_, (true), (by first | rfl | (simp; done) | (simp [*]; done)), H', ⟨by have := HJ8.out; have := HJ23.out; first | omega | exact Nat.le_refl _⟩, ⟨zl⟩⟩
             ·rw [if_neg c42] at H
              have c42b0 : (t281 != true) = false := by simpa using c42
              (try (have c42b1 : decide (t281 = true) = true := by simpa using c42))
              (try (have c42b2 : (t281 == true) = true := by simpa using c42))
              clear c42
              by_cases c43 : t281 = true
              ·subst c43
               have H1 : (laws_FnEncodings.j2 kj23 l0 t272 (t280 != t271)) = some true := by first | with_reducible rfl | (rw [if_pos rfl] at H; exact H)
               clear H
               have H := H1
               clear H1
               have H' := Aside0.mk H
               clear H
               as_aux_lemma =>
                go_wp2
                go_meet
                case rel => exact ⟨_, ((t280 != t271)), (by first | rfl | (simp; done) | (simp [*]; done)), H', ⟨by have := HJ8.out; have := HJ23.out; first | omega | exact Nat.le_refl _⟩, ⟨zl⟩⟩
              ·replace c43 := Bool.eq_false_iff.mpr c43
               subst c43
               have H1 : (laws_FnEncodings.j2 kj23 l0 t272 false) = some true := by first | with_reducible rfl | (rw [if_neg (show ¬ (false = true) by decide)] at H; exact H)
               clear H
               have H := H1
               clear H1
               have H' := Aside0.mk H
               clear H
               as_aux_lemma =>
                go_wp2
                go_meet
                case rel => exact ⟨_, (false), (by first | rfl | (simp; done) | (simp [*]; done)), H', ⟨by have := HJ8.out; have := HJ23.out; first | omega | exact Nat.le_refl _⟩, ⟨zl⟩⟩
            ·rw [if_neg c41] at H
             have c41b0 : decide (t271 < 1000000000) = false := decide_eq_false c41
             clear c41
             by_cases c44 : (t281 != false) = true
             ·rw [if_pos c44] at H
              have c44b0 : (t281 != false) = true := c44
              (try (have c44b1 : decide (t281 = false) = false := by simpa using c44))
              (try (have c44b2 : (t281 == false) = false := by simpa using c44))
              (try (have c44b3 : ¬ (t281 = false) := by simpa using c44))
              clear c44
              have H' := Aside0.mk H
              clear H
              as_aux_lemma =>
               go_wp2
               go_meet
               case rel => exact ⟨_, (true), (by first | rfl | (simp; done) | (simp [*]; done)), H', ⟨by have := HJ8.out; have := HJ23.out; first | omega | exact Nat.le_refl _⟩, ⟨zl⟩⟩
             ·rw [if_neg c44] at H
              have c44b0 : (t281 != false) = false := by simpa using c44
              (try (have c44b1 : decide (t281 = false) = true := by simpa using c44))
              (try (have c44b2 : (t281 == false) = true := by simpa using c44))
              clear c44
              by_cases c45 : t281 = true
              ·subst c45
               have H1 : (laws_FnEncodings.j2 kj23 l0 t272 (t280 != t271)) = some true := by first | with_reducible rfl | (rw [if_pos rfl] at H; exact H)
               clear H
               have H := H1
               clear H1
               have H' := Aside0.mk H
               clear H
               as_aux_lemma =>
                go_wp2
                go_meet
                case rel => exact ⟨_, ((t280 != t271)), (by first | rfl | (simp; done) | (simp [*]; done)), H', ⟨by have := HJ8.out; have := HJ23.out; first | omega | exact Nat.le_refl _⟩, ⟨zl⟩⟩
              ·replace c45 := Bool.eq_false_iff.mpr c45
               subst c45
               have H1 : (laws_FnEncodings.j2 kj23 l0 t272 false) = some true := by first | with_reducible rfl | (rw [if_neg (show ¬ (false = true) by decide)] at H; exact H)
               clear H
               have H := H1
               clear H1
               have H' := Aside0.mk H
               clear H
               as_aux_lemma =>
                go_wp2
                go_meet
                case rel => exact ⟨_, (false), (by first | rfl | (simp; done) | (simp [*]; done)), H', ⟨by have := HJ8.out; have := HJ23.out; first | omega | exact Nat.le_refl _⟩, ⟨zl⟩⟩
           ·rw [if_neg c40] at H
            have c40b0 : decide ((-1000000000) < t271) = false := decide_eq_false c40
            clear c40
            (first | rw [c40b0] | (simp only [i64_w, i32_w]; rw [c40b0]) | skip)
            by_cases c46 : (t281 != false) = true
            ·rw [if_pos c46] at H
             have c46b0 : (t281 != false) = true := c46
             (try (have c46b1 : decide (t281 = false) = false := by simpa using c46))
             (try (have c46b2 : (t281 == false) = false := by simpa using c46))
             (try (have c46b3 : ¬ (t281 = false) := by simpa using c46))
             clear c46
             have H' := Aside0.mk H
             clear H
             as_aux_lemma =>
              go_wp2
              go_meet
              case rel => exact ⟨_, (true), (by first | rfl | (simp; done) | (simp [*]; done)), H', ⟨by have := HJ8.out; have := HJ23.out; first | omega | exact Nat.le_refl _⟩, ⟨zl⟩⟩
            ·rw [if_neg c46] at H
             have c46b0 : (t281 != false) = false := by simpa using c46
             (try (have c46b1 : decide (t281 = false) = true := by simpa using c46))
             (try (have c46b2 : (t281 == false) = true := by simpa using c46))
             clear c46
             by_cases c47 : t281 = true
             ·subst c47
              have H1 : (laws_FnEncodings.j2 kj23 l0 t272 (t280 != t271)) = some true := by first | with_reducible rfl | (rw [if_pos rfl] at H; exact H)
              clear H
              have H := H1
              clear H1
              have H' := Aside0.mk H
              clear H
              as_aux_lemma =>
               go_wp2
               go_meet
               case rel => exact ⟨_, ((t280 != t271)), (by first | rfl | (simp; done) | (simp [*]; done)), H', ⟨by have := HJ8.out; have := HJ23.out; first | omega | exact Nat.le_refl _⟩, ⟨zl⟩⟩
             ·replace c47 := Bool.eq_false_iff.mpr c47
              subst c47
              have H1 : (laws_FnEncodings.j2 kj23 l0 t272 false) = some true := by first | with_reducible rfl | (rw [if_neg (show ¬ (false = true) by decide)] at H; exact H)
              clear H
              have H := H1
              clear H1
              have H' := Aside0.mk H
              clear H
              as_aux_lemma =>
               go_wp2
               go_meet
               case rel => exact ⟨_, (false), (by first | rfl | (simp; done) | (simp [*]; done)), H', ⟨by have := HJ8.out; have := HJ23.out; first | omega | exact Nat.le_refl _⟩, ⟨zl⟩⟩
          case rest =>
           clear HC37
           try clear c1
           try clear c2
           try clear p2
           try clear c3
           try clear c4
           try clear c7
           try clear c7b0
           try clear c7b1
           try clear c7b2
           try clear c14
           try clear c14b0
           try clear c15
           try clear c15b0
           try clear c15b1
           try clear c16
           try clear c16b0
           try clear c17
           try clear c17b0
           try clear c18
           try clear c18b0
           try clear c18b1
           try clear c19
           try clear c19b0
           try clear c19b1
           try clear c20
           try clear c22
           try clear c22b0
           try clear c22b1
           try clear c22b2
           try clear c26
           try clear c26b0
           try clear c26b1
           try clear c27
           try clear c27b0
           try clear c28
           try clear c28b0
           try clear c29
           try clear c30
           try clear c30b0
           try clear c30b1
           try clear c31
           try clear c31b0
           try clear c31b1
           try clear c32
           try clear c32b0
           try clear c33
           try clear c33b0
           try clear c34
           try clear c40
           try clear c40b0
           try clear c41
           try clear c41b0
           try clear c42
           try clear c42b0
           try clear c42b1
           try clear c42b2
           try clear c43
           try clear c44
           try clear c44b0
           try clear c44b1
           try clear c44b2
           try clear c45
           try clear c46
           try clear c46b0
           try clear c46b1
           try clear c46b2
           try clear c47
           try clear p2
           obtain ⟨kq, x113_36, rfl, HA, HJ36, HB⟩ := hcut
           cases kq with
           | zero => exact absurd HA.out (by simp [laws_FnEncodings.j2])
           | succ kj36 =>
            have H := HA.out
            clear HA
            simp only [laws_FnEncodings.j2] at H
            by_cases c48 : x113_36 = true
            ·subst c48
             have H1 : (some false) = some true := by first | with_reducible rfl | (rw [if_pos rfl] at H; exact H)
             clear H
             have H := H1
             clear H1
             exact absurd H (by simp)
            ·replace c48 := Bool.eq_false_iff.mpr c48
             subst c48
             have H1 : ((impl_EncodeHex.f kj36 t272).bind fun t282 => ((impl_DecodeHex.f kj36 t282).bind fun bt283 => ((spec_DrawDecodeVarint.f kj36 l0).bind fun t285 => ((impl_DecodeVarint.f kj36 t285).bind fun bt286 => (if bt283.2 = true then (if bt283.1.toList = t272.toList then (if bt286.2 = 0 then (some true) else (if bt286.2 > 0 then (if bt286.2 ≤ (t285.size : Int) then ((impl_EncodeVarint.f kj36 bt286.1).bind fun t288 => (if 0 ≤ bt286.2 then (some (t288.toList == (t285.extract 0 (bt286.2 : Int).toNat).toList)) else (none))) else (some false)) else (some false))) else (some false)) else (some false)))))) = some true := by first | with_reducible rfl | (rw [if_neg (show ¬ (false = true) by decide)] at H; exact H)
             clear H
             have H := H1
             clear H1
             replace H := Option.bind_eq_some_iff.mp H
             obtain ⟨t282, A490, H⟩ := H
             replace H : ((impl_DecodeHex.f kj36 t282).bind fun bt283 => ((spec_DrawDecodeVarint.f kj36 l0).bind fun t285 => ((impl_DecodeVarint.f kj36 t285).bind fun bt286 => (if bt283.2 = true then (if bt283.1.toList = t272.toList then (if bt286.2 = 0 then (some true) else (if bt286.2 > 0 then (if bt286.2 ≤ (t285.size : Int) then ((impl_EncodeVarint.f kj36 bt286.1).bind fun t288 => (if 0 ≤ bt286.2 then (some (t288.toList == (t285.extract 0 (bt286.2 : Int).toNat).toList)) else (none))) else (some false)) else (some false))) else (some false)) else (some false))))) = some true := H
             have A49 := Aside0.mk A490
             clear A490
             replace H := Option.bind_eq_some_iff.mp H
             obtain ⟨⟨t283, t284⟩, A500, H⟩ := H
             replace H : ((spec_DrawDecodeVarint.f kj36 l0).bind fun t285 => ((impl_DecodeVarint.f kj36 t285).bind fun bt286 => (if t284 = true then (if t283.toList = t272.toList then (if bt286.2 = 0 then (some true) else (if bt286.2 > 0 then (if bt286.2 ≤ (t285.size : Int) then ((impl_EncodeVarint.f kj36 bt286.1).bind fun t288 => (if 0 ≤ bt286.2 then (some (t288.toList == (t285.extract 0 (bt286.2 : Int).toNat).toList)) else (none))) else (some false)) else (some false))) else (some false)) else (some false)))) = some true := H
             have A50 := Aside0.mk A500
             clear A500
             replace H := Option.bind_eq_some_iff.mp H
             obtain ⟨t285, A510, H⟩ := H
             replace H : ((impl_DecodeVarint.f kj36 t285).bind fun bt286 => (if t284 = true then (if t283.toList = t272.toList then (if bt286.2 = 0 then (some true) else (if bt286.2 > 0 then (if bt286.2 ≤ (t285.size : Int) then ((impl_EncodeVarint.f kj36 bt286.1).bind fun t288 => (if 0 ≤ bt286.2 then (some (t288.toList == (t285.extract 0 (bt286.2 : Int).toNat).toList)) else (none))) else (some false)) else (some false))) else (some false)) else (some false))) = some true := H
             have A51 := Aside0.mk A510
             clear A510
             replace H := Option.bind_eq_some_iff.mp H
             obtain ⟨⟨t286, t287⟩, A520, H⟩ := H
             replace H : (if t284 = true then (if t283.toList = t272.toList then (if t287 = 0 then (some true) else (if t287 > 0 then (if t287 ≤ (t285.size : Int) then ((impl_EncodeVarint.f kj36 t286).bind fun t288 => (if 0 ≤ t287 then (some (t288.toList == (t285.extract 0 (t287 : Int).toNat).toList)) else (none))) else (some false)) else (some false))) else (some false)) else (some false)) = some true := H
             have A52 := Aside0.mk A520
             clear A520
             by_cases c53 : t284 = true
             ·subst c53
              have H1 : (if t283.toList = t272.toList then (if t287 = 0 then (some true) else (if t287 > 0 then (if t287 ≤ (t285.size : Int) then ((impl_EncodeVarint.f kj36 t286).bind fun t288 => (if 0 ≤ t287 then (some (t288.toList == (t285.extract 0 (t287 : Int).toNat).toList)) else (none))) else (some false)) else (some false))) else (some false)) = some true := by first | with_reducible rfl | (rw [if_pos rfl] at H; exact H)
              clear H
              have H := H1
              clear H1
              by_cases c54 : t283.toList = t272.toList
              ·rw [if_pos c54] at H
               have c54b0 : (t283.toList == t272.toList) = true := beq_iff_eq.mpr c54
               have c54b1 : (t283.toList != t272.toList) = false := bne_eq_false_iff_eq.mpr c54
               clear c54
               by_cases c55 : t287 = 0
               ·rw [if_pos c55] at H
                have c55b0 : (t287 == 0) = true := beq_iff_eq.mpr c55
                have c55b1 : (t287 != 0) = false := bne_eq_false_iff_eq.mpr c55
                clear c55
                clear H
                as_aux_lemma =>
                 go_wp2_with (first | (go_at_call 34; (with_reducible refine (impl_EncodeHex.calls kj36 t272 t282 _ A49.out).mono ?_); rintro e w56 ⟨rfl, hb⟩; have n0_ := Aside0.mk (below_step zl hb); clear HB; have HB := n0_; clear n0_; (try clear hb)) | ((with_reducible refine gate_callee (f := 34) rfl ?_); refine zg (some 116) Tryd.func34 #[.string t272] ?_; (with_reducible refine (impl_EncodeHex.calls kj36 t272 t282 _ A49.out).mono ?_); rintro e w56 ⟨rfl, hb⟩; refine ⟨_, rfl, ?_⟩; replace HB := zm (below_step zl hb); (try clear hb)) | (go_at_call 33; (with_reducible refine (impl_DecodeHex.calls kj36 t282 t283 true _ A50.out).mono ?_); rintro e w57 ⟨rfl, hb⟩; have n0_ := Aside0.mk (below_step zl hb); clear HB; have HB := n0_; clear n0_; (try clear hb)) | ((with_reducible refine gate_callee (f := 33) rfl ?_); refine zg (some 117) Tryd.func33 #[.string t282] ?_; (with_reducible refine (impl_DecodeHex.calls kj36 t282 t283 true _ A50.out).mono ?_); rintro e w57 ⟨rfl, hb⟩; refine ⟨_, rfl, ?_⟩; replace HB := zm (below_step zl hb); (try clear hb)) | (go_at_call 35; (with_reducible refine (spec_DrawDecodeVarint.calls kj36 _ _ l0 t285 _ ?side1 ?side2 A51.out).mono ?_); (case side1 => exact zc HR0.out); (case side2 => exact HC0.out); rintro e w58 ⟨rfl, hb⟩; have n0_ := Aside0.mk (below_step zl hb); clear HB; have HB := n0_; clear n0_; (try clear hb)) | ((with_reducible refine gate_callee (f := 35) rfl ?_); refine zg (some 122) Tryd.func35 #[.slice A0 l0.length c0] ?_; (with_reducible refine (spec_DrawDecodeVarint.calls kj36 _ _ l0 t285 _ ?side1 ?side2 A51.out).mono ?_); (case side1 => exact zc HR0.out); (case side2 => exact HC0.out); rintro e w58 ⟨rfl, hb⟩; refine ⟨_, rfl, ?_⟩; replace HB := zm (below_step zl hb); (try clear hb)) | (go_at_call 29; (with_reducible refine (impl_DecodeVarint.calls kj36 t285 t286 t287 _ A52.out).mono ?_); rintro e w59 ⟨rfl, hb⟩; have n0_ := Aside0.mk (below_step zl hb); clear HB; have HB := n0_; clear n0_; (try clear hb)) | ((with_reducible refine gate_callee (f := 29) rfl ?_); refine zg (some 123) Tryd.func29 #[.string t285] ?_; (with_reducible refine (impl_DecodeVarint.calls kj36 t285 t286 t287 _ A52.out).mono ?_); rintro e w59 ⟨rfl, hb⟩; refine ⟨_, rfl, ?_⟩; replace HB := zm (below_step zl hb); (try clear hb)))
                 go_ret
                 exact ⟨by first | rfl | (simp [errW_none, errW_some] <;> rfl) | (simp [*, errW_none, errW_some] <;> rfl), zl⟩
               ·rw [if_neg c55] at H
                have c55b0 : (t287 == 0) = false := beq_eq_false_iff_ne.mpr c55
                have c55b1 : (t287 != 0) = true := bne_iff_ne.mpr c55
                by_cases c60 : t287 > 0
                ·rw [if_pos c60] at H
                 have c60b0 : decide (0 < t287) = true := decide_eq_true c60
                 clear c60
                 by_cases c61 : t287 ≤ (t285.size : Int)
                 ·rw [if_pos c61] at H
                  have c61b0 : decide (t287 ≤ (t285.size : Int)) = true := decide_eq_true c61
                  clear c61
                  replace H := Option.bind_eq_some_iff.mp H
                  obtain ⟨t288, A620, H⟩ := H
                  replace H : (if 0 ≤ t287 then (some (t288.toList == (t285.extract 0 (t287 : Int).toNat).toList)) else (none)) = some true := H
                  have A62 := Aside0.mk A620
                  clear A620
                  by_cases c63 : 0 ≤ t287
                  ·rw [if_pos c63] at H
                   have c63b0 := eq_true c63
                   have c63b1 : decide (0 ≤ t287) = true := decide_eq_true c63
                   clear c63
                   have c64b0 := eq_true (zd : t287 ≤ (t285.size : Int))
                   have hret := Option.some.inj H
                   clear H
                   as_aux_lemma =>
                    go_wp2_with (first | (go_at_call 34; (with_reducible refine (impl_EncodeHex.calls kj36 t272 t282 _ A49.out).mono ?_); rintro e w65 ⟨rfl, hb⟩; have n0_ := Aside0.mk (below_step zl hb); clear HB; have HB := n0_; clear n0_; (try clear hb)) | ((with_reducible refine gate_callee (f := 34) rfl ?_); refine zg (some 116) Tryd.func34 #[.string t272] ?_; (with_reducible refine (impl_EncodeHex.calls kj36 t272 t282 _ A49.out).mono ?_); rintro e w65 ⟨rfl, hb⟩; refine ⟨_, rfl, ?_⟩; replace HB := zm (below_step zl hb); (try clear hb)) | (go_at_call 33; (with_reducible refine (impl_DecodeHex.calls kj36 t282 t283 true _ A50.out).mono ?_); rintro e w66 ⟨rfl, hb⟩; have n0_ := Aside0.mk (below_step zl hb); clear HB; have HB := n0_; clear n0_; (try clear hb)) | ((with_reducible refine gate_callee (f := 33) rfl ?_); refine zg (some 117) Tryd.func33 #[.string t282] ?_; (with_reducible refine (impl_DecodeHex.calls kj36 t282 t283 true _ A50.out).mono ?_); rintro e w66 ⟨rfl, hb⟩; refine ⟨_, rfl, ?_⟩; replace HB := zm (below_step zl hb); (try clear hb)) | (go_at_call 35; (with_reducible refine (spec_DrawDecodeVarint.calls kj36 _ _ l0 t285 _ ?side1 ?side2 A51.out).mono ?_); (case side1 => exact zc HR0.out); (case side2 => exact HC0.out); rintro e w67 ⟨rfl, hb⟩; have n0_ := Aside0.mk (below_step zl hb); clear HB; have HB := n0_; clear n0_; (try clear hb)) | ((with_reducible refine gate_callee (f := 35) rfl ?_); refine zg (some 122) Tryd.func35 #[.slice A0 l0.length c0] ?_; (with_reducible refine (spec_DrawDecodeVarint.calls kj36 _ _ l0 t285 _ ?side1 ?side2 A51.out).mono ?_); (case side1 => exact zc HR0.out); (case side2 => exact HC0.out); rintro e w67 ⟨rfl, hb⟩; refine ⟨_, rfl, ?_⟩; replace HB := zm (below_step zl hb); (try clear hb)) | (go_at_call 29; (with_reducible refine (impl_DecodeVarint.calls kj36 t285 t286 t287 _ A52.out).mono ?_); rintro e w68 ⟨rfl, hb⟩; have n0_ := Aside0.mk (below_step zl hb); clear HB; have HB := n0_; clear n0_; (try clear hb)) | ((with_reducible refine gate_callee (f := 29) rfl ?_); refine zg (some 123) Tryd.func29 #[.string t285] ?_; (with_reducible refine (impl_DecodeVarint.calls kj36 t285 t286 t287 _ A52.out).mono ?_); rintro e w68 ⟨rfl, hb⟩; refine ⟨_, rfl, ?_⟩; replace HB := zm (below_step zl hb); (try clear hb)) | (go_at_call 28; (with_reducible refine (impl_EncodeVarint.calls kj36 t286 t288 _ A62.out).mono ?_); rintro e w69 ⟨rfl, hb⟩; have n0_ := Aside0.mk (below_step zl hb); clear HB; have HB := n0_; clear n0_; (try clear hb)))
                    go_ret
                    exact ⟨by first | rfl | (rw [hret]) | (simp [errW_none, errW_some] <;> rfl) | (simp [*, errW_none, errW_some] <;> rfl), zl⟩
                  ·rw [if_neg c63] at H
                   exact absurd H (by simp)
                 ·rw [if_neg c61] at H
                  have c61b0 : decide (t287 ≤ (t285.size : Int)) = false := decide_eq_false c61
                  clear c61
                  exact absurd H (by simp)
                ·rw [if_neg c60] at H
                 have c60b0 : decide (0 < t287) = false := decide_eq_false c60
                 clear c60
                 exact absurd H (by simp)
              ·rw [if_neg c54] at H
               have c54b0 : (t283.toList == t272.toList) = false := beq_eq_false_iff_ne.mpr c54
               have c54b1 : (t283.toList != t272.toList) = true := bne_iff_ne.mpr c54
               exact absurd H (by simp)
             ·replace c53 := Bool.eq_false_iff.mpr c53
              subst c53
              have H1 : (some false) = some true := by first | with_reducible rfl | (rw [if_neg (show ¬ (false = true) by decide)] at H; exact H)
              clear H
              have H := H1
              clear H1
              exact absurd H (by simp)
      ·rw [if_neg c22] at H
       exact absurd H (by simp)
  ·rw [if_neg c7] at H
   exact absurd H (by simp)

end Go.Proofs.YtjphbdnfbkfgiaaDoor.PFnEncodings
