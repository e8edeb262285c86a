import Derived.Laws.Bits64
import Derived.Test.YtgjipjffpodjlaaCFnFrames3
import Derived.Test.YtgjipjffpodjlaaCFnFrames4
import Derived.Test.YtgjipjffpodjlaaCFnFrames5
import Derived.Test.YtgjipjffpodjlaaCFnFrames6
namespace Go.Proofs.Ytgjipjffpodjlaa.K
open Go.RowKit Go.Proofs.YtgjipjffpodjlaaW.PrintWords Go.Proofs.YtgjipjffpodjlaaW.PrintLast Go.Proofs.YtgjipjffpodjlaaW.PrintMore
attribute [local go_sem] max2_int min2_int max_two min_two max_three min_three max_four min_four   
set_option linter.unusedVariables false
set_option linter.unusedSimpArgs false
mutual
def laws_FnFrames.j0 : Nat → List Int → List Int → Bool → Option (Bool)
 | 0, _, _, _ => none
 | k + 1, x0, x1, x23 => if x23 = true then (some true) else ((spec_DrawFeed.f k x0).bind fun bt387 => ((impl_Feed.f k bt387.1 bt387.2.1 bt387.2.2.1 bt387.2.2.2.1 bt387.2.2.2.2).bind fun bt395 => ((spec_Feed.f k bt387.1 bt387.2.1 bt387.2.2.1 bt387.2.2.2.1 bt387.2.2.2.2).bind fun bt402 => ((laws_wDecoder.f k bt395.1 bt395.2.1 bt395.2.2.1 bt395.2.2.2 bt402.1 bt402.2.1 bt402.2.2.1 bt402.2.2.2).bind fun t408 => (if t408 = true then ((spec_ValidDecoder.f k bt387.1 bt387.2.1 bt387.2.2.1 bt387.2.2.2.1).bind fun t409 => (if t409 = true then (laws_FnFrames.l0 k x0 x1 bt387.2.2.2.2 0 0 bt395.1 bt395.2.1 bt395.2.2.1 bt395.2.2.2 bt387.1 bt387.2.1 bt387.2.2.1 bt387.2.2.2.1) else ((impl_ValidDecoder.f k bt387.1 bt387.2.1 bt387.2.2.1 bt387.2.2.2.1).bind fun t410 => (some (!t410))))) else (some false))))))
def laws_FnFrames.l0 : Nat → List Int → List Int → ByteArray → Int → Int → Int → ByteArray → List ByteArray → Bool → Int → ByteArray → List ByteArray → Bool → Option (Bool)
 | 0, _, _, _, _, _, _, _, _, _, _, _, _, _ => none
 | k + 1, x0, x1, x6, x9, x10, x402000, x402001, x402002, x402003, x412000, x412001, x412002, x412003 => if x9 < (x6.size : Int) then (if x10 < (x1.length : Int) then (if 0 ≤ x10 then (laws_FnFrames.j2 k x0 x1 x6 x9 x10 (Int.tmod (wrap64 (rd x1 x10)) 9) x402000 x402001 x402002 x402003 x412000 x412001 x412002 x412003) else (none)) else (laws_FnFrames.j2 k x0 x1 x6 x9 x10 1 x402000 x402001 x402002 x402003 x412000 x412001 x412002 x412003)) else ((laws_wDecoder.f k x402000 x402001 x402002 x402003 x412000 x412001 x412002 x412003).bind fun t420 => (if t420 = true then ((spec_DrawEncode.f k x0).bind fun bt421 => ((impl_Encode.f bt421.1 bt421.2).bind fun t425 => ((spec_Encode.f k bt421.1 bt421.2).bind fun t426 => (if t425.toList = t426.toList then ((impl_Feed.f k bt421.2 (⟨#[]⟩ : ByteArray) ([] : List ByteArray) false t425).bind fun bt427 => (if t425.toList = ([] : List UInt8) then (some true) else (if bt427.2.2.2 = true then (some false) else (if bt427.2.1.toList = ([] : List UInt8) then ((laws_wTexts.f k bt427.2.2.1 bt421.1).bind fun t434 => (some t434)) else (some false))))) else (some false))))) else (some false)))
def laws_FnFrames.j2 : Nat → List Int → List Int → ByteArray → Int → Int → Int → Int → ByteArray → List ByteArray → Bool → Int → ByteArray → List ByteArray → Bool → Option (Bool)
 | 0, _, _, _, _, _, _, _, _, _, _, _, _, _, _ => none
 | k + 1, x0, x1, x6, x9, x10, x11, x402000, x402001, x402002, x402003, x412000, x412001, x412002, x412003 => if x11 > (wrap64 ((x6.size : Int) - x9)) then (laws_FnFrames.j3 k x0 x1 x6 x9 x10 (wrap64 ((x6.size : Int) - x9)) x402000 x402001 x402002 x402003 x412000 x412001 x412002 x412003) else (laws_FnFrames.j3 k x0 x1 x6 x9 x10 x11 x402000 x402001 x402002 x402003 x412000 x412001 x412002 x412003)
def laws_FnFrames.j3 : Nat → List Int → List Int → ByteArray → Int → Int → Int → Int → ByteArray → List ByteArray → Bool → Int → ByteArray → List ByteArray → Bool → Option (Bool)
 | 0, _, _, _, _, _, _, _, _, _, _, _, _, _, _ => none
 | k + 1, x0, x1, x6, x9, x10, x11, x402000, x402001, x402002, x402003, x412000, x412001, x412002, x412003 => if 0 ≤ x9 then (if x9 ≤ (wrap64 (x9 + x11)) then (if (wrap64 (x9 + x11)) ≤ (x6.size : Int) then ((impl_Feed.f k x412000 x412001 x412002 x412003 (x6.extract (x9 : Int).toNat ((wrap64 (x9 + x11)) : Int).toNat)).bind fun bt413 => ((impl_ValidDecoder.f k bt413.1 bt413.2.1 bt413.2.2.1 bt413.2.2.2).bind fun t419 => (if t419 = true then (laws_FnFrames.l0 k x0 x1 x6 (wrap64 (x9 + x11)) (wrap64 (x10 + 1)) x402000 x402001 x402002 x402003 bt413.1 bt413.2.1 bt413.2.2.1 bt413.2.2.2) else (some false)))) else (none)) else (none)) else (none)
end
def laws_FnFrames.f (k : Nat) (l0 : List Int) (l1 : List Int) : Option (Bool) := if (l0.length : Int) > 1048576 then (laws_FnFrames.j0 k l0 l1 true) else (laws_FnFrames.j0 k l0 l1 (decide ((l1.length : Int) > 1048576)))
theorem laws_FnFrames.mono_l : ∀ k, (∀ y0 y1 y2, LeO (laws_FnFrames.j0 k y0 y1 y2) (laws_FnFrames.j0 (k + 1) y0 y1 y2)) ∧ (∀ y0 y1 y2 y3 y4 y5 y6 y7 y8 y9 y10 y11 y12, LeO (laws_FnFrames.l0 k y0 y1 y2 y3 y4 y5 y6 y7 y8 y9 y10 y11 y12) (laws_FnFrames.l0 (k + 1) y0 y1 y2 y3 y4 y5 y6 y7 y8 y9 y10 y11 y12)) ∧ (∀ y0 y1 y2 y3 y4 y5 y6 y7 y8 y9 y10 y11 y12 y13, LeO (laws_FnFrames.j2 k y0 y1 y2 y3 y4 y5 y6 y7 y8 y9 y10 y11 y12 y13) (laws_FnFrames.j2 (k + 1) y0 y1 y2 y3 y4 y5 y6 y7 y8 y9 y10 y11 y12 y13)) ∧ (∀ y0 y1 y2 y3 y4 y5 y6 y7 y8 y9 y10 y11 y12 y13, LeO (laws_FnFrames.j3 k y0 y1 y2 y3 y4 y5 y6 y7 y8 y9 y10 y11 y12 y13) (laws_FnFrames.j3 (k + 1) y0 y1 y2 y3 y4 y5 y6 y7 y8 y9 y10 y11 y12 y13))
 | 0 => ⟨fun _ _ _ r h => by simp [laws_FnFrames.j0] at h, fun _ _ _ _ _ _ _ _ _ _ _ _ _ r h => by simp [laws_FnFrames.l0] at h, fun _ _ _ _ _ _ _ _ _ _ _ _ _ _ r h => by simp [laws_FnFrames.j2] at h, fun _ _ _ _ _ _ _ _ _ _ _ _ _ _ r h => by simp [laws_FnFrames.j3] at h⟩
 | k + 1 => by
  obtain ⟨ih0, ih1, ih2, ih3⟩ := laws_FnFrames.mono_l k
  refine ⟨?_, ?_, ?_, ?_⟩
  ·intro y0 y1 y2
   unfold laws_FnFrames.j0
   repeat' first
   | (with_reducible exact ih0 _ _ _)
   | (with_reducible exact ih1 _ _ _ _ _ _ _ _ _ _ _ _ _)
   | (with_reducible exact ih2 _ _ _ _ _ _ _ _ _ _ _ _ _ _)
   | (with_reducible exact ih3 _ _ _ _ _ _ _ _ _ _ _ _ _ _)
   | (with_reducible exact impl_Feed.mono _ _ _ _ _ _)
   | (with_reducible exact impl_ValidDecoder.mono _ _ _ _ _)
   | (with_reducible exact laws_wDecoder.mono _ _ _ _ _ _ _ _ _)
   | (with_reducible exact laws_wTexts.mono _ _ _)
   | (with_reducible exact spec_DrawEncode.mono _ _)
   | (with_reducible exact spec_DrawFeed.mono _ _)
   | (with_reducible exact spec_Encode.mono _ _ _)
   | (with_reducible exact spec_Feed.mono _ _ _ _ _ _)
   | (with_reducible exact spec_ValidDecoder.mono _ _ _ _ _)
   | (with_reducible exact LeO.refl _)
   | (with_reducible exact LeO.none _)
   | (with_reducible refine LeO.ite ?_ ?_)
   | (with_reducible refine LeO.bind ?_ (fun _ => ?_))
   | exact ih0 _ _ _
   | exact ih1 _ _ _ _ _ _ _ _ _ _ _ _ _
   | exact ih2 _ _ _ _ _ _ _ _ _ _ _ _ _ _
   | exact ih3 _ _ _ _ _ _ _ _ _ _ _ _ _ _
   | exact impl_Feed.mono _ _ _ _ _ _
   | exact impl_ValidDecoder.mono _ _ _ _ _
   | exact laws_wDecoder.mono _ _ _ _ _ _ _ _ _
   | exact laws_wTexts.mono _ _ _
   | exact spec_DrawEncode.mono _ _
   | exact spec_DrawFeed.mono _ _
   | exact spec_Encode.mono _ _ _
   | exact spec_Feed.mono _ _ _ _ _ _
   | exact spec_ValidDecoder.mono _ _ _ _ _
   | exact LeO.none _
   | refine LeO.ite ?_ ?_
   | refine LeO.bind ?_ (fun _ => ?_)
  ·intro y0 y1 y2 y3 y4 y5 y6 y7 y8 y9 y10 y11 y12
   unfold laws_FnFrames.l0
   repeat' first
   | (with_reducible exact ih0 _ _ _)
   | (with_reducible exact ih1 _ _ _ _ _ _ _ _ _ _ _ _ _)
   | (with_reducible exact ih2 _ _ _ _ _ _ _ _ _ _ _ _ _ _)
   | (with_reducible exact ih3 _ _ _ _ _ _ _ _ _ _ _ _ _ _)
   | (with_reducible exact impl_Feed.mono _ _ _ _ _ _)
   | (with_reducible exact impl_ValidDecoder.mono _ _ _ _ _)
   | (with_reducible exact laws_wDecoder.mono _ _ _ _ _ _ _ _ _)
   | (with_reducible exact laws_wTexts.mono _ _ _)
   | (with_reducible exact spec_DrawEncode.mono _ _)
   | (with_reducible exact spec_DrawFeed.mono _ _)
   | (with_reducible exact spec_Encode.mono _ _ _)
   | (with_reducible exact spec_Feed.mono _ _ _ _ _ _)
   | (with_reducible exact spec_ValidDecoder.mono _ _ _ _ _)
   | (with_reducible exact LeO.refl _)
   | (with_reducible exact LeO.none _)
   | (with_reducible refine LeO.ite ?_ ?_)
   | (with_reducible refine LeO.bind ?_ (fun _ => ?_))
   | exact ih0 _ _ _
   | exact ih1 _ _ _ _ _ _ _ _ _ _ _ _ _
   | exact ih2 _ _ _ _ _ _ _ _ _ _ _ _ _ _
   | exact ih3 _ _ _ _ _ _ _ _ _ _ _ _ _ _
   | exact impl_Feed.mono _ _ _ _ _ _
   | exact impl_ValidDecoder.mono _ _ _ _ _
   | exact laws_wDecoder.mono _ _ _ _ _ _ _ _ _
   | exact laws_wTexts.mono _ _ _
   | exact spec_DrawEncode.mono _ _
   | exact spec_DrawFeed.mono _ _
   | exact spec_Encode.mono _ _ _
   | exact spec_Feed.mono _ _ _ _ _ _
   | exact spec_ValidDecoder.mono _ _ _ _ _
   | exact LeO.none _
   | refine LeO.ite ?_ ?_
   | refine LeO.bind ?_ (fun _ => ?_)
  ·intro y0 y1 y2 y3 y4 y5 y6 y7 y8 y9 y10 y11 y12 y13
   unfold laws_FnFrames.j2
   repeat' first
   | (with_reducible exact ih0 _ _ _)
   | (with_reducible exact ih1 _ _ _ _ _ _ _ _ _ _ _ _ _)
   | (with_reducible exact ih2 _ _ _ _ _ _ _ _ _ _ _ _ _ _)
   | (with_reducible exact ih3 _ _ _ _ _ _ _ _ _ _ _ _ _ _)
   | (with_reducible exact impl_Feed.mono _ _ _ _ _ _)
   | (with_reducible exact impl_ValidDecoder.mono _ _ _ _ _)
   | (with_reducible exact laws_wDecoder.mono _ _ _ _ _ _ _ _ _)
   | (with_reducible exact laws_wTexts.mono _ _ _)
   | (with_reducible exact spec_DrawEncode.mono _ _)
   | (with_reducible exact spec_DrawFeed.mono _ _)
   | (with_reducible exact spec_Encode.mono _ _ _)
   | (with_reducible exact spec_Feed.mono _ _ _ _ _ _)
   | (with_reducible exact spec_ValidDecoder.mono _ _ _ _ _)
   | (with_reducible exact LeO.refl _)
   | (with_reducible exact LeO.none _)
   | (with_reducible refine LeO.ite ?_ ?_)
   | (with_reducible refine LeO.bind ?_ (fun _ => ?_))
   | exact ih0 _ _ _
   | exact ih1 _ _ _ _ _ _ _ _ _ _ _ _ _
   | exact ih2 _ _ _ _ _ _ _ _ _ _ _ _ _ _
   | exact ih3 _ _ _ _ _ _ _ _ _ _ _ _ _ _
   | exact impl_Feed.mono _ _ _ _ _ _
   | exact impl_ValidDecoder.mono _ _ _ _ _
   | exact laws_wDecoder.mono _ _ _ _ _ _ _ _ _
   | exact laws_wTexts.mono _ _ _
   | exact spec_DrawEncode.mono _ _
   | exact spec_DrawFeed.mono _ _
   | exact spec_Encode.mono _ _ _
   | exact spec_Feed.mono _ _ _ _ _ _
   | exact spec_ValidDecoder.mono _ _ _ _ _
   | exact LeO.none _
   | refine LeO.ite ?_ ?_
   | refine LeO.bind ?_ (fun _ => ?_)
  ·intro y0 y1 y2 y3 y4 y5 y6 y7 y8 y9 y10 y11 y12 y13
   unfold laws_FnFrames.j3
   repeat' first
   | (with_reducible exact ih0 _ _ _)
   | (with_reducible exact ih1 _ _ _ _ _ _ _ _ _ _ _ _ _)
   | (with_reducible exact ih2 _ _ _ _ _ _ _ _ _ _ _ _ _ _)
   | (with_reducible exact ih3 _ _ _ _ _ _ _ _ _ _ _ _ _ _)
   | (with_reducible exact impl_Feed.mono _ _ _ _ _ _)
   | (with_reducible exact impl_ValidDecoder.mono _ _ _ _ _)
   | (with_reducible exact laws_wDecoder.mono _ _ _ _ _ _ _ _ _)
   | (with_reducible exact laws_wTexts.mono _ _ _)
   | (with_reducible exact spec_DrawEncode.mono _ _)
   | (with_reducible exact spec_DrawFeed.mono _ _)
   | (with_reducible exact spec_Encode.mono _ _ _)
   | (with_reducible exact spec_Feed.mono _ _ _ _ _ _)
   | (with_reducible exact spec_ValidDecoder.mono _ _ _ _ _)
   | (with_reducible exact LeO.refl _)
   | (with_reducible exact LeO.none _)
   | (with_reducible refine LeO.ite ?_ ?_)
   | (with_reducible refine LeO.bind ?_ (fun _ => ?_))
   | exact ih0 _ _ _
   | exact ih1 _ _ _ _ _ _ _ _ _ _ _ _ _
   | exact ih2 _ _ _ _ _ _ _ _ _ _ _ _ _ _
   | exact ih3 _ _ _ _ _ _ _ _ _ _ _ _ _ _
   | exact impl_Feed.mono _ _ _ _ _ _
   | exact impl_ValidDecoder.mono _ _ _ _ _
   | exact laws_wDecoder.mono _ _ _ _ _ _ _ _ _
   | exact laws_wTexts.mono _ _ _
   | exact spec_DrawEncode.mono _ _
   | exact spec_DrawFeed.mono _ _
   | exact spec_Encode.mono _ _ _
   | exact spec_Feed.mono _ _ _ _ _ _
   | exact spec_ValidDecoder.mono _ _ _ _ _
   | exact LeO.none _
   | refine LeO.ite ?_ ?_
   | refine LeO.bind ?_ (fun _ => ?_)
theorem laws_FnFrames.mono : ∀ a0 a1 k, LeO (laws_FnFrames.f k a0 a1) (laws_FnFrames.f (k + 1) a0 a1) := by
 intro a0 a1 k
 obtain ⟨ih0, ih1, ih2, ih3⟩ := laws_FnFrames.mono_l k
 unfold laws_FnFrames.f
 repeat' first
   | (with_reducible exact ih0 _ _ _)
   | (with_reducible exact ih1 _ _ _ _ _ _ _ _ _ _ _ _ _)
   | (with_reducible exact ih2 _ _ _ _ _ _ _ _ _ _ _ _ _ _)
   | (with_reducible exact ih3 _ _ _ _ _ _ _ _ _ _ _ _ _ _)
   | (with_reducible exact impl_Feed.mono _ _ _ _ _ _)
   | (with_reducible exact impl_ValidDecoder.mono _ _ _ _ _)
   | (with_reducible exact laws_wDecoder.mono _ _ _ _ _ _ _ _ _)
   | (with_reducible exact laws_wTexts.mono _ _ _)
   | (with_reducible exact spec_DrawEncode.mono _ _)
   | (with_reducible exact spec_DrawFeed.mono _ _)
   | (with_reducible exact spec_Encode.mono _ _ _)
   | (with_reducible exact spec_Feed.mono _ _ _ _ _ _)
   | (with_reducible exact spec_ValidDecoder.mono _ _ _ _ _)
   | (with_reducible exact LeO.refl _)
   | (with_reducible exact LeO.none _)
   | (with_reducible refine LeO.ite ?_ ?_)
   | (with_reducible refine LeO.bind ?_ (fun _ => ?_))
   | exact ih0 _ _ _
   | exact ih1 _ _ _ _ _ _ _ _ _ _ _ _ _
   | exact ih2 _ _ _ _ _ _ _ _ _ _ _ _ _ _
   | exact ih3 _ _ _ _ _ _ _ _ _ _ _ _ _ _
   | exact impl_Feed.mono _ _ _ _ _ _
   | exact impl_ValidDecoder.mono _ _ _ _ _
   | exact laws_wDecoder.mono _ _ _ _ _ _ _ _ _
   | exact laws_wTexts.mono _ _ _
   | exact spec_DrawEncode.mono _ _
   | exact spec_DrawFeed.mono _ _
   | exact spec_Encode.mono _ _ _
   | exact spec_Feed.mono _ _ _ _ _ _
   | exact spec_ValidDecoder.mono _ _ _ _ _
   | exact LeO.none _
   | refine LeO.ite ?_ ?_
   | refine LeO.bind ?_ (fun _ => ?_)
def laws_FnFrames.T19 : Bool × List (List Nat × List Nat) := (true, [([], []), ([], []), ([], []), ([], []), ([], []), ([3, 4], [3, 4]), ([1, 2, 5], [1, 2, 5]), ([0, 6], [0, 6]), ([7, 7, 0, 1, 2, 3, 4, 5, 6, 7], [7])])
def laws_FnFrames.B19 : List Nat := [0, 0, 0, 0, 0, 24, 62, 127, 255]
theorem laws_FnFrames.tab19 : rtab .any (opsOf Try.f3 19) = laws_FnFrames.T19 := by kernel_rfl
theorem laws_FnFrames.bits19 : waitsOk laws_FnFrames.T19.2 laws_FnFrames.B19 = true := by kernel_rfl
set_option maxHeartbeats 2000000 in
set_option maxRecDepth 100000 in
theorem laws_FnFrames.calls (k : Nat) (A0 : Option Addr) (c0 : Nat) (l0 : List Int) (A1 : Option Addr) (c1 : Nat) (l1 : List Int) (r : Bool) (w : World) (hr0 : Kd.C (Kd.int .u8) w A0 l0.length l0) (hc0 : l0.length ≤ c0) (hr1 : Kd.C (Kd.int .u8) w A1 l1.length l1) (hc1 : l1.length ≤ c1) (h : laws_FnFrames.f k l0 l1 = some r) :
  Calls Try.prog 3 #[.slice A0 l0.length c0, .slice A1 l1.length c1] w fun e w' => e = .returned (.bool r) ∧ Below w.heap.size w w' := by
 have hu25 := Try.underlying25
 have HR0 := Aside0.mk hr0
 have HC0 := Aside0.mk hc0
 clear hr0 hc0
 have HR1 := Aside0.mk hr1
 have HC1 := Aside0.mk hc1
 clear hr1 hc1
 have HB := Aside0.mk (Below.refl w.heap.size w)
 have H : (if (l0.length : Int) > 1048576 then (laws_FnFrames.j0 k l0 l1 true) else (laws_FnFrames.j0 k l0 l1 (decide ((l1.length : Int) > 1048576)))) = some r := h
 clear h
 have HC3 := Aside0.mk H
 clear H
 go_enter Try.func3, Try.ntmps3
 go_upto_region 1 with (fail)
 go_cut [23] (fun v23 wc => ∃ (kq : Nat) (x23_2 : Bool), v23 = .bool x23_2 ∧ Aside0 (laws_FnFrames.j0 kq l0 l1 x23_2 = some r) ∧ Aside0 (kq ≤ k) ∧ Aside0 (Below w.heap.size w wc))
 case first =>
  have H := HC3.out
  clear HC3
  by_cases c4 : (l0.length : Int) > 1048576
  ·rw [if_pos c4] at H
   have c4b0 : decide (1048576 < (l0.length : Int)) = true := decide_eq_true c4
   have c4b1 : decide (1048576 < l0.length) = true := decide_eq_true zq99
   clear c4
   (first | rw [c4b0] | (simp only [i64_w, i32_w]; rw [c4b0]) | skip)
   have H' := Aside0.mk H
   clear H
   go_wp2
   go_meet
   case rel => exact ⟨_, (true), zq22, H', ⟨zq74⟩, ⟨zq1⟩⟩
  ·rw [if_neg c4] at H
   have c4b0 : decide (1048576 < (l0.length : Int)) = false := decide_eq_false c4
   have c4b1 : decide (1048576 < l0.length) = false := decide_eq_false zq99
   clear c4
   (first | rw [c4b0] | (simp only [i64_w, i32_w]; rw [c4b0]) | skip)
   have H' := Aside0.mk H
   clear H
   go_wp2
   go_meet
   case rel => exact ⟨_, (decide ((l1.length : Int) > 1048576)), zq22, H', ⟨zq74⟩, ⟨zq1⟩⟩
 case rest =>
  clear HC3
  try clear c1
  try clear p2
  try clear c3
  try clear c4
  try clear c4b0
  try clear c4b1
  obtain ⟨kq, x23_2, rfl, HA, HJ2, HB⟩ := hcut
  cases kq with
  | zero => exact absurd HA.out (by simp [laws_FnFrames.j0])
  | succ kj2 =>
   have H := HA.out
   clear HA
   simp only [laws_FnFrames.j0] at H
   by_cases c5 : x23_2 = true
   ·subst c5
    rw [if_pos rfl] at H
    obtain rfl := Option.some.inj H
    go_wp2
    go_ret
    exact ⟨zq8, zq1⟩
   ·replace c5 := Bool.eq_false_iff.mpr c5
    subst c5
    rw [if_neg (show ¬ (false = true) by decide)] at H
    replace H := Option.bind_eq_some_iff.mp H
    obtain ⟨⟨t387, t388, t389, t392, t393⟩, A60, H⟩ := H
    try dsimp only at H
    have A6 := Aside0.mk A60
    clear A60
    replace H := Option.bind_eq_some_iff.mp H
    obtain ⟨⟨t395, t396, t397, t400⟩, A70, H⟩ := H
    try dsimp only at H
    have A7 := Aside0.mk A70
    clear A70
    replace H := Option.bind_eq_some_iff.mp H
    obtain ⟨⟨t402, t403, t404, t407⟩, A80, H⟩ := H
    try dsimp only at H
    have A8 := Aside0.mk A80
    clear A80
    replace H := Option.bind_eq_some_iff.mp H
    obtain ⟨t408, A90, H⟩ := H
    try dsimp only at H
    have A9 := Aside0.mk A90
    clear A90
    by_cases c10 : t408 = true
    ·subst c10
     rw [if_pos rfl] at H
     replace H := Option.bind_eq_some_iff.mp H
     obtain ⟨t409, A110, H⟩ := H
     try dsimp only at H
     have A11 := Aside0.mk A110
     clear A110
     by_cases c12 : t409 = true
     ·subst c12
      rw [if_pos rfl] at H
      have H' := Aside0.mk H
      clear H
      try go_wp2_with (first | ((with_reducible refine gate_callee (f := 6) rfl ?_); refine goesL_ (some 26) rfl rfl Try.func6 zq19 rfl #[.slice A0 l0.length c0] rfl zq0 ?_; (with_reducible refine (spec_DrawFeed.calls kj2 _ _ l0 t387 t388 t389 t392 t393 _ ?side1 ?side2 A6.out).mono ?_); (case side1 => repeat (first | exact (Kd.C_below HR0.out HB.out) | (with_reducible refine Kd.C_alloc ?_ _) | (with_reducible refine Kd.C_drewN ?_ _) | (with_reducible refine Kd.C_drew ?_))); (case side2 => exact HC0.out); rintro e w13 ⟨v390, rfl, ho0, hb⟩; refine ⟨_, rfl, ?_⟩; have n0_ := Aside0.mk (Kd.R_lower ho0 (below_size zq1)); have n1_ := Aside0.mk (below_step zq1 hb); clear HB; have HO391 := n0_; have HB := n1_; clear n0_ n1_; (try clear hb); (try clear hb2); (try clear hk); (try clear hi); (try clear ho0)) | ((with_reducible refine gate_dst (N := 5) rfl ?_); (try (refine gate_guard zq90 ?_; dsimp only)); refine box_event ?hg (N := 5) ?hd (cs := #[.int .i64 0, .string (⟨#[]⟩ : ByteArray), .slice none 0 0, .bool false]) (t := 25) ?hr ?_; (case hd => rfl); (case hg => rfl); (case hr => first | (go_simp; done) | (go_simp; rfl)); intro gb394 hg w14 hbox hb; have n0_ := Aside0.mk (Kd.R_below zq42 hb); have n1_ := Aside0.mk (below_step zq1 hb); have n2_ := Aside0.mk (hbox); have n3_ := Aside0.mk ((by rw [hg]; exact (below_size zq1) : w.heap.size ≤ gb394)); have n4_ := Aside0.mk ((by rw [hg]; exact (below_size zq1) : w.heap.size ≤ gb394)); clear HO391; clear HB; have HO391 := n0_; have HB := n1_; have BK394 := n2_; have GW394 := n3_; have GE394 := n4_; clear n0_ n1_ n2_ n3_ n4_; clear hb hbox hg; have hcz15_0 : w14.cell? ⟨gb394, 0, none⟩ = some (.int .i64 0) := (blk_cell BK394.out 0).trans rfl; have hcz15_1 : w14.cell? ⟨gb394, 1, none⟩ = some (.string (⟨#[]⟩ : ByteArray)) := (blk_cell BK394.out 1).trans rfl; have hcz15_2 : w14.cell? ⟨gb394, 2, none⟩ = some (.slice none 0 0) := (blk_cell BK394.out 2).trans rfl; have hcz15_3 : w14.cell? ⟨gb394, 3, none⟩ = some (.bool false) := (blk_cell BK394.out 3).trans rfl; have hfz15_0 := blk_frozen BK394.out 0; have hfz15_1 := blk_frozen BK394.out 1; have hfz15_2 := blk_frozen BK394.out 2; have hfz15_3 := blk_frozen BK394.out 3; obtain ⟨Ao16, co16, eo16⟩ := Kd.R_slice HO391.out; subst eo16) | ((with_reducible refine gate_callee (f := 7) rfl ?_); refine goesL_ (some 31) rfl rfl Try.func7 zq19 rfl #[.agg #[.int .i64 t387, .string t388, .slice Ao16 t389.length co16, .bool t392], .string t393] rfl zq0 ?_; (with_reducible refine (impl_Feed.calls kj2 t387 t388 _ _ t389 t392 t393 t395 t396 t397 t400 _ ?side1 ?side2 A7.out).mono ?_); (case side1 => refine (Kd.R_reads' (e := 9) (base := w.heap.size) (ok := fun k_ => True) (n := t389.length) (c := co16) ?_).2.2; exact (by (with_reducible repeat (first | apply Kd.R_alloc | apply Kd.R_drewN | apply Kd.R_drew)); exact (Kd.R_mono (Kd.R_far (p := ⟨gb394, 3, none⟩) (Kd.R_far (p := ⟨gb394, 2, none⟩) (Kd.R_far (p := ⟨gb394, 1, none⟩) (Kd.R_far (p := ⟨gb394, 0, none⟩) (Kd.R_types HO391.out BK394.out zq60) (fun _ hk => hk.2) (.int .i64 t387)) (fun _ hk => hk.2) (.string t388)) (fun _ hk => hk.2) (.slice Ao16 t389.length co16)) (fun _ hk => hk.2) (.bool t392)) (fun _ h_ => h_.1)))); (case side2 => exact (Kd.R_reads' HO391.out).2.1); rintro e w17 ⟨v398, rfl, ho0, hb⟩; refine ⟨_, rfl, ?_⟩; have n0_ := Aside0.mk (Kd.R_elder' (by (with_reducible repeat (first | apply Kd.R_alloc | apply Kd.R_drewN | apply Kd.R_drew)); exact (Kd.R_mono (Kd.R_far (p := ⟨gb394, 3, none⟩) (Kd.R_far (p := ⟨gb394, 2, none⟩) (Kd.R_far (p := ⟨gb394, 1, none⟩) (Kd.R_far (p := ⟨gb394, 0, none⟩) (Kd.R_types HO391.out BK394.out zq60) (fun _ hk => hk.2) (.int .i64 t387)) (fun _ hk => hk.2) (.string t388)) (fun _ hk => hk.2) (.slice Ao16 t389.length co16)) (fun _ hk => hk.2) (.bool t392)) (fun _ h_ => h_.1))) (Kd.R_base ho0) hb); have n1_ := Aside0.mk (Kd.R_lower (Kd.R_new' ho0 (Kd.R_lt (by (with_reducible repeat (first | apply Kd.R_alloc | apply Kd.R_drewN | apply Kd.R_drew)); exact (Kd.R_mono (Kd.R_far (p := ⟨gb394, 3, none⟩) (Kd.R_far (p := ⟨gb394, 2, none⟩) (Kd.R_far (p := ⟨gb394, 1, none⟩) (Kd.R_far (p := ⟨gb394, 0, none⟩) (Kd.R_types HO391.out BK394.out zq60) (fun _ hk => hk.2) (.int .i64 t387)) (fun _ hk => hk.2) (.string t388)) (fun _ hk => hk.2) (.slice Ao16 t389.length co16)) (fun _ hk => hk.2) (.bool t392)) (fun _ h_ => h_.1))))) (below_size zq36)); have n2_ := Aside0.mk (blk_below (g := gb394) (o := .cells #[.int .i64 t387, .string t388, .slice Ao16 t389.length co16, .bool t392] 25 (0, 0)) (by (with_reducible repeat (first | refine blk_drewN ?_ _ | refine blk_drew ?_ | refine blk_alloc ?_ _)); refine blk_put (cs := #[.int .i64 t387, .string t388, .slice Ao16 t389.length co16, .bool false]) ?_ 3 _ rfl; (with_reducible repeat (first | refine blk_drewN ?_ _ | refine blk_drew ?_ | refine blk_alloc ?_ _)); refine blk_put (cs := #[.int .i64 t387, .string t388, .slice none 0 0, .bool false]) ?_ 2 _ rfl; (with_reducible repeat (first | refine blk_drewN ?_ _ | refine blk_drew ?_ | refine blk_alloc ?_ _)); refine blk_put (cs := #[.int .i64 t387, .string (⟨#[]⟩ : ByteArray), .slice none 0 0, .bool false]) ?_ 1 _ rfl; (with_reducible repeat (first | refine blk_drewN ?_ _ | refine blk_drew ?_ | refine blk_alloc ?_ _)); refine blk_put (cs := #[.int .i64 0, .string (⟨#[]⟩ : ByteArray), .slice none 0 0, .bool false]) ?_ 0 _ rfl; (with_reducible repeat (first | refine blk_drewN ?_ _ | refine blk_drew ?_ | refine blk_alloc ?_ _)); exact BK394.out) hb); have n3_ := Aside0.mk (below_step zq36 hb); clear HO391; clear BK394; clear HB; have HO391 := n0_; have HO399 := n1_; have BK394 := n2_; have HB := n3_; clear n0_ n1_ n2_ n3_; (try clear hb); (try clear hb2); (try clear hk); (try clear hi); (try clear ho0)) | ((with_reducible refine gate_dst (N := 7) rfl ?_); (try (refine gate_guard zq90 ?_; dsimp only)); refine box_event ?hg (N := 7) ?hd (cs := #[.int .i64 0, .string (⟨#[]⟩ : ByteArray), .slice none 0 0, .bool false]) (t := 25) ?hr ?_; (case hd => rfl); (case hg => rfl); (case hr => first | (go_simp; done) | (go_simp; rfl)); intro gb401 hg w18 hbox hb; have n0_ := Aside0.mk (Kd.R_below zq42 hb); have n1_ := Aside0.mk (Kd.R_below zq46 hb); have n2_ := Aside0.mk (blk_below (g := gb394) (o := .cells #[.int .i64 t387, .string t388, .slice Ao16 t389.length co16, .bool t392] 25 (0, 0)) zq34 hb); have n3_ := Aside0.mk (below_step zq36 hb); have n4_ := Aside0.mk (hbox); have n5_ := Aside0.mk ((by rw [hg]; exact (below_size zq36) : w.heap.size ≤ gb401)); have n6_ := Aside0.mk ((by rw [hg]; exact (below_size zq36) : w.heap.size ≤ gb401)); have n7_ := Aside0.mk ((by rw [hg]; exact Nat.ne_of_lt (blk_lt (g := gb394) (o := .cells #[.int .i64 t387, .string t388, .slice Ao16 t389.length co16, .bool t392] 25 (0, 0)) zq34) : gb394 ≠ gb401)); have n8_ := Aside0.mk ((by rw [hg]; exact Nat.ne_of_gt (blk_lt (g := gb394) (o := .cells #[.int .i64 t387, .string t388, .slice Ao16 t389.length co16, .bool t392] 25 (0, 0)) zq34) : gb401 ≠ gb394)); clear HO391; clear HO399; clear BK394; clear HB; have HO391 := n0_; have HO399 := n1_; have BK394 := n2_; have HB := n3_; have BK401 := n4_; have GW401 := n5_; have GE401 := n6_; have NB394_401 := n7_; have NB401_394 := n8_; clear n0_ n1_ n2_ n3_ n4_ n5_ n6_ n7_ n8_; clear hb hbox hg; have hnb19 := NB401_394.out; have hnc19 := NB394_401.out; have hcz20_0 : w18.cell? ⟨gb401, 0, none⟩ = some (.int .i64 0) := (blk_cell BK401.out 0).trans rfl; have hcz20_1 : w18.cell? ⟨gb401, 1, none⟩ = some (.string (⟨#[]⟩ : ByteArray)) := (blk_cell BK401.out 1).trans rfl; have hcz20_2 : w18.cell? ⟨gb401, 2, none⟩ = some (.slice none 0 0) := (blk_cell BK401.out 2).trans rfl; have hcz20_3 : w18.cell? ⟨gb401, 3, none⟩ = some (.bool false) := (blk_cell BK401.out 3).trans rfl; have hfz20_0 := blk_frozen BK401.out 0; have hfz20_1 := blk_frozen BK401.out 1; have hfz20_2 := blk_frozen BK401.out 2; have hfz20_3 := blk_frozen BK401.out 3; obtain ⟨Ao21, co21, eo21⟩ := Kd.R_slice HO399.out; subst eo21))
      have n0_ : Aside0 (Kd.R Kd.string 9 ((((w18.setCell ⟨gb401, 0, none⟩ (.int .i64 t395)).setCell ⟨gb401, 1, none⟩ (.string t396)).setCell ⟨gb401, 2, none⟩ (.slice Ao21 t397.length co21)).setCell ⟨gb401, 3, none⟩ (.bool t400)) w.heap.size (fun k_ => some k_ ≠ (.slice Ao21 t397.length co21 : Value).ownBlock) (.slice Ao16 t389.length co16) t389) := ⟨by (with_reducible repeat (first | apply Kd.R_alloc | apply Kd.R_drewN | apply Kd.R_drew)); exact Kd.R_mono (Kd.R_far (p := ⟨gb401, 3, none⟩) (Kd.R_far (p := ⟨gb401, 2, none⟩) (Kd.R_far (p := ⟨gb401, 1, none⟩) (Kd.R_far (p := ⟨gb401, 0, none⟩) (Kd.R_types HO391.out BK401.out zq60) (fun _ hk => hk.2) (.int .i64 t395)) (fun _ hk => hk.2) (.string t396)) (fun _ hk => hk.2) (.slice Ao21 t397.length co21)) (fun _ hk => hk.2) (.bool t400)) (fun _ hk => hk.1.2)⟩
      have n1_ : Aside0 (Kd.R Kd.string 9 ((((w18.setCell ⟨gb401, 0, none⟩ (.int .i64 t395)).setCell ⟨gb401, 1, none⟩ (.string t396)).setCell ⟨gb401, 2, none⟩ (.slice Ao21 t397.length co21)).setCell ⟨gb401, 3, none⟩ (.bool t400)) w.heap.size (fun k_ => some k_ ≠ (.slice Ao16 t389.length co16 : Value).ownBlock) (.slice Ao21 t397.length co21) t397) := ⟨by (with_reducible repeat (first | apply Kd.R_alloc | apply Kd.R_drewN | apply Kd.R_drew)); exact Kd.R_mono (Kd.R_far (p := ⟨gb401, 3, none⟩) (Kd.R_far (p := ⟨gb401, 2, none⟩) (Kd.R_far (p := ⟨gb401, 1, none⟩) (Kd.R_far (p := ⟨gb401, 0, none⟩) (Kd.R_types HO399.out BK401.out zq60) (fun _ hk => hk.2) (.int .i64 t395)) (fun _ hk => hk.2) (.string t396)) (fun _ hk => hk.2) (.slice Ao21 t397.length co21)) (fun _ hk => hk.2) (.bool t400)) (fun _ hk => hk.1.2)⟩
      have n2_ : Aside0 (((((w18.setCell ⟨gb401, 0, none⟩ (.int .i64 t395)).setCell ⟨gb401, 1, none⟩ (.string t396)).setCell ⟨gb401, 2, none⟩ (.slice Ao21 t397.length co21)).setCell ⟨gb401, 3, none⟩ (.bool t400)).heap[gb394]? = some (.cells #[.int .i64 t387, .string t388, .slice Ao16 t389.length co16, .bool t392] 25 (0, 0))) := ⟨zq50⟩
      have n3_ : Aside0 (((((w18.setCell ⟨gb401, 0, none⟩ (.int .i64 t395)).setCell ⟨gb401, 1, none⟩ (.string t396)).setCell ⟨gb401, 2, none⟩ (.slice Ao21 t397.length co21)).setCell ⟨gb401, 3, none⟩ (.bool t400)).heap[gb401]? = some (.cells #[.int .i64 t395, .string t396, .slice Ao21 t397.length co21, .bool t400] 25 (0, 0))) := ⟨by (with_reducible repeat (first | refine blk_drewN ?_ _ | refine blk_drew ?_ | refine blk_alloc ?_ _)); refine blk_put (cs := #[.int .i64 t395, .string t396, .slice Ao21 t397.length co21, .bool false]) ?_ 3 _ rfl; (with_reducible repeat (first | refine blk_drewN ?_ _ | refine blk_drew ?_ | refine blk_alloc ?_ _)); refine blk_put (cs := #[.int .i64 t395, .string t396, .slice none 0 0, .bool false]) ?_ 2 _ rfl; (with_reducible repeat (first | refine blk_drewN ?_ _ | refine blk_drew ?_ | refine blk_alloc ?_ _)); refine blk_put (cs := #[.int .i64 t395, .string (⟨#[]⟩ : ByteArray), .slice none 0 0, .bool false]) ?_ 1 _ rfl; (with_reducible repeat (first | refine blk_drewN ?_ _ | refine blk_drew ?_ | refine blk_alloc ?_ _)); refine blk_put (cs := #[.int .i64 0, .string (⟨#[]⟩ : ByteArray), .slice none 0 0, .bool false]) ?_ 0 _ rfl; (with_reducible repeat (first | refine blk_drewN ?_ _ | refine blk_drew ?_ | refine blk_alloc ?_ _)); exact BK401.out⟩
      have n4_ : Aside0 (Below w.heap.size w ((((w18.setCell ⟨gb401, 0, none⟩ (.int .i64 t395)).setCell ⟨gb401, 1, none⟩ (.string t396)).setCell ⟨gb401, 2, none⟩ (.slice Ao21 t397.length co21)).setCell ⟨gb401, 3, none⟩ (.bool t400))) := ⟨zq24⟩
      (try clear HO391)
      (try clear HO399)
      (try clear BK394)
      (try clear BK401)
      (try clear HB)
      generalize ((((w18.setCell ⟨gb401, 0, none⟩ (.int .i64 t395)).setCell ⟨gb401, 1, none⟩ (.string t396)).setCell ⟨gb401, 2, none⟩ (.slice Ao21 t397.length co21)).setCell ⟨gb401, 3, none⟩ (.bool t400)) = w22 at n0_ n1_ n2_ n3_ n4_ ⊢
      have HO391 := n0_
      have HO399 := n1_
      have BK394 := n2_
      have BK401 := n3_
      have HB := n4_
      clear n0_ n1_ n2_ n3_ n4_
      have n0_ := Aside0.mk (Kd.R_drew HO391.out)
      have n1_ := Aside0.mk (Kd.R_drew HO399.out)
      have n2_ := Aside0.mk (blk_drew BK394.out)
      have n3_ := Aside0.mk (blk_drew BK401.out)
      have n4_ := Aside0.mk (below_drew1 HB.out)
      clear HO391
      clear HO399
      clear BK394
      clear BK401
      clear HB
      have HO391 := n0_
      have HO399 := n1_
      have BK394 := n2_
      have BK401 := n3_
      have HB := n4_
      clear n0_ n1_ n2_ n3_ n4_
      refine start_ (n := 6) (S := fun w' => w'.cell? ⟨gb401, 0, none⟩ = some (.int .i64 t395) ∧ w'.cell? ⟨gb401, 1, none⟩ = some (.string t396) ∧ w'.cell? ⟨gb401, 2, none⟩ = some (.slice Ao21 t397.length co21) ∧ w'.cell? ⟨gb401, 3, none⟩ = some (.bool t400) ∧ w'.cell? ⟨gb394, 0, none⟩ = some (.int .i64 t387) ∧ w'.cell? ⟨gb394, 1, none⟩ = some (.string t388) ∧ w'.cell? ⟨gb394, 2, none⟩ = some (.slice Ao16 t389.length co16) ∧ w'.cell? ⟨gb394, 3, none⟩ = some (.bool t392)) (ds := []) #[false, false, false, false, false, false] zq19 rfl rfl ⟨(blk_cell BK401.out 0).trans rfl, (blk_cell BK401.out 1).trans rfl, (blk_cell BK401.out 2).trans rfl, (blk_cell BK401.out 3).trans rfl, (blk_cell BK394.out 0).trans rfl, (blk_cell BK394.out 1).trans rfl, (blk_cell BK394.out 2).trans rfl, (blk_cell BK394.out 3).trans rfl⟩ (fun hHeld => ?_)
      generalize w22.drew = w23 at HO391 HO399 BK394 BK401 HB hHeld ⊢
      refine pure_ (i := 2) (N := some 34) (v := ?_) (a' := ?_) #[false, false, true, false, false, false] rfl rfl zq19 (fun _ _ _ h => h) (Or.inl ⟨zq90, ?_⟩) ?_ ?_
      rotate_left
      ·intro w'
       go_simp
       with_reducible rfl
      rotate_left
      ·simp only [Act.put, List.setIfInBounds_toArray, List.set_cons_zero, List.set_cons_succ, i64_w, i32_w]
       rfl
      refine take_ (i := 0) (N := some 32) (v := ?_) (a' := ?_) #[true, false, true, false, false, false] rfl rfl zq19 (fun _ _ _ h => h) (Or.inl ⟨zq90, ?_⟩) hHeld ?_ ?_
      rotate_left
      ·rintro w' ⟨s0, s1, s2, s3, s4, s5, s6, s7⟩
       go_simp
       with_reducible rfl
      rotate_left
      ·simp only [Act.put, List.setIfInBounds_toArray, List.set_cons_zero, List.set_cons_succ, i64_w, i32_w]
       rfl
      refine take_ (i := 1) (N := some 33) (v := ?_) (a' := ?_) #[true, true, true, false, false, false] rfl rfl zq19 (fun _ _ _ h => h) (Or.inl ⟨zq90, ?_⟩) hHeld ?_ ?_
      rotate_left
      ·rintro w' ⟨s0, s1, s2, s3, s4, s5, s6, s7⟩
       go_simp
       with_reducible rfl
      rotate_left
      ·simp only [Act.put, List.setIfInBounds_toArray, List.set_cons_zero, List.set_cons_succ, i64_w, i32_w]
       rfl
      refine one_ (i := 3) (N := some 35) #[true, true, true, true, false, false] rfl rfl zq19 zq60 (fun K hK => ?_)
      refine goes_ Try.func9 zq19 rfl #[.agg #[.int .i64 t387, .string t388, .slice Ao16 t389.length co16, .bool t392], .string t393] zq90 rfl rfl zq0 ?_
      with_reducible refine (spec_Feed.calls kj2 t387 t388 _ _ t389 t392 t393 t402 t403 t404 t407 _ ?side1 ?side2 A8.out).mono ?_
      (case side1 => repeat (first | exact (Kd.R_reads' HO391.out).2.2 | (with_reducible refine Kd.C_alloc ?_ _) | (with_reducible refine Kd.C_drewN ?_ _) | (with_reducible refine Kd.C_drew ?_)))
      (case side2 => exact (Kd.R_reads' HO391.out).2.1)
      rintro e w24 ⟨v405, rfl, ho0, hb⟩
      refine ⟨_, rfl, ?_⟩
      have n0_ := Aside0.mk (Kd.R_elder' zq42 (Kd.R_base ho0) hb)
      have n1_ := Aside0.mk (Kd.R_elder' zq46 (Kd.R_base ho0) hb)
      have n2_ := Aside0.mk (Kd.R_lower (Kd.R_new' (Kd.R_new' ho0 (Kd.R_lt zq42)) (Kd.R_lt zq46)) (below_size zq24))
      have n3_ := Aside0.mk (blk_below (g := gb394) (o := .cells #[.int .i64 t387, .string t388, .slice Ao16 t389.length co16, .bool t392] 25 (0, 0)) zq34 hb)
      have n4_ := Aside0.mk (blk_below (g := gb401) (o := .cells #[.int .i64 t395, .string t396, .slice Ao21 t397.length co21, .bool t400] 25 (0, 0)) zq10 hb)
      have n5_ := Aside0.mk (below_step zq24 hb)
      clear HO391
      clear HO399
      clear BK394
      clear BK401
      clear HB
      have HO391 := n0_
      have HO399 := n1_
      have HO406 := n2_
      have BK394 := n3_
      have BK401 := n4_
      have HB := n5_
      clear n0_ n1_ n2_ n3_ n4_ n5_
      (try clear hb)
      (try clear hb2)
      (try clear hk)
      (try clear hi)
      (try clear ho0)
      obtain ⟨Ao25, co25, eo25⟩ := Kd.R_slice HO406.out
      (first | subst eo25 | (injection eo25 with f1_ f2_ f3_; have f4_ := f1_.symm; have f5_ := f3_.symm; clear f1_ f2_ f3_; subst f4_; subst f5_))
      refine hK.out _ _ ⟨(blk_cell BK401.out 0).trans rfl, (blk_cell BK401.out 1).trans rfl, (blk_cell BK401.out 2).trans rfl, (blk_cell BK401.out 3).trans rfl, (blk_cell BK394.out 0).trans rfl, (blk_cell BK394.out 1).trans rfl, (blk_cell BK394.out 2).trans rfl, (blk_cell BK394.out 3).trans rfl⟩ (fun hHeld => ?_)
      clear hK K
      refine norm_ (a' := ?_) ?_ ?_
      rotate_left
      ·show Act.put _ (some 35) _ = _
       simp only [Act.put, List.setIfInBounds_toArray, List.set_cons_zero, List.set_cons_succ, i64_w, i32_w]
       rfl
      refine one_ (i := 4) (N := some 36) #[true, true, true, true, true, false] rfl rfl zq19 zq60 (fun K hK => ?_)
      refine goes_ Try.func8 zq19 rfl #[.agg #[.int .i64 t395, .string t396, .slice Ao21 t397.length co21, .bool t400], .agg #[.int .i64 t402, .string t403, .slice Ao25 t404.length co25, .bool t407]] zq90 rfl rfl zq0 ?_
      with_reducible refine (laws_wDecoder.calls kj2 t395 t396 _ _ t397 t400 t402 t403 _ _ t404 t407 true _ ?side1 ?side2 ?side3 ?side4 A9.out).mono ?_
      (case side1 => repeat (first | exact (Kd.R_reads' HO399.out).2.2 | (with_reducible refine Kd.C_alloc ?_ _) | (with_reducible refine Kd.C_drewN ?_ _) | (with_reducible refine Kd.C_drew ?_)))
      (case side2 => exact (Kd.R_reads' HO399.out).2.1)
      (case side3 => repeat (first | exact (Kd.R_reads' HO406.out).2.2 | (with_reducible refine Kd.C_alloc ?_ _) | (with_reducible refine Kd.C_drewN ?_ _) | (with_reducible refine Kd.C_drew ?_)))
      (case side4 => exact (Kd.R_reads' HO406.out).2.1)
      rintro e w26 ⟨rfl, hb⟩
      refine ⟨_, rfl, ?_⟩
      have n0_ := Aside0.mk (Kd.R_below zq42 hb)
      have n1_ := Aside0.mk (Kd.R_below zq46 hb)
      have n2_ := Aside0.mk (Kd.R_below zq70 hb)
      have n3_ := Aside0.mk (blk_below (g := gb394) (o := .cells #[.int .i64 t387, .string t388, .slice Ao16 t389.length co16, .bool t392] 25 (0, 0)) zq34 hb)
      have n4_ := Aside0.mk (blk_below (g := gb401) (o := .cells #[.int .i64 t395, .string t396, .slice Ao21 t397.length co21, .bool t400] 25 (0, 0)) zq10 hb)
      have n5_ := Aside0.mk (below_step zq24 hb)
      clear HO391
      clear HO399
      clear HO406
      clear BK394
      clear BK401
      clear HB
      have HO391 := n0_
      have HO399 := n1_
      have HO406 := n2_
      have BK394 := n3_
      have BK401 := n4_
      have HB := n5_
      clear n0_ n1_ n2_ n3_ n4_ n5_
      (try clear hb)
      (try clear hb2)
      (try clear hk)
      (try clear hi)
      refine hK.out _ _ ⟨(blk_cell BK401.out 0).trans rfl, (blk_cell BK401.out 1).trans rfl, (blk_cell BK401.out 2).trans rfl, (blk_cell BK401.out 3).trans rfl, (blk_cell BK394.out 0).trans rfl, (blk_cell BK394.out 1).trans rfl, (blk_cell BK394.out 2).trans rfl, (blk_cell BK394.out 3).trans rfl⟩ (fun hHeld => ?_)
      clear hK K
      refine norm_ (a' := ?_) ?_ ?_
      rotate_left
      ·show Act.put _ (some 36) _ = _
       simp only [Act.put, List.setIfInBounds_toArray, List.set_cons_zero, List.set_cons_succ, i64_w, i32_w]
       rfl
      refine pure_ (i := 5) (N := some 37) (v := ?_) (a' := ?_) #[true, true, true, true, true, true] rfl rfl zq19 (fun _ _ _ h => h) (Or.inl ⟨zq90, ?_⟩) ?_ ?_
      rotate_left
      ·intro w'
       go_simp
       with_reducible rfl
      rotate_left
      ·simp only [Act.put, List.setIfInBounds_toArray, List.set_cons_zero, List.set_cons_succ, i64_w, i32_w]
       rfl
      refine done_ zq19 ?_
      have hcz27_0 : w26.cell? ⟨gb394, 0, none⟩ = some (.int .i64 t387) := (blk_cell BK394.out 0).trans rfl
      have hcz27_1 : w26.cell? ⟨gb394, 1, none⟩ = some (.string t388) := (blk_cell BK394.out 1).trans rfl
      have hcz27_2 : w26.cell? ⟨gb394, 2, none⟩ = some (.slice Ao16 t389.length co16) := (blk_cell BK394.out 2).trans rfl
      have hcz27_3 : w26.cell? ⟨gb394, 3, none⟩ = some (.bool t392) := (blk_cell BK394.out 3).trans rfl
      have hfz27_0 := blk_frozen BK394.out 0
      have hfz27_1 := blk_frozen BK394.out 1
      have hfz27_2 := blk_frozen BK394.out 2
      have hfz27_3 := blk_frozen BK394.out 3
      try go_wp2_with (first | ((with_reducible refine gate_callee (f := 10) rfl ?_); refine goesL_ (some 39) rfl rfl Try.func10 zq19 rfl #[.agg #[.int .i64 t387, .string t388, .slice Ao16 t389.length co16, .bool t392]] rfl zq0 ?_; (with_reducible refine (spec_ValidDecoder.calls kj2 t387 t388 _ _ t389 t392 true _ ?side1 ?side2 A11.out).mono ?_); (case side1 => repeat (first | exact (Kd.R_reads' HO391.out).2.2 | (with_reducible refine Kd.C_alloc ?_ _) | (with_reducible refine Kd.C_drewN ?_ _) | (with_reducible refine Kd.C_drew ?_))); (case side2 => exact (Kd.R_reads' HO391.out).2.1); rintro e w28 ⟨rfl, hb⟩; refine ⟨_, rfl, ?_⟩; have n0_ := Aside0.mk (Kd.R_below zq42 hb); have n1_ := Aside0.mk (Kd.R_below zq46 hb); have n2_ := Aside0.mk (Kd.R_below zq70 hb); have n3_ := Aside0.mk (blk_below (g := gb394) (o := .cells #[.int .i64 t387, .string t388, .slice Ao16 t389.length co16, .bool t392] 25 (0, 0)) zq34 hb); have n4_ := Aside0.mk (blk_below (g := gb401) (o := .cells #[.int .i64 t395, .string t396, .slice Ao21 t397.length co21, .bool t400] 25 (0, 0)) zq10 hb); have n5_ := Aside0.mk (below_step zq24 hb); clear HO391; clear HO399; clear HO406; clear BK394; clear BK401; clear HB; have HO391 := n0_; have HO399 := n1_; have HO406 := n2_; have BK394 := n3_; have BK401 := n4_; have HB := n5_; clear n0_ n1_ n2_ n3_ n4_ n5_; (try clear hb); (try clear hb2); (try clear hk); (try clear hi); have hcz29_0 : w28.cell? ⟨gb394, 0, none⟩ = some (.int .i64 t387) := (blk_cell BK394.out 0).trans rfl; have hcz29_1 : w28.cell? ⟨gb394, 1, none⟩ = some (.string t388) := (blk_cell BK394.out 1).trans rfl; have hcz29_2 : w28.cell? ⟨gb394, 2, none⟩ = some (.slice Ao16 t389.length co16) := (blk_cell BK394.out 2).trans rfl; have hcz29_3 : w28.cell? ⟨gb394, 3, none⟩ = some (.bool t392) := (blk_cell BK394.out 3).trans rfl; have hfz29_0 := blk_frozen BK394.out 0; have hfz29_1 := blk_frozen BK394.out 1; have hfz29_2 := blk_frozen BK394.out 2; have hfz29_3 := blk_frozen BK394.out 3) | ((with_reducible refine gate_dst (N := 8) rfl ?_); (try (refine gate_guard zq90 ?_; dsimp only)); refine box_event ?hg (N := 8) ?hd (cs := #[.int .i64 0, .string (⟨#[]⟩ : ByteArray), .slice none 0 0, .bool false]) (t := 25) ?hr ?_; (case hd => rfl); (case hg => rfl); (case hr => first | (go_simp; done) | (go_simp; rfl)); intro gb411 hg w30 hbox hb; have n0_ := Aside0.mk (Kd.R_below zq42 hb); have n1_ := Aside0.mk (Kd.R_below zq46 hb); have n2_ := Aside0.mk (Kd.R_below zq70 hb); have n3_ := Aside0.mk (blk_below (g := gb394) (o := .cells #[.int .i64 t387, .string t388, .slice Ao16 t389.length co16, .bool t392] 25 (0, 0)) zq34 hb); have n4_ := Aside0.mk (blk_below (g := gb401) (o := .cells #[.int .i64 t395, .string t396, .slice Ao21 t397.length co21, .bool t400] 25 (0, 0)) zq10 hb); have n5_ := Aside0.mk (below_step zq24 hb); have n6_ := Aside0.mk (hbox); have n7_ := Aside0.mk ((by rw [hg]; exact (below_size zq24) : w.heap.size ≤ gb411)); have n8_ := Aside0.mk ((by rw [hg]; exact (below_size zq24) : w.heap.size ≤ gb411)); have n9_ := Aside0.mk ((by rw [hg]; exact Nat.ne_of_lt (blk_lt (g := gb394) (o := .cells #[.int .i64 t387, .string t388, .slice Ao16 t389.length co16, .bool t392] 25 (0, 0)) zq34) : gb394 ≠ gb411)); have n10_ := Aside0.mk ((by rw [hg]; exact Nat.ne_of_gt (blk_lt (g := gb394) (o := .cells #[.int .i64 t387, .string t388, .slice Ao16 t389.length co16, .bool t392] 25 (0, 0)) zq34) : gb411 ≠ gb394)); have n11_ := Aside0.mk ((by rw [hg]; exact Nat.ne_of_lt (blk_lt (g := gb401) (o := .cells #[.int .i64 t395, .string t396, .slice Ao21 t397.length co21, .bool t400] 25 (0, 0)) zq10) : gb401 ≠ gb411)); have n12_ := Aside0.mk ((by rw [hg]; exact Nat.ne_of_gt (blk_lt (g := gb401) (o := .cells #[.int .i64 t395, .string t396, .slice Ao21 t397.length co21, .bool t400] 25 (0, 0)) zq10) : gb411 ≠ gb401)); clear HO391; clear HO399; clear HO406; clear BK394; clear BK401; clear HB; have HO391 := n0_; have HO399 := n1_; have HO406 := n2_; have BK394 := n3_; have BK401 := n4_; have HB := n5_; have BK411 := n6_; have GW411 := n7_; have GE411 := n8_; have NB394_411 := n9_; have NB411_394 := n10_; have NB401_411 := n11_; have NB411_401 := n12_; clear n0_ n1_ n2_ n3_ n4_ n5_ n6_ n7_ n8_ n9_ n10_ n11_ n12_; clear hb hbox hg; have hnb31 := NB411_394.out; have hnc31 := NB394_411.out; have hnb32 := NB411_401.out; have hnc32 := NB401_411.out; have hcz33_0 : w30.cell? ⟨gb411, 0, none⟩ = some (.int .i64 0) := (blk_cell BK411.out 0).trans rfl; have hcz33_1 : w30.cell? ⟨gb411, 1, none⟩ = some (.string (⟨#[]⟩ : ByteArray)) := (blk_cell BK411.out 1).trans rfl; have hcz33_2 : w30.cell? ⟨gb411, 2, none⟩ = some (.slice none 0 0) := (blk_cell BK411.out 2).trans rfl; have hcz33_3 : w30.cell? ⟨gb411, 3, none⟩ = some (.bool false) := (blk_cell BK411.out 3).trans rfl; have hfz33_0 := blk_frozen BK411.out 0; have hfz33_1 := blk_frozen BK411.out 1; have hfz33_2 := blk_frozen BK411.out 2; have hfz33_3 := blk_frozen BK411.out 3))
      go_loopg [9, 10] kj2 (fun kq v9 v10 w' => ∃ (x9_2 : Int) (x10_2 : Int) (x412000_2 : Int) (x412001_2 : ByteArray) (x412002_2 : List ByteArray) (x412003_2 : Bool) (u412002 : Value), v9 = .int .i64 x9_2 ∧ v10 = .int .i64 x10_2 ∧ Aside0 (laws_FnFrames.l0 kq l0 l1 t393 x9_2 x10_2 t395 t396 t397 t400 x412000_2 x412001_2 x412002_2 x412003_2 = some r) ∧ Aside0 (kq ≤ kj2) ∧ Aside0 (Kd.R Kd.string 9 w' w.heap.size (fun k_ => some k_ ≠ (u412002 : Value).ownBlock) (.slice Ao21 t397.length co21) t397) ∧ Aside0 (Kd.R Kd.string 9 w' w.heap.size (fun k_ => some k_ ≠ ((.slice Ao21 t397.length co21) : Value).ownBlock) u412002 x412002_2) ∧ Aside0 (w'.heap[gb401]? = some (.cells #[.int .i64 t395, .string t396, (.slice Ao21 t397.length co21), .bool t400] 25 (0, 0))) ∧ Aside0 (w'.heap[gb411]? = some (.cells #[.int .i64 x412000_2, .string x412001_2, u412002, .bool x412003_2] 25 (0, 0))) ∧ Aside0 (Below w.heap.size w w'))
      case atStart => exact ⟨(0), (0), (t387), (t388), (t389), (t392), (.slice Ao16 t389.length co16), zq22, zq22, H', ⟨Nat.le_refl _⟩, ⟨by (with_reducible repeat (first | apply Kd.R_alloc | apply Kd.R_drewN | apply Kd.R_drew)); exact Kd.R_mono (Kd.R_far (p := ⟨gb411, 3, none⟩) (Kd.R_far (p := ⟨gb411, 2, none⟩) (Kd.R_far (p := ⟨gb411, 1, none⟩) (Kd.R_far (p := ⟨gb411, 0, none⟩) (Kd.R_types HO399.out BK411.out zq60) (fun _ hk => hk.2) (.int .i64 t387)) (fun _ hk => hk.2) (.string t388)) (fun _ hk => hk.2) (.slice Ao16 t389.length co16)) (fun _ hk => hk.2) (.bool t392)) (fun _ hk => hk.1.1)⟩, ⟨by (with_reducible repeat (first | apply Kd.R_alloc | apply Kd.R_drewN | apply Kd.R_drew)); exact Kd.R_mono (Kd.R_far (p := ⟨gb411, 3, none⟩) (Kd.R_far (p := ⟨gb411, 2, none⟩) (Kd.R_far (p := ⟨gb411, 1, none⟩) (Kd.R_far (p := ⟨gb411, 0, none⟩) (Kd.R_types HO391.out BK411.out zq60) (fun _ hk => hk.2) (.int .i64 t387)) (fun _ hk => hk.2) (.string t388)) (fun _ hk => hk.2) (.slice Ao16 t389.length co16)) (fun _ hk => hk.2) (.bool t392)) (fun _ hk => hk.1.1)⟩, ⟨zq49⟩, ⟨by (with_reducible repeat (first | refine blk_drewN ?_ _ | refine blk_drew ?_ | refine blk_alloc ?_ _)); refine blk_put (cs := #[.int .i64 t387, .string t388, .slice Ao16 t389.length co16, .bool false]) ?_ 3 _ rfl; (with_reducible repeat (first | refine blk_drewN ?_ _ | refine blk_drew ?_ | refine blk_alloc ?_ _)); refine blk_put (cs := #[.int .i64 t387, .string t388, .slice none 0 0, .bool false]) ?_ 2 _ rfl; (with_reducible repeat (first | refine blk_drewN ?_ _ | refine blk_drew ?_ | refine blk_alloc ?_ _)); refine blk_put (cs := #[.int .i64 t387, .string (⟨#[]⟩ : ByteArray), .slice none 0 0, .bool false]) ?_ 1 _ rfl; (with_reducible repeat (first | refine blk_drewN ?_ _ | refine blk_drew ?_ | refine blk_alloc ?_ _)); refine blk_put (cs := #[.int .i64 0, .string (⟨#[]⟩ : ByteArray), .slice none 0 0, .bool false]) ?_ 0 _ rfl; (with_reducible repeat (first | refine blk_drewN ?_ _ | refine blk_drew ?_ | refine blk_alloc ?_ _)); exact BK411.out⟩, ⟨by repeat (first | (with_reducible first | exact HB.out | apply below_alloc | apply pw_below_drewN | apply below_drew1 | refine below_set ?_ GE394.out | refine below_set ?_ GE401.out | refine below_set ?_ GE411.out) | exact HB.out)⟩⟩
      case round =>
       clear H'
       try clear c1
       try clear p2
       try clear c3
       try clear c4
       try clear c4b0
       try clear c4b1
       try clear c5
       try clear c6
       try clear c7
       try clear c8
       try clear c9
       try clear c10
       try clear c12
       try clear c19
       try clear c31
       try clear c32
       try clear hcz15_0
       try clear hcz15_1
       try clear hcz15_2
       try clear hcz15_3
       try clear hcz20_0
       try clear hcz20_1
       try clear hcz20_2
       try clear hcz20_3
       try clear hcz27_0
       try clear hcz27_1
       try clear hcz27_2
       try clear hcz27_3
       try clear hcz29_0
       try clear hcz29_1
       try clear hcz29_2
       try clear hcz29_3
       try clear hcz33_0
       try clear hcz33_1
       try clear hcz33_2
       try clear hcz33_3
       try clear hfz15_0
       try clear hfz15_1
       try clear hfz15_2
       try clear hfz15_3
       try clear hfz20_0
       try clear hfz20_1
       try clear hfz20_2
       try clear hfz20_3
       try clear hfz27_0
       try clear hfz27_1
       try clear hfz27_2
       try clear hfz27_3
       try clear hfz29_0
       try clear hfz29_1
       try clear hfz29_2
       try clear hfz29_3
       try clear hfz33_0
       try clear hfz33_1
       try clear hfz33_2
       try clear hfz33_3
       try clear p2
       obtain ⟨x9_2, x10_2, x412000_2, x412001_2, x412002_2, x412003_2, u412002, rfl, rfl, HA, HK2, HO_402002, HO_412002, BK401, BK411, HB⟩ := hrel
       cases gk with
       | zero => exact absurd HA.out (by simp [laws_FnFrames.l0])
       | succ k2 =>
        have H := HA.out
        clear HA
        simp only [laws_FnFrames.l0] at H
        by_cases c34 : x9_2 < (t393.size : Int)
        ·rw [if_pos c34] at H
         have c34b0 : decide (x9_2 < (t393.size : Int)) = true := decide_eq_true c34
         clear c34
         have HC35 := Aside0.mk H
         clear H
         go_upto_if 54 with (fail)
         go_cut [11] (fun v11 wc => ∃ (kq : Nat) (x11_34 : Int), v11 = .int .i64 x11_34 ∧ Aside0 (laws_FnFrames.j2 kq l0 l1 t393 x9_2 x10_2 x11_34 t395 t396 t397 t400 x412000_2 x412001_2 x412002_2 x412003_2 = some r) ∧ Aside0 (kq ≤ k2) ∧ Aside0 (Kd.R Kd.string 9 wc w.heap.size (fun k_ => some k_ ≠ (u412002 : Value).ownBlock) (.slice Ao21 t397.length co21) t397) ∧ Aside0 (Kd.R Kd.string 9 wc w.heap.size (fun k_ => some k_ ≠ ((.slice Ao21 t397.length co21) : Value).ownBlock) u412002 x412002_2) ∧ Aside0 (wc.heap[gb401]? = some (.cells #[.int .i64 t395, .string t396, (.slice Ao21 t397.length co21), .bool t400] 25 (0, 0))) ∧ Aside0 (wc.heap[gb411]? = some (.cells #[.int .i64 x412000_2, .string x412001_2, u412002, .bool x412003_2] 25 (0, 0))) ∧ Aside0 (Below w.heap.size w wc))
         case first =>
          have H := HC35.out
          clear HC35
          by_cases c36 : x10_2 < (l1.length : Int)
          ·rw [if_pos c36] at H
           have c36b0 : decide (x10_2 < (l1.length : Int)) = true := decide_eq_true c36
           clear c36
           (first | rw [c36b0] | (simp only [i64_w, i32_w]; rw [c36b0]) | skip)
           by_cases c37 : 0 ≤ x10_2
           ·rw [if_pos c37] at H
            have c37b0 : decide (0 ≤ x10_2) = true := decide_eq_true c37
            clear c37
            have H' := Aside0.mk H
            clear H
            have p412 : 0 ≤ (x10_2 : Int) := of_decide_eq_true zq23
            have q412 : x10_2 < (l1.length : Int) := of_decide_eq_true zq23
            obtain ⟨ad412, e412, hx412_0⟩ := Kd.at_int HR1.out x10_2 p412 q412
            cases e412
            replace hx412_0 := (HB.out.cell (World.block_lt_of_cell? w _ hx412_0)).trans hx412_0
            replace p412 := eq_true p412
            replace q412 := eq_true q412
            go_wp2
            go_meet
            case rel => exact ⟨_, (Int.tmod (wrap64 (rd l1 x10_2)) 9), zq22, H', ⟨by have := HJ2.out; have := HK2.out; first | omega | exact Nat.le_refl _⟩, ⟨zq17⟩, ⟨zq16⟩, ⟨zq10⟩, ⟨zq13⟩, ⟨zq2⟩⟩
           ·rw [if_neg c37] at H
            exact absurd H zq81
          ·rw [if_neg c36] at H
           have c36b0 : decide (x10_2 < (l1.length : Int)) = false := decide_eq_false c36
           clear c36
           (first | rw [c36b0] | (simp only [i64_w, i32_w]; rw [c36b0]) | skip)
           have H' := Aside0.mk H
           clear H
           go_wp2
           go_meet
           case rel => exact ⟨_, (1), zq22, H', ⟨by have := HJ2.out; have := HK2.out; first | omega | exact Nat.le_refl _⟩, ⟨zq17⟩, ⟨zq16⟩, ⟨zq10⟩, ⟨zq13⟩, ⟨zq2⟩⟩
         case rest =>
          clear HC35
          try clear c1
          try clear p2
          try clear c3
          try clear c4
          try clear c4b0
          try clear c4b1
          try clear p4
          try clear q4
          try clear hx4
          try clear c5
          try clear c6
          try clear p6
          try clear c7
          try clear c8
          try clear c9
          try clear c10
          try clear c12
          try clear c19
          try clear c31
          try clear c32
          try clear c34
          try clear c34b0
          try clear c36
          try clear c36b0
          try clear c37
          try clear c37b0
          try clear hcz15_0
          try clear hcz15_1
          try clear hcz15_2
          try clear hcz15_3
          try clear hcz20_0
          try clear hcz20_1
          try clear hcz20_2
          try clear hcz20_3
          try clear hcz27_0
          try clear hcz27_1
          try clear hcz27_2
          try clear hcz27_3
          try clear hcz29_0
          try clear hcz29_1
          try clear hcz29_2
          try clear hcz29_3
          try clear hcz33_0
          try clear hcz33_1
          try clear hcz33_2
          try clear hcz33_3
          try clear hfz15_0
          try clear hfz15_1
          try clear hfz15_2
          try clear hfz15_3
          try clear hfz20_0
          try clear hfz20_1
          try clear hfz20_2
          try clear hfz20_3
          try clear hfz27_0
          try clear hfz27_1
          try clear hfz27_2
          try clear hfz27_3
          try clear hfz29_0
          try clear hfz29_1
          try clear hfz29_2
          try clear hfz29_3
          try clear hfz33_0
          try clear hfz33_1
          try clear hfz33_2
          try clear hfz33_3
          try clear hx412_0
          try clear p2
          try clear p412
          try clear q412
          obtain ⟨kq, x11_34, rfl, HA, HJ34, HO_402002, HO_412002, BK401, BK411, HB⟩ := hcut
          cases kq with
          | zero => exact absurd HA.out (by simp [laws_FnFrames.j2])
          | succ kj34 =>
           have H := HA.out
           clear HA
           simp only [laws_FnFrames.j2] at H
           have HC38 := Aside0.mk H
           clear H
           go_upto_if 66 with (fail)
           go_cut [11] (fun v11 wc => ∃ (kq : Nat) (x11_37 : Int), v11 = .int .i64 x11_37 ∧ Aside0 (laws_FnFrames.j3 kq l0 l1 t393 x9_2 x10_2 x11_37 t395 t396 t397 t400 x412000_2 x412001_2 x412002_2 x412003_2 = some r) ∧ Aside0 (kq ≤ kj34) ∧ Aside0 (Kd.R Kd.string 9 wc w.heap.size (fun k_ => some k_ ≠ (u412002 : Value).ownBlock) (.slice Ao21 t397.length co21) t397) ∧ Aside0 (Kd.R Kd.string 9 wc w.heap.size (fun k_ => some k_ ≠ ((.slice Ao21 t397.length co21) : Value).ownBlock) u412002 x412002_2) ∧ Aside0 (wc.heap[gb401]? = some (.cells #[.int .i64 t395, .string t396, (.slice Ao21 t397.length co21), .bool t400] 25 (0, 0))) ∧ Aside0 (wc.heap[gb411]? = some (.cells #[.int .i64 x412000_2, .string x412001_2, u412002, .bool x412003_2] 25 (0, 0))) ∧ Aside0 (Below w.heap.size w wc))
           case first =>
            have H := HC38.out
            clear HC38
            by_cases c39 : x11_34 > (wrap64 ((t393.size : Int) - x9_2))
            ·rw [if_pos c39] at H
             have c39b0 : decide ((wrap64 ((t393.size : Int) - x9_2)) < x11_34) = true := decide_eq_true c39
             clear c39
             (first | rw [c39b0] | (simp only [i64_w, i32_w]; rw [c39b0]) | skip)
             have H' := Aside0.mk H
             clear H
             go_wp2
             go_meet
             case rel => exact ⟨_, (wrap64 ((t393.size : Int) - x9_2)), zq22, H', ⟨by have := HJ2.out; have := HK2.out; have := HJ34.out; first | omega | exact Nat.le_refl _⟩, ⟨zq17⟩, ⟨zq16⟩, ⟨zq10⟩, ⟨zq13⟩, ⟨zq2⟩⟩
            ·rw [if_neg c39] at H
             have c39b0 : decide ((wrap64 ((t393.size : Int) - x9_2)) < x11_34) = false := decide_eq_false c39
             clear c39
             (first | rw [c39b0] | (simp only [i64_w, i32_w]; rw [c39b0]) | skip)
             have H' := Aside0.mk H
             clear H
             go_wp2
             go_meet
             case rel => exact ⟨_, (x11_34), zq22, H', ⟨by have := HJ2.out; have := HK2.out; have := HJ34.out; first | omega | exact Nat.le_refl _⟩, ⟨zq17⟩, ⟨zq16⟩, ⟨zq10⟩, ⟨zq13⟩, ⟨zq2⟩⟩
           case rest =>
            clear HC38
            try clear c1
            try clear p2
            try clear c3
            try clear c4
            try clear c4b0
            try clear c4b1
            try clear p4
            try clear q4
            try clear hx4
            try clear c5
            try clear c6
            try clear p6
            try clear c7
            try clear c8
            try clear c9
            try clear c10
            try clear c12
            try clear c19
            try clear c31
            try clear c32
            try clear c34
            try clear c34b0
            try clear c36
            try clear c36b0
            try clear c37
            try clear c37b0
            try clear c39
            try clear c39b0
            try clear hcz15_0
            try clear hcz15_1
            try clear hcz15_2
            try clear hcz15_3
            try clear hcz20_0
            try clear hcz20_1
            try clear hcz20_2
            try clear hcz20_3
            try clear hcz27_0
            try clear hcz27_1
            try clear hcz27_2
            try clear hcz27_3
            try clear hcz29_0
            try clear hcz29_1
            try clear hcz29_2
            try clear hcz29_3
            try clear hcz33_0
            try clear hcz33_1
            try clear hcz33_2
            try clear hcz33_3
            try clear hfz15_0
            try clear hfz15_1
            try clear hfz15_2
            try clear hfz15_3
            try clear hfz20_0
            try clear hfz20_1
            try clear hfz20_2
            try clear hfz20_3
            try clear hfz27_0
            try clear hfz27_1
            try clear hfz27_2
            try clear hfz27_3
            try clear hfz29_0
            try clear hfz29_1
            try clear hfz29_2
            try clear hfz29_3
            try clear hfz33_0
            try clear hfz33_1
            try clear hfz33_2
            try clear hfz33_3
            try clear hx412_0
            try clear p2
            try clear p4
            try clear p412
            try clear p6
            try clear q4
            try clear q412
            obtain ⟨kq, x11_37, rfl, HA, HJ37, HO_402002, HO_412002, BK401, BK411, HB⟩ := hcut
            cases kq with
            | zero => exact absurd HA.out (by simp [laws_FnFrames.j3])
            | succ kj37 =>
             have H := HA.out
             clear HA
             simp only [laws_FnFrames.j3] at H
             by_cases c40 : 0 ≤ x9_2
             ·rw [if_pos c40] at H
              have c40b0 := eq_true c40
              have c40b1 : decide (0 ≤ x9_2) = true := decide_eq_true c40
              clear c40
              by_cases c41 : x9_2 ≤ (wrap64 (x9_2 + x11_37))
              ·rw [if_pos c41] at H
               have c41b0 := eq_true c41
               have c41b1 : decide (x9_2 ≤ (wrap64 (x9_2 + x11_37))) = true := decide_eq_true c41
               by_cases c42 : (wrap64 (x9_2 + x11_37)) ≤ (t393.size : Int)
               ·rw [if_pos c42] at H
                have c42b0 := eq_true c42
                have c42b1 : decide ((wrap64 (x9_2 + x11_37)) ≤ (t393.size : Int)) = true := decide_eq_true c42
                replace H := Option.bind_eq_some_iff.mp H
                obtain ⟨⟨t413, t414, t415, t418⟩, A430, H⟩ := H
                try dsimp only at H
                have A43 := Aside0.mk A430
                clear A430
                replace H := Option.bind_eq_some_iff.mp H
                obtain ⟨t419, A440, H⟩ := H
                try dsimp only at H
                have A44 := Aside0.mk A440
                clear A440
                by_cases c45 : t419 = true
                ·subst c45
                 rw [if_pos rfl] at H
                 have H' := Aside0.mk H
                 clear H
                 try go_wp2
                 have n0_ := Aside0.mk (Kd.R_drew HO_402002.out)
                 have n1_ := Aside0.mk (Kd.R_drew HO_412002.out)
                 have n2_ := Aside0.mk (blk_drew BK401.out)
                 have n3_ := Aside0.mk (blk_drew BK411.out)
                 have n4_ := Aside0.mk (below_drew1 HB.out)
                 clear HO_402002
                 clear HO_412002
                 clear BK401
                 clear BK411
                 clear HB
                 have HO_402002 := n0_
                 have HO_412002 := n1_
                 have BK401 := n2_
                 have BK411 := n3_
                 have HB := n4_
                 clear n0_ n1_ n2_ n3_ n4_
                 obtain ⟨Ao47, co47, eo47⟩ := Kd.R_slice HO_412002.out
                 (first | subst eo47 | (injection eo47 with f1_ f2_ f3_; have f4_ := f1_.symm; have f5_ := f3_.symm; clear f1_ f2_ f3_; subst f4_; subst f5_))
                 refine start_ (n := 9) (S := fun w' => w'.cell? ⟨gb411, 0, none⟩ = some (.int .i64 x412000_2) ∧ w'.cell? ⟨gb411, 1, none⟩ = some (.string x412001_2) ∧ w'.cell? ⟨gb411, 2, none⟩ = some (.slice Ao47 x412002_2.length co47) ∧ w'.cell? ⟨gb411, 3, none⟩ = some (.bool x412003_2)) (ds := [8]) #[false, false, false, false, false, false, false, false, false] zq19 rfl rfl ⟨(blk_cell BK411.out 0).trans rfl, (blk_cell BK411.out 1).trans rfl, (blk_cell BK411.out 2).trans rfl, (blk_cell BK411.out 3).trans rfl⟩ (fun hHeld => ?_); refine with_tabW laws_FnFrames.tab19 laws_FnFrames.bits19 (fun HT_ HW_ => ?_)
                 generalize wc.drew = w46 at HO_402002 HO_412002 BK401 BK411 HB hHeld ⊢
                 refine pure_ (i := 1) (N := some 72) (v := ?_) (a' := ?_) #[false, true, false, false, false, false, false, false, false] rfl rfl (any_of HT_.out zq19) (fun _ _ _ h => h) (Or.inl ⟨zq90, ?_⟩) ?_ ?_
                 rotate_left
                 ·intro w'
                  go_simp
                  with_reducible rfl
                 rotate_left
                 ·simp only [Act.put, List.setIfInBounds_toArray, List.set_cons_zero, List.set_cons_succ, i64_w, i32_w]
                  rfl
                 refine pure_ (i := 2) (N := some 73) (v := ?_) (a' := ?_) #[false, true, true, false, false, false, false, false, false] rfl rfl (any_of HT_.out zq19) (fun _ _ _ h => h) (Or.inl ⟨zq90, ?_⟩) ?_ ?_
                 rotate_left
                 ·intro w'
                  go_simp
                  with_reducible rfl
                 rotate_left
                 ·simp only [Act.put, List.setIfInBounds_toArray, List.set_cons_zero, List.set_cons_succ, i64_w, i32_w]
                  rfl
                 refine pure_ (i := 3) (N := some 74) (v := ?_) (a' := ?_) #[false, true, true, true, false, false, false, false, false] rfl rfl (any_of HT_.out zq19) (fun _ _ _ h => h) (Or.inl ⟨zq90, ?_⟩) ?_ ?_
                 rotate_left
                 ·intro w'
                  go_simp
                  with_reducible rfl
                 rotate_left
                 ·simp only [Act.put, List.setIfInBounds_toArray, List.set_cons_zero, List.set_cons_succ, i64_w, i32_w]
                  rfl
                 refine pure_ (i := 4) (N := some 75) (v := ?_) (a' := ?_) #[false, true, true, true, true, false, false, false, false] rfl rfl (any_of HT_.out zq19) (fun _ _ _ h => h) (Or.inl ⟨zq90, ?_⟩) ?_ ?_
                 rotate_left
                 ·intro w'
                  go_simp
                  with_reducible rfl
                 rotate_left
                 ·simp only [Act.put, List.setIfInBounds_toArray, List.set_cons_zero, List.set_cons_succ, i64_w, i32_w]
                  rfl
                 refine pure_ (i := 5) (N := some 76) (v := ?_) (a' := ?_) #[false, true, true, true, true, true, false, false, false] rfl rfl (any_of HT_.out zq19) (fun _ _ _ h => h) (Or.inl ⟨zq90, ?_⟩) ?_ ?_
                 rotate_left
                 ·intro w'
                  go_simp
                  with_reducible rfl
                 rotate_left
                 ·simp only [Act.put, List.setIfInBounds_toArray, List.set_cons_zero, List.set_cons_succ, i64_w, i32_w]
                  rfl
                 refine pure_ (i := 6) (N := some 77) (v := ?_) (a' := ?_) #[false, true, true, true, true, true, true, false, false] rfl rfl (any_of HT_.out zq19) (fun _ _ _ h => h) (Or.inl ⟨zq90, ?_⟩) ?_ ?_
                 rotate_left
                 ·intro w'
                  go_simp
                  with_reducible rfl
                 rotate_left
                 ·simp only [Act.put, List.setIfInBounds_toArray, List.set_cons_zero, List.set_cons_succ, i64_w, i32_w]
                  rfl
                 refine take_ (i := 0) (N := some 71) (v := ?_) (a' := ?_) #[true, true, true, true, true, true, true, false, false] rfl rfl (take_ofW HT_.out HW_.out zq19) (fun _ _ _ h => h) (Or.inl ⟨zq90, ?_⟩) hHeld ?_ ?_
                 rotate_left
                 ·rintro w' ⟨s0, s1, s2, s3⟩
                  go_simp
                  with_reducible rfl
                 rotate_left
                 ·simp only [Act.put, List.setIfInBounds_toArray, List.set_cons_zero, List.set_cons_succ, i64_w, i32_w]
                  rfl
                 refine one_ (i := 7) (N := some 78) #[true, true, true, true, true, true, true, true, false] rfl rfl (one_of HT_.out zq19) zq60 (fun K hK => ?_)
                 refine goes_ Try.func7 zq19 rfl #[.agg #[.int .i64 x412000_2, .string x412001_2, .slice Ao47 x412002_2.length co47, .bool x412003_2], .string (t393.extract (x9_2 : Int).toNat ((wrap64 (x9_2 + x11_37)) : Int).toNat)] zq90 rfl rfl zq0 ?_
                 with_reducible refine (impl_Feed.calls kj37 x412000_2 x412001_2 _ _ x412002_2 x412003_2 (t393.extract (x9_2 : Int).toNat ((wrap64 (x9_2 + x11_37)) : Int).toNat) t413 t414 t415 t418 _ ?side1 ?side2 A43.out).mono ?_
                 (case side1 => repeat (first | exact (Kd.R_reads' HO_412002.out).2.2 | (with_reducible refine Kd.C_alloc ?_ _) | (with_reducible refine Kd.C_drewN ?_ _) | (with_reducible refine Kd.C_drew ?_)))
                 (case side2 => exact (Kd.R_reads' HO_412002.out).2.1)
                 rintro e w48 ⟨v416, rfl, ho0, hb⟩
                 refine ⟨_, rfl, ?_⟩
                 have n0_ := Aside0.mk (Kd.R_elder' zq17 (Kd.R_base ho0) hb)
                 have n1_ := Aside0.mk (Kd.R_elder' zq16 (Kd.R_base ho0) hb)
                 have n2_ := Aside0.mk (Kd.R_lower (Kd.R_new' (Kd.R_new' ho0 (Kd.R_lt zq17)) (Kd.R_lt zq16)) (below_size zq2))
                 have n3_ := Aside0.mk (blk_below (g := gb401) (o := .cells #[.int .i64 t395, .string t396, .slice Ao21 t397.length co21, .bool t400] 25 (0, 0)) zq10 hb)
                 have n4_ := Aside0.mk (blk_below (g := gb411) (o := .cells #[.int .i64 x412000_2, .string x412001_2, .slice Ao47 x412002_2.length co47, .bool x412003_2] 25 (0, 0)) zq13 hb)
                 have n5_ := Aside0.mk (below_step zq2 hb)
                 clear HO_402002
                 clear HO_412002
                 clear BK401
                 clear BK411
                 clear HB
                 have HO_402002 := n0_
                 have HO_412002 := n1_
                 have HO417 := n2_
                 have BK401 := n3_
                 have BK411 := n4_
                 have HB := n5_
                 clear n0_ n1_ n2_ n3_ n4_ n5_
                 (try clear hb)
                 (try clear hb2)
                 (try clear hk)
                 (try clear hi)
                 (try clear ho0)
                 obtain ⟨Ao51, co51, eo51⟩ := Kd.R_slice HO417.out
                 (first | subst eo51 | (injection eo51 with f1_ f2_ f3_; have f4_ := f1_.symm; have f5_ := f3_.symm; clear f1_ f2_ f3_; subst f4_; subst f5_))
                 refine hK.out _ _ ⟨(blk_cell BK411.out 0).trans rfl, (blk_cell BK411.out 1).trans rfl, (blk_cell BK411.out 2).trans rfl, (blk_cell BK411.out 3).trans rfl⟩ (fun hHeld => ?_)
                 clear hK K
                 refine norm_ (a' := ?_) ?_ ?_
                 rotate_left
                 ·show Act.put _ (some 78) _ = _
                  simp only [Act.put, List.setIfInBounds_toArray, List.set_cons_zero, List.set_cons_succ, i64_w, i32_w]
                  rfl
                 refine last_ (i := 8) (N := none) #[true, true, true, true, true, true, true, true, true] rfl rfl (one_of HT_.out zq19) zq60 (fun K hK => ?_)
                 have hs49 : w48.cell? ⟨gb411, 0, none⟩ = some (.int .i64 x412000_2) := (blk_cell BK411.out 0).trans rfl
                 have hfs49 := blk_frozen BK411.out 0
                 have hns49_0 := NB401_411.out
                 have hms49_0 := NB411_401.out
                 have hs50 : w48.cell? ⟨gb411, 1, none⟩ = some (.string x412001_2) := (blk_cell BK411.out 1).trans rfl
                 have hfs50 := blk_frozen BK411.out 1
                 have hns50_0 := NB401_411.out
                 have hms50_0 := NB411_401.out
                 have hs52 : w48.cell? ⟨gb411, 2, none⟩ = some (.slice Ao47 x412002_2.length co47) := (blk_cell BK411.out 2).trans rfl
                 have hfs52 := blk_frozen BK411.out 2
                 have hns52_0 := NB401_411.out
                 have hms52_0 := NB411_401.out
                 have hs53 : w48.cell? ⟨gb411, 3, none⟩ = some (.bool x412003_2) := (blk_cell BK411.out 3).trans rfl
                 have hfs53 := blk_frozen BK411.out 3
                 have hns53_0 := NB401_411.out
                 have hms53_0 := NB411_401.out
                 refine skip_ (w1 := ?_) zq90 rfl ?_ ?_
                 rotate_left
                 ·go_simp
                  rfl
                 refine hK.out _ _ ?_
                 clear hK K
                 refine done_ (done_of HT_.out zq19) ?_
                 have hnb54 := NB411_401.out
                 have hnc54 := NB401_411.out
                 have hcz55_0 : w48.cell? ⟨gb411, 0, none⟩ = some (.int .i64 x412000_2) := (blk_cell BK411.out 0).trans rfl
                 have hcz55_1 : w48.cell? ⟨gb411, 1, none⟩ = some (.string x412001_2) := (blk_cell BK411.out 1).trans rfl
                 have hcz55_2 : w48.cell? ⟨gb411, 2, none⟩ = some (.slice Ao47 x412002_2.length co47) := (blk_cell BK411.out 2).trans rfl
                 have hcz55_3 : w48.cell? ⟨gb411, 3, none⟩ = some (.bool x412003_2) := (blk_cell BK411.out 3).trans rfl
                 have hfz55_0 := blk_frozen BK411.out 0
                 have hfz55_1 := blk_frozen BK411.out 1
                 have hfz55_2 := blk_frozen BK411.out 2
                 have hfz55_3 := blk_frozen BK411.out 3
                 try go_wp2_with (first | ((with_reducible refine gate_callee (f := 11) rfl ?_); refine goesL_ (some 80) rfl rfl Try.func11 zq19 rfl #[.agg #[.int .i64 t413, .string t414, .slice Ao51 t415.length co51, .bool t418]] rfl zq0 ?_; (with_reducible refine (impl_ValidDecoder.calls kj37 t413 t414 _ _ t415 t418 true _ ?side1 ?side2 A44.out).mono ?_); (case side1 => refine (Kd.R_reads' (e := 9) (base := w.heap.size) (ok := fun k_ => ((True ∧ some k_ ≠ (.slice Ao21 t397.length co21 : Value).ownBlock) ∧ some k_ ≠ (.slice Ao47 x412002_2.length co47 : Value).ownBlock)) (n := t415.length) (c := co51) ?_).2.2; exact (by (with_reducible repeat (first | apply Kd.R_alloc | apply Kd.R_drewN | apply Kd.R_drew)); exact (Kd.R_mono (Kd.R_far (p := ⟨gb411, 3, none⟩) (Kd.R_far (p := ⟨gb411, 2, none⟩) (Kd.R_far (p := ⟨gb411, 1, none⟩) (Kd.R_far (p := ⟨gb411, 0, none⟩) (Kd.R_types HO417.out BK411.out zq60) (fun _ hk => hk.2) (.int .i64 t413)) (fun _ hk => hk.2) (.string t414)) (fun _ hk => hk.2) (.slice Ao51 t415.length co51)) (fun _ hk => hk.2) (.bool t418)) (fun _ h_ => h_.1)))); (case side2 => exact (Kd.R_reads' HO417.out).2.1); rintro e w56 ⟨rfl, hb⟩; refine ⟨_, rfl, ?_⟩; have n0_ := Aside0.mk (Kd.R_below (by (with_reducible repeat (first | apply Kd.R_alloc | apply Kd.R_drewN | apply Kd.R_drew)); exact (Kd.R_mono (Kd.R_far (p := ⟨gb411, 3, none⟩) (Kd.R_far (p := ⟨gb411, 2, none⟩) (Kd.R_far (p := ⟨gb411, 1, none⟩) (Kd.R_far (p := ⟨gb411, 0, none⟩) (Kd.R_types HO_402002.out BK411.out zq60) (fun _ hk => hk.2) (.int .i64 t413)) (fun _ hk => hk.2) (.string t414)) (fun _ hk => hk.2) (.slice Ao51 t415.length co51)) (fun _ hk => hk.2) (.bool t418)) (fun _ h_ => h_.1))) hb); have n1_ := Aside0.mk (Kd.R_below (by (with_reducible repeat (first | apply Kd.R_alloc | apply Kd.R_drewN | apply Kd.R_drew)); exact (Kd.R_mono (Kd.R_far (p := ⟨gb411, 3, none⟩) (Kd.R_far (p := ⟨gb411, 2, none⟩) (Kd.R_far (p := ⟨gb411, 1, none⟩) (Kd.R_far (p := ⟨gb411, 0, none⟩) (Kd.R_types HO_412002.out BK411.out zq60) (fun _ hk => hk.2) (.int .i64 t413)) (fun _ hk => hk.2) (.string t414)) (fun _ hk => hk.2) (.slice Ao51 t415.length co51)) (fun _ hk => hk.2) (.bool t418)) (fun _ h_ => h_.1))) hb); have n2_ := Aside0.mk (Kd.R_below (by (with_reducible repeat (first | apply Kd.R_alloc | apply Kd.R_drewN | apply Kd.R_drew)); exact (Kd.R_mono (Kd.R_far (p := ⟨gb411, 3, none⟩) (Kd.R_far (p := ⟨gb411, 2, none⟩) (Kd.R_far (p := ⟨gb411, 1, none⟩) (Kd.R_far (p := ⟨gb411, 0, none⟩) (Kd.R_types HO417.out BK411.out zq60) (fun _ hk => hk.2) (.int .i64 t413)) (fun _ hk => hk.2) (.string t414)) (fun _ hk => hk.2) (.slice Ao51 t415.length co51)) (fun _ hk => hk.2) (.bool t418)) (fun _ h_ => h_.1))) hb); have n3_ := Aside0.mk (blk_below (g := gb401) (o := .cells #[.int .i64 t395, .string t396, .slice Ao21 t397.length co21, .bool t400] 25 (0, 0)) zq49 hb); have n4_ := Aside0.mk (blk_below (g := gb411) (o := .cells #[.int .i64 t413, .string t414, .slice Ao51 t415.length co51, .bool t418] 25 (0, 0)) (by (with_reducible repeat (first | refine blk_drewN ?_ _ | refine blk_drew ?_ | refine blk_alloc ?_ _)); refine blk_put (cs := #[.int .i64 t413, .string t414, .slice Ao51 t415.length co51, .bool x412003_2]) ?_ 3 _ rfl; (with_reducible repeat (first | refine blk_drewN ?_ _ | refine blk_drew ?_ | refine blk_alloc ?_ _)); refine blk_put (cs := #[.int .i64 t413, .string t414, .slice Ao47 x412002_2.length co47, .bool x412003_2]) ?_ 2 _ rfl; (with_reducible repeat (first | refine blk_drewN ?_ _ | refine blk_drew ?_ | refine blk_alloc ?_ _)); refine blk_put (cs := #[.int .i64 t413, .string x412001_2, .slice Ao47 x412002_2.length co47, .bool x412003_2]) ?_ 1 _ rfl; (with_reducible repeat (first | refine blk_drewN ?_ _ | refine blk_drew ?_ | refine blk_alloc ?_ _)); refine blk_put (cs := #[.int .i64 x412000_2, .string x412001_2, .slice Ao47 x412002_2.length co47, .bool x412003_2]) ?_ 0 _ rfl; (with_reducible repeat (first | refine blk_drewN ?_ _ | refine blk_drew ?_ | refine blk_alloc ?_ _)); exact BK411.out) hb); have n5_ := Aside0.mk (below_step zq2 hb); clear HO_402002; clear HO_412002; clear HO417; clear BK401; clear BK411; clear HB; have HO_402002 := n0_; have HO_412002 := n1_; have HO417 := n2_; have BK401 := n3_; have BK411 := n4_; have HB := n5_; clear n0_ n1_ n2_ n3_ n4_ n5_; (try clear hb); (try clear hb2); (try clear hk); (try clear hi)))
                 go_roundg kj37
                 case measure => have := HJ2.out; have := HK2.out; have := HJ34.out; have := HJ37.out; omega
                 case rel => exact ⟨(wrap64 (x9_2 + x11_37)), (wrap64 (x10_2 + 1)), (t413), (t414), (t415), (t418), (.slice Ao51 t415.length co51), zq22, zq22, H', ⟨by have := HJ2.out; have := HK2.out; have := HJ34.out; have := HJ37.out; omega⟩, ⟨by (with_reducible repeat (first | apply Kd.R_alloc | apply Kd.R_drewN | apply Kd.R_drew)); exact Kd.R_mono HO_402002.out (fun _ hk => hk.2)⟩, ⟨by (with_reducible repeat (first | apply Kd.R_alloc | apply Kd.R_drewN | apply Kd.R_drew)); exact Kd.R_mono HO417.out (fun _ hk => hk.1.2)⟩, ⟨zq10⟩, ⟨zq13⟩, ⟨zq2⟩⟩
                ·replace c45 := Bool.eq_false_iff.mpr c45
                 subst c45
                 rw [if_neg (show ¬ (false = true) by decide)] at H
                 obtain rfl := Option.some.inj H
                 try go_wp2
                 have n0_ := Aside0.mk (Kd.R_drew HO_402002.out)
                 have n1_ := Aside0.mk (Kd.R_drew HO_412002.out)
                 have n2_ := Aside0.mk (blk_drew BK401.out)
                 have n3_ := Aside0.mk (blk_drew BK411.out)
                 have n4_ := Aside0.mk (below_drew1 HB.out)
                 clear HO_402002
                 clear HO_412002
                 clear BK401
                 clear BK411
                 clear HB
                 have HO_402002 := n0_
                 have HO_412002 := n1_
                 have BK401 := n2_
                 have BK411 := n3_
                 have HB := n4_
                 clear n0_ n1_ n2_ n3_ n4_
                 obtain ⟨Ao58, co58, eo58⟩ := Kd.R_slice HO_412002.out
                 (first | subst eo58 | (injection eo58 with f1_ f2_ f3_; have f4_ := f1_.symm; have f5_ := f3_.symm; clear f1_ f2_ f3_; subst f4_; subst f5_))
                 refine start_ (n := 9) (S := fun w' => w'.cell? ⟨gb411, 0, none⟩ = some (.int .i64 x412000_2) ∧ w'.cell? ⟨gb411, 1, none⟩ = some (.string x412001_2) ∧ w'.cell? ⟨gb411, 2, none⟩ = some (.slice Ao58 x412002_2.length co58) ∧ w'.cell? ⟨gb411, 3, none⟩ = some (.bool x412003_2)) (ds := [8]) #[false, false, false, false, false, false, false, false, false] zq19 rfl rfl ⟨(blk_cell BK411.out 0).trans rfl, (blk_cell BK411.out 1).trans rfl, (blk_cell BK411.out 2).trans rfl, (blk_cell BK411.out 3).trans rfl⟩ (fun hHeld => ?_); refine with_tabW laws_FnFrames.tab19 laws_FnFrames.bits19 (fun HT_ HW_ => ?_)
                 generalize wc.drew = w57 at HO_402002 HO_412002 BK401 BK411 HB hHeld ⊢
                 refine pure_ (i := 1) (N := some 72) (v := ?_) (a' := ?_) #[false, true, false, false, false, false, false, false, false] rfl rfl (any_of HT_.out zq19) (fun _ _ _ h => h) (Or.inl ⟨zq90, ?_⟩) ?_ ?_
                 rotate_left
                 ·intro w'
                  go_simp
                  with_reducible rfl
                 rotate_left
                 ·simp only [Act.put, List.setIfInBounds_toArray, List.set_cons_zero, List.set_cons_succ, i64_w, i32_w]
                  rfl
                 refine pure_ (i := 2) (N := some 73) (v := ?_) (a' := ?_) #[false, true, true, false, false, false, false, false, false] rfl rfl (any_of HT_.out zq19) (fun _ _ _ h => h) (Or.inl ⟨zq90, ?_⟩) ?_ ?_
                 rotate_left
                 ·intro w'
                  go_simp
                  with_reducible rfl
                 rotate_left
                 ·simp only [Act.put, List.setIfInBounds_toArray, List.set_cons_zero, List.set_cons_succ, i64_w, i32_w]
                  rfl
                 refine pure_ (i := 3) (N := some 74) (v := ?_) (a' := ?_) #[false, true, true, true, false, false, false, false, false] rfl rfl (any_of HT_.out zq19) (fun _ _ _ h => h) (Or.inl ⟨zq90, ?_⟩) ?_ ?_
                 rotate_left
                 ·intro w'
                  go_simp
                  with_reducible rfl
                 rotate_left
                 ·simp only [Act.put, List.setIfInBounds_toArray, List.set_cons_zero, List.set_cons_succ, i64_w, i32_w]
                  rfl
                 refine pure_ (i := 4) (N := some 75) (v := ?_) (a' := ?_) #[false, true, true, true, true, false, false, false, false] rfl rfl (any_of HT_.out zq19) (fun _ _ _ h => h) (Or.inl ⟨zq90, ?_⟩) ?_ ?_
                 rotate_left
                 ·intro w'
                  go_simp
                  with_reducible rfl
                 rotate_left
                 ·simp only [Act.put, List.setIfInBounds_toArray, List.set_cons_zero, List.set_cons_succ, i64_w, i32_w]
                  rfl
                 refine pure_ (i := 5) (N := some 76) (v := ?_) (a' := ?_) #[false, true, true, true, true, true, false, false, false] rfl rfl (any_of HT_.out zq19) (fun _ _ _ h => h) (Or.inl ⟨zq90, ?_⟩) ?_ ?_
                 rotate_left
                 ·intro w'
                  go_simp
                  with_reducible rfl
                 rotate_left
                 ·simp only [Act.put, List.setIfInBounds_toArray, List.set_cons_zero, List.set_cons_succ, i64_w, i32_w]
                  rfl
                 refine pure_ (i := 6) (N := some 77) (v := ?_) (a' := ?_) #[false, true, true, true, true, true, true, false, false] rfl rfl (any_of HT_.out zq19) (fun _ _ _ h => h) (Or.inl ⟨zq90, ?_⟩) ?_ ?_
                 rotate_left
                 ·intro w'
                  go_simp
                  with_reducible rfl
                 rotate_left
                 ·simp only [Act.put, List.setIfInBounds_toArray, List.set_cons_zero, List.set_cons_succ, i64_w, i32_w]
                  rfl
                 refine take_ (i := 0) (N := some 71) (v := ?_) (a' := ?_) #[true, true, true, true, true, true, true, false, false] rfl rfl (take_ofW HT_.out HW_.out zq19) (fun _ _ _ h => h) (Or.inl ⟨zq90, ?_⟩) hHeld ?_ ?_
                 rotate_left
                 ·rintro w' ⟨s0, s1, s2, s3⟩
                  go_simp
                  with_reducible rfl
                 rotate_left
                 ·simp only [Act.put, List.setIfInBounds_toArray, List.set_cons_zero, List.set_cons_succ, i64_w, i32_w]
                  rfl
                 refine one_ (i := 7) (N := some 78) #[true, true, true, true, true, true, true, true, false] rfl rfl (one_of HT_.out zq19) zq60 (fun K hK => ?_)
                 refine goes_ Try.func7 zq19 rfl #[.agg #[.int .i64 x412000_2, .string x412001_2, .slice Ao58 x412002_2.length co58, .bool x412003_2], .string (t393.extract (x9_2 : Int).toNat ((wrap64 (x9_2 + x11_37)) : Int).toNat)] zq90 rfl rfl zq0 ?_
                 with_reducible refine (impl_Feed.calls kj37 x412000_2 x412001_2 _ _ x412002_2 x412003_2 (t393.extract (x9_2 : Int).toNat ((wrap64 (x9_2 + x11_37)) : Int).toNat) t413 t414 t415 t418 _ ?side1 ?side2 A43.out).mono ?_
                 (case side1 => repeat (first | exact (Kd.R_reads' HO_412002.out).2.2 | (with_reducible refine Kd.C_alloc ?_ _) | (with_reducible refine Kd.C_drewN ?_ _) | (with_reducible refine Kd.C_drew ?_)))
                 (case side2 => exact (Kd.R_reads' HO_412002.out).2.1)
                 rintro e w59 ⟨v416, rfl, ho0, hb⟩
                 refine ⟨_, rfl, ?_⟩
                 have n0_ := Aside0.mk (Kd.R_elder' zq17 (Kd.R_base ho0) hb)
                 have n1_ := Aside0.mk (Kd.R_elder' zq16 (Kd.R_base ho0) hb)
                 have n2_ := Aside0.mk (Kd.R_lower (Kd.R_new' (Kd.R_new' ho0 (Kd.R_lt zq17)) (Kd.R_lt zq16)) (below_size zq2))
                 have n3_ := Aside0.mk (blk_below (g := gb401) (o := .cells #[.int .i64 t395, .string t396, .slice Ao21 t397.length co21, .bool t400] 25 (0, 0)) zq10 hb)
                 have n4_ := Aside0.mk (blk_below (g := gb411) (o := .cells #[.int .i64 x412000_2, .string x412001_2, .slice Ao58 x412002_2.length co58, .bool x412003_2] 25 (0, 0)) zq13 hb)
                 have n5_ := Aside0.mk (below_step zq2 hb)
                 clear HO_402002
                 clear HO_412002
                 clear BK401
                 clear BK411
                 clear HB
                 have HO_402002 := n0_
                 have HO_412002 := n1_
                 have HO417 := n2_
                 have BK401 := n3_
                 have BK411 := n4_
                 have HB := n5_
                 clear n0_ n1_ n2_ n3_ n4_ n5_
                 (try clear hb)
                 (try clear hb2)
                 (try clear hk)
                 (try clear hi)
                 (try clear ho0)
                 obtain ⟨Ao62, co62, eo62⟩ := Kd.R_slice HO417.out
                 (first | subst eo62 | (injection eo62 with f1_ f2_ f3_; have f4_ := f1_.symm; have f5_ := f3_.symm; clear f1_ f2_ f3_; subst f4_; subst f5_))
                 refine hK.out _ _ ⟨(blk_cell BK411.out 0).trans rfl, (blk_cell BK411.out 1).trans rfl, (blk_cell BK411.out 2).trans rfl, (blk_cell BK411.out 3).trans rfl⟩ (fun hHeld => ?_)
                 clear hK K
                 refine norm_ (a' := ?_) ?_ ?_
                 rotate_left
                 ·show Act.put _ (some 78) _ = _
                  simp only [Act.put, List.setIfInBounds_toArray, List.set_cons_zero, List.set_cons_succ, i64_w, i32_w]
                  rfl
                 refine last_ (i := 8) (N := none) #[true, true, true, true, true, true, true, true, true] rfl rfl (one_of HT_.out zq19) zq60 (fun K hK => ?_)
                 have hs60 : w59.cell? ⟨gb411, 0, none⟩ = some (.int .i64 x412000_2) := (blk_cell BK411.out 0).trans rfl
                 have hfs60 := blk_frozen BK411.out 0
                 have hns60_0 := NB401_411.out
                 have hms60_0 := NB411_401.out
                 have hs61 : w59.cell? ⟨gb411, 1, none⟩ = some (.string x412001_2) := (blk_cell BK411.out 1).trans rfl
                 have hfs61 := blk_frozen BK411.out 1
                 have hns61_0 := NB401_411.out
                 have hms61_0 := NB411_401.out
                 have hs63 : w59.cell? ⟨gb411, 2, none⟩ = some (.slice Ao58 x412002_2.length co58) := (blk_cell BK411.out 2).trans rfl
                 have hfs63 := blk_frozen BK411.out 2
                 have hns63_0 := NB401_411.out
                 have hms63_0 := NB411_401.out
                 have hs64 : w59.cell? ⟨gb411, 3, none⟩ = some (.bool x412003_2) := (blk_cell BK411.out 3).trans rfl
                 have hfs64 := blk_frozen BK411.out 3
                 have hns64_0 := NB401_411.out
                 have hms64_0 := NB411_401.out
                 refine skip_ (w1 := ?_) zq90 rfl ?_ ?_
                 rotate_left
                 ·go_simp
                  rfl
                 refine hK.out _ _ ?_
                 clear hK K
                 refine done_ (done_of HT_.out zq19) ?_
                 have hnb65 := NB411_401.out
                 have hnc65 := NB401_411.out
                 have hcz66_0 : w59.cell? ⟨gb411, 0, none⟩ = some (.int .i64 x412000_2) := (blk_cell BK411.out 0).trans rfl
                 have hcz66_1 : w59.cell? ⟨gb411, 1, none⟩ = some (.string x412001_2) := (blk_cell BK411.out 1).trans rfl
                 have hcz66_2 : w59.cell? ⟨gb411, 2, none⟩ = some (.slice Ao58 x412002_2.length co58) := (blk_cell BK411.out 2).trans rfl
                 have hcz66_3 : w59.cell? ⟨gb411, 3, none⟩ = some (.bool x412003_2) := (blk_cell BK411.out 3).trans rfl
                 have hfz66_0 := blk_frozen BK411.out 0
                 have hfz66_1 := blk_frozen BK411.out 1
                 have hfz66_2 := blk_frozen BK411.out 2
                 have hfz66_3 := blk_frozen BK411.out 3
                 try go_wp2_with (first | ((with_reducible refine gate_callee (f := 11) rfl ?_); refine goesL_ (some 80) rfl rfl Try.func11 zq19 rfl #[.agg #[.int .i64 t413, .string t414, .slice Ao62 t415.length co62, .bool t418]] rfl zq0 ?_; (with_reducible refine (impl_ValidDecoder.calls kj37 t413 t414 _ _ t415 t418 false _ ?side1 ?side2 A44.out).mono ?_); (case side1 => refine (Kd.R_reads' (e := 9) (base := w.heap.size) (ok := fun k_ => ((True ∧ some k_ ≠ (.slice Ao21 t397.length co21 : Value).ownBlock) ∧ some k_ ≠ (.slice Ao58 x412002_2.length co58 : Value).ownBlock)) (n := t415.length) (c := co62) ?_).2.2; exact (by (with_reducible repeat (first | apply Kd.R_alloc | apply Kd.R_drewN | apply Kd.R_drew)); exact (Kd.R_mono (Kd.R_far (p := ⟨gb411, 3, none⟩) (Kd.R_far (p := ⟨gb411, 2, none⟩) (Kd.R_far (p := ⟨gb411, 1, none⟩) (Kd.R_far (p := ⟨gb411, 0, none⟩) (Kd.R_types HO417.out BK411.out zq60) (fun _ hk => hk.2) (.int .i64 t413)) (fun _ hk => hk.2) (.string t414)) (fun _ hk => hk.2) (.slice Ao62 t415.length co62)) (fun _ hk => hk.2) (.bool t418)) (fun _ h_ => h_.1)))); (case side2 => exact (Kd.R_reads' HO417.out).2.1); rintro e w67 ⟨rfl, hb⟩; refine ⟨_, rfl, ?_⟩; have n0_ := Aside0.mk (Kd.R_below (by (with_reducible repeat (first | apply Kd.R_alloc | apply Kd.R_drewN | apply Kd.R_drew)); exact (Kd.R_mono (Kd.R_far (p := ⟨gb411, 3, none⟩) (Kd.R_far (p := ⟨gb411, 2, none⟩) (Kd.R_far (p := ⟨gb411, 1, none⟩) (Kd.R_far (p := ⟨gb411, 0, none⟩) (Kd.R_types HO_402002.out BK411.out zq60) (fun _ hk => hk.2) (.int .i64 t413)) (fun _ hk => hk.2) (.string t414)) (fun _ hk => hk.2) (.slice Ao62 t415.length co62)) (fun _ hk => hk.2) (.bool t418)) (fun _ h_ => h_.1))) hb); have n1_ := Aside0.mk (Kd.R_below (by (with_reducible repeat (first | apply Kd.R_alloc | apply Kd.R_drewN | apply Kd.R_drew)); exact (Kd.R_mono (Kd.R_far (p := ⟨gb411, 3, none⟩) (Kd.R_far (p := ⟨gb411, 2, none⟩) (Kd.R_far (p := ⟨gb411, 1, none⟩) (Kd.R_far (p := ⟨gb411, 0, none⟩) (Kd.R_types HO_412002.out BK411.out zq60) (fun _ hk => hk.2) (.int .i64 t413)) (fun _ hk => hk.2) (.string t414)) (fun _ hk => hk.2) (.slice Ao62 t415.length co62)) (fun _ hk => hk.2) (.bool t418)) (fun _ h_ => h_.1))) hb); have n2_ := Aside0.mk (Kd.R_below (by (with_reducible repeat (first | apply Kd.R_alloc | apply Kd.R_drewN | apply Kd.R_drew)); exact (Kd.R_mono (Kd.R_far (p := ⟨gb411, 3, none⟩) (Kd.R_far (p := ⟨gb411, 2, none⟩) (Kd.R_far (p := ⟨gb411, 1, none⟩) (Kd.R_far (p := ⟨gb411, 0, none⟩) (Kd.R_types HO417.out BK411.out zq60) (fun _ hk => hk.2) (.int .i64 t413)) (fun _ hk => hk.2) (.string t414)) (fun _ hk => hk.2) (.slice Ao62 t415.length co62)) (fun _ hk => hk.2) (.bool t418)) (fun _ h_ => h_.1))) hb); have n3_ := Aside0.mk (blk_below (g := gb401) (o := .cells #[.int .i64 t395, .string t396, .slice Ao21 t397.length co21, .bool t400] 25 (0, 0)) zq49 hb); have n4_ := Aside0.mk (blk_below (g := gb411) (o := .cells #[.int .i64 t413, .string t414, .slice Ao62 t415.length co62, .bool t418] 25 (0, 0)) (by (with_reducible repeat (first | refine blk_drewN ?_ _ | refine blk_drew ?_ | refine blk_alloc ?_ _)); refine blk_put (cs := #[.int .i64 t413, .string t414, .slice Ao62 t415.length co62, .bool x412003_2]) ?_ 3 _ rfl; (with_reducible repeat (first | refine blk_drewN ?_ _ | refine blk_drew ?_ | refine blk_alloc ?_ _)); refine blk_put (cs := #[.int .i64 t413, .string t414, .slice Ao58 x412002_2.length co58, .bool x412003_2]) ?_ 2 _ rfl; (with_reducible repeat (first | refine blk_drewN ?_ _ | refine blk_drew ?_ | refine blk_alloc ?_ _)); refine blk_put (cs := #[.int .i64 t413, .string x412001_2, .slice Ao58 x412002_2.length co58, .bool x412003_2]) ?_ 1 _ rfl; (with_reducible repeat (first | refine blk_drewN ?_ _ | refine blk_drew ?_ | refine blk_alloc ?_ _)); refine blk_put (cs := #[.int .i64 x412000_2, .string x412001_2, .slice Ao58 x412002_2.length co58, .bool x412003_2]) ?_ 0 _ rfl; (with_reducible repeat (first | refine blk_drewN ?_ _ | refine blk_drew ?_ | refine blk_alloc ?_ _)); exact BK411.out) hb); have n5_ := Aside0.mk (below_step zq2 hb); clear HO_402002; clear HO_412002; clear HO417; clear BK401; clear BK411; clear HB; have HO_402002 := n0_; have HO_412002 := n1_; have HO417 := n2_; have BK401 := n3_; have BK411 := n4_; have HB := n5_; clear n0_ n1_ n2_ n3_ n4_ n5_; (try clear hb); (try clear hb2); (try clear hk); (try clear hi)))
                 go_ret
                 exact ⟨zq8, zq2⟩
               ·rw [if_neg c42] at H
                exact absurd H zq81
              ·rw [if_neg c41] at H
               exact absurd H zq81
             ·rw [if_neg c40] at H
              exact absurd H zq81
        ·rw [if_neg c34] at H
         have c34b0 : decide (x9_2 < (t393.size : Int)) = false := decide_eq_false c34
         clear c34
         replace H := Option.bind_eq_some_iff.mp H
         obtain ⟨t420, A680, H⟩ := H
         try dsimp only at H
         have A68 := Aside0.mk A680
         clear A680
         by_cases c69 : t420 = true
         ·subst c69
          rw [if_pos rfl] at H
          replace H := Option.bind_eq_some_iff.mp H
          obtain ⟨⟨t421, t422⟩, A700, H⟩ := H
          try dsimp only at H
          have A70 := Aside0.mk A700
          clear A700
          replace H := Option.bind_eq_some_iff.mp H
          obtain ⟨t425, A710, H⟩ := H
          try dsimp only at H
          have A71 := Aside0.mk A710
          clear A710
          replace H := Option.bind_eq_some_iff.mp H
          obtain ⟨t426, A720, H⟩ := H
          try dsimp only at H
          have A72 := Aside0.mk A720
          clear A720
          by_cases c73 : t425.toList = t426.toList
          ·rw [if_pos c73] at H
           have c73b0 : (t425.toList == t426.toList) = true := beq_iff_eq.mpr c73
           have c73b1 : (t425.toList != t426.toList) = false := bne_eq_false_iff_eq.mpr c73
           clear c73
           replace H := Option.bind_eq_some_iff.mp H
           obtain ⟨⟨t427, t428, t429, t432⟩, A740, H⟩ := H
           try dsimp only at H
           have A74 := Aside0.mk A740
           clear A740
           by_cases c75 : t425.toList = ([] : List UInt8)
           ·rw [if_pos c75] at H
            have c75b0 : (t425.toList == ([] : List UInt8)) = true := beq_iff_eq.mpr c75
            have c75b1 : (t425.toList != ([] : List UInt8)) = false := bne_eq_false_iff_eq.mpr c75
            clear c75
            obtain rfl := Option.some.inj H
            have hnb76 := NB401_411.out
            have hnc76 := NB411_401.out
            have hcz77_0 : wr.cell? ⟨gb401, 0, none⟩ = some (.int .i64 t395) := (blk_cell BK401.out 0).trans rfl
            have hcz77_1 : wr.cell? ⟨gb401, 1, none⟩ = some (.string t396) := (blk_cell BK401.out 1).trans rfl
            have hcz77_2 : wr.cell? ⟨gb401, 2, none⟩ = some (.slice Ao21 t397.length co21) := (blk_cell BK401.out 2).trans rfl
            have hcz77_3 : wr.cell? ⟨gb401, 3, none⟩ = some (.bool t400) := (blk_cell BK401.out 3).trans rfl
            have hfz77_0 := blk_frozen BK401.out 0
            have hfz77_1 := blk_frozen BK401.out 1
            have hfz77_2 := blk_frozen BK401.out 2
            have hfz77_3 := blk_frozen BK401.out 3
            have hcz78_0 : wr.cell? ⟨gb411, 0, none⟩ = some (.int .i64 x412000_2) := (blk_cell BK411.out 0).trans rfl
            have hcz78_1 : wr.cell? ⟨gb411, 1, none⟩ = some (.string x412001_2) := (blk_cell BK411.out 1).trans rfl
            have hcz78_2 : wr.cell? ⟨gb411, 2, none⟩ = some (u412002) := (blk_cell BK411.out 2).trans rfl
            have hcz78_3 : wr.cell? ⟨gb411, 3, none⟩ = some (.bool x412003_2) := (blk_cell BK411.out 3).trans rfl
            have hfz78_0 := blk_frozen BK411.out 0
            have hfz78_1 := blk_frozen BK411.out 1
            have hfz78_2 := blk_frozen BK411.out 2
            have hfz78_3 := blk_frozen BK411.out 3
            obtain ⟨Ao79, co79, eo79⟩ := Kd.R_slice HO_412002.out
            subst eo79
            go_wp2_with (first | ((with_reducible refine gate_callee (f := 8) rfl ?_); refine goesL_ (some 87) rfl rfl Try.func8 zq19 rfl #[.agg #[.int .i64 t395, .string t396, .slice Ao21 t397.length co21, .bool t400], .agg #[.int .i64 x412000_2, .string x412001_2, .slice Ao79 x412002_2.length co79, .bool x412003_2]] rfl zq0 ?_; (with_reducible refine (laws_wDecoder.calls k2 t395 t396 _ _ t397 t400 x412000_2 x412001_2 _ _ x412002_2 x412003_2 true _ ?side1 ?side2 ?side3 ?side4 A68.out).mono ?_); (case side1 => repeat (first | exact (Kd.R_reads' HO_402002.out).2.2 | (with_reducible refine Kd.C_alloc ?_ _) | (with_reducible refine Kd.C_drewN ?_ _) | (with_reducible refine Kd.C_drew ?_))); (case side2 => exact (Kd.R_reads' HO_402002.out).2.1); (case side3 => repeat (first | exact (Kd.R_reads' HO_412002.out).2.2 | (with_reducible refine Kd.C_alloc ?_ _) | (with_reducible refine Kd.C_drewN ?_ _) | (with_reducible refine Kd.C_drew ?_))); (case side4 => exact (Kd.R_reads' HO_412002.out).2.1); rintro e w80 ⟨rfl, hb⟩; refine ⟨_, rfl, ?_⟩; have n0_ := Aside0.mk (Kd.R_below zq17 hb); have n1_ := Aside0.mk (Kd.R_below zq16 hb); have n2_ := Aside0.mk (blk_below (g := gb401) (o := .cells #[.int .i64 t395, .string t396, .slice Ao21 t397.length co21, .bool t400] 25 (0, 0)) zq10 hb); have n3_ := Aside0.mk (blk_below (g := gb411) (o := .cells #[.int .i64 x412000_2, .string x412001_2, .slice Ao79 x412002_2.length co79, .bool x412003_2] 25 (0, 0)) zq13 hb); have n4_ := Aside0.mk (below_step zq2 hb); clear HO_402002; clear HO_412002; clear BK401; clear BK411; clear HB; have HO_402002 := n0_; have HO_412002 := n1_; have BK401 := n2_; have BK411 := n3_; have HB := n4_; clear n0_ n1_ n2_ n3_ n4_; (try clear hb); (try clear hb2); (try clear hk); (try clear hi)) | ((with_reducible refine gate_callee (f := 12) rfl ?_); refine goesL_ (some 91) rfl rfl Try.func12 zq19 rfl #[.slice A0 l0.length c0] rfl zq0 ?_; (with_reducible refine (spec_DrawEncode.calls k2 _ _ l0 t421 t422 _ ?side1 ?side2 A70.out).mono ?_); (case side1 => repeat (first | exact (Kd.C_below HR0.out HB.out) | (with_reducible refine Kd.C_alloc ?_ _) | (with_reducible refine Kd.C_drewN ?_ _) | (with_reducible refine Kd.C_drew ?_))); (case side2 => exact HC0.out); rintro e w81 ⟨v423, rfl, ho0, hb⟩; refine ⟨_, rfl, ?_⟩; have n0_ := Aside0.mk (Kd.R_elder' zq17 (Kd.R_base ho0) hb); have n1_ := Aside0.mk (Kd.R_elder' zq16 (Kd.R_base ho0) hb); have n2_ := Aside0.mk (Kd.R_lower (Kd.R_new' (Kd.R_new' ho0 (Kd.R_lt zq17)) (Kd.R_lt zq16)) (below_size zq2)); have n3_ := Aside0.mk (blk_below (g := gb401) (o := .cells #[.int .i64 t395, .string t396, .slice Ao21 t397.length co21, .bool t400] 25 (0, 0)) zq10 hb); have n4_ := Aside0.mk (blk_below (g := gb411) (o := .cells #[.int .i64 x412000_2, .string x412001_2, .slice Ao79 x412002_2.length co79, .bool x412003_2] 25 (0, 0)) zq13 hb); have n5_ := Aside0.mk (below_step zq2 hb); clear HO_402002; clear HO_412002; clear BK401; clear BK411; clear HB; have HO_402002 := n0_; have HO_412002 := n1_; have HO424 := n2_; have BK401 := n3_; have BK411 := n4_; have HB := n5_; clear n0_ n1_ n2_ n3_ n4_ n5_; (try clear hb); (try clear hb2); (try clear hk); (try clear hi); (try clear ho0); obtain ⟨Ao82, co82, eo82⟩ := Kd.R_slice HO424.out; subst eo82) | ((with_reducible refine gate_callee (f := 13) rfl ?_); refine goesL_ (some 96) rfl rfl Try.func13 zq19 rfl #[.slice Ao82 t421.length co82, .int .i64 t422] rfl zq0 ?_; (with_reducible refine (impl_Encode.calls _ _ t421 t422 t425 _ ?side1 ?side2 A71.out).mono ?_); (case side1 => repeat (first | exact (Kd.R_reads' HO424.out).2.2 | (with_reducible refine Kd.C_alloc ?_ _) | (with_reducible refine Kd.C_drewN ?_ _) | (with_reducible refine Kd.C_drew ?_))); (case side2 => exact (Kd.R_reads' HO424.out).2.1); rintro e w83 ⟨rfl, hb⟩; refine ⟨_, rfl, ?_⟩; have n0_ := Aside0.mk (Kd.R_below zq17 hb); have n1_ := Aside0.mk (Kd.R_below zq16 hb); have n2_ := Aside0.mk (Kd.R_below zq37 hb); have n3_ := Aside0.mk (blk_below (g := gb401) (o := .cells #[.int .i64 t395, .string t396, .slice Ao21 t397.length co21, .bool t400] 25 (0, 0)) zq10 hb); have n4_ := Aside0.mk (blk_below (g := gb411) (o := .cells #[.int .i64 x412000_2, .string x412001_2, .slice Ao79 x412002_2.length co79, .bool x412003_2] 25 (0, 0)) zq13 hb); have n5_ := Aside0.mk (below_step zq2 hb); clear HO_402002; clear HO_412002; clear HO424; clear BK401; clear BK411; clear HB; have HO_402002 := n0_; have HO_412002 := n1_; have HO424 := n2_; have BK401 := n3_; have BK411 := n4_; have HB := n5_; clear n0_ n1_ n2_ n3_ n4_ n5_; (try clear hb); (try clear hb2); (try clear hk); (try clear hi)) | ((with_reducible refine gate_callee (f := 14) rfl ?_); refine goesL_ (some 100) rfl rfl Try.func14 zq19 rfl #[.slice Ao82 t421.length co82, .int .i64 t422] rfl zq0 ?_; (with_reducible refine (spec_Encode.calls k2 _ _ t421 t422 t426 _ ?side1 ?side2 A72.out).mono ?_); (case side1 => repeat (first | exact (Kd.R_reads' HO424.out).2.2 | (with_reducible refine Kd.C_alloc ?_ _) | (with_reducible refine Kd.C_drewN ?_ _) | (with_reducible refine Kd.C_drew ?_))); (case side2 => exact (Kd.R_reads' HO424.out).2.1); rintro e w84 ⟨rfl, hb⟩; refine ⟨_, rfl, ?_⟩; have n0_ := Aside0.mk (Kd.R_below zq17 hb); have n1_ := Aside0.mk (Kd.R_below zq16 hb); have n2_ := Aside0.mk (Kd.R_below zq37 hb); have n3_ := Aside0.mk (blk_below (g := gb401) (o := .cells #[.int .i64 t395, .string t396, .slice Ao21 t397.length co21, .bool t400] 25 (0, 0)) zq10 hb); have n4_ := Aside0.mk (blk_below (g := gb411) (o := .cells #[.int .i64 x412000_2, .string x412001_2, .slice Ao79 x412002_2.length co79, .bool x412003_2] 25 (0, 0)) zq13 hb); have n5_ := Aside0.mk (below_step zq2 hb); clear HO_402002; clear HO_412002; clear HO424; clear BK401; clear BK411; clear HB; have HO_402002 := n0_; have HO_412002 := n1_; have HO424 := n2_; have BK401 := n3_; have BK411 := n4_; have HB := n5_; clear n0_ n1_ n2_ n3_ n4_ n5_; (try clear hb); (try clear hb2); (try clear hk); (try clear hi)) | ((with_reducible refine gate_callee (f := 7) rfl ?_); refine goesL_ (some 105) rfl rfl Try.func7 zq19 rfl #[.agg #[.int .i64 t422, .string (⟨#[]⟩ : ByteArray), .slice none 0 0, .bool false], .string t425] rfl zq0 ?_; (refine (impl_Feed.calls k2 t422 (⟨#[]⟩ : ByteArray) _ _ ([] : List ByteArray) false t425 t427 t428 t429 t432 _ ?side1 ?side2 A74.out).mono ?_); (case side1 => exact Kd.C_nil _ _); (case side2 => exact Nat.le_refl _); rintro e w85 ⟨v430, rfl, ho0, hb⟩; refine ⟨_, rfl, ?_⟩; have n0_ := Aside0.mk (Kd.R_elder' zq17 (Kd.R_base ho0) hb); have n1_ := Aside0.mk (Kd.R_elder' zq16 (Kd.R_base ho0) hb); have n2_ := Aside0.mk (Kd.R_elder' zq37 (Kd.R_base ho0) hb); have n3_ := Aside0.mk (Kd.R_lower (Kd.R_new' (Kd.R_new' (Kd.R_new' ho0 (Kd.R_lt zq17)) (Kd.R_lt zq16)) (Kd.R_lt zq37)) (below_size zq2)); have n4_ := Aside0.mk (blk_below (g := gb401) (o := .cells #[.int .i64 t395, .string t396, .slice Ao21 t397.length co21, .bool t400] 25 (0, 0)) zq10 hb); have n5_ := Aside0.mk (blk_below (g := gb411) (o := .cells #[.int .i64 x412000_2, .string x412001_2, .slice Ao79 x412002_2.length co79, .bool x412003_2] 25 (0, 0)) zq13 hb); have n6_ := Aside0.mk (below_step zq2 hb); clear HO_402002; clear HO_412002; clear HO424; clear BK401; clear BK411; clear HB; have HO_402002 := n0_; have HO_412002 := n1_; have HO424 := n2_; have HO431 := n3_; have BK401 := n4_; have BK411 := n5_; have HB := n6_; clear n0_ n1_ n2_ n3_ n4_ n5_ n6_; (try clear hb); (try clear hb2); (try clear hk); (try clear hi); (try clear ho0)) | ((with_reducible refine gate_dst (N := 15) rfl ?_); (try (refine gate_guard zq90 ?_; dsimp only)); refine box_event ?hg (N := 15) ?hd (cs := #[.int .i64 0, .string (⟨#[]⟩ : ByteArray), .slice none 0 0, .bool false]) (t := 25) ?hr ?_; (case hd => rfl); (case hg => rfl); (case hr => first | (go_simp; done) | (go_simp; rfl)); intro gb433 hg w86 hbox hb; have n0_ := Aside0.mk (Kd.R_below zq17 hb); have n1_ := Aside0.mk (Kd.R_below zq16 hb); have n2_ := Aside0.mk (Kd.R_below zq37 hb); have n3_ := Aside0.mk (Kd.R_below zq84 hb); have n4_ := Aside0.mk (blk_below (g := gb401) (o := .cells #[.int .i64 t395, .string t396, .slice Ao21 t397.length co21, .bool t400] 25 (0, 0)) zq10 hb); have n5_ := Aside0.mk (blk_below (g := gb411) (o := .cells #[.int .i64 x412000_2, .string x412001_2, .slice Ao79 x412002_2.length co79, .bool x412003_2] 25 (0, 0)) zq13 hb); have n6_ := Aside0.mk (below_step zq2 hb); have n7_ := Aside0.mk (hbox); have n8_ := Aside0.mk ((by rw [hg]; exact (below_size zq2) : w.heap.size ≤ gb433)); have n9_ := Aside0.mk ((by rw [hg]; exact (below_size zq2) : w.heap.size ≤ gb433)); have n10_ := Aside0.mk ((by rw [hg]; exact Nat.ne_of_lt (blk_lt (g := gb401) (o := .cells #[.int .i64 t395, .string t396, .slice Ao21 t397.length co21, .bool t400] 25 (0, 0)) zq10) : gb401 ≠ gb433)); have n11_ := Aside0.mk ((by rw [hg]; exact Nat.ne_of_gt (blk_lt (g := gb401) (o := .cells #[.int .i64 t395, .string t396, .slice Ao21 t397.length co21, .bool t400] 25 (0, 0)) zq10) : gb433 ≠ gb401)); have n12_ := Aside0.mk ((by rw [hg]; exact Nat.ne_of_lt (blk_lt (g := gb411) (o := .cells #[.int .i64 x412000_2, .string x412001_2, .slice Ao79 x412002_2.length co79, .bool x412003_2] 25 (0, 0)) zq13) : gb411 ≠ gb433)); have n13_ := Aside0.mk ((by rw [hg]; exact Nat.ne_of_gt (blk_lt (g := gb411) (o := .cells #[.int .i64 x412000_2, .string x412001_2, .slice Ao79 x412002_2.length co79, .bool x412003_2] 25 (0, 0)) zq13) : gb433 ≠ gb411)); clear HO_402002; clear HO_412002; clear HO424; clear HO431; clear BK401; clear BK411; clear HB; have HO_402002 := n0_; have HO_412002 := n1_; have HO424 := n2_; have HO431 := n3_; have BK401 := n4_; have BK411 := n5_; have HB := n6_; have BK433 := n7_; have GW433 := n8_; have GE433 := n9_; have NB401_433 := n10_; have NB433_401 := n11_; have NB411_433 := n12_; have NB433_411 := n13_; clear n0_ n1_ n2_ n3_ n4_ n5_ n6_ n7_ n8_ n9_ n10_ n11_ n12_ n13_; clear hb hbox hg; have hnb87 := NB433_401.out; have hnc87 := NB401_433.out; have hnb88 := NB433_411.out; have hnc88 := NB411_433.out; have hcz89_0 : w86.cell? ⟨gb433, 0, none⟩ = some (.int .i64 0) := (blk_cell BK433.out 0).trans rfl; have hcz89_1 : w86.cell? ⟨gb433, 1, none⟩ = some (.string (⟨#[]⟩ : ByteArray)) := (blk_cell BK433.out 1).trans rfl; have hcz89_2 : w86.cell? ⟨gb433, 2, none⟩ = some (.slice none 0 0) := (blk_cell BK433.out 2).trans rfl; have hcz89_3 : w86.cell? ⟨gb433, 3, none⟩ = some (.bool false) := (blk_cell BK433.out 3).trans rfl; have hfz89_0 := blk_frozen BK433.out 0; have hfz89_1 := blk_frozen BK433.out 1; have hfz89_2 := blk_frozen BK433.out 2; have hfz89_3 := blk_frozen BK433.out 3; obtain ⟨Ao90, co90, eo90⟩ := Kd.R_slice HO431.out; subst eo90))
            go_ret
            exact ⟨zq8, zq65⟩
           ·rw [if_neg c75] at H
            have c75b0 : (t425.toList == ([] : List UInt8)) = false := beq_eq_false_iff_ne.mpr c75
            have c75b1 : (t425.toList != ([] : List UInt8)) = true := bne_iff_ne.mpr c75
            by_cases c91 : t432 = true
            ·subst c91
             rw [if_pos rfl] at H
             obtain rfl := Option.some.inj H
             have hnb92 := NB401_411.out
             have hnc92 := NB411_401.out
             have hcz93_0 : wr.cell? ⟨gb401, 0, none⟩ = some (.int .i64 t395) := (blk_cell BK401.out 0).trans rfl
             have hcz93_1 : wr.cell? ⟨gb401, 1, none⟩ = some (.string t396) := (blk_cell BK401.out 1).trans rfl
             have hcz93_2 : wr.cell? ⟨gb401, 2, none⟩ = some (.slice Ao21 t397.length co21) := (blk_cell BK401.out 2).trans rfl
             have hcz93_3 : wr.cell? ⟨gb401, 3, none⟩ = some (.bool t400) := (blk_cell BK401.out 3).trans rfl
             have hfz93_0 := blk_frozen BK401.out 0
             have hfz93_1 := blk_frozen BK401.out 1
             have hfz93_2 := blk_frozen BK401.out 2
             have hfz93_3 := blk_frozen BK401.out 3
             have hcz94_0 : wr.cell? ⟨gb411, 0, none⟩ = some (.int .i64 x412000_2) := (blk_cell BK411.out 0).trans rfl
             have hcz94_1 : wr.cell? ⟨gb411, 1, none⟩ = some (.string x412001_2) := (blk_cell BK411.out 1).trans rfl
             have hcz94_2 : wr.cell? ⟨gb411, 2, none⟩ = some (u412002) := (blk_cell BK411.out 2).trans rfl
             have hcz94_3 : wr.cell? ⟨gb411, 3, none⟩ = some (.bool x412003_2) := (blk_cell BK411.out 3).trans rfl
             have hfz94_0 := blk_frozen BK411.out 0
             have hfz94_1 := blk_frozen BK411.out 1
             have hfz94_2 := blk_frozen BK411.out 2
             have hfz94_3 := blk_frozen BK411.out 3
             obtain ⟨Ao95, co95, eo95⟩ := Kd.R_slice HO_412002.out
             subst eo95
             go_wp2_with (first | ((with_reducible refine gate_callee (f := 8) rfl ?_); refine goesL_ (some 87) rfl rfl Try.func8 zq19 rfl #[.agg #[.int .i64 t395, .string t396, .slice Ao21 t397.length co21, .bool t400], .agg #[.int .i64 x412000_2, .string x412001_2, .slice Ao95 x412002_2.length co95, .bool x412003_2]] rfl zq0 ?_; (with_reducible refine (laws_wDecoder.calls k2 t395 t396 _ _ t397 t400 x412000_2 x412001_2 _ _ x412002_2 x412003_2 true _ ?side1 ?side2 ?side3 ?side4 A68.out).mono ?_); (case side1 => repeat (first | exact (Kd.R_reads' HO_402002.out).2.2 | (with_reducible refine Kd.C_alloc ?_ _) | (with_reducible refine Kd.C_drewN ?_ _) | (with_reducible refine Kd.C_drew ?_))); (case side2 => exact (Kd.R_reads' HO_402002.out).2.1); (case side3 => repeat (first | exact (Kd.R_reads' HO_412002.out).2.2 | (with_reducible refine Kd.C_alloc ?_ _) | (with_reducible refine Kd.C_drewN ?_ _) | (with_reducible refine Kd.C_drew ?_))); (case side4 => exact (Kd.R_reads' HO_412002.out).2.1); rintro e w96 ⟨rfl, hb⟩; refine ⟨_, rfl, ?_⟩; have n0_ := Aside0.mk (Kd.R_below zq17 hb); have n1_ := Aside0.mk (Kd.R_below zq16 hb); have n2_ := Aside0.mk (blk_below (g := gb401) (o := .cells #[.int .i64 t395, .string t396, .slice Ao21 t397.length co21, .bool t400] 25 (0, 0)) zq10 hb); have n3_ := Aside0.mk (blk_below (g := gb411) (o := .cells #[.int .i64 x412000_2, .string x412001_2, .slice Ao95 x412002_2.length co95, .bool x412003_2] 25 (0, 0)) zq13 hb); have n4_ := Aside0.mk (below_step zq2 hb); clear HO_402002; clear HO_412002; clear BK401; clear BK411; clear HB; have HO_402002 := n0_; have HO_412002 := n1_; have BK401 := n2_; have BK411 := n3_; have HB := n4_; clear n0_ n1_ n2_ n3_ n4_; (try clear hb); (try clear hb2); (try clear hk); (try clear hi)) | ((with_reducible refine gate_callee (f := 12) rfl ?_); refine goesL_ (some 91) rfl rfl Try.func12 zq19 rfl #[.slice A0 l0.length c0] rfl zq0 ?_; (with_reducible refine (spec_DrawEncode.calls k2 _ _ l0 t421 t422 _ ?side1 ?side2 A70.out).mono ?_); (case side1 => repeat (first | exact (Kd.C_below HR0.out HB.out) | (with_reducible refine Kd.C_alloc ?_ _) | (with_reducible refine Kd.C_drewN ?_ _) | (with_reducible refine Kd.C_drew ?_))); (case side2 => exact HC0.out); rintro e w97 ⟨v423, rfl, ho0, hb⟩; refine ⟨_, rfl, ?_⟩; have n0_ := Aside0.mk (Kd.R_elder' zq17 (Kd.R_base ho0) hb); have n1_ := Aside0.mk (Kd.R_elder' zq16 (Kd.R_base ho0) hb); have n2_ := Aside0.mk (Kd.R_lower (Kd.R_new' (Kd.R_new' ho0 (Kd.R_lt zq17)) (Kd.R_lt zq16)) (below_size zq2)); have n3_ := Aside0.mk (blk_below (g := gb401) (o := .cells #[.int .i64 t395, .string t396, .slice Ao21 t397.length co21, .bool t400] 25 (0, 0)) zq10 hb); have n4_ := Aside0.mk (blk_below (g := gb411) (o := .cells #[.int .i64 x412000_2, .string x412001_2, .slice Ao95 x412002_2.length co95, .bool x412003_2] 25 (0, 0)) zq13 hb); have n5_ := Aside0.mk (below_step zq2 hb); clear HO_402002; clear HO_412002; clear BK401; clear BK411; clear HB; have HO_402002 := n0_; have HO_412002 := n1_; have HO424 := n2_; have BK401 := n3_; have BK411 := n4_; have HB := n5_; clear n0_ n1_ n2_ n3_ n4_ n5_; (try clear hb); (try clear hb2); (try clear hk); (try clear hi); (try clear ho0); obtain ⟨Ao98, co98, eo98⟩ := Kd.R_slice HO424.out; subst eo98) | ((with_reducible refine gate_callee (f := 13) rfl ?_); refine goesL_ (some 96) rfl rfl Try.func13 zq19 rfl #[.slice Ao98 t421.length co98, .int .i64 t422] rfl zq0 ?_; (with_reducible refine (impl_Encode.calls _ _ t421 t422 t425 _ ?side1 ?side2 A71.out).mono ?_); (case side1 => repeat (first | exact (Kd.R_reads' HO424.out).2.2 | (with_reducible refine Kd.C_alloc ?_ _) | (with_reducible refine Kd.C_drewN ?_ _) | (with_reducible refine Kd.C_drew ?_))); (case side2 => exact (Kd.R_reads' HO424.out).2.1); rintro e w99 ⟨rfl, hb⟩; refine ⟨_, rfl, ?_⟩; have n0_ := Aside0.mk (Kd.R_below zq17 hb); have n1_ := Aside0.mk (Kd.R_below zq16 hb); have n2_ := Aside0.mk (Kd.R_below zq37 hb); have n3_ := Aside0.mk (blk_below (g := gb401) (o := .cells #[.int .i64 t395, .string t396, .slice Ao21 t397.length co21, .bool t400] 25 (0, 0)) zq10 hb); have n4_ := Aside0.mk (blk_below (g := gb411) (o := .cells #[.int .i64 x412000_2, .string x412001_2, .slice Ao95 x412002_2.length co95, .bool x412003_2] 25 (0, 0)) zq13 hb); have n5_ := Aside0.mk (below_step zq2 hb); clear HO_402002; clear HO_412002; clear HO424; clear BK401; clear BK411; clear HB; have HO_402002 := n0_; have HO_412002 := n1_; have HO424 := n2_; have BK401 := n3_; have BK411 := n4_; have HB := n5_; clear n0_ n1_ n2_ n3_ n4_ n5_; (try clear hb); (try clear hb2); (try clear hk); (try clear hi)) | ((with_reducible refine gate_callee (f := 14) rfl ?_); refine goesL_ (some 100) rfl rfl Try.func14 zq19 rfl #[.slice Ao98 t421.length co98, .int .i64 t422] rfl zq0 ?_; (with_reducible refine (spec_Encode.calls k2 _ _ t421 t422 t426 _ ?side1 ?side2 A72.out).mono ?_); (case side1 => repeat (first | exact (Kd.R_reads' HO424.out).2.2 | (with_reducible refine Kd.C_alloc ?_ _) | (with_reducible refine Kd.C_drewN ?_ _) | (with_reducible refine Kd.C_drew ?_))); (case side2 => exact (Kd.R_reads' HO424.out).2.1); rintro e w100 ⟨rfl, hb⟩; refine ⟨_, rfl, ?_⟩; have n0_ := Aside0.mk (Kd.R_below zq17 hb); have n1_ := Aside0.mk (Kd.R_below zq16 hb); have n2_ := Aside0.mk (Kd.R_below zq37 hb); have n3_ := Aside0.mk (blk_below (g := gb401) (o := .cells #[.int .i64 t395, .string t396, .slice Ao21 t397.length co21, .bool t400] 25 (0, 0)) zq10 hb); have n4_ := Aside0.mk (blk_below (g := gb411) (o := .cells #[.int .i64 x412000_2, .string x412001_2, .slice Ao95 x412002_2.length co95, .bool x412003_2] 25 (0, 0)) zq13 hb); have n5_ := Aside0.mk (below_step zq2 hb); clear HO_402002; clear HO_412002; clear HO424; clear BK401; clear BK411; clear HB; have HO_402002 := n0_; have HO_412002 := n1_; have HO424 := n2_; have BK401 := n3_; have BK411 := n4_; have HB := n5_; clear n0_ n1_ n2_ n3_ n4_ n5_; (try clear hb); (try clear hb2); (try clear hk); (try clear hi)) | ((with_reducible refine gate_callee (f := 7) rfl ?_); refine goesL_ (some 105) rfl rfl Try.func7 zq19 rfl #[.agg #[.int .i64 t422, .string (⟨#[]⟩ : ByteArray), .slice none 0 0, .bool false], .string t425] rfl zq0 ?_; (refine (impl_Feed.calls k2 t422 (⟨#[]⟩ : ByteArray) _ _ ([] : List ByteArray) false t425 t427 t428 t429 true _ ?side1 ?side2 A74.out).mono ?_); (case side1 => exact Kd.C_nil _ _); (case side2 => exact Nat.le_refl _); rintro e w101 ⟨v430, rfl, ho0, hb⟩; refine ⟨_, rfl, ?_⟩; have n0_ := Aside0.mk (Kd.R_elder' zq17 (Kd.R_base ho0) hb); have n1_ := Aside0.mk (Kd.R_elder' zq16 (Kd.R_base ho0) hb); have n2_ := Aside0.mk (Kd.R_elder' zq37 (Kd.R_base ho0) hb); have n3_ := Aside0.mk (Kd.R_lower (Kd.R_new' (Kd.R_new' (Kd.R_new' ho0 (Kd.R_lt zq17)) (Kd.R_lt zq16)) (Kd.R_lt zq37)) (below_size zq2)); have n4_ := Aside0.mk (blk_below (g := gb401) (o := .cells #[.int .i64 t395, .string t396, .slice Ao21 t397.length co21, .bool t400] 25 (0, 0)) zq10 hb); have n5_ := Aside0.mk (blk_below (g := gb411) (o := .cells #[.int .i64 x412000_2, .string x412001_2, .slice Ao95 x412002_2.length co95, .bool x412003_2] 25 (0, 0)) zq13 hb); have n6_ := Aside0.mk (below_step zq2 hb); clear HO_402002; clear HO_412002; clear HO424; clear BK401; clear BK411; clear HB; have HO_402002 := n0_; have HO_412002 := n1_; have HO424 := n2_; have HO431 := n3_; have BK401 := n4_; have BK411 := n5_; have HB := n6_; clear n0_ n1_ n2_ n3_ n4_ n5_ n6_; (try clear hb); (try clear hb2); (try clear hk); (try clear hi); (try clear ho0)) | ((with_reducible refine gate_dst (N := 15) rfl ?_); (try (refine gate_guard zq90 ?_; dsimp only)); refine box_event ?hg (N := 15) ?hd (cs := #[.int .i64 0, .string (⟨#[]⟩ : ByteArray), .slice none 0 0, .bool false]) (t := 25) ?hr ?_; (case hd => rfl); (case hg => rfl); (case hr => first | (go_simp; done) | (go_simp; rfl)); intro gb433 hg w102 hbox hb; have n0_ := Aside0.mk (Kd.R_below zq17 hb); have n1_ := Aside0.mk (Kd.R_below zq16 hb); have n2_ := Aside0.mk (Kd.R_below zq37 hb); have n3_ := Aside0.mk (Kd.R_below zq84 hb); have n4_ := Aside0.mk (blk_below (g := gb401) (o := .cells #[.int .i64 t395, .string t396, .slice Ao21 t397.length co21, .bool t400] 25 (0, 0)) zq10 hb); have n5_ := Aside0.mk (blk_below (g := gb411) (o := .cells #[.int .i64 x412000_2, .string x412001_2, .slice Ao95 x412002_2.length co95, .bool x412003_2] 25 (0, 0)) zq13 hb); have n6_ := Aside0.mk (below_step zq2 hb); have n7_ := Aside0.mk (hbox); have n8_ := Aside0.mk ((by rw [hg]; exact (below_size zq2) : w.heap.size ≤ gb433)); have n9_ := Aside0.mk ((by rw [hg]; exact (below_size zq2) : w.heap.size ≤ gb433)); have n10_ := Aside0.mk ((by rw [hg]; exact Nat.ne_of_lt (blk_lt (g := gb401) (o := .cells #[.int .i64 t395, .string t396, .slice Ao21 t397.length co21, .bool t400] 25 (0, 0)) zq10) : gb401 ≠ gb433)); have n11_ := Aside0.mk ((by rw [hg]; exact Nat.ne_of_gt (blk_lt (g := gb401) (o := .cells #[.int .i64 t395, .string t396, .slice Ao21 t397.length co21, .bool t400] 25 (0, 0)) zq10) : gb433 ≠ gb401)); have n12_ := Aside0.mk ((by rw [hg]; exact Nat.ne_of_lt (blk_lt (g := gb411) (o := .cells #[.int .i64 x412000_2, .string x412001_2, .slice Ao95 x412002_2.length co95, .bool x412003_2] 25 (0, 0)) zq13) : gb411 ≠ gb433)); have n13_ := Aside0.mk ((by rw [hg]; exact Nat.ne_of_gt (blk_lt (g := gb411) (o := .cells #[.int .i64 x412000_2, .string x412001_2, .slice Ao95 x412002_2.length co95, .bool x412003_2] 25 (0, 0)) zq13) : gb433 ≠ gb411)); clear HO_402002; clear HO_412002; clear HO424; clear HO431; clear BK401; clear BK411; clear HB; have HO_402002 := n0_; have HO_412002 := n1_; have HO424 := n2_; have HO431 := n3_; have BK401 := n4_; have BK411 := n5_; have HB := n6_; have BK433 := n7_; have GW433 := n8_; have GE433 := n9_; have NB401_433 := n10_; have NB433_401 := n11_; have NB411_433 := n12_; have NB433_411 := n13_; clear n0_ n1_ n2_ n3_ n4_ n5_ n6_ n7_ n8_ n9_ n10_ n11_ n12_ n13_; clear hb hbox hg; have hnb103 := NB433_401.out; have hnc103 := NB401_433.out; have hnb104 := NB433_411.out; have hnc104 := NB411_433.out; have hcz105_0 : w102.cell? ⟨gb433, 0, none⟩ = some (.int .i64 0) := (blk_cell BK433.out 0).trans rfl; have hcz105_1 : w102.cell? ⟨gb433, 1, none⟩ = some (.string (⟨#[]⟩ : ByteArray)) := (blk_cell BK433.out 1).trans rfl; have hcz105_2 : w102.cell? ⟨gb433, 2, none⟩ = some (.slice none 0 0) := (blk_cell BK433.out 2).trans rfl; have hcz105_3 : w102.cell? ⟨gb433, 3, none⟩ = some (.bool false) := (blk_cell BK433.out 3).trans rfl; have hfz105_0 := blk_frozen BK433.out 0; have hfz105_1 := blk_frozen BK433.out 1; have hfz105_2 := blk_frozen BK433.out 2; have hfz105_3 := blk_frozen BK433.out 3; obtain ⟨Ao106, co106, eo106⟩ := Kd.R_slice HO431.out; subst eo106))
             go_ret
             exact ⟨zq8, zq65⟩
            ·replace c91 := Bool.eq_false_iff.mpr c91
             subst c91
             rw [if_neg (show ¬ (false = true) by decide)] at H
             by_cases c107 : t428.toList = ([] : List UInt8)
             ·rw [if_pos c107] at H
              have c107b0 : (t428.toList == ([] : List UInt8)) = true := beq_iff_eq.mpr c107
              have c107b1 : (t428.toList != ([] : List UInt8)) = false := bne_eq_false_iff_eq.mpr c107
              clear c107
              replace H := Option.bind_eq_some_iff.mp H
              obtain ⟨t434, A1080, H⟩ := H
              try dsimp only at H
              have A108 := Aside0.mk A1080
              clear A1080
              obtain rfl := Option.some.inj H
              have hnb109 := NB401_411.out
              have hnc109 := NB411_401.out
              have hcz110_0 : wr.cell? ⟨gb401, 0, none⟩ = some (.int .i64 t395) := (blk_cell BK401.out 0).trans rfl
              have hcz110_1 : wr.cell? ⟨gb401, 1, none⟩ = some (.string t396) := (blk_cell BK401.out 1).trans rfl
              have hcz110_2 : wr.cell? ⟨gb401, 2, none⟩ = some (.slice Ao21 t397.length co21) := (blk_cell BK401.out 2).trans rfl
              have hcz110_3 : wr.cell? ⟨gb401, 3, none⟩ = some (.bool t400) := (blk_cell BK401.out 3).trans rfl
              have hfz110_0 := blk_frozen BK401.out 0
              have hfz110_1 := blk_frozen BK401.out 1
              have hfz110_2 := blk_frozen BK401.out 2
              have hfz110_3 := blk_frozen BK401.out 3
              have hcz111_0 : wr.cell? ⟨gb411, 0, none⟩ = some (.int .i64 x412000_2) := (blk_cell BK411.out 0).trans rfl
              have hcz111_1 : wr.cell? ⟨gb411, 1, none⟩ = some (.string x412001_2) := (blk_cell BK411.out 1).trans rfl
              have hcz111_2 : wr.cell? ⟨gb411, 2, none⟩ = some (u412002) := (blk_cell BK411.out 2).trans rfl
              have hcz111_3 : wr.cell? ⟨gb411, 3, none⟩ = some (.bool x412003_2) := (blk_cell BK411.out 3).trans rfl
              have hfz111_0 := blk_frozen BK411.out 0
              have hfz111_1 := blk_frozen BK411.out 1
              have hfz111_2 := blk_frozen BK411.out 2
              have hfz111_3 := blk_frozen BK411.out 3
              obtain ⟨Ao112, co112, eo112⟩ := Kd.R_slice HO_412002.out
              subst eo112
              go_wp2_with (first | ((with_reducible refine gate_callee (f := 8) rfl ?_); refine goesL_ (some 87) rfl rfl Try.func8 zq19 rfl #[.agg #[.int .i64 t395, .string t396, .slice Ao21 t397.length co21, .bool t400], .agg #[.int .i64 x412000_2, .string x412001_2, .slice Ao112 x412002_2.length co112, .bool x412003_2]] rfl zq0 ?_; (with_reducible refine (laws_wDecoder.calls k2 t395 t396 _ _ t397 t400 x412000_2 x412001_2 _ _ x412002_2 x412003_2 true _ ?side1 ?side2 ?side3 ?side4 A68.out).mono ?_); (case side1 => repeat (first | exact (Kd.R_reads' HO_402002.out).2.2 | (with_reducible refine Kd.C_alloc ?_ _) | (with_reducible refine Kd.C_drewN ?_ _) | (with_reducible refine Kd.C_drew ?_))); (case side2 => exact (Kd.R_reads' HO_402002.out).2.1); (case side3 => repeat (first | exact (Kd.R_reads' HO_412002.out).2.2 | (with_reducible refine Kd.C_alloc ?_ _) | (with_reducible refine Kd.C_drewN ?_ _) | (with_reducible refine Kd.C_drew ?_))); (case side4 => exact (Kd.R_reads' HO_412002.out).2.1); rintro e w113 ⟨rfl, hb⟩; refine ⟨_, rfl, ?_⟩; have n0_ := Aside0.mk (Kd.R_below zq17 hb); have n1_ := Aside0.mk (Kd.R_below zq16 hb); have n2_ := Aside0.mk (blk_below (g := gb401) (o := .cells #[.int .i64 t395, .string t396, .slice Ao21 t397.length co21, .bool t400] 25 (0, 0)) zq10 hb); have n3_ := Aside0.mk (blk_below (g := gb411) (o := .cells #[.int .i64 x412000_2, .string x412001_2, .slice Ao112 x412002_2.length co112, .bool x412003_2] 25 (0, 0)) zq13 hb); have n4_ := Aside0.mk (below_step zq2 hb); clear HO_402002; clear HO_412002; clear BK401; clear BK411; clear HB; have HO_402002 := n0_; have HO_412002 := n1_; have BK401 := n2_; have BK411 := n3_; have HB := n4_; clear n0_ n1_ n2_ n3_ n4_; (try clear hb); (try clear hb2); (try clear hk); (try clear hi)) | ((with_reducible refine gate_callee (f := 12) rfl ?_); refine goesL_ (some 91) rfl rfl Try.func12 zq19 rfl #[.slice A0 l0.length c0] rfl zq0 ?_; (with_reducible refine (spec_DrawEncode.calls k2 _ _ l0 t421 t422 _ ?side1 ?side2 A70.out).mono ?_); (case side1 => repeat (first | exact (Kd.C_below HR0.out HB.out) | (with_reducible refine Kd.C_alloc ?_ _) | (with_reducible refine Kd.C_drewN ?_ _) | (with_reducible refine Kd.C_drew ?_))); (case side2 => exact HC0.out); rintro e w114 ⟨v423, rfl, ho0, hb⟩; refine ⟨_, rfl, ?_⟩; have n0_ := Aside0.mk (Kd.R_elder' zq17 (Kd.R_base ho0) hb); have n1_ := Aside0.mk (Kd.R_elder' zq16 (Kd.R_base ho0) hb); have n2_ := Aside0.mk (Kd.R_lower (Kd.R_new' (Kd.R_new' ho0 (Kd.R_lt zq17)) (Kd.R_lt zq16)) (below_size zq2)); have n3_ := Aside0.mk (blk_below (g := gb401) (o := .cells #[.int .i64 t395, .string t396, .slice Ao21 t397.length co21, .bool t400] 25 (0, 0)) zq10 hb); have n4_ := Aside0.mk (blk_below (g := gb411) (o := .cells #[.int .i64 x412000_2, .string x412001_2, .slice Ao112 x412002_2.length co112, .bool x412003_2] 25 (0, 0)) zq13 hb); have n5_ := Aside0.mk (below_step zq2 hb); clear HO_402002; clear HO_412002; clear BK401; clear BK411; clear HB; have HO_402002 := n0_; have HO_412002 := n1_; have HO424 := n2_; have BK401 := n3_; have BK411 := n4_; have HB := n5_; clear n0_ n1_ n2_ n3_ n4_ n5_; (try clear hb); (try clear hb2); (try clear hk); (try clear hi); (try clear ho0); obtain ⟨Ao115, co115, eo115⟩ := Kd.R_slice HO424.out; subst eo115) | ((with_reducible refine gate_callee (f := 13) rfl ?_); refine goesL_ (some 96) rfl rfl Try.func13 zq19 rfl #[.slice Ao115 t421.length co115, .int .i64 t422] rfl zq0 ?_; (with_reducible refine (impl_Encode.calls _ _ t421 t422 t425 _ ?side1 ?side2 A71.out).mono ?_); (case side1 => repeat (first | exact (Kd.R_reads' HO424.out).2.2 | (with_reducible refine Kd.C_alloc ?_ _) | (with_reducible refine Kd.C_drewN ?_ _) | (with_reducible refine Kd.C_drew ?_))); (case side2 => exact (Kd.R_reads' HO424.out).2.1); rintro e w116 ⟨rfl, hb⟩; refine ⟨_, rfl, ?_⟩; have n0_ := Aside0.mk (Kd.R_below zq17 hb); have n1_ := Aside0.mk (Kd.R_below zq16 hb); have n2_ := Aside0.mk (Kd.R_below zq37 hb); have n3_ := Aside0.mk (blk_below (g := gb401) (o := .cells #[.int .i64 t395, .string t396, .slice Ao21 t397.length co21, .bool t400] 25 (0, 0)) zq10 hb); have n4_ := Aside0.mk (blk_below (g := gb411) (o := .cells #[.int .i64 x412000_2, .string x412001_2, .slice Ao112 x412002_2.length co112, .bool x412003_2] 25 (0, 0)) zq13 hb); have n5_ := Aside0.mk (below_step zq2 hb); clear HO_402002; clear HO_412002; clear HO424; clear BK401; clear BK411; clear HB; have HO_402002 := n0_; have HO_412002 := n1_; have HO424 := n2_; have BK401 := n3_; have BK411 := n4_; have HB := n5_; clear n0_ n1_ n2_ n3_ n4_ n5_; (try clear hb); (try clear hb2); (try clear hk); (try clear hi)) | ((with_reducible refine gate_callee (f := 14) rfl ?_); refine goesL_ (some 100) rfl rfl Try.func14 zq19 rfl #[.slice Ao115 t421.length co115, .int .i64 t422] rfl zq0 ?_; (with_reducible refine (spec_Encode.calls k2 _ _ t421 t422 t426 _ ?side1 ?side2 A72.out).mono ?_); (case side1 => repeat (first | exact (Kd.R_reads' HO424.out).2.2 | (with_reducible refine Kd.C_alloc ?_ _) | (with_reducible refine Kd.C_drewN ?_ _) | (with_reducible refine Kd.C_drew ?_))); (case side2 => exact (Kd.R_reads' HO424.out).2.1); rintro e w117 ⟨rfl, hb⟩; refine ⟨_, rfl, ?_⟩; have n0_ := Aside0.mk (Kd.R_below zq17 hb); have n1_ := Aside0.mk (Kd.R_below zq16 hb); have n2_ := Aside0.mk (Kd.R_below zq37 hb); have n3_ := Aside0.mk (blk_below (g := gb401) (o := .cells #[.int .i64 t395, .string t396, .slice Ao21 t397.length co21, .bool t400] 25 (0, 0)) zq10 hb); have n4_ := Aside0.mk (blk_below (g := gb411) (o := .cells #[.int .i64 x412000_2, .string x412001_2, .slice Ao112 x412002_2.length co112, .bool x412003_2] 25 (0, 0)) zq13 hb); have n5_ := Aside0.mk (below_step zq2 hb); clear HO_402002; clear HO_412002; clear HO424; clear BK401; clear BK411; clear HB; have HO_402002 := n0_; have HO_412002 := n1_; have HO424 := n2_; have BK401 := n3_; have BK411 := n4_; have HB := n5_; clear n0_ n1_ n2_ n3_ n4_ n5_; (try clear hb); (try clear hb2); (try clear hk); (try clear hi)) | ((with_reducible refine gate_callee (f := 7) rfl ?_); refine goesL_ (some 105) rfl rfl Try.func7 zq19 rfl #[.agg #[.int .i64 t422, .string (⟨#[]⟩ : ByteArray), .slice none 0 0, .bool false], .string t425] rfl zq0 ?_; (refine (impl_Feed.calls k2 t422 (⟨#[]⟩ : ByteArray) _ _ ([] : List ByteArray) false t425 t427 t428 t429 false _ ?side1 ?side2 A74.out).mono ?_); (case side1 => exact Kd.C_nil _ _); (case side2 => exact Nat.le_refl _); rintro e w118 ⟨v430, rfl, ho0, hb⟩; refine ⟨_, rfl, ?_⟩; have n0_ := Aside0.mk (Kd.R_elder' zq17 (Kd.R_base ho0) hb); have n1_ := Aside0.mk (Kd.R_elder' zq16 (Kd.R_base ho0) hb); have n2_ := Aside0.mk (Kd.R_elder' zq37 (Kd.R_base ho0) hb); have n3_ := Aside0.mk (Kd.R_lower (Kd.R_new' (Kd.R_new' (Kd.R_new' ho0 (Kd.R_lt zq17)) (Kd.R_lt zq16)) (Kd.R_lt zq37)) (below_size zq2)); have n4_ := Aside0.mk (blk_below (g := gb401) (o := .cells #[.int .i64 t395, .string t396, .slice Ao21 t397.length co21, .bool t400] 25 (0, 0)) zq10 hb); have n5_ := Aside0.mk (blk_below (g := gb411) (o := .cells #[.int .i64 x412000_2, .string x412001_2, .slice Ao112 x412002_2.length co112, .bool x412003_2] 25 (0, 0)) zq13 hb); have n6_ := Aside0.mk (below_step zq2 hb); clear HO_402002; clear HO_412002; clear HO424; clear BK401; clear BK411; clear HB; have HO_402002 := n0_; have HO_412002 := n1_; have HO424 := n2_; have HO431 := n3_; have BK401 := n4_; have BK411 := n5_; have HB := n6_; clear n0_ n1_ n2_ n3_ n4_ n5_ n6_; (try clear hb); (try clear hb2); (try clear hk); (try clear hi); (try clear ho0)) | ((with_reducible refine gate_dst (N := 15) rfl ?_); (try (refine gate_guard zq90 ?_; dsimp only)); refine box_event ?hg (N := 15) ?hd (cs := #[.int .i64 0, .string (⟨#[]⟩ : ByteArray), .slice none 0 0, .bool false]) (t := 25) ?hr ?_; (case hd => rfl); (case hg => rfl); (case hr => first | (go_simp; done) | (go_simp; rfl)); intro gb433 hg w119 hbox hb; have n0_ := Aside0.mk (Kd.R_below zq17 hb); have n1_ := Aside0.mk (Kd.R_below zq16 hb); have n2_ := Aside0.mk (Kd.R_below zq37 hb); have n3_ := Aside0.mk (Kd.R_below zq84 hb); have n4_ := Aside0.mk (blk_below (g := gb401) (o := .cells #[.int .i64 t395, .string t396, .slice Ao21 t397.length co21, .bool t400] 25 (0, 0)) zq10 hb); have n5_ := Aside0.mk (blk_below (g := gb411) (o := .cells #[.int .i64 x412000_2, .string x412001_2, .slice Ao112 x412002_2.length co112, .bool x412003_2] 25 (0, 0)) zq13 hb); have n6_ := Aside0.mk (below_step zq2 hb); have n7_ := Aside0.mk (hbox); have n8_ := Aside0.mk ((by rw [hg]; exact (below_size zq2) : w.heap.size ≤ gb433)); have n9_ := Aside0.mk ((by rw [hg]; exact (below_size zq2) : w.heap.size ≤ gb433)); have n10_ := Aside0.mk ((by rw [hg]; exact Nat.ne_of_lt (blk_lt (g := gb401) (o := .cells #[.int .i64 t395, .string t396, .slice Ao21 t397.length co21, .bool t400] 25 (0, 0)) zq10) : gb401 ≠ gb433)); have n11_ := Aside0.mk ((by rw [hg]; exact Nat.ne_of_gt (blk_lt (g := gb401) (o := .cells #[.int .i64 t395, .string t396, .slice Ao21 t397.length co21, .bool t400] 25 (0, 0)) zq10) : gb433 ≠ gb401)); have n12_ := Aside0.mk ((by rw [hg]; exact Nat.ne_of_lt (blk_lt (g := gb411) (o := .cells #[.int .i64 x412000_2, .string x412001_2, .slice Ao112 x412002_2.length co112, .bool x412003_2] 25 (0, 0)) zq13) : gb411 ≠ gb433)); have n13_ := Aside0.mk ((by rw [hg]; exact Nat.ne_of_gt (blk_lt (g := gb411) (o := .cells #[.int .i64 x412000_2, .string x412001_2, .slice Ao112 x412002_2.length co112, .bool x412003_2] 25 (0, 0)) zq13) : gb433 ≠ gb411)); clear HO_402002; clear HO_412002; clear HO424; clear HO431; clear BK401; clear BK411; clear HB; have HO_402002 := n0_; have HO_412002 := n1_; have HO424 := n2_; have HO431 := n3_; have BK401 := n4_; have BK411 := n5_; have HB := n6_; have BK433 := n7_; have GW433 := n8_; have GE433 := n9_; have NB401_433 := n10_; have NB433_401 := n11_; have NB411_433 := n12_; have NB433_411 := n13_; clear n0_ n1_ n2_ n3_ n4_ n5_ n6_ n7_ n8_ n9_ n10_ n11_ n12_ n13_; clear hb hbox hg; have hnb120 := NB433_401.out; have hnc120 := NB401_433.out; have hnb121 := NB433_411.out; have hnc121 := NB411_433.out; have hcz122_0 : w119.cell? ⟨gb433, 0, none⟩ = some (.int .i64 0) := (blk_cell BK433.out 0).trans rfl; have hcz122_1 : w119.cell? ⟨gb433, 1, none⟩ = some (.string (⟨#[]⟩ : ByteArray)) := (blk_cell BK433.out 1).trans rfl; have hcz122_2 : w119.cell? ⟨gb433, 2, none⟩ = some (.slice none 0 0) := (blk_cell BK433.out 2).trans rfl; have hcz122_3 : w119.cell? ⟨gb433, 3, none⟩ = some (.bool false) := (blk_cell BK433.out 3).trans rfl; have hfz122_0 := blk_frozen BK433.out 0; have hfz122_1 := blk_frozen BK433.out 1; have hfz122_2 := blk_frozen BK433.out 2; have hfz122_3 := blk_frozen BK433.out 3; obtain ⟨Ao123, co123, eo123⟩ := Kd.R_slice HO431.out; subst eo123) | (go_at_call 15; (with_reducible refine (laws_wTexts.calls k2 _ _ t429 _ _ t421 t434 _ ?side1 ?side2 ?side3 ?side4 A108.out).mono ?_); (case side1 => refine (Kd.R_reads' (e := 9) (base := w.heap.size) (ok := fun k_ => (((True ∧ some k_ ≠ (.slice Ao21 t397.length co21 : Value).ownBlock) ∧ some k_ ≠ (.slice Ao112 x412002_2.length co112 : Value).ownBlock) ∧ some k_ ≠ (.slice Ao115 t421.length co115 : Value).ownBlock)) (n := t429.length) (c := co123) ?_).2.2; exact (by (with_reducible repeat (first | apply Kd.R_alloc | apply Kd.R_drewN | apply Kd.R_drew)); exact (Kd.R_mono (Kd.R_far (p := ⟨gb433, 3, none⟩) (Kd.R_far (p := ⟨gb433, 2, none⟩) (Kd.R_far (p := ⟨gb433, 1, none⟩) (Kd.R_far (p := ⟨gb433, 0, none⟩) (Kd.R_types HO431.out BK433.out zq60) (fun _ hk => hk.2) (.int .i64 t427)) (fun _ hk => hk.2) (.string t428)) (fun _ hk => hk.2) (.slice Ao123 t429.length co123)) (fun _ hk => hk.2) (.bool false)) (fun _ h_ => h_.1)))); (case side2 => exact (Kd.R_reads' HO431.out).2.1); (case side3 => refine (Kd.R_reads' (e := 9) (base := w.heap.size) (ok := fun k_ => (((True ∧ some k_ ≠ (.slice Ao21 t397.length co21 : Value).ownBlock) ∧ some k_ ≠ (.slice Ao112 x412002_2.length co112 : Value).ownBlock) ∧ some k_ ≠ (.slice Ao123 t429.length co123 : Value).ownBlock)) (n := t421.length) (c := co115) ?_).2.2; exact (by (with_reducible repeat (first | apply Kd.R_alloc | apply Kd.R_drewN | apply Kd.R_drew)); exact (Kd.R_mono (Kd.R_far (p := ⟨gb433, 3, none⟩) (Kd.R_far (p := ⟨gb433, 2, none⟩) (Kd.R_far (p := ⟨gb433, 1, none⟩) (Kd.R_far (p := ⟨gb433, 0, none⟩) (Kd.R_types HO424.out BK433.out zq60) (fun _ hk => hk.2) (.int .i64 t427)) (fun _ hk => hk.2) (.string t428)) (fun _ hk => hk.2) (.slice Ao123 t429.length co123)) (fun _ hk => hk.2) (.bool false)) (fun _ h_ => h_.1)))); (case side4 => exact (Kd.R_reads' HO424.out).2.1); rintro e w' ⟨rfl, ⟨nd, rfl⟩⟩))
              go_ret
              exact ⟨zq8, zq65⟩
             ·rw [if_neg c107] at H
              have c107b0 : (t428.toList == ([] : List UInt8)) = false := beq_eq_false_iff_ne.mpr c107
              have c107b1 : (t428.toList != ([] : List UInt8)) = true := bne_iff_ne.mpr c107
              obtain rfl := Option.some.inj H
              have hnb124 := NB401_411.out
              have hnc124 := NB411_401.out
              have hcz125_0 : wr.cell? ⟨gb401, 0, none⟩ = some (.int .i64 t395) := (blk_cell BK401.out 0).trans rfl
              have hcz125_1 : wr.cell? ⟨gb401, 1, none⟩ = some (.string t396) := (blk_cell BK401.out 1).trans rfl
              have hcz125_2 : wr.cell? ⟨gb401, 2, none⟩ = some (.slice Ao21 t397.length co21) := (blk_cell BK401.out 2).trans rfl
              have hcz125_3 : wr.cell? ⟨gb401, 3, none⟩ = some (.bool t400) := (blk_cell BK401.out 3).trans rfl
              have hfz125_0 := blk_frozen BK401.out 0
              have hfz125_1 := blk_frozen BK401.out 1
              have hfz125_2 := blk_frozen BK401.out 2
              have hfz125_3 := blk_frozen BK401.out 3
              have hcz126_0 : wr.cell? ⟨gb411, 0, none⟩ = some (.int .i64 x412000_2) := (blk_cell BK411.out 0).trans rfl
              have hcz126_1 : wr.cell? ⟨gb411, 1, none⟩ = some (.string x412001_2) := (blk_cell BK411.out 1).trans rfl
              have hcz126_2 : wr.cell? ⟨gb411, 2, none⟩ = some (u412002) := (blk_cell BK411.out 2).trans rfl
              have hcz126_3 : wr.cell? ⟨gb411, 3, none⟩ = some (.bool x412003_2) := (blk_cell BK411.out 3).trans rfl
              have hfz126_0 := blk_frozen BK411.out 0
              have hfz126_1 := blk_frozen BK411.out 1
              have hfz126_2 := blk_frozen BK411.out 2
              have hfz126_3 := blk_frozen BK411.out 3
              obtain ⟨Ao127, co127, eo127⟩ := Kd.R_slice HO_412002.out
              subst eo127
              go_wp2_with (first | ((with_reducible refine gate_callee (f := 8) rfl ?_); refine goesL_ (some 87) rfl rfl Try.func8 zq19 rfl #[.agg #[.int .i64 t395, .string t396, .slice Ao21 t397.length co21, .bool t400], .agg #[.int .i64 x412000_2, .string x412001_2, .slice Ao127 x412002_2.length co127, .bool x412003_2]] rfl zq0 ?_; (with_reducible refine (laws_wDecoder.calls k2 t395 t396 _ _ t397 t400 x412000_2 x412001_2 _ _ x412002_2 x412003_2 true _ ?side1 ?side2 ?side3 ?side4 A68.out).mono ?_); (case side1 => repeat (first | exact (Kd.R_reads' HO_402002.out).2.2 | (with_reducible refine Kd.C_alloc ?_ _) | (with_reducible refine Kd.C_drewN ?_ _) | (with_reducible refine Kd.C_drew ?_))); (case side2 => exact (Kd.R_reads' HO_402002.out).2.1); (case side3 => repeat (first | exact (Kd.R_reads' HO_412002.out).2.2 | (with_reducible refine Kd.C_alloc ?_ _) | (with_reducible refine Kd.C_drewN ?_ _) | (with_reducible refine Kd.C_drew ?_))); (case side4 => exact (Kd.R_reads' HO_412002.out).2.1); rintro e w128 ⟨rfl, hb⟩; refine ⟨_, rfl, ?_⟩; have n0_ := Aside0.mk (Kd.R_below zq17 hb); have n1_ := Aside0.mk (Kd.R_below zq16 hb); have n2_ := Aside0.mk (blk_below (g := gb401) (o := .cells #[.int .i64 t395, .string t396, .slice Ao21 t397.length co21, .bool t400] 25 (0, 0)) zq10 hb); have n3_ := Aside0.mk (blk_below (g := gb411) (o := .cells #[.int .i64 x412000_2, .string x412001_2, .slice Ao127 x412002_2.length co127, .bool x412003_2] 25 (0, 0)) zq13 hb); have n4_ := Aside0.mk (below_step zq2 hb); clear HO_402002; clear HO_412002; clear BK401; clear BK411; clear HB; have HO_402002 := n0_; have HO_412002 := n1_; have BK401 := n2_; have BK411 := n3_; have HB := n4_; clear n0_ n1_ n2_ n3_ n4_; (try clear hb); (try clear hb2); (try clear hk); (try clear hi)) | ((with_reducible refine gate_callee (f := 12) rfl ?_); refine goesL_ (some 91) rfl rfl Try.func12 zq19 rfl #[.slice A0 l0.length c0] rfl zq0 ?_; (with_reducible refine (spec_DrawEncode.calls k2 _ _ l0 t421 t422 _ ?side1 ?side2 A70.out).mono ?_); (case side1 => repeat (first | exact (Kd.C_below HR0.out HB.out) | (with_reducible refine Kd.C_alloc ?_ _) | (with_reducible refine Kd.C_drewN ?_ _) | (with_reducible refine Kd.C_drew ?_))); (case side2 => exact HC0.out); rintro e w129 ⟨v423, rfl, ho0, hb⟩; refine ⟨_, rfl, ?_⟩; have n0_ := Aside0.mk (Kd.R_elder' zq17 (Kd.R_base ho0) hb); have n1_ := Aside0.mk (Kd.R_elder' zq16 (Kd.R_base ho0) hb); have n2_ := Aside0.mk (Kd.R_lower (Kd.R_new' (Kd.R_new' ho0 (Kd.R_lt zq17)) (Kd.R_lt zq16)) (below_size zq2)); have n3_ := Aside0.mk (blk_below (g := gb401) (o := .cells #[.int .i64 t395, .string t396, .slice Ao21 t397.length co21, .bool t400] 25 (0, 0)) zq10 hb); have n4_ := Aside0.mk (blk_below (g := gb411) (o := .cells #[.int .i64 x412000_2, .string x412001_2, .slice Ao127 x412002_2.length co127, .bool x412003_2] 25 (0, 0)) zq13 hb); have n5_ := Aside0.mk (below_step zq2 hb); clear HO_402002; clear HO_412002; clear BK401; clear BK411; clear HB; have HO_402002 := n0_; have HO_412002 := n1_; have HO424 := n2_; have BK401 := n3_; have BK411 := n4_; have HB := n5_; clear n0_ n1_ n2_ n3_ n4_ n5_; (try clear hb); (try clear hb2); (try clear hk); (try clear hi); (try clear ho0); obtain ⟨Ao130, co130, eo130⟩ := Kd.R_slice HO424.out; subst eo130) | ((with_reducible refine gate_callee (f := 13) rfl ?_); refine goesL_ (some 96) rfl rfl Try.func13 zq19 rfl #[.slice Ao130 t421.length co130, .int .i64 t422] rfl zq0 ?_; (with_reducible refine (impl_Encode.calls _ _ t421 t422 t425 _ ?side1 ?side2 A71.out).mono ?_); (case side1 => repeat (first | exact (Kd.R_reads' HO424.out).2.2 | (with_reducible refine Kd.C_alloc ?_ _) | (with_reducible refine Kd.C_drewN ?_ _) | (with_reducible refine Kd.C_drew ?_))); (case side2 => exact (Kd.R_reads' HO424.out).2.1); rintro e w131 ⟨rfl, hb⟩; refine ⟨_, rfl, ?_⟩; have n0_ := Aside0.mk (Kd.R_below zq17 hb); have n1_ := Aside0.mk (Kd.R_below zq16 hb); have n2_ := Aside0.mk (Kd.R_below zq37 hb); have n3_ := Aside0.mk (blk_below (g := gb401) (o := .cells #[.int .i64 t395, .string t396, .slice Ao21 t397.length co21, .bool t400] 25 (0, 0)) zq10 hb); have n4_ := Aside0.mk (blk_below (g := gb411) (o := .cells #[.int .i64 x412000_2, .string x412001_2, .slice Ao127 x412002_2.length co127, .bool x412003_2] 25 (0, 0)) zq13 hb); have n5_ := Aside0.mk (below_step zq2 hb); clear HO_402002; clear HO_412002; clear HO424; clear BK401; clear BK411; clear HB; have HO_402002 := n0_; have HO_412002 := n1_; have HO424 := n2_; have BK401 := n3_; have BK411 := n4_; have HB := n5_; clear n0_ n1_ n2_ n3_ n4_ n5_; (try clear hb); (try clear hb2); (try clear hk); (try clear hi)) | ((with_reducible refine gate_callee (f := 14) rfl ?_); refine goesL_ (some 100) rfl rfl Try.func14 zq19 rfl #[.slice Ao130 t421.length co130, .int .i64 t422] rfl zq0 ?_; (with_reducible refine (spec_Encode.calls k2 _ _ t421 t422 t426 _ ?side1 ?side2 A72.out).mono ?_); (case side1 => repeat (first | exact (Kd.R_reads' HO424.out).2.2 | (with_reducible refine Kd.C_alloc ?_ _) | (with_reducible refine Kd.C_drewN ?_ _) | (with_reducible refine Kd.C_drew ?_))); (case side2 => exact (Kd.R_reads' HO424.out).2.1); rintro e w132 ⟨rfl, hb⟩; refine ⟨_, rfl, ?_⟩; have n0_ := Aside0.mk (Kd.R_below zq17 hb); have n1_ := Aside0.mk (Kd.R_below zq16 hb); have n2_ := Aside0.mk (Kd.R_below zq37 hb); have n3_ := Aside0.mk (blk_below (g := gb401) (o := .cells #[.int .i64 t395, .string t396, .slice Ao21 t397.length co21, .bool t400] 25 (0, 0)) zq10 hb); have n4_ := Aside0.mk (blk_below (g := gb411) (o := .cells #[.int .i64 x412000_2, .string x412001_2, .slice Ao127 x412002_2.length co127, .bool x412003_2] 25 (0, 0)) zq13 hb); have n5_ := Aside0.mk (below_step zq2 hb); clear HO_402002; clear HO_412002; clear HO424; clear BK401; clear BK411; clear HB; have HO_402002 := n0_; have HO_412002 := n1_; have HO424 := n2_; have BK401 := n3_; have BK411 := n4_; have HB := n5_; clear n0_ n1_ n2_ n3_ n4_ n5_; (try clear hb); (try clear hb2); (try clear hk); (try clear hi)) | ((with_reducible refine gate_callee (f := 7) rfl ?_); refine goesL_ (some 105) rfl rfl Try.func7 zq19 rfl #[.agg #[.int .i64 t422, .string (⟨#[]⟩ : ByteArray), .slice none 0 0, .bool false], .string t425] rfl zq0 ?_; (refine (impl_Feed.calls k2 t422 (⟨#[]⟩ : ByteArray) _ _ ([] : List ByteArray) false t425 t427 t428 t429 false _ ?side1 ?side2 A74.out).mono ?_); (case side1 => exact Kd.C_nil _ _); (case side2 => exact Nat.le_refl _); rintro e w133 ⟨v430, rfl, ho0, hb⟩; refine ⟨_, rfl, ?_⟩; have n0_ := Aside0.mk (Kd.R_elder' zq17 (Kd.R_base ho0) hb); have n1_ := Aside0.mk (Kd.R_elder' zq16 (Kd.R_base ho0) hb); have n2_ := Aside0.mk (Kd.R_elder' zq37 (Kd.R_base ho0) hb); have n3_ := Aside0.mk (Kd.R_lower (Kd.R_new' (Kd.R_new' (Kd.R_new' ho0 (Kd.R_lt zq17)) (Kd.R_lt zq16)) (Kd.R_lt zq37)) (below_size zq2)); have n4_ := Aside0.mk (blk_below (g := gb401) (o := .cells #[.int .i64 t395, .string t396, .slice Ao21 t397.length co21, .bool t400] 25 (0, 0)) zq10 hb); have n5_ := Aside0.mk (blk_below (g := gb411) (o := .cells #[.int .i64 x412000_2, .string x412001_2, .slice Ao127 x412002_2.length co127, .bool x412003_2] 25 (0, 0)) zq13 hb); have n6_ := Aside0.mk (below_step zq2 hb); clear HO_402002; clear HO_412002; clear HO424; clear BK401; clear BK411; clear HB; have HO_402002 := n0_; have HO_412002 := n1_; have HO424 := n2_; have HO431 := n3_; have BK401 := n4_; have BK411 := n5_; have HB := n6_; clear n0_ n1_ n2_ n3_ n4_ n5_ n6_; (try clear hb); (try clear hb2); (try clear hk); (try clear hi); (try clear ho0)) | ((with_reducible refine gate_dst (N := 15) rfl ?_); (try (refine gate_guard zq90 ?_; dsimp only)); refine box_event ?hg (N := 15) ?hd (cs := #[.int .i64 0, .string (⟨#[]⟩ : ByteArray), .slice none 0 0, .bool false]) (t := 25) ?hr ?_; (case hd => rfl); (case hg => rfl); (case hr => first | (go_simp; done) | (go_simp; rfl)); intro gb433 hg w134 hbox hb; have n0_ := Aside0.mk (Kd.R_below zq17 hb); have n1_ := Aside0.mk (Kd.R_below zq16 hb); have n2_ := Aside0.mk (Kd.R_below zq37 hb); have n3_ := Aside0.mk (Kd.R_below zq84 hb); have n4_ := Aside0.mk (blk_below (g := gb401) (o := .cells #[.int .i64 t395, .string t396, .slice Ao21 t397.length co21, .bool t400] 25 (0, 0)) zq10 hb); have n5_ := Aside0.mk (blk_below (g := gb411) (o := .cells #[.int .i64 x412000_2, .string x412001_2, .slice Ao127 x412002_2.length co127, .bool x412003_2] 25 (0, 0)) zq13 hb); have n6_ := Aside0.mk (below_step zq2 hb); have n7_ := Aside0.mk (hbox); have n8_ := Aside0.mk ((by rw [hg]; exact (below_size zq2) : w.heap.size ≤ gb433)); have n9_ := Aside0.mk ((by rw [hg]; exact (below_size zq2) : w.heap.size ≤ gb433)); have n10_ := Aside0.mk ((by rw [hg]; exact Nat.ne_of_lt (blk_lt (g := gb401) (o := .cells #[.int .i64 t395, .string t396, .slice Ao21 t397.length co21, .bool t400] 25 (0, 0)) zq10) : gb401 ≠ gb433)); have n11_ := Aside0.mk ((by rw [hg]; exact Nat.ne_of_gt (blk_lt (g := gb401) (o := .cells #[.int .i64 t395, .string t396, .slice Ao21 t397.length co21, .bool t400] 25 (0, 0)) zq10) : gb433 ≠ gb401)); have n12_ := Aside0.mk ((by rw [hg]; exact Nat.ne_of_lt (blk_lt (g := gb411) (o := .cells #[.int .i64 x412000_2, .string x412001_2, .slice Ao127 x412002_2.length co127, .bool x412003_2] 25 (0, 0)) zq13) : gb411 ≠ gb433)); have n13_ := Aside0.mk ((by rw [hg]; exact Nat.ne_of_gt (blk_lt (g := gb411) (o := .cells #[.int .i64 x412000_2, .string x412001_2, .slice Ao127 x412002_2.length co127, .bool x412003_2] 25 (0, 0)) zq13) : gb433 ≠ gb411)); clear HO_402002; clear HO_412002; clear HO424; clear HO431; clear BK401; clear BK411; clear HB; have HO_402002 := n0_; have HO_412002 := n1_; have HO424 := n2_; have HO431 := n3_; have BK401 := n4_; have BK411 := n5_; have HB := n6_; have BK433 := n7_; have GW433 := n8_; have GE433 := n9_; have NB401_433 := n10_; have NB433_401 := n11_; have NB411_433 := n12_; have NB433_411 := n13_; clear n0_ n1_ n2_ n3_ n4_ n5_ n6_ n7_ n8_ n9_ n10_ n11_ n12_ n13_; clear hb hbox hg; have hnb135 := NB433_401.out; have hnc135 := NB401_433.out; have hnb136 := NB433_411.out; have hnc136 := NB411_433.out; have hcz137_0 : w134.cell? ⟨gb433, 0, none⟩ = some (.int .i64 0) := (blk_cell BK433.out 0).trans rfl; have hcz137_1 : w134.cell? ⟨gb433, 1, none⟩ = some (.string (⟨#[]⟩ : ByteArray)) := (blk_cell BK433.out 1).trans rfl; have hcz137_2 : w134.cell? ⟨gb433, 2, none⟩ = some (.slice none 0 0) := (blk_cell BK433.out 2).trans rfl; have hcz137_3 : w134.cell? ⟨gb433, 3, none⟩ = some (.bool false) := (blk_cell BK433.out 3).trans rfl; have hfz137_0 := blk_frozen BK433.out 0; have hfz137_1 := blk_frozen BK433.out 1; have hfz137_2 := blk_frozen BK433.out 2; have hfz137_3 := blk_frozen BK433.out 3; obtain ⟨Ao138, co138, eo138⟩ := Kd.R_slice HO431.out; subst eo138))
              go_ret
              exact ⟨zq8, zq65⟩
          ·rw [if_neg c73] at H
           have c73b0 : (t425.toList == t426.toList) = false := beq_eq_false_iff_ne.mpr c73
           have c73b1 : (t425.toList != t426.toList) = true := bne_iff_ne.mpr c73
           obtain rfl := Option.some.inj H
           have hnb139 := NB401_411.out
           have hnc139 := NB411_401.out
           have hcz140_0 : wr.cell? ⟨gb401, 0, none⟩ = some (.int .i64 t395) := (blk_cell BK401.out 0).trans rfl
           have hcz140_1 : wr.cell? ⟨gb401, 1, none⟩ = some (.string t396) := (blk_cell BK401.out 1).trans rfl
           have hcz140_2 : wr.cell? ⟨gb401, 2, none⟩ = some (.slice Ao21 t397.length co21) := (blk_cell BK401.out 2).trans rfl
           have hcz140_3 : wr.cell? ⟨gb401, 3, none⟩ = some (.bool t400) := (blk_cell BK401.out 3).trans rfl
           have hfz140_0 := blk_frozen BK401.out 0
           have hfz140_1 := blk_frozen BK401.out 1
           have hfz140_2 := blk_frozen BK401.out 2
           have hfz140_3 := blk_frozen BK401.out 3
           have hcz141_0 : wr.cell? ⟨gb411, 0, none⟩ = some (.int .i64 x412000_2) := (blk_cell BK411.out 0).trans rfl
           have hcz141_1 : wr.cell? ⟨gb411, 1, none⟩ = some (.string x412001_2) := (blk_cell BK411.out 1).trans rfl
           have hcz141_2 : wr.cell? ⟨gb411, 2, none⟩ = some (u412002) := (blk_cell BK411.out 2).trans rfl
           have hcz141_3 : wr.cell? ⟨gb411, 3, none⟩ = some (.bool x412003_2) := (blk_cell BK411.out 3).trans rfl
           have hfz141_0 := blk_frozen BK411.out 0
           have hfz141_1 := blk_frozen BK411.out 1
           have hfz141_2 := blk_frozen BK411.out 2
           have hfz141_3 := blk_frozen BK411.out 3
           obtain ⟨Ao142, co142, eo142⟩ := Kd.R_slice HO_412002.out
           subst eo142
           go_wp2_with (first | ((with_reducible refine gate_callee (f := 8) rfl ?_); refine goesL_ (some 87) rfl rfl Try.func8 zq19 rfl #[.agg #[.int .i64 t395, .string t396, .slice Ao21 t397.length co21, .bool t400], .agg #[.int .i64 x412000_2, .string x412001_2, .slice Ao142 x412002_2.length co142, .bool x412003_2]] rfl zq0 ?_; (with_reducible refine (laws_wDecoder.calls k2 t395 t396 _ _ t397 t400 x412000_2 x412001_2 _ _ x412002_2 x412003_2 true _ ?side1 ?side2 ?side3 ?side4 A68.out).mono ?_); (case side1 => repeat (first | exact (Kd.R_reads' HO_402002.out).2.2 | (with_reducible refine Kd.C_alloc ?_ _) | (with_reducible refine Kd.C_drewN ?_ _) | (with_reducible refine Kd.C_drew ?_))); (case side2 => exact (Kd.R_reads' HO_402002.out).2.1); (case side3 => repeat (first | exact (Kd.R_reads' HO_412002.out).2.2 | (with_reducible refine Kd.C_alloc ?_ _) | (with_reducible refine Kd.C_drewN ?_ _) | (with_reducible refine Kd.C_drew ?_))); (case side4 => exact (Kd.R_reads' HO_412002.out).2.1); rintro e w143 ⟨rfl, hb⟩; refine ⟨_, rfl, ?_⟩; have n0_ := Aside0.mk (Kd.R_below zq17 hb); have n1_ := Aside0.mk (Kd.R_below zq16 hb); have n2_ := Aside0.mk (blk_below (g := gb401) (o := .cells #[.int .i64 t395, .string t396, .slice Ao21 t397.length co21, .bool t400] 25 (0, 0)) zq10 hb); have n3_ := Aside0.mk (blk_below (g := gb411) (o := .cells #[.int .i64 x412000_2, .string x412001_2, .slice Ao142 x412002_2.length co142, .bool x412003_2] 25 (0, 0)) zq13 hb); have n4_ := Aside0.mk (below_step zq2 hb); clear HO_402002; clear HO_412002; clear BK401; clear BK411; clear HB; have HO_402002 := n0_; have HO_412002 := n1_; have BK401 := n2_; have BK411 := n3_; have HB := n4_; clear n0_ n1_ n2_ n3_ n4_; (try clear hb); (try clear hb2); (try clear hk); (try clear hi)) | ((with_reducible refine gate_callee (f := 12) rfl ?_); refine goesL_ (some 91) rfl rfl Try.func12 zq19 rfl #[.slice A0 l0.length c0] rfl zq0 ?_; (with_reducible refine (spec_DrawEncode.calls k2 _ _ l0 t421 t422 _ ?side1 ?side2 A70.out).mono ?_); (case side1 => repeat (first | exact (Kd.C_below HR0.out HB.out) | (with_reducible refine Kd.C_alloc ?_ _) | (with_reducible refine Kd.C_drewN ?_ _) | (with_reducible refine Kd.C_drew ?_))); (case side2 => exact HC0.out); rintro e w144 ⟨v423, rfl, ho0, hb⟩; refine ⟨_, rfl, ?_⟩; have n0_ := Aside0.mk (Kd.R_elder' zq17 (Kd.R_base ho0) hb); have n1_ := Aside0.mk (Kd.R_elder' zq16 (Kd.R_base ho0) hb); have n2_ := Aside0.mk (Kd.R_lower (Kd.R_new' (Kd.R_new' ho0 (Kd.R_lt zq17)) (Kd.R_lt zq16)) (below_size zq2)); have n3_ := Aside0.mk (blk_below (g := gb401) (o := .cells #[.int .i64 t395, .string t396, .slice Ao21 t397.length co21, .bool t400] 25 (0, 0)) zq10 hb); have n4_ := Aside0.mk (blk_below (g := gb411) (o := .cells #[.int .i64 x412000_2, .string x412001_2, .slice Ao142 x412002_2.length co142, .bool x412003_2] 25 (0, 0)) zq13 hb); have n5_ := Aside0.mk (below_step zq2 hb); clear HO_402002; clear HO_412002; clear BK401; clear BK411; clear HB; have HO_402002 := n0_; have HO_412002 := n1_; have HO424 := n2_; have BK401 := n3_; have BK411 := n4_; have HB := n5_; clear n0_ n1_ n2_ n3_ n4_ n5_; (try clear hb); (try clear hb2); (try clear hk); (try clear hi); (try clear ho0); obtain ⟨Ao145, co145, eo145⟩ := Kd.R_slice HO424.out; subst eo145) | ((with_reducible refine gate_callee (f := 13) rfl ?_); refine goesL_ (some 96) rfl rfl Try.func13 zq19 rfl #[.slice Ao145 t421.length co145, .int .i64 t422] rfl zq0 ?_; (with_reducible refine (impl_Encode.calls _ _ t421 t422 t425 _ ?side1 ?side2 A71.out).mono ?_); (case side1 => repeat (first | exact (Kd.R_reads' HO424.out).2.2 | (with_reducible refine Kd.C_alloc ?_ _) | (with_reducible refine Kd.C_drewN ?_ _) | (with_reducible refine Kd.C_drew ?_))); (case side2 => exact (Kd.R_reads' HO424.out).2.1); rintro e w146 ⟨rfl, hb⟩; refine ⟨_, rfl, ?_⟩; have n0_ := Aside0.mk (Kd.R_below zq17 hb); have n1_ := Aside0.mk (Kd.R_below zq16 hb); have n2_ := Aside0.mk (Kd.R_below zq37 hb); have n3_ := Aside0.mk (blk_below (g := gb401) (o := .cells #[.int .i64 t395, .string t396, .slice Ao21 t397.length co21, .bool t400] 25 (0, 0)) zq10 hb); have n4_ := Aside0.mk (blk_below (g := gb411) (o := .cells #[.int .i64 x412000_2, .string x412001_2, .slice Ao142 x412002_2.length co142, .bool x412003_2] 25 (0, 0)) zq13 hb); have n5_ := Aside0.mk (below_step zq2 hb); clear HO_402002; clear HO_412002; clear HO424; clear BK401; clear BK411; clear HB; have HO_402002 := n0_; have HO_412002 := n1_; have HO424 := n2_; have BK401 := n3_; have BK411 := n4_; have HB := n5_; clear n0_ n1_ n2_ n3_ n4_ n5_; (try clear hb); (try clear hb2); (try clear hk); (try clear hi)) | ((with_reducible refine gate_callee (f := 14) rfl ?_); refine goesL_ (some 100) rfl rfl Try.func14 zq19 rfl #[.slice Ao145 t421.length co145, .int .i64 t422] rfl zq0 ?_; (with_reducible refine (spec_Encode.calls k2 _ _ t421 t422 t426 _ ?side1 ?side2 A72.out).mono ?_); (case side1 => repeat (first | exact (Kd.R_reads' HO424.out).2.2 | (with_reducible refine Kd.C_alloc ?_ _) | (with_reducible refine Kd.C_drewN ?_ _) | (with_reducible refine Kd.C_drew ?_))); (case side2 => exact (Kd.R_reads' HO424.out).2.1); rintro e w147 ⟨rfl, hb⟩; refine ⟨_, rfl, ?_⟩; have n0_ := Aside0.mk (Kd.R_below zq17 hb); have n1_ := Aside0.mk (Kd.R_below zq16 hb); have n2_ := Aside0.mk (Kd.R_below zq37 hb); have n3_ := Aside0.mk (blk_below (g := gb401) (o := .cells #[.int .i64 t395, .string t396, .slice Ao21 t397.length co21, .bool t400] 25 (0, 0)) zq10 hb); have n4_ := Aside0.mk (blk_below (g := gb411) (o := .cells #[.int .i64 x412000_2, .string x412001_2, .slice Ao142 x412002_2.length co142, .bool x412003_2] 25 (0, 0)) zq13 hb); have n5_ := Aside0.mk (below_step zq2 hb); clear HO_402002; clear HO_412002; clear HO424; clear BK401; clear BK411; clear HB; have HO_402002 := n0_; have HO_412002 := n1_; have HO424 := n2_; have BK401 := n3_; have BK411 := n4_; have HB := n5_; clear n0_ n1_ n2_ n3_ n4_ n5_; (try clear hb); (try clear hb2); (try clear hk); (try clear hi)))
           go_ret
           exact ⟨zq8, zq2⟩
         ·replace c69 := Bool.eq_false_iff.mpr c69
          subst c69
          rw [if_neg (show ¬ (false = true) by decide)] at H
          obtain rfl := Option.some.inj H
          have hnb148 := NB401_411.out
          have hnc148 := NB411_401.out
          have hcz149_0 : wr.cell? ⟨gb401, 0, none⟩ = some (.int .i64 t395) := (blk_cell BK401.out 0).trans rfl
          have hcz149_1 : wr.cell? ⟨gb401, 1, none⟩ = some (.string t396) := (blk_cell BK401.out 1).trans rfl
          have hcz149_2 : wr.cell? ⟨gb401, 2, none⟩ = some (.slice Ao21 t397.length co21) := (blk_cell BK401.out 2).trans rfl
          have hcz149_3 : wr.cell? ⟨gb401, 3, none⟩ = some (.bool t400) := (blk_cell BK401.out 3).trans rfl
          have hfz149_0 := blk_frozen BK401.out 0
          have hfz149_1 := blk_frozen BK401.out 1
          have hfz149_2 := blk_frozen BK401.out 2
          have hfz149_3 := blk_frozen BK401.out 3
          have hcz150_0 : wr.cell? ⟨gb411, 0, none⟩ = some (.int .i64 x412000_2) := (blk_cell BK411.out 0).trans rfl
          have hcz150_1 : wr.cell? ⟨gb411, 1, none⟩ = some (.string x412001_2) := (blk_cell BK411.out 1).trans rfl
          have hcz150_2 : wr.cell? ⟨gb411, 2, none⟩ = some (u412002) := (blk_cell BK411.out 2).trans rfl
          have hcz150_3 : wr.cell? ⟨gb411, 3, none⟩ = some (.bool x412003_2) := (blk_cell BK411.out 3).trans rfl
          have hfz150_0 := blk_frozen BK411.out 0
          have hfz150_1 := blk_frozen BK411.out 1
          have hfz150_2 := blk_frozen BK411.out 2
          have hfz150_3 := blk_frozen BK411.out 3
          obtain ⟨Ao151, co151, eo151⟩ := Kd.R_slice HO_412002.out
          subst eo151
          go_wp2_with (first | ((with_reducible refine gate_callee (f := 8) rfl ?_); refine goesL_ (some 87) rfl rfl Try.func8 zq19 rfl #[.agg #[.int .i64 t395, .string t396, .slice Ao21 t397.length co21, .bool t400], .agg #[.int .i64 x412000_2, .string x412001_2, .slice Ao151 x412002_2.length co151, .bool x412003_2]] rfl zq0 ?_; (with_reducible refine (laws_wDecoder.calls k2 t395 t396 _ _ t397 t400 x412000_2 x412001_2 _ _ x412002_2 x412003_2 false _ ?side1 ?side2 ?side3 ?side4 A68.out).mono ?_); (case side1 => repeat (first | exact (Kd.R_reads' HO_402002.out).2.2 | (with_reducible refine Kd.C_alloc ?_ _) | (with_reducible refine Kd.C_drewN ?_ _) | (with_reducible refine Kd.C_drew ?_))); (case side2 => exact (Kd.R_reads' HO_402002.out).2.1); (case side3 => repeat (first | exact (Kd.R_reads' HO_412002.out).2.2 | (with_reducible refine Kd.C_alloc ?_ _) | (with_reducible refine Kd.C_drewN ?_ _) | (with_reducible refine Kd.C_drew ?_))); (case side4 => exact (Kd.R_reads' HO_412002.out).2.1); rintro e w152 ⟨rfl, hb⟩; refine ⟨_, rfl, ?_⟩; have n0_ := Aside0.mk (Kd.R_below zq17 hb); have n1_ := Aside0.mk (Kd.R_below zq16 hb); have n2_ := Aside0.mk (blk_below (g := gb401) (o := .cells #[.int .i64 t395, .string t396, .slice Ao21 t397.length co21, .bool t400] 25 (0, 0)) zq10 hb); have n3_ := Aside0.mk (blk_below (g := gb411) (o := .cells #[.int .i64 x412000_2, .string x412001_2, .slice Ao151 x412002_2.length co151, .bool x412003_2] 25 (0, 0)) zq13 hb); have n4_ := Aside0.mk (below_step zq2 hb); clear HO_402002; clear HO_412002; clear BK401; clear BK411; clear HB; have HO_402002 := n0_; have HO_412002 := n1_; have BK401 := n2_; have BK411 := n3_; have HB := n4_; clear n0_ n1_ n2_ n3_ n4_; (try clear hb); (try clear hb2); (try clear hk); (try clear hi)))
          go_ret
          exact ⟨zq8, zq2⟩
     ·replace c12 := Bool.eq_false_iff.mpr c12
      subst c12
      rw [if_neg (show ¬ (false = true) by decide)] at H
      replace H := Option.bind_eq_some_iff.mp H
      obtain ⟨t410, A1530, H⟩ := H
      try dsimp only at H
      have A153 := Aside0.mk A1530
      clear A1530
      obtain rfl := Option.some.inj H
      try go_wp2_with (first | ((with_reducible refine gate_callee (f := 6) rfl ?_); refine goesL_ (some 26) rfl rfl Try.func6 zq19 rfl #[.slice A0 l0.length c0] rfl zq0 ?_; (with_reducible refine (spec_DrawFeed.calls kj2 _ _ l0 t387 t388 t389 t392 t393 _ ?side1 ?side2 A6.out).mono ?_); (case side1 => repeat (first | exact (Kd.C_below HR0.out HB.out) | (with_reducible refine Kd.C_alloc ?_ _) | (with_reducible refine Kd.C_drewN ?_ _) | (with_reducible refine Kd.C_drew ?_))); (case side2 => exact HC0.out); rintro e w154 ⟨v390, rfl, ho0, hb⟩; refine ⟨_, rfl, ?_⟩; have n0_ := Aside0.mk (Kd.R_lower ho0 (below_size zq1)); have n1_ := Aside0.mk (below_step zq1 hb); clear HB; have HO391 := n0_; have HB := n1_; clear n0_ n1_; (try clear hb); (try clear hb2); (try clear hk); (try clear hi); (try clear ho0)) | ((with_reducible refine gate_dst (N := 5) rfl ?_); (try (refine gate_guard zq90 ?_; dsimp only)); refine box_event ?hg (N := 5) ?hd (cs := #[.int .i64 0, .string (⟨#[]⟩ : ByteArray), .slice none 0 0, .bool false]) (t := 25) ?hr ?_; (case hd => rfl); (case hg => rfl); (case hr => first | (go_simp; done) | (go_simp; rfl)); intro gb394 hg w155 hbox hb; have n0_ := Aside0.mk (Kd.R_below zq42 hb); have n1_ := Aside0.mk (below_step zq1 hb); have n2_ := Aside0.mk (hbox); have n3_ := Aside0.mk ((by rw [hg]; exact (below_size zq1) : w.heap.size ≤ gb394)); have n4_ := Aside0.mk ((by rw [hg]; exact (below_size zq1) : w.heap.size ≤ gb394)); clear HO391; clear HB; have HO391 := n0_; have HB := n1_; have BK394 := n2_; have GW394 := n3_; have GE394 := n4_; clear n0_ n1_ n2_ n3_ n4_; clear hb hbox hg; have hcz156_0 : w155.cell? ⟨gb394, 0, none⟩ = some (.int .i64 0) := (blk_cell BK394.out 0).trans rfl; have hcz156_1 : w155.cell? ⟨gb394, 1, none⟩ = some (.string (⟨#[]⟩ : ByteArray)) := (blk_cell BK394.out 1).trans rfl; have hcz156_2 : w155.cell? ⟨gb394, 2, none⟩ = some (.slice none 0 0) := (blk_cell BK394.out 2).trans rfl; have hcz156_3 : w155.cell? ⟨gb394, 3, none⟩ = some (.bool false) := (blk_cell BK394.out 3).trans rfl; have hfz156_0 := blk_frozen BK394.out 0; have hfz156_1 := blk_frozen BK394.out 1; have hfz156_2 := blk_frozen BK394.out 2; have hfz156_3 := blk_frozen BK394.out 3; obtain ⟨Ao157, co157, eo157⟩ := Kd.R_slice HO391.out; subst eo157) | ((with_reducible refine gate_callee (f := 7) rfl ?_); refine goesL_ (some 31) rfl rfl Try.func7 zq19 rfl #[.agg #[.int .i64 t387, .string t388, .slice Ao157 t389.length co157, .bool t392], .string t393] rfl zq0 ?_; (with_reducible refine (impl_Feed.calls kj2 t387 t388 _ _ t389 t392 t393 t395 t396 t397 t400 _ ?side1 ?side2 A7.out).mono ?_); (case side1 => refine (Kd.R_reads' (e := 9) (base := w.heap.size) (ok := fun k_ => True) (n := t389.length) (c := co157) ?_).2.2; exact (by (with_reducible repeat (first | apply Kd.R_alloc | apply Kd.R_drewN | apply Kd.R_drew)); exact (Kd.R_mono (Kd.R_far (p := ⟨gb394, 3, none⟩) (Kd.R_far (p := ⟨gb394, 2, none⟩) (Kd.R_far (p := ⟨gb394, 1, none⟩) (Kd.R_far (p := ⟨gb394, 0, none⟩) (Kd.R_types HO391.out BK394.out zq60) (fun _ hk => hk.2) (.int .i64 t387)) (fun _ hk => hk.2) (.string t388)) (fun _ hk => hk.2) (.slice Ao157 t389.length co157)) (fun _ hk => hk.2) (.bool t392)) (fun _ h_ => h_.1)))); (case side2 => exact (Kd.R_reads' HO391.out).2.1); rintro e w158 ⟨v398, rfl, ho0, hb⟩; refine ⟨_, rfl, ?_⟩; have n0_ := Aside0.mk (Kd.R_elder' (by (with_reducible repeat (first | apply Kd.R_alloc | apply Kd.R_drewN | apply Kd.R_drew)); exact (Kd.R_mono (Kd.R_far (p := ⟨gb394, 3, none⟩) (Kd.R_far (p := ⟨gb394, 2, none⟩) (Kd.R_far (p := ⟨gb394, 1, none⟩) (Kd.R_far (p := ⟨gb394, 0, none⟩) (Kd.R_types HO391.out BK394.out zq60) (fun _ hk => hk.2) (.int .i64 t387)) (fun _ hk => hk.2) (.string t388)) (fun _ hk => hk.2) (.slice Ao157 t389.length co157)) (fun _ hk => hk.2) (.bool t392)) (fun _ h_ => h_.1))) (Kd.R_base ho0) hb); have n1_ := Aside0.mk (Kd.R_lower (Kd.R_new' ho0 (Kd.R_lt (by (with_reducible repeat (first | apply Kd.R_alloc | apply Kd.R_drewN | apply Kd.R_drew)); exact (Kd.R_mono (Kd.R_far (p := ⟨gb394, 3, none⟩) (Kd.R_far (p := ⟨gb394, 2, none⟩) (Kd.R_far (p := ⟨gb394, 1, none⟩) (Kd.R_far (p := ⟨gb394, 0, none⟩) (Kd.R_types HO391.out BK394.out zq60) (fun _ hk => hk.2) (.int .i64 t387)) (fun _ hk => hk.2) (.string t388)) (fun _ hk => hk.2) (.slice Ao157 t389.length co157)) (fun _ hk => hk.2) (.bool t392)) (fun _ h_ => h_.1))))) (below_size zq36)); have n2_ := Aside0.mk (blk_below (g := gb394) (o := .cells #[.int .i64 t387, .string t388, .slice Ao157 t389.length co157, .bool t392] 25 (0, 0)) (by (with_reducible repeat (first | refine blk_drewN ?_ _ | refine blk_drew ?_ | refine blk_alloc ?_ _)); refine blk_put (cs := #[.int .i64 t387, .string t388, .slice Ao157 t389.length co157, .bool false]) ?_ 3 _ rfl; (with_reducible repeat (first | refine blk_drewN ?_ _ | refine blk_drew ?_ | refine blk_alloc ?_ _)); refine blk_put (cs := #[.int .i64 t387, .string t388, .slice none 0 0, .bool false]) ?_ 2 _ rfl; (with_reducible repeat (first | refine blk_drewN ?_ _ | refine blk_drew ?_ | refine blk_alloc ?_ _)); refine blk_put (cs := #[.int .i64 t387, .string (⟨#[]⟩ : ByteArray), .slice none 0 0, .bool false]) ?_ 1 _ rfl; (with_reducible repeat (first | refine blk_drewN ?_ _ | refine blk_drew ?_ | refine blk_alloc ?_ _)); refine blk_put (cs := #[.int .i64 0, .string (⟨#[]⟩ : ByteArray), .slice none 0 0, .bool false]) ?_ 0 _ rfl; (with_reducible repeat (first | refine blk_drewN ?_ _ | refine blk_drew ?_ | refine blk_alloc ?_ _)); exact BK394.out) hb); have n3_ := Aside0.mk (below_step zq36 hb); clear HO391; clear BK394; clear HB; have HO391 := n0_; have HO399 := n1_; have BK394 := n2_; have HB := n3_; clear n0_ n1_ n2_ n3_; (try clear hb); (try clear hb2); (try clear hk); (try clear hi); (try clear ho0)) | ((with_reducible refine gate_dst (N := 7) rfl ?_); (try (refine gate_guard zq90 ?_; dsimp only)); refine box_event ?hg (N := 7) ?hd (cs := #[.int .i64 0, .string (⟨#[]⟩ : ByteArray), .slice none 0 0, .bool false]) (t := 25) ?hr ?_; (case hd => rfl); (case hg => rfl); (case hr => first | (go_simp; done) | (go_simp; rfl)); intro gb401 hg w159 hbox hb; have n0_ := Aside0.mk (Kd.R_below zq42 hb); have n1_ := Aside0.mk (Kd.R_below zq46 hb); have n2_ := Aside0.mk (blk_below (g := gb394) (o := .cells #[.int .i64 t387, .string t388, .slice Ao157 t389.length co157, .bool t392] 25 (0, 0)) zq34 hb); have n3_ := Aside0.mk (below_step zq36 hb); have n4_ := Aside0.mk (hbox); have n5_ := Aside0.mk ((by rw [hg]; exact (below_size zq36) : w.heap.size ≤ gb401)); have n6_ := Aside0.mk ((by rw [hg]; exact (below_size zq36) : w.heap.size ≤ gb401)); have n7_ := Aside0.mk ((by rw [hg]; exact Nat.ne_of_lt (blk_lt (g := gb394) (o := .cells #[.int .i64 t387, .string t388, .slice Ao157 t389.length co157, .bool t392] 25 (0, 0)) zq34) : gb394 ≠ gb401)); have n8_ := Aside0.mk ((by rw [hg]; exact Nat.ne_of_gt (blk_lt (g := gb394) (o := .cells #[.int .i64 t387, .string t388, .slice Ao157 t389.length co157, .bool t392] 25 (0, 0)) zq34) : gb401 ≠ gb394)); clear HO391; clear HO399; clear BK394; clear HB; have HO391 := n0_; have HO399 := n1_; have BK394 := n2_; have HB := n3_; have BK401 := n4_; have GW401 := n5_; have GE401 := n6_; have NB394_401 := n7_; have NB401_394 := n8_; clear n0_ n1_ n2_ n3_ n4_ n5_ n6_ n7_ n8_; clear hb hbox hg; have hnb160 := NB401_394.out; have hnc160 := NB394_401.out; have hcz161_0 : w159.cell? ⟨gb401, 0, none⟩ = some (.int .i64 0) := (blk_cell BK401.out 0).trans rfl; have hcz161_1 : w159.cell? ⟨gb401, 1, none⟩ = some (.string (⟨#[]⟩ : ByteArray)) := (blk_cell BK401.out 1).trans rfl; have hcz161_2 : w159.cell? ⟨gb401, 2, none⟩ = some (.slice none 0 0) := (blk_cell BK401.out 2).trans rfl; have hcz161_3 : w159.cell? ⟨gb401, 3, none⟩ = some (.bool false) := (blk_cell BK401.out 3).trans rfl; have hfz161_0 := blk_frozen BK401.out 0; have hfz161_1 := blk_frozen BK401.out 1; have hfz161_2 := blk_frozen BK401.out 2; have hfz161_3 := blk_frozen BK401.out 3; obtain ⟨Ao162, co162, eo162⟩ := Kd.R_slice HO399.out; subst eo162))
      have n0_ : Aside0 (Kd.R Kd.string 9 ((((w159.setCell ⟨gb401, 0, none⟩ (.int .i64 t395)).setCell ⟨gb401, 1, none⟩ (.string t396)).setCell ⟨gb401, 2, none⟩ (.slice Ao162 t397.length co162)).setCell ⟨gb401, 3, none⟩ (.bool t400)) w.heap.size (fun k_ => some k_ ≠ (.slice Ao162 t397.length co162 : Value).ownBlock) (.slice Ao157 t389.length co157) t389) := ⟨by (with_reducible repeat (first | apply Kd.R_alloc | apply Kd.R_drewN | apply Kd.R_drew)); exact Kd.R_mono (Kd.R_far (p := ⟨gb401, 3, none⟩) (Kd.R_far (p := ⟨gb401, 2, none⟩) (Kd.R_far (p := ⟨gb401, 1, none⟩) (Kd.R_far (p := ⟨gb401, 0, none⟩) (Kd.R_types HO391.out BK401.out zq60) (fun _ hk => hk.2) (.int .i64 t395)) (fun _ hk => hk.2) (.string t396)) (fun _ hk => hk.2) (.slice Ao162 t397.length co162)) (fun _ hk => hk.2) (.bool t400)) (fun _ hk => hk.1.2)⟩
      have n1_ : Aside0 (Kd.R Kd.string 9 ((((w159.setCell ⟨gb401, 0, none⟩ (.int .i64 t395)).setCell ⟨gb401, 1, none⟩ (.string t396)).setCell ⟨gb401, 2, none⟩ (.slice Ao162 t397.length co162)).setCell ⟨gb401, 3, none⟩ (.bool t400)) w.heap.size (fun k_ => some k_ ≠ (.slice Ao157 t389.length co157 : Value).ownBlock) (.slice Ao162 t397.length co162) t397) := ⟨by (with_reducible repeat (first | apply Kd.R_alloc | apply Kd.R_drewN | apply Kd.R_drew)); exact Kd.R_mono (Kd.R_far (p := ⟨gb401, 3, none⟩) (Kd.R_far (p := ⟨gb401, 2, none⟩) (Kd.R_far (p := ⟨gb401, 1, none⟩) (Kd.R_far (p := ⟨gb401, 0, none⟩) (Kd.R_types HO399.out BK401.out zq60) (fun _ hk => hk.2) (.int .i64 t395)) (fun _ hk => hk.2) (.string t396)) (fun _ hk => hk.2) (.slice Ao162 t397.length co162)) (fun _ hk => hk.2) (.bool t400)) (fun _ hk => hk.1.2)⟩
      have n2_ : Aside0 (((((w159.setCell ⟨gb401, 0, none⟩ (.int .i64 t395)).setCell ⟨gb401, 1, none⟩ (.string t396)).setCell ⟨gb401, 2, none⟩ (.slice Ao162 t397.length co162)).setCell ⟨gb401, 3, none⟩ (.bool t400)).heap[gb394]? = some (.cells #[.int .i64 t387, .string t388, .slice Ao157 t389.length co157, .bool t392] 25 (0, 0))) := ⟨zq50⟩
      have n3_ : Aside0 (((((w159.setCell ⟨gb401, 0, none⟩ (.int .i64 t395)).setCell ⟨gb401, 1, none⟩ (.string t396)).setCell ⟨gb401, 2, none⟩ (.slice Ao162 t397.length co162)).setCell ⟨gb401, 3, none⟩ (.bool t400)).heap[gb401]? = some (.cells #[.int .i64 t395, .string t396, .slice Ao162 t397.length co162, .bool t400] 25 (0, 0))) := ⟨by (with_reducible repeat (first | refine blk_drewN ?_ _ | refine blk_drew ?_ | refine blk_alloc ?_ _)); refine blk_put (cs := #[.int .i64 t395, .string t396, .slice Ao162 t397.length co162, .bool false]) ?_ 3 _ rfl; (with_reducible repeat (first | refine blk_drewN ?_ _ | refine blk_drew ?_ | refine blk_alloc ?_ _)); refine blk_put (cs := #[.int .i64 t395, .string t396, .slice none 0 0, .bool false]) ?_ 2 _ rfl; (with_reducible repeat (first | refine blk_drewN ?_ _ | refine blk_drew ?_ | refine blk_alloc ?_ _)); refine blk_put (cs := #[.int .i64 t395, .string (⟨#[]⟩ : ByteArray), .slice none 0 0, .bool false]) ?_ 1 _ rfl; (with_reducible repeat (first | refine blk_drewN ?_ _ | refine blk_drew ?_ | refine blk_alloc ?_ _)); refine blk_put (cs := #[.int .i64 0, .string (⟨#[]⟩ : ByteArray), .slice none 0 0, .bool false]) ?_ 0 _ rfl; (with_reducible repeat (first | refine blk_drewN ?_ _ | refine blk_drew ?_ | refine blk_alloc ?_ _)); exact BK401.out⟩
      have n4_ : Aside0 (Below w.heap.size w ((((w159.setCell ⟨gb401, 0, none⟩ (.int .i64 t395)).setCell ⟨gb401, 1, none⟩ (.string t396)).setCell ⟨gb401, 2, none⟩ (.slice Ao162 t397.length co162)).setCell ⟨gb401, 3, none⟩ (.bool t400))) := ⟨zq24⟩
      (try clear HO391)
      (try clear HO399)
      (try clear BK394)
      (try clear BK401)
      (try clear HB)
      generalize ((((w159.setCell ⟨gb401, 0, none⟩ (.int .i64 t395)).setCell ⟨gb401, 1, none⟩ (.string t396)).setCell ⟨gb401, 2, none⟩ (.slice Ao162 t397.length co162)).setCell ⟨gb401, 3, none⟩ (.bool t400)) = w163 at n0_ n1_ n2_ n3_ n4_ ⊢
      have HO391 := n0_
      have HO399 := n1_
      have BK394 := n2_
      have BK401 := n3_
      have HB := n4_
      clear n0_ n1_ n2_ n3_ n4_
      have n0_ := Aside0.mk (Kd.R_drew HO391.out)
      have n1_ := Aside0.mk (Kd.R_drew HO399.out)
      have n2_ := Aside0.mk (blk_drew BK394.out)
      have n3_ := Aside0.mk (blk_drew BK401.out)
      have n4_ := Aside0.mk (below_drew1 HB.out)
      clear HO391
      clear HO399
      clear BK394
      clear BK401
      clear HB
      have HO391 := n0_
      have HO399 := n1_
      have BK394 := n2_
      have BK401 := n3_
      have HB := n4_
      clear n0_ n1_ n2_ n3_ n4_
      refine start_ (n := 6) (S := fun w' => w'.cell? ⟨gb401, 0, none⟩ = some (.int .i64 t395) ∧ w'.cell? ⟨gb401, 1, none⟩ = some (.string t396) ∧ w'.cell? ⟨gb401, 2, none⟩ = some (.slice Ao162 t397.length co162) ∧ w'.cell? ⟨gb401, 3, none⟩ = some (.bool t400) ∧ w'.cell? ⟨gb394, 0, none⟩ = some (.int .i64 t387) ∧ w'.cell? ⟨gb394, 1, none⟩ = some (.string t388) ∧ w'.cell? ⟨gb394, 2, none⟩ = some (.slice Ao157 t389.length co157) ∧ w'.cell? ⟨gb394, 3, none⟩ = some (.bool t392)) (ds := []) #[false, false, false, false, false, false] zq19 rfl rfl ⟨(blk_cell BK401.out 0).trans rfl, (blk_cell BK401.out 1).trans rfl, (blk_cell BK401.out 2).trans rfl, (blk_cell BK401.out 3).trans rfl, (blk_cell BK394.out 0).trans rfl, (blk_cell BK394.out 1).trans rfl, (blk_cell BK394.out 2).trans rfl, (blk_cell BK394.out 3).trans rfl⟩ (fun hHeld => ?_)
      generalize w163.drew = w164 at HO391 HO399 BK394 BK401 HB hHeld ⊢
      refine pure_ (i := 2) (N := some 34) (v := ?_) (a' := ?_) #[false, false, true, false, false, false] rfl rfl zq19 (fun _ _ _ h => h) (Or.inl ⟨zq90, ?_⟩) ?_ ?_
      rotate_left
      ·intro w'
       go_simp
       with_reducible rfl
      rotate_left
      ·simp only [Act.put, List.setIfInBounds_toArray, List.set_cons_zero, List.set_cons_succ, i64_w, i32_w]
       rfl
      refine take_ (i := 0) (N := some 32) (v := ?_) (a' := ?_) #[true, false, true, false, false, false] rfl rfl zq19 (fun _ _ _ h => h) (Or.inl ⟨zq90, ?_⟩) hHeld ?_ ?_
      rotate_left
      ·rintro w' ⟨s0, s1, s2, s3, s4, s5, s6, s7⟩
       go_simp
       with_reducible rfl
      rotate_left
      ·simp only [Act.put, List.setIfInBounds_toArray, List.set_cons_zero, List.set_cons_succ, i64_w, i32_w]
       rfl
      refine take_ (i := 1) (N := some 33) (v := ?_) (a' := ?_) #[true, true, true, false, false, false] rfl rfl zq19 (fun _ _ _ h => h) (Or.inl ⟨zq90, ?_⟩) hHeld ?_ ?_
      rotate_left
      ·rintro w' ⟨s0, s1, s2, s3, s4, s5, s6, s7⟩
       go_simp
       with_reducible rfl
      rotate_left
      ·simp only [Act.put, List.setIfInBounds_toArray, List.set_cons_zero, List.set_cons_succ, i64_w, i32_w]
       rfl
      refine one_ (i := 3) (N := some 35) #[true, true, true, true, false, false] rfl rfl zq19 zq60 (fun K hK => ?_)
      refine goes_ Try.func9 zq19 rfl #[.agg #[.int .i64 t387, .string t388, .slice Ao157 t389.length co157, .bool t392], .string t393] zq90 rfl rfl zq0 ?_
      with_reducible refine (spec_Feed.calls kj2 t387 t388 _ _ t389 t392 t393 t402 t403 t404 t407 _ ?side1 ?side2 A8.out).mono ?_
      (case side1 => repeat (first | exact (Kd.R_reads' HO391.out).2.2 | (with_reducible refine Kd.C_alloc ?_ _) | (with_reducible refine Kd.C_drewN ?_ _) | (with_reducible refine Kd.C_drew ?_)))
      (case side2 => exact (Kd.R_reads' HO391.out).2.1)
      rintro e w165 ⟨v405, rfl, ho0, hb⟩
      refine ⟨_, rfl, ?_⟩
      have n0_ := Aside0.mk (Kd.R_elder' zq42 (Kd.R_base ho0) hb)
      have n1_ := Aside0.mk (Kd.R_elder' zq46 (Kd.R_base ho0) hb)
      have n2_ := Aside0.mk (Kd.R_lower (Kd.R_new' (Kd.R_new' ho0 (Kd.R_lt zq42)) (Kd.R_lt zq46)) (below_size zq24))
      have n3_ := Aside0.mk (blk_below (g := gb394) (o := .cells #[.int .i64 t387, .string t388, .slice Ao157 t389.length co157, .bool t392] 25 (0, 0)) zq34 hb)
      have n4_ := Aside0.mk (blk_below (g := gb401) (o := .cells #[.int .i64 t395, .string t396, .slice Ao162 t397.length co162, .bool t400] 25 (0, 0)) zq10 hb)
      have n5_ := Aside0.mk (below_step zq24 hb)
      clear HO391
      clear HO399
      clear BK394
      clear BK401
      clear HB
      have HO391 := n0_
      have HO399 := n1_
      have HO406 := n2_
      have BK394 := n3_
      have BK401 := n4_
      have HB := n5_
      clear n0_ n1_ n2_ n3_ n4_ n5_
      (try clear hb)
      (try clear hb2)
      (try clear hk)
      (try clear hi)
      (try clear ho0)
      obtain ⟨Ao166, co166, eo166⟩ := Kd.R_slice HO406.out
      (first | subst eo166 | (injection eo166 with f1_ f2_ f3_; have f4_ := f1_.symm; have f5_ := f3_.symm; clear f1_ f2_ f3_; subst f4_; subst f5_))
      refine hK.out _ _ ⟨(blk_cell BK401.out 0).trans rfl, (blk_cell BK401.out 1).trans rfl, (blk_cell BK401.out 2).trans rfl, (blk_cell BK401.out 3).trans rfl, (blk_cell BK394.out 0).trans rfl, (blk_cell BK394.out 1).trans rfl, (blk_cell BK394.out 2).trans rfl, (blk_cell BK394.out 3).trans rfl⟩ (fun hHeld => ?_)
      clear hK K
      refine norm_ (a' := ?_) ?_ ?_
      rotate_left
      ·show Act.put _ (some 35) _ = _
       simp only [Act.put, List.setIfInBounds_toArray, List.set_cons_zero, List.set_cons_succ, i64_w, i32_w]
       rfl
      refine one_ (i := 4) (N := some 36) #[true, true, true, true, true, false] rfl rfl zq19 zq60 (fun K hK => ?_)
      refine goes_ Try.func8 zq19 rfl #[.agg #[.int .i64 t395, .string t396, .slice Ao162 t397.length co162, .bool t400], .agg #[.int .i64 t402, .string t403, .slice Ao166 t404.length co166, .bool t407]] zq90 rfl rfl zq0 ?_
      with_reducible refine (laws_wDecoder.calls kj2 t395 t396 _ _ t397 t400 t402 t403 _ _ t404 t407 true _ ?side1 ?side2 ?side3 ?side4 A9.out).mono ?_
      (case side1 => repeat (first | exact (Kd.R_reads' HO399.out).2.2 | (with_reducible refine Kd.C_alloc ?_ _) | (with_reducible refine Kd.C_drewN ?_ _) | (with_reducible refine Kd.C_drew ?_)))
      (case side2 => exact (Kd.R_reads' HO399.out).2.1)
      (case side3 => repeat (first | exact (Kd.R_reads' HO406.out).2.2 | (with_reducible refine Kd.C_alloc ?_ _) | (with_reducible refine Kd.C_drewN ?_ _) | (with_reducible refine Kd.C_drew ?_)))
      (case side4 => exact (Kd.R_reads' HO406.out).2.1)
      rintro e w167 ⟨rfl, hb⟩
      refine ⟨_, rfl, ?_⟩
      have n0_ := Aside0.mk (Kd.R_below zq42 hb)
      have n1_ := Aside0.mk (Kd.R_below zq46 hb)
      have n2_ := Aside0.mk (Kd.R_below zq70 hb)
      have n3_ := Aside0.mk (blk_below (g := gb394) (o := .cells #[.int .i64 t387, .string t388, .slice Ao157 t389.length co157, .bool t392] 25 (0, 0)) zq34 hb)
      have n4_ := Aside0.mk (blk_below (g := gb401) (o := .cells #[.int .i64 t395, .string t396, .slice Ao162 t397.length co162, .bool t400] 25 (0, 0)) zq10 hb)
      have n5_ := Aside0.mk (below_step zq24 hb)
      clear HO391
      clear HO399
      clear HO406
      clear BK394
      clear BK401
      clear HB
      have HO391 := n0_
      have HO399 := n1_
      have HO406 := n2_
      have BK394 := n3_
      have BK401 := n4_
      have HB := n5_
      clear n0_ n1_ n2_ n3_ n4_ n5_
      (try clear hb)
      (try clear hb2)
      (try clear hk)
      (try clear hi)
      refine hK.out _ _ ⟨(blk_cell BK401.out 0).trans rfl, (blk_cell BK401.out 1).trans rfl, (blk_cell BK401.out 2).trans rfl, (blk_cell BK401.out 3).trans rfl, (blk_cell BK394.out 0).trans rfl, (blk_cell BK394.out 1).trans rfl, (blk_cell BK394.out 2).trans rfl, (blk_cell BK394.out 3).trans rfl⟩ (fun hHeld => ?_)
      clear hK K
      refine norm_ (a' := ?_) ?_ ?_
      rotate_left
      ·show Act.put _ (some 36) _ = _
       simp only [Act.put, List.setIfInBounds_toArray, List.set_cons_zero, List.set_cons_succ, i64_w, i32_w]
       rfl
      refine pure_ (i := 5) (N := some 37) (v := ?_) (a' := ?_) #[true, true, true, true, true, true] rfl rfl zq19 (fun _ _ _ h => h) (Or.inl ⟨zq90, ?_⟩) ?_ ?_
      rotate_left
      ·intro w'
       go_simp
       with_reducible rfl
      rotate_left
      ·simp only [Act.put, List.setIfInBounds_toArray, List.set_cons_zero, List.set_cons_succ, i64_w, i32_w]
       rfl
      refine done_ zq19 ?_
      have hcz168_0 : w167.cell? ⟨gb394, 0, none⟩ = some (.int .i64 t387) := (blk_cell BK394.out 0).trans rfl
      have hcz168_1 : w167.cell? ⟨gb394, 1, none⟩ = some (.string t388) := (blk_cell BK394.out 1).trans rfl
      have hcz168_2 : w167.cell? ⟨gb394, 2, none⟩ = some (.slice Ao157 t389.length co157) := (blk_cell BK394.out 2).trans rfl
      have hcz168_3 : w167.cell? ⟨gb394, 3, none⟩ = some (.bool t392) := (blk_cell BK394.out 3).trans rfl
      have hfz168_0 := blk_frozen BK394.out 0
      have hfz168_1 := blk_frozen BK394.out 1
      have hfz168_2 := blk_frozen BK394.out 2
      have hfz168_3 := blk_frozen BK394.out 3
      try go_wp2_with (first | ((with_reducible refine gate_callee (f := 10) rfl ?_); refine goesL_ (some 39) rfl rfl Try.func10 zq19 rfl #[.agg #[.int .i64 t387, .string t388, .slice Ao157 t389.length co157, .bool t392]] rfl zq0 ?_; (with_reducible refine (spec_ValidDecoder.calls kj2 t387 t388 _ _ t389 t392 false _ ?side1 ?side2 A11.out).mono ?_); (case side1 => repeat (first | exact (Kd.R_reads' HO391.out).2.2 | (with_reducible refine Kd.C_alloc ?_ _) | (with_reducible refine Kd.C_drewN ?_ _) | (with_reducible refine Kd.C_drew ?_))); (case side2 => exact (Kd.R_reads' HO391.out).2.1); rintro e w169 ⟨rfl, hb⟩; refine ⟨_, rfl, ?_⟩; have n0_ := Aside0.mk (Kd.R_below zq42 hb); have n1_ := Aside0.mk (Kd.R_below zq46 hb); have n2_ := Aside0.mk (Kd.R_below zq70 hb); have n3_ := Aside0.mk (blk_below (g := gb394) (o := .cells #[.int .i64 t387, .string t388, .slice Ao157 t389.length co157, .bool t392] 25 (0, 0)) zq34 hb); have n4_ := Aside0.mk (blk_below (g := gb401) (o := .cells #[.int .i64 t395, .string t396, .slice Ao162 t397.length co162, .bool t400] 25 (0, 0)) zq10 hb); have n5_ := Aside0.mk (below_step zq24 hb); clear HO391; clear HO399; clear HO406; clear BK394; clear BK401; clear HB; have HO391 := n0_; have HO399 := n1_; have HO406 := n2_; have BK394 := n3_; have BK401 := n4_; have HB := n5_; clear n0_ n1_ n2_ n3_ n4_ n5_; (try clear hb); (try clear hb2); (try clear hk); (try clear hi); have hcz170_0 : w169.cell? ⟨gb394, 0, none⟩ = some (.int .i64 t387) := (blk_cell BK394.out 0).trans rfl; have hcz170_1 : w169.cell? ⟨gb394, 1, none⟩ = some (.string t388) := (blk_cell BK394.out 1).trans rfl; have hcz170_2 : w169.cell? ⟨gb394, 2, none⟩ = some (.slice Ao157 t389.length co157) := (blk_cell BK394.out 2).trans rfl; have hcz170_3 : w169.cell? ⟨gb394, 3, none⟩ = some (.bool t392) := (blk_cell BK394.out 3).trans rfl; have hfz170_0 := blk_frozen BK394.out 0; have hfz170_1 := blk_frozen BK394.out 1; have hfz170_2 := blk_frozen BK394.out 2; have hfz170_3 := blk_frozen BK394.out 3) | ((with_reducible refine gate_callee (f := 11) rfl ?_); refine goesL_ (some 42) rfl rfl Try.func11 zq19 rfl #[.agg #[.int .i64 t387, .string t388, .slice Ao157 t389.length co157, .bool t392]] rfl zq0 ?_; (with_reducible refine (impl_ValidDecoder.calls kj2 t387 t388 _ _ t389 t392 t410 _ ?side1 ?side2 A153.out).mono ?_); (case side1 => repeat (first | exact (Kd.R_reads' HO391.out).2.2 | (with_reducible refine Kd.C_alloc ?_ _) | (with_reducible refine Kd.C_drewN ?_ _) | (with_reducible refine Kd.C_drew ?_))); (case side2 => exact (Kd.R_reads' HO391.out).2.1); rintro e w171 ⟨rfl, hb⟩; refine ⟨_, rfl, ?_⟩; have n0_ := Aside0.mk (Kd.R_below zq42 hb); have n1_ := Aside0.mk (Kd.R_below zq46 hb); have n2_ := Aside0.mk (Kd.R_below zq70 hb); have n3_ := Aside0.mk (blk_below (g := gb394) (o := .cells #[.int .i64 t387, .string t388, .slice Ao157 t389.length co157, .bool t392] 25 (0, 0)) zq34 hb); have n4_ := Aside0.mk (blk_below (g := gb401) (o := .cells #[.int .i64 t395, .string t396, .slice Ao162 t397.length co162, .bool t400] 25 (0, 0)) zq10 hb); have n5_ := Aside0.mk (below_step zq24 hb); clear HO391; clear HO399; clear HO406; clear BK394; clear BK401; clear HB; have HO391 := n0_; have HO399 := n1_; have HO406 := n2_; have BK394 := n3_; have BK401 := n4_; have HB := n5_; clear n0_ n1_ n2_ n3_ n4_ n5_; (try clear hb); (try clear hb2); (try clear hk); (try clear hi)))
      go_ret
      exact ⟨zq8, zq24⟩
    ·replace c10 := Bool.eq_false_iff.mpr c10
     subst c10
     rw [if_neg (show ¬ (false = true) by decide)] at H
     obtain rfl := Option.some.inj H
     try go_wp2_with (first | ((with_reducible refine gate_callee (f := 6) rfl ?_); refine goesL_ (some 26) rfl rfl Try.func6 zq19 rfl #[.slice A0 l0.length c0] rfl zq0 ?_; (with_reducible refine (spec_DrawFeed.calls kj2 _ _ l0 t387 t388 t389 t392 t393 _ ?side1 ?side2 A6.out).mono ?_); (case side1 => repeat (first | exact (Kd.C_below HR0.out HB.out) | (with_reducible refine Kd.C_alloc ?_ _) | (with_reducible refine Kd.C_drewN ?_ _) | (with_reducible refine Kd.C_drew ?_))); (case side2 => exact HC0.out); rintro e w172 ⟨v390, rfl, ho0, hb⟩; refine ⟨_, rfl, ?_⟩; have n0_ := Aside0.mk (Kd.R_lower ho0 (below_size zq1)); have n1_ := Aside0.mk (below_step zq1 hb); clear HB; have HO391 := n0_; have HB := n1_; clear n0_ n1_; (try clear hb); (try clear hb2); (try clear hk); (try clear hi); (try clear ho0)) | ((with_reducible refine gate_dst (N := 5) rfl ?_); (try (refine gate_guard zq90 ?_; dsimp only)); refine box_event ?hg (N := 5) ?hd (cs := #[.int .i64 0, .string (⟨#[]⟩ : ByteArray), .slice none 0 0, .bool false]) (t := 25) ?hr ?_; (case hd => rfl); (case hg => rfl); (case hr => first | (go_simp; done) | (go_simp; rfl)); intro gb394 hg w173 hbox hb; have n0_ := Aside0.mk (Kd.R_below zq42 hb); have n1_ := Aside0.mk (below_step zq1 hb); have n2_ := Aside0.mk (hbox); have n3_ := Aside0.mk ((by rw [hg]; exact (below_size zq1) : w.heap.size ≤ gb394)); have n4_ := Aside0.mk ((by rw [hg]; exact (below_size zq1) : w.heap.size ≤ gb394)); clear HO391; clear HB; have HO391 := n0_; have HB := n1_; have BK394 := n2_; have GW394 := n3_; have GE394 := n4_; clear n0_ n1_ n2_ n3_ n4_; clear hb hbox hg; have hcz174_0 : w173.cell? ⟨gb394, 0, none⟩ = some (.int .i64 0) := (blk_cell BK394.out 0).trans rfl; have hcz174_1 : w173.cell? ⟨gb394, 1, none⟩ = some (.string (⟨#[]⟩ : ByteArray)) := (blk_cell BK394.out 1).trans rfl; have hcz174_2 : w173.cell? ⟨gb394, 2, none⟩ = some (.slice none 0 0) := (blk_cell BK394.out 2).trans rfl; have hcz174_3 : w173.cell? ⟨gb394, 3, none⟩ = some (.bool false) := (blk_cell BK394.out 3).trans rfl; have hfz174_0 := blk_frozen BK394.out 0; have hfz174_1 := blk_frozen BK394.out 1; have hfz174_2 := blk_frozen BK394.out 2; have hfz174_3 := blk_frozen BK394.out 3; obtain ⟨Ao175, co175, eo175⟩ := Kd.R_slice HO391.out; subst eo175) | ((with_reducible refine gate_callee (f := 7) rfl ?_); refine goesL_ (some 31) rfl rfl Try.func7 zq19 rfl #[.agg #[.int .i64 t387, .string t388, .slice Ao175 t389.length co175, .bool t392], .string t393] rfl zq0 ?_; (with_reducible refine (impl_Feed.calls kj2 t387 t388 _ _ t389 t392 t393 t395 t396 t397 t400 _ ?side1 ?side2 A7.out).mono ?_); (case side1 => refine (Kd.R_reads' (e := 9) (base := w.heap.size) (ok := fun k_ => True) (n := t389.length) (c := co175) ?_).2.2; exact (by (with_reducible repeat (first | apply Kd.R_alloc | apply Kd.R_drewN | apply Kd.R_drew)); exact (Kd.R_mono (Kd.R_far (p := ⟨gb394, 3, none⟩) (Kd.R_far (p := ⟨gb394, 2, none⟩) (Kd.R_far (p := ⟨gb394, 1, none⟩) (Kd.R_far (p := ⟨gb394, 0, none⟩) (Kd.R_types HO391.out BK394.out zq60) (fun _ hk => hk.2) (.int .i64 t387)) (fun _ hk => hk.2) (.string t388)) (fun _ hk => hk.2) (.slice Ao175 t389.length co175)) (fun _ hk => hk.2) (.bool t392)) (fun _ h_ => h_.1)))); (case side2 => exact (Kd.R_reads' HO391.out).2.1); rintro e w176 ⟨v398, rfl, ho0, hb⟩; refine ⟨_, rfl, ?_⟩; have n0_ := Aside0.mk (Kd.R_elder' (by (with_reducible repeat (first | apply Kd.R_alloc | apply Kd.R_drewN | apply Kd.R_drew)); exact (Kd.R_mono (Kd.R_far (p := ⟨gb394, 3, none⟩) (Kd.R_far (p := ⟨gb394, 2, none⟩) (Kd.R_far (p := ⟨gb394, 1, none⟩) (Kd.R_far (p := ⟨gb394, 0, none⟩) (Kd.R_types HO391.out BK394.out zq60) (fun _ hk => hk.2) (.int .i64 t387)) (fun _ hk => hk.2) (.string t388)) (fun _ hk => hk.2) (.slice Ao175 t389.length co175)) (fun _ hk => hk.2) (.bool t392)) (fun _ h_ => h_.1))) (Kd.R_base ho0) hb); have n1_ := Aside0.mk (Kd.R_lower (Kd.R_new' ho0 (Kd.R_lt (by (with_reducible repeat (first | apply Kd.R_alloc | apply Kd.R_drewN | apply Kd.R_drew)); exact (Kd.R_mono (Kd.R_far (p := ⟨gb394, 3, none⟩) (Kd.R_far (p := ⟨gb394, 2, none⟩) (Kd.R_far (p := ⟨gb394, 1, none⟩) (Kd.R_far (p := ⟨gb394, 0, none⟩) (Kd.R_types HO391.out BK394.out zq60) (fun _ hk => hk.2) (.int .i64 t387)) (fun _ hk => hk.2) (.string t388)) (fun _ hk => hk.2) (.slice Ao175 t389.length co175)) (fun _ hk => hk.2) (.bool t392)) (fun _ h_ => h_.1))))) (below_size zq36)); have n2_ := Aside0.mk (blk_below (g := gb394) (o := .cells #[.int .i64 t387, .string t388, .slice Ao175 t389.length co175, .bool t392] 25 (0, 0)) (by (with_reducible repeat (first | refine blk_drewN ?_ _ | refine blk_drew ?_ | refine blk_alloc ?_ _)); refine blk_put (cs := #[.int .i64 t387, .string t388, .slice Ao175 t389.length co175, .bool false]) ?_ 3 _ rfl; (with_reducible repeat (first | refine blk_drewN ?_ _ | refine blk_drew ?_ | refine blk_alloc ?_ _)); refine blk_put (cs := #[.int .i64 t387, .string t388, .slice none 0 0, .bool false]) ?_ 2 _ rfl; (with_reducible repeat (first | refine blk_drewN ?_ _ | refine blk_drew ?_ | refine blk_alloc ?_ _)); refine blk_put (cs := #[.int .i64 t387, .string (⟨#[]⟩ : ByteArray), .slice none 0 0, .bool false]) ?_ 1 _ rfl; (with_reducible repeat (first | refine blk_drewN ?_ _ | refine blk_drew ?_ | refine blk_alloc ?_ _)); refine blk_put (cs := #[.int .i64 0, .string (⟨#[]⟩ : ByteArray), .slice none 0 0, .bool false]) ?_ 0 _ rfl; (with_reducible repeat (first | refine blk_drewN ?_ _ | refine blk_drew ?_ | refine blk_alloc ?_ _)); exact BK394.out) hb); have n3_ := Aside0.mk (below_step zq36 hb); clear HO391; clear BK394; clear HB; have HO391 := n0_; have HO399 := n1_; have BK394 := n2_; have HB := n3_; clear n0_ n1_ n2_ n3_; (try clear hb); (try clear hb2); (try clear hk); (try clear hi); (try clear ho0)) | ((with_reducible refine gate_dst (N := 7) rfl ?_); (try (refine gate_guard zq90 ?_; dsimp only)); refine box_event ?hg (N := 7) ?hd (cs := #[.int .i64 0, .string (⟨#[]⟩ : ByteArray), .slice none 0 0, .bool false]) (t := 25) ?hr ?_; (case hd => rfl); (case hg => rfl); (case hr => first | (go_simp; done) | (go_simp; rfl)); intro gb401 hg w177 hbox hb; have n0_ := Aside0.mk (Kd.R_below zq42 hb); have n1_ := Aside0.mk (Kd.R_below zq46 hb); have n2_ := Aside0.mk (blk_below (g := gb394) (o := .cells #[.int .i64 t387, .string t388, .slice Ao175 t389.length co175, .bool t392] 25 (0, 0)) zq34 hb); have n3_ := Aside0.mk (below_step zq36 hb); have n4_ := Aside0.mk (hbox); have n5_ := Aside0.mk ((by rw [hg]; exact (below_size zq36) : w.heap.size ≤ gb401)); have n6_ := Aside0.mk ((by rw [hg]; exact (below_size zq36) : w.heap.size ≤ gb401)); have n7_ := Aside0.mk ((by rw [hg]; exact Nat.ne_of_lt (blk_lt (g := gb394) (o := .cells #[.int .i64 t387, .string t388, .slice Ao175 t389.length co175, .bool t392] 25 (0, 0)) zq34) : gb394 ≠ gb401)); have n8_ := Aside0.mk ((by rw [hg]; exact Nat.ne_of_gt (blk_lt (g := gb394) (o := .cells #[.int .i64 t387, .string t388, .slice Ao175 t389.length co175, .bool t392] 25 (0, 0)) zq34) : gb401 ≠ gb394)); clear HO391; clear HO399; clear BK394; clear HB; have HO391 := n0_; have HO399 := n1_; have BK394 := n2_; have HB := n3_; have BK401 := n4_; have GW401 := n5_; have GE401 := n6_; have NB394_401 := n7_; have NB401_394 := n8_; clear n0_ n1_ n2_ n3_ n4_ n5_ n6_ n7_ n8_; clear hb hbox hg; have hnb178 := NB401_394.out; have hnc178 := NB394_401.out; have hcz179_0 : w177.cell? ⟨gb401, 0, none⟩ = some (.int .i64 0) := (blk_cell BK401.out 0).trans rfl; have hcz179_1 : w177.cell? ⟨gb401, 1, none⟩ = some (.string (⟨#[]⟩ : ByteArray)) := (blk_cell BK401.out 1).trans rfl; have hcz179_2 : w177.cell? ⟨gb401, 2, none⟩ = some (.slice none 0 0) := (blk_cell BK401.out 2).trans rfl; have hcz179_3 : w177.cell? ⟨gb401, 3, none⟩ = some (.bool false) := (blk_cell BK401.out 3).trans rfl; have hfz179_0 := blk_frozen BK401.out 0; have hfz179_1 := blk_frozen BK401.out 1; have hfz179_2 := blk_frozen BK401.out 2; have hfz179_3 := blk_frozen BK401.out 3; obtain ⟨Ao180, co180, eo180⟩ := Kd.R_slice HO399.out; subst eo180))
     have n0_ : Aside0 (Kd.R Kd.string 9 ((((w177.setCell ⟨gb401, 0, none⟩ (.int .i64 t395)).setCell ⟨gb401, 1, none⟩ (.string t396)).setCell ⟨gb401, 2, none⟩ (.slice Ao180 t397.length co180)).setCell ⟨gb401, 3, none⟩ (.bool t400)) w.heap.size (fun k_ => some k_ ≠ (.slice Ao180 t397.length co180 : Value).ownBlock) (.slice Ao175 t389.length co175) t389) := ⟨by (with_reducible repeat (first | apply Kd.R_alloc | apply Kd.R_drewN | apply Kd.R_drew)); exact Kd.R_mono (Kd.R_far (p := ⟨gb401, 3, none⟩) (Kd.R_far (p := ⟨gb401, 2, none⟩) (Kd.R_far (p := ⟨gb401, 1, none⟩) (Kd.R_far (p := ⟨gb401, 0, none⟩) (Kd.R_types HO391.out BK401.out zq60) (fun _ hk => hk.2) (.int .i64 t395)) (fun _ hk => hk.2) (.string t396)) (fun _ hk => hk.2) (.slice Ao180 t397.length co180)) (fun _ hk => hk.2) (.bool t400)) (fun _ hk => hk.1.2)⟩
     have n1_ : Aside0 (Kd.R Kd.string 9 ((((w177.setCell ⟨gb401, 0, none⟩ (.int .i64 t395)).setCell ⟨gb401, 1, none⟩ (.string t396)).setCell ⟨gb401, 2, none⟩ (.slice Ao180 t397.length co180)).setCell ⟨gb401, 3, none⟩ (.bool t400)) w.heap.size (fun k_ => some k_ ≠ (.slice Ao175 t389.length co175 : Value).ownBlock) (.slice Ao180 t397.length co180) t397) := ⟨by (with_reducible repeat (first | apply Kd.R_alloc | apply Kd.R_drewN | apply Kd.R_drew)); exact Kd.R_mono (Kd.R_far (p := ⟨gb401, 3, none⟩) (Kd.R_far (p := ⟨gb401, 2, none⟩) (Kd.R_far (p := ⟨gb401, 1, none⟩) (Kd.R_far (p := ⟨gb401, 0, none⟩) (Kd.R_types HO399.out BK401.out zq60) (fun _ hk => hk.2) (.int .i64 t395)) (fun _ hk => hk.2) (.string t396)) (fun _ hk => hk.2) (.slice Ao180 t397.length co180)) (fun _ hk => hk.2) (.bool t400)) (fun _ hk => hk.1.2)⟩
     have n2_ : Aside0 (((((w177.setCell ⟨gb401, 0, none⟩ (.int .i64 t395)).setCell ⟨gb401, 1, none⟩ (.string t396)).setCell ⟨gb401, 2, none⟩ (.slice Ao180 t397.length co180)).setCell ⟨gb401, 3, none⟩ (.bool t400)).heap[gb394]? = some (.cells #[.int .i64 t387, .string t388, .slice Ao175 t389.length co175, .bool t392] 25 (0, 0))) := ⟨zq50⟩
     have n3_ : Aside0 (((((w177.setCell ⟨gb401, 0, none⟩ (.int .i64 t395)).setCell ⟨gb401, 1, none⟩ (.string t396)).setCell ⟨gb401, 2, none⟩ (.slice Ao180 t397.length co180)).setCell ⟨gb401, 3, none⟩ (.bool t400)).heap[gb401]? = some (.cells #[.int .i64 t395, .string t396, .slice Ao180 t397.length co180, .bool t400] 25 (0, 0))) := ⟨by (with_reducible repeat (first | refine blk_drewN ?_ _ | refine blk_drew ?_ | refine blk_alloc ?_ _)); refine blk_put (cs := #[.int .i64 t395, .string t396, .slice Ao180 t397.length co180, .bool false]) ?_ 3 _ rfl; (with_reducible repeat (first | refine blk_drewN ?_ _ | refine blk_drew ?_ | refine blk_alloc ?_ _)); refine blk_put (cs := #[.int .i64 t395, .string t396, .slice none 0 0, .bool false]) ?_ 2 _ rfl; (with_reducible repeat (first | refine blk_drewN ?_ _ | refine blk_drew ?_ | refine blk_alloc ?_ _)); refine blk_put (cs := #[.int .i64 t395, .string (⟨#[]⟩ : ByteArray), .slice none 0 0, .bool false]) ?_ 1 _ rfl; (with_reducible repeat (first | refine blk_drewN ?_ _ | refine blk_drew ?_ | refine blk_alloc ?_ _)); refine blk_put (cs := #[.int .i64 0, .string (⟨#[]⟩ : ByteArray), .slice none 0 0, .bool false]) ?_ 0 _ rfl; (with_reducible repeat (first | refine blk_drewN ?_ _ | refine blk_drew ?_ | refine blk_alloc ?_ _)); exact BK401.out⟩
     have n4_ : Aside0 (Below w.heap.size w ((((w177.setCell ⟨gb401, 0, none⟩ (.int .i64 t395)).setCell ⟨gb401, 1, none⟩ (.string t396)).setCell ⟨gb401, 2, none⟩ (.slice Ao180 t397.length co180)).setCell ⟨gb401, 3, none⟩ (.bool t400))) := ⟨zq24⟩
     (try clear HO391)
     (try clear HO399)
     (try clear BK394)
     (try clear BK401)
     (try clear HB)
     generalize ((((w177.setCell ⟨gb401, 0, none⟩ (.int .i64 t395)).setCell ⟨gb401, 1, none⟩ (.string t396)).setCell ⟨gb401, 2, none⟩ (.slice Ao180 t397.length co180)).setCell ⟨gb401, 3, none⟩ (.bool t400)) = w181 at n0_ n1_ n2_ n3_ n4_ ⊢
     have HO391 := n0_
     have HO399 := n1_
     have BK394 := n2_
     have BK401 := n3_
     have HB := n4_
     clear n0_ n1_ n2_ n3_ n4_
     have n0_ := Aside0.mk (Kd.R_drew HO391.out)
     have n1_ := Aside0.mk (Kd.R_drew HO399.out)
     have n2_ := Aside0.mk (blk_drew BK394.out)
     have n3_ := Aside0.mk (blk_drew BK401.out)
     have n4_ := Aside0.mk (below_drew1 HB.out)
     clear HO391
     clear HO399
     clear BK394
     clear BK401
     clear HB
     have HO391 := n0_
     have HO399 := n1_
     have BK394 := n2_
     have BK401 := n3_
     have HB := n4_
     clear n0_ n1_ n2_ n3_ n4_
     refine start_ (n := 6) (S := fun w' => w'.cell? ⟨gb401, 0, none⟩ = some (.int .i64 t395) ∧ w'.cell? ⟨gb401, 1, none⟩ = some (.string t396) ∧ w'.cell? ⟨gb401, 2, none⟩ = some (.slice Ao180 t397.length co180) ∧ w'.cell? ⟨gb401, 3, none⟩ = some (.bool t400) ∧ w'.cell? ⟨gb394, 0, none⟩ = some (.int .i64 t387) ∧ w'.cell? ⟨gb394, 1, none⟩ = some (.string t388) ∧ w'.cell? ⟨gb394, 2, none⟩ = some (.slice Ao175 t389.length co175) ∧ w'.cell? ⟨gb394, 3, none⟩ = some (.bool t392)) (ds := []) #[false, false, false, false, false, false] zq19 rfl rfl ⟨(blk_cell BK401.out 0).trans rfl, (blk_cell BK401.out 1).trans rfl, (blk_cell BK401.out 2).trans rfl, (blk_cell BK401.out 3).trans rfl, (blk_cell BK394.out 0).trans rfl, (blk_cell BK394.out 1).trans rfl, (blk_cell BK394.out 2).trans rfl, (blk_cell BK394.out 3).trans rfl⟩ (fun hHeld => ?_)
     generalize w181.drew = w182 at HO391 HO399 BK394 BK401 HB hHeld ⊢
     refine pure_ (i := 2) (N := some 34) (v := ?_) (a' := ?_) #[false, false, true, false, false, false] rfl rfl zq19 (fun _ _ _ h => h) (Or.inl ⟨zq90, ?_⟩) ?_ ?_
     rotate_left
     ·intro w'
      go_simp
      with_reducible rfl
     rotate_left
     ·simp only [Act.put, List.setIfInBounds_toArray, List.set_cons_zero, List.set_cons_succ, i64_w, i32_w]
      rfl
     refine take_ (i := 0) (N := some 32) (v := ?_) (a' := ?_) #[true, false, true, false, false, false] rfl rfl zq19 (fun _ _ _ h => h) (Or.inl ⟨zq90, ?_⟩) hHeld ?_ ?_
     rotate_left
     ·rintro w' ⟨s0, s1, s2, s3, s4, s5, s6, s7⟩
      go_simp
      with_reducible rfl
     rotate_left
     ·simp only [Act.put, List.setIfInBounds_toArray, List.set_cons_zero, List.set_cons_succ, i64_w, i32_w]
      rfl
     refine take_ (i := 1) (N := some 33) (v := ?_) (a' := ?_) #[true, true, true, false, false, false] rfl rfl zq19 (fun _ _ _ h => h) (Or.inl ⟨zq90, ?_⟩) hHeld ?_ ?_
     rotate_left
     ·rintro w' ⟨s0, s1, s2, s3, s4, s5, s6, s7⟩
      go_simp
      with_reducible rfl
     rotate_left
     ·simp only [Act.put, List.setIfInBounds_toArray, List.set_cons_zero, List.set_cons_succ, i64_w, i32_w]
      rfl
     refine one_ (i := 3) (N := some 35) #[true, true, true, true, false, false] rfl rfl zq19 zq60 (fun K hK => ?_)
     refine goes_ Try.func9 zq19 rfl #[.agg #[.int .i64 t387, .string t388, .slice Ao175 t389.length co175, .bool t392], .string t393] zq90 rfl rfl zq0 ?_
     with_reducible refine (spec_Feed.calls kj2 t387 t388 _ _ t389 t392 t393 t402 t403 t404 t407 _ ?side1 ?side2 A8.out).mono ?_
     (case side1 => repeat (first | exact (Kd.R_reads' HO391.out).2.2 | (with_reducible refine Kd.C_alloc ?_ _) | (with_reducible refine Kd.C_drewN ?_ _) | (with_reducible refine Kd.C_drew ?_)))
     (case side2 => exact (Kd.R_reads' HO391.out).2.1)
     rintro e w183 ⟨v405, rfl, ho0, hb⟩
     refine ⟨_, rfl, ?_⟩
     have n0_ := Aside0.mk (Kd.R_elder' zq42 (Kd.R_base ho0) hb)
     have n1_ := Aside0.mk (Kd.R_elder' zq46 (Kd.R_base ho0) hb)
     have n2_ := Aside0.mk (Kd.R_lower (Kd.R_new' (Kd.R_new' ho0 (Kd.R_lt zq42)) (Kd.R_lt zq46)) (below_size zq24))
     have n3_ := Aside0.mk (blk_below (g := gb394) (o := .cells #[.int .i64 t387, .string t388, .slice Ao175 t389.length co175, .bool t392] 25 (0, 0)) zq34 hb)
     have n4_ := Aside0.mk (blk_below (g := gb401) (o := .cells #[.int .i64 t395, .string t396, .slice Ao180 t397.length co180, .bool t400] 25 (0, 0)) zq10 hb)
     have n5_ := Aside0.mk (below_step zq24 hb)
     clear HO391
     clear HO399
     clear BK394
     clear BK401
     clear HB
     have HO391 := n0_
     have HO399 := n1_
     have HO406 := n2_
     have BK394 := n3_
     have BK401 := n4_
     have HB := n5_
     clear n0_ n1_ n2_ n3_ n4_ n5_
     (try clear hb)
     (try clear hb2)
     (try clear hk)
     (try clear hi)
     (try clear ho0)
     obtain ⟨Ao184, co184, eo184⟩ := Kd.R_slice HO406.out
     (first | subst eo184 | (injection eo184 with f1_ f2_ f3_; have f4_ := f1_.symm; have f5_ := f3_.symm; clear f1_ f2_ f3_; subst f4_; subst f5_))
     refine hK.out _ _ ⟨(blk_cell BK401.out 0).trans rfl, (blk_cell BK401.out 1).trans rfl, (blk_cell BK401.out 2).trans rfl, (blk_cell BK401.out 3).trans rfl, (blk_cell BK394.out 0).trans rfl, (blk_cell BK394.out 1).trans rfl, (blk_cell BK394.out 2).trans rfl, (blk_cell BK394.out 3).trans rfl⟩ (fun hHeld => ?_)
     clear hK K
     refine norm_ (a' := ?_) ?_ ?_
     rotate_left
     ·show Act.put _ (some 35) _ = _
      simp only [Act.put, List.setIfInBounds_toArray, List.set_cons_zero, List.set_cons_succ, i64_w, i32_w]
      rfl
     refine one_ (i := 4) (N := some 36) #[true, true, true, true, true, false] rfl rfl zq19 zq60 (fun K hK => ?_)
     refine goes_ Try.func8 zq19 rfl #[.agg #[.int .i64 t395, .string t396, .slice Ao180 t397.length co180, .bool t400], .agg #[.int .i64 t402, .string t403, .slice Ao184 t404.length co184, .bool t407]] zq90 rfl rfl zq0 ?_
     with_reducible refine (laws_wDecoder.calls kj2 t395 t396 _ _ t397 t400 t402 t403 _ _ t404 t407 false _ ?side1 ?side2 ?side3 ?side4 A9.out).mono ?_
     (case side1 => repeat (first | exact (Kd.R_reads' HO399.out).2.2 | (with_reducible refine Kd.C_alloc ?_ _) | (with_reducible refine Kd.C_drewN ?_ _) | (with_reducible refine Kd.C_drew ?_)))
     (case side2 => exact (Kd.R_reads' HO399.out).2.1)
     (case side3 => repeat (first | exact (Kd.R_reads' HO406.out).2.2 | (with_reducible refine Kd.C_alloc ?_ _) | (with_reducible refine Kd.C_drewN ?_ _) | (with_reducible refine Kd.C_drew ?_)))
     (case side4 => exact (Kd.R_reads' HO406.out).2.1)
     rintro e w185 ⟨rfl, hb⟩
     refine ⟨_, rfl, ?_⟩
     have n0_ := Aside0.mk (Kd.R_below zq42 hb)
     have n1_ := Aside0.mk (Kd.R_below zq46 hb)
     have n2_ := Aside0.mk (Kd.R_below zq70 hb)
     have n3_ := Aside0.mk (blk_below (g := gb394) (o := .cells #[.int .i64 t387, .string t388, .slice Ao175 t389.length co175, .bool t392] 25 (0, 0)) zq34 hb)
     have n4_ := Aside0.mk (blk_below (g := gb401) (o := .cells #[.int .i64 t395, .string t396, .slice Ao180 t397.length co180, .bool t400] 25 (0, 0)) zq10 hb)
     have n5_ := Aside0.mk (below_step zq24 hb)
     clear HO391
     clear HO399
     clear HO406
     clear BK394
     clear BK401
     clear HB
     have HO391 := n0_
     have HO399 := n1_
     have HO406 := n2_
     have BK394 := n3_
     have BK401 := n4_
     have HB := n5_
     clear n0_ n1_ n2_ n3_ n4_ n5_
     (try clear hb)
     (try clear hb2)
     (try clear hk)
     (try clear hi)
     refine hK.out _ _ ⟨(blk_cell BK401.out 0).trans rfl, (blk_cell BK401.out 1).trans rfl, (blk_cell BK401.out 2).trans rfl, (blk_cell BK401.out 3).trans rfl, (blk_cell BK394.out 0).trans rfl, (blk_cell BK394.out 1).trans rfl, (blk_cell BK394.out 2).trans rfl, (blk_cell BK394.out 3).trans rfl⟩ (fun hHeld => ?_)
     clear hK K
     refine norm_ (a' := ?_) ?_ ?_
     rotate_left
     ·show Act.put _ (some 36) _ = _
      simp only [Act.put, List.setIfInBounds_toArray, List.set_cons_zero, List.set_cons_succ, i64_w, i32_w]
      rfl
     refine pure_ (i := 5) (N := some 37) (v := ?_) (a' := ?_) #[true, true, true, true, true, true] rfl rfl zq19 (fun _ _ _ h => h) (Or.inl ⟨zq90, ?_⟩) ?_ ?_
     rotate_left
     ·intro w'
      go_simp
      with_reducible rfl
     rotate_left
     ·simp only [Act.put, List.setIfInBounds_toArray, List.set_cons_zero, List.set_cons_succ, i64_w, i32_w]
      rfl
     refine done_ zq19 ?_
     try go_wp2
     go_ret
     exact ⟨zq8, zq24⟩
def laws_FnFrames.Pure : Prop := ∀ (l0 : List Int) (l1 : List Int), l0.length ≤ maxLen → l0.length * 1 ≤ 140737488351232 → (∀ x ∈ l0, (Lit.int .u8 x).wf = true) → l1.length ≤ maxLen → l1.length * 1 ≤ 140737488351232 → (∀ x ∈ l1, (Lit.int .u8 x).wf = true) → ∃ k, laws_FnFrames.f k l0 l1 = some true
theorem laws_FnFrames.walk (P : laws_FnFrames.Pure) (a0 : Option Addr) (len0 cap0 : Nat) (z0 : List Int) (a1 : Option Addr) (len1 cap1 : Nat) (z1 : List Int) (w : World) (w0 : (a0 = none ∧ len0 = 0 ∧ cap0 = 0 ∧ z0 = []) ∨ ∃ x, a0 = some x ∧ len0 ≤ cap0 ∧ cap0 ≤ maxLen ∧ z0.length = cap0 ∧ (∀ i, i < z0.length → w.cell? (x.add i) = some (.int .u8 (z0.getD i 0))) ∧ ∀ n ∈ z0, (Lit.int .u8 n).wf = true) (y0 : len0 * 1 ≤ 140737488351232) (w1 : (a1 = none ∧ len1 = 0 ∧ cap1 = 0 ∧ z1 = []) ∨ ∃ x, a1 = some x ∧ len1 ≤ cap1 ∧ cap1 ≤ maxLen ∧ z1.length = cap1 ∧ (∀ i, i < z1.length → w.cell? (x.add i) = some (.int .u8 (z1.getD i 0))) ∧ ∀ n ∈ z1, (Lit.int .u8 n).wf = true) (y1 : len1 * 1 ≤ 140737488351232) :
  Calls Try.prog 3 #[.slice a0 len0 cap0, .slice a1 len1 cap1] w fun e w' => e = .returned (.bool true) ∧ Below w.heap.size w w' := by
 obtain ⟨l0, rfl, hr0, hm0, hw0, hc0⟩ := ReadsInt.ofRowC w0
 obtain ⟨l1, rfl, hr1, hm1, hw1, hc1⟩ := ReadsInt.ofRowC w1
 obtain ⟨k, h⟩ := P l0 l1 hm0 y0 hw0 hm1 y1 hw1
 refine (laws_FnFrames.calls k _ _ l0 _ _ l1 true w (Kd.C_of_reads (d := (0 : Int)) (h1 := fun _ => rfl) hr0) hc0 (Kd.C_of_reads (d := (0 : Int)) (h1 := fun _ => rfl) hr1) hc1 h).mono ?_
 rintro e w' ⟨rfl, hd⟩
 exact ⟨rfl, hd⟩
end Go.Proofs.Ytgjipjffpodjlaa.K
set_option linter.unusedVariables false
namespace Go.Proofs.Ytgjipjffpodjlaa.D
open Go.RowKit Go.Proofs.YtgjipjffpodjlaaW.PrintWords Go.Proofs.YtgjipjffpodjlaaW.PrintLast Go.Proofs.YtgjipjffpodjlaaW.PrintMore Go.Proofs.Ytgjipjffpodjlaa.U Go.Proofs.Ytgjipjffpodjlaa.K Go.Proofs.Ytgjipjffpodjlaa.E
structure Bs (s : List Int) : Prop where
  len : s.length ≤ 2000
  rng : ∀ x ∈ s, 0 ≤ x ∧ x ≤ 255
theorem Bs.rd {s : List Int} (h : Bs s) (i : Int) : 0 ≤ rd s i ∧ rd s i ≤ 255 := by
  unfold Go.Proofs.YtgjipjffpodjlaaW.PrintWords.rd
  by_cases hi : i.toNat < s.length
  · rw [List.getD_eq_getElem?_getD, List.getElem?_eq_getElem hi]; exact h.rng _ (List.getElem_mem hi)
  · rw [List.getD_eq_getElem?_getD, List.getElem?_eq_none (by omega)]; simp
theorem xor_range (x y : Int) (hx : 0 ≤ x) (hx1 : x < 4611686018427387904) (hy : 0 ≤ y) (hy1 : y < 4611686018427387904) : 0 ≤ Go.bits .xor .i64 x y ∧ Go.bits .xor .i64 x y < 4611686018427387904 := by
  obtain ⟨a, rfl⟩ : ∃ a : Nat, x = a := ⟨x.toNat, by omega⟩
  obtain ⟨b, rfl⟩ : ∃ b : Nat, y = b := ⟨y.toNat, by omega⟩
  have e : ∀ c : Nat, c < 4611686018427387904 → (BitVec.ofInt 64 (c : Int)).toNat = c := by
    intro c hc
    rw [BitVec.ofInt_natCast, BitVec.toNat_ofNat]; exact Nat.mod_eq_of_lt (by omega)
  have hlt : a ^^^ b < 2 ^ 62 := Nat.xor_lt_two_pow (by omega) (by omega)
  have : Go.bits .xor .i64 (a : Int) (b : Int) = ((a ^^^ b : Nat) : Int) := by
    show IntKind.i64.wrap ((BitVec.ofInt 64 (a : Int) ^^^ BitVec.ofInt 64 (b : Int)).toNat : Int) = _
    rw [BitVec.toNat_xor, e a (by omega), e b (by omega), IntWalk.i64_in _ (by omega)]
  rw [this]; omega
theorem pick_tot {s : List Int} {p n : Int} (hs : Bs s) (hp : 0 ≤ p ∧ p ≤ 1000000000000000) (hn : 1 ≤ n ∧ n ≤ 1000000000000000) :
    Tot (fun k => spec_l1Rd_pick.f k s p n) (fun r => 0 ≤ r.1 ∧ r.1 < n ∧ r.2 = p + 1) := by
  have hl := hs.len
  unfold spec_l1Rd_pick.f
  refine Tot.neg (by omega) ?_
  refine Tot.step (fun k => by simp only [spec_l1Rd_pick.j0]; exact rfl) ?_
  simp only [w64 (n := p + 1) (by omega), Int.add_sub_cancel, w64 (n := p) (by omega)]
  by_cases h0 : s.length = 0
  · refine Tot.pos (by rw [beq_iff_eq]; omega) ?_
    exact Tot.now ⟨Int.le_refl _, by omega, rfl⟩
  refine Tot.neg (by rw [beq_iff_eq]; omega) ?_
  refine Tot.ite (fun h1 => ?_) (fun h1 => ?_)
  · refine Tot.pos (by omega) (Tot.neg (by omega) ?_)
    have := hs.rd p
    refine Tot.now ⟨?_, ?_, rfl⟩
    · rw [w64 (by omega), Int.tmod_eq_emod_of_nonneg (by omega)]; exact Int.emod_nonneg _ (by omega)
    · rw [w64 (by omega), Int.tmod_eq_emod_of_nonneg (by omega)]; exact Int.emod_lt_of_pos _ (by omega)
  · have q0 : 0 ≤ Int.tmod p s.length ∧ Int.tmod p s.length < s.length := by
      rw [Int.tmod_eq_emod_of_nonneg (by omega)]; exact ⟨Int.emod_nonneg _ (by omega), Int.emod_lt_of_pos _ (by omega)⟩
    have q1 : 0 ≤ Int.tmod (p * 7 + 3) s.length ∧ Int.tmod (p * 7 + 3) s.length < s.length := by
      rw [Int.tmod_eq_emod_of_nonneg (by omega)]; exact ⟨Int.emod_nonneg _ (by omega), Int.emod_lt_of_pos _ (by omega)⟩
    have q2 : 0 ≤ Int.tdiv p s.length ∧ Int.tdiv p s.length ≤ p := by
      rw [Int.tdiv_eq_ediv_of_nonneg (by omega)]; exact ⟨Int.ediv_nonneg (by omega) (by omega), Int.ediv_le_self _ (by omega)⟩
    simp only [w64 (n := p * 7) (by omega), w64 (n := p * 7 + 3) (by omega)]
    refine Tot.neg (by omega) (Tot.pos q0.1 (Tot.pos q0.2 (Tot.pos q1.1 (Tot.pos q1.2 (Tot.neg (by omega) ?_)))))
    have r0 := hs.rd (Int.tmod p s.length)
    have r1 := hs.rd (Int.tmod (p * 7 + 3) s.length)
    generalize rd s (Int.tmod p s.length) = a at *
    generalize rd s (Int.tmod (p * 7 + 3) s.length) = b at *
    generalize Int.tdiv p s.length = d at *
    simp only [w64 (n := a) (by omega), w64 (n := a * 131) (by omega), w64 (n := b) (by omega), w64 (n := b * 1117) (by omega), w64 (n := a * 131 + b * 1117) (by omega), w64 (n := p * 29) (by omega), w64 (n := a * 131 + b * 1117 + p * 29) (by omega), w64 (n := d) (by omega), w64 (n := d * 53) (by omega), w64 (n := a * 131 + b * 1117 + p * 29 + d * 53) (by omega)]
    have hv : Int.tdiv (a * 131 + b * 1117 + p * 29 + d * 53) 64 = (a * 131 + b * 1117 + p * 29 + d * 53) / 64 := Int.tdiv_eq_ediv_of_nonneg (by omega)
    rw [hv, w64 (n := (a * 131 + b * 1117 + p * 29 + d * 53) / 64) (by omega)]
    have x := xor_range (a * 131 + b * 1117 + p * 29 + d * 53) ((a * 131 + b * 1117 + p * 29 + d * 53) / 64) (by omega) (by omega) (by omega) (by omega)
    refine Tot.now ⟨?_, ?_, rfl⟩
    · rw [Int.tmod_eq_emod_of_nonneg x.1]; exact Int.emod_nonneg _ (by omega)
    · rw [Int.tmod_eq_emod_of_nonneg x.1]; exact Int.emod_lt_of_pos _ (by omega)
theorem open_tot {l : List Int} (h : ∀ x ∈ l, 0 ≤ x ∧ x ≤ 255) : ∃ s, spec_l1Open.f l = some (s, 0) ∧ Bs s := by
  unfold spec_l1Open.f
  by_cases hl : (l.length : Int) > 2000
  · rw [if_pos hl, if_pos (by omega)]
    exact ⟨_, rfl, by simp; omega, fun x hx => h x (List.mem_of_mem_take hx)⟩
  · rw [if_neg hl]; exact ⟨_, rfl, by omega, h⟩
theorem many_tot (n : Nat) : ∀ (x0 : ByteArray) (x1 : Int) (x5 : ByteArray), x1.toNat ≤ n → x1 ≤ 1000000000000 → x0.size * (2 * x1.toNat) + x5.size ≤ 1000000000000000 →
    x0.size ≤ 1000000000000000 → Tot (fun k => spec_l1Many.l0 k x0 x1 x5) (fun r => r.size = x5.size + x0.size * x1.toNat) := by
  induction n using Nat.strongRecOn with
  | _ n ih =>
    intro x0 x1 x5 hx h1 hb hb2
    refine Tot.step (fun k => by simp only [spec_l1Many.l0]; exact rfl) ?_
    by_cases h : x1 > 0
    · refine Tot.pos h ?_
      have e1 : Int.tmod x1 2 = x1 % 2 := Int.tmod_eq_emod_of_nonneg (by omega)
      have e2 : wrap64 (Int.tdiv x1 2) = x1 / 2 := by rw [Int.tdiv_eq_ediv_of_nonneg (by omega), w64 (by omega)]
      rw [e1, e2]
      have s0 : x0.size + x0.size ≤ x0.size * (2 * x1.toNat) := by
        have : x0.size * 2 ≤ x0.size * (2 * x1.toNat) := Nat.mul_le_mul_left _ (by omega)
        omega
      by_cases hm : x1 % 2 = 1
      · refine Tot.pos hm (Tot.pos (by omega) (Tot.pos (by omega) ?_))
        have em : x0.size * x1.toNat = x0.size + (x0 ++ x0).size * (x1 / 2).toNat := by
          rw [size_app, show x1.toNat = 1 + 2 * (x1 / 2).toNat by omega, Nat.mul_add, Nat.mul_one, ← Nat.two_mul, Nat.mul_comm 2 x0.size, Nat.mul_assoc]
        have em2 : (x0 ++ x0).size * (2 * (x1 / 2).toNat) = 2 * ((x0 ++ x0).size * (x1 / 2).toNat) := by rw [← Nat.mul_assoc, Nat.mul_comm _ 2, Nat.mul_assoc]
        have em3 : x0.size * (2 * x1.toNat) = 2 * (x0.size * x1.toNat) := by rw [← Nat.mul_assoc, Nat.mul_comm _ 2, Nat.mul_assoc]
        refine (ih (x1 / 2).toNat (by omega) (x0 ++ x0) (x1 / 2) (x5 ++ x0) (Nat.le_refl _) (by omega) (by rw [size_app x5]; omega) (by rw [size_app]; omega)).mono (fun r hr => ?_)
        rw [hr, size_app x5]; omega
      · refine Tot.neg hm (Tot.pos (by omega) ?_)
        have em : x0.size * x1.toNat = (x0 ++ x0).size * (x1 / 2).toNat := by
          rw [size_app, show x1.toNat = 2 * (x1 / 2).toNat by omega, ← Nat.two_mul, Nat.mul_comm 2 x0.size, Nat.mul_assoc]
        have em2 : (x0 ++ x0).size * (2 * (x1 / 2).toNat) = 2 * ((x0 ++ x0).size * (x1 / 2).toNat) := by rw [← Nat.mul_assoc, Nat.mul_comm _ 2, Nat.mul_assoc]
        have em3 : x0.size * (2 * x1.toNat) = 2 * (x0.size * x1.toNat) := by rw [← Nat.mul_assoc, Nat.mul_comm _ 2, Nat.mul_assoc]
        refine (ih (x1 / 2).toNat (by omega) (x0 ++ x0) (x1 / 2) x5 (Nat.le_refl _) (by omega) (by omega) (by rw [size_app]; omega)).mono (fun r hr => ?_)
        rw [hr]; omega
    · refine Tot.neg h (Tot.now ?_)
      rw [show x1.toNat = 0 by omega, Nat.mul_zero, Nat.add_zero]
theorem Many_tot (s : ByteArray) (n : Int) (hs : s.size ≤ 10000) (hn : n ≤ 1000000) : Tot (fun k => spec_l1Many.f k s n) (fun r => r.size = s.size * n.toNat) := by
  unfold spec_l1Many.f
  have : s.size * (2 * n.toNat) ≤ 10000 * (2 * 1000000) := Nat.mul_le_mul hs (by omega)
  have e : (⟨#[]⟩ : ByteArray).size = 0 := rfl
  refine (many_tot n.toNat s n ⟨#[]⟩ (Nat.le_refl _) (by omega) (by rw [e]; omega) (by omega)).mono (fun r hr => ?_)
  rw [hr, e]; omega
theorem rd_lit {l : List Int} {i : Int} (h0 : 0 ≤ i) (h1 : i < l.length) : rd l i ∈ l := by
  unfold rd
  rw [List.getD_eq_getElem?_getD, List.getElem?_eq_getElem (by omega)]
  exact List.getElem_mem _
theorem rdOf_lit {α : Type} {d : α} {l : List α} {i : Int} (h0 : 0 ≤ i) (h1 : i < l.length) : rdOf d l i ∈ l := by
  unfold rdOf
  rw [List.getD_eq_getElem?_getD, List.getElem?_eq_getElem (by omega)]
  exact List.getElem_mem _
theorem Width_tot {s : List Int} {p : Int} (hs : Bs s) (hp : 0 ≤ p ∧ p ≤ 1000000000000000) :
    Tot (fun k => spec_l1Width.f k s p) (fun r => 1 ≤ r.1 ∧ r.1 ≤ 8 ∧ r.2 = p + 1) := by
  unfold spec_l1Width.f
  refine Tot.bindSome (Tot.bind (pick_tot hs hp (by omega)) (fun r hr => ?_))
  refine Tot.pos (by omega) (Tot.pos (by simp; omega) (Tot.now ?_))
  have := rd_lit (l := [8, 8, 4, 2, 1, 1]) hr.1 (by simp; omega)
  simp only [List.mem_cons, List.not_mem_nil, or_false] at this
  exact ⟨by omega, by omega, hr.2.2⟩
theorem text_l0 {s : List Int} (hs : Bs s) (d : Nat) : ∀ (x3 : ByteArray) (x4 p : Int), x4.toNat = d → d ≤ 6 → x3.size + 2 * d ≤ 12 → 0 ≤ p ∧ p + d ≤ 1000000000000000 →
    Tot (fun k => spec_l1Text.l0 k x3 x4 s p) (fun r => r.1.size ≤ 12 ∧ p ≤ r.2 ∧ r.2 ≤ p + d) := by
  induction d with
  | zero =>
    intro x3 x4 p h1 h2 h3 h4
    refine Tot.step (fun k => by simp only [spec_l1Text.l0]; exact rfl) ?_
    exact Tot.neg (by omega) (Tot.now ⟨by simpa using h3, Int.le_refl _, by omega⟩)
  | succ d ih =>
    intro x3 x4 p h1 h2 h3 h4
    refine Tot.step (fun k => by simp only [spec_l1Text.l0]; exact rfl) ?_
    refine Tot.pos (by omega) (Tot.bind (pick_tot hs (by omega) (by omega)) (fun r hr => ?_))
    have e4 : (⟨#[97, 98, 99, 100]⟩ : ByteArray).size = 4 := rfl
    have e1 : (⟨#[10]⟩ : ByteArray).size = 1 := rfl
    refine Tot.pos (by omega) (Tot.pos (by omega) (Tot.pos (by omega) ?_))
    refine Tot.pos (by rw [size_ext, e4]; omega) (Tot.pos (by rw [size_ext, size_ext, e4]; omega) (Tot.pos (by rw [size_app, size_ext, size_ext, e4]; omega) ?_))
    rw [w64 (by omega)]
    refine (ih _ (x4 - 1) r.2 (by omega) (by omega) (by rw [size_app, size_app, size_ext, size_ext, e4, e1]; omega) (by omega)).mono (fun r' h => ?_)
    exact ⟨h.1, by omega, by omega⟩
theorem Text_tot {s : List Int} {p : Int} (hs : Bs s) (hp : 0 ≤ p ∧ p ≤ 900000000000000) :
    Tot (fun k => spec_l1Text.f k s p) (fun r => r.1.size ≤ 12 ∧ p ≤ r.2 ∧ r.2 ≤ p + 8) := by
  unfold spec_l1Text.f
  refine Tot.bind (pick_tot hs (by omega) (by omega)) (fun r hr => ?_)
  refine Tot.ite (fun _ => Tot.now ⟨Nat.zero_le _, by omega, by omega⟩) (fun _ => ?_)
  refine Tot.ite (fun _ => Tot.now ⟨by show (2 : Nat) ≤ 12; omega, by omega, by omega⟩) (fun _ => ?_)
  refine Tot.ite (fun _ => Tot.now ⟨by show (10 : Nat) ≤ 12; omega, by omega, by omega⟩) (fun _ => ?_)
  refine Tot.bind (pick_tot hs (by omega) (by omega)) (fun q hq => ?_)
  refine (text_l0 hs q.1.toNat ⟨#[]⟩ q.1 q.2 rfl (by omega) (by have : (⟨#[]⟩ : ByteArray).size = 0 := rfl; omega) (by omega)).mono (fun r' h => ?_)
  exact ⟨h.1, by omega, by omega⟩
theorem bend_idx {v L : Int} (hv : 0 ≤ v ∧ v < 256) (hL : 0 ≤ L ∧ L ≤ 1000000000000) : ∃ i, wrap64 (Int.tdiv (wrap64 (v * wrap64 (L + 1))) 256) = i ∧ 0 ≤ i ∧ i ≤ L := by
  have h1 : v * (L + 1) ≤ 255 * (L + 1) := Int.mul_le_mul_of_nonneg_right (by omega) (by omega)
  have h0 : 0 ≤ v * (L + 1) := Int.mul_nonneg hv.1 (by omega)
  generalize hm : v * (L + 1) = m at *
  refine ⟨m / 256, ?_, by omega, by omega⟩
  rw [w64 (n := L + 1) (by omega), hm, w64 (n := m) (by omega), Int.tdiv_eq_ediv_of_nonneg (by omega), w64 (by omega)]
theorem Bend_tot {s : List Int} {p : Int} (hs : Bs s) (hp : 0 ≤ p ∧ p ≤ 900000000000000) (a : ByteArray) (ha : a.size ≤ 100000000000) :
    Tot (fun k => spec_l1Bend.f k s p a) (fun r => r.1.size ≤ 2 * a.size + 1 ∧ p ≤ r.2 ∧ r.2 ≤ p + 4) := by
  unfold spec_l1Bend.f
  refine Tot.bind (pick_tot hs (by omega) (by omega)) (fun r hr => ?_)
  obtain ⟨i, hi, hi0, hi1⟩ := bend_idx (v := r.1) (L := a.size) ⟨hr.1, hr.2.1⟩ (by omega)
  simp only [hi]
  refine Tot.bind (pick_tot hs (by omega) (by omega)) (fun q hq => ?_)
  refine Tot.ite (fun _ => ?_) (fun _ => ?_)
  · exact Tot.pos (by omega) (Tot.pos (by omega) (Tot.now ⟨by rw [size_ext]; omega, by omega, by omega⟩))
  refine Tot.ite (fun _ => ?_) (fun _ => ?_)
  · refine Tot.pos (by omega) (Tot.pos (by omega) (Tot.bindSome (Tot.bind (pick_tot hs (by omega) (by omega)) (fun t ht => ?_))))
    have hz : ∀ l : List ByteArray, (∀ x ∈ l, x.size = 1) → t.1 < l.length → (rdOf ByteArray.empty l t.1).size = 1 := fun l hl h => hl _ (rdOf_lit ht.1 h)
    have hz := hz [(⟨#[32]⟩ : ByteArray), (⟨#[10]⟩ : ByteArray), (⟨#[34]⟩ : ByteArray), (⟨#[92]⟩ : ByteArray), (⟨#[48]⟩ : ByteArray), (⟨#[120]⟩ : ByteArray), (⟨#[47]⟩ : ByteArray), (⟨#[0]⟩ : ByteArray), (⟨#[128]⟩ : ByteArray), (⟨#[42]⟩ : ByteArray)] (by intro x hx; simp only [List.mem_cons, List.not_mem_nil, or_false] at hx; rcases hx with rfl | rfl | rfl | rfl | rfl | rfl | rfl | rfl | rfl | rfl <;> rfl) (by simp; omega)
    refine Tot.pos (by omega) (Tot.pos (by simp; omega) (Tot.pos (by rw [size_ext, hz]; omega) (Tot.pos (by rw [size_app, size_ext, size_ext, hz]; omega) (Tot.now ⟨by rw [size_app, size_app, size_ext, size_ext, hz]; omega, by omega, by omega⟩))))
  refine Tot.ite (fun _ => ?_) (fun _ => ?_)
  · refine Tot.ite (fun h => ?_) (fun h => ?_)
    · simp only [w64 (n := i + 1) (by omega)]
      exact Tot.pos (by omega) (Tot.pos (by omega) (Tot.pos (by omega) (Tot.pos (by omega) (Tot.pos (by rw [size_ext, size_ext]; omega) (Tot.now ⟨by rw [size_app, size_ext, size_ext]; omega, by omega, by omega⟩)))))
    · exact Tot.pos (by omega) (Tot.pos (by omega) (Tot.pos (by rw [size_ext]; omega) (Tot.now ⟨by rw [size_app, size_ext]; omega, by omega, by omega⟩)))
  refine Tot.ite (fun _ => ?_) (fun _ => ?_)
  · refine Tot.ite (fun h => ?_) (fun h => ?_)
    · simp only [w64 (n := i + 1) (by omega)]
      refine Tot.pos (by omega) (Tot.pos (by omega) (Tot.bind (pick_tot hs (by omega) (by omega)) (fun t ht => ?_)))
      refine Tot.pos (by rw [u64 (by omega)]; omega) (Tot.bindSome ?_)
      refine Tot.pos (by rw [size_ext, strOfNums_size]; simp; omega) (Tot.pos (by omega) (Tot.pos (by omega) (Tot.pos (by rw [size_app, size_ext, size_ext, strOfNums_size]; simp; omega) (Tot.now ⟨by rw [size_app, size_app, size_ext, size_ext, strOfNums_size]; simp; omega, by omega, by omega⟩))))
    · exact Tot.pos (by omega) (Tot.pos (by omega) (Tot.pos (by rw [size_ext]; omega) (Tot.now ⟨by rw [size_app, size_ext]; omega, by omega, by omega⟩)))
  exact Tot.pos (by omega) (Tot.pos (by omega) (Tot.pos (by rw [size_ext]; omega) (Tot.now ⟨by rw [size_app, size_ext]; omega, by omega, by omega⟩)))
end Go.Proofs.Ytgjipjffpodjlaa.D
set_option linter.unusedVariables false
namespace Go.Proofs.Ytgjipjffpodjlaa.E
open Go.RowKit Go.Proofs.YtgjipjffpodjlaaW.PrintWords Go.Proofs.YtgjipjffpodjlaaW.PrintLast Go.Proofs.YtgjipjffpodjlaaW.PrintMore Go.Proofs.Ytgjipjffpodjlaa.U Go.Proofs.Ytgjipjffpodjlaa.K
def vdT (w : Int) (rest : ByteArray) (fr : List ByteArray) (bad : Bool) : Bool :=
  decide (1 ≤ w ∧ w ≤ 8) && (decide (fr.length ≤ 500) && (fr.all okF && (if bad then decide (rest.size = 0) else decide ((frontT rest w).1 = 0))))
theorem rdOf_nat {α : Type} (d : α) (l : List α) (i : Nat) (h : i < l.length) : rdOf d l i = l[i] := by
  simp [rdOf, List.getD, List.getElem?_eq_getElem h]
theorem drop_cons {α : Type} (l : List α) (i : Nat) (h : i < l.length) : l.drop i = l[i] :: l.drop (i + 1) := List.drop_eq_getElem_cons h
theorem nilB (s : ByteArray) : (s.toList == ([] : List UInt8)) = decide (s.size = 0) := by
  by_cases h : s.size = 0
  · rw [decide_eq_true h, beq_iff_eq]; exact (nil_iff s).2 h
  · rw [decide_eq_false h, beq_eq_false_iff_ne]; exact fun e => h ((nil_iff s).1 e)
theorem isVd_l0 (w : Int) (rest : ByteArray) (fr : List ByteArray) (bad : Bool) (hw : 1 ≤ w ∧ w ≤ 8) (hr : rest.size ≤ 4611686018427387904) (hf : fr.length ≤ 500) (d : Nat) :
    ∀ i : Nat, fr.length - i = d → i ≤ fr.length → Ev (fun k => impl_ValidDecoder.l0 k fr fr.length i w rest fr bad) ((fr.drop i).all okF && (if bad then decide (rest.size = 0) else decide ((frontT rest w).1 = 0))) := by
  induction d with
  | zero =>
    intro i hd hi
    have : i = fr.length := by omega
    subst this
    refine Ev.step (fun k => by simp only [impl_ValidDecoder.l0]; exact rfl) ?_
    rw [List.drop_length]
    refine Ev.neg (by omega) ?_
    cases bad with
    | true => simp only [List.all_nil, Bool.true_and, if_true]; rw [← nilB]; exact Ev.now _
    | false =>
      refine Ev.neg (by decide) (Ev.bind (impl_front_ev rest w hr hw) ?_)
      simp only [List.all_nil, Bool.true_and, Bool.false_eq_true, if_false]
      exact Ev.now _
  | succ d ih =>
    intro i hd hi
    refine Ev.step (fun k => by simp only [impl_ValidDecoder.l0]; exact rfl) ?_
    rw [drop_cons fr i (by omega), List.all_cons]
    refine Ev.pos (by omega) (Ev.pos (by omega) (Ev.pos (by omega) ?_))
    rw [rdOf_nat _ _ _ (by omega)]
    refine Ev.bindC (in_eq _ _ _) ?_
    by_cases h : 1 ≤ (fr[i]'(by omega)).size ∧ (fr[i]'(by omega)).size ≤ 1000
    · rw [decide_eq_true (p := 1 ≤ ((fr[i]'(by omega)).size : Int) ∧ ((fr[i]'(by omega)).size : Int) ≤ 1000) (by omega)]
      rw [show okF (fr[i]'(by omega)) = true from decide_eq_true h, Bool.true_and, w64 (by omega)]
      exact Ev.pos rfl (ih (i + 1) (by omega) (by omega))
    · rw [decide_eq_false (p := 1 ≤ ((fr[i]'(by omega)).size : Int) ∧ ((fr[i]'(by omega)).size : Int) ≤ 1000) (by omega)]
      rw [show okF (fr[i]'(by omega)) = false from decide_eq_false h]
      exact Ev.neg (by decide) (Ev.now _)
theorem impl_Vd_ev (w : Int) (rest : ByteArray) (fr : List ByteArray) (bad : Bool) (hr : rest.size ≤ 4611686018427387904) : Ev (fun k => impl_ValidDecoder.f k w rest fr bad) (vdT w rest fr bad) := by
  unfold impl_ValidDecoder.f vdT
  refine Ev.bindC (in_eq _ _ _) ?_
  by_cases hw : 1 ≤ w ∧ w ≤ 8
  · rw [decide_eq_true hw]
    refine Ev.pos rfl ?_
    refine Ev.step (fun k => by simp only [impl_ValidDecoder.j0]; exact rfl) ?_
    by_cases hf : fr.length ≤ 500
    · rw [decide_eq_true hf]
      refine Ev.neg (by rw [decide_eq_true_eq]; omega) ?_
      have := isVd_l0 w rest fr bad hw hr hf fr.length 0 (by omega) (by omega)
      exact this
    · rw [decide_eq_false hf]
      exact Ev.pos (by rw [decide_eq_true_eq]; omega) (Ev.now _)
  · rw [decide_eq_false hw]
    refine Ev.neg (by decide) ?_
    refine Ev.step (fun k => by simp only [impl_ValidDecoder.j0]; exact rfl) ?_
    exact Ev.pos trivial (Ev.now _)
theorem sVd_l0 (w : Int) (rest : ByteArray) (fr : List ByteArray) (bad : Bool) (hw : 1 ≤ w ∧ w ≤ 8) (hr : rest.size ≤ 4611686018427387904) (hf : fr.length ≤ 500) (d : Nat) :
    ∀ i : Nat, fr.length - i = d → i ≤ fr.length → Ev (fun k => spec_ValidDecoder.l0 k i w rest fr bad) ((fr.drop i).all okF && (if bad then decide (rest.size = 0) else decide ((frontT rest w).1 = 0))) := by
  induction d with
  | zero =>
    intro i hd hi
    have : i = fr.length := by omega
    subst this
    refine Ev.step (fun k => by simp only [spec_ValidDecoder.l0]; exact rfl) ?_
    rw [List.drop_length]
    refine Ev.neg (by omega) ?_
    cases bad with
    | true => simp only [List.all_nil, Bool.true_and, if_true]; rw [← nilB]; exact Ev.now _
    | false =>
      refine Ev.neg (by decide) (Ev.bind (spec_front_ev rest w hr hw) ?_)
      simp only [List.all_nil, Bool.true_and, Bool.false_eq_true, if_false]
      exact Ev.now _
  | succ d ih =>
    intro i hd hi
    refine Ev.step (fun k => by simp only [spec_ValidDecoder.l0]; exact rfl) ?_
    rw [drop_cons fr i (by omega), List.all_cons]
    refine Ev.pos (by omega) (Ev.pos (by omega) ?_)
    rw [rdOf_nat _ _ _ (by omega)]
    refine Ev.bindC (l1In_eq _ _ _) ?_
    by_cases h : 1 ≤ (fr[i]'(by omega)).size ∧ (fr[i]'(by omega)).size ≤ 1000
    · rw [decide_eq_true (p := 1 ≤ ((fr[i]'(by omega)).size : Int) ∧ ((fr[i]'(by omega)).size : Int) ≤ 1000) (by omega)]
      rw [show okF (fr[i]'(by omega)) = true from decide_eq_true h, Bool.true_and, w64 (by omega)]
      exact Ev.pos rfl (ih (i + 1) (by omega) (by omega))
    · rw [decide_eq_false (p := 1 ≤ ((fr[i]'(by omega)).size : Int) ∧ ((fr[i]'(by omega)).size : Int) ≤ 1000) (by omega)]
      rw [show okF (fr[i]'(by omega)) = false from decide_eq_false h]
      exact Ev.neg (by decide) (Ev.now _)
theorem spec_Vd_ev (w : Int) (rest : ByteArray) (fr : List ByteArray) (bad : Bool) (hr : rest.size ≤ 4611686018427387904) : Ev (fun k => spec_ValidDecoder.f k w rest fr bad) (vdT w rest fr bad) := by
  unfold spec_ValidDecoder.f vdT
  refine Ev.bindC (l1In_eq _ _ _) ?_
  by_cases hw : 1 ≤ w ∧ w ≤ 8
  · rw [decide_eq_true hw]
    refine Ev.pos rfl ?_
    refine Ev.step (fun k => by simp only [spec_ValidDecoder.j0]; exact rfl) ?_
    by_cases hf : fr.length ≤ 500
    · rw [decide_eq_true hf]
      refine Ev.neg (by rw [decide_eq_true_eq]; omega) ?_
      have := sVd_l0 w rest fr bad hw hr hf fr.length 0 (by omega) (by omega)
      exact this
    · rw [decide_eq_false hf]
      exact Ev.pos (by rw [decide_eq_true_eq]; omega) (Ev.now _)
  · rw [decide_eq_false hw]
    refine Ev.neg (by decide) ?_
    refine Ev.step (fun k => by simp only [spec_ValidDecoder.j0]; exact rfl) ?_
    exact Ev.pos trivial (Ev.now _)
def feedL : Nat → ByteArray → Int → List ByteArray → ByteArray × List ByteArray × Bool
  | 0, s, _, fr => (s, fr, false)
  | n + 1, s, w, fr => if (frontT s w).1 = 0 then (s, fr, false) else if (frontT s w).1 = 2 ∨ 500 ≤ fr.length then (⟨#[]⟩, fr, true) else feedL n (s.extract (frontT s w).2.2.toNat s.size) w (fr ++ [(frontT s w).2.1])
theorem frontN_one (s : ByteArray) (w n : Int) (h : Nat) (hw : 1 ≤ w ∧ w ≤ 8) (hh : 1 ≤ h) (e : (frontN s w n h).1 ≠ 0) (e2 : (frontN s w n h).1 ≠ 2) :
    1 ≤ n ∧ n ≤ 1000 ∧ (h : Int) + n + w ≤ s.size ∧ frontN s w n h = (1, s.extract h (h + n.toNat), h + n + w) := by
  unfold frontN at e e2 ⊢
  split at e
  · rename_i h1
    split at e
    · simp at e
    · rename_i h2
      rw [if_pos h1] at e2 ⊢
      rw [if_neg h2] at e2 ⊢
      split at e
      · rename_i h3; rw [if_pos h3]; exact ⟨h1.1, h1.2, by omega, rfl⟩
      · rename_i h3; rw [if_neg h3] at e2; simp at e2
  · rename_i h1; rw [if_neg h1] at e2; simp at e2
theorem frontT_one (s : ByteArray) (w : Int) (hw : 1 ≤ w ∧ w ≤ 8) (e : (frontT s w).1 ≠ 0) (e2 : (frontT s w).1 ≠ 2) :
    (frontT s w).1 = 1 ∧ 3 ≤ (frontT s w).2.2 ∧ (frontT s w).2.2 ≤ s.size ∧ 1 ≤ (frontT s w).2.1.size ∧ (frontT s w).2.1.size ≤ 1000 := by
  unfold frontT at e e2 ⊢
  by_cases h0 : s.size = 0
  · rw [if_pos h0] at e; simp at e
  rw [if_neg h0] at e e2 ⊢
  by_cases h1 : bt s 0 < 128
  · rw [if_pos h1] at e e2 ⊢
    obtain ⟨a, b, c, d⟩ := frontN_one s w _ 1 hw (by omega) e e2
    rw [d]
    exact ⟨rfl, by simp; omega, by simpa using c, by simp; omega, by simp; omega⟩
  rw [if_neg h1] at e e2 ⊢
  by_cases h2 : s.size = 1
  · rw [if_pos h2] at e; simp at e
  rw [if_neg h2] at e e2 ⊢
  by_cases h3 : bt s 1 = 0 ∨ bt s 1 ≥ 128
  · rw [if_pos h3] at e2; simp at e2
  rw [if_neg h3] at e e2 ⊢
  obtain ⟨a, b, c, d⟩ := frontN_one s w _ 2 hw (by omega) e e2
  rw [d]
  exact ⟨rfl, by simp; omega, by simpa using c, by simp; omega, by simp; omega⟩
theorem feedL_more (w : Int) (hw : 1 ≤ w ∧ w ≤ 8) (n : Nat) : ∀ (s : ByteArray) (fr : List ByteArray) (m : Nat), s.size < n → s.size < m → feedL n s w fr = feedL m s w fr := by
  induction n with
  | zero => intro s fr m h; omega
  | succ n ih =>
    intro s fr m h hm
    obtain ⟨m, rfl⟩ : ∃ j, m = j + 1 := ⟨m - 1, by omega⟩
    simp only [feedL]
    by_cases h0 : (frontT s w).1 = 0
    · rw [if_pos h0, if_pos h0]
    rw [if_neg h0, if_neg h0]
    by_cases h1 : (frontT s w).1 = 2 ∨ 500 ≤ fr.length
    · rw [if_pos h1, if_pos h1]
    rw [if_neg h1, if_neg h1]
    have := frontT_one s w hw h0 (fun e => h1 (.inl e))
    exact ih _ _ _ (by rw [size_ext]; omega) (by rw [size_ext]; omega)
def feedF (s : ByteArray) (w : Int) (fr : List ByteArray) : ByteArray × List ByteArray × Bool := feedL (s.size + 1) s w fr
theorem feedF_eq (s : ByteArray) (w : Int) (fr : List ByteArray) (hw : 1 ≤ w ∧ w ≤ 8) :
    feedF s w fr = if (frontT s w).1 = 0 then (s, fr, false) else if (frontT s w).1 = 2 ∨ 500 ≤ fr.length then (⟨#[]⟩, fr, true) else feedF (s.extract (frontT s w).2.2.toNat s.size) w (fr ++ [(frontT s w).2.1]) := by
  show feedL (s.size + 1) s w fr = _
  rw [feedL]
  by_cases h0 : (frontT s w).1 = 0
  · rw [if_pos h0, if_pos h0]
  rw [if_neg h0, if_neg h0]
  by_cases h1 : (frontT s w).1 = 2 ∨ 500 ≤ fr.length
  · rw [if_pos h1, if_pos h1]
  rw [if_neg h1, if_neg h1]
  have := frontT_one s w hw h0 (fun e => h1 (.inl e))
  exact feedL_more w hw _ _ _ _ (by rw [size_ext]; omega) (by omega)
theorem impl_Feed_l0 (w : Int) (hw : 1 ≤ w ∧ w ≤ 8) (rest : ByteArray) (n : Nat) : ∀ (s : ByteArray) (fr : List ByteArray), s.size < n → s.size ≤ 4611686018427387904 → fr.length ≤ 500 →
    ∃ r, Ev (fun k => impl_Feed.l0 k s w rest fr false) (w, r) ∧ r = feedL n s w fr := by
  induction n with
  | zero => intro s fr h; omega
  | succ n ih =>
    intro s fr h hs hf
    simp only [feedL]
    by_cases h0 : (frontT s w).1 = 0
    · rw [if_pos h0]
      refine ⟨_, Ev.step (fun k => by simp only [impl_Feed.l0]; exact rfl) (Ev.bind (impl_front_ev s w hs hw) (Ev.pos h0 (Ev.now _))), rfl⟩
    rw [if_neg h0]
    by_cases h2 : (frontT s w).1 = 2
    · rw [if_pos (.inl h2)]
      refine ⟨_, Ev.step (fun k => by simp only [impl_Feed.l0]; exact rfl) (Ev.bind (impl_front_ev s w hs hw) (Ev.neg h0 (Ev.pos h2 (Ev.now _)))), rfl⟩
    by_cases h3 : fr.length = 500
    · rw [if_pos (.inr (by omega))]
      refine ⟨(⟨#[]⟩, fr, true), ?_, rfl⟩
      refine Ev.step (fun k => by simp only [impl_Feed.l0]; exact rfl) ?_
      refine Ev.bind (impl_front_ev s w hs hw) ?_
      refine Ev.neg h0 ?_
      refine Ev.neg h2 ?_
      exact Ev.pos (by omega) (Ev.now _)
    rw [if_neg (by omega)]
    have := frontT_one s w hw h0 h2
    obtain ⟨r, hr, er⟩ := ih (s.extract (frontT s w).2.2.toNat s.size) (fr ++ [(frontT s w).2.1]) (by rw [size_ext]; omega) (by rw [size_ext]; omega) (by simp; omega)
    refine ⟨r, ?_, er⟩
    refine Ev.step (fun k => by simp only [impl_Feed.l0]; exact rfl) ?_
    refine Ev.bind (impl_front_ev s w hs hw) ?_
    refine Ev.neg h0 ?_
    refine Ev.neg h2 ?_
    refine Ev.neg (by omega) ?_
    refine Ev.pos (by omega) ?_
    refine Ev.pos (by omega) ?_
    exact Ev.pos (by omega) hr
theorem spec_Feed_l0 (w : Int) (hw : 1 ≤ w ∧ w ≤ 8) (r0 : ByteArray) (f0 : List ByteArray) (b0 : Bool) (n : Nat) : ∀ (s : ByteArray) (fr : List ByteArray), s.size < n → s.size ≤ 4611686018427387904 → fr.length ≤ 500 →
    ∃ r, Ev (fun k => spec_Feed.l0 k s w r0 f0 b0 w ⟨#[]⟩ fr false) (w, r) ∧ r = feedL n s w fr := by
  induction n with
  | zero => intro s fr h; omega
  | succ n ih =>
    intro s fr h hs hf
    simp only [feedL]
    by_cases h0 : (frontT s w).1 = 0
    · rw [if_pos h0]
      refine ⟨_, Ev.step (fun k => by simp only [spec_Feed.l0]; exact rfl) (Ev.bind (spec_front_ev s w hs hw) (Ev.pos h0 (Ev.now _))), rfl⟩
    rw [if_neg h0]
    by_cases h2 : (frontT s w).1 = 2
    · rw [if_pos (.inl h2)]
      refine ⟨_, Ev.step (fun k => by simp only [spec_Feed.l0]; exact rfl) (Ev.bind (spec_front_ev s w hs hw) (Ev.neg h0 (Ev.pos h2 (Ev.now _)))), rfl⟩
    by_cases h3 : fr.length = 500
    · rw [if_pos (.inr (by omega))]
      refine ⟨(⟨#[]⟩, fr, true), ?_, rfl⟩
      refine Ev.step (fun k => by simp only [spec_Feed.l0]; exact rfl) ?_
      refine Ev.bind (spec_front_ev s w hs hw) ?_
      refine Ev.neg h0 ?_
      refine Ev.neg h2 ?_
      exact Ev.pos (by omega) (Ev.now _)
    rw [if_neg (by omega)]
    have := frontT_one s w hw h0 h2
    obtain ⟨r, hr, er⟩ := ih (s.extract (frontT s w).2.2.toNat s.size) (fr ++ [(frontT s w).2.1]) (by rw [size_ext]; omega) (by rw [size_ext]; omega) (by simp; omega)
    refine ⟨r, ?_, er⟩
    refine Ev.step (fun k => by simp only [spec_Feed.l0]; exact rfl) ?_
    refine Ev.bind (spec_front_ev s w hs hw) ?_
    refine Ev.neg h0 ?_
    refine Ev.neg h2 ?_
    refine Ev.neg (by omega) ?_
    refine Ev.pos (by omega) ?_
    refine Ev.pos (by omega) ?_
    exact Ev.pos (by omega) hr
def feedT (w : Int) (rest : ByteArray) (fr : List ByteArray) (bad : Bool) (s : ByteArray) : Int × ByteArray × List ByteArray × Bool :=
  if vdT w rest fr bad = true then (if bad = true then (w, ⟨#[]⟩, fr, true) else (w, feedF (rest ++ s) w fr)) else (0, ⟨#[]⟩, [], false)
theorem vd_parts {w : Int} {rest : ByteArray} {fr : List ByteArray} {bad : Bool} (h : vdT w rest fr bad = true) : (1 ≤ w ∧ w ≤ 8) ∧ fr.length ≤ 500 ∧ (∀ f ∈ fr, okF f = true) ∧ (bad = true → rest = ⟨#[]⟩) ∧ (bad = false → (frontT rest w).1 = 0) := by
  unfold vdT at h
  rw [Bool.and_eq_true, Bool.and_eq_true, Bool.and_eq_true] at h
  obtain ⟨h1, h2, h3, h4⟩ := h
  refine ⟨of_decide_eq_true h1, of_decide_eq_true h2, List.all_eq_true.1 h3, ?_, ?_⟩
  · rintro rfl
    simp only [if_true] at h4
    have := of_decide_eq_true h4
    apply text_ext
    exact List.length_eq_zero_iff.1 ((size_list rest).trans this)
  · rintro rfl
    simp only [Bool.false_eq_true, if_false] at h4
    exact of_decide_eq_true h4
theorem vd_mk {w : Int} {rest : ByteArray} {fr : List ByteArray} {bad : Bool} (h1 : 1 ≤ w ∧ w ≤ 8) (h2 : fr.length ≤ 500) (h3 : ∀ f ∈ fr, okF f = true) (h4 : bad = true → rest = ⟨#[]⟩) (h5 : bad = false → (frontT rest w).1 = 0) : vdT w rest fr bad = true := by
  unfold vdT
  rw [Bool.and_eq_true, Bool.and_eq_true, Bool.and_eq_true]
  refine ⟨decide_eq_true h1, decide_eq_true h2, List.all_eq_true.2 h3, ?_⟩
  cases bad with
  | true => rw [h4 rfl]; rfl
  | false => simp only [Bool.false_eq_true, if_false]; exact decide_eq_true (h5 rfl)
theorem impl_Feed_ev (w : Int) (rest : ByteArray) (fr : List ByteArray) (bad : Bool) (s : ByteArray) (hr : rest.size ≤ 1152921504606846976) (hs : s.size ≤ 1152921504606846976) : Ev (fun k => impl_Feed.f k w rest fr bad s) (feedT w rest fr bad s) := by
  unfold impl_Feed.f feedT
  refine Ev.bind (impl_Vd_ev w rest fr bad (by omega)) ?_
  by_cases hv : vdT w rest fr bad = true
  · rw [if_pos hv]
    refine Ev.pos hv ?_
    obtain ⟨hw, hf, _, hb, _⟩ := vd_parts hv
    refine Ev.bindC (a := fr) (by unfold slices_Clone_string_string.f; rw [if_pos (by omega)]) ?_
    by_cases h : bad = true
    · rw [if_pos h, ← hb h]
      have e : (w, rest, fr, bad) = (w, rest, fr, true) := by rw [h]
      rw [← e]; exact Ev.pos h (Ev.now _)
    · rw [if_neg h]
      refine Ev.neg h (Ev.pos (by omega) ?_)
      have : bad = false := by simpa using h
      subst this
      obtain ⟨r, hr, er⟩ := impl_Feed_l0 w hw rest ((rest ++ s).size + 1) (rest ++ s) fr (by omega) (by rw [size_app]; omega) hf
      rw [show feedF (rest ++ s) w fr = r from er.symm]; exact hr
  · rw [if_neg hv]; exact Ev.neg hv (Ev.now _)
theorem spec_Feed_ev (w : Int) (rest : ByteArray) (fr : List ByteArray) (bad : Bool) (s : ByteArray) (hr : rest.size ≤ 1152921504606846976) (hs : s.size ≤ 1152921504606846976) : Ev (fun k => spec_Feed.f k w rest fr bad s) (feedT w rest fr bad s) := by
  unfold spec_Feed.f feedT
  refine Ev.bind (spec_Vd_ev w rest fr bad (by omega)) ?_
  by_cases hv : vdT w rest fr bad = true
  · rw [if_pos hv]
    refine Ev.pos hv ?_
    obtain ⟨hw, hf, _, hb, _⟩ := vd_parts hv
    refine Ev.bindC rfl (Ev.pos (by simp; omega) (Ev.bindC rfl ?_))
    rw [List.nil_append]
    by_cases h : bad = true
    · rw [if_pos h]
      have e : (w, (⟨#[]⟩ : ByteArray), fr, bad) = (w, ⟨#[]⟩, fr, true) := by rw [h]
      rw [← e]; exact Ev.pos h (Ev.now _)
    · rw [if_neg h]
      refine Ev.neg h (Ev.pos (by omega) ?_)
      have : bad = false := by simpa using h
      subst this
      obtain ⟨r, hr, er⟩ := spec_Feed_l0 w hw rest fr false ((rest ++ s).size + 1) (rest ++ s) fr (by omega) (by rw [size_app]; omega) hf
      rw [show feedF (rest ++ s) w fr = r from er.symm]; exact hr
  · rw [if_neg hv]; exact Ev.neg hv (Ev.now _)
theorem bt_app (s t : ByteArray) (i : Nat) (h : i < s.size) : bt (s ++ t) i = bt s i := by
  unfold bt
  rw [dif_pos (by rw [size_app]; simp; omega), dif_pos (by simpa using h)]
  simp only [Int.toNat_natCast]
  rw [ByteArray.getElem_append_left h]
theorem ext_app (s t : ByteArray) (i j : Nat) (h : j ≤ s.size) : (s ++ t).extract i j = s.extract i j := by
  apply text_ext
  rw [toList_ext, toList_ext, toList_app, List.take_append_of_le_length (by rw [size_list]; exact h)]
theorem frontN_app (s t : ByteArray) (w n : Int) (h : Nat) (hw : 1 ≤ w ∧ w ≤ 8) (e : (frontN s w n h).1 ≠ 0) : frontN (s ++ t) w n h = frontN s w n h := by
  unfold frontN at e ⊢
  by_cases h1 : 1 ≤ n ∧ n ≤ 1000
  · rw [if_pos h1] at e ⊢
    rw [if_pos h1]
    by_cases h2 : (s.size : Int) < h + n + w
    · rw [if_pos h2] at e; simp at e
    · rw [if_neg h2, if_neg (by rw [size_app]; omega), ext_app _ _ _ _ (by omega), ext_app _ _ _ _ (by omega)]
  · rw [if_neg h1, if_neg h1]
theorem frontT_app (s t : ByteArray) (w : Int) (hw : 1 ≤ w ∧ w ≤ 8) (e : (frontT s w).1 ≠ 0) : frontT (s ++ t) w = frontT s w := by
  unfold frontT at e ⊢
  by_cases h0 : s.size = 0
  · rw [if_pos h0] at e; simp at e
  rw [if_neg h0] at e ⊢
  rw [if_neg (by rw [size_app]; omega)]
  have e0 : bt (s ++ t) 0 = bt s 0 := bt_app s t 0 (by omega)
  rw [e0]
  by_cases h1 : bt s 0 < 128
  · rw [if_pos h1] at e ⊢
    rw [if_pos h1]
    exact frontN_app s t w _ 1 hw e
  rw [if_neg h1] at e ⊢
  rw [if_neg h1]
  by_cases h2 : s.size = 1
  · rw [if_pos h2] at e; simp at e
  rw [if_neg h2] at e ⊢
  rw [if_neg (by rw [size_app]; omega)]
  have e1 : bt (s ++ t) 1 = bt s 1 := bt_app s t 1 (by omega)
  rw [e1]
  by_cases h3 : bt s 1 = 0 ∨ bt s 1 ≥ 128
  · rw [if_pos h3, if_pos h3]
  rw [if_neg h3] at e ⊢
  rw [if_neg h3]
  exact frontN_app s t w _ 2 hw e
theorem feedF_app (w : Int) (hw : 1 ≤ w ∧ w ≤ 8) (n : Nat) : ∀ (s t : ByteArray) (fr : List ByteArray), s.size < n →
    feedF (s ++ t) w fr = if (feedF s w fr).2.2 = true then (⟨#[]⟩, (feedF s w fr).2.1, true) else feedF ((feedF s w fr).1 ++ t) w (feedF s w fr).2.1 := by
  induction n with
  | zero => intro s t fr h; omega
  | succ n ih =>
    intro s t fr h
    rw [feedF_eq s w fr hw]
    by_cases h0 : (frontT s w).1 = 0
    · rw [if_pos h0]; rfl
    have ea := frontT_app s t w hw h0
    rw [if_neg h0, feedF_eq (s ++ t) w fr hw, ea, if_neg h0]
    by_cases h1 : (frontT s w).1 = 2 ∨ 500 ≤ fr.length
    · rw [if_pos h1, if_pos h1]; rfl
    rw [if_neg h1, if_neg h1]
    have hz := frontT_one s w hw h0 (fun e => h1 (.inl e))
    have ee : (s ++ t).extract (frontT s w).2.2.toNat (s ++ t).size = s.extract (frontT s w).2.2.toNat s.size ++ t := by
      apply text_ext
      rw [toList_ext, toList_app, toList_app, toList_ext, size_app, List.take_of_length_le (by rw [List.length_append, size_list, size_list]; exact Nat.le_refl _), List.take_of_length_le (by rw [size_list]; exact Nat.le_refl _), List.drop_append_of_le_length (by rw [size_list]; omega)]
    rw [ee]
    exact ih _ t _ (by rw [size_ext]; omega)
theorem feedF_valid (w : Int) (hw : 1 ≤ w ∧ w ≤ 8) (n : Nat) : ∀ (s : ByteArray) (fr : List ByteArray), s.size < n → fr.length ≤ 500 → (∀ f ∈ fr, okF f = true) →
    vdT w (feedF s w fr).1 (feedF s w fr).2.1 (feedF s w fr).2.2 = true ∧ (feedF s w fr).1.size ≤ s.size := by
  induction n with
  | zero => intro s fr h; omega
  | succ n ih =>
    intro s fr h hf ha
    rw [feedF_eq s w fr hw]
    by_cases h0 : (frontT s w).1 = 0
    · rw [if_pos h0]; exact ⟨vd_mk hw hf ha (fun e => by simp at e) (fun _ => h0), Nat.le_refl _⟩
    rw [if_neg h0]
    by_cases h1 : (frontT s w).1 = 2 ∨ 500 ≤ fr.length
    · rw [if_pos h1]; exact ⟨vd_mk hw hf ha (fun _ => rfl) (fun e => by simp at e), Nat.zero_le _⟩
    rw [if_neg h1]
    have hz := frontT_one s w hw h0 (fun e => h1 (.inl e))
    have := ih (s.extract (frontT s w).2.2.toNat s.size) (fr ++ [(frontT s w).2.1]) (by rw [size_ext]; omega) (by simp; omega) (fun f hf' => by
      rcases List.mem_append.1 hf' with h | h
      · exact ha f h
      · rw [List.mem_singleton.1 h]; exact decide_eq_true ⟨hz.2.2.2.1, hz.2.2.2.2⟩)
    exact ⟨this.1, by have := this.2; rw [size_ext] at this; omega⟩
theorem feedT_valid (w : Int) (rest : ByteArray) (fr : List ByteArray) (bad : Bool) (s : ByteArray) (hv : vdT w rest fr bad = true) :
    (feedT w rest fr bad s).1 = w ∧ vdT w (feedT w rest fr bad s).2.1 (feedT w rest fr bad s).2.2.1 (feedT w rest fr bad s).2.2.2 = true ∧ (feedT w rest fr bad s).2.1.size ≤ rest.size + s.size := by
  obtain ⟨hw, hf, ha, hb, hc⟩ := vd_parts hv
  unfold feedT
  rw [if_pos hv]
  by_cases h : bad = true
  · rw [if_pos h]; exact ⟨rfl, vd_mk hw hf ha (fun _ => rfl) (fun e => by simp at e), Nat.zero_le _⟩
  · rw [if_neg h]
    have := feedF_valid w hw _ (rest ++ s) fr (Nat.lt_succ_self _) hf ha
    exact ⟨rfl, this.1, by have := this.2; rw [size_app] at this; exact this⟩
theorem feedT_val {w : Int} {rest : ByteArray} {fr : List ByteArray} {bad : Bool} (hv : vdT w rest fr bad = true) (s : ByteArray) : feedT w rest fr bad s = if bad = true then (w, ⟨#[]⟩, fr, true) else (w, feedF (rest ++ s) w fr) := by
  unfold feedT
  rw [if_pos hv]
theorem feedT_app (w : Int) (rest : ByteArray) (fr : List ByteArray) (bad : Bool) (s t : ByteArray) (hv : vdT w rest fr bad = true) :
    feedT w rest fr bad (s ++ t) = feedT w (feedT w rest fr bad s).2.1 (feedT w rest fr bad s).2.2.1 (feedT w rest fr bad s).2.2.2 t := by
  have hv2 := (feedT_valid w rest fr bad s hv).2.1
  obtain ⟨hw, hf, ha, hb, hc⟩ := vd_parts hv
  rw [feedT_val hv (s ++ t), feedT_val hv2 t]
  rw [feedT_val hv s]
  cases bad with
  | true => rfl
  | false =>
    simp only [Bool.false_eq_true, if_false]
    rw [← ByteArray.append_assoc, feedF_app w hw _ (rest ++ s) t fr (Nat.lt_succ_self _)]
    by_cases h2 : (feedF (rest ++ s) w fr).2.2 = true
    · rw [if_pos h2, if_pos h2]
    · rw [if_neg h2, if_neg h2]
theorem feedT_nil (w : Int) (rest : ByteArray) (fr : List ByteArray) (bad : Bool) (hv : vdT w rest fr bad = true) : feedT w rest fr bad ⟨#[]⟩ = (w, rest, fr, bad) := by
  obtain ⟨hw, hf, ha, hb, hc⟩ := vd_parts hv
  unfold feedT
  rw [if_pos hv]
  by_cases h : bad = true
  · rw [if_pos h, hb h, h]
  · have h' : bad = false := by simpa using h
    rw [if_neg h, show rest ++ (⟨#[]⟩ : ByteArray) = rest from ByteArray.append_empty, feedF_eq _ _ _ hw, if_pos (hc h'), h']
end Go.Proofs.Ytgjipjffpodjlaa.E
set_option linter.unusedVariables false
namespace Go.Proofs.Ytgjipjffpodjlaa.E
open Go.RowKit Go.Proofs.YtgjipjffpodjlaaW.PrintWords Go.Proofs.YtgjipjffpodjlaaW.PrintLast Go.Proofs.YtgjipjffpodjlaaW.PrintMore Go.Proofs.Ytgjipjffpodjlaa.U Go.Proofs.Ytgjipjffpodjlaa.K
theorem bytesOf_app (a b : ByteArray) : bytesOf (a ++ b) = bytesOf a ++ bytesOf b := by simp [bytesOf]
theorem strOf_bytes (a : ByteArray) : strOfNums (bytesOf a) = a := by
  apply text_ext
  rw [strOfNums_list, bytesOf, List.map_map]
  conv => rhs; rw [← List.map_id a.data.toList]
  apply List.map_congr_left
  intro x _
  simp
theorem sEnc_l0 (l : List ByteArray) (w : Int) (hw : 1 ≤ w ∧ w ≤ 8) (hl : l.length ≤ 500) (d : Nat) : ∀ i : Nat, l.length - i = d → i ≤ l.length → (l.take i).all okF = true →
    Ev (fun k => spec_Encode.l0 k l w (bytesOf (catF (l.take i) w)) i) (encT l w) := by
  induction d with
  | zero =>
    intro i hd hi ha
    have : i = l.length := by omega
    subst this
    refine Ev.step (fun k => by simp only [spec_Encode.l0]; exact rfl) ?_
    refine Ev.neg (by omega) ?_
    rw [List.take_length] at ha ⊢
    rw [strOf_bytes]
    unfold encT
    rw [if_pos ⟨hw, hl, ha⟩]
    exact Ev.now _
  | succ d ih =>
    intro i hd hi ha
    have hlt : i < l.length := by omega
    refine Ev.step (fun k => by simp only [spec_Encode.l0]; exact rfl) ?_
    refine Ev.pos (by omega) (Ev.pos (by omega) ?_)
    rw [rdOf_nat _ _ _ hlt]
    refine Ev.bindC (l1In_eq _ _ _) ?_
    by_cases h : okF l[i] = true
    · have h' := of_decide_eq_true h
      rw [decide_eq_true (p := 1 ≤ ((l[i]).size : Int) ∧ ((l[i]).size : Int) ≤ 1000) (by omega)]
      have hc := catF_size (l.take i) w ha
      have hc2 := List.length_take_le i l
      have hsh := shortT_size l[i].size
      have hsm := sumT_size_le l[i] w
      refine Ev.pos rfl (Ev.bind (spec_l2Text_ev _ (by omega)) (Ev.pos (by rw [bytesOf_length, size_app]; omega) (Ev.bindC rfl (Ev.bind (spec_Sum_ev _ _ (by omega)) (Ev.pos (by rw [List.length_append, bytesOf_length, bytesOf_length, size_app]; omega) ?_)))))
      rw [w64 (by omega)]
      have := ih (i + 1) (by omega) (by omega) (by rw [take_snoc _ _ hlt, List.all_append, ha]; simp [h])
      rw [take_snoc _ _ hlt, catF_snoc] at this
      unfold frameT at this
      rw [bytesOf_app, bytesOf_app, ← List.append_assoc] at this
      exact this
    · have h' : okF l[i] = false := by simpa using h
      rw [decide_eq_false (p := 1 ≤ ((l[i]).size : Int) ∧ ((l[i]).size : Int) ≤ 1000) (fun hh => h (decide_eq_true (by omega)))]
      refine Ev.neg (by decide) ?_
      unfold encT
      rw [if_neg (fun hh => by have := all_false_of hlt h'; rw [this] at hh; simp at hh)]
      exact Ev.now _
theorem spec_Encode_ev (l : List ByteArray) (w : Int) : Ev (fun k => spec_Encode.f k l w) (encT l w) := by
  unfold spec_Encode.f
  refine Ev.bindC (l1In_eq _ _ _) ?_
  by_cases hw : 1 ≤ w ∧ w ≤ 8
  · rw [decide_eq_true hw]
    refine Ev.pos rfl ?_
    refine Ev.step (fun k => by simp only [spec_Encode.j0]; exact rfl) ?_
    by_cases hl : l.length ≤ 500
    · exact Ev.neg (by rw [decide_eq_true_eq]; omega) (sEnc_l0 l w hw hl l.length 0 (by omega) (by omega) (by simp))
    · refine Ev.pos (by rw [decide_eq_true_eq]; omega) ?_
      unfold encT; rw [if_neg (fun h => hl h.2.1)]; exact Ev.now _
  · rw [decide_eq_false hw]
    refine Ev.neg (by decide) ?_
    refine Ev.step (fun k => by simp only [spec_Encode.j0]; exact rfl) ?_
    refine Ev.pos trivial ?_
    unfold encT; rw [if_neg (fun h => hw h.1)]; exact Ev.now _
theorem encT_size (l : List ByteArray) (w : Int) : (encT l w).size ≤ 509500 := by
  unfold encT
  split
  · rename_i h
    have := catF_size l w h.2.2
    omega
  · exact Nat.zero_le _
theorem wTexts_l0 (a : List ByteArray) (ha : a.length ≤ 4611686018427387904) (d : Nat) : ∀ i : Nat, a.length - i = d → i ≤ a.length → Ev (fun k => laws_wTexts.l0 k a a i) true := by
  induction d with
  | zero =>
    intro i hd hi
    refine Ev.step (fun k => by simp only [laws_wTexts.l0]; exact rfl) ?_
    exact Ev.neg (by omega) (Ev.now _)
  | succ d ih =>
    intro i hd hi
    refine Ev.step (fun k => by simp only [laws_wTexts.l0]; exact rfl) ?_
    refine Ev.pos (by omega) (Ev.pos (by omega) (Ev.pos (by omega) (Ev.pos trivial ?_)))
    rw [w64 (by omega)]
    exact ih (i + 1) (by omega) (by omega)
theorem wTexts_same (a : List ByteArray) (ha : a.length ≤ 4611686018427387904) : Ev (fun k => laws_wTexts.f k a a) true := by
  unfold laws_wTexts.f
  exact Ev.pos rfl (wTexts_l0 a ha a.length 0 (by omega) (by omega))
theorem wDecoder_same (w : Int) (r : ByteArray) (f : List ByteArray) (b : Bool) (hf : f.length ≤ 4611686018427387904) : Ev (fun k => laws_wDecoder.f k w r f b w r f b) true := by
  unfold laws_wDecoder.f
  exact Ev.pos rfl (Ev.pos rfl (Ev.pos (by simp) (Ev.bind (wTexts_same f hf) (Ev.now _))))
theorem strOfNums_get (l : List Int) (i : Nat) (h : i < l.length) (hr : 0 ≤ l[i] ∧ l[i] ≤ 255) : bt (strOfNums l) i = l[i] := by
  have hs : i < (strOfNums l).size := by rw [strOfNums_size]; exact h
  unfold bt
  rw [dif_pos (by simpa using hs)]
  have e : (strOfNums l)[i]'hs = UInt8.ofNat (l[i]).toNat := by
    rw [ByteArray.getElem_eq_getElem_data]
    simp [strOfNums]
  simp only [Int.toNat_natCast]
  rw [e]
  simp
  omega
theorem ext_mid (a b c : ByteArray) : (a ++ b ++ c).extract a.size (a.size + b.size) = b := by
  apply text_ext
  rw [toList_ext, toList_app, toList_app, List.append_assoc, ← size_list a, ← size_list b, List.take_append, List.take_of_length_le (by omega), Nat.add_sub_cancel_left, List.take_left, List.drop_left]
theorem ext_end (a b : ByteArray) : (a ++ b).extract a.size (a.size + b.size) = b := by
  apply text_ext
  rw [toList_ext, toList_app, ← size_list a, ← size_list b, List.take_of_length_le (by rw [List.length_append]; exact Nat.le_refl _), List.drop_left]
theorem frameN_front (h : ByteArray) (p t : ByteArray) (w : Int) (hw : 1 ≤ w ∧ w ≤ 8) (hp : okF p = true) :
    frontN (h ++ p ++ sumT p w ++ t) w p.size h.size = (1, p, ((h ++ p ++ sumT p w).size : Int)) := by
  have hp' := of_decide_eq_true hp
  have hz := sumT_size p w hw
  unfold frontN
  rw [if_pos (by omega), if_neg (by rw [size_app, size_app, size_app]; omega)]
  rw [Int.toNat_natCast, show w.toNat = (sumT p w).size by omega]
  rw [ext_app (h ++ p ++ sumT p w) t h.size (h.size + p.size) (by rw [size_app, size_app]; omega), ext_app (h ++ p ++ sumT p w) t _ _ (by rw [size_app, size_app]; omega), ext_mid]
  rw [← size_app h p, ext_end, if_pos rfl, size_app, size_app]
  congr 2
  omega
theorem front_frame (p t : ByteArray) (w : Int) (hw : 1 ≤ w ∧ w ≤ 8) (hp : okF p = true) : frontT (frameT p w ++ t) w = (1, p, ((frameT p w).size : Int)) := by
  have hp' := of_decide_eq_true hp
  have hsz := shortT_size p.size
  have e0 : ∀ i : Nat, i < (shortT p.size).size → bt (frameT p w ++ t) i = bt (shortT p.size) i := by
    intro i hi
    unfold frameT
    rw [bt_app _ t i (by rw [size_app, size_app]; omega), bt_app _ (sumT p w) i (by rw [size_app]; omega), bt_app _ p i hi]
  have hN := frameN_front (shortT p.size) p t w hw hp
  unfold frontT
  rw [if_neg (by unfold frameT; rw [size_app, size_app, size_app]; omega)]
  by_cases h : p.size ≤ 127
  · have es : shortT p.size = strOfNums [(p.size : Int) % 256] := by unfold shortT; rw [shortN, if_neg (by omega)]
    have l1 : (shortT p.size).size = 1 := by rw [es, strOfNums_size]; rfl
    have b0 : bt (frameT p w ++ t) 0 = p.size := by
      have := e0 0 (by omega)
      rw [show ((0 : Nat) : Int) = 0 from rfl] at this
      rw [this, es]
      have := strOfNums_get [(p.size : Int) % 256] 0 (by simp) (by simp; omega)
      rw [show ((0 : Nat) : Int) = 0 from rfl] at this
      rw [this]; simp; omega
    rw [b0, if_pos (by omega)]
    rw [l1] at hN
    exact hN
  · have es : shortT p.size = strOfNums [(p.size : Int) % 128 + 128, (p.size : Int) / 128 % 256] := by
      unfold shortT; rw [shortN, if_pos (by omega), shortN, if_neg (by omega)]
    have l1 : (shortT p.size).size = 2 := by rw [es, strOfNums_size]; rfl
    have b0 : bt (frameT p w ++ t) 0 = (p.size : Int) % 128 + 128 := by
      have := e0 0 (by omega)
      rw [show ((0 : Nat) : Int) = 0 from rfl] at this
      rw [this, es]
      have := strOfNums_get [(p.size : Int) % 128 + 128, (p.size : Int) / 128 % 256] 0 (by simp) (by simp; omega)
      rw [show ((0 : Nat) : Int) = 0 from rfl] at this
      rw [this]; simp
    have b1 : bt (frameT p w ++ t) 1 = (p.size : Int) / 128 := by
      have := e0 1 (by omega)
      rw [show ((1 : Nat) : Int) = 1 from rfl] at this
      rw [this, es]
      have := strOfNums_get [(p.size : Int) % 128 + 128, (p.size : Int) / 128 % 256] 1 (by simp) (by simp; omega)
      rw [show ((1 : Nat) : Int) = 1 from rfl] at this
      rw [this]; simp; omega
    rw [b0, b1, if_neg (by omega), if_neg (by unfold frameT; rw [size_app, size_app, size_app]; omega), if_neg (by omega)]
    rw [show ((p.size : Int) % 128 + 128) % 128 + 128 * ((p.size : Int) / 128) = p.size by omega]
    rw [l1] at hN
    exact hN
theorem front_nil (w : Int) : (frontT ⟨#[]⟩ w).1 = 0 := by
  have e : (⟨#[]⟩ : ByteArray).size = 0 := rfl
  unfold frontT
  rw [if_pos e]
theorem feed_catF (w : Int) (hw : 1 ≤ w ∧ w ≤ 8) (l : List ByteArray) : ∀ (fr : List ByteArray) (acc : ByteArray), l.all okF = true → fr.length + l.length ≤ 500 → feedF (l.foldl (fun a p => a ++ frameT p w) ⟨#[]⟩) w fr = (⟨#[]⟩, fr ++ l, false) := by
  induction l with
  | nil =>
    intro fr acc ha hl
    rw [List.foldl_nil, List.append_nil, feedF_eq _ _ _ hw, if_pos (front_nil w)]
  | cons p l ih =>
    intro fr acc ha hl
    rw [List.all_cons, Bool.and_eq_true] at ha
    have hfold : ∀ (l : List ByteArray) (a b : ByteArray), l.foldl (fun a p => a ++ frameT p w) (a ++ b) = a ++ l.foldl (fun a p => a ++ frameT p w) b := by
      intro l
      induction l with
      | nil => intro a b; rfl
      | cons q l ih => intro a b; rw [List.foldl_cons, List.foldl_cons, ByteArray.append_assoc, ih]
    have e : (p :: l).foldl (fun a p => a ++ frameT p w) ⟨#[]⟩ = frameT p w ++ l.foldl (fun a p => a ++ frameT p w) ⟨#[]⟩ := by
      rw [List.foldl_cons, show (⟨#[]⟩ : ByteArray) ++ frameT p w = frameT p w ++ ⟨#[]⟩ from (ByteArray.empty_append).trans (ByteArray.append_empty).symm, hfold]
    rw [e, feedF_eq _ _ _ hw, front_frame p _ w hw ha.1]
    simp only [List.length_cons] at hl
    rw [if_neg (by simp), if_neg (by simp; omega)]
    simp only [Int.toNat_natCast]
    have e2 : (frameT p w ++ l.foldl (fun a p => a ++ frameT p w) ⟨#[]⟩).extract (frameT p w).size (frameT p w ++ l.foldl (fun a p => a ++ frameT p w) ⟨#[]⟩).size = l.foldl (fun a p => a ++ frameT p w) ⟨#[]⟩ := by
      rw [size_app]; exact ext_end _ _
    rw [e2, ih (fr ++ [p]) ⟨#[]⟩ ha.2 (by simp; omega)]
    simp
theorem vd_new (w : Int) (hw : 1 ≤ w ∧ w ≤ 8) : vdT w ⟨#[]⟩ [] false = true :=
  vd_mk hw (by simp) (by simp) (fun e => by simp at e) (fun _ => front_nil w)
theorem feed_enc (l : List ByteArray) (w : Int) (h : (encT l w).size ≠ 0) : feedT w ⟨#[]⟩ [] false (encT l w) = (w, ⟨#[]⟩, l, false) := by
  unfold encT at h ⊢
  by_cases hc : (1 ≤ w ∧ w ≤ 8) ∧ l.length ≤ 500 ∧ l.all okF = true
  · rw [if_pos hc] at h ⊢
    rw [feedT_val (vd_new w hc.1)]
    simp only [Bool.false_eq_true, if_false]
    rw [show (⟨#[]⟩ : ByteArray) ++ catF l w = catF l w from ByteArray.empty_append]
    unfold catF
    rw [feed_catF w hc.1 l [] ⟨#[]⟩ hc.2.2 (by simpa using hc.2.1)]
    rfl
  · rw [if_neg hc] at h; exact absurd rfl h
end Go.Proofs.Ytgjipjffpodjlaa.E
set_option linter.unusedVariables false
namespace Go.Proofs.Ytgjipjffpodjlaa.D
open Go.RowKit Go.Proofs.YtgjipjffpodjlaaW.PrintWords Go.Proofs.YtgjipjffpodjlaaW.PrintLast Go.Proofs.YtgjipjffpodjlaaW.PrintMore Go.Proofs.Ytgjipjffpodjlaa.U Go.Proofs.Ytgjipjffpodjlaa.K Go.Proofs.Ytgjipjffpodjlaa.E
theorem pay_l0 {s : List Int} (hs : Bs s) (d : Nat) : ∀ (x3 : List ByteArray) (x4 p : Int), x4.toNat = d → d ≤ 5 → x3.length + d ≤ 5 → 0 ≤ p ∧ p + 20 * d ≤ 900000000000000 →
    Tot (fun k => spec_l3Payloads.l0 k x3 x4 s p) (fun r => r.1.length ≤ 5 ∧ p ≤ r.2 ∧ r.2 ≤ p + 20 * d) := by
  induction d with
  | zero =>
    intro x3 x4 p h1 h2 h3 h4
    refine Tot.step (fun k => by simp only [spec_l3Payloads.l0]; exact rfl) ?_
    exact Tot.neg (by omega) (Tot.now ⟨by simpa using h3, Int.le_refl _, by omega⟩)
  | succ d ih =>
    intro x3 x4 p h1 h2 h3 h4
    refine Tot.step (fun k => by simp only [spec_l3Payloads.l0]; exact rfl) ?_
    refine Tot.pos (by omega) (Tot.bind (pick_tot hs (by omega) (by omega)) (fun r hr => ?_))
    refine Tot.ite (fun _ => ?_) (fun _ => ?_)
    · refine Tot.bindSome (Tot.bind (pick_tot hs (by omega) (by omega)) (fun q hq => ?_))
      have hm := rd_lit (l := [127, 128, 1000]) hq.1 (by simp; omega)
      simp only [List.mem_cons, List.not_mem_nil, or_false] at hm
      have e1 : (⟨#[112]⟩ : ByteArray).size = 1 := rfl
      refine Tot.pos (by omega) (Tot.pos (by simp; omega) (Tot.bind (Many_tot _ _ (by omega) (by omega)) (fun m hm => ?_)))
      refine Tot.pos (by omega) ?_
      rw [w64 (by omega)]
      refine (ih (x3 ++ [m]) (x4 - 1) q.2 (by omega) (by omega) (by simp; omega) (by omega)).mono (fun r' h => ⟨h.1, by omega, by omega⟩)
    · refine Tot.bind (Text_tot hs (by omega)) (fun q hq => ?_)
      refine Tot.pos (by omega) (Tot.pos (by omega) ?_)
      rw [w64 (by omega)]
      refine (ih _ (x4 - 1) q.2 (by omega) (by omega) (by simp; omega) (by omega)).mono (fun r' h => ⟨h.1, by omega, by omega⟩)
theorem Pay_tot {s : List Int} {p : Int} (hs : Bs s) (hp : 0 ≤ p ∧ p ≤ 800000000000000) : Tot (fun k => spec_l3Payloads.f k s p) (fun r => r.1.length ≤ 5 ∧ p ≤ r.2 ∧ r.2 ≤ p + 101) := by
  unfold spec_l3Payloads.f
  refine Tot.bind (pick_tot hs (by omega) (by omega)) (fun r hr => ?_)
  refine (pay_l0 hs r.1.toNat [] r.1 r.2 rfl (by omega) (by simp; omega) (by omega)).mono (fun r' h => ⟨h.1, by omega, by omega⟩)
theorem feedT_bound (w : Int) (rest : ByteArray) (fr : List ByteArray) (bad : Bool) (s : ByteArray) :
    (feedT w rest fr bad s).2.1.size ≤ rest.size + s.size ∧ (feedT w rest fr bad s).2.2.1.length ≤ 500 := by
  by_cases h : vdT w rest fr bad = true
  · have := feedT_valid w rest fr bad s h
    exact ⟨this.2.2, (vd_parts this.2.1).2.1⟩
  · unfold feedT; rw [if_neg h]; exact ⟨Nat.zero_le _, Nat.zero_le _⟩
theorem grow_l0 {s : List Int} (d : Nat) (n : Int) (w : Int) (r : ByteArray) (b : Bool) (p : Int) (hn : n ≤ 1000) : ∀ (f : List ByteArray), (n - f.length).toNat = d → f.length ≤ 1000 →
    Tot (fun k => spec_l3Draw.l0 k n s p w r f b) (fun x => x.1 = w ∧ x.2.1 = r ∧ x.2.2.1.length ≤ 1000 ∧ x.2.2.2.2 = p) := by
  induction d with
  | zero =>
    intro f hd hf
    refine Tot.step (fun k => by simp only [spec_l3Draw.l0]; exact rfl) ?_
    exact Tot.neg (by omega) (Tot.now ⟨rfl, rfl, hf, rfl⟩)
  | succ d ih =>
    intro f hd hf
    refine Tot.step (fun k => by simp only [spec_l3Draw.l0]; exact rfl) ?_
    exact Tot.pos (by omega) (Tot.pos (by omega) (ih _ (by simp; omega) (by simp; omega)))
theorem grow2_l0 {s : List Int} (d : Nat) (n : Int) (w : Int) (r : ByteArray) (b : Bool) (p : Int) (hn : n ≤ 1000000) : ∀ (f : List ByteArray), (n - f.length).toNat = d → f.length ≤ 1000000 →
    Tot (fun k => spec_l3Spoil.l0 k n s p w r f b) (fun x => x.2.1 = r ∧ x.2.2.1.length ≤ 1000000 ∧ x.2.2.2.2 = p) := by
  induction d with
  | zero =>
    intro f hd hf
    refine Tot.step (fun k => by simp only [spec_l3Spoil.l0]; exact rfl) ?_
    exact Tot.neg (by omega) (Tot.now ⟨rfl, hf, rfl⟩)
  | succ d ih =>
    intro f hd hf
    refine Tot.step (fun k => by simp only [spec_l3Spoil.l0]; exact rfl) ?_
    exact Tot.pos (by omega) (Tot.pos (by omega) (ih _ (by simp; omega) (by simp; omega)))
theorem draw_j0 {s : List Int} (hs : Bs s) (t : ByteArray) (ht : t.size ≤ 10000000) (p w : Int) (hp : 0 ≤ p ∧ p ≤ 800000000000000) :
    Tot (fun k => spec_l3Draw.j0 k t s p w ⟨#[]⟩ false) (fun x => x.2.1.size ≤ 10000000 ∧ x.2.2.1.length ≤ 1000 ∧ p ≤ x.2.2.2.2 ∧ x.2.2.2.2 ≤ p + 2) := by
  refine Tot.step (fun k => by simp only [spec_l3Draw.j0]; exact rfl) ?_
  have e0 : (⟨#[]⟩ : ByteArray).size = 0 := rfl
  refine Tot.bindEv (spec_Feed_ev w ⟨#[]⟩ [] false t (by omega) (by omega)) ?_
  have hb := feedT_bound w ⟨#[]⟩ [] false t
  refine Tot.bind (pick_tot hs (by omega) (by omega)) (fun r hr => ?_)
  refine Tot.ite (fun _ => ?_) (fun _ => Tot.now ⟨by show (feedT w ⟨#[]⟩ [] false t).2.1.size ≤ _; omega, by show (feedT w ⟨#[]⟩ [] false t).2.2.1.length ≤ _; omega, by show p ≤ r.2; omega, by show r.2 ≤ _; omega⟩)
  refine Tot.bind (pick_tot hs (by omega) (by omega)) (fun q hq => ?_)
  rw [w64 (by omega)]
  exact (grow_l0 _ _ _ _ _ _ (by omega) _ rfl (by omega)).mono (fun x h => ⟨by rw [h.2.1]; omega, h.2.2.1, by rw [h.2.2.2]; omega, by rw [h.2.2.2]; omega⟩)
theorem Draw_tot {s : List Int} {p : Int} (hs : Bs s) (hp : 0 ≤ p ∧ p ≤ 700000000000000) :
    Tot (fun k => spec_l3Draw.f k s p) (fun x => x.2.1.size ≤ 10000000 ∧ x.2.2.1.length ≤ 1000 ∧ p ≤ x.2.2.2.2 ∧ x.2.2.2.2 ≤ p + 200) := by
  unfold spec_l3Draw.f
  refine Tot.bind (Width_tot hs (by omega)) (fun w hw => ?_)
  refine Tot.bind (Pay_tot hs (by omega)) (fun l hl => ?_)
  refine Tot.bindEv (spec_Encode_ev _ _) ?_
  have he := encT_size l.1 w.1
  refine Tot.bind (pick_tot hs (by omega) (by omega)) (fun r hr => ?_)
  refine Tot.ite (fun _ => ?_) (fun _ => ?_)
  · refine Tot.bind (Bend_tot hs (by omega) _ (by omega)) (fun b hb => ?_)
    exact (draw_j0 hs _ (by omega) _ _ (by omega)).mono (fun x h => ⟨h.1, h.2.1, by omega, by omega⟩)
  · exact (draw_j0 hs _ (by omega) _ _ (by omega)).mono (fun x h => ⟨h.1, h.2.1, by omega, by omega⟩)
theorem Spoil_tot {s : List Int} {p : Int} (hs : Bs s) (hp : 0 ≤ p ∧ p ≤ 700000000000000) (w : Int) (rest : ByteArray) (f : List ByteArray) (b : Bool) (hrs : rest.size ≤ 10000000) (hf : f.length ≤ 999999) :
    Tot (fun k => spec_l3Spoil.f k s p w rest f b) (fun x => x.2.1.size ≤ 10000000 ∧ x.2.2.1.length ≤ 1000000 ∧ p ≤ x.2.2.2.2 ∧ x.2.2.2.2 ≤ p + 3) := by
  unfold spec_l3Spoil.f
  refine Tot.bind (pick_tot hs (by omega) (by omega)) (fun r hr => ?_)
  refine Tot.ite (fun _ => ?_) (fun _ => ?_)
  · exact Tot.bind (pick_tot hs (by omega) (by omega)) (fun q hq => Tot.now ⟨hrs, by show f.length ≤ _; omega, by show p ≤ q.2; omega, by show q.2 ≤ _; omega⟩)
  refine Tot.ite (fun _ => ?_) (fun _ => ?_)
  · refine Tot.bindEv (spec_Encode_ev _ _) (Tot.bindSome ?_)
    have he := encT_size [(⟨#[119]⟩ : ByteArray)] 4
    generalize encT [(⟨#[119]⟩ : ByteArray)] 4 = t at *
    refine Tot.bind (pick_tot hs (by omega) (by omega)) (fun q hq => ?_)
    have hz : ∀ l : List ByteArray, (∀ x ∈ l, x.size ≤ 10000000) → q.1 < l.length → (rdOf ByteArray.empty l q.1).size ≤ 10000000 := fun l hl h => hl _ (rdOf_lit hq.1 h)
    refine Tot.pos (by omega) (Tot.pos (by simp; omega) (Tot.now ⟨hz _ ?_ (by simp; omega), by show f.length ≤ _; omega, by show p ≤ q.2; omega, by show q.2 ≤ _; omega⟩))
    intro x hx
    simp only [List.mem_cons, List.not_mem_nil, or_false] at hx
    rcases hx with rfl | rfl | rfl | rfl | rfl | rfl | rfl | rfl | rfl | rfl | rfl
    all_goals first | omega | (show (_ : Nat) ≤ _; exact of_decide_eq_true rfl)
  refine Tot.ite (fun _ => ?_) (fun _ => ?_)
  · refine Tot.bind (pick_tot hs (by omega) (by omega)) (fun q hq => ?_)
    have e1 : (⟨#[102]⟩ : ByteArray).size = 1 := rfl
    rw [w64 (by omega)]
    refine Tot.bind (Many_tot _ _ (by omega) (by omega)) (fun m hm => Tot.bindSome (Tot.bind (pick_tot hs (by omega) (by omega)) (fun t ht => ?_)))
    refine Tot.pos (by omega) (Tot.pos (by simp; omega) (Tot.pos (by omega) (Tot.now ⟨hrs, by show (f ++ [_]).length ≤ _; simp; omega, by show p ≤ t.2; omega, by show t.2 ≤ _; omega⟩)))
  refine Tot.ite (fun _ => ?_) (fun _ => ?_)
  · exact Tot.now ⟨hrs, by show f.length ≤ _; omega, by show p ≤ r.2; omega, by show r.2 ≤ _; omega⟩
  · refine Tot.bind (pick_tot hs (by omega) (by omega)) (fun q hq => ?_)
    rw [w64 (by omega)]
    exact (grow2_l0 _ _ _ _ _ _ (by omega) _ rfl (by omega)).mono (fun x h => ⟨by rw [h.1]; omega, h.2.1, by rw [h.2.2]; omega, by rw [h.2.2]; omega⟩)
theorem drawFeed_j1 {s : List Int} (hs : Bs s) (x6 : ByteArray) (h6 : x6.size ≤ 20000000) (p w : Int) (hp : 0 ≤ p ∧ p ≤ 600000000000000) (rest : ByteArray) (f : List ByteArray) (b : Bool) (hr : rest.size ≤ 10000000) (hf : f.length ≤ 999999) :
    Tot (fun k => spec_DrawFeed.j1 k x6 s p w rest f b) (fun x => x.2.1.size ≤ 10000000 ∧ x.2.2.1.length ≤ 1000000 ∧ x.2.2.2.2.size ≤ 20000000) := by
  refine Tot.step (fun k => by simp only [spec_DrawFeed.j1]; exact rfl) ?_
  refine Tot.bind (pick_tot hs (by omega) (by omega)) (fun r hr2 => ?_)
  refine Tot.ite (fun _ => ?_) (fun _ => Tot.now ⟨hr, by show f.length ≤ _; omega, h6⟩)
  exact Tot.bind (Spoil_tot hs (by omega) w rest f b hr hf) (fun x h => Tot.now ⟨h.1, h.2.1, h6⟩)
theorem drawFeed_j0 {s : List Int} (hs : Bs s) (x6 : ByteArray) (h6 : x6.size ≤ 10000000) (p w : Int) (hp : 0 ≤ p ∧ p ≤ 500000000000000) (rest : ByteArray) (f : List ByteArray) (b : Bool) (hr : rest.size ≤ 10000000) (hf : f.length ≤ 999999) :
    Tot (fun k => spec_DrawFeed.j0 k x6 s p w rest f b) (fun x => x.2.1.size ≤ 10000000 ∧ x.2.2.1.length ≤ 1000000 ∧ x.2.2.2.2.size ≤ 20000000) := by
  refine Tot.step (fun k => by simp only [spec_DrawFeed.j0]; exact rfl) ?_
  refine Tot.bind (pick_tot hs (by omega) (by omega)) (fun r hr2 => ?_)
  refine Tot.ite (fun _ => ?_) (fun _ => drawFeed_j1 hs x6 (by omega) _ _ (by omega) rest f b hr hf)
  have e1 : (⟨#[97]⟩ : ByteArray).size = 1 := rfl
  have e3 : (⟨#[129, 0, 97]⟩ : ByteArray).size = 3 := rfl
  refine Tot.bindEv (spec_Sum_ev _ _ (by omega)) ?_
  have hz := sumT_size_le (⟨#[97]⟩ : ByteArray) w
  refine Tot.pos (by omega) (Tot.pos (by rw [size_app]; omega) ?_)
  exact drawFeed_j1 hs _ (by rw [size_app, size_app]; omega) _ _ (by omega) rest f b hr hf
theorem DrawFeed_tot {l : List Int} (h : ∀ x ∈ l, 0 ≤ x ∧ x ≤ 255) :
    Tot (fun k => spec_DrawFeed.f k l) (fun x => x.2.1.size ≤ 10000000 ∧ x.2.2.1.length ≤ 1000000 ∧ x.2.2.2.2.size ≤ 20000000) := by
  obtain ⟨s, es, hs⟩ := open_tot h
  unfold spec_DrawFeed.f
  refine Tot.bindC es ?_
  refine Tot.bind (Draw_tot hs (by show (0 : Int) ≤ 0 ∧ (0 : Int) ≤ _; omega)) (fun d hd => ?_)
  have hd3 : 0 ≤ d.2.2.2.2 ∧ d.2.2.2.2 ≤ 200 := ⟨hd.2.2.1, by have := hd.2.2.2; simpa using this⟩
  refine Tot.bind (Pay_tot hs (by omega)) (fun l hl => ?_)
  refine Tot.bindEv (spec_Encode_ev _ _) ?_
  have he := encT_size l.1 d.1
  refine Tot.bind (pick_tot hs (by omega) (by omega)) (fun r hr => ?_)
  have hdl : d.2.2.1.length ≤ 999999 := by have := hd.2.1; omega
  refine Tot.ite (fun _ => ?_) (fun _ => ?_)
  · refine Tot.bind (Bend_tot hs (by omega) _ (by omega)) (fun b hb => ?_)
    exact drawFeed_j0 hs _ (by omega) _ _ (by omega) _ _ _ hd.1 hdl
  refine Tot.ite (fun _ => ?_) (fun _ => ?_)
  · refine Tot.bindEv (spec_Encode_ev _ _) ?_
    have he2 := encT_size [(⟨#[97, 32, 102, 114, 97, 109, 101, 32, 105, 110, 32, 116, 119, 111, 32, 112, 105, 101, 99, 101, 115]⟩ : ByteArray)] d.1
    generalize encT [(⟨#[97, 32, 102, 114, 97, 109, 101, 32, 105, 110, 32, 116, 119, 111, 32, 112, 105, 101, 99, 101, 115]⟩ : ByteArray)] d.1 = t at *
    rw [w64 (by omega)]
    refine Tot.bind (pick_tot hs (by omega) (by omega)) (fun q hq => ?_)
    have e0 : (⟨#[]⟩ : ByteArray).size = 0 := rfl
    refine Tot.pos (by omega) (Tot.pos (by omega) (Tot.bindEv (spec_Feed_ev _ _ _ _ _ (by omega) (by rw [size_ext]; omega)) ?_))
    have hb := feedT_bound d.1 ⟨#[]⟩ [] false (t.extract 0 q.1.toNat)
    rw [size_ext] at hb
    refine Tot.pos (by rw [size_ext]; omega) ?_
    exact drawFeed_j0 hs _ (by rw [size_app, size_ext]; omega) _ _ (by omega) _ _ _ (by omega) (by omega)
  · exact drawFeed_j0 hs _ (by omega) _ _ (by omega) _ _ _ hd.1 hdl
theorem dEnc_l0 {s : List Int} (hs : Bs s) (d : Nat) (n : Int) (p : Int) (hp : 0 ≤ p ∧ p ≤ 600000000000000) (hn : n ≤ 1000000) : ∀ (f : List ByteArray), (n - f.length).toNat = d → f.length ≤ 1000000 →
    Tot (fun k => spec_DrawEncode.l0 k f n s p) (fun x => x.1.length ≤ 1000000) := by
  induction d with
  | zero =>
    intro f hd hf
    refine Tot.step (fun k => by simp only [spec_DrawEncode.l0]; exact rfl) ?_
    exact Tot.neg (by omega) (Tot.bind (Width_tot hs (by omega)) (fun w hw => Tot.now hf))
  | succ d ih =>
    intro f hd hf
    refine Tot.step (fun k => by simp only [spec_DrawEncode.l0]; exact rfl) ?_
    exact Tot.pos (by omega) (Tot.pos (by omega) (ih _ (by simp; omega) (by simp; omega)))
theorem DrawEncode_tot {l : List Int} (h : ∀ x ∈ l, 0 ≤ x ∧ x ≤ 255) : Tot (fun k => spec_DrawEncode.f k l) (fun x => x.1.length ≤ 1000000) := by
  obtain ⟨s, es, hs⟩ := open_tot h
  unfold spec_DrawEncode.f
  refine Tot.bindC es ?_
  refine Tot.bind (Pay_tot hs (by show (0 : Int) ≤ 0 ∧ (0 : Int) ≤ _; omega)) (fun l hl => ?_)
  have hl2 : 0 ≤ l.2 ∧ l.2 ≤ 101 := ⟨hl.2.1, by have := hl.2.2; simpa using this⟩
  refine Tot.bind (pick_tot hs (by omega) (by omega)) (fun r hr => ?_)
  refine Tot.ite (fun _ => ?_) (fun _ => ?_)
  · have e1 : (⟨#[112]⟩ : ByteArray).size = 1 := rfl
    refine Tot.bind (Many_tot _ _ (by omega) (by omega)) (fun m hm => Tot.bindSome (Tot.bind (pick_tot hs (by omega) (by omega)) (fun q hq => ?_)))
    exact Tot.pos (by omega) (Tot.pos (by simp; omega) (Tot.pos (by omega) (Tot.bind (Width_tot hs (by omega)) (fun w hw => Tot.now (by show (l.1 ++ [_]).length ≤ _; simp; omega)))))
  refine Tot.ite (fun _ => ?_) (fun _ => ?_)
  · refine Tot.bind (pick_tot hs (by omega) (by omega)) (fun q hq => ?_)
    rw [w64 (by omega)]
    exact dEnc_l0 hs _ _ _ (by omega) (by omega) _ rfl (by omega)
  refine Tot.ite (fun _ => ?_) (fun _ => ?_)
  · refine Tot.bindSome (Tot.bind (pick_tot hs (by omega) (by omega)) (fun q hq => ?_))
    exact Tot.pos (by omega) (Tot.pos (by simp; omega) (Tot.now (by show l.1.length ≤ _; omega)))
  · exact Tot.bind (Width_tot hs (by omega)) (fun w hw => Tot.now (by show l.1.length ≤ _; omega))
end Go.Proofs.Ytgjipjffpodjlaa.D
set_option linter.unusedVariables false
namespace Go.Proofs.Ytgjipjffpodjlaa.Pure
open Go.RowKit Go.Proofs.YtgjipjffpodjlaaW.PrintWords Go.Proofs.YtgjipjffpodjlaaW.PrintLast Go.Proofs.YtgjipjffpodjlaaW.PrintMore Go.Proofs.Ytgjipjffpodjlaa.U Go.Proofs.Ytgjipjffpodjlaa.K Go.Proofs.Ytgjipjffpodjlaa.E Go.Proofs.Ytgjipjffpodjlaa.D
theorem byte_of {x : Int} (h : (Lit.int .u8 x).wf = true) : 0 ≤ x ∧ x ≤ 255 := by
  simp [Lit.wf, IntKind.min, IntKind.max, IntKind.bits, IntKind.signed] at h
  omega
def Y (s : ByteArray) (w : Int) (rest : ByteArray) (fr : List ByteArray) (bad : Bool) (a : Nat) : Int × ByteArray × List ByteArray × Bool := feedT w rest fr bad (s.extract 0 a)
theorem tail_true (x0 x1 : List Int) (h0 : ∀ x ∈ x0, 0 ≤ x ∧ x ≤ 255) (s : ByteArray) (i : Int) (w : Int) (r : ByteArray) (f : List ByteArray) (b : Bool) (hf : f.length ≤ 1000000) (hs : s.size ≤ 20000000) (a : Int) (ha : ¬ a < (s.size : Int)) :
    Ev (fun k => laws_FnFrames.l0 k x0 x1 s a i w r f b w r f b) true := by
  refine Ev.step (fun k => by simp only [laws_FnFrames.l0]; exact rfl) ?_
  refine Ev.neg ha (Ev.bind (wDecoder_same w r f b (by omega)) (Ev.pos rfl ?_))
  obtain ⟨p, hp, hl⟩ := DrawEncode_tot h0
  refine Ev.bind hp (Ev.bindC (a := encT p.1 p.2) rfl (Ev.bind (spec_Encode_ev _ _) (Ev.pos rfl ?_)))
  have he := encT_size p.1 p.2
  have e0 : (⟨#[]⟩ : ByteArray).size = 0 := rfl
  refine Ev.bind (impl_Feed_ev p.2 ⟨#[]⟩ [] false (encT p.1 p.2) (by omega) (by omega)) ?_
  by_cases hz : (encT p.1 p.2).size = 0
  · exact Ev.pos ((nil_iff _).2 hz) (Ev.now _)
  · rw [feed_enc p.1 p.2 hz]
    refine Ev.neg (fun e => hz ((nil_iff _).1 e)) (Ev.neg (by simp) (Ev.pos ((nil_iff _).2 rfl) ?_))
    exact Ev.bind (wTexts_same p.1 (by omega)) (Ev.now _)
theorem loop_true (x0 x1 : List Int) (h0 : ∀ x ∈ x0, 0 ≤ x ∧ x ≤ 255) (h1 : ∀ x ∈ x1, 0 ≤ x ∧ x ≤ 255) (hl1 : x1.length ≤ 1048576) (s : ByteArray) (hs : s.size ≤ 20000000)
    (w : Int) (rest : ByteArray) (fr : List ByteArray) (bad : Bool) (hv : vdT w rest fr bad = true) (hr : rest.size ≤ 10000000) (X : Int × ByteArray × List ByteArray × Bool) (hX : X = feedT w rest fr bad s) (m : Nat) :
    ∀ a i : Nat, (s.size - a) + (x1.length - i) < m → a ≤ s.size → i ≤ x1.length + a → ∀ y, y = Y s w rest fr bad a →
      Ev (fun k => laws_FnFrames.l0 k x0 x1 s a i X.1 X.2.1 X.2.2.1 X.2.2.2 y.1 y.2.1 y.2.2.1 y.2.2.2) true := by
  induction m with
  | zero => intro a i h; omega
  | succ m ih =>
    intro a i hm ha hi y hy
    by_cases hlt : a < s.size
    case neg =>
      have : a = s.size := by omega
      subst this
      have hy2 : y = X := by rw [hy, hX, Y, ByteArray.extract_zero_size]
      rw [hy2]
      have hb := feedT_bound w rest fr bad s
      refine tail_true x0 x1 h0 s i _ _ _ _ ?_ hs _ (by omega)
      rw [hX]; omega
    case pos =>
    have key : ∀ n : Int, 0 ≤ n → n ≤ 8 → (i < x1.length ∨ 1 ≤ n) → Ev (fun k => laws_FnFrames.j2 k x0 x1 s a i n X.1 X.2.1 X.2.2.1 X.2.2.2 y.1 y.2.1 y.2.2.1 y.2.2.2) true := by
      intro n hn0 hn8 hn
      have key2 : ∀ q : Nat, a + q ≤ s.size → (i < x1.length ∨ 1 ≤ q) → Ev (fun k => laws_FnFrames.j3 k x0 x1 s a i q X.1 X.2.1 X.2.2.1 X.2.2.2 y.1 y.2.1 y.2.2.1 y.2.2.2) true := by
        intro q hq hq2
        refine Ev.step (fun k => by simp only [laws_FnFrames.j3]; exact rfl) ?_
        simp only [w64 (n := (a : Int) + q) (by omega), w64 (n := (i : Int) + 1) (by omega)]
        refine Ev.pos (by omega) (Ev.pos (by omega) (Ev.pos (by omega) ?_))
        have ev := feedT_valid w rest fr bad (s.extract 0 a) hv
        have ey : feedT y.1 y.2.1 y.2.2.1 y.2.2.2 (s.extract a (a + q)) = Y s w rest fr bad (a + q) := by
          have := feedT_app w rest fr bad (s.extract 0 a) (s.extract a (a + q)) hv
          rw [← ByteArray.extract_eq_extract_append_extract a (by omega) (by omega)] at this
          rw [Y, this, hy, Y, ev.1]
        have hsz : y.2.1.size ≤ 40000000 := by
          have := ev.2.2
          rw [size_ext] at this
          rw [hy, Y]; omega
        have hF := impl_Feed_ev y.1 y.2.1 y.2.2.1 y.2.2.2 (s.extract a (a + q)) (by omega) (by rw [size_ext]; omega)
        rw [ey] at hF
        rw [Int.toNat_natCast, show ((a : Int) + (q : Int)).toNat = a + q by omega]
        refine Ev.bind hF ?_
        have ev2 := feedT_valid w rest fr bad (s.extract 0 (a + q)) hv
        have hV := impl_Vd_ev (Y s w rest fr bad (a + q)).1 (Y s w rest fr bad (a + q)).2.1 (Y s w rest fr bad (a + q)).2.2.1 (Y s w rest fr bad (a + q)).2.2.2 (by have := ev2.2.2; rw [size_ext] at this; rw [Y]; omega)
        have hvv : vdT (Y s w rest fr bad (a + q)).1 (Y s w rest fr bad (a + q)).2.1 (Y s w rest fr bad (a + q)).2.2.1 (Y s w rest fr bad (a + q)).2.2.2 = true := by
          rw [Y, ev2.1]; exact ev2.2.1
        rw [hvv] at hV
        refine Ev.bind hV (Ev.pos rfl ?_)
        have := ih (a + q) (i + 1) (by omega) (by omega) (by omega) _ rfl
        simpa using this
      refine Ev.step (fun k => by simp only [laws_FnFrames.j2]; exact rfl) ?_
      rw [w64 (by omega)]
      by_cases hgt : n > (s.size : Int) - a
      · refine Ev.pos hgt ?_
        have := key2 (s.size - a) (by omega) (by omega)
        rw [show ((s.size - a : Nat) : Int) = (s.size : Int) - a by omega] at this
        exact this
      · refine Ev.neg hgt ?_
        have := key2 n.toNat (by omega) (by omega)
        rw [show ((n.toNat : Nat) : Int) = n by omega] at this
        exact this
    refine Ev.step (fun k => by simp only [laws_FnFrames.l0]; exact rfl) ?_
    refine Ev.pos (by omega) ?_
    by_cases hi1 : i < x1.length
    · refine Ev.pos (by omega) (Ev.pos (by omega) ?_)
      have hb := h1 _ (rd_lit (l := x1) (i := (i : Int)) (by omega) (by omega))
      rw [w64 (by omega)]
      refine key _ ?_ ?_ (.inl hi1)
      · rw [Int.tmod_eq_emod_of_nonneg hb.1]; omega
      · rw [Int.tmod_eq_emod_of_nonneg hb.1]; omega
    · refine Ev.neg (by omega) ?_
      exact key 1 (by omega) (by omega) (.inr (by omega))
theorem FnFrames : laws_FnFrames.Pure := by
  intro l0 l1 _ _ h0 _ _ h1
  have b0 : ∀ x ∈ l0, 0 ≤ x ∧ x ≤ 255 := fun x hx => byte_of (h0 x hx)
  have b1 : ∀ x ∈ l1, 0 ≤ x ∧ x ≤ 255 := fun x hx => byte_of (h1 x hx)
  refine Ev.rounds (g := fun k => laws_FnFrames.f k l0 l1) ?_
  unfold laws_FnFrames.f
  by_cases hl0 : (l0.length : Int) > 1048576
  · refine Ev.pos hl0 (Ev.step (fun k => by simp only [laws_FnFrames.j0]; exact rfl) ?_)
    exact Ev.pos trivial (Ev.now _)
  refine Ev.neg hl0 (Ev.step (fun k => by simp only [laws_FnFrames.j0]; exact rfl) ?_)
  by_cases hl1 : (l1.length : Int) > 1048576
  · exact Ev.pos (decide_eq_true hl1) (Ev.now _)
  refine Ev.neg (by rw [decide_eq_true_eq]; exact hl1) ?_
  obtain ⟨d, hd, hr, hf, hs⟩ := DrawFeed_tot b0
  refine Ev.bind hd (Ev.bind (impl_Feed_ev _ _ _ _ _ (by omega) (by omega)) (Ev.bind (spec_Feed_ev _ _ _ _ _ (by omega) (by omega)) ?_))
  have hb := feedT_bound d.1 d.2.1 d.2.2.1 d.2.2.2.1 d.2.2.2.2
  refine Ev.bind (wDecoder_same _ _ _ _ (by omega)) (Ev.pos rfl (Ev.bind (spec_Vd_ev _ _ _ _ (by omega)) ?_))
  by_cases hv : vdT d.1 d.2.1 d.2.2.1 d.2.2.2.1 = true
  · refine Ev.pos hv ?_
    refine loop_true l0 l1 b0 b1 (by omega) d.2.2.2.2 hs d.1 d.2.1 d.2.2.1 d.2.2.2.1 hv hr _ rfl (d.2.2.2.2.size + l1.length + 1) 0 0 (by omega) (by omega) (by omega) (d.1, d.2.1, d.2.2.1, d.2.2.2.1) ?_
    rw [Y, ByteArray.extract_same]
    exact (feedT_nil _ _ _ _ hv).symm
  · refine Ev.neg hv ?_
    have hv' : vdT d.1 d.2.1 d.2.2.1 d.2.2.2.1 = false := by simpa using hv
    refine Ev.bind (impl_Vd_ev _ _ _ _ (by omega)) ?_
    rw [hv']
    exact Ev.now _
end Go.Proofs.Ytgjipjffpodjlaa.Pure
