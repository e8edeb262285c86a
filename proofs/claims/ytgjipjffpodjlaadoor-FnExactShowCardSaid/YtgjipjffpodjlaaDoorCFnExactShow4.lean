import Derived.Test.YtgjipjffpodjlaaDoorCFnExactShow1
import Derived.Test.YtgjipjffpodjlaaDoorCFnExactShow3
namespace Go.Proofs.YtgjipjffpodjlaaDoor.K
open Go.RowKit Go.Proofs.YtgjipjffpodjlaaDoorW.PrintWords Go.Proofs.YtgjipjffpodjlaaDoorW.PrintLast Go.Proofs.YtgjipjffpodjlaaDoorW.PrintMore
attribute [local go_sem] max2_int min2_int max_two min_two max_three min_three max_four min_four   
set_option linter.unusedVariables false
set_option linter.unusedSimpArgs false
theorem kept_below_ {A W W2 : World} {S : Nat → Prop} (hb : Below W.heap.size W W2) (h : Kept A W S) : Kept A W2 S :=
 ⟨Nat.le_trans h.1 hb.size, fun k hk hS => (hb.block k (Nat.lt_of_lt_of_le hk h.1)).trans (h.2 k hk hS)⟩
theorem kept_set_ {A W : World} {S : Nat → Prop} {p : Addr} {u : Value} (h : Kept A W S) (hp : S p.block ∨ A.heap.size ≤ p.block) : Kept A (W.setCell p u) S := by
 refine ⟨by rw [World.size_setCell]; exact h.1, fun k hk hS => (Below.heap_setCell W p u k ?_).trans (h.2 k hk hS)⟩
 rintro rfl
 rcases hp with hp | hp
 ·exact hS hp
 ·omega
mutual
def impl_Show.j0 : Nat → ByteArray → ByteArray → Int → Bool → List ByteArray → Bool → ByteArray → Option (Int × Bool × ByteArray × ByteArray × Bool)
 | 0, _, _, _, _, _, _, _ => none
 | k + 1, x0, x1, x3, x50, x250000, x250001, x250002 => if x50 = true then (some (1, false, (⟨#[]⟩ : ByteArray), (⟨#[]⟩ : ByteArray), false)) else (impl_Show.l0 k x0 x1 x3 ([] : List (List (S88))) x250000 (x250000.length : Int) 0 x250000 x250001 x250002)
def impl_Show.l0 : Nat → ByteArray → ByteArray → Int → List (List (S88)) → List ByteArray → Int → Int → List ByteArray → Bool → ByteArray → Option (Int × Bool × ByteArray × ByteArray × Bool)
 | 0, _, _, _, _, _, _, _, _, _, _ => none
 | k + 1, x0, x1, x3, x9, x53, x54, x55, x250000, x250001, x250002 => if x55 < x54 then (if 0 ≤ x55 then (if x55 < (x53.length : Int) then ((impl_rows.f k (rdOf ByteArray.empty x53 x55) x3).bind fun bt255 => (if ((rdOf ByteArray.empty x53 x55).size : Int) > 8000 then (some (1, false, (⟨#[]⟩ : ByteArray), (⟨#[]⟩ : ByteArray), false)) else (if bt255.2 = true then (if x9.length < 5864062014805 then (impl_Show.l0 k x0 x1 x3 (x9 ++ [bt255.1]) x53 x54 (wrap64 (x55 + 1)) x250000 x250001 x250002) else (none)) else (some (1, false, (⟨#[]⟩ : ByteArray), (⟨#[]⟩ : ByteArray), false))))) else (none)) else (none)) else (if 0 < (x250000.length : Int) then ((impl_Sum.f k (rdOf ByteArray.empty x250000 0) x3).bind fun t264 => (if t264.toList = x0.toList then ((strings_Split.f x1 (⟨#[47]⟩ : ByteArray)).bind fun t265 => (impl_Show.l1 k x1 x3 x9 t265 0 x250000 x250001 x250002 2 false (⟨#[]⟩ : ByteArray) (⟨#[]⟩ : ByteArray) false)) else (some (2, false, (⟨#[]⟩ : ByteArray), (⟨#[]⟩ : ByteArray), false)))) else (none))
def impl_Show.l1 : Nat → ByteArray → Int → List (List (S88)) → List ByteArray → Int → List ByteArray → Bool → ByteArray → Int → Bool → ByteArray → ByteArray → Bool → Option (Int × Bool × ByteArray × ByteArray × Bool)
 | 0, _, _, _, _, _, _, _, _, _, _, _, _, _ => none
 | k + 1, x1, x3, x9, x15, x16, x250000, x250001, x250002, x263000, x263001, x263002, x263003, x263004 => if 0 ≤ x16 then (if x16 < (x9.length : Int) then (impl_Show.l2 k x1 x3 x9 x15 x16 (rd_L8 x9 x16) ((rd_L8 x9 x16).length : Int) 0 x250000 x250001 x250002 x263000 x263001 x263002 x263003 x263004 (⟨#[]⟩ : ByteArray) (⟨#[]⟩ : ByteArray) (⟨#[]⟩ : ByteArray)) else (none)) else (none)
def impl_Show.l2 : Nat → ByteArray → Int → List (List (S88)) → List ByteArray → Int → List (S88) → Int → Int → List ByteArray → Bool → ByteArray → Int → Bool → ByteArray → ByteArray → Bool → ByteArray → ByteArray → ByteArray → Option (Int × Bool × ByteArray × ByteArray × Bool)
 | 0, _, _, _, _, _, _, _, _, _, _, _, _, _, _, _, _, _, _, _ => none
 | k + 1, x1, x3, x9, x15, x16, x95, x96, x97, x250000, x250001, x250002, x263000, x263001, x263002, x263003, x263004, x269000, x269001, x269002 => if x97 < x96 then (if 0 ≤ x97 then (if x97 < (x95.length : Int) then (if 0 ≤ x16 then (if x16 < (x15.length : Int) then (if ((rd_T88 x95 x97).f1).toList = (rdOf ByteArray.empty x15 x16).toList then (impl_Show.l2 k x1 x3 x9 x15 x16 x95 x96 (wrap64 (x97 + 1)) x250000 x250001 x250002 x263000 x263001 x263002 x263003 x263004 ((rd_T88 x95 x97).f0) ((rd_T88 x95 x97).f1) ((rd_T88 x95 x97).f2)) else (impl_Show.l2 k x1 x3 x9 x15 x16 x95 x96 (wrap64 (x97 + 1)) x250000 x250001 x250002 x263000 x263001 x263002 x263003 x263004 x269000 x269001 x269002)) else (none)) else (none)) else (none)) else (none)) else (if x16 < (wrap64 ((x15.length : Int) - 1)) then (impl_Show.j4 k x1 x3 x9 x15 x16 (x269000.toList == ([100] : List UInt8)) x250000 x250001 x250002 x263000 x263001 x263002 x263003 x263004 x269000 x269001 x269002) else (impl_Show.j4 k x1 x3 x9 x15 x16 false x250000 x250001 x250002 x263000 x263001 x263002 x263003 x263004 x269000 x269001 x269002))
def impl_Show.j4 : Nat → ByteArray → Int → List (List (S88)) → List ByteArray → Int → Bool → List ByteArray → Bool → ByteArray → Int → Bool → ByteArray → ByteArray → Bool → ByteArray → ByteArray → ByteArray → Option (Int × Bool × ByteArray × ByteArray × Bool)
 | 0, _, _, _, _, _, _, _, _, _, _, _, _, _, _, _, _, _ => none
 | k + 1, x1, x3, x9, x15, x16, x119, x250000, x250001, x250002, x263000, x263001, x263002, x263003, x263004, x269000, x269001, x269002 => if x119 = true then (if (wrap64 (x16 + 1)) ≥ (x9.length : Int) then (some (x263000, x263001, x263002, x263003, x263004)) else (if 0 ≤ (wrap64 (x16 + 1)) then (if (wrap64 (x16 + 1)) < (x250000.length : Int) then ((impl_Sum.f k (rdOf ByteArray.empty x250000 (wrap64 (x16 + 1))) x3).bind fun t274 => (if t274.toList = x269002.toList then (impl_Show.l1 k x1 x3 x9 x15 (wrap64 (x16 + 1)) x250000 x250001 x250002 x263000 x263001 x263002 x263003 x263004) else (some (x263000, x263001, x263002, x263003, x263004)))) else (none)) else (none))) else (if (x9.length : Int) > (wrap64 (x16 + 1)) then (some (x263000, x263001, x263002, x263003, x263004)) else (if x16 = (wrap64 ((x15.length : Int) - 1)) then (if x269000.toList = ([102] : List UInt8) then (impl_Show.j5 k x1 x3 true x250000 x250001 x250002 x263000 x263001 x263002 x263003 x263004 x269000 x269001 x269002) else (impl_Show.j5 k x1 x3 (x269000.toList == ([120] : List UInt8)) x250000 x250001 x250002 x263000 x263001 x263002 x263003 x263004 x269000 x269001 x269002)) else (impl_Show.j5 k x1 x3 false x250000 x250001 x250002 x263000 x263001 x263002 x263003 x263004 x269000 x269001 x269002)))
def impl_Show.j5 : Nat → ByteArray → Int → Bool → List ByteArray → Bool → ByteArray → Int → Bool → ByteArray → ByteArray → Bool → ByteArray → ByteArray → ByteArray → Option (Int × Bool × ByteArray × ByteArray × Bool)
 | 0, _, _, _, _, _, _, _, _, _, _, _, _, _, _ => none
 | k + 1, x1, x3, x159, x250000, x250001, x250002, x263000, x263001, x263002, x263003, x263004, x269000, x269001, x269002 => if x159 = true then (if x250001 = true then (if 5 + x250002.size ≤ 9223372036854775807 then ((impl_Sum.f k ((⟨#[102, 105, 108, 101, 32]⟩ : ByteArray) ++ x250002) x3).bind fun t275 => (impl_Show.j6 k x1 (t275.toList != x269002.toList) x250000 x250001 x250002 x263000 x263001 x263002 x263003 x263004 x269000 x269001 x269002)) else (none)) else (impl_Show.j6 k x1 true x250000 x250001 x250002 x263000 x263001 x263002 x263003 x263004 x269000 x269001 x269002)) else (if x250001 = true then (some (x263000, x263001, x263002, x263003, x263004)) else (some (0, false, (⟨#[]⟩ : ByteArray), (⟨#[]⟩ : ByteArray), false)))
def impl_Show.j6 : Nat → ByteArray → Bool → List ByteArray → Bool → ByteArray → Int → Bool → ByteArray → ByteArray → Bool → ByteArray → ByteArray → ByteArray → Option (Int × Bool × ByteArray × ByteArray × Bool)
 | 0, _, _, _, _, _, _, _, _, _, _, _, _, _ => none
 | k + 1, x1, x172, x250000, x250001, x250002, x263000, x263001, x263002, x263003, x263004, x269000, x269001, x269002 => if x172 = true then (some (x263000, x263001, x263002, x263003, x263004)) else (some (0, true, x1, x250002, (x269000.toList == ([120] : List UInt8))))
end
def impl_Show.f (k : Nat) (a0 : ByteArray) (a1 : ByteArray) (l2_0 : List ByteArray) (a2_1 : Bool) (a2_2 : ByteArray) (a3 : Int) : Option (Int × Bool × ByteArray × ByteArray × Bool) := (impl_ValidPath.f k a1).bind fun t251 => (if t251 = true then ((impl_in.f a3 1 8).bind fun t252 => (if t252 = true then ((impl_in.f (l2_0.length : Int) 1 7).bind fun t253 => (if t253 = true then (if (a2_2.size : Int) > 1500 then (impl_Show.j0 k a0 a1 a3 true l2_0 a2_1 a2_2) else (if a2_1 = true then (impl_Show.j0 k a0 a1 a3 false l2_0 a2_1 a2_2) else (impl_Show.j0 k a0 a1 a3 (a2_2.toList != ([] : List UInt8)) l2_0 a2_1 a2_2))) else (impl_Show.j0 k a0 a1 a3 true l2_0 a2_1 a2_2))) else (impl_Show.j0 k a0 a1 a3 true l2_0 a2_1 a2_2))) else (impl_Show.j0 k a0 a1 a3 true l2_0 a2_1 a2_2))
theorem impl_Show.mono_l : ∀ k, (∀ y0 y1 y2 y3 y4 y5 y6, LeO (impl_Show.j0 k y0 y1 y2 y3 y4 y5 y6) (impl_Show.j0 (k + 1) y0 y1 y2 y3 y4 y5 y6)) ∧ (∀ y0 y1 y2 y3 y4 y5 y6 y7 y8 y9, LeO (impl_Show.l0 k y0 y1 y2 y3 y4 y5 y6 y7 y8 y9) (impl_Show.l0 (k + 1) y0 y1 y2 y3 y4 y5 y6 y7 y8 y9)) ∧ (∀ y0 y1 y2 y3 y4 y5 y6 y7 y8 y9 y10 y11 y12, LeO (impl_Show.l1 k y0 y1 y2 y3 y4 y5 y6 y7 y8 y9 y10 y11 y12) (impl_Show.l1 (k + 1) y0 y1 y2 y3 y4 y5 y6 y7 y8 y9 y10 y11 y12)) ∧ (∀ y0 y1 y2 y3 y4 y5 y6 y7 y8 y9 y10 y11 y12 y13 y14 y15 y16 y17 y18, LeO (impl_Show.l2 k y0 y1 y2 y3 y4 y5 y6 y7 y8 y9 y10 y11 y12 y13 y14 y15 y16 y17 y18) (impl_Show.l2 (k + 1) y0 y1 y2 y3 y4 y5 y6 y7 y8 y9 y10 y11 y12 y13 y14 y15 y16 y17 y18)) ∧ (∀ y0 y1 y2 y3 y4 y5 y6 y7 y8 y9 y10 y11 y12 y13 y14 y15 y16, LeO (impl_Show.j4 k y0 y1 y2 y3 y4 y5 y6 y7 y8 y9 y10 y11 y12 y13 y14 y15 y16) (impl_Show.j4 (k + 1) y0 y1 y2 y3 y4 y5 y6 y7 y8 y9 y10 y11 y12 y13 y14 y15 y16)) ∧ (∀ y0 y1 y2 y3 y4 y5 y6 y7 y8 y9 y10 y11 y12 y13, LeO (impl_Show.j5 k y0 y1 y2 y3 y4 y5 y6 y7 y8 y9 y10 y11 y12 y13) (impl_Show.j5 (k + 1) y0 y1 y2 y3 y4 y5 y6 y7 y8 y9 y10 y11 y12 y13)) ∧ (∀ y0 y1 y2 y3 y4 y5 y6 y7 y8 y9 y10 y11 y12, LeO (impl_Show.j6 k y0 y1 y2 y3 y4 y5 y6 y7 y8 y9 y10 y11 y12) (impl_Show.j6 (k + 1) y0 y1 y2 y3 y4 y5 y6 y7 y8 y9 y10 y11 y12))
 | 0 => ⟨fun _ _ _ _ _ _ _ r h => by simp [impl_Show.j0] at h, fun _ _ _ _ _ _ _ _ _ _ r h => by simp [impl_Show.l0] at h, fun _ _ _ _ _ _ _ _ _ _ _ _ _ r h => by simp [impl_Show.l1] at h, fun _ _ _ _ _ _ _ _ _ _ _ _ _ _ _ _ _ _ _ r h => by simp [impl_Show.l2] at h, fun _ _ _ _ _ _ _ _ _ _ _ _ _ _ _ _ _ r h => by simp [impl_Show.j4] at h, fun _ _ _ _ _ _ _ _ _ _ _ _ _ _ r h => by simp [impl_Show.j5] at h, fun _ _ _ _ _ _ _ _ _ _ _ _ _ r h => by simp [impl_Show.j6] at h⟩
 | k + 1 => by
  obtain ⟨ih0, ih1, ih2, ih3, ih4, ih5, ih6⟩ := impl_Show.mono_l k
  refine ⟨?_, ?_, ?_, ?_, ?_, ?_, ?_⟩
  ·intro y0 y1 y2 y3 y4 y5 y6
   unfold impl_Show.j0
   repeat' first
   | (with_reducible exact ih0 _ _ _ _ _ _ _)
   | (with_reducible exact ih1 _ _ _ _ _ _ _ _ _ _)
   | (with_reducible exact ih2 _ _ _ _ _ _ _ _ _ _ _ _ _)
   | (with_reducible exact ih3 _ _ _ _ _ _ _ _ _ _ _ _ _ _ _ _ _ _ _)
   | (with_reducible exact ih4 _ _ _ _ _ _ _ _ _ _ _ _ _ _ _ _ _)
   | (with_reducible exact ih5 _ _ _ _ _ _ _ _ _ _ _ _ _ _)
   | (with_reducible exact ih6 _ _ _ _ _ _ _ _ _ _ _ _ _)
   | (with_reducible exact impl_Sum.mono _ _ _)
   | (with_reducible exact impl_ValidPath.mono _ _)
   | (with_reducible exact impl_rows.mono _ _ _)
   | (with_reducible exact LeO.refl _)
   | (with_reducible exact LeO.none _)
   | (with_reducible refine LeO.ite ?_ ?_)
   | (with_reducible refine LeO.bind ?_ (fun _ => ?_))
   | exact ih0 _ _ _ _ _ _ _
   | exact ih1 _ _ _ _ _ _ _ _ _ _
   | exact ih2 _ _ _ _ _ _ _ _ _ _ _ _ _
   | exact ih3 _ _ _ _ _ _ _ _ _ _ _ _ _ _ _ _ _ _ _
   | exact ih4 _ _ _ _ _ _ _ _ _ _ _ _ _ _ _ _ _
   | exact ih5 _ _ _ _ _ _ _ _ _ _ _ _ _ _
   | exact ih6 _ _ _ _ _ _ _ _ _ _ _ _ _
   | exact impl_Sum.mono _ _ _
   | exact impl_ValidPath.mono _ _
   | exact impl_rows.mono _ _ _
   | exact LeO.none _
   | refine LeO.ite ?_ ?_
   | refine LeO.bind ?_ (fun _ => ?_)
  ·intro y0 y1 y2 y3 y4 y5 y6 y7 y8 y9
   unfold impl_Show.l0
   repeat' first
   | (with_reducible exact ih0 _ _ _ _ _ _ _)
   | (with_reducible exact ih1 _ _ _ _ _ _ _ _ _ _)
   | (with_reducible exact ih2 _ _ _ _ _ _ _ _ _ _ _ _ _)
   | (with_reducible exact ih3 _ _ _ _ _ _ _ _ _ _ _ _ _ _ _ _ _ _ _)
   | (with_reducible exact ih4 _ _ _ _ _ _ _ _ _ _ _ _ _ _ _ _ _)
   | (with_reducible exact ih5 _ _ _ _ _ _ _ _ _ _ _ _ _ _)
   | (with_reducible exact ih6 _ _ _ _ _ _ _ _ _ _ _ _ _)
   | (with_reducible exact impl_Sum.mono _ _ _)
   | (with_reducible exact impl_ValidPath.mono _ _)
   | (with_reducible exact impl_rows.mono _ _ _)
   | (with_reducible exact LeO.refl _)
   | (with_reducible exact LeO.none _)
   | (with_reducible refine LeO.ite ?_ ?_)
   | (with_reducible refine LeO.bind ?_ (fun _ => ?_))
   | exact ih0 _ _ _ _ _ _ _
   | exact ih1 _ _ _ _ _ _ _ _ _ _
   | exact ih2 _ _ _ _ _ _ _ _ _ _ _ _ _
   | exact ih3 _ _ _ _ _ _ _ _ _ _ _ _ _ _ _ _ _ _ _
   | exact ih4 _ _ _ _ _ _ _ _ _ _ _ _ _ _ _ _ _
   | exact ih5 _ _ _ _ _ _ _ _ _ _ _ _ _ _
   | exact ih6 _ _ _ _ _ _ _ _ _ _ _ _ _
   | exact impl_Sum.mono _ _ _
   | exact impl_ValidPath.mono _ _
   | exact impl_rows.mono _ _ _
   | exact LeO.none _
   | refine LeO.ite ?_ ?_
   | refine LeO.bind ?_ (fun _ => ?_)
  ·intro y0 y1 y2 y3 y4 y5 y6 y7 y8 y9 y10 y11 y12
   unfold impl_Show.l1
   repeat' first
   | (with_reducible exact ih0 _ _ _ _ _ _ _)
   | (with_reducible exact ih1 _ _ _ _ _ _ _ _ _ _)
   | (with_reducible exact ih2 _ _ _ _ _ _ _ _ _ _ _ _ _)
   | (with_reducible exact ih3 _ _ _ _ _ _ _ _ _ _ _ _ _ _ _ _ _ _ _)
   | (with_reducible exact ih4 _ _ _ _ _ _ _ _ _ _ _ _ _ _ _ _ _)
   | (with_reducible exact ih5 _ _ _ _ _ _ _ _ _ _ _ _ _ _)
   | (with_reducible exact ih6 _ _ _ _ _ _ _ _ _ _ _ _ _)
   | (with_reducible exact impl_Sum.mono _ _ _)
   | (with_reducible exact impl_ValidPath.mono _ _)
   | (with_reducible exact impl_rows.mono _ _ _)
   | (with_reducible exact LeO.refl _)
   | (with_reducible exact LeO.none _)
   | (with_reducible refine LeO.ite ?_ ?_)
   | (with_reducible refine LeO.bind ?_ (fun _ => ?_))
   | exact ih0 _ _ _ _ _ _ _
   | exact ih1 _ _ _ _ _ _ _ _ _ _
   | exact ih2 _ _ _ _ _ _ _ _ _ _ _ _ _
   | exact ih3 _ _ _ _ _ _ _ _ _ _ _ _ _ _ _ _ _ _ _
   | exact ih4 _ _ _ _ _ _ _ _ _ _ _ _ _ _ _ _ _
   | exact ih5 _ _ _ _ _ _ _ _ _ _ _ _ _ _
   | exact ih6 _ _ _ _ _ _ _ _ _ _ _ _ _
   | exact impl_Sum.mono _ _ _
   | exact impl_ValidPath.mono _ _
   | exact impl_rows.mono _ _ _
   | exact LeO.none _
   | refine LeO.ite ?_ ?_
   | refine LeO.bind ?_ (fun _ => ?_)
  ·intro y0 y1 y2 y3 y4 y5 y6 y7 y8 y9 y10 y11 y12 y13 y14 y15 y16 y17 y18
   unfold impl_Show.l2
   repeat' first
   | (with_reducible exact ih0 _ _ _ _ _ _ _)
   | (with_reducible exact ih1 _ _ _ _ _ _ _ _ _ _)
   | (with_reducible exact ih2 _ _ _ _ _ _ _ _ _ _ _ _ _)
   | (with_reducible exact ih3 _ _ _ _ _ _ _ _ _ _ _ _ _ _ _ _ _ _ _)
   | (with_reducible exact ih4 _ _ _ _ _ _ _ _ _ _ _ _ _ _ _ _ _)
   | (with_reducible exact ih5 _ _ _ _ _ _ _ _ _ _ _ _ _ _)
   | (with_reducible exact ih6 _ _ _ _ _ _ _ _ _ _ _ _ _)
   | (with_reducible exact impl_Sum.mono _ _ _)
   | (with_reducible exact impl_ValidPath.mono _ _)
   | (with_reducible exact impl_rows.mono _ _ _)
   | (with_reducible exact LeO.refl _)
   | (with_reducible exact LeO.none _)
   | (with_reducible refine LeO.ite ?_ ?_)
   | (with_reducible refine LeO.bind ?_ (fun _ => ?_))
   | exact ih0 _ _ _ _ _ _ _
   | exact ih1 _ _ _ _ _ _ _ _ _ _
   | exact ih2 _ _ _ _ _ _ _ _ _ _ _ _ _
   | exact ih3 _ _ _ _ _ _ _ _ _ _ _ _ _ _ _ _ _ _ _
   | exact ih4 _ _ _ _ _ _ _ _ _ _ _ _ _ _ _ _ _
   | exact ih5 _ _ _ _ _ _ _ _ _ _ _ _ _ _
   | exact ih6 _ _ _ _ _ _ _ _ _ _ _ _ _
   | exact impl_Sum.mono _ _ _
   | exact impl_ValidPath.mono _ _
   | exact impl_rows.mono _ _ _
   | exact LeO.none _
   | refine LeO.ite ?_ ?_
   | refine LeO.bind ?_ (fun _ => ?_)
  ·intro y0 y1 y2 y3 y4 y5 y6 y7 y8 y9 y10 y11 y12 y13 y14 y15 y16
   unfold impl_Show.j4
   repeat' first
   | (with_reducible exact ih0 _ _ _ _ _ _ _)
   | (with_reducible exact ih1 _ _ _ _ _ _ _ _ _ _)
   | (with_reducible exact ih2 _ _ _ _ _ _ _ _ _ _ _ _ _)
   | (with_reducible exact ih3 _ _ _ _ _ _ _ _ _ _ _ _ _ _ _ _ _ _ _)
   | (with_reducible exact ih4 _ _ _ _ _ _ _ _ _ _ _ _ _ _ _ _ _)
   | (with_reducible exact ih5 _ _ _ _ _ _ _ _ _ _ _ _ _ _)
   | (with_reducible exact ih6 _ _ _ _ _ _ _ _ _ _ _ _ _)
   | (with_reducible exact impl_Sum.mono _ _ _)
   | (with_reducible exact impl_ValidPath.mono _ _)
   | (with_reducible exact impl_rows.mono _ _ _)
   | (with_reducible exact LeO.refl _)
   | (with_reducible exact LeO.none _)
   | (with_reducible refine LeO.ite ?_ ?_)
   | (with_reducible refine LeO.bind ?_ (fun _ => ?_))
   | exact ih0 _ _ _ _ _ _ _
   | exact ih1 _ _ _ _ _ _ _ _ _ _
   | exact ih2 _ _ _ _ _ _ _ _ _ _ _ _ _
   | exact ih3 _ _ _ _ _ _ _ _ _ _ _ _ _ _ _ _ _ _ _
   | exact ih4 _ _ _ _ _ _ _ _ _ _ _ _ _ _ _ _ _
   | exact ih5 _ _ _ _ _ _ _ _ _ _ _ _ _ _
   | exact ih6 _ _ _ _ _ _ _ _ _ _ _ _ _
   | exact impl_Sum.mono _ _ _
   | exact impl_ValidPath.mono _ _
   | exact impl_rows.mono _ _ _
   | exact LeO.none _
   | refine LeO.ite ?_ ?_
   | refine LeO.bind ?_ (fun _ => ?_)
  ·intro y0 y1 y2 y3 y4 y5 y6 y7 y8 y9 y10 y11 y12 y13
   unfold impl_Show.j5
   repeat' first
   | (with_reducible exact ih0 _ _ _ _ _ _ _)
   | (with_reducible exact ih1 _ _ _ _ _ _ _ _ _ _)
   | (with_reducible exact ih2 _ _ _ _ _ _ _ _ _ _ _ _ _)
   | (with_reducible exact ih3 _ _ _ _ _ _ _ _ _ _ _ _ _ _ _ _ _ _ _)
   | (with_reducible exact ih4 _ _ _ _ _ _ _ _ _ _ _ _ _ _ _ _ _)
   | (with_reducible exact ih5 _ _ _ _ _ _ _ _ _ _ _ _ _ _)
   | (with_reducible exact ih6 _ _ _ _ _ _ _ _ _ _ _ _ _)
   | (with_reducible exact impl_Sum.mono _ _ _)
   | (with_reducible exact impl_ValidPath.mono _ _)
   | (with_reducible exact impl_rows.mono _ _ _)
   | (with_reducible exact LeO.refl _)
   | (with_reducible exact LeO.none _)
   | (with_reducible refine LeO.ite ?_ ?_)
   | (with_reducible refine LeO.bind ?_ (fun _ => ?_))
   | exact ih0 _ _ _ _ _ _ _
   | exact ih1 _ _ _ _ _ _ _ _ _ _
   | exact ih2 _ _ _ _ _ _ _ _ _ _ _ _ _
   | exact ih3 _ _ _ _ _ _ _ _ _ _ _ _ _ _ _ _ _ _ _
   | exact ih4 _ _ _ _ _ _ _ _ _ _ _ _ _ _ _ _ _
   | exact ih5 _ _ _ _ _ _ _ _ _ _ _ _ _ _
   | exact ih6 _ _ _ _ _ _ _ _ _ _ _ _ _
   | exact impl_Sum.mono _ _ _
   | exact impl_ValidPath.mono _ _
   | exact impl_rows.mono _ _ _
   | exact LeO.none _
   | refine LeO.ite ?_ ?_
   | refine LeO.bind ?_ (fun _ => ?_)
  ·intro y0 y1 y2 y3 y4 y5 y6 y7 y8 y9 y10 y11 y12
   unfold impl_Show.j6
   repeat' first
   | (with_reducible exact ih0 _ _ _ _ _ _ _)
   | (with_reducible exact ih1 _ _ _ _ _ _ _ _ _ _)
   | (with_reducible exact ih2 _ _ _ _ _ _ _ _ _ _ _ _ _)
   | (with_reducible exact ih3 _ _ _ _ _ _ _ _ _ _ _ _ _ _ _ _ _ _ _)
   | (with_reducible exact ih4 _ _ _ _ _ _ _ _ _ _ _ _ _ _ _ _ _)
   | (with_reducible exact ih5 _ _ _ _ _ _ _ _ _ _ _ _ _ _)
   | (with_reducible exact ih6 _ _ _ _ _ _ _ _ _ _ _ _ _)
   | (with_reducible exact impl_Sum.mono _ _ _)
   | (with_reducible exact impl_ValidPath.mono _ _)
   | (with_reducible exact impl_rows.mono _ _ _)
   | (with_reducible exact LeO.refl _)
   | (with_reducible exact LeO.none _)
   | (with_reducible refine LeO.ite ?_ ?_)
   | (with_reducible refine LeO.bind ?_ (fun _ => ?_))
   | exact ih0 _ _ _ _ _ _ _
   | exact ih1 _ _ _ _ _ _ _ _ _ _
   | exact ih2 _ _ _ _ _ _ _ _ _ _ _ _ _
   | exact ih3 _ _ _ _ _ _ _ _ _ _ _ _ _ _ _ _ _ _ _
   | exact ih4 _ _ _ _ _ _ _ _ _ _ _ _ _ _ _ _ _
   | exact ih5 _ _ _ _ _ _ _ _ _ _ _ _ _ _
   | exact ih6 _ _ _ _ _ _ _ _ _ _ _ _ _
   | exact impl_Sum.mono _ _ _
   | exact impl_ValidPath.mono _ _
   | exact impl_rows.mono _ _ _
   | exact LeO.none _
   | refine LeO.ite ?_ ?_
   | refine LeO.bind ?_ (fun _ => ?_)
theorem impl_Show.mono : ∀ a0 a1 a2 a3 a4 a5 k, LeO (impl_Show.f k a0 a1 a2 a3 a4 a5) (impl_Show.f (k + 1) a0 a1 a2 a3 a4 a5) := by
 intro a0 a1 a2 a3 a4 a5 k
 obtain ⟨ih0, ih1, ih2, ih3, ih4, ih5, ih6⟩ := impl_Show.mono_l k
 unfold impl_Show.f
 repeat' first
   | (with_reducible exact ih0 _ _ _ _ _ _ _)
   | (with_reducible exact ih1 _ _ _ _ _ _ _ _ _ _)
   | (with_reducible exact ih2 _ _ _ _ _ _ _ _ _ _ _ _ _)
   | (with_reducible exact ih3 _ _ _ _ _ _ _ _ _ _ _ _ _ _ _ _ _ _ _)
   | (with_reducible exact ih4 _ _ _ _ _ _ _ _ _ _ _ _ _ _ _ _ _)
   | (with_reducible exact ih5 _ _ _ _ _ _ _ _ _ _ _ _ _ _)
   | (with_reducible exact ih6 _ _ _ _ _ _ _ _ _ _ _ _ _)
   | (with_reducible exact impl_Sum.mono _ _ _)
   | (with_reducible exact impl_ValidPath.mono _ _)
   | (with_reducible exact impl_rows.mono _ _ _)
   | (with_reducible exact LeO.refl _)
   | (with_reducible exact LeO.none _)
   | (with_reducible refine LeO.ite ?_ ?_)
   | (with_reducible refine LeO.bind ?_ (fun _ => ?_))
   | exact ih0 _ _ _ _ _ _ _
   | exact ih1 _ _ _ _ _ _ _ _ _ _
   | exact ih2 _ _ _ _ _ _ _ _ _ _ _ _ _
   | exact ih3 _ _ _ _ _ _ _ _ _ _ _ _ _ _ _ _ _ _ _
   | exact ih4 _ _ _ _ _ _ _ _ _ _ _ _ _ _ _ _ _
   | exact ih5 _ _ _ _ _ _ _ _ _ _ _ _ _ _
   | exact ih6 _ _ _ _ _ _ _ _ _ _ _ _ _
   | exact impl_Sum.mono _ _ _
   | exact impl_ValidPath.mono _ _
   | exact impl_rows.mono _ _ _
   | exact LeO.none _
   | refine LeO.ite ?_ ?_
   | refine LeO.bind ?_ (fun _ => ?_)
def impl_Show.T26 : Bool × List (List Nat × List Nat) := (true, [([], []), ([0], [0]), ([], []), ([2], [2]), ([1, 3], [1, 3]), ([4], [4]), ([5], [5]), ([6, 5], [5, 6]), ([5], [5]), ([8, 5], [5, 8]), ([7, 9, 5], [5, 7, 9]), ([10, 5], [5, 10]), ([5], [5]), ([11, 12, 5, 5], [5, 11, 12]), ([5], [5]), ([14, 5], [5, 14]), ([13, 15, 5], [5, 13, 15]), ([5, 16], [5, 16])])
def impl_Show.B26 : List Nat := [0, 1, 0, 4, 15, 31, 63, 127, 63, 319, 1023, 2047, 63, 8191, 63, 16447, 65535, 131071]
theorem impl_Show.tab26 : rtab .any (opsOf Tryd.f13 26) = impl_Show.T26 := by kernel_rfl
theorem impl_Show.bits26 : waitsOk impl_Show.T26.2 impl_Show.B26 = true := by kernel_rfl
def impl_Show.T31 : Bool × List (List Nat × List Nat) := (true, [([], []), ([0], [0]), ([1], [1]), ([2], [2]), ([3], [3]), ([4, 3], [3, 4]), ([5, 3], [3, 5]), ([3], [3]), ([6, 7, 3, 3], [3, 6, 7]), ([3], [3]), ([9, 3], [3, 9]), ([8, 10, 3], [3, 8, 10]), ([3, 11], [3, 11])])
def impl_Show.B31 : List Nat := [0, 1, 3, 7, 15, 31, 63, 15, 255, 15, 527, 2047, 4095]
theorem impl_Show.tab31 : rtab .any (opsOf Tryd.f13 31) = impl_Show.T31 := by kernel_rfl
theorem impl_Show.bits31 : waitsOk impl_Show.T31.2 impl_Show.B31 = true := by kernel_rfl
set_option maxHeartbeats 2000000 in
set_option maxRecDepth 100000 in
theorem impl_Show.calls (k : Nat) (a0 : ByteArray) (a1 : ByteArray) (A2_0 : Option Addr) (c2_0 : Nat) (l2_0 : List ByteArray) (a2_1 : Bool) (a2_2 : ByteArray) (a3 : Int) (r1 : Int) (r2 : Bool) (r3 : ByteArray) (r4 : ByteArray) (r5 : Bool) (w : World) (hr2_0 : Kd.C Kd.string w A2_0 l2_0.length l2_0) (hc2_0 : l2_0.length ≤ c2_0) (h : impl_Show.f k a0 a1 l2_0 a2_1 a2_2 a3 = some (r1, r2, r3, r4, r5)) :
  Calls Tryd.prog 13 #[.string a0, .string a1, .agg #[.slice A2_0 l2_0.length c2_0, .bool a2_1, .string a2_2], .int .i64 a3] w fun e w' => e = .returned (.agg #[.int .i64 r1, .bool r2, .string r3, .string r4, .bool r5]) ∧ Below w.heap.size w w' := by
 have hu38 := Tryd.underlying38
 have hu36 := Tryd.underlying36
 have hu88 := Tryd.underlying88
 have hu34 := Tryd.underlying34
 have HR2_0 := AZ.mk hr2_0
 have HC2_0 := AZ.mk hc2_0
 clear hr2_0 hc2_0
 have HB := AZ.mk (Below.refl w.heap.size w)
 have H : ((impl_ValidPath.f k a1).bind fun t251 => (if t251 = true then ((impl_in.f a3 1 8).bind fun t252 => (if t252 = true then ((impl_in.f (l2_0.length : Int) 1 7).bind fun t253 => (if t253 = true then (if (a2_2.size : Int) > 1500 then (impl_Show.j0 k a0 a1 a3 true l2_0 a2_1 a2_2) else (if a2_1 = true then (impl_Show.j0 k a0 a1 a3 false l2_0 a2_1 a2_2) else (impl_Show.j0 k a0 a1 a3 (a2_2.toList != ([] : List UInt8)) l2_0 a2_1 a2_2))) else (impl_Show.j0 k a0 a1 a3 true l2_0 a2_1 a2_2))) else (impl_Show.j0 k a0 a1 a3 true l2_0 a2_1 a2_2))) else (impl_Show.j0 k a0 a1 a3 true l2_0 a2_1 a2_2))) = some (r1, r2, r3, r4, r5) := h
 clear h
 have HC5 := AZ.mk H
 clear H
 go_enter Tryd.func13, Tryd.ntmps13
 go_upto_region 1 with (first | ((with_reducible refine gate_dst (N := 6) rfl ?_); (try (refine gate_guard zq105 ?_; dsimp only)); refine box_event ?hg (N := 6) ?hd (cs := #[.slice A2_0 l2_0.length c2_0, .bool a2_1, .string a2_2]) (t := 38) ?hr ?_; (case hd => rfl); (case hg => rfl); (case hr => first | (go_simp; done) | (go_simp; rfl)); intro gb249 hg w6 hbox hb; have n0_ := AZ.mk (below_step zq0 hb); have n1_ := AZ.mk (hbox); have n2_ := AZ.mk ((by rw [hg]; exact (below_size zq0) : w.heap.size ≤ gb249)); have n3_ := AZ.mk ((by rw [hg]; exact (below_size zq0) : w.heap.size ≤ gb249)); clear HB; have HB := n0_; have BK249 := n1_; have GW249 := n2_; have GE249 := n3_; clear n0_ n1_ n2_ n3_; clear hb hbox hg) | ((with_reducible refine gate_dst (N := 8) rfl ?_); (try (refine gate_guard zq105 ?_; dsimp only)); refine box_event ?hg (N := 8) ?hd (cs := #[.int .i64 0, .bool false, .string (⟨#[]⟩ : ByteArray), .string (⟨#[]⟩ : ByteArray), .bool false]) (t := 36) ?hr ?_; (case hd => rfl); (case hg => rfl); (case hr => first | (go_simp; done) | (go_simp; rfl)); intro gb250 hg w7 hbox hb; have n0_ := AZ.mk (blk_below (g := gb249) (o := .cells #[.slice A2_0 l2_0.length c2_0, .bool a2_1, .string a2_2] 38 (0, 0)) zq11 hb); have n1_ := AZ.mk (below_step zq109 hb); have n2_ := AZ.mk (hbox); have n3_ := AZ.mk ((by rw [hg]; exact (below_size zq109) : w.heap.size ≤ gb250)); have n4_ := AZ.mk ((by rw [hg]; exact (below_size zq109) : w.heap.size ≤ gb250)); have n5_ := AZ.mk ((by rw [hg]; exact Nat.ne_of_lt (blk_lt (g := gb249) (o := .cells #[.slice A2_0 l2_0.length c2_0, .bool a2_1, .string a2_2] 38 (0, 0)) zq11) : gb249 ≠ gb250)); have n6_ := AZ.mk ((by rw [hg]; exact Nat.ne_of_gt (blk_lt (g := gb249) (o := .cells #[.slice A2_0 l2_0.length c2_0, .bool a2_1, .string a2_2] 38 (0, 0)) zq11) : gb250 ≠ gb249)); clear BK249; clear HB; have BK249 := n0_; have HB := n1_; have BK250 := n2_; have GW250 := n3_; have GE250 := n4_; have NB249_250 := n5_; have NB250_249 := n6_; clear n0_ n1_ n2_ n3_ n4_ n5_ n6_; clear hb hbox hg))
 (try simp only [Act.put, List.setIfInBounds_toArray, List.set_cons_zero, List.set_cons_succ])
 go_cut [50] (fun v50 wc => ∃ (kq : Nat) (x50_4 : Bool), v50 = .bool x50_4 ∧ AZ (impl_Show.j0 kq a0 a1 a3 x50_4 l2_0 a2_1 a2_2 = some (r1, r2, r3, r4, r5)) ∧ AZ (kq ≤ k) ∧ AZ (wc.heap[gb249]? = some (.cells #[(.slice A2_0 l2_0.length c2_0), .bool a2_1, .string a2_2] 38 (0, 0))) ∧ AZ (wc.heap[gb250]? = some (.cells #[.int .i64 0, .bool false, .string (⟨#[]⟩ : ByteArray), .string (⟨#[]⟩ : ByteArray), .bool false] 36 (0, 0))) ∧ AZ (Below w.heap.size w wc))
 case first =>
  have H := HC5.out
  clear HC5
  replace H := Option.bind_eq_some_iff.mp H
  obtain ⟨t251, A80, H⟩ := H
  try dsimp only at H
  have A8 := AZ.mk A80
  clear A80
  by_cases c9 : t251 = true
  ·subst c9
   rw [if_pos rfl] at H
   replace H := Option.bind_eq_some_iff.mp H
   obtain ⟨t252, A100, H⟩ := H
   try dsimp only at H
   have A10 := AZ.mk A100
   clear A100
   by_cases c11 : t252 = true
   ·subst c11
    rw [if_pos rfl] at H
    replace H := Option.bind_eq_some_iff.mp H
    obtain ⟨t253, A120, H⟩ := H
    try dsimp only at H
    have A12 := AZ.mk A120
    clear A120
    by_cases c13 : t253 = true
    ·subst c13
     rw [if_pos rfl] at H
     by_cases c14 : (a2_2.size : Int) > 1500
     ·rw [if_pos c14] at H
      have c14b0 : decide (1500 < (a2_2.size : Int)) = true := decide_eq_true c14
      have c14b1 : decide (1500 < a2_2.size) = true := decide_eq_true zq94
      clear c14
      (first | rw [c14b0] | (simp only [i64_w, i32_w]; rw [c14b0]) | skip)
      have H' := AZ.mk H
      clear H
      go_wp2_with (first | ((with_reducible refine gate_callee (f := 46) rfl ?_); refine goesL_ (some 21) rfl rfl Tryd.func46 zq17 rfl #[.string a1] rfl zq2 ?_; (with_reducible refine (impl_ValidPath.calls k a1 true _ A8.out).mono ?_); rintro e w15 ⟨rfl, hb⟩; refine ⟨_, rfl, ?_⟩; have n0_ := AZ.mk (blk_below (g := gb249) (o := .cells #[.slice A2_0 l2_0.length c2_0, .bool a2_1, .string a2_2] 38 (0, 0)) zq11 hb); have n1_ := AZ.mk (blk_below (g := gb250) (o := .cells #[.int .i64 0, .bool false, .string (⟨#[]⟩ : ByteArray), .string (⟨#[]⟩ : ByteArray), .bool false] 36 (0, 0)) zq13 hb); have n2_ := AZ.mk (below_step zq10 hb); clear BK249; clear BK250; clear HB; have BK249 := n0_; have BK250 := n1_; have HB := n2_; clear n0_ n1_ n2_; (try clear hb); (try clear hb2); (try clear hk); (try clear hi)) | (go_at_call 47; (with_reducible refine (impl_in.calls a3 1 8 true _ A10.out).mono ?_); rintro e w' ⟨rfl, ⟨nd, rfl⟩⟩; have hnb16 := NB249_250.out; have hnc16 := NB250_249.out; have hcz17_0 : w15.cell? ⟨gb249, 0, none⟩ = some (.slice A2_0 l2_0.length c2_0) := (blk_cell BK249.out 0).trans rfl; have hcz17_1 : w15.cell? ⟨gb249, 1, none⟩ = some (.bool a2_1) := (blk_cell BK249.out 1).trans rfl; have hcz17_2 : w15.cell? ⟨gb249, 2, none⟩ = some (.string a2_2) := (blk_cell BK249.out 2).trans rfl; have hfz17_0 := blk_frozen BK249.out 0; have hfz17_1 := blk_frozen BK249.out 1; have hfz17_2 := blk_frozen BK249.out 2) | (go_at_call 47; (with_reducible refine (impl_in.calls (l2_0.length : Int) 1 7 true _ A12.out).mono ?_); rintro e w' ⟨rfl, ⟨nd, rfl⟩⟩))
      go_meet
      case rel => exact ⟨_, (true), zq8, H', ⟨zq82⟩, ⟨zq11⟩, ⟨zq13⟩, ⟨zq10⟩⟩
     ·rw [if_neg c14] at H
      have c14b0 : decide (1500 < (a2_2.size : Int)) = false := decide_eq_false c14
      have c14b1 : decide (1500 < a2_2.size) = false := decide_eq_false zq94
      clear c14
      (first | rw [c14b0] | (simp only [i64_w, i32_w]; rw [c14b0]) | skip)
      by_cases c18 : a2_1 = true
      ·subst c18
       rw [if_pos rfl] at H
       have H' := AZ.mk H
       clear H
       go_wp2_with (first | ((with_reducible refine gate_callee (f := 46) rfl ?_); refine goesL_ (some 21) rfl rfl Tryd.func46 zq17 rfl #[.string a1] rfl zq2 ?_; (with_reducible refine (impl_ValidPath.calls k a1 true _ A8.out).mono ?_); rintro e w19 ⟨rfl, hb⟩; refine ⟨_, rfl, ?_⟩; have n0_ := AZ.mk (blk_below (g := gb249) (o := .cells #[.slice A2_0 l2_0.length c2_0, .bool true, .string a2_2] 38 (0, 0)) zq11 hb); have n1_ := AZ.mk (blk_below (g := gb250) (o := .cells #[.int .i64 0, .bool false, .string (⟨#[]⟩ : ByteArray), .string (⟨#[]⟩ : ByteArray), .bool false] 36 (0, 0)) zq13 hb); have n2_ := AZ.mk (below_step zq10 hb); clear BK249; clear BK250; clear HB; have BK249 := n0_; have BK250 := n1_; have HB := n2_; clear n0_ n1_ n2_; (try clear hb); (try clear hb2); (try clear hk); (try clear hi)) | (go_at_call 47; (with_reducible refine (impl_in.calls a3 1 8 true _ A10.out).mono ?_); rintro e w' ⟨rfl, ⟨nd, rfl⟩⟩; have hnb20 := NB249_250.out; have hnc20 := NB250_249.out; have hcz21_0 : w19.cell? ⟨gb249, 0, none⟩ = some (.slice A2_0 l2_0.length c2_0) := (blk_cell BK249.out 0).trans rfl; have hcz21_1 : w19.cell? ⟨gb249, 1, none⟩ = some (.bool true) := (blk_cell BK249.out 1).trans rfl; have hcz21_2 : w19.cell? ⟨gb249, 2, none⟩ = some (.string a2_2) := (blk_cell BK249.out 2).trans rfl; have hfz21_0 := blk_frozen BK249.out 0; have hfz21_1 := blk_frozen BK249.out 1; have hfz21_2 := blk_frozen BK249.out 2) | (go_at_call 47; (with_reducible refine (impl_in.calls (l2_0.length : Int) 1 7 true _ A12.out).mono ?_); rintro e w' ⟨rfl, ⟨nd, rfl⟩⟩))
       go_meet
       case rel => exact ⟨_, (false), zq8, H', ⟨zq82⟩, ⟨zq11⟩, ⟨zq13⟩, ⟨zq10⟩⟩
      ·replace c18 := Bool.eq_false_iff.mpr c18
       subst c18
       rw [if_neg (show ¬ (false = true) by decide)] at H
       have H' := AZ.mk H
       clear H
       go_wp2_with (first | ((with_reducible refine gate_callee (f := 46) rfl ?_); refine goesL_ (some 21) rfl rfl Tryd.func46 zq17 rfl #[.string a1] rfl zq2 ?_; (with_reducible refine (impl_ValidPath.calls k a1 true _ A8.out).mono ?_); rintro e w22 ⟨rfl, hb⟩; refine ⟨_, rfl, ?_⟩; have n0_ := AZ.mk (blk_below (g := gb249) (o := .cells #[.slice A2_0 l2_0.length c2_0, .bool false, .string a2_2] 38 (0, 0)) zq11 hb); have n1_ := AZ.mk (blk_below (g := gb250) (o := .cells #[.int .i64 0, .bool false, .string (⟨#[]⟩ : ByteArray), .string (⟨#[]⟩ : ByteArray), .bool false] 36 (0, 0)) zq13 hb); have n2_ := AZ.mk (below_step zq10 hb); clear BK249; clear BK250; clear HB; have BK249 := n0_; have BK250 := n1_; have HB := n2_; clear n0_ n1_ n2_; (try clear hb); (try clear hb2); (try clear hk); (try clear hi)) | (go_at_call 47; (with_reducible refine (impl_in.calls a3 1 8 true _ A10.out).mono ?_); rintro e w' ⟨rfl, ⟨nd, rfl⟩⟩; have hnb23 := NB249_250.out; have hnc23 := NB250_249.out; have hcz24_0 : w22.cell? ⟨gb249, 0, none⟩ = some (.slice A2_0 l2_0.length c2_0) := (blk_cell BK249.out 0).trans rfl; have hcz24_1 : w22.cell? ⟨gb249, 1, none⟩ = some (.bool false) := (blk_cell BK249.out 1).trans rfl; have hcz24_2 : w22.cell? ⟨gb249, 2, none⟩ = some (.string a2_2) := (blk_cell BK249.out 2).trans rfl; have hfz24_0 := blk_frozen BK249.out 0; have hfz24_1 := blk_frozen BK249.out 1; have hfz24_2 := blk_frozen BK249.out 2) | (go_at_call 47; (with_reducible refine (impl_in.calls (l2_0.length : Int) 1 7 true _ A12.out).mono ?_); rintro e w' ⟨rfl, ⟨nd, rfl⟩⟩))
       go_meet
       case rel => exact ⟨_, ((a2_2.toList != ([] : List UInt8))), (by first | rfl | (simp; done) | (simp [*]; done) | (simp; cases a2_2.toList <;> rfl)), H', ⟨zq82⟩, ⟨zq11⟩, ⟨zq13⟩, ⟨zq10⟩⟩
    ·replace c13 := Bool.eq_false_iff.mpr c13
     subst c13
     rw [if_neg (show ¬ (false = true) by decide)] at H
     have H' := AZ.mk H
     clear H
     go_wp2_with (first | ((with_reducible refine gate_callee (f := 46) rfl ?_); refine goesL_ (some 21) rfl rfl Tryd.func46 zq17 rfl #[.string a1] rfl zq2 ?_; (with_reducible refine (impl_ValidPath.calls k a1 true _ A8.out).mono ?_); rintro e w25 ⟨rfl, hb⟩; refine ⟨_, rfl, ?_⟩; have n0_ := AZ.mk (blk_below (g := gb249) (o := .cells #[.slice A2_0 l2_0.length c2_0, .bool a2_1, .string a2_2] 38 (0, 0)) zq11 hb); have n1_ := AZ.mk (blk_below (g := gb250) (o := .cells #[.int .i64 0, .bool false, .string (⟨#[]⟩ : ByteArray), .string (⟨#[]⟩ : ByteArray), .bool false] 36 (0, 0)) zq13 hb); have n2_ := AZ.mk (below_step zq10 hb); clear BK249; clear BK250; clear HB; have BK249 := n0_; have BK250 := n1_; have HB := n2_; clear n0_ n1_ n2_; (try clear hb); (try clear hb2); (try clear hk); (try clear hi)) | (go_at_call 47; (with_reducible refine (impl_in.calls a3 1 8 true _ A10.out).mono ?_); rintro e w' ⟨rfl, ⟨nd, rfl⟩⟩; have hnb26 := NB249_250.out; have hnc26 := NB250_249.out; have hcz27_0 : w25.cell? ⟨gb249, 0, none⟩ = some (.slice A2_0 l2_0.length c2_0) := (blk_cell BK249.out 0).trans rfl; have hcz27_1 : w25.cell? ⟨gb249, 1, none⟩ = some (.bool a2_1) := (blk_cell BK249.out 1).trans rfl; have hcz27_2 : w25.cell? ⟨gb249, 2, none⟩ = some (.string a2_2) := (blk_cell BK249.out 2).trans rfl; have hfz27_0 := blk_frozen BK249.out 0; have hfz27_1 := blk_frozen BK249.out 1; have hfz27_2 := blk_frozen BK249.out 2) | (go_at_call 47; (with_reducible refine (impl_in.calls (l2_0.length : Int) 1 7 false _ A12.out).mono ?_); rintro e w' ⟨rfl, ⟨nd, rfl⟩⟩))
     go_meet
     case rel => exact ⟨_, (true), zq8, H', ⟨zq82⟩, ⟨zq11⟩, ⟨zq13⟩, ⟨zq10⟩⟩
   ·replace c11 := Bool.eq_false_iff.mpr c11
    subst c11
    rw [if_neg (show ¬ (false = true) by decide)] at H
    have H' := AZ.mk H
    clear H
    go_wp2_with (first | ((with_reducible refine gate_callee (f := 46) rfl ?_); refine goesL_ (some 21) rfl rfl Tryd.func46 zq17 rfl #[.string a1] rfl zq2 ?_; (with_reducible refine (impl_ValidPath.calls k a1 true _ A8.out).mono ?_); rintro e w28 ⟨rfl, hb⟩; refine ⟨_, rfl, ?_⟩; have n0_ := AZ.mk (blk_below (g := gb249) (o := .cells #[.slice A2_0 l2_0.length c2_0, .bool a2_1, .string a2_2] 38 (0, 0)) zq11 hb); have n1_ := AZ.mk (blk_below (g := gb250) (o := .cells #[.int .i64 0, .bool false, .string (⟨#[]⟩ : ByteArray), .string (⟨#[]⟩ : ByteArray), .bool false] 36 (0, 0)) zq13 hb); have n2_ := AZ.mk (below_step zq10 hb); clear BK249; clear BK250; clear HB; have BK249 := n0_; have BK250 := n1_; have HB := n2_; clear n0_ n1_ n2_; (try clear hb); (try clear hb2); (try clear hk); (try clear hi)) | (go_at_call 47; (with_reducible refine (impl_in.calls a3 1 8 false _ A10.out).mono ?_); rintro e w' ⟨rfl, ⟨nd, rfl⟩⟩))
    go_meet
    case rel => exact ⟨_, (true), zq8, H', ⟨zq82⟩, ⟨zq11⟩, ⟨zq13⟩, ⟨zq10⟩⟩
  ·replace c9 := Bool.eq_false_iff.mpr c9
   subst c9
   rw [if_neg (show ¬ (false = true) by decide)] at H
   have H' := AZ.mk H
   clear H
   go_wp2_with (first | ((with_reducible refine gate_callee (f := 46) rfl ?_); refine goesL_ (some 21) rfl rfl Tryd.func46 zq17 rfl #[.string a1] rfl zq2 ?_; (with_reducible refine (impl_ValidPath.calls k a1 false _ A8.out).mono ?_); rintro e w29 ⟨rfl, hb⟩; refine ⟨_, rfl, ?_⟩; have n0_ := AZ.mk (blk_below (g := gb249) (o := .cells #[.slice A2_0 l2_0.length c2_0, .bool a2_1, .string a2_2] 38 (0, 0)) zq11 hb); have n1_ := AZ.mk (blk_below (g := gb250) (o := .cells #[.int .i64 0, .bool false, .string (⟨#[]⟩ : ByteArray), .string (⟨#[]⟩ : ByteArray), .bool false] 36 (0, 0)) zq13 hb); have n2_ := AZ.mk (below_step zq10 hb); clear BK249; clear BK250; clear HB; have BK249 := n0_; have BK250 := n1_; have HB := n2_; clear n0_ n1_ n2_; (try clear hb); (try clear hb2); (try clear hk); (try clear hi)))
   go_meet
   case rel => exact ⟨_, (true), zq8, H', ⟨zq82⟩, ⟨zq11⟩, ⟨zq13⟩, ⟨zq10⟩⟩
 case rest =>
  clear HC5
  try clear c1
  try clear c2
  try clear p2
  try clear c4
  try clear c9
  try clear c11
  try clear c13
  try clear c14
  try clear c14b0
  try clear c14b1
  try clear c16
  try clear c18
  try clear c20
  try clear c23
  try clear c26
  try clear hcz17_0
  try clear hcz17_1
  try clear hcz17_2
  try clear hcz21_0
  try clear hcz21_1
  try clear hcz21_2
  try clear hcz24_0
  try clear hcz24_1
  try clear hcz24_2
  try clear hcz27_0
  try clear hcz27_1
  try clear hcz27_2
  try clear hfz17_0
  try clear hfz17_1
  try clear hfz17_2
  try clear hfz21_0
  try clear hfz21_1
  try clear hfz21_2
  try clear hfz24_0
  try clear hfz24_1
  try clear hfz24_2
  try clear hfz27_0
  try clear hfz27_1
  try clear hfz27_2
  obtain ⟨kq, x50_4, rfl, HA, HJ4, BK249, BK250, HB⟩ := hcut
  cases kq with
  | zero => exact absurd HA.out (by simp [impl_Show.j0])
  | succ kj4 =>
   have H := HA.out
   clear HA
   simp only [impl_Show.j0] at H
   by_cases c30 : x50_4 = true
   ·subst c30
    rw [if_pos rfl] at H
    simp only [Option.some.injEq, Prod.mk.injEq] at H
    obtain ⟨rfl, rfl, rfl, rfl, rfl⟩ := H
    have hnb31 := NB250_249.out
    have hnc31 := NB249_250.out
    have hcz32_0 : wc.cell? ⟨gb250, 0, none⟩ = some (.int .i64 0) := (blk_cell BK250.out 0).trans rfl
    have hcz32_1 : wc.cell? ⟨gb250, 1, none⟩ = some (.bool false) := (blk_cell BK250.out 1).trans rfl
    have hcz32_2 : wc.cell? ⟨gb250, 2, none⟩ = some (.string (⟨#[]⟩ : ByteArray)) := (blk_cell BK250.out 2).trans rfl
    have hcz32_3 : wc.cell? ⟨gb250, 3, none⟩ = some (.string (⟨#[]⟩ : ByteArray)) := (blk_cell BK250.out 3).trans rfl
    have hcz32_4 : wc.cell? ⟨gb250, 4, none⟩ = some (.bool false) := (blk_cell BK250.out 4).trans rfl
    have hfz32_0 := blk_frozen BK250.out 0
    have hfz32_1 := blk_frozen BK250.out 1
    have hfz32_2 := blk_frozen BK250.out 2
    have hfz32_3 := blk_frozen BK250.out 3
    have hfz32_4 := blk_frozen BK250.out 4
    go_wp2
    refine bodyPost_ret (results_cell_row rfl _ _ gb250 36 #[.int .i64 1, .bool false, .string (⟨#[]⟩ : ByteArray), .string (⟨#[]⟩ : ByteArray), .bool false] (0, 0) _ rfl (by (with_reducible repeat (first | refine blk_drewN ?_ _ | refine blk_drew ?_ | refine blk_alloc ?_ _)); refine blk_put (cs := #[.int .i64 1, .bool false, .string (⟨#[]⟩ : ByteArray), .string (⟨#[]⟩ : ByteArray), .bool false]) ?_ 4 _ rfl; (with_reducible repeat (first | refine blk_drewN ?_ _ | refine blk_drew ?_ | refine blk_alloc ?_ _)); refine blk_put (cs := #[.int .i64 1, .bool false, .string (⟨#[]⟩ : ByteArray), .string (⟨#[]⟩ : ByteArray), .bool false]) ?_ 3 _ rfl; (with_reducible repeat (first | refine blk_drewN ?_ _ | refine blk_drew ?_ | refine blk_alloc ?_ _)); refine blk_put (cs := #[.int .i64 1, .bool false, .string (⟨#[]⟩ : ByteArray), .string (⟨#[]⟩ : ByteArray), .bool false]) ?_ 2 _ rfl; (with_reducible repeat (first | refine blk_drewN ?_ _ | refine blk_drew ?_ | refine blk_alloc ?_ _)); refine blk_put (cs := #[.int .i64 1, .bool false, .string (⟨#[]⟩ : ByteArray), .string (⟨#[]⟩ : ByteArray), .bool false]) ?_ 1 _ rfl; (with_reducible repeat (first | refine blk_drewN ?_ _ | refine blk_drew ?_ | refine blk_alloc ?_ _)); refine blk_put (cs := #[.int .i64 0, .bool false, .string (⟨#[]⟩ : ByteArray), .string (⟨#[]⟩ : ByteArray), .bool false]) ?_ 0 _ rfl; (with_reducible repeat (first | refine blk_drewN ?_ _ | refine blk_drew ?_ | refine blk_alloc ?_ _)); exact BK250.out) Tryd.underlying36 rfl zq17) rfl ?_
    exact ⟨zq7, zq10⟩
   ·replace c30 := Bool.eq_false_iff.mpr c30
    subst c30
    rw [if_neg (show ¬ (false = true) by decide)] at H
    have H' := AZ.mk H
    clear H
    have hnb33 := NB249_250.out
    have hnc33 := NB250_249.out
    have hcz34_0 : wc.cell? ⟨gb249, 0, none⟩ = some (.slice A2_0 l2_0.length c2_0) := (blk_cell BK249.out 0).trans rfl
    have hcz34_1 : wc.cell? ⟨gb249, 1, none⟩ = some (.bool a2_1) := (blk_cell BK249.out 1).trans rfl
    have hcz34_2 : wc.cell? ⟨gb249, 2, none⟩ = some (.string a2_2) := (blk_cell BK249.out 2).trans rfl
    have hfz34_0 := blk_frozen BK249.out 0
    have hfz34_1 := blk_frozen BK249.out 1
    have hfz34_2 := blk_frozen BK249.out 2
    go_wp2
    go_loopg [9, 55] kj4 (fun kq v9 v55 w' => ∃ (x9_2 : List (List (S88))) (x55_2 : Int) (x251000_2 : Int) (x251001_2 : Bool) (x251002_2 : ByteArray) (x251003_2 : ByteArray) (x251004_2 : Bool), v55 = .int .i64 x55_2 ∧ AZ (impl_Show.l0 kq a0 a1 a3 x9_2 l2_0 (l2_0.length : Int) x55_2 l2_0 a2_1 a2_2 = some (r1, r2, r3, r4, r5)) ∧ AZ (kq ≤ kj4) ∧ AZ (Kd.S (Kd.slice 88 k88) 83 w' w.heap.size (fun _ => True) v9 x9_2) ∧ AZ (w'.heap[gb249]? = some (.cells #[(.slice A2_0 l2_0.length c2_0), .bool a2_1, .string a2_2] 38 (0, 0))) ∧ AZ (w'.heap[gb250]? = some (.cells #[.int .i64 x251000_2, .bool x251001_2, .string x251002_2, .string x251003_2, .bool x251004_2] 36 (0, 0))) ∧ AZ (Below w.heap.size w w'))
    case atStart => exact ⟨(([] : List (List (S88)))), (0), (0), (false), ((⟨#[]⟩ : ByteArray)), ((⟨#[]⟩ : ByteArray)), (false), zq8, H', ⟨Nat.le_refl _⟩, ⟨by first | exact Kd.S_nil _ _ _ _ _ | exact Kd.N_nil _ _ _ _ _ | exact Kd.V_nil _ _ _ _ _ | exact Kd.Q_nil _ _ _ _ _ | exact Kd.R_nil _ _ _ _ _⟩, ⟨zq11⟩, ⟨zq13⟩, ⟨zq10⟩⟩
    case round =>
     clear H'
     try clear c1
     try clear c2
     try clear p2
     try clear c3
     try clear c4
     try clear c9
     try clear c11
     try clear c13
     try clear c14
     try clear c14b0
     try clear c14b1
     try clear c16
     try clear c18
     try clear c20
     try clear c23
     try clear c26
     try clear c30
     try clear c31
     try clear c33
     try clear hcz17_0
     try clear hcz17_1
     try clear hcz17_2
     try clear hcz21_0
     try clear hcz21_1
     try clear hcz21_2
     try clear hcz24_0
     try clear hcz24_1
     try clear hcz24_2
     try clear hcz27_0
     try clear hcz27_1
     try clear hcz27_2
     try clear hcz32_0
     try clear hcz32_1
     try clear hcz32_2
     try clear hcz32_3
     try clear hcz32_4
     try clear hcz34_0
     try clear hcz34_1
     try clear hcz34_2
     try clear hfz17_0
     try clear hfz17_1
     try clear hfz17_2
     try clear hfz21_0
     try clear hfz21_1
     try clear hfz21_2
     try clear hfz24_0
     try clear hfz24_1
     try clear hfz24_2
     try clear hfz27_0
     try clear hfz27_1
     try clear hfz27_2
     try clear hfz32_0
     try clear hfz32_1
     try clear hfz32_2
     try clear hfz32_3
     try clear hfz32_4
     try clear hfz34_0
     try clear hfz34_1
     try clear hfz34_2
     try clear p2
     obtain ⟨x9_2, x55_2, x251000_2, x251001_2, x251002_2, x251003_2, x251004_2, rfl, HA, HK2, HO_9, BK249, BK250, HB⟩ := hrel
     cases gk with
     | zero => exact absurd HA.out (by simp [impl_Show.l0])
     | succ k2 =>
      have H := HA.out
      clear HA
      simp only [impl_Show.l0] at H
      by_cases c35 : x55_2 < (l2_0.length : Int)
      ·rw [if_pos c35] at H
       have c35b0 : decide (x55_2 < (l2_0.length : Int)) = true := decide_eq_true c35
       clear c35
       by_cases c36 : 0 ≤ x55_2
       ·rw [if_pos c36] at H
        have c36b0 : decide (0 ≤ x55_2) = true := decide_eq_true c36
        clear c36
        by_cases c37 : x55_2 < (l2_0.length : Int)
        ·rw [if_pos c37] at H
         have c37b0 : decide (x55_2 < (l2_0.length : Int)) = true := decide_eq_true c37
         clear c37
         replace H := Option.bind_eq_some_iff.mp H
         obtain ⟨⟨t255, t256⟩, A380, H⟩ := H
         try dsimp only at H
         have A38 := AZ.mk A380
         clear A380
         by_cases c39 : ((rdOf ByteArray.empty l2_0 x55_2).size : Int) > 8000
         ·rw [if_pos c39] at H
          have c39b0 : decide (8000 < ((rdOf ByteArray.empty l2_0 x55_2).size : Int)) = true := decide_eq_true c39
          have c39b1 : decide (8000 < (rdOf ByteArray.empty l2_0 x55_2).size) = true := decide_eq_true zq94
          clear c39
          simp only [Option.some.injEq, Prod.mk.injEq] at H
          obtain ⟨rfl, rfl, rfl, rfl, rfl⟩ := H
          have p254 : 0 ≤ (x55_2 : Int) := of_decide_eq_true zq1
          have q254 : x55_2 < (l2_0.length : Int) := of_decide_eq_true zq1
          obtain ⟨ad254, e254, hx254_0⟩ := Kd.at_string HR2_0.out x55_2 p254 q254
          cases e254
          replace hx254_0 := (HB.out.cell (World.block_lt_of_cell? w _ hx254_0)).trans hx254_0
          replace p254 := eq_true p254
          replace q254 := eq_true q254
          go_wp2_with (first | ((with_reducible refine gate_callee (f := 48) rfl ?_); refine goesL_ (some 62) rfl rfl Tryd.func48 zq17 rfl #[.string (rdOf ByteArray.empty l2_0 x55_2), .int .i64 a3] rfl zq2 ?_; (with_reducible refine (impl_rows.calls k2 (rdOf ByteArray.empty l2_0 x55_2) a3 t255 t256 _ A38.out).mono ?_); rintro e w40 ⟨v257, rfl, ho0, hb⟩; refine ⟨_, rfl, ?_⟩; have n0_ := AZ.mk (Kd.S_elder' zq22 (Kd.R_base ho0) hb); have n1_ := AZ.mk (Kd.R_lower ho0 (below_size zq10)); have n2_ := AZ.mk (blk_below (g := gb249) (o := .cells #[.slice (some ad254) l2_0.length c2_0, .bool a2_1, .string a2_2] 38 (0, 0)) zq11 hb); have n3_ := AZ.mk (blk_below (g := gb250) (o := .cells #[.int .i64 x251000_2, .bool x251001_2, .string x251002_2, .string x251003_2, .bool x251004_2] 36 (0, 0)) zq13 hb); have n4_ := AZ.mk (below_step zq10 hb); clear HO_9; clear BK249; clear BK250; clear HB; have HO_9 := n0_; have HO258 := n1_; have BK249 := n2_; have BK250 := n3_; have HB := n4_; clear n0_ n1_ n2_ n3_ n4_; (try clear hb); (try clear hb2); (try clear hk); (try clear hi); (try clear ho0); have hnb41 := NB250_249.out; have hnc41 := NB249_250.out; have hcz42_0 : w40.cell? ⟨gb250, 0, none⟩ = some (.int .i64 x251000_2) := (blk_cell BK250.out 0).trans rfl; have hcz42_1 : w40.cell? ⟨gb250, 1, none⟩ = some (.bool x251001_2) := (blk_cell BK250.out 1).trans rfl; have hcz42_2 : w40.cell? ⟨gb250, 2, none⟩ = some (.string x251002_2) := (blk_cell BK250.out 2).trans rfl; have hcz42_3 : w40.cell? ⟨gb250, 3, none⟩ = some (.string x251003_2) := (blk_cell BK250.out 3).trans rfl; have hcz42_4 : w40.cell? ⟨gb250, 4, none⟩ = some (.bool x251004_2) := (blk_cell BK250.out 4).trans rfl; have hfz42_0 := blk_frozen BK250.out 0; have hfz42_1 := blk_frozen BK250.out 1; have hfz42_2 := blk_frozen BK250.out 2; have hfz42_3 := blk_frozen BK250.out 3; have hfz42_4 := blk_frozen BK250.out 4))
          refine bodyPost_ret (results_cell_row rfl _ _ gb250 36 #[.int .i64 1, .bool false, .string (⟨#[]⟩ : ByteArray), .string (⟨#[]⟩ : ByteArray), .bool false] (0, 0) _ rfl zq48 Tryd.underlying36 rfl zq17) rfl ?_
          exact ⟨zq7, zq10⟩
         ·rw [if_neg c39] at H
          have c39b0 : decide (8000 < ((rdOf ByteArray.empty l2_0 x55_2).size : Int)) = false := decide_eq_false c39
          have c39b1 : decide (8000 < (rdOf ByteArray.empty l2_0 x55_2).size) = false := decide_eq_false zq94
          clear c39
          by_cases c43 : t256 = true
          ·subst c43
           rw [if_pos rfl] at H
           by_cases c44 : x9_2.length < 5864062014805
           ·rw [if_pos c44] at H
            have LMc44 := AZ.mk c44
            clear c44
            obtain ⟨y259, hy259⟩ : ∃ y_ : List (List (S88)), y_ = (x9_2 ++ [t255]) := ⟨_, rfl⟩
            replace H : (impl_Show.l0 k2 a0 a1 a3 y259 l2_0 (l2_0.length : Int) (wrap64 (x55_2 + 1)) l2_0 a2_1 a2_2) = some (r1, r2, r3, r4, r5) := by first | (rw [hy259]; with_reducible exact H) | (have H2_ := (Option.bind_some _ _).symm.trans H; rw [hy259]; with_reducible exact H2_) | (have H2_ := (Option.bind_some _ _).symm.trans H; with_reducible exact H2_) | with_reducible exact H | (rw [hy259]; exact H) | exact H
            have Ny259 := AZ.mk hy259
            clear hy259
            have H' := AZ.mk H
            clear H
            have p254 : 0 ≤ (x55_2 : Int) := of_decide_eq_true zq1
            have q254 : x55_2 < (l2_0.length : Int) := of_decide_eq_true zq1
            obtain ⟨ad254, e254, hx254_0⟩ := Kd.at_string HR2_0.out x55_2 p254 q254
            cases e254
            replace hx254_0 := (HB.out.cell (World.block_lt_of_cell? w _ hx254_0)).trans hx254_0
            replace p254 := eq_true p254
            replace q254 := eq_true q254
            go_wp2_with (first | ((with_reducible refine gate_callee (f := 48) rfl ?_); refine goesL_ (some 62) rfl rfl Tryd.func48 zq17 rfl #[.string (rdOf ByteArray.empty l2_0 x55_2), .int .i64 a3] rfl zq2 ?_; (with_reducible refine (impl_rows.calls k2 (rdOf ByteArray.empty l2_0 x55_2) a3 t255 true _ A38.out).mono ?_); rintro e w45 ⟨v257, rfl, ho0, hb⟩; refine ⟨_, rfl, ?_⟩; have n0_ := AZ.mk (Kd.S_elder' zq22 (Kd.R_base ho0) hb); have n1_ := AZ.mk (Kd.R_lower ho0 (below_size zq10)); have n2_ := AZ.mk (blk_below (g := gb249) (o := .cells #[.slice (some ad254) l2_0.length c2_0, .bool a2_1, .string a2_2] 38 (0, 0)) zq11 hb); have n3_ := AZ.mk (blk_below (g := gb250) (o := .cells #[.int .i64 x251000_2, .bool x251001_2, .string x251002_2, .string x251003_2, .bool x251004_2] 36 (0, 0)) zq13 hb); have n4_ := AZ.mk (below_step zq10 hb); clear HO_9; clear BK249; clear BK250; clear HB; have HO_9 := n0_; have HO258 := n1_; have BK249 := n2_; have BK250 := n3_; have HB := n4_; clear n0_ n1_ n2_ n3_ n4_; (try clear hb); (try clear hb2); (try clear hk); (try clear hi); (try clear ho0); obtain ⟨Ao47, co47, eo47⟩ := Kd.R_slice HO258.out; subst eo47) | ((with_reducible refine gate_builtin (b := .append) (xs := #[.tmp 73, .tmp 75]) rfl ?_); (try (refine gate_guard zq105 ?_; dsimp only)); at_builtin; refine Kd.S_append (Kd.slice 88 k88) (w0 := w) w.heap.size rfl (.tmp 73) (.tmp 75) 82 83 (.slice none 0 0) 24 rfl Tryd.underlying82 info83 rfl zq118 zq94 u9 x9_2 t255 [.slice Ao47 t255.length co47] (fun _ => True) (fun k_ => some k_ = (.slice Ao47 t255.length co47 : Value).ownBlock) rfl rfl ?aP (fun k_ hk_ => ((Kd.R_mono (ok' := fun k_ => ((fun _ => True)) k_ ∧ some k_ ≠ (u9 : Value).ownBlock) (Kd.R_apart' (HO258.out) (Kd.S_typed HO_9.out) zq118) (fun k_ hk => ⟨trivial, hk.2⟩))).1 k_ hk_.symm) ?aF ?aO ?aB ?aS ?aL ?_; (case aP => exact Kd.M_row (Kd.R_mono (Kd.R_tight rfl (Kd.R_mono (ok' := fun k_ => ((fun _ => True)) k_ ∧ some k_ ≠ (u9 : Value).ownBlock) (Kd.R_apart' (HO258.out) (Kd.S_typed HO_9.out) zq118) (fun k_ hk => ⟨trivial, hk.2⟩))) (fun _ h_ => h_))); (case aB => exact zq10); (case aF => exact (fun _ _ => trivial)); (case aO => exact zq125); (case aS => exact (below_size zq10)); (case aL => have := LMc44.out; omega); intro v260 w46 ho hb hg hat; rw [← Ny259.out] at ho; have n0_ := AZ.mk (blk_grown (g := gb249) (o := .cells #[.slice (some ad254) l2_0.length c2_0, .bool a2_1, .string a2_2] 38 (0, 0)) zq11 hg (Kd.S_ne HO_9.out BK249.out zq118)); have n1_ := AZ.mk (blk_grown (g := gb250) (o := .cells #[.int .i64 x251000_2, .bool x251001_2, .string x251002_2, .string x251003_2, .bool x251004_2] 36 (0, 0)) zq13 hg (Kd.S_ne HO_9.out BK250.out zq118)); have n2_ := AZ.mk (hb); have n3_ := AZ.mk (ho); clear BK249; clear BK250; clear HB; clear HO_9; clear HO258; have BK249 := n0_; have BK250 := n1_; have HB := n2_; have HO261 := n3_; clear n0_ n1_ n2_ n3_; clear ho hb hg hat))
            go_roundg k2
            case measure => have := HJ4.out; have := HK2.out; omega
            case rel => exact ⟨(y259), (wrap64 (x55_2 + 1)), (x251000_2), (x251001_2), (x251002_2), (x251003_2), (x251004_2), zq8, H', ⟨by have := HJ4.out; have := HK2.out; omega⟩, ⟨by (with_reducible repeat (first | apply Kd.S_alloc | apply Kd.S_drewN | apply Kd.S_drew)); exact HO261.out⟩, ⟨zq11⟩, ⟨zq13⟩, ⟨zq10⟩⟩
           ·rw [if_neg c44] at H
            exact absurd H zq119
          ·replace c43 := Bool.eq_false_iff.mpr c43
           subst c43
           rw [if_neg (show ¬ (false = true) by decide)] at H
           simp only [Option.some.injEq, Prod.mk.injEq] at H
           obtain ⟨rfl, rfl, rfl, rfl, rfl⟩ := H
           have p254 : 0 ≤ (x55_2 : Int) := of_decide_eq_true zq1
           have q254 : x55_2 < (l2_0.length : Int) := of_decide_eq_true zq1
           obtain ⟨ad254, e254, hx254_0⟩ := Kd.at_string HR2_0.out x55_2 p254 q254
           cases e254
           replace hx254_0 := (HB.out.cell (World.block_lt_of_cell? w _ hx254_0)).trans hx254_0
           replace p254 := eq_true p254
           replace q254 := eq_true q254
           go_wp2_with (first | ((with_reducible refine gate_callee (f := 48) rfl ?_); refine goesL_ (some 62) rfl rfl Tryd.func48 zq17 rfl #[.string (rdOf ByteArray.empty l2_0 x55_2), .int .i64 a3] rfl zq2 ?_; (with_reducible refine (impl_rows.calls k2 (rdOf ByteArray.empty l2_0 x55_2) a3 t255 false _ A38.out).mono ?_); rintro e w48 ⟨v257, rfl, ho0, hb⟩; refine ⟨_, rfl, ?_⟩; have n0_ := AZ.mk (Kd.S_elder' zq22 (Kd.R_base ho0) hb); have n1_ := AZ.mk (Kd.R_lower ho0 (below_size zq10)); have n2_ := AZ.mk (blk_below (g := gb249) (o := .cells #[.slice (some ad254) l2_0.length c2_0, .bool a2_1, .string a2_2] 38 (0, 0)) zq11 hb); have n3_ := AZ.mk (blk_below (g := gb250) (o := .cells #[.int .i64 x251000_2, .bool x251001_2, .string x251002_2, .string x251003_2, .bool x251004_2] 36 (0, 0)) zq13 hb); have n4_ := AZ.mk (below_step zq10 hb); clear HO_9; clear BK249; clear BK250; clear HB; have HO_9 := n0_; have HO258 := n1_; have BK249 := n2_; have BK250 := n3_; have HB := n4_; clear n0_ n1_ n2_ n3_ n4_; (try clear hb); (try clear hb2); (try clear hk); (try clear hi); (try clear ho0); have hnb49 := NB250_249.out; have hnc49 := NB249_250.out; have hcz50_0 : w48.cell? ⟨gb250, 0, none⟩ = some (.int .i64 x251000_2) := (blk_cell BK250.out 0).trans rfl; have hcz50_1 : w48.cell? ⟨gb250, 1, none⟩ = some (.bool x251001_2) := (blk_cell BK250.out 1).trans rfl; have hcz50_2 : w48.cell? ⟨gb250, 2, none⟩ = some (.string x251002_2) := (blk_cell BK250.out 2).trans rfl; have hcz50_3 : w48.cell? ⟨gb250, 3, none⟩ = some (.string x251003_2) := (blk_cell BK250.out 3).trans rfl; have hcz50_4 : w48.cell? ⟨gb250, 4, none⟩ = some (.bool x251004_2) := (blk_cell BK250.out 4).trans rfl; have hfz50_0 := blk_frozen BK250.out 0; have hfz50_1 := blk_frozen BK250.out 1; have hfz50_2 := blk_frozen BK250.out 2; have hfz50_3 := blk_frozen BK250.out 3; have hfz50_4 := blk_frozen BK250.out 4))
           refine bodyPost_ret (results_cell_row rfl _ _ gb250 36 #[.int .i64 1, .bool false, .string (⟨#[]⟩ : ByteArray), .string (⟨#[]⟩ : ByteArray), .bool false] (0, 0) _ rfl zq48 Tryd.underlying36 rfl zq17) rfl ?_
           exact ⟨zq7, zq10⟩
        ·rw [if_neg c37] at H
         exact absurd H zq119
       ·rw [if_neg c36] at H
        exact absurd H zq119
      ·rw [if_neg c35] at H
       have c35b0 : decide (x55_2 < (l2_0.length : Int)) = false := decide_eq_false c35
       clear c35
       by_cases c51 : 0 < (l2_0.length : Int)
       ·rw [if_pos c51] at H
        have c51b0 : decide (0 < (l2_0.length : Int)) = true := decide_eq_true c51
        have c51b1 : decide (0 < l2_0.length) = true := decide_eq_true zq94
        clear c51
        replace H := Option.bind_eq_some_iff.mp H
        obtain ⟨t264, A520, H⟩ := H
        try dsimp only at H
        have A52 := AZ.mk A520
        clear A520
        by_cases c53 : t264.toList = a0.toList
        ·rw [if_pos c53] at H
         have c53b0 : (t264.toList == a0.toList) = true := beq_iff_eq.mpr c53
         have c53b1 : (t264.toList != a0.toList) = false := bne_eq_false_iff_eq.mpr c53
         clear c53
         replace H := Option.bind_eq_some_iff.mp H
         obtain ⟨t265, A540, H⟩ := H
         try dsimp only at H
         have A54 := AZ.mk A540
         clear A540
         have H' := AZ.mk H
         clear H
         go_wp2_with (first | ((with_reducible refine gate_dst (N := 14) rfl ?_); (try (refine gate_guard zq105 ?_; dsimp only)); refine box_event ?hg (N := 14) ?hd (cs := #[.int .i64 0, .bool false, .string (⟨#[]⟩ : ByteArray), .string (⟨#[]⟩ : ByteArray), .bool false]) (t := 36) ?hr ?_; (case hd => rfl); (case hg => rfl); (case hr => first | (go_simp; done) | (go_simp; rfl)); intro gb262 hg w55 hbox hb; have n0_ := AZ.mk (Kd.S_below zq22 hb); have n1_ := AZ.mk (blk_below (g := gb249) (o := .cells #[.slice A2_0 l2_0.length c2_0, .bool a2_1, .string a2_2] 38 (0, 0)) zq11 hb); have n2_ := AZ.mk (blk_below (g := gb250) (o := .cells #[.int .i64 x251000_2, .bool x251001_2, .string x251002_2, .string x251003_2, .bool x251004_2] 36 (0, 0)) zq13 hb); have n3_ := AZ.mk (below_step zq10 hb); have n4_ := AZ.mk (hbox); have n5_ := AZ.mk ((by rw [hg]; exact (below_size zq10) : w.heap.size ≤ gb262)); have n6_ := AZ.mk ((by rw [hg]; exact (below_size zq10) : w.heap.size ≤ gb262)); have n7_ := AZ.mk ((by rw [hg]; exact Nat.ne_of_lt (blk_lt (g := gb249) (o := .cells #[.slice A2_0 l2_0.length c2_0, .bool a2_1, .string a2_2] 38 (0, 0)) zq11) : gb249 ≠ gb262)); have n8_ := AZ.mk ((by rw [hg]; exact Nat.ne_of_gt (blk_lt (g := gb249) (o := .cells #[.slice A2_0 l2_0.length c2_0, .bool a2_1, .string a2_2] 38 (0, 0)) zq11) : gb262 ≠ gb249)); have n9_ := AZ.mk ((by rw [hg]; exact Nat.ne_of_lt (blk_lt (g := gb250) (o := .cells #[.int .i64 x251000_2, .bool x251001_2, .string x251002_2, .string x251003_2, .bool x251004_2] 36 (0, 0)) zq13) : gb250 ≠ gb262)); have n10_ := AZ.mk ((by rw [hg]; exact Nat.ne_of_gt (blk_lt (g := gb250) (o := .cells #[.int .i64 x251000_2, .bool x251001_2, .string x251002_2, .string x251003_2, .bool x251004_2] 36 (0, 0)) zq13) : gb262 ≠ gb250)); clear HO_9; clear BK249; clear BK250; clear HB; have HO_9 := n0_; have BK249 := n1_; have BK250 := n2_; have HB := n3_; have BK262 := n4_; have GW262 := n5_; have GE262 := n6_; have NB249_262 := n7_; have NB262_249 := n8_; have NB250_262 := n9_; have NB262_250 := n10_; clear n0_ n1_ n2_ n3_ n4_ n5_ n6_ n7_ n8_ n9_ n10_; clear hb hbox hg; have hnb56 := NB262_249.out; have hnc56 := NB249_262.out; have hnb57 := NB262_250.out; have hnc57 := NB250_262.out; have hcz58_0 : w55.cell? ⟨gb262, 0, none⟩ = some (.int .i64 0) := (blk_cell BK262.out 0).trans rfl; have hcz58_1 : w55.cell? ⟨gb262, 1, none⟩ = some (.bool false) := (blk_cell BK262.out 1).trans rfl; have hcz58_2 : w55.cell? ⟨gb262, 2, none⟩ = some (.string (⟨#[]⟩ : ByteArray)) := (blk_cell BK262.out 2).trans rfl; have hcz58_3 : w55.cell? ⟨gb262, 3, none⟩ = some (.string (⟨#[]⟩ : ByteArray)) := (blk_cell BK262.out 3).trans rfl; have hcz58_4 : w55.cell? ⟨gb262, 4, none⟩ = some (.bool false) := (blk_cell BK262.out 4).trans rfl; have hfz58_0 := blk_frozen BK262.out 0; have hfz58_1 := blk_frozen BK262.out 1; have hfz58_2 := blk_frozen BK262.out 2; have hfz58_3 := blk_frozen BK262.out 3; have hfz58_4 := blk_frozen BK262.out 4; have hnb59 := NB249_250.out; have hnc59 := NB250_249.out; have hcz60_0 : w55.cell? ⟨gb249, 0, none⟩ = some (.slice A2_0 l2_0.length c2_0) := (blk_cell BK249.out 0).trans rfl; have hcz60_1 : w55.cell? ⟨gb249, 1, none⟩ = some (.bool a2_1) := (blk_cell BK249.out 1).trans rfl; have hcz60_2 : w55.cell? ⟨gb249, 2, none⟩ = some (.string a2_2) := (blk_cell BK249.out 2).trans rfl; have hfz60_0 := blk_frozen BK249.out 0; have hfz60_1 := blk_frozen BK249.out 1; have hfz60_2 := blk_frozen BK249.out 2; have p263 : 0 ≤ (0 : Int) := zq94; have q263 : 0 < (l2_0.length : Int) := of_decide_eq_true zq1; obtain ⟨ad263, e263, hx263_0⟩ := Kd.at_string HR2_0.out 0 p263 q263; cases e263; have qi263 : (0 < l2_0.length) = True := eq_true zq94; (try rw [show ((0 : Int)).toNat = 0 from rfl] at hx263_0); (try rw [Addr.add_zero'] at hx263_0); have hn263_0 : ad263.block ≠ gb262 := Nat.ne_of_lt (Nat.lt_of_lt_of_le zq69 GW262.out); have hn263_1 : ad263.block ≠ gb262 := Nat.ne_of_lt (Nat.lt_of_lt_of_le zq69 GW262.out); have hn263_2 : ad263.block ≠ gb262 := Nat.ne_of_lt (Nat.lt_of_lt_of_le zq69 GW262.out); have hn263_3 : ad263.block ≠ gb262 := Nat.ne_of_lt (Nat.lt_of_lt_of_le zq69 GW262.out); have hn263_4 : ad263.block ≠ gb262 := Nat.ne_of_lt (Nat.lt_of_lt_of_le zq69 GW262.out); replace hx263_0 := (HB.out.cell (World.block_lt_of_cell? w _ hx263_0)).trans hx263_0; replace hx263_0 := (cell_far (p := ⟨gb262, 0, none⟩) zq133 (.int .i64 2)).trans hx263_0; replace hx263_0 := (cell_far (p := ⟨gb262, 1, none⟩) zq132 (.bool false)).trans hx263_0; replace hx263_0 := (cell_far (p := ⟨gb262, 2, none⟩) zq131 (.string (⟨#[]⟩ : ByteArray))).trans hx263_0; replace hx263_0 := (cell_far (p := ⟨gb262, 3, none⟩) zq130 (.string (⟨#[]⟩ : ByteArray))).trans hx263_0; replace hx263_0 := (cell_far (p := ⟨gb262, 4, none⟩) zq129 (.bool false)).trans hx263_0; clear hn263_0; clear hn263_1; clear hn263_2; clear hn263_3; clear hn263_4; replace p263 := eq_true p263; replace q263 := eq_true q263) | ((with_reducible refine gate_callee (f := 49) rfl ?_); refine goesL_ (some 84) rfl rfl Tryd.func49 zq17 rfl #[.string (rdOf ByteArray.empty l2_0 0), .int .i64 a3] rfl zq2 ?_; (with_reducible refine (impl_Sum.calls k2 (rdOf ByteArray.empty l2_0 0) a3 t264 _ A52.out).mono ?_); rintro e w61 ⟨rfl, hb⟩; refine ⟨_, rfl, ?_⟩; have n0_ := AZ.mk (Kd.S_below zq80 hb); have n1_ := AZ.mk (blk_below (g := gb249) (o := .cells #[.slice (some ad263) l2_0.length c2_0, .bool a2_1, .string a2_2] 38 (0, 0)) zq66 hb); have n2_ := AZ.mk (blk_below (g := gb250) (o := .cells #[.int .i64 x251000_2, .bool x251001_2, .string x251002_2, .string x251003_2, .bool x251004_2] 36 (0, 0)) zq65 hb); have n3_ := AZ.mk (blk_below (g := gb262) (o := .cells #[.int .i64 2, .bool false, .string (⟨#[]⟩ : ByteArray), .string (⟨#[]⟩ : ByteArray), .bool false] 36 (0, 0)) zq46 hb); have n4_ := AZ.mk (below_step zq33 hb); clear HO_9; clear BK249; clear BK250; clear BK262; clear HB; have HO_9 := n0_; have BK249 := n1_; have BK250 := n2_; have BK262 := n3_; have HB := n4_; clear n0_ n1_ n2_ n3_ n4_; (try clear hb); (try clear hb2); (try clear hk); (try clear hi)) | ((with_reducible refine gate_callee (f := 50) rfl ?_); refine goesL_ (some 89) rfl rfl Tryd.func50 zq17 rfl #[.string a1, .string (⟨#[47]⟩ : ByteArray)] rfl zq2 ?_; (with_reducible refine (strings_Split.calls a1 (⟨#[47]⟩ : ByteArray) t265 _ A54.out).mono ?_); rintro e w62 ⟨v266, rfl, ho0, hb⟩; refine ⟨_, rfl, ?_⟩; have n0_ := AZ.mk (Kd.S_below zq22 hb); have n1_ := AZ.mk (Kd.R_lower ho0 (below_size zq33)); have n2_ := AZ.mk (blk_below (g := gb249) (o := .cells #[.slice (some ad263) l2_0.length c2_0, .bool a2_1, .string a2_2] 38 (0, 0)) zq11 hb); have n3_ := AZ.mk (blk_below (g := gb250) (o := .cells #[.int .i64 x251000_2, .bool x251001_2, .string x251002_2, .string x251003_2, .bool x251004_2] 36 (0, 0)) zq13 hb); have n4_ := AZ.mk (blk_below (g := gb262) (o := .cells #[.int .i64 2, .bool false, .string (⟨#[]⟩ : ByteArray), .string (⟨#[]⟩ : ByteArray), .bool false] 36 (0, 0)) zq25 hb); have n5_ := AZ.mk (below_step zq33 hb); clear HO_9; clear BK249; clear BK250; clear BK262; clear HB; have HO_9 := n0_; have HO267 := n1_; have BK249 := n2_; have BK250 := n3_; have BK262 := n4_; have HB := n5_; clear n0_ n1_ n2_ n3_ n4_ n5_; (try clear hb); (try clear hb2); (try clear hk); (try clear hi); (try clear ho0)))
         go_loopg [16] k2 (fun kq v16 w' => ∃ (x16_3 : Int) (x251000_3 : Int) (x251001_3 : Bool) (x251002_3 : ByteArray) (x251003_3 : ByteArray) (x251004_3 : Bool), v16 = .int .i64 x16_3 ∧ AZ (impl_Show.l1 kq a1 a3 x9_2 t265 x16_3 l2_0 a2_1 a2_2 2 false (⟨#[]⟩ : ByteArray) (⟨#[]⟩ : ByteArray) false = some (r1, r2, r3, r4, r5)) ∧ AZ (kq ≤ k2) ∧ AZ (Kd.S (Kd.slice 88 k88) 83 w' w.heap.size (fun _ => True) u9 x9_2) ∧ AZ (Kd.R Kd.string 9 w' w.heap.size (fun _ => True) v266 t265) ∧ AZ (w'.heap[gb249]? = some (.cells #[(.slice (some ad263) l2_0.length c2_0), .bool a2_1, .string a2_2] 38 (0, 0))) ∧ AZ (w'.heap[gb250]? = some (.cells #[.int .i64 x251000_3, .bool x251001_3, .string x251002_3, .string x251003_3, .bool x251004_3] 36 (0, 0))) ∧ AZ (w'.heap[gb262]? = some (.cells #[.int .i64 2, .bool false, .string (⟨#[]⟩ : ByteArray), .string (⟨#[]⟩ : ByteArray), .bool false] 36 (0, 0))) ∧ AZ (Below w.heap.size w w'))
         case atStart => exact ⟨(0), (x251000_2), (x251001_2), (x251002_2), (x251003_2), (x251004_2), zq8, H', ⟨Nat.le_refl _⟩, ⟨zq22⟩, ⟨by (with_reducible repeat (first | apply Kd.R_alloc | apply Kd.R_drewN | apply Kd.R_drew)); exact HO267.out⟩, ⟨zq11⟩, ⟨zq13⟩, ⟨zq25⟩, ⟨zq33⟩⟩
         case round =>
          clear H'
          try clear c1
          try clear c2
          try clear p2
          try clear q2
          try clear hx2
          try clear qi2
          try clear c3
          try clear c4
          try clear c5
          try clear p6
          try clear c9
          try clear c11
          try clear c13
          try clear c14
          try clear c14b0
          try clear c14b1
          try clear c16
          try clear c18
          try clear c20
          try clear c23
          try clear p25
          try clear q25
          try clear hx25
          try clear c26
          try clear p26
          try clear q26
          try clear hx26
          try clear qi26
          try clear c30
          try clear c31
          try clear c33
          try clear c35
          try clear c35b0
          try clear c36
          try clear c36b0
          try clear c37
          try clear c37b0
          try clear c39
          try clear c39b0
          try clear c39b1
          try clear c41
          try clear c43
          try clear c44
          try clear c46
          try clear c48
          try clear c49
          try clear c50
          try clear c51
          try clear c51b0
          try clear c51b1
          try clear c53
          try clear c53b0
          try clear c53b1
          try clear c56
          try clear c57
          try clear c59
          try clear hcz17_0
          try clear hcz17_1
          try clear hcz17_2
          try clear hcz21_0
          try clear hcz21_1
          try clear hcz21_2
          try clear hcz24_0
          try clear hcz24_1
          try clear hcz24_2
          try clear hcz27_0
          try clear hcz27_1
          try clear hcz27_2
          try clear hcz32_0
          try clear hcz32_1
          try clear hcz32_2
          try clear hcz32_3
          try clear hcz32_4
          try clear hcz34_0
          try clear hcz34_1
          try clear hcz34_2
          try clear hcz42_0
          try clear hcz42_1
          try clear hcz42_2
          try clear hcz42_3
          try clear hcz42_4
          try clear hcz50_0
          try clear hcz50_1
          try clear hcz50_2
          try clear hcz50_3
          try clear hcz50_4
          try clear hcz58_0
          try clear hcz58_1
          try clear hcz58_2
          try clear hcz58_3
          try clear hcz58_4
          try clear hcz60_0
          try clear hcz60_1
          try clear hcz60_2
          try clear hfz17_0
          try clear hfz17_1
          try clear hfz17_2
          try clear hfz21_0
          try clear hfz21_1
          try clear hfz21_2
          try clear hfz24_0
          try clear hfz24_1
          try clear hfz24_2
          try clear hfz27_0
          try clear hfz27_1
          try clear hfz27_2
          try clear hfz32_0
          try clear hfz32_1
          try clear hfz32_2
          try clear hfz32_3
          try clear hfz32_4
          try clear hfz34_0
          try clear hfz34_1
          try clear hfz34_2
          try clear hfz42_0
          try clear hfz42_1
          try clear hfz42_2
          try clear hfz42_3
          try clear hfz42_4
          try clear hfz50_0
          try clear hfz50_1
          try clear hfz50_2
          try clear hfz50_3
          try clear hfz50_4
          try clear hfz58_0
          try clear hfz58_1
          try clear hfz58_2
          try clear hfz58_3
          try clear hfz58_4
          try clear hfz60_0
          try clear hfz60_1
          try clear hfz60_2
          try clear hx254_0
          try clear hx263_0
          try clear p2
          try clear p254
          try clear p263
          try clear q254
          try clear q263
          obtain ⟨x16_3, x251000_3, x251001_3, x251002_3, x251003_3, x251004_3, rfl, HA, HK3, HO_9, HO_15, BK249, BK250, BK262, HB⟩ := hrel
          cases gk with
          | zero => exact absurd HA.out (by simp [impl_Show.l1])
          | succ k3 =>
           have H := HA.out
           clear HA
           simp only [impl_Show.l1] at H
           by_cases c63 : 0 ≤ x16_3
           ·rw [if_pos c63] at H
            have c63b0 : decide (0 ≤ x16_3) = true := decide_eq_true c63
            clear c63
            by_cases c64 : x16_3 < (x9_2.length : Int)
            ·rw [if_pos c64] at H
             have c64b0 : decide (x16_3 < (x9_2.length : Int)) = true := decide_eq_true c64
             clear c64
             have H' := AZ.mk H
             clear H
             go_wp2_with (first | ((with_reducible refine gate_dst (N := 17) rfl ?_); (try (refine gate_guard zq105 ?_; dsimp only)); refine box_event ?hg (N := 17) ?hd (cs := #[.string (⟨#[]⟩ : ByteArray), .string (⟨#[]⟩ : ByteArray), .string (⟨#[]⟩ : ByteArray)]) (t := 88) ?hr ?_; (case hd => rfl); (case hg => rfl); (case hr => first | (go_simp; done) | (go_simp; rfl)); intro gb268 hg w65 hbox hb; have n0_ := AZ.mk (Kd.S_below (Kd.S_elderB zq22 gb268 (Nat.le_of_eq hg.symm)) hb); have n1_ := AZ.mk (Kd.R_below zq62 hb); have n2_ := AZ.mk (blk_below (g := gb249) (o := .cells #[.slice (some ad263) l2_0.length c2_0, .bool a2_1, .string a2_2] 38 (0, 0)) zq11 hb); have n3_ := AZ.mk (blk_below (g := gb250) (o := .cells #[.int .i64 x251000_3, .bool x251001_3, .string x251002_3, .string x251003_3, .bool x251004_3] 36 (0, 0)) zq13 hb); have n4_ := AZ.mk (blk_below (g := gb262) (o := .cells #[.int .i64 2, .bool false, .string (⟨#[]⟩ : ByteArray), .string (⟨#[]⟩ : ByteArray), .bool false] 36 (0, 0)) zq25 hb); have n5_ := AZ.mk (below_step zq33 hb); have n6_ := AZ.mk (hbox); have n7_ := AZ.mk ((by rw [hg]; exact (below_size zq33) : w.heap.size ≤ gb268)); have n8_ := AZ.mk ((by rw [hg]; exact (below_size zq33) : w.heap.size ≤ gb268)); have n9_ := AZ.mk ((by rw [hg]; exact Nat.ne_of_lt (blk_lt (g := gb249) (o := .cells #[.slice (some ad263) l2_0.length c2_0, .bool a2_1, .string a2_2] 38 (0, 0)) zq11) : gb249 ≠ gb268)); have n10_ := AZ.mk ((by rw [hg]; exact Nat.ne_of_gt (blk_lt (g := gb249) (o := .cells #[.slice (some ad263) l2_0.length c2_0, .bool a2_1, .string a2_2] 38 (0, 0)) zq11) : gb268 ≠ gb249)); have n11_ := AZ.mk ((by rw [hg]; exact Nat.ne_of_lt (blk_lt (g := gb250) (o := .cells #[.int .i64 x251000_3, .bool x251001_3, .string x251002_3, .string x251003_3, .bool x251004_3] 36 (0, 0)) zq13) : gb250 ≠ gb268)); have n12_ := AZ.mk ((by rw [hg]; exact Nat.ne_of_gt (blk_lt (g := gb250) (o := .cells #[.int .i64 x251000_3, .bool x251001_3, .string x251002_3, .string x251003_3, .bool x251004_3] 36 (0, 0)) zq13) : gb268 ≠ gb250)); have n13_ := AZ.mk ((by rw [hg]; exact Nat.ne_of_lt (blk_lt (g := gb262) (o := .cells #[.int .i64 2, .bool false, .string (⟨#[]⟩ : ByteArray), .string (⟨#[]⟩ : ByteArray), .bool false] 36 (0, 0)) zq25) : gb262 ≠ gb268)); have n14_ := AZ.mk ((by rw [hg]; exact Nat.ne_of_gt (blk_lt (g := gb262) (o := .cells #[.int .i64 2, .bool false, .string (⟨#[]⟩ : ByteArray), .string (⟨#[]⟩ : ByteArray), .bool false] 36 (0, 0)) zq25) : gb268 ≠ gb262)); clear HO_9; clear HO_15; clear BK249; clear BK250; clear BK262; clear HB; have HO_9 := n0_; have HO_15 := n1_; have BK249 := n2_; have BK250 := n3_; have BK262 := n4_; have HB := n5_; have BK268 := n6_; have GW268 := n7_; have GE268 := n8_; have NB249_268 := n9_; have NB268_249 := n10_; have NB250_268 := n11_; have NB268_250 := n12_; have NB262_268 := n13_; have NB268_262 := n14_; clear n0_ n1_ n2_ n3_ n4_ n5_ n6_ n7_ n8_ n9_ n10_ n11_ n12_ n13_ n14_; clear hb hbox hg; obtain ⟨Ao66, co66, eo66⟩ := Kd.S_slice HO_9.out; subst eo66; have p269 : 0 ≤ (x16_3 : Int) := of_decide_eq_true zq1; have q269 : x16_3 < (x9_2.length : Int) := of_decide_eq_true zq1; obtain ⟨ad269, A269_0, c269_0, e269, hx269_0, hl269_0, hi269_0⟩ := at_L8 (Kd.S_reads' HO_9.out).2.2 x16_3 p269 q269; cases e269; obtain ⟨ce269, hce269, hMe269, hcc269⟩ := Kd.S_get HO_9.out [] x16_3 p269 (by first | exact q269 | exact of_decide_eq_true zq1 | (have e_ := (Kd.S_reads' HO_9.out).1; omega)); obtain ⟨ve269_0, rfl, ge269_0⟩ := hMe269; have hv269_0 := hcc269 0 _ rfl; rw [Nat.add_zero, show ((Kd.slice 88 k88)).sz = 1 from rfl, Nat.mul_one] at hv269_0; replace hv269_0 := Option.some.inj (hv269_0.symm.trans hx269_0); rw [hv269_0] at ge269_0; have HL269_0 := AZ.mk (show Kd.R k88 88 _ _ _ _ (rd_L8 x9_2 x16_3) from ge269_0); clear hv269_0 ge269_0; clear hcc269 hce269; have HR269_0 := AZ.mk hi269_0; have HC269_0 := AZ.mk hl269_0; clear hi269_0 hl269_0; replace p269 := eq_true p269; replace q269 := eq_true q269))
             go_loopg [97] k3 (fun kq v97 w' => ∃ (x97_4 : Int) (x269000_4 : ByteArray) (x269001_4 : ByteArray) (x269002_4 : ByteArray), v97 = .int .i64 x97_4 ∧ AZ (impl_Show.l2 kq a1 a3 x9_2 t265 x16_3 (rd_L8 x9_2 x16_3) ((rd_L8 x9_2 x16_3).length : Int) x97_4 l2_0 a2_1 a2_2 2 false (⟨#[]⟩ : ByteArray) (⟨#[]⟩ : ByteArray) false x269000_4 x269001_4 x269002_4 = some (r1, r2, r3, r4, r5)) ∧ AZ (kq ≤ k3) ∧ AZ (Kd.S (Kd.slice 88 k88) 83 w' w.heap.size (fun k_ => k_ ≠ gb268) (.slice (some ad269) x9_2.length co66) x9_2) ∧ AZ (Kd.R Kd.string 9 w' w.heap.size (fun _ => True) v266 t265) ∧ AZ (w'.heap[gb249]? = some (.cells #[(.slice (some ad263) l2_0.length c2_0), .bool a2_1, .string a2_2] 38 (0, 0))) ∧ AZ (w'.heap[gb250]? = some (.cells #[.int .i64 x251000_3, .bool x251001_3, .string x251002_3, .string x251003_3, .bool x251004_3] 36 (0, 0))) ∧ AZ (w'.heap[gb262]? = some (.cells #[.int .i64 2, .bool false, .string (⟨#[]⟩ : ByteArray), .string (⟨#[]⟩ : ByteArray), .bool false] 36 (0, 0))) ∧ AZ (w'.heap[gb268]? = some (.cells #[.string x269000_4, .string x269001_4, .string x269002_4] 88 (0, 0))) ∧ AZ (Below w.heap.size w w') ∧ AZ (Kept w65 w' (fun k => k = gb268)))
             case atStart => exact ⟨(0), ((⟨#[]⟩ : ByteArray)), ((⟨#[]⟩ : ByteArray)), ((⟨#[]⟩ : ByteArray)), zq8, H', ⟨Nat.le_refl _⟩, ⟨zq115⟩, ⟨zq62⟩, ⟨zq11⟩, ⟨zq13⟩, ⟨zq25⟩, ⟨zq32⟩, ⟨zq5⟩, ⟨⟨Nat.le_refl _, fun _ _ _ => rfl⟩⟩⟩
             case round =>
              clear H'
              try clear c1
              try clear c2
              try clear p2
              try clear q2
              try clear hx2
              try clear qi2
              try clear c3
              try clear c4
              try clear c5
              try clear c6
              try clear p6
              try clear c9
              try clear c11
              try clear c13
              try clear c14
              try clear c14b0
              try clear c14b1
              try clear c16
              try clear c18
              try clear c20
              try clear c23
              try clear p25
              try clear q25
              try clear hx25
              try clear c26
              try clear p26
              try clear q26
              try clear hx26
              try clear qi26
              try clear c30
              try clear c31
              try clear c33
              try clear c35
              try clear c35b0
              try clear c36
              try clear c36b0
              try clear c37
              try clear c37b0
              try clear c39
              try clear c39b0
              try clear c39b1
              try clear c41
              try clear c43
              try clear c44
              try clear c46
              try clear c48
              try clear c49
              try clear c50
              try clear c51
              try clear c51b0
              try clear c51b1
              try clear c53
              try clear c53b0
              try clear c53b1
              try clear c56
              try clear c57
              try clear c59
              try clear c63
              try clear c63b0
              try clear c64
              try clear c64b0
              try clear p64
              try clear hcz17_0
              try clear hcz17_1
              try clear hcz17_2
              try clear hcz21_0
              try clear hcz21_1
              try clear hcz21_2
              try clear hcz24_0
              try clear hcz24_1
              try clear hcz24_2
              try clear hcz27_0
              try clear hcz27_1
              try clear hcz27_2
              try clear hcz32_0
              try clear hcz32_1
              try clear hcz32_2
              try clear hcz32_3
              try clear hcz32_4
              try clear hcz34_0
              try clear hcz34_1
              try clear hcz34_2
              try clear hcz42_0
              try clear hcz42_1
              try clear hcz42_2
              try clear hcz42_3
              try clear hcz42_4
              try clear hcz50_0
              try clear hcz50_1
              try clear hcz50_2
              try clear hcz50_3
              try clear hcz50_4
              try clear hcz58_0
              try clear hcz58_1
              try clear hcz58_2
              try clear hcz58_3
              try clear hcz58_4
              try clear hcz60_0
              try clear hcz60_1
              try clear hcz60_2
              try clear hfz17_0
              try clear hfz17_1
              try clear hfz17_2
              try clear hfz21_0
              try clear hfz21_1
              try clear hfz21_2
              try clear hfz24_0
              try clear hfz24_1
              try clear hfz24_2
              try clear hfz27_0
              try clear hfz27_1
              try clear hfz27_2
              try clear hfz32_0
              try clear hfz32_1
              try clear hfz32_2
              try clear hfz32_3
              try clear hfz32_4
              try clear hfz34_0
              try clear hfz34_1
              try clear hfz34_2
              try clear hfz42_0
              try clear hfz42_1
              try clear hfz42_2
              try clear hfz42_3
              try clear hfz42_4
              try clear hfz50_0
              try clear hfz50_1
              try clear hfz50_2
              try clear hfz50_3
              try clear hfz50_4
              try clear hfz58_0
              try clear hfz58_1
              try clear hfz58_2
              try clear hfz58_3
              try clear hfz58_4
              try clear hfz60_0
              try clear hfz60_1
              try clear hfz60_2
              try clear hx254_0
              try clear hx263_0
              try clear hx269_0
              try clear p2
              try clear p25
              try clear p254
              try clear p26
              try clear p263
              try clear p269
              try clear p6
              try clear q2
              try clear q25
              try clear q254
              try clear q26
              try clear q263
              try clear q269
              obtain ⟨x97_4, x269000_4, x269001_4, x269002_4, rfl, HA, HK4, HO_9, HO_15, BK249, BK250, BK262, BK268, HB, KT⟩ := hrel
              cases gk with
              | zero => exact absurd HA.out (by simp [impl_Show.l2])
              | succ k4 =>
               have H := HA.out
               clear HA
               simp only [impl_Show.l2] at H
               by_cases c67 : x97_4 < ((rd_L8 x9_2 x16_3).length : Int)
               ·rw [if_pos c67] at H
                have c67b0 : decide (x97_4 < ((rd_L8 x9_2 x16_3).length : Int)) = true := decide_eq_true c67
                clear c67
                by_cases c68 : 0 ≤ x97_4
                ·rw [if_pos c68] at H
                 have c68b0 : decide (0 ≤ x97_4) = true := decide_eq_true c68
                 clear c68
                 by_cases c69 : x97_4 < ((rd_L8 x9_2 x16_3).length : Int)
                 ·rw [if_pos c69] at H
                  have c69b0 : decide (x97_4 < ((rd_L8 x9_2 x16_3).length : Int)) = true := decide_eq_true c69
                  clear c69
                  by_cases c70 : 0 ≤ x16_3
                  ·rw [if_pos c70] at H
                   have c70b0 : decide (0 ≤ x16_3) = true := decide_eq_true c70
                   clear c70
                   by_cases c71 : x16_3 < (t265.length : Int)
                   ·rw [if_pos c71] at H
                    have c71b0 : decide (x16_3 < (t265.length : Int)) = true := decide_eq_true c71
                    clear c71
                    by_cases c72 : ((rd_T88 (rd_L8 x9_2 x16_3) x97_4).f1).toList = (rdOf ByteArray.empty t265 x16_3).toList
                    ·rw [if_pos c72] at H
                     have c72b0 : (((rd_T88 (rd_L8 x9_2 x16_3) x97_4).f1).toList == (rdOf ByteArray.empty t265 x16_3).toList) = true := beq_iff_eq.mpr c72
                     have c72b1 : (((rd_T88 (rd_L8 x9_2 x16_3) x97_4).f1).toList != (rdOf ByteArray.empty t265 x16_3).toList) = false := bne_eq_false_iff_eq.mpr c72
                     clear c72
                     have H' := AZ.mk H
                     clear H
                     have p270 : 0 ≤ (x97_4 : Int) := of_decide_eq_true zq1
                     have q270 : x97_4 < ((rd_L8 x9_2 x16_3).length : Int) := of_decide_eq_true zq1
                     obtain ⟨ad270, e270, hx270_0, hx270_1, hx270_2⟩ := at_T88 (Kd.R_reads' (Kd.R_kept HL269_0.out KT.out (fun k hk => by first | exact hk.1.2 | exact hk.2 | exact hk.1 | exact hk.1.1.2))).2.2 x97_4 p270 q270
                     cases e270
                     replace p270 := eq_true p270
                     replace q270 := eq_true q270
                     try go_wp2_with (first | ((with_reducible refine gate_dst (N := 19) rfl ?_); (try (refine gate_guard zq105 ?_; dsimp only)); refine box_event ?hg (N := 19) ?hd (cs := #[.string (⟨#[]⟩ : ByteArray), .string (⟨#[]⟩ : ByteArray), .string (⟨#[]⟩ : ByteArray)]) (t := 88) ?hr ?_; (case hd => rfl); (case hg => rfl); (case hr => first | (go_simp; done) | (go_simp; rfl)); intro gb271 hg w73 hbox hb; have KG := AZ.mk (show w65.heap.size ≤ gb271 by rw [hg]; exact KT.out.1); have KT1 := AZ.mk (show Kept w65 w73 (fun k => k = gb268) from kept_below_ hb KT.out); clear KT; have KT := KT1; clear KT1; have n0_ := AZ.mk (Kd.S_below (Kd.S_elderB zq22 gb271 (Nat.le_of_eq hg.symm)) hb); have n1_ := AZ.mk (Kd.R_below zq62 hb); have n2_ := AZ.mk (blk_below (g := gb249) (o := .cells #[.slice (some ad263) l2_0.length c2_0, .bool a2_1, .string a2_2] 38 (0, 0)) zq11 hb); have n3_ := AZ.mk (blk_below (g := gb250) (o := .cells #[.int .i64 x251000_3, .bool x251001_3, .string x251002_3, .string x251003_3, .bool x251004_3] 36 (0, 0)) zq13 hb); have n4_ := AZ.mk (blk_below (g := gb262) (o := .cells #[.int .i64 2, .bool false, .string (⟨#[]⟩ : ByteArray), .string (⟨#[]⟩ : ByteArray), .bool false] 36 (0, 0)) zq25 hb); have n5_ := AZ.mk (blk_below (g := gb268) (o := .cells #[.string x269000_4, .string x269001_4, .string x269002_4] 88 (0, 0)) zq32 hb); have n6_ := AZ.mk (below_step zq5 hb); have n7_ := AZ.mk (hbox); have n8_ := AZ.mk ((by rw [hg]; exact (below_size zq5) : w.heap.size ≤ gb271)); have n9_ := AZ.mk ((by rw [hg]; exact (below_size zq5) : w.heap.size ≤ gb271)); have n10_ := AZ.mk ((by rw [hg]; exact Nat.ne_of_lt (blk_lt (g := gb249) (o := .cells #[.slice (some ad263) l2_0.length c2_0, .bool a2_1, .string a2_2] 38 (0, 0)) zq11) : gb249 ≠ gb271)); have n11_ := AZ.mk ((by rw [hg]; exact Nat.ne_of_gt (blk_lt (g := gb249) (o := .cells #[.slice (some ad263) l2_0.length c2_0, .bool a2_1, .string a2_2] 38 (0, 0)) zq11) : gb271 ≠ gb249)); have n12_ := AZ.mk ((by rw [hg]; exact Nat.ne_of_lt (blk_lt (g := gb250) (o := .cells #[.int .i64 x251000_3, .bool x251001_3, .string x251002_3, .string x251003_3, .bool x251004_3] 36 (0, 0)) zq13) : gb250 ≠ gb271)); have n13_ := AZ.mk ((by rw [hg]; exact Nat.ne_of_gt (blk_lt (g := gb250) (o := .cells #[.int .i64 x251000_3, .bool x251001_3, .string x251002_3, .string x251003_3, .bool x251004_3] 36 (0, 0)) zq13) : gb271 ≠ gb250)); have n14_ := AZ.mk ((by rw [hg]; exact Nat.ne_of_lt (blk_lt (g := gb262) (o := .cells #[.int .i64 2, .bool false, .string (⟨#[]⟩ : ByteArray), .string (⟨#[]⟩ : ByteArray), .bool false] 36 (0, 0)) zq25) : gb262 ≠ gb271)); have n15_ := AZ.mk ((by rw [hg]; exact Nat.ne_of_gt (blk_lt (g := gb262) (o := .cells #[.int .i64 2, .bool false, .string (⟨#[]⟩ : ByteArray), .string (⟨#[]⟩ : ByteArray), .bool false] 36 (0, 0)) zq25) : gb271 ≠ gb262)); have n16_ := AZ.mk ((by rw [hg]; exact Nat.ne_of_lt (blk_lt (g := gb268) (o := .cells #[.string x269000_4, .string x269001_4, .string x269002_4] 88 (0, 0)) zq32) : gb268 ≠ gb271)); have n17_ := AZ.mk ((by rw [hg]; exact Nat.ne_of_gt (blk_lt (g := gb268) (o := .cells #[.string x269000_4, .string x269001_4, .string x269002_4] 88 (0, 0)) zq32) : gb271 ≠ gb268)); clear HO_9; clear HO_15; clear BK249; clear BK250; clear BK262; clear BK268; clear HB; have HO_9 := n0_; have HO_15 := n1_; have BK249 := n2_; have BK250 := n3_; have BK262 := n4_; have BK268 := n5_; have HB := n6_; have BK271 := n7_; have GW271 := n8_; have GE271 := n9_; have NB249_271 := n10_; have NB271_249 := n11_; have NB250_271 := n12_; have NB271_250 := n13_; have NB262_271 := n14_; have NB271_262 := n15_; have NB268_271 := n16_; have NB271_268 := n17_; clear n0_ n1_ n2_ n3_ n4_ n5_ n6_ n7_ n8_ n9_ n10_ n11_ n12_ n13_ n14_ n15_ n16_ n17_; clear hb hbox hg; have hnb74 := NB271_249.out; have hnc74 := NB249_271.out; have hnb75 := NB271_250.out; have hnc75 := NB250_271.out; have hnb76 := NB271_262.out; have hnc76 := NB262_271.out; have hnb77 := NB271_268.out; have hnc77 := NB268_271.out; have hcz78_0 : w73.cell? ⟨gb271, 0, none⟩ = some (.string (⟨#[]⟩ : ByteArray)) := (blk_cell BK271.out 0).trans rfl; have hcz78_1 : w73.cell? ⟨gb271, 1, none⟩ = some (.string (⟨#[]⟩ : ByteArray)) := (blk_cell BK271.out 1).trans rfl; have hcz78_2 : w73.cell? ⟨gb271, 2, none⟩ = some (.string (⟨#[]⟩ : ByteArray)) := (blk_cell BK271.out 2).trans rfl; have hfz78_0 := blk_frozen BK271.out 0; have hfz78_1 := blk_frozen BK271.out 1; have hfz78_2 := blk_frozen BK271.out 2))
                     have n0_ : AZ (Kd.S (Kd.slice 88 k88) 83 (((w73.setCell ⟨gb271, 0, none⟩ (.string ((rd_T88 (rd_L8 x9_2 x16_3) x97_4).f0))).setCell ⟨gb271, 1, none⟩ (.string ((rd_T88 (rd_L8 x9_2 x16_3) x97_4).f1))).setCell ⟨gb271, 2, none⟩ (.string ((rd_T88 (rd_L8 x9_2 x16_3) x97_4).f2))) w.heap.size (fun k_ => k_ ≠ gb268 ∧ k_ ≠ gb271) (.slice (some ad269) x9_2.length co66) x9_2) := ⟨zq85⟩
                     have n1_ : AZ (Kd.R Kd.string 9 (((w73.setCell ⟨gb271, 0, none⟩ (.string ((rd_T88 (rd_L8 x9_2 x16_3) x97_4).f0))).setCell ⟨gb271, 1, none⟩ (.string ((rd_T88 (rd_L8 x9_2 x16_3) x97_4).f1))).setCell ⟨gb271, 2, none⟩ (.string ((rd_T88 (rd_L8 x9_2 x16_3) x97_4).f2))) w.heap.size (fun _ => True) v266 t265) := ⟨zq95⟩
                     have n2_ : AZ ((((w73.setCell ⟨gb271, 0, none⟩ (.string ((rd_T88 (rd_L8 x9_2 x16_3) x97_4).f0))).setCell ⟨gb271, 1, none⟩ (.string ((rd_T88 (rd_L8 x9_2 x16_3) x97_4).f1))).setCell ⟨gb271, 2, none⟩ (.string ((rd_T88 (rd_L8 x9_2 x16_3) x97_4).f2))).heap[gb249]? = some (.cells #[.slice (some ad263) l2_0.length c2_0, .bool a2_1, .string a2_2] 38 (0, 0))) := ⟨zq90⟩
                     have n3_ : AZ ((((w73.setCell ⟨gb271, 0, none⟩ (.string ((rd_T88 (rd_L8 x9_2 x16_3) x97_4).f0))).setCell ⟨gb271, 1, none⟩ (.string ((rd_T88 (rd_L8 x9_2 x16_3) x97_4).f1))).setCell ⟨gb271, 2, none⟩ (.string ((rd_T88 (rd_L8 x9_2 x16_3) x97_4).f2))).heap[gb250]? = some (.cells #[.int .i64 x251000_3, .bool x251001_3, .string x251002_3, .string x251003_3, .bool x251004_3] 36 (0, 0))) := ⟨zq89⟩
                     have n4_ : AZ ((((w73.setCell ⟨gb271, 0, none⟩ (.string ((rd_T88 (rd_L8 x9_2 x16_3) x97_4).f0))).setCell ⟨gb271, 1, none⟩ (.string ((rd_T88 (rd_L8 x9_2 x16_3) x97_4).f1))).setCell ⟨gb271, 2, none⟩ (.string ((rd_T88 (rd_L8 x9_2 x16_3) x97_4).f2))).heap[gb262]? = some (.cells #[.int .i64 2, .bool false, .string (⟨#[]⟩ : ByteArray), .string (⟨#[]⟩ : ByteArray), .bool false] 36 (0, 0))) := ⟨zq88⟩
                     have n5_ : AZ ((((w73.setCell ⟨gb271, 0, none⟩ (.string ((rd_T88 (rd_L8 x9_2 x16_3) x97_4).f0))).setCell ⟨gb271, 1, none⟩ (.string ((rd_T88 (rd_L8 x9_2 x16_3) x97_4).f1))).setCell ⟨gb271, 2, none⟩ (.string ((rd_T88 (rd_L8 x9_2 x16_3) x97_4).f2))).heap[gb268]? = some (.cells #[.string x269000_4, .string x269001_4, .string x269002_4] 88 (0, 0))) := ⟨zq87⟩
                     have n6_ : AZ ((((w73.setCell ⟨gb271, 0, none⟩ (.string ((rd_T88 (rd_L8 x9_2 x16_3) x97_4).f0))).setCell ⟨gb271, 1, none⟩ (.string ((rd_T88 (rd_L8 x9_2 x16_3) x97_4).f1))).setCell ⟨gb271, 2, none⟩ (.string ((rd_T88 (rd_L8 x9_2 x16_3) x97_4).f2))).heap[gb271]? = some (.cells #[.string ((rd_T88 (rd_L8 x9_2 x16_3) x97_4).f0), .string ((rd_T88 (rd_L8 x9_2 x16_3) x97_4).f1), .string ((rd_T88 (rd_L8 x9_2 x16_3) x97_4).f2)] 88 (0, 0))) := ⟨zq63⟩
                     have n7_ : AZ (Below w.heap.size w (((w73.setCell ⟨gb271, 0, none⟩ (.string ((rd_T88 (rd_L8 x9_2 x16_3) x97_4).f0))).setCell ⟨gb271, 1, none⟩ (.string ((rd_T88 (rd_L8 x9_2 x16_3) x97_4).f1))).setCell ⟨gb271, 2, none⟩ (.string ((rd_T88 (rd_L8 x9_2 x16_3) x97_4).f2)))) := ⟨zq64⟩
                     (try clear HO_9)
                     (try clear HO_15)
                     (try clear BK249)
                     (try clear BK250)
                     (try clear BK262)
                     (try clear BK268)
                     (try clear BK271)
                     (try clear HB)
                     have nk_ : AZ (Kept w65 (((w73.setCell ⟨gb271, 0, none⟩ (.string ((rd_T88 (rd_L8 x9_2 x16_3) x97_4).f0))).setCell ⟨gb271, 1, none⟩ (.string ((rd_T88 (rd_L8 x9_2 x16_3) x97_4).f1))).setCell ⟨gb271, 2, none⟩ (.string ((rd_T88 (rd_L8 x9_2 x16_3) x97_4).f2))) (fun k => k = gb268)) := ⟨by (repeat (refine kept_set_ ?_ (Or.inr KG.out))); exact KT.out⟩
                     clear KT
                     generalize (((w73.setCell ⟨gb271, 0, none⟩ (.string ((rd_T88 (rd_L8 x9_2 x16_3) x97_4).f0))).setCell ⟨gb271, 1, none⟩ (.string ((rd_T88 (rd_L8 x9_2 x16_3) x97_4).f1))).setCell ⟨gb271, 2, none⟩ (.string ((rd_T88 (rd_L8 x9_2 x16_3) x97_4).f2))) = w79 at nk_ n0_ n1_ n2_ n3_ n4_ n5_ n6_ n7_ ⊢
                     have KT := nk_
                     clear nk_
                     have HO_9 := n0_
                     have HO_15 := n1_
                     have BK249 := n2_
                     have BK250 := n3_
                     have BK262 := n4_
                     have BK268 := n5_
                     have BK271 := n6_
                     have HB := n7_
                     clear n0_ n1_ n2_ n3_ n4_ n5_ n6_ n7_
                     have n0_ := AZ.mk (Kd.S_drew HO_9.out)
                     have n1_ := AZ.mk (Kd.R_drew HO_15.out)
                     have n2_ := AZ.mk (blk_drew BK249.out)
                     have n3_ := AZ.mk (blk_drew BK250.out)
                     have n4_ := AZ.mk (blk_drew BK262.out)
                     have n5_ := AZ.mk (blk_drew BK268.out)
                     have n6_ := AZ.mk (blk_drew BK271.out)
                     have n7_ := AZ.mk (below_drew1 HB.out)
                     clear HO_9
                     clear HO_15
                     clear BK249
                     clear BK250
                     clear BK262
                     clear BK268
                     clear BK271
                     clear HB
                     have HO_9 := n0_
                     have HO_15 := n1_
                     have BK249 := n2_
                     have BK250 := n3_
                     have BK262 := n4_
                     have BK268 := n5_
                     have BK271 := n6_
                     have HB := n7_
                     clear n0_ n1_ n2_ n3_ n4_ n5_ n6_ n7_
                     obtain ⟨Ao81, co81, eo81⟩ := Kd.R_slice HO_15.out
                     (first | subst eo81 | (injection eo81 with f1_ f2_ f3_; have f4_ := f1_.symm; have f5_ := f3_.symm; clear f1_ f2_ f3_; subst f4_; subst f5_))
                     have p272 : 0 ≤ (x16_3 : Int) := of_decide_eq_true zq1
                     have q272 : x16_3 < (t265.length : Int) := of_decide_eq_true zq1
                     obtain ⟨ad272, e272, hx272_0⟩ := Kd.at_string (Kd.R_reads' HO_15.out).2.2 x16_3 p272 q272
                     cases e272
                     replace p272 := eq_true p272
                     replace q272 := eq_true q272
                     refine start_ (n := 7) (S := fun w' => w'.cell? ⟨gb271, 0, none⟩ = some (.string ((rd_T88 (rd_L8 x9_2 x16_3) x97_4).f0)) ∧ w'.cell? ⟨gb271, 1, none⟩ = some (.string ((rd_T88 (rd_L8 x9_2 x16_3) x97_4).f1)) ∧ w'.cell? ⟨gb271, 2, none⟩ = some (.string ((rd_T88 (rd_L8 x9_2 x16_3) x97_4).f2)) ∧ w'.cell? (ad272.add (x16_3).toNat) = some (.string (rdOf ByteArray.empty t265 x16_3))) (ds := []) #[false, false, false, false, false, false, false] zq17 rfl rfl ⟨(blk_cell BK271.out 0).trans rfl, (blk_cell BK271.out 1).trans rfl, (blk_cell BK271.out 2).trans rfl, hx272_0⟩ (fun hH => ?_)
                     have nk_ : AZ (Kept w65 w79.drew (fun k => k = gb268)) := ⟨KT.out⟩
                     clear KT
                     have KT := nk_
                     clear nk_
                     generalize w79.drew = w80 at KT HO_9 HO_15 BK249 BK250 BK262 BK268 BK271 HB hx272_0 hH ⊢
                     refine pure_ (i := 0) (N := some 101) (v := ?_) (a' := ?_) #[true, false, false, false, false, false, false] rfl rfl zq17 (fun _ _ _ h => h) (Or.inl ⟨zq105, ?_⟩) ?_ ?_
                     rotate_left
                     ·intro w'
                      go_simp
                      with_reducible rfl
                     rotate_left
                     ·simp only [Act.put, List.setIfInBounds_toArray, List.set_cons_zero, List.set_cons_succ, i64_w, i32_w]
                      rfl
                     refine pure_ (i := 2) (N := some 103) (v := ?_) (a' := ?_) #[true, false, true, false, false, false, false] rfl rfl zq17 (fun _ _ _ h => h) (Or.inl ⟨zq105, ?_⟩) ?_ ?_
                     rotate_left
                     ·intro w'
                      go_simp
                      with_reducible rfl
                     rotate_left
                     ·simp only [Act.put, List.setIfInBounds_toArray, List.set_cons_zero, List.set_cons_succ, i64_w, i32_w]
                      rfl
                     refine pure_ (i := 3) (N := some 104) (v := ?_) (a' := ?_) #[true, false, true, true, false, false, false] rfl rfl zq17 (fun _ _ _ h => h) (Or.inl ⟨zq105, ?_⟩) ?_ ?_
                     rotate_left
                     ·intro w'
                      go_simp
                      with_reducible rfl
                     rotate_left
                     ·simp only [Act.put, List.setIfInBounds_toArray, List.set_cons_zero, List.set_cons_succ, i64_w, i32_w]
                      rfl
                     refine pure_ (i := 4) (N := some 105) (v := ?_) (a' := ?_) #[true, false, true, true, true, false, false] rfl rfl zq17 (fun _ _ _ h => h) (Or.inl ⟨zq105, ?_⟩) ?_ ?_
                     rotate_left
                     ·intro w'
                      go_simp
                      with_reducible rfl
                     rotate_left
                     ·simp only [Act.put, List.setIfInBounds_toArray, List.set_cons_zero, List.set_cons_succ, i64_w, i32_w]
                      rfl
                     refine take_ (i := 1) (N := some 102) (v := ?_) (a' := ?_) #[true, true, true, true, true, false, false] rfl rfl zq17 (fun _ _ _ h => h) (Or.inl ⟨zq105, ?_⟩) hH ?_ ?_
                     rotate_left
                     ·rintro w' ⟨s0, s1, s2, s3⟩
                      go_simp
                      with_reducible rfl
                     rotate_left
                     ·simp only [Act.put, List.setIfInBounds_toArray, List.set_cons_zero, List.set_cons_succ, i64_w, i32_w]
                      rfl
                     refine take_ (i := 5) (N := some 106) (v := ?_) (a' := ?_) #[true, true, true, true, true, true, false] rfl rfl zq17 (fun _ _ _ h => h) (Or.inl ⟨zq105, ?_⟩) hH ?_ ?_
                     rotate_left
                     ·rintro w' ⟨s0, s1, s2, s3⟩
                      go_simp
                      with_reducible rfl
                     rotate_left
                     ·simp only [Act.put, List.setIfInBounds_toArray, List.set_cons_zero, List.set_cons_succ, i64_w, i32_w]
                      rfl
                     refine pure_ (i := 6) (N := some 107) (v := ?_) (a' := ?_) #[true, true, true, true, true, true, true] rfl rfl zq17 (fun _ _ _ h => h) (Or.inl ⟨zq105, ?_⟩) ?_ ?_
                     rotate_left
                     ·intro w'
                      go_simp
                      with_reducible rfl
                     rotate_left
                     ·simp only [Act.put, List.setIfInBounds_toArray, List.set_cons_zero, List.set_cons_succ, i64_w, i32_w]
                      rfl
                     refine done_ zq17 ?_
                     have hcz82_0 : w80.cell? ⟨gb271, 0, none⟩ = some (.string ((rd_T88 (rd_L8 x9_2 x16_3) x97_4).f0)) := (blk_cell BK271.out 0).trans rfl
                     have hcz82_1 : w80.cell? ⟨gb271, 1, none⟩ = some (.string ((rd_T88 (rd_L8 x9_2 x16_3) x97_4).f1)) := (blk_cell BK271.out 1).trans rfl
                     have hcz82_2 : w80.cell? ⟨gb271, 2, none⟩ = some (.string ((rd_T88 (rd_L8 x9_2 x16_3) x97_4).f2)) := (blk_cell BK271.out 2).trans rfl
                     have hfz82_0 := blk_frozen BK271.out 0
                     have hfz82_1 := blk_frozen BK271.out 1
                     have hfz82_2 := blk_frozen BK271.out 2
                     have hnb83 := NB268_249.out
                     have hnc83 := NB249_268.out
                     have hnb84 := NB268_250.out
                     have hnc84 := NB250_268.out
                     have hnb85 := NB268_262.out
                     have hnc85 := NB262_268.out
                     have hcz86_0 : w80.cell? ⟨gb268, 0, none⟩ = some (.string x269000_4) := (blk_cell BK268.out 0).trans rfl
                     have hcz86_1 : w80.cell? ⟨gb268, 1, none⟩ = some (.string x269001_4) := (blk_cell BK268.out 1).trans rfl
                     have hcz86_2 : w80.cell? ⟨gb268, 2, none⟩ = some (.string x269002_4) := (blk_cell BK268.out 2).trans rfl
                     have hfz86_0 := blk_frozen BK268.out 0
                     have hfz86_1 := blk_frozen BK268.out 1
                     have hfz86_2 := blk_frozen BK268.out 2
                     try go_wp2
                     go_roundg k4
                     case measure => have := HJ4.out; have := HK2.out; have := HK3.out; have := HK4.out; omega
                     case rel => exact ⟨(wrap64 (x97_4 + 1)), ((rd_T88 (rd_L8 x9_2 x16_3) x97_4).f0), ((rd_T88 (rd_L8 x9_2 x16_3) x97_4).f1), ((rd_T88 (rd_L8 x9_2 x16_3) x97_4).f2), zq8, H', ⟨by have := HJ4.out; have := HK2.out; have := HK3.out; have := HK4.out; omega⟩, ⟨by (with_reducible repeat (first | apply Kd.S_alloc | apply Kd.S_drewN | apply Kd.S_drew)); exact Kd.S_mono (Kd.S_far (p := ⟨gb268, 2, none⟩) (Kd.S_far (p := ⟨gb268, 1, none⟩) (Kd.S_far (p := ⟨gb268, 0, none⟩) (Kd.S_mono HO_9.out (fun k_ hk => (⟨hk, hk.1⟩ : _ ∧ k_ ≠ gb268))) (fun _ hk => hk.2) (.string ((rd_T88 (rd_L8 x9_2 x16_3) x97_4).f0))) (fun _ hk => hk.2) (.string ((rd_T88 (rd_L8 x9_2 x16_3) x97_4).f1))) (fun _ hk => hk.2) (.string ((rd_T88 (rd_L8 x9_2 x16_3) x97_4).f2))) (fun _ hk => hk.1.1)⟩, ⟨by (with_reducible repeat (first | apply Kd.R_alloc | apply Kd.R_drewN | apply Kd.R_drew)); exact Kd.R_mono (Kd.R_far (p := ⟨gb268, 2, none⟩) (Kd.R_far (p := ⟨gb268, 1, none⟩) (Kd.R_far (p := ⟨gb268, 0, none⟩) (Kd.R_types HO_15.out BK268.out zq118) (fun _ hk => hk.2) (.string ((rd_T88 (rd_L8 x9_2 x16_3) x97_4).f0))) (fun _ hk => hk.2) (.string ((rd_T88 (rd_L8 x9_2 x16_3) x97_4).f1))) (fun _ hk => hk.2) (.string ((rd_T88 (rd_L8 x9_2 x16_3) x97_4).f2))) (fun _ hk => trivial)⟩, ⟨by (with_reducible repeat (first | refine blk_drewN ?_ _ | refine blk_drew ?_ | refine blk_alloc ?_ _)); refine blk_far ?_ NB249_268.out _; (with_reducible repeat (first | refine blk_drewN ?_ _ | refine blk_drew ?_ | refine blk_alloc ?_ _)); refine blk_far ?_ NB249_268.out _; (with_reducible repeat (first | refine blk_drewN ?_ _ | refine blk_drew ?_ | refine blk_alloc ?_ _)); refine blk_far ?_ NB249_268.out _; (with_reducible repeat (first | refine blk_drewN ?_ _ | refine blk_drew ?_ | refine blk_alloc ?_ _)); exact BK249.out⟩, ⟨by (with_reducible repeat (first | refine blk_drewN ?_ _ | refine blk_drew ?_ | refine blk_alloc ?_ _)); refine blk_far ?_ NB250_268.out _; (with_reducible repeat (first | refine blk_drewN ?_ _ | refine blk_drew ?_ | refine blk_alloc ?_ _)); refine blk_far ?_ NB250_268.out _; (with_reducible repeat (first | refine blk_drewN ?_ _ | refine blk_drew ?_ | refine blk_alloc ?_ _)); refine blk_far ?_ NB250_268.out _; (with_reducible repeat (first | refine blk_drewN ?_ _ | refine blk_drew ?_ | refine blk_alloc ?_ _)); exact BK250.out⟩, ⟨by (with_reducible repeat (first | refine blk_drewN ?_ _ | refine blk_drew ?_ | refine blk_alloc ?_ _)); refine blk_far ?_ NB262_268.out _; (with_reducible repeat (first | refine blk_drewN ?_ _ | refine blk_drew ?_ | refine blk_alloc ?_ _)); refine blk_far ?_ NB262_268.out _; (with_reducible repeat (first | refine blk_drewN ?_ _ | refine blk_drew ?_ | refine blk_alloc ?_ _)); refine blk_far ?_ NB262_268.out _; (with_reducible repeat (first | refine blk_drewN ?_ _ | refine blk_drew ?_ | refine blk_alloc ?_ _)); exact BK262.out⟩, ⟨by (with_reducible repeat (first | refine blk_drewN ?_ _ | refine blk_drew ?_ | refine blk_alloc ?_ _)); refine blk_put (cs := #[.string ((rd_T88 (rd_L8 x9_2 x16_3) x97_4).f0), .string ((rd_T88 (rd_L8 x9_2 x16_3) x97_4).f1), .string x269002_4]) ?_ 2 _ rfl; (with_reducible repeat (first | refine blk_drewN ?_ _ | refine blk_drew ?_ | refine blk_alloc ?_ _)); refine blk_put (cs := #[.string ((rd_T88 (rd_L8 x9_2 x16_3) x97_4).f0), .string x269001_4, .string x269002_4]) ?_ 1 _ rfl; (with_reducible repeat (first | refine blk_drewN ?_ _ | refine blk_drew ?_ | refine blk_alloc ?_ _)); refine blk_put (cs := #[.string x269000_4, .string x269001_4, .string x269002_4]) ?_ 0 _ rfl; (with_reducible repeat (first | refine blk_drewN ?_ _ | refine blk_drew ?_ | refine blk_alloc ?_ _)); exact BK268.out⟩, ⟨zq64⟩, ⟨by (repeat (refine kept_set_ ?_ (Or.inl rfl))); exact KT.out⟩⟩
                    ·rw [if_neg c72] at H
                     have c72b0 : (((rd_T88 (rd_L8 x9_2 x16_3) x97_4).f1).toList == (rdOf ByteArray.empty t265 x16_3).toList) = false := beq_eq_false_iff_ne.mpr c72
                     have c72b1 : (((rd_T88 (rd_L8 x9_2 x16_3) x97_4).f1).toList != (rdOf ByteArray.empty t265 x16_3).toList) = true := bne_iff_ne.mpr c72
                     have H' := AZ.mk H
                     clear H
                     have p270 : 0 ≤ (x97_4 : Int) := of_decide_eq_true zq1
                     have q270 : x97_4 < ((rd_L8 x9_2 x16_3).length : Int) := of_decide_eq_true zq1
                     obtain ⟨ad270, e270, hx270_0, hx270_1, hx270_2⟩ := at_T88 (Kd.R_reads' (Kd.R_kept HL269_0.out KT.out (fun k hk => by first | exact hk.1.2 | exact hk.2 | exact hk.1 | exact hk.1.1.2))).2.2 x97_4 p270 q270
                     cases e270
                     replace p270 := eq_true p270
                     replace q270 := eq_true q270
                     try go_wp2_with (first | ((with_reducible refine gate_dst (N := 19) rfl ?_); (try (refine gate_guard zq105 ?_; dsimp only)); refine box_event ?hg (N := 19) ?hd (cs := #[.string (⟨#[]⟩ : ByteArray), .string (⟨#[]⟩ : ByteArray), .string (⟨#[]⟩ : ByteArray)]) (t := 88) ?hr ?_; (case hd => rfl); (case hg => rfl); (case hr => first | (go_simp; done) | (go_simp; rfl)); intro gb271 hg w87 hbox hb; have KG := AZ.mk (show w65.heap.size ≤ gb271 by rw [hg]; exact KT.out.1); have KT1 := AZ.mk (show Kept w65 w87 (fun k => k = gb268) from kept_below_ hb KT.out); clear KT; have KT := KT1; clear KT1; have n0_ := AZ.mk (Kd.S_below (Kd.S_elderB zq22 gb271 (Nat.le_of_eq hg.symm)) hb); have n1_ := AZ.mk (Kd.R_below zq62 hb); have n2_ := AZ.mk (blk_below (g := gb249) (o := .cells #[.slice (some ad263) l2_0.length c2_0, .bool a2_1, .string a2_2] 38 (0, 0)) zq11 hb); have n3_ := AZ.mk (blk_below (g := gb250) (o := .cells #[.int .i64 x251000_3, .bool x251001_3, .string x251002_3, .string x251003_3, .bool x251004_3] 36 (0, 0)) zq13 hb); have n4_ := AZ.mk (blk_below (g := gb262) (o := .cells #[.int .i64 2, .bool false, .string (⟨#[]⟩ : ByteArray), .string (⟨#[]⟩ : ByteArray), .bool false] 36 (0, 0)) zq25 hb); have n5_ := AZ.mk (blk_below (g := gb268) (o := .cells #[.string x269000_4, .string x269001_4, .string x269002_4] 88 (0, 0)) zq32 hb); have n6_ := AZ.mk (below_step zq5 hb); have n7_ := AZ.mk (hbox); have n8_ := AZ.mk ((by rw [hg]; exact (below_size zq5) : w.heap.size ≤ gb271)); have n9_ := AZ.mk ((by rw [hg]; exact (below_size zq5) : w.heap.size ≤ gb271)); have n10_ := AZ.mk ((by rw [hg]; exact Nat.ne_of_lt (blk_lt (g := gb249) (o := .cells #[.slice (some ad263) l2_0.length c2_0, .bool a2_1, .string a2_2] 38 (0, 0)) zq11) : gb249 ≠ gb271)); have n11_ := AZ.mk ((by rw [hg]; exact Nat.ne_of_gt (blk_lt (g := gb249) (o := .cells #[.slice (some ad263) l2_0.length c2_0, .bool a2_1, .string a2_2] 38 (0, 0)) zq11) : gb271 ≠ gb249)); have n12_ := AZ.mk ((by rw [hg]; exact Nat.ne_of_lt (blk_lt (g := gb250) (o := .cells #[.int .i64 x251000_3, .bool x251001_3, .string x251002_3, .string x251003_3, .bool x251004_3] 36 (0, 0)) zq13) : gb250 ≠ gb271)); have n13_ := AZ.mk ((by rw [hg]; exact Nat.ne_of_gt (blk_lt (g := gb250) (o := .cells #[.int .i64 x251000_3, .bool x251001_3, .string x251002_3, .string x251003_3, .bool x251004_3] 36 (0, 0)) zq13) : gb271 ≠ gb250)); have n14_ := AZ.mk ((by rw [hg]; exact Nat.ne_of_lt (blk_lt (g := gb262) (o := .cells #[.int .i64 2, .bool false, .string (⟨#[]⟩ : ByteArray), .string (⟨#[]⟩ : ByteArray), .bool false] 36 (0, 0)) zq25) : gb262 ≠ gb271)); have n15_ := AZ.mk ((by rw [hg]; exact Nat.ne_of_gt (blk_lt (g := gb262) (o := .cells #[.int .i64 2, .bool false, .string (⟨#[]⟩ : ByteArray), .string (⟨#[]⟩ : ByteArray), .bool false] 36 (0, 0)) zq25) : gb271 ≠ gb262)); have n16_ := AZ.mk ((by rw [hg]; exact Nat.ne_of_lt (blk_lt (g := gb268) (o := .cells #[.string x269000_4, .string x269001_4, .string x269002_4] 88 (0, 0)) zq32) : gb268 ≠ gb271)); have n17_ := AZ.mk ((by rw [hg]; exact Nat.ne_of_gt (blk_lt (g := gb268) (o := .cells #[.string x269000_4, .string x269001_4, .string x269002_4] 88 (0, 0)) zq32) : gb271 ≠ gb268)); clear HO_9; clear HO_15; clear BK249; clear BK250; clear BK262; clear BK268; clear HB; have HO_9 := n0_; have HO_15 := n1_; have BK249 := n2_; have BK250 := n3_; have BK262 := n4_; have BK268 := n5_; have HB := n6_; have BK271 := n7_; have GW271 := n8_; have GE271 := n9_; have NB249_271 := n10_; have NB271_249 := n11_; have NB250_271 := n12_; have NB271_250 := n13_; have NB262_271 := n14_; have NB271_262 := n15_; have NB268_271 := n16_; have NB271_268 := n17_; clear n0_ n1_ n2_ n3_ n4_ n5_ n6_ n7_ n8_ n9_ n10_ n11_ n12_ n13_ n14_ n15_ n16_ n17_; clear hb hbox hg; have hnb88 := NB271_249.out; have hnc88 := NB249_271.out; have hnb89 := NB271_250.out; have hnc89 := NB250_271.out; have hnb90 := NB271_262.out; have hnc90 := NB262_271.out; have hnb91 := NB271_268.out; have hnc91 := NB268_271.out; have hcz92_0 : w87.cell? ⟨gb271, 0, none⟩ = some (.string (⟨#[]⟩ : ByteArray)) := (blk_cell BK271.out 0).trans rfl; have hcz92_1 : w87.cell? ⟨gb271, 1, none⟩ = some (.string (⟨#[]⟩ : ByteArray)) := (blk_cell BK271.out 1).trans rfl; have hcz92_2 : w87.cell? ⟨gb271, 2, none⟩ = some (.string (⟨#[]⟩ : ByteArray)) := (blk_cell BK271.out 2).trans rfl; have hfz92_0 := blk_frozen BK271.out 0; have hfz92_1 := blk_frozen BK271.out 1; have hfz92_2 := blk_frozen BK271.out 2))
                     have n0_ : AZ (Kd.S (Kd.slice 88 k88) 83 (((w87.setCell ⟨gb271, 0, none⟩ (.string ((rd_T88 (rd_L8 x9_2 x16_3) x97_4).f0))).setCell ⟨gb271, 1, none⟩ (.string ((rd_T88 (rd_L8 x9_2 x16_3) x97_4).f1))).setCell ⟨gb271, 2, none⟩ (.string ((rd_T88 (rd_L8 x9_2 x16_3) x97_4).f2))) w.heap.size (fun k_ => k_ ≠ gb268 ∧ k_ ≠ gb271) (.slice (some ad269) x9_2.length co66) x9_2) := ⟨zq85⟩
                     have n1_ : AZ (Kd.R Kd.string 9 (((w87.setCell ⟨gb271, 0, none⟩ (.string ((rd_T88 (rd_L8 x9_2 x16_3) x97_4).f0))).setCell ⟨gb271, 1, none⟩ (.string ((rd_T88 (rd_L8 x9_2 x16_3) x97_4).f1))).setCell ⟨gb271, 2, none⟩ (.string ((rd_T88 (rd_L8 x9_2 x16_3) x97_4).f2))) w.heap.size (fun _ => True) v266 t265) := ⟨zq95⟩
                     have n2_ : AZ ((((w87.setCell ⟨gb271, 0, none⟩ (.string ((rd_T88 (rd_L8 x9_2 x16_3) x97_4).f0))).setCell ⟨gb271, 1, none⟩ (.string ((rd_T88 (rd_L8 x9_2 x16_3) x97_4).f1))).setCell ⟨gb271, 2, none⟩ (.string ((rd_T88 (rd_L8 x9_2 x16_3) x97_4).f2))).heap[gb249]? = some (.cells #[.slice (some ad263) l2_0.length c2_0, .bool a2_1, .string a2_2] 38 (0, 0))) := ⟨zq90⟩
                     have n3_ : AZ ((((w87.setCell ⟨gb271, 0, none⟩ (.string ((rd_T88 (rd_L8 x9_2 x16_3) x97_4).f0))).setCell ⟨gb271, 1, none⟩ (.string ((rd_T88 (rd_L8 x9_2 x16_3) x97_4).f1))).setCell ⟨gb271, 2, none⟩ (.string ((rd_T88 (rd_L8 x9_2 x16_3) x97_4).f2))).heap[gb250]? = some (.cells #[.int .i64 x251000_3, .bool x251001_3, .string x251002_3, .string x251003_3, .bool x251004_3] 36 (0, 0))) := ⟨zq89⟩
                     have n4_ : AZ ((((w87.setCell ⟨gb271, 0, none⟩ (.string ((rd_T88 (rd_L8 x9_2 x16_3) x97_4).f0))).setCell ⟨gb271, 1, none⟩ (.string ((rd_T88 (rd_L8 x9_2 x16_3) x97_4).f1))).setCell ⟨gb271, 2, none⟩ (.string ((rd_T88 (rd_L8 x9_2 x16_3) x97_4).f2))).heap[gb262]? = some (.cells #[.int .i64 2, .bool false, .string (⟨#[]⟩ : ByteArray), .string (⟨#[]⟩ : ByteArray), .bool false] 36 (0, 0))) := ⟨zq88⟩
                     have n5_ : AZ ((((w87.setCell ⟨gb271, 0, none⟩ (.string ((rd_T88 (rd_L8 x9_2 x16_3) x97_4).f0))).setCell ⟨gb271, 1, none⟩ (.string ((rd_T88 (rd_L8 x9_2 x16_3) x97_4).f1))).setCell ⟨gb271, 2, none⟩ (.string ((rd_T88 (rd_L8 x9_2 x16_3) x97_4).f2))).heap[gb268]? = some (.cells #[.string x269000_4, .string x269001_4, .string x269002_4] 88 (0, 0))) := ⟨zq87⟩
                     have n6_ : AZ ((((w87.setCell ⟨gb271, 0, none⟩ (.string ((rd_T88 (rd_L8 x9_2 x16_3) x97_4).f0))).setCell ⟨gb271, 1, none⟩ (.string ((rd_T88 (rd_L8 x9_2 x16_3) x97_4).f1))).setCell ⟨gb271, 2, none⟩ (.string ((rd_T88 (rd_L8 x9_2 x16_3) x97_4).f2))).heap[gb271]? = some (.cells #[.string ((rd_T88 (rd_L8 x9_2 x16_3) x97_4).f0), .string ((rd_T88 (rd_L8 x9_2 x16_3) x97_4).f1), .string ((rd_T88 (rd_L8 x9_2 x16_3) x97_4).f2)] 88 (0, 0))) := ⟨zq63⟩
                     have n7_ : AZ (Below w.heap.size w (((w87.setCell ⟨gb271, 0, none⟩ (.string ((rd_T88 (rd_L8 x9_2 x16_3) x97_4).f0))).setCell ⟨gb271, 1, none⟩ (.string ((rd_T88 (rd_L8 x9_2 x16_3) x97_4).f1))).setCell ⟨gb271, 2, none⟩ (.string ((rd_T88 (rd_L8 x9_2 x16_3) x97_4).f2)))) := ⟨zq64⟩
                     (try clear HO_9)
                     (try clear HO_15)
                     (try clear BK249)
                     (try clear BK250)
                     (try clear BK262)
                     (try clear BK268)
                     (try clear BK271)
                     (try clear HB)
                     have nk_ : AZ (Kept w65 (((w87.setCell ⟨gb271, 0, none⟩ (.string ((rd_T88 (rd_L8 x9_2 x16_3) x97_4).f0))).setCell ⟨gb271, 1, none⟩ (.string ((rd_T88 (rd_L8 x9_2 x16_3) x97_4).f1))).setCell ⟨gb271, 2, none⟩ (.string ((rd_T88 (rd_L8 x9_2 x16_3) x97_4).f2))) (fun k => k = gb268)) := ⟨by (repeat (refine kept_set_ ?_ (Or.inr KG.out))); exact KT.out⟩
                     clear KT
                     generalize (((w87.setCell ⟨gb271, 0, none⟩ (.string ((rd_T88 (rd_L8 x9_2 x16_3) x97_4).f0))).setCell ⟨gb271, 1, none⟩ (.string ((rd_T88 (rd_L8 x9_2 x16_3) x97_4).f1))).setCell ⟨gb271, 2, none⟩ (.string ((rd_T88 (rd_L8 x9_2 x16_3) x97_4).f2))) = w93 at nk_ n0_ n1_ n2_ n3_ n4_ n5_ n6_ n7_ ⊢
                     have KT := nk_
                     clear nk_
                     have HO_9 := n0_
                     have HO_15 := n1_
                     have BK249 := n2_
                     have BK250 := n3_
                     have BK262 := n4_
                     have BK268 := n5_
                     have BK271 := n6_
                     have HB := n7_
                     clear n0_ n1_ n2_ n3_ n4_ n5_ n6_ n7_
                     have n0_ := AZ.mk (Kd.S_drew HO_9.out)
                     have n1_ := AZ.mk (Kd.R_drew HO_15.out)
                     have n2_ := AZ.mk (blk_drew BK249.out)
                     have n3_ := AZ.mk (blk_drew BK250.out)
                     have n4_ := AZ.mk (blk_drew BK262.out)
                     have n5_ := AZ.mk (blk_drew BK268.out)
                     have n6_ := AZ.mk (blk_drew BK271.out)
                     have n7_ := AZ.mk (below_drew1 HB.out)
                     clear HO_9
                     clear HO_15
                     clear BK249
                     clear BK250
                     clear BK262
                     clear BK268
                     clear BK271
                     clear HB
                     have HO_9 := n0_
                     have HO_15 := n1_
                     have BK249 := n2_
                     have BK250 := n3_
                     have BK262 := n4_
                     have BK268 := n5_
                     have BK271 := n6_
                     have HB := n7_
                     clear n0_ n1_ n2_ n3_ n4_ n5_ n6_ n7_
                     obtain ⟨Ao95, co95, eo95⟩ := Kd.R_slice HO_15.out
                     (first | subst eo95 | (injection eo95 with f1_ f2_ f3_; have f4_ := f1_.symm; have f5_ := f3_.symm; clear f1_ f2_ f3_; subst f4_; subst f5_))
                     have p272 : 0 ≤ (x16_3 : Int) := of_decide_eq_true zq1
                     have q272 : x16_3 < (t265.length : Int) := of_decide_eq_true zq1
                     obtain ⟨ad272, e272, hx272_0⟩ := Kd.at_string (Kd.R_reads' HO_15.out).2.2 x16_3 p272 q272
                     cases e272
                     replace p272 := eq_true p272
                     replace q272 := eq_true q272
                     refine start_ (n := 7) (S := fun w' => w'.cell? ⟨gb271, 0, none⟩ = some (.string ((rd_T88 (rd_L8 x9_2 x16_3) x97_4).f0)) ∧ w'.cell? ⟨gb271, 1, none⟩ = some (.string ((rd_T88 (rd_L8 x9_2 x16_3) x97_4).f1)) ∧ w'.cell? ⟨gb271, 2, none⟩ = some (.string ((rd_T88 (rd_L8 x9_2 x16_3) x97_4).f2)) ∧ w'.cell? (ad272.add (x16_3).toNat) = some (.string (rdOf ByteArray.empty t265 x16_3))) (ds := []) #[false, false, false, false, false, false, false] zq17 rfl rfl ⟨(blk_cell BK271.out 0).trans rfl, (blk_cell BK271.out 1).trans rfl, (blk_cell BK271.out 2).trans rfl, hx272_0⟩ (fun hH => ?_)
                     have nk_ : AZ (Kept w65 w93.drew (fun k => k = gb268)) := ⟨KT.out⟩
                     clear KT
                     have KT := nk_
                     clear nk_
                     generalize w93.drew = w94 at KT HO_9 HO_15 BK249 BK250 BK262 BK268 BK271 HB hx272_0 hH ⊢
                     refine pure_ (i := 0) (N := some 101) (v := ?_) (a' := ?_) #[true, false, false, false, false, false, false] rfl rfl zq17 (fun _ _ _ h => h) (Or.inl ⟨zq105, ?_⟩) ?_ ?_
                     rotate_left
                     ·intro w'
                      go_simp
                      with_reducible rfl
                     rotate_left
                     ·simp only [Act.put, List.setIfInBounds_toArray, List.set_cons_zero, List.set_cons_succ, i64_w, i32_w]
                      rfl
                     refine pure_ (i := 2) (N := some 103) (v := ?_) (a' := ?_) #[true, false, true, false, false, false, false] rfl rfl zq17 (fun _ _ _ h => h) (Or.inl ⟨zq105, ?_⟩) ?_ ?_
                     rotate_left
                     ·intro w'
                      go_simp
                      with_reducible rfl
                     rotate_left
                     ·simp only [Act.put, List.setIfInBounds_toArray, List.set_cons_zero, List.set_cons_succ, i64_w, i32_w]
                      rfl
                     refine pure_ (i := 3) (N := some 104) (v := ?_) (a' := ?_) #[true, false, true, true, false, false, false] rfl rfl zq17 (fun _ _ _ h => h) (Or.inl ⟨zq105, ?_⟩) ?_ ?_
                     rotate_left
                     ·intro w'
                      go_simp
                      with_reducible rfl
                     rotate_left
                     ·simp only [Act.put, List.setIfInBounds_toArray, List.set_cons_zero, List.set_cons_succ, i64_w, i32_w]
                      rfl
                     refine pure_ (i := 4) (N := some 105) (v := ?_) (a' := ?_) #[true, false, true, true, true, false, false] rfl rfl zq17 (fun _ _ _ h => h) (Or.inl ⟨zq105, ?_⟩) ?_ ?_
                     rotate_left
                     ·intro w'
                      go_simp
                      with_reducible rfl
                     rotate_left
                     ·simp only [Act.put, List.setIfInBounds_toArray, List.set_cons_zero, List.set_cons_succ, i64_w, i32_w]
                      rfl
                     refine take_ (i := 1) (N := some 102) (v := ?_) (a' := ?_) #[true, true, true, true, true, false, false] rfl rfl zq17 (fun _ _ _ h => h) (Or.inl ⟨zq105, ?_⟩) hH ?_ ?_
                     rotate_left
                     ·rintro w' ⟨s0, s1, s2, s3⟩
                      go_simp
                      with_reducible rfl
                     rotate_left
                     ·simp only [Act.put, List.setIfInBounds_toArray, List.set_cons_zero, List.set_cons_succ, i64_w, i32_w]
                      rfl
                     refine take_ (i := 5) (N := some 106) (v := ?_) (a' := ?_) #[true, true, true, true, true, true, false] rfl rfl zq17 (fun _ _ _ h => h) (Or.inl ⟨zq105, ?_⟩) hH ?_ ?_
                     rotate_left
                     ·rintro w' ⟨s0, s1, s2, s3⟩
                      go_simp
                      with_reducible rfl
                     rotate_left
                     ·simp only [Act.put, List.setIfInBounds_toArray, List.set_cons_zero, List.set_cons_succ, i64_w, i32_w]
                      rfl
                     refine pure_ (i := 6) (N := some 107) (v := ?_) (a' := ?_) #[true, true, true, true, true, true, true] rfl rfl zq17 (fun _ _ _ h => h) (Or.inl ⟨zq105, ?_⟩) ?_ ?_
                     rotate_left
                     ·intro w'
                      go_simp
                      with_reducible rfl
                     rotate_left
                     ·simp only [Act.put, List.setIfInBounds_toArray, List.set_cons_zero, List.set_cons_succ, i64_w, i32_w]
                      rfl
                     refine done_ zq17 ?_
                     try go_wp2
                     go_roundg k4
                     case measure => have := HJ4.out; have := HK2.out; have := HK3.out; have := HK4.out; omega
                     case rel => exact ⟨(wrap64 (x97_4 + 1)), (x269000_4), (x269001_4), (x269002_4), zq8, H', ⟨by have := HJ4.out; have := HK2.out; have := HK3.out; have := HK4.out; omega⟩, ⟨by (with_reducible repeat (first | apply Kd.S_alloc | apply Kd.S_drewN | apply Kd.S_drew)); exact Kd.S_mono HO_9.out (fun _ hk => hk.1)⟩, ⟨zq62⟩, ⟨zq11⟩, ⟨zq13⟩, ⟨zq25⟩, ⟨zq32⟩, ⟨zq64⟩, ⟨by (repeat (refine kept_set_ ?_ (Or.inl rfl))); exact KT.out⟩⟩
                   ·rw [if_neg c71] at H
                    exact absurd H zq119
                  ·rw [if_neg c70] at H
                   exact absurd H zq119
                 ·rw [if_neg c69] at H
                  exact absurd H zq119
                ·rw [if_neg c68] at H
                 exact absurd H zq119
               ·rw [if_neg c67] at H
                have c67b0 : decide (x97_4 < ((rd_L8 x9_2 x16_3).length : Int)) = false := decide_eq_false c67
                clear c67
                have HC96 := AZ.mk H
                clear H
                go_upto_region 25 with (fail)
                go_cut [119] (fun v119 wc => ∃ (kq : Nat) (x119_95 : Bool), v119 = .bool x119_95 ∧ AZ (impl_Show.j4 kq a1 a3 x9_2 t265 x16_3 x119_95 l2_0 a2_1 a2_2 2 false (⟨#[]⟩ : ByteArray) (⟨#[]⟩ : ByteArray) false x269000_4 x269001_4 x269002_4 = some (r1, r2, r3, r4, r5)) ∧ AZ (kq ≤ k4) ∧ AZ (Kd.S (Kd.slice 88 k88) 83 wc w.heap.size (fun k_ => k_ ≠ gb268) (.slice (some ad269) x9_2.length co66) x9_2) ∧ AZ (Kd.R Kd.string 9 wc w.heap.size (fun _ => True) v266 t265) ∧ AZ (wc.heap[gb249]? = some (.cells #[(.slice (some ad263) l2_0.length c2_0), .bool a2_1, .string a2_2] 38 (0, 0))) ∧ AZ (wc.heap[gb250]? = some (.cells #[.int .i64 x251000_3, .bool x251001_3, .string x251002_3, .string x251003_3, .bool x251004_3] 36 (0, 0))) ∧ AZ (wc.heap[gb262]? = some (.cells #[.int .i64 2, .bool false, .string (⟨#[]⟩ : ByteArray), .string (⟨#[]⟩ : ByteArray), .bool false] 36 (0, 0))) ∧ AZ (wc.heap[gb268]? = some (.cells #[.string x269000_4, .string x269001_4, .string x269002_4] 88 (0, 0))) ∧ AZ (Below w.heap.size w wc))
                case first =>
                 have H := HC96.out
                 clear HC96
                 by_cases c97 : x16_3 < (wrap64 ((t265.length : Int) - 1))
                 ·rw [if_pos c97] at H
                  have c97b0 : decide (x16_3 < (wrap64 ((t265.length : Int) - 1))) = true := decide_eq_true c97
                  clear c97
                  (first | rw [c97b0] | (simp only [i64_w, i32_w]; rw [c97b0]) | skip)
                  have H' := AZ.mk H
                  clear H
                  obtain ⟨Ao98, co98, eo98⟩ := Kd.R_slice HO_15.out
                  subst eo98
                  have hnb99 := NB268_249.out
                  have hnc99 := NB249_268.out
                  have hnb100 := NB268_250.out
                  have hnc100 := NB250_268.out
                  have hnb101 := NB268_262.out
                  have hnc101 := NB262_268.out
                  have hcz102_0 : wr.cell? ⟨gb268, 0, none⟩ = some (.string x269000_4) := (blk_cell BK268.out 0).trans rfl
                  have hcz102_1 : wr.cell? ⟨gb268, 1, none⟩ = some (.string x269001_4) := (blk_cell BK268.out 1).trans rfl
                  have hcz102_2 : wr.cell? ⟨gb268, 2, none⟩ = some (.string x269002_4) := (blk_cell BK268.out 2).trans rfl
                  have hfz102_0 := blk_frozen BK268.out 0
                  have hfz102_1 := blk_frozen BK268.out 1
                  have hfz102_2 := blk_frozen BK268.out 2
                  go_wp2
                  go_meet
                  case rel => exact ⟨_, ((x269000_4.toList == ([100] : List UInt8))), zq8, H', ⟨by have := HJ4.out; have := HK2.out; have := HK3.out; have := HK4.out; first | omega | exact Nat.le_refl _⟩, ⟨zq22⟩, ⟨zq62⟩, ⟨zq11⟩, ⟨zq13⟩, ⟨zq25⟩, ⟨zq32⟩, ⟨zq5⟩⟩
                 ·rw [if_neg c97] at H
                  have c97b0 : decide (x16_3 < (wrap64 ((t265.length : Int) - 1))) = false := decide_eq_false c97
                  clear c97
                  (first | rw [c97b0] | (simp only [i64_w, i32_w]; rw [c97b0]) | skip)
                  have H' := AZ.mk H
                  clear H
                  obtain ⟨Ao103, co103, eo103⟩ := Kd.R_slice HO_15.out
                  subst eo103
                  go_wp2
                  go_meet
                  case rel => exact ⟨_, (false), zq8, H', ⟨by have := HJ4.out; have := HK2.out; have := HK3.out; have := HK4.out; first | omega | exact Nat.le_refl _⟩, ⟨zq22⟩, ⟨zq62⟩, ⟨zq11⟩, ⟨zq13⟩, ⟨zq25⟩, ⟨zq32⟩, ⟨zq5⟩⟩
                case rest =>
                 clear HC96
                 try clear c1
                 try clear c2
                 try clear p2
                 try clear q2
                 try clear hx2
                 try clear qi2
                 try clear c3
                 try clear c4
                 try clear c5
                 try clear c6
                 try clear p6
                 try clear c7
                 try clear c8
                 try clear c9
                 try clear c10
                 try clear c11
                 try clear c13
                 try clear c14
                 try clear c14b0
                 try clear c14b1
                 try clear c16
                 try clear c18
                 try clear c20
                 try clear c23
                 try clear p25
                 try clear q25
                 try clear hx25
                 try clear c26
                 try clear p26
                 try clear q26
                 try clear hx26
                 try clear qi26
                 try clear p27
                 try clear q27
                 try clear hx27
                 try clear c30
                 try clear c31
                 try clear c33
                 try clear c35
                 try clear c35b0
                 try clear c36
                 try clear c36b0
                 try clear c37
                 try clear c37b0
                 try clear c39
                 try clear c39b0
                 try clear c39b1
                 try clear c41
                 try clear c43
                 try clear c44
                 try clear c46
                 try clear c48
                 try clear c49
                 try clear c50
                 try clear c51
                 try clear c51b0
                 try clear c51b1
                 try clear c53
                 try clear c53b0
                 try clear c53b1
                 try clear c56
                 try clear c57
                 try clear c59
                 try clear c63
                 try clear c63b0
                 try clear c64
                 try clear c64b0
                 try clear p64
                 try clear c67
                 try clear c67b0
                 try clear c68
                 try clear c68b0
                 try clear c69
                 try clear c69b0
                 try clear c70
                 try clear c70b0
                 try clear c71
                 try clear c71b0
                 try clear c72
                 try clear c72b0
                 try clear c72b1
                 try clear c74
                 try clear c75
                 try clear c76
                 try clear c77
                 try clear c83
                 try clear c84
                 try clear c85
                 try clear c88
                 try clear c89
                 try clear c90
                 try clear c91
                 try clear c97
                 try clear c97b0
                 try clear c99
                 try clear c100
                 try clear c101
                 try clear hcz102_0
                 try clear hcz102_1
                 try clear hcz102_2
                 try clear hcz17_0
                 try clear hcz17_1
                 try clear hcz17_2
                 try clear hcz21_0
                 try clear hcz21_1
                 try clear hcz21_2
                 try clear hcz24_0
                 try clear hcz24_1
                 try clear hcz24_2
                 try clear hcz27_0
                 try clear hcz27_1
                 try clear hcz27_2
                 try clear hcz32_0
                 try clear hcz32_1
                 try clear hcz32_2
                 try clear hcz32_3
                 try clear hcz32_4
                 try clear hcz34_0
                 try clear hcz34_1
                 try clear hcz34_2
                 try clear hcz42_0
                 try clear hcz42_1
                 try clear hcz42_2
                 try clear hcz42_3
                 try clear hcz42_4
                 try clear hcz50_0
                 try clear hcz50_1
                 try clear hcz50_2
                 try clear hcz50_3
                 try clear hcz50_4
                 try clear hcz58_0
                 try clear hcz58_1
                 try clear hcz58_2
                 try clear hcz58_3
                 try clear hcz58_4
                 try clear hcz60_0
                 try clear hcz60_1
                 try clear hcz60_2
                 try clear hcz78_0
                 try clear hcz78_1
                 try clear hcz78_2
                 try clear hcz82_0
                 try clear hcz82_1
                 try clear hcz82_2
                 try clear hcz86_0
                 try clear hcz86_1
                 try clear hcz86_2
                 try clear hcz92_0
                 try clear hcz92_1
                 try clear hcz92_2
                 try clear hfz102_0
                 try clear hfz102_1
                 try clear hfz102_2
                 try clear hfz17_0
                 try clear hfz17_1
                 try clear hfz17_2
                 try clear hfz21_0
                 try clear hfz21_1
                 try clear hfz21_2
                 try clear hfz24_0
                 try clear hfz24_1
                 try clear hfz24_2
                 try clear hfz27_0
                 try clear hfz27_1
                 try clear hfz27_2
                 try clear hfz32_0
                 try clear hfz32_1
                 try clear hfz32_2
                 try clear hfz32_3
                 try clear hfz32_4
                 try clear hfz34_0
                 try clear hfz34_1
                 try clear hfz34_2
                 try clear hfz42_0
                 try clear hfz42_1
                 try clear hfz42_2
                 try clear hfz42_3
                 try clear hfz42_4
                 try clear hfz50_0
                 try clear hfz50_1
                 try clear hfz50_2
                 try clear hfz50_3
                 try clear hfz50_4
                 try clear hfz58_0
                 try clear hfz58_1
                 try clear hfz58_2
                 try clear hfz58_3
                 try clear hfz58_4
                 try clear hfz60_0
                 try clear hfz60_1
                 try clear hfz60_2
                 try clear hfz78_0
                 try clear hfz78_1
                 try clear hfz78_2
                 try clear hfz82_0
                 try clear hfz82_1
                 try clear hfz82_2
                 try clear hfz86_0
                 try clear hfz86_1
                 try clear hfz86_2
                 try clear hfz92_0
                 try clear hfz92_1
                 try clear hfz92_2
                 try clear hx254_0
                 try clear hx263_0
                 try clear hx269_0
                 try clear hx270_0
                 try clear hx270_1
                 try clear hx270_2
                 try clear hx272_0
                 try clear p2
                 try clear p25
                 try clear p254
                 try clear p26
                 try clear p263
                 try clear p269
                 try clear p270
                 try clear p272
                 try clear p6
                 try clear p64
                 try clear q2
                 try clear q25
                 try clear q254
                 try clear q26
                 try clear q263
                 try clear q269
                 try clear q270
                 try clear q272
                 obtain ⟨kq, x119_95, rfl, HA, HJ95, HO_9, HO_15, BK249, BK250, BK262, BK268, HB⟩ := hcut
                 cases kq with
                 | zero => exact absurd HA.out (by simp [impl_Show.j4])
                 | succ kj95 =>
                  have H := HA.out
                  clear HA
                  simp only [impl_Show.j4] at H
                  by_cases c104 : x119_95 = true
                  ·subst c104
                   rw [if_pos rfl] at H
                   by_cases c105 : (wrap64 (x16_3 + 1)) ≥ (x9_2.length : Int)
                   ·rw [if_pos c105] at H
                    have c105b0 : decide ((x9_2.length : Int) ≤ (wrap64 (x16_3 + 1))) = true := decide_eq_true c105
                    clear c105
                    simp only [Option.some.injEq, Prod.mk.injEq] at H
                    obtain ⟨rfl, rfl, rfl, rfl, rfl⟩ := H
                    try go_wp2
                    have n0_ := AZ.mk (Kd.S_drew HO_9.out)
                    have n1_ := AZ.mk (Kd.R_drew HO_15.out)
                    have n2_ := AZ.mk (blk_drew BK249.out)
                    have n3_ := AZ.mk (blk_drew BK250.out)
                    have n4_ := AZ.mk (blk_drew BK262.out)
                    have n5_ := AZ.mk (blk_drew BK268.out)
                    have n6_ := AZ.mk (below_drew1 HB.out)
                    clear HO_9
                    clear HO_15
                    clear BK249
                    clear BK250
                    clear BK262
                    clear BK268
                    clear HB
                    have HO_9 := n0_
                    have HO_15 := n1_
                    have BK249 := n2_
                    have BK250 := n3_
                    have BK262 := n4_
                    have BK268 := n5_
                    have HB := n6_
                    clear n0_ n1_ n2_ n3_ n4_ n5_ n6_
                    refine start_ (n := 18) (S := fun w' => True) (ds := []) #[false, false, false, false, false, false, false, false, false, false, false, false, false, false, false, false, false, false] zq17 rfl rfl trivial (fun hH => ?_); refine tbW impl_Show.tab26 impl_Show.bits26 (fun HT_ HW_ => ?_)
                    generalize wc.drew = w106 at HO_9 HO_15 BK249 BK250 BK262 BK268 HB hH ⊢
                    refine pure_ (i := 0) (N := some 120) (v := ?_) (a' := ?_) #[true, false, false, false, false, false, false, false, false, false, false, false, false, false, false, false, false, false] rfl rfl (any_of HT_.out zq17) (fun _ _ _ h => h) (Or.inl ⟨zq105, ?_⟩) ?_ ?_
                    rotate_left
                    ·intro w'
                     go_simp
                     with_reducible rfl
                    rotate_left
                    ·simp only [Act.put, List.setIfInBounds_toArray, List.set_cons_zero, List.set_cons_succ, i64_w, i32_w]
                     rfl
                    refine pure_ (i := 1) (N := some 121) (v := ?_) (a' := ?_) #[true, true, false, false, false, false, false, false, false, false, false, false, false, false, false, false, false, false] rfl rfl (any_of HT_.out zq17) (fun _ _ _ h => h) (Or.inl ⟨zq105, ?_⟩) ?_ ?_
                    rotate_left
                    ·intro w'
                     go_simp
                     with_reducible rfl
                    rotate_left
                    ·simp only [Act.put, List.setIfInBounds_toArray, List.set_cons_zero, List.set_cons_succ, i64_w, i32_w]
                     rfl
                    refine pure_ (i := 2) (N := some 122) (v := ?_) (a' := ?_) #[true, true, true, false, false, false, false, false, false, false, false, false, false, false, false, false, false, false] rfl rfl (any_of HT_.out zq17) (fun _ _ _ h => h) (Or.inl ⟨zq105, ?_⟩) ?_ ?_
                    rotate_left
                    ·intro w'
                     go_simp
                     with_reducible rfl
                    rotate_left
                    ·simp only [Act.put, List.setIfInBounds_toArray, List.set_cons_zero, List.set_cons_succ, i64_w, i32_w]
                     rfl
                    refine pure_ (i := 3) (N := some 123) (v := ?_) (a' := ?_) #[true, true, true, true, false, false, false, false, false, false, false, false, false, false, false, false, false, false] rfl rfl (any_of HT_.out zq17) (fun _ _ _ h => h) (Or.inl ⟨zq105, ?_⟩) ?_ ?_
                    rotate_left
                    ·intro w'
                     go_simp
                     with_reducible rfl
                    rotate_left
                    ·simp only [Act.put, List.setIfInBounds_toArray, List.set_cons_zero, List.set_cons_succ, i64_w, i32_w]
                     rfl
                    refine pure_ (i := 4) (N := some 124) (v := ?_) (a' := ?_) #[true, true, true, true, true, false, false, false, false, false, false, false, false, false, false, false, false, false] rfl rfl (any_of HT_.out zq17) (fun _ _ _ h => h) (Or.inl ⟨zq105, ?_⟩) ?_ ?_
                    rotate_left
                    ·intro w'
                     go_simp
                     with_reducible rfl
                    rotate_left
                    ·simp only [Act.put, List.setIfInBounds_toArray, List.set_cons_zero, List.set_cons_succ, i64_w, i32_w]
                     rfl
                    refine pure_ (i := 5) (N := some 125) (v := ?_) (a' := ?_) #[true, true, true, true, true, true, false, false, false, false, false, false, false, false, false, false, false, false] rfl rfl (any_of HT_.out zq17) (fun _ _ _ h => h) (Or.inl ⟨zq105, ?_⟩) ?_ ?_
                    rotate_left
                    ·intro w'
                     go_simp
                     with_reducible rfl
                    rotate_left
                    ·simp only [Act.put, List.setIfInBounds_toArray, List.set_cons_zero, List.set_cons_succ, i64_w, i32_w]
                     rfl
                    refine pure_ (i := 6) (N := some 126) (v := undef) (a' := ?_) #[true, true, true, true, true, true, true, false, false, false, false, false, false, false, false, false, false, false] rfl rfl (any_of HT_.out zq17) (fun _ _ _ h => h) (Or.inr ⟨zq105, rfl⟩) ?_ ?_
                    rotate_left
                    ·simp only [Act.put, List.setIfInBounds_toArray, List.set_cons_zero, List.set_cons_succ, i64_w, i32_w]
                     rfl
                    refine pure_ (i := 7) (N := some 127) (v := undef) (a' := ?_) #[true, true, true, true, true, true, true, true, false, false, false, false, false, false, false, false, false, false] rfl rfl (any_of HT_.out zq17) (fun _ _ _ h => h) (Or.inr ⟨zq105, rfl⟩) ?_ ?_
                    rotate_left
                    ·simp only [Act.put, List.setIfInBounds_toArray, List.set_cons_zero, List.set_cons_succ, i64_w, i32_w]
                     rfl
                    refine pure_ (i := 8) (N := some 128) (v := undef) (a' := ?_) #[true, true, true, true, true, true, true, true, true, false, false, false, false, false, false, false, false, false] rfl rfl (any_of HT_.out zq17) (fun _ _ _ h => h) (Or.inr ⟨zq105, rfl⟩) ?_ ?_
                    rotate_left
                    ·simp only [Act.put, List.setIfInBounds_toArray, List.set_cons_zero, List.set_cons_succ, i64_w, i32_w]
                     rfl
                    refine pure_ (i := 9) (N := some 129) (v := undef) (a' := ?_) #[true, true, true, true, true, true, true, true, true, true, false, false, false, false, false, false, false, false] rfl rfl (any_of HT_.out zq17) (fun _ _ _ h => h) (Or.inr ⟨zq105, rfl⟩) ?_ ?_
                    rotate_left
                    ·simp only [Act.put, List.setIfInBounds_toArray, List.set_cons_zero, List.set_cons_succ, i64_w, i32_w]
                     rfl
                    refine pure_ (i := 10) (N := some 130) (v := undef) (a' := ?_) #[true, true, true, true, true, true, true, true, true, true, true, false, false, false, false, false, false, false] rfl rfl (any_of HT_.out zq17) (fun _ _ _ h => h) (Or.inr ⟨zq105, rfl⟩) ?_ ?_
                    rotate_left
                    ·simp only [Act.put, List.setIfInBounds_toArray, List.set_cons_zero, List.set_cons_succ, i64_w, i32_w]
                     rfl
                    refine pure_ (i := 11) (N := some 131) (v := undef) (a' := ?_) #[true, true, true, true, true, true, true, true, true, true, true, true, false, false, false, false, false, false] rfl rfl (any_of HT_.out zq17) (fun _ _ _ h => h) (Or.inr ⟨zq105, rfl⟩) ?_ ?_
                    rotate_left
                    ·simp only [Act.put, List.setIfInBounds_toArray, List.set_cons_zero, List.set_cons_succ, i64_w, i32_w]
                     rfl
                    refine pure_ (i := 12) (N := some 132) (v := undef) (a' := ?_) #[true, true, true, true, true, true, true, true, true, true, true, true, true, false, false, false, false, false] rfl rfl (any_of HT_.out zq17) (fun _ _ _ h => h) (Or.inr ⟨zq105, rfl⟩) ?_ ?_
                    rotate_left
                    ·simp only [Act.put, List.setIfInBounds_toArray, List.set_cons_zero, List.set_cons_succ, i64_w, i32_w]
                     rfl
                    refine pure_ (i := 13) (N := some 133) (v := undef) (a' := ?_) #[true, true, true, true, true, true, true, true, true, true, true, true, true, true, false, false, false, false] rfl rfl (any_of HT_.out zq17) (fun _ _ _ h => h) (Or.inr ⟨zq105, rfl⟩) ?_ ?_
                    rotate_left
                    ·simp only [Act.put, List.setIfInBounds_toArray, List.set_cons_zero, List.set_cons_succ, i64_w, i32_w]
                     rfl
                    refine pure_ (i := 14) (N := some 134) (v := undef) (a' := ?_) #[true, true, true, true, true, true, true, true, true, true, true, true, true, true, true, false, false, false] rfl rfl (any_of HT_.out zq17) (fun _ _ _ h => h) (Or.inr ⟨zq105, rfl⟩) ?_ ?_
                    rotate_left
                    ·simp only [Act.put, List.setIfInBounds_toArray, List.set_cons_zero, List.set_cons_succ, i64_w, i32_w]
                     rfl
                    refine pure_ (i := 15) (N := some 135) (v := undef) (a' := ?_) #[true, true, true, true, true, true, true, true, true, true, true, true, true, true, true, true, false, false] rfl rfl (any_of HT_.out zq17) (fun _ _ _ h => h) (Or.inr ⟨zq105, rfl⟩) ?_ ?_
                    rotate_left
                    ·simp only [Act.put, List.setIfInBounds_toArray, List.set_cons_zero, List.set_cons_succ, i64_w, i32_w]
                     rfl
                    refine pure_ (i := 16) (N := some 136) (v := undef) (a' := ?_) #[true, true, true, true, true, true, true, true, true, true, true, true, true, true, true, true, true, false] rfl rfl (any_of HT_.out zq17) (fun _ _ _ h => h) (Or.inr ⟨zq105, rfl⟩) ?_ ?_
                    rotate_left
                    ·simp only [Act.put, List.setIfInBounds_toArray, List.set_cons_zero, List.set_cons_succ, i64_w, i32_w]
                     rfl
                    refine pure_ (i := 17) (N := some 137) (v := ?_) (a' := ?_) #[true, true, true, true, true, true, true, true, true, true, true, true, true, true, true, true, true, true] rfl rfl (any_of HT_.out zq17) (fun _ _ _ h => h) (Or.inl ⟨zq105, ?_⟩) ?_ ?_
                    rotate_left
                    ·intro w'
                     go_simp
                     with_reducible rfl
                    rotate_left
                    ·simp only [Act.put, List.setIfInBounds_toArray, List.set_cons_zero, List.set_cons_succ, i64_w, i32_w]
                     rfl
                    refine done_ (done_of HT_.out zq17) ?_
                    have hnb107 := NB262_249.out
                    have hnc107 := NB249_262.out
                    have hnb108 := NB262_250.out
                    have hnc108 := NB250_262.out
                    have hnb109 := NB262_268.out
                    have hnc109 := NB268_262.out
                    have hcz110_0 : w106.cell? ⟨gb262, 0, none⟩ = some (.int .i64 2) := (blk_cell BK262.out 0).trans rfl
                    have hcz110_1 : w106.cell? ⟨gb262, 1, none⟩ = some (.bool false) := (blk_cell BK262.out 1).trans rfl
                    have hcz110_2 : w106.cell? ⟨gb262, 2, none⟩ = some (.string (⟨#[]⟩ : ByteArray)) := (blk_cell BK262.out 2).trans rfl
                    have hcz110_3 : w106.cell? ⟨gb262, 3, none⟩ = some (.string (⟨#[]⟩ : ByteArray)) := (blk_cell BK262.out 3).trans rfl
                    have hcz110_4 : w106.cell? ⟨gb262, 4, none⟩ = some (.bool false) := (blk_cell BK262.out 4).trans rfl
                    have hfz110_0 := blk_frozen BK262.out 0
                    have hfz110_1 := blk_frozen BK262.out 1
                    have hfz110_2 := blk_frozen BK262.out 2
                    have hfz110_3 := blk_frozen BK262.out 3
                    have hfz110_4 := blk_frozen BK262.out 4
                    have hnb111 := NB250_249.out
                    have hnc111 := NB249_250.out
                    have hnb112 := NB250_268.out
                    have hnc112 := NB268_250.out
                    have hcz113_0 : w106.cell? ⟨gb250, 0, none⟩ = some (.int .i64 x251000_3) := (blk_cell BK250.out 0).trans rfl
                    have hcz113_1 : w106.cell? ⟨gb250, 1, none⟩ = some (.bool x251001_3) := (blk_cell BK250.out 1).trans rfl
                    have hcz113_2 : w106.cell? ⟨gb250, 2, none⟩ = some (.string x251002_3) := (blk_cell BK250.out 2).trans rfl
                    have hcz113_3 : w106.cell? ⟨gb250, 3, none⟩ = some (.string x251003_3) := (blk_cell BK250.out 3).trans rfl
                    have hcz113_4 : w106.cell? ⟨gb250, 4, none⟩ = some (.bool x251004_3) := (blk_cell BK250.out 4).trans rfl
                    have hfz113_0 := blk_frozen BK250.out 0
                    have hfz113_1 := blk_frozen BK250.out 1
                    have hfz113_2 := blk_frozen BK250.out 2
                    have hfz113_3 := blk_frozen BK250.out 3
                    have hfz113_4 := blk_frozen BK250.out 4
                    try go_wp2
                    refine bodyPost_ret (results_cell_row rfl _ _ gb250 36 #[.int .i64 2, .bool false, .string (⟨#[]⟩ : ByteArray), .string (⟨#[]⟩ : ByteArray), .bool false] (0, 0) _ rfl zq14 Tryd.underlying36 rfl zq17) rfl ?_
                    exact ⟨zq7, zq5⟩
                   ·rw [if_neg c105] at H
                    have c105b0 : decide ((x9_2.length : Int) ≤ (wrap64 (x16_3 + 1))) = false := decide_eq_false c105
                    clear c105
                    obtain ⟨ji114, hji114⟩ : ∃ j_ : Int, (wrap64 (x16_3 + 1)) = j_ := ⟨_, rfl⟩
                    replace H : (if 0 ≤ (ji114) then (if (ji114) < (l2_0.length : Int) then ((impl_Sum.f kj95 (rdOf ByteArray.empty l2_0 (ji114)) a3).bind fun t274 => (if t274.toList = x269002_4.toList then (impl_Show.l1 kj95 a1 a3 x9_2 t265 ji114 l2_0 a2_1 a2_2 2 false (⟨#[]⟩ : ByteArray) (⟨#[]⟩ : ByteArray) false) else (some (2, false, (⟨#[]⟩ : ByteArray), (⟨#[]⟩ : ByteArray), false)))) else (none)) else (none)) = some (r1, r2, r3, r4, r5) := by first | (rw [hji114] at H; exact H) | (simp only [hji114] at H ⊢; exact H)
                    (try rw [hji114] at c105b0)
                    have hji114w : (IntKind.i64.wrap (x16_3 + 1)) = ji114 := (i64_w _).trans hji114
                    by_cases c115 : 0 ≤ (ji114)
                    ·rw [if_pos c115] at H
                     have c115b0 : decide (0 ≤ (ji114)) = true := decide_eq_true c115
                     clear c115
                     by_cases c116 : (ji114) < (l2_0.length : Int)
                     ·rw [if_pos c116] at H
                      have c116b0 : decide ((ji114) < (l2_0.length : Int)) = true := decide_eq_true c116
                      clear c116
                      replace H := Option.bind_eq_some_iff.mp H
                      obtain ⟨t274, A1170, H⟩ := H
                      try dsimp only at H
                      have A117 := AZ.mk A1170
                      clear A1170
                      by_cases c118 : t274.toList = x269002_4.toList
                      ·rw [if_pos c118] at H
                       have c118b0 : (t274.toList == x269002_4.toList) = true := beq_iff_eq.mpr c118
                       have c118b1 : (t274.toList != x269002_4.toList) = false := bne_eq_false_iff_eq.mpr c118
                       clear c118
                       have H' := AZ.mk H
                       clear H
                       try go_wp2
                       have n0_ := AZ.mk (Kd.S_drew HO_9.out)
                       have n1_ := AZ.mk (Kd.R_drew HO_15.out)
                       have n2_ := AZ.mk (blk_drew BK249.out)
                       have n3_ := AZ.mk (blk_drew BK250.out)
                       have n4_ := AZ.mk (blk_drew BK262.out)
                       have n5_ := AZ.mk (blk_drew BK268.out)
                       have n6_ := AZ.mk (below_drew1 HB.out)
                       clear HO_9
                       clear HO_15
                       clear BK249
                       clear BK250
                       clear BK262
                       clear BK268
                       clear HB
                       have HO_9 := n0_
                       have HO_15 := n1_
                       have BK249 := n2_
                       have BK250 := n3_
                       have BK262 := n4_
                       have BK268 := n5_
                       have HB := n6_
                       clear n0_ n1_ n2_ n3_ n4_ n5_ n6_
                       have p273 : 0 ≤ ((ji114) : Int) := of_decide_eq_true zq1
                       have q273 : (ji114) < (l2_0.length : Int) := of_decide_eq_true zq1
                       obtain ⟨ad273, e273, hx273_0⟩ := Kd.at_string HR2_0.out (ji114) p273 q273
                       have hw273_0 := hx273_0
                       obtain rfl : ad263 = ad273 := (by injection e273)
                       replace hx273_0 := (HB.out.cell (World.block_lt_of_cell? w _ hx273_0)).trans hx273_0
                       replace p273 := eq_true p273
                       replace q273 := eq_true q273
                       refine start_ (n := 18) (S := fun w' => w'.cell? ⟨gb249, 0, none⟩ = some (.slice (some ad263) l2_0.length c2_0) ∧ w'.cell? ⟨gb249, 1, none⟩ = some (.bool a2_1) ∧ w'.cell? ⟨gb249, 2, none⟩ = some (.string a2_2) ∧ w'.cell? ⟨gb268, 0, none⟩ = some (.string x269000_4) ∧ w'.cell? ⟨gb268, 1, none⟩ = some (.string x269001_4) ∧ w'.cell? ⟨gb268, 2, none⟩ = some (.string x269002_4) ∧ w'.cell? (ad263.add ((ji114)).toNat) = some (.string (rdOf ByteArray.empty l2_0 (ji114)))) (ds := []) #[false, false, false, false, false, false, false, false, false, false, false, false, false, false, false, false, false, false] zq17 rfl rfl ⟨(blk_cell BK249.out 0).trans rfl, (blk_cell BK249.out 1).trans rfl, (blk_cell BK249.out 2).trans rfl, (blk_cell BK268.out 0).trans rfl, (blk_cell BK268.out 1).trans rfl, (blk_cell BK268.out 2).trans rfl, ((HB.out.cell (World.block_lt_of_cell? w _ hw273_0)).trans hw273_0)⟩ (fun hH => ?_); refine tbW impl_Show.tab26 impl_Show.bits26 (fun HT_ HW_ => ?_)
                       generalize wc.drew = w119 at HO_9 HO_15 BK249 BK250 BK262 BK268 HB hx273_0 hH ⊢
                       refine pure_ (i := 0) (N := some 120) (v := ?_) (a' := ?_) #[true, false, false, false, false, false, false, false, false, false, false, false, false, false, false, false, false, false] rfl rfl (any_of HT_.out zq17) (fun _ _ _ h => h) (Or.inl ⟨zq105, ?_⟩) ?_ ?_
                       rotate_left
                       ·intro w'
                        go_simp
                        with_reducible rfl
                       rotate_left
                       ·simp only [Act.put, List.setIfInBounds_toArray, List.set_cons_zero, List.set_cons_succ, i64_w, i32_w]
                        rfl
                       refine pure_ (i := 1) (N := some 121) (v := ?_) (a' := ?_) #[true, true, false, false, false, false, false, false, false, false, false, false, false, false, false, false, false, false] rfl rfl (any_of HT_.out zq17) (fun _ _ _ h => h) (Or.inl ⟨zq105, ?_⟩) ?_ ?_
                       rotate_left
                       ·intro w'
                        go_simp
                        with_reducible rfl
                       rotate_left
                       ·simp only [Act.put, List.setIfInBounds_toArray, List.set_cons_zero, List.set_cons_succ, i64_w, i32_w]
                        rfl
                       refine pure_ (i := 2) (N := some 122) (v := ?_) (a' := ?_) #[true, true, true, false, false, false, false, false, false, false, false, false, false, false, false, false, false, false] rfl rfl (any_of HT_.out zq17) (fun _ _ _ h => h) (Or.inl ⟨zq105, ?_⟩) ?_ ?_
                       rotate_left
                       ·intro w'
                        go_simp
                        with_reducible rfl
                       rotate_left
                       ·simp only [Act.put, List.setIfInBounds_toArray, List.set_cons_zero, List.set_cons_succ, i64_w, i32_w]
                        rfl
                       refine pure_ (i := 3) (N := some 123) (v := ?_) (a' := ?_) #[true, true, true, true, false, false, false, false, false, false, false, false, false, false, false, false, false, false] rfl rfl (any_of HT_.out zq17) (fun _ _ _ h => h) (Or.inl ⟨zq105, ?_⟩) ?_ ?_
                       rotate_left
                       ·intro w'
                        go_simp
                        with_reducible rfl
                       rotate_left
                       ·simp only [Act.put, List.setIfInBounds_toArray, List.set_cons_zero, List.set_cons_succ, i64_w, i32_w]
                        rfl
                       refine pure_ (i := 4) (N := some 124) (v := ?_) (a' := ?_) #[true, true, true, true, true, false, false, false, false, false, false, false, false, false, false, false, false, false] rfl rfl (any_of HT_.out zq17) (fun _ _ _ h => h) (Or.inl ⟨zq105, ?_⟩) ?_ ?_
                       rotate_left
                       ·intro w'
                        go_simp
                        with_reducible rfl
                       rotate_left
                       ·simp only [Act.put, List.setIfInBounds_toArray, List.set_cons_zero, List.set_cons_succ, i64_w, i32_w]
                        rfl
                       refine pure_ (i := 5) (N := some 125) (v := ?_) (a' := ?_) #[true, true, true, true, true, true, false, false, false, false, false, false, false, false, false, false, false, false] rfl rfl (any_of HT_.out zq17) (fun _ _ _ h => h) (Or.inl ⟨zq105, ?_⟩) ?_ ?_
                       rotate_left
                       ·intro w'
                        go_simp
                        with_reducible rfl
                       rotate_left
                       ·simp only [Act.put, List.setIfInBounds_toArray, List.set_cons_zero, List.set_cons_succ, i64_w, i32_w]
                        rfl
                       refine pure_ (i := 6) (N := some 126) (v := ?_) (a' := ?_) #[true, true, true, true, true, true, true, false, false, false, false, false, false, false, false, false, false, false] rfl rfl (any_of HT_.out zq17) (fun _ _ _ h => h) (Or.inl ⟨zq105, ?_⟩) ?_ ?_
                       rotate_left
                       ·intro w'
                        go_simp
                        with_reducible rfl
                       rotate_left
                       ·simp only [Act.put, List.setIfInBounds_toArray, List.set_cons_zero, List.set_cons_succ, i64_w, i32_w]
                        rfl
                       refine pure_ (i := 8) (N := some 128) (v := ?_) (a' := ?_) #[true, true, true, true, true, true, true, false, true, false, false, false, false, false, false, false, false, false] rfl rfl (any_of HT_.out zq17) (fun _ _ _ h => h) (Or.inl ⟨zq105, ?_⟩) ?_ ?_
                       rotate_left
                       ·intro w'
                        go_simp
                        with_reducible rfl
                       rotate_left
                       ·simp only [Act.put, List.setIfInBounds_toArray, List.set_cons_zero, List.set_cons_succ, i64_w, i32_w]
                        rfl
                       refine pure_ (i := 9) (N := some 129) (v := ?_) (a' := ?_) #[true, true, true, true, true, true, true, false, true, true, false, false, false, false, false, false, false, false] rfl rfl (any_of HT_.out zq17) (fun _ _ _ h => h) (Or.inl ⟨zq105, ?_⟩) ?_ ?_
                       rotate_left
                       ·intro w'
                        go_simp
                        with_reducible rfl
                       rotate_left
                       ·simp only [Act.put, List.setIfInBounds_toArray, List.set_cons_zero, List.set_cons_succ, i64_w, i32_w]
                        rfl
                       refine pure_ (i := 12) (N := some 132) (v := ?_) (a' := ?_) #[true, true, true, true, true, true, true, false, true, true, false, false, true, false, false, false, false, false] rfl rfl (any_of HT_.out zq17) (fun _ _ _ h => h) (Or.inl ⟨zq105, ?_⟩) ?_ ?_
                       rotate_left
                       ·intro w'
                        go_simp
                        with_reducible rfl
                       rotate_left
                       ·simp only [Act.put, List.setIfInBounds_toArray, List.set_cons_zero, List.set_cons_succ, i64_w, i32_w]
                        rfl
                       refine pure_ (i := 14) (N := some 134) (v := ?_) (a' := ?_) #[true, true, true, true, true, true, true, false, true, true, false, false, true, false, true, false, false, false] rfl rfl (any_of HT_.out zq17) (fun _ _ _ h => h) (Or.inl ⟨zq105, ?_⟩) ?_ ?_
                       rotate_left
                       ·intro w'
                        go_simp
                        with_reducible rfl
                       rotate_left
                       ·simp only [Act.put, List.setIfInBounds_toArray, List.set_cons_zero, List.set_cons_succ, i64_w, i32_w]
                        rfl
                       refine take_ (i := 7) (N := some 127) (v := ?_) (a' := ?_) #[true, true, true, true, true, true, true, true, true, true, false, false, true, false, true, false, false, false] rfl rfl (take_ofW HT_.out HW_.out zq17) (fun _ _ _ h => h) (Or.inl ⟨zq105, ?_⟩) hH ?_ ?_
                       rotate_left
                       ·rintro w' ⟨s0, s1, s2, s3, s4, s5, s6⟩
                        go_simp
                        with_reducible rfl
                       rotate_left
                       ·simp only [Act.put, List.setIfInBounds_toArray, List.set_cons_zero, List.set_cons_succ, i64_w, i32_w]
                        rfl
                       refine pure_ (i := 10) (N := some 130) (v := ?_) (a' := ?_) #[true, true, true, true, true, true, true, true, true, true, true, false, true, false, true, false, false, false] rfl rfl (any_of HT_.out zq17) (fun _ _ _ h => h) (Or.inl ⟨zq105, ?_⟩) ?_ ?_
                       rotate_left
                       ·intro w'
                        go_simp
                        with_reducible rfl
                       rotate_left
                       ·simp only [Act.put, List.setIfInBounds_toArray, List.set_cons_zero, List.set_cons_succ, i64_w, i32_w]
                        rfl
                       refine take_ (i := 11) (N := some 131) (v := ?_) (a' := ?_) #[true, true, true, true, true, true, true, true, true, true, true, true, true, false, true, false, false, false] rfl rfl (take_ofW HT_.out HW_.out zq17) (fun _ _ _ h => h) (Or.inl ⟨zq105, ?_⟩) hH ?_ ?_
                       rotate_left
                       ·rintro w' ⟨s0, s1, s2, s3, s4, s5, s6⟩
                        go_simp
                        with_reducible rfl
                       rotate_left
                       ·simp only [Act.put, List.setIfInBounds_toArray, List.set_cons_zero, List.set_cons_succ, i64_w, i32_w]
                        rfl
                       refine take_ (i := 15) (N := some 135) (v := ?_) (a' := ?_) #[true, true, true, true, true, true, true, true, true, true, true, true, true, false, true, true, false, false] rfl rfl (take_ofW HT_.out HW_.out zq17) (fun _ _ _ h => h) (Or.inl ⟨zq105, ?_⟩) hH ?_ ?_
                       rotate_left
                       ·rintro w' ⟨s0, s1, s2, s3, s4, s5, s6⟩
                        go_simp
                        with_reducible rfl
                       rotate_left
                       ·simp only [Act.put, List.setIfInBounds_toArray, List.set_cons_zero, List.set_cons_succ, i64_w, i32_w]
                        rfl
                       refine one_ (i := 13) (N := some 133) #[true, true, true, true, true, true, true, true, true, true, true, true, true, true, true, true, false, false] rfl rfl (one_of HT_.out zq17) zq118 (fun K hK => ?_)
                       refine goes_ Tryd.func49 zq17 rfl #[.string (rdOf ByteArray.empty l2_0 (ji114)), .int .i64 a3] zq105 rfl rfl zq123 ?_
                       with_reducible refine (impl_Sum.calls kj95 (rdOf ByteArray.empty l2_0 (ji114)) a3 t274 _ A117.out).mono ?_
                       rintro e w120 ⟨rfl, hb⟩
                       refine ⟨_, rfl, ?_⟩
                       have n0_ := AZ.mk (Kd.S_below zq22 hb)
                       have n1_ := AZ.mk (Kd.R_below zq62 hb)
                       have n2_ := AZ.mk (blk_below (g := gb249) (o := .cells #[.slice (some ad263) l2_0.length c2_0, .bool a2_1, .string a2_2] 38 (0, 0)) zq11 hb)
                       have n3_ := AZ.mk (blk_below (g := gb250) (o := .cells #[.int .i64 x251000_3, .bool x251001_3, .string x251002_3, .string x251003_3, .bool x251004_3] 36 (0, 0)) zq13 hb)
                       have n4_ := AZ.mk (blk_below (g := gb262) (o := .cells #[.int .i64 2, .bool false, .string (⟨#[]⟩ : ByteArray), .string (⟨#[]⟩ : ByteArray), .bool false] 36 (0, 0)) zq25 hb)
                       have n5_ := AZ.mk (blk_below (g := gb268) (o := .cells #[.string x269000_4, .string x269001_4, .string x269002_4] 88 (0, 0)) zq32 hb)
                       have n6_ := AZ.mk (below_step zq5 hb)
                       clear HO_9
                       clear HO_15
                       clear BK249
                       clear BK250
                       clear BK262
                       clear BK268
                       clear HB
                       have HO_9 := n0_
                       have HO_15 := n1_
                       have BK249 := n2_
                       have BK250 := n3_
                       have BK262 := n4_
                       have BK268 := n5_
                       have HB := n6_
                       clear n0_ n1_ n2_ n3_ n4_ n5_ n6_
                       (try clear hb)
                       (try clear hb2)
                       (try clear hk)
                       (try clear hi)
                       refine hK.out _ _ ⟨(blk_cell BK249.out 0).trans rfl, (blk_cell BK249.out 1).trans rfl, (blk_cell BK249.out 2).trans rfl, (blk_cell BK268.out 0).trans rfl, (blk_cell BK268.out 1).trans rfl, (blk_cell BK268.out 2).trans rfl, ((HB.out.cell (World.block_lt_of_cell? w _ hw273_0)).trans hw273_0)⟩ (fun hH => ?_)
                       clear hK K
                       refine norm_ (a' := ?_) ?_ ?_
                       rotate_left
                       ·show Act.put _ (some 133) _ = _
                        simp only [Act.put, List.setIfInBounds_toArray, List.set_cons_zero, List.set_cons_succ, i64_w, i32_w]
                        rfl
                       refine pure_ (i := 16) (N := some 136) (v := ?_) (a' := ?_) #[true, true, true, true, true, true, true, true, true, true, true, true, true, true, true, true, true, false] rfl rfl (any_of HT_.out zq17) (fun _ _ _ h => h) (Or.inl ⟨zq105, ?_⟩) ?_ ?_
                       rotate_left
                       ·intro w'
                        go_simp
                        with_reducible rfl
                       rotate_left
                       ·simp only [Act.put, List.setIfInBounds_toArray, List.set_cons_zero, List.set_cons_succ, i64_w, i32_w]
                        rfl
                       refine pure_ (i := 17) (N := some 137) (v := ?_) (a' := ?_) #[true, true, true, true, true, true, true, true, true, true, true, true, true, true, true, true, true, true] rfl rfl (any_of HT_.out zq17) (fun _ _ _ h => h) (Or.inl ⟨zq105, ?_⟩) ?_ ?_
                       rotate_left
                       ·intro w'
                        go_simp
                        with_reducible rfl
                       rotate_left
                       ·simp only [Act.put, List.setIfInBounds_toArray, List.set_cons_zero, List.set_cons_succ, i64_w, i32_w]
                        rfl
                       refine done_ (done_of HT_.out zq17) ?_
                       try go_wp2
                       go_roundg kj95
                       case measure => have := HJ4.out; have := HK2.out; have := HK3.out; have := HK4.out; have := HJ95.out; omega
                       case rel => exact ⟨(ji114), (x251000_3), (x251001_3), (x251002_3), (x251003_3), (x251004_3), (by first | rfl | (simp; done) | (simp only [← hji114] <;> (first | rfl | simp)) | (simp [*]; done)), H', ⟨by have := HJ4.out; have := HK2.out; have := HK3.out; have := HK4.out; have := HJ95.out; omega⟩, ⟨zq128⟩, ⟨zq62⟩, ⟨zq11⟩, ⟨zq13⟩, ⟨zq25⟩, ⟨zq5⟩⟩
                      ·rw [if_neg c118] at H
                       have c118b0 : (t274.toList == x269002_4.toList) = false := beq_eq_false_iff_ne.mpr c118
                       have c118b1 : (t274.toList != x269002_4.toList) = true := bne_iff_ne.mpr c118
                       simp only [Option.some.injEq, Prod.mk.injEq] at H
                       obtain ⟨rfl, rfl, rfl, rfl, rfl⟩ := H
                       try go_wp2
                       have n0_ := AZ.mk (Kd.S_drew HO_9.out)
                       have n1_ := AZ.mk (Kd.R_drew HO_15.out)
                       have n2_ := AZ.mk (blk_drew BK249.out)
                       have n3_ := AZ.mk (blk_drew BK250.out)
                       have n4_ := AZ.mk (blk_drew BK262.out)
                       have n5_ := AZ.mk (blk_drew BK268.out)
                       have n6_ := AZ.mk (below_drew1 HB.out)
                       clear HO_9
                       clear HO_15
                       clear BK249
                       clear BK250
                       clear BK262
                       clear BK268
                       clear HB
                       have HO_9 := n0_
                       have HO_15 := n1_
                       have BK249 := n2_
                       have BK250 := n3_
                       have BK262 := n4_
                       have BK268 := n5_
                       have HB := n6_
                       clear n0_ n1_ n2_ n3_ n4_ n5_ n6_
                       have p273 : 0 ≤ ((ji114) : Int) := of_decide_eq_true zq1
                       have q273 : (ji114) < (l2_0.length : Int) := of_decide_eq_true zq1
                       obtain ⟨ad273, e273, hx273_0⟩ := Kd.at_string HR2_0.out (ji114) p273 q273
                       have hw273_0 := hx273_0
                       obtain rfl : ad263 = ad273 := (by injection e273)
                       replace hx273_0 := (HB.out.cell (World.block_lt_of_cell? w _ hx273_0)).trans hx273_0
                       replace p273 := eq_true p273
                       replace q273 := eq_true q273
                       refine start_ (n := 18) (S := fun w' => w'.cell? ⟨gb249, 0, none⟩ = some (.slice (some ad263) l2_0.length c2_0) ∧ w'.cell? ⟨gb249, 1, none⟩ = some (.bool a2_1) ∧ w'.cell? ⟨gb249, 2, none⟩ = some (.string a2_2) ∧ w'.cell? ⟨gb268, 0, none⟩ = some (.string x269000_4) ∧ w'.cell? ⟨gb268, 1, none⟩ = some (.string x269001_4) ∧ w'.cell? ⟨gb268, 2, none⟩ = some (.string x269002_4) ∧ w'.cell? (ad263.add ((ji114)).toNat) = some (.string (rdOf ByteArray.empty l2_0 (ji114)))) (ds := []) #[false, false, false, false, false, false, false, false, false, false, false, false, false, false, false, false, false, false] zq17 rfl rfl ⟨(blk_cell BK249.out 0).trans rfl, (blk_cell BK249.out 1).trans rfl, (blk_cell BK249.out 2).trans rfl, (blk_cell BK268.out 0).trans rfl, (blk_cell BK268.out 1).trans rfl, (blk_cell BK268.out 2).trans rfl, ((HB.out.cell (World.block_lt_of_cell? w _ hw273_0)).trans hw273_0)⟩ (fun hH => ?_); refine tbW impl_Show.tab26 impl_Show.bits26 (fun HT_ HW_ => ?_)
                       generalize wc.drew = w121 at HO_9 HO_15 BK249 BK250 BK262 BK268 HB hx273_0 hH ⊢
                       refine pure_ (i := 0) (N := some 120) (v := ?_) (a' := ?_) #[true, false, false, false, false, false, false, false, false, false, false, false, false, false, false, false, false, false] rfl rfl (any_of HT_.out zq17) (fun _ _ _ h => h) (Or.inl ⟨zq105, ?_⟩) ?_ ?_
                       rotate_left
                       ·intro w'
                        go_simp
                        with_reducible rfl
                       rotate_left
                       ·simp only [Act.put, List.setIfInBounds_toArray, List.set_cons_zero, List.set_cons_succ, i64_w, i32_w]
                        rfl
                       refine pure_ (i := 1) (N := some 121) (v := ?_) (a' := ?_) #[true, true, false, false, false, false, false, false, false, false, false, false, false, false, false, false, false, false] rfl rfl (any_of HT_.out zq17) (fun _ _ _ h => h) (Or.inl ⟨zq105, ?_⟩) ?_ ?_
                       rotate_left
                       ·intro w'
                        go_simp
                        with_reducible rfl
                       rotate_left
                       ·simp only [Act.put, List.setIfInBounds_toArray, List.set_cons_zero, List.set_cons_succ, i64_w, i32_w]
                        rfl
                       refine pure_ (i := 2) (N := some 122) (v := ?_) (a' := ?_) #[true, true, true, false, false, false, false, false, false, false, false, false, false, false, false, false, false, false] rfl rfl (any_of HT_.out zq17) (fun _ _ _ h => h) (Or.inl ⟨zq105, ?_⟩) ?_ ?_
                       rotate_left
                       ·intro w'
                        go_simp
                        with_reducible rfl
                       rotate_left
                       ·simp only [Act.put, List.setIfInBounds_toArray, List.set_cons_zero, List.set_cons_succ, i64_w, i32_w]
                        rfl
                       refine pure_ (i := 3) (N := some 123) (v := ?_) (a' := ?_) #[true, true, true, true, false, false, false, false, false, false, false, false, false, false, false, false, false, false] rfl rfl (any_of HT_.out zq17) (fun _ _ _ h => h) (Or.inl ⟨zq105, ?_⟩) ?_ ?_
                       rotate_left
                       ·intro w'
                        go_simp
                        with_reducible rfl
                       rotate_left
                       ·simp only [Act.put, List.setIfInBounds_toArray, List.set_cons_zero, List.set_cons_succ, i64_w, i32_w]
                        rfl
                       refine pure_ (i := 4) (N := some 124) (v := ?_) (a' := ?_) #[true, true, true, true, true, false, false, false, false, false, false, false, false, false, false, false, false, false] rfl rfl (any_of HT_.out zq17) (fun _ _ _ h => h) (Or.inl ⟨zq105, ?_⟩) ?_ ?_
                       rotate_left
                       ·intro w'
                        go_simp
                        with_reducible rfl
                       rotate_left
                       ·simp only [Act.put, List.setIfInBounds_toArray, List.set_cons_zero, List.set_cons_succ, i64_w, i32_w]
                        rfl
                       refine pure_ (i := 5) (N := some 125) (v := ?_) (a' := ?_) #[true, true, true, true, true, true, false, false, false, false, false, false, false, false, false, false, false, false] rfl rfl (any_of HT_.out zq17) (fun _ _ _ h => h) (Or.inl ⟨zq105, ?_⟩) ?_ ?_
                       rotate_left
                       ·intro w'
                        go_simp
                        with_reducible rfl
                       rotate_left
                       ·simp only [Act.put, List.setIfInBounds_toArray, List.set_cons_zero, List.set_cons_succ, i64_w, i32_w]
                        rfl
                       refine pure_ (i := 6) (N := some 126) (v := ?_) (a' := ?_) #[true, true, true, true, true, true, true, false, false, false, false, false, false, false, false, false, false, false] rfl rfl (any_of HT_.out zq17) (fun _ _ _ h => h) (Or.inl ⟨zq105, ?_⟩) ?_ ?_
                       rotate_left
                       ·intro w'
                        go_simp
                        with_reducible rfl
                       rotate_left
                       ·simp only [Act.put, List.setIfInBounds_toArray, List.set_cons_zero, List.set_cons_succ, i64_w, i32_w]
                        rfl
                       refine pure_ (i := 8) (N := some 128) (v := ?_) (a' := ?_) #[true, true, true, true, true, true, true, false, true, false, false, false, false, false, false, false, false, false] rfl rfl (any_of HT_.out zq17) (fun _ _ _ h => h) (Or.inl ⟨zq105, ?_⟩) ?_ ?_
                       rotate_left
                       ·intro w'
                        go_simp
                        with_reducible rfl
                       rotate_left
                       ·simp only [Act.put, List.setIfInBounds_toArray, List.set_cons_zero, List.set_cons_succ, i64_w, i32_w]
                        rfl
                       refine pure_ (i := 9) (N := some 129) (v := ?_) (a' := ?_) #[true, true, true, true, true, true, true, false, true, true, false, false, false, false, false, false, false, false] rfl rfl (any_of HT_.out zq17) (fun _ _ _ h => h) (Or.inl ⟨zq105, ?_⟩) ?_ ?_
                       rotate_left
                       ·intro w'
                        go_simp
                        with_reducible rfl
                       rotate_left
                       ·simp only [Act.put, List.setIfInBounds_toArray, List.set_cons_zero, List.set_cons_succ, i64_w, i32_w]
                        rfl
                       refine pure_ (i := 12) (N := some 132) (v := ?_) (a' := ?_) #[true, true, true, true, true, true, true, false, true, true, false, false, true, false, false, false, false, false] rfl rfl (any_of HT_.out zq17) (fun _ _ _ h => h) (Or.inl ⟨zq105, ?_⟩) ?_ ?_
                       rotate_left
                       ·intro w'
                        go_simp
                        with_reducible rfl
                       rotate_left
                       ·simp only [Act.put, List.setIfInBounds_toArray, List.set_cons_zero, List.set_cons_succ, i64_w, i32_w]
                        rfl
                       refine pure_ (i := 14) (N := some 134) (v := ?_) (a' := ?_) #[true, true, true, true, true, true, true, false, true, true, false, false, true, false, true, false, false, false] rfl rfl (any_of HT_.out zq17) (fun _ _ _ h => h) (Or.inl ⟨zq105, ?_⟩) ?_ ?_
                       rotate_left
                       ·intro w'
                        go_simp
                        with_reducible rfl
                       rotate_left
                       ·simp only [Act.put, List.setIfInBounds_toArray, List.set_cons_zero, List.set_cons_succ, i64_w, i32_w]
                        rfl
                       refine take_ (i := 7) (N := some 127) (v := ?_) (a' := ?_) #[true, true, true, true, true, true, true, true, true, true, false, false, true, false, true, false, false, false] rfl rfl (take_ofW HT_.out HW_.out zq17) (fun _ _ _ h => h) (Or.inl ⟨zq105, ?_⟩) hH ?_ ?_
                       rotate_left
                       ·rintro w' ⟨s0, s1, s2, s3, s4, s5, s6⟩
                        go_simp
                        with_reducible rfl
                       rotate_left
                       ·simp only [Act.put, List.setIfInBounds_toArray, List.set_cons_zero, List.set_cons_succ, i64_w, i32_w]
                        rfl
                       refine pure_ (i := 10) (N := some 130) (v := ?_) (a' := ?_) #[true, true, true, true, true, true, true, true, true, true, true, false, true, false, true, false, false, false] rfl rfl (any_of HT_.out zq17) (fun _ _ _ h => h) (Or.inl ⟨zq105, ?_⟩) ?_ ?_
                       rotate_left
                       ·intro w'
                        go_simp
                        with_reducible rfl
                       rotate_left
                       ·simp only [Act.put, List.setIfInBounds_toArray, List.set_cons_zero, List.set_cons_succ, i64_w, i32_w]
                        rfl
                       refine take_ (i := 11) (N := some 131) (v := ?_) (a' := ?_) #[true, true, true, true, true, true, true, true, true, true, true, true, true, false, true, false, false, false] rfl rfl (take_ofW HT_.out HW_.out zq17) (fun _ _ _ h => h) (Or.inl ⟨zq105, ?_⟩) hH ?_ ?_
                       rotate_left
                       ·rintro w' ⟨s0, s1, s2, s3, s4, s5, s6⟩
                        go_simp
                        with_reducible rfl
                       rotate_left
                       ·simp only [Act.put, List.setIfInBounds_toArray, List.set_cons_zero, List.set_cons_succ, i64_w, i32_w]
                        rfl
                       refine take_ (i := 15) (N := some 135) (v := ?_) (a' := ?_) #[true, true, true, true, true, true, true, true, true, true, true, true, true, false, true, true, false, false] rfl rfl (take_ofW HT_.out HW_.out zq17) (fun _ _ _ h => h) (Or.inl ⟨zq105, ?_⟩) hH ?_ ?_
                       rotate_left
                       ·rintro w' ⟨s0, s1, s2, s3, s4, s5, s6⟩
                        go_simp
                        with_reducible rfl
                       rotate_left
                       ·simp only [Act.put, List.setIfInBounds_toArray, List.set_cons_zero, List.set_cons_succ, i64_w, i32_w]
                        rfl
                       refine one_ (i := 13) (N := some 133) #[true, true, true, true, true, true, true, true, true, true, true, true, true, true, true, true, false, false] rfl rfl (one_of HT_.out zq17) zq118 (fun K hK => ?_)
                       refine goes_ Tryd.func49 zq17 rfl #[.string (rdOf ByteArray.empty l2_0 (ji114)), .int .i64 a3] zq105 rfl rfl zq123 ?_
                       with_reducible refine (impl_Sum.calls kj95 (rdOf ByteArray.empty l2_0 (ji114)) a3 t274 _ A117.out).mono ?_
                       rintro e w122 ⟨rfl, hb⟩
                       refine ⟨_, rfl, ?_⟩
                       have n0_ := AZ.mk (Kd.S_below zq22 hb)
                       have n1_ := AZ.mk (Kd.R_below zq62 hb)
                       have n2_ := AZ.mk (blk_below (g := gb249) (o := .cells #[.slice (some ad263) l2_0.length c2_0, .bool a2_1, .string a2_2] 38 (0, 0)) zq11 hb)
                       have n3_ := AZ.mk (blk_below (g := gb250) (o := .cells #[.int .i64 x251000_3, .bool x251001_3, .string x251002_3, .string x251003_3, .bool x251004_3] 36 (0, 0)) zq13 hb)
                       have n4_ := AZ.mk (blk_below (g := gb262) (o := .cells #[.int .i64 2, .bool false, .string (⟨#[]⟩ : ByteArray), .string (⟨#[]⟩ : ByteArray), .bool false] 36 (0, 0)) zq25 hb)
                       have n5_ := AZ.mk (blk_below (g := gb268) (o := .cells #[.string x269000_4, .string x269001_4, .string x269002_4] 88 (0, 0)) zq32 hb)
                       have n6_ := AZ.mk (below_step zq5 hb)
                       clear HO_9
                       clear HO_15
                       clear BK249
                       clear BK250
                       clear BK262
                       clear BK268
                       clear HB
                       have HO_9 := n0_
                       have HO_15 := n1_
                       have BK249 := n2_
                       have BK250 := n3_
                       have BK262 := n4_
                       have BK268 := n5_
                       have HB := n6_
                       clear n0_ n1_ n2_ n3_ n4_ n5_ n6_
                       (try clear hb)
                       (try clear hb2)
                       (try clear hk)
                       (try clear hi)
                       refine hK.out _ _ ⟨(blk_cell BK249.out 0).trans rfl, (blk_cell BK249.out 1).trans rfl, (blk_cell BK249.out 2).trans rfl, (blk_cell BK268.out 0).trans rfl, (blk_cell BK268.out 1).trans rfl, (blk_cell BK268.out 2).trans rfl, ((HB.out.cell (World.block_lt_of_cell? w _ hw273_0)).trans hw273_0)⟩ (fun hH => ?_)
                       clear hK K
                       refine norm_ (a' := ?_) ?_ ?_
                       rotate_left
                       ·show Act.put _ (some 133) _ = _
                        simp only [Act.put, List.setIfInBounds_toArray, List.set_cons_zero, List.set_cons_succ, i64_w, i32_w]
                        rfl
                       refine pure_ (i := 16) (N := some 136) (v := ?_) (a' := ?_) #[true, true, true, true, true, true, true, true, true, true, true, true, true, true, true, true, true, false] rfl rfl (any_of HT_.out zq17) (fun _ _ _ h => h) (Or.inl ⟨zq105, ?_⟩) ?_ ?_
                       rotate_left
                       ·intro w'
                        go_simp
                        with_reducible rfl
                       rotate_left
                       ·simp only [Act.put, List.setIfInBounds_toArray, List.set_cons_zero, List.set_cons_succ, i64_w, i32_w]
                        rfl
                       refine pure_ (i := 17) (N := some 137) (v := ?_) (a' := ?_) #[true, true, true, true, true, true, true, true, true, true, true, true, true, true, true, true, true, true] rfl rfl (any_of HT_.out zq17) (fun _ _ _ h => h) (Or.inl ⟨zq105, ?_⟩) ?_ ?_
                       rotate_left
                       ·intro w'
                        go_simp
                        with_reducible rfl
                       rotate_left
                       ·simp only [Act.put, List.setIfInBounds_toArray, List.set_cons_zero, List.set_cons_succ, i64_w, i32_w]
                        rfl
                       refine done_ (done_of HT_.out zq17) ?_
                       have hnb123 := NB262_249.out
                       have hnc123 := NB249_262.out
                       have hnb124 := NB262_250.out
                       have hnc124 := NB250_262.out
                       have hnb125 := NB262_268.out
                       have hnc125 := NB268_262.out
                       have hcz126_0 : w122.cell? ⟨gb262, 0, none⟩ = some (.int .i64 2) := (blk_cell BK262.out 0).trans rfl
                       have hcz126_1 : w122.cell? ⟨gb262, 1, none⟩ = some (.bool false) := (blk_cell BK262.out 1).trans rfl
                       have hcz126_2 : w122.cell? ⟨gb262, 2, none⟩ = some (.string (⟨#[]⟩ : ByteArray)) := (blk_cell BK262.out 2).trans rfl
                       have hcz126_3 : w122.cell? ⟨gb262, 3, none⟩ = some (.string (⟨#[]⟩ : ByteArray)) := (blk_cell BK262.out 3).trans rfl
                       have hcz126_4 : w122.cell? ⟨gb262, 4, none⟩ = some (.bool false) := (blk_cell BK262.out 4).trans rfl
                       have hfz126_0 := blk_frozen BK262.out 0
                       have hfz126_1 := blk_frozen BK262.out 1
                       have hfz126_2 := blk_frozen BK262.out 2
                       have hfz126_3 := blk_frozen BK262.out 3
                       have hfz126_4 := blk_frozen BK262.out 4
                       have hnb127 := NB250_249.out
                       have hnc127 := NB249_250.out
                       have hnb128 := NB250_268.out
                       have hnc128 := NB268_250.out
                       have hcz129_0 : w122.cell? ⟨gb250, 0, none⟩ = some (.int .i64 x251000_3) := (blk_cell BK250.out 0).trans rfl
                       have hcz129_1 : w122.cell? ⟨gb250, 1, none⟩ = some (.bool x251001_3) := (blk_cell BK250.out 1).trans rfl
                       have hcz129_2 : w122.cell? ⟨gb250, 2, none⟩ = some (.string x251002_3) := (blk_cell BK250.out 2).trans rfl
                       have hcz129_3 : w122.cell? ⟨gb250, 3, none⟩ = some (.string x251003_3) := (blk_cell BK250.out 3).trans rfl
                       have hcz129_4 : w122.cell? ⟨gb250, 4, none⟩ = some (.bool x251004_3) := (blk_cell BK250.out 4).trans rfl
                       have hfz129_0 := blk_frozen BK250.out 0
                       have hfz129_1 := blk_frozen BK250.out 1
                       have hfz129_2 := blk_frozen BK250.out 2
                       have hfz129_3 := blk_frozen BK250.out 3
                       have hfz129_4 := blk_frozen BK250.out 4
                       try go_wp2
                       refine bodyPost_ret (results_cell_row rfl _ _ gb250 36 #[.int .i64 2, .bool false, .string (⟨#[]⟩ : ByteArray), .string (⟨#[]⟩ : ByteArray), .bool false] (0, 0) _ rfl zq14 Tryd.underlying36 rfl zq17) rfl ?_
                       exact ⟨by first | rfl | (simp [errW_none, errW_some] <;> rfl) | (simp only [← hji114]; first | rfl | (simp [errW_none, errW_some] <;> rfl)) | (simp [*, errW_none, errW_some] <;> rfl), zq5⟩
                     ·rw [if_neg c116] at H
                      exact absurd H zq119
                    ·rw [if_neg c115] at H
                     exact absurd H zq119
                  ·replace c104 := Bool.eq_false_iff.mpr c104
                   subst c104
                   rw [if_neg (show ¬ (false = true) by decide)] at H
                   by_cases c130 : (x9_2.length : Int) > (wrap64 (x16_3 + 1))
                   ·rw [if_pos c130] at H
                    have c130b0 : decide ((wrap64 (x16_3 + 1)) < (x9_2.length : Int)) = true := decide_eq_true c130
                    clear c130
                    simp only [Option.some.injEq, Prod.mk.injEq] at H
                    obtain ⟨rfl, rfl, rfl, rfl, rfl⟩ := H
                    have hnb131 := NB262_249.out
                    have hnc131 := NB249_262.out
                    have hnb132 := NB262_250.out
                    have hnc132 := NB250_262.out
                    have hnb133 := NB262_268.out
                    have hnc133 := NB268_262.out
                    have hcz134_0 : wc.cell? ⟨gb262, 0, none⟩ = some (.int .i64 2) := (blk_cell BK262.out 0).trans rfl
                    have hcz134_1 : wc.cell? ⟨gb262, 1, none⟩ = some (.bool false) := (blk_cell BK262.out 1).trans rfl
                    have hcz134_2 : wc.cell? ⟨gb262, 2, none⟩ = some (.string (⟨#[]⟩ : ByteArray)) := (blk_cell BK262.out 2).trans rfl
                    have hcz134_3 : wc.cell? ⟨gb262, 3, none⟩ = some (.string (⟨#[]⟩ : ByteArray)) := (blk_cell BK262.out 3).trans rfl
                    have hcz134_4 : wc.cell? ⟨gb262, 4, none⟩ = some (.bool false) := (blk_cell BK262.out 4).trans rfl
                    have hfz134_0 := blk_frozen BK262.out 0
                    have hfz134_1 := blk_frozen BK262.out 1
                    have hfz134_2 := blk_frozen BK262.out 2
                    have hfz134_3 := blk_frozen BK262.out 3
                    have hfz134_4 := blk_frozen BK262.out 4
                    have hnb135 := NB250_249.out
                    have hnc135 := NB249_250.out
                    have hnb136 := NB250_268.out
                    have hnc136 := NB268_250.out
                    have hcz137_0 : wc.cell? ⟨gb250, 0, none⟩ = some (.int .i64 x251000_3) := (blk_cell BK250.out 0).trans rfl
                    have hcz137_1 : wc.cell? ⟨gb250, 1, none⟩ = some (.bool x251001_3) := (blk_cell BK250.out 1).trans rfl
                    have hcz137_2 : wc.cell? ⟨gb250, 2, none⟩ = some (.string x251002_3) := (blk_cell BK250.out 2).trans rfl
                    have hcz137_3 : wc.cell? ⟨gb250, 3, none⟩ = some (.string x251003_3) := (blk_cell BK250.out 3).trans rfl
                    have hcz137_4 : wc.cell? ⟨gb250, 4, none⟩ = some (.bool x251004_3) := (blk_cell BK250.out 4).trans rfl
                    have hfz137_0 := blk_frozen BK250.out 0
                    have hfz137_1 := blk_frozen BK250.out 1
                    have hfz137_2 := blk_frozen BK250.out 2
                    have hfz137_3 := blk_frozen BK250.out 3
                    have hfz137_4 := blk_frozen BK250.out 4
                    go_wp2
                    refine bodyPost_ret (results_cell_row rfl _ _ gb250 36 #[.int .i64 2, .bool false, .string (⟨#[]⟩ : ByteArray), .string (⟨#[]⟩ : ByteArray), .bool false] (0, 0) _ rfl zq14 Tryd.underlying36 rfl zq17) rfl ?_
                    exact ⟨zq7, zq5⟩
                   ·rw [if_neg c130] at H
                    have c130b0 : decide ((wrap64 (x16_3 + 1)) < (x9_2.length : Int)) = false := decide_eq_false c130
                    clear c130
                    have HC138 := AZ.mk H
                    clear H
                    go_upto_region 30 with (fail)
                    go_cut [159] (fun v159 wc => ∃ (kq : Nat) (x159_137 : Bool), v159 = .bool x159_137 ∧ AZ (impl_Show.j5 kq a1 a3 x159_137 l2_0 a2_1 a2_2 2 false (⟨#[]⟩ : ByteArray) (⟨#[]⟩ : ByteArray) false x269000_4 x269001_4 x269002_4 = some (r1, r2, r3, r4, r5)) ∧ AZ (kq ≤ kj95) ∧ AZ (wc.heap[gb249]? = some (.cells #[(.slice (some ad263) l2_0.length c2_0), .bool a2_1, .string a2_2] 38 (0, 0))) ∧ AZ (wc.heap[gb250]? = some (.cells #[.int .i64 x251000_3, .bool x251001_3, .string x251002_3, .string x251003_3, .bool x251004_3] 36 (0, 0))) ∧ AZ (wc.heap[gb262]? = some (.cells #[.int .i64 2, .bool false, .string (⟨#[]⟩ : ByteArray), .string (⟨#[]⟩ : ByteArray), .bool false] 36 (0, 0))) ∧ AZ (wc.heap[gb268]? = some (.cells #[.string x269000_4, .string x269001_4, .string x269002_4] 88 (0, 0))) ∧ AZ (Below w.heap.size w wc))
                    case first =>
                     have H := HC138.out
                     clear HC138
                     by_cases c139 : x16_3 = (wrap64 ((t265.length : Int) - 1))
                     ·rw [if_pos c139] at H
                      have c139b0 : (x16_3 == (wrap64 ((t265.length : Int) - 1))) = true := beq_iff_eq.mpr c139
                      have c139b1 : (x16_3 != (wrap64 ((t265.length : Int) - 1))) = false := bne_eq_false_iff_eq.mpr c139
                      clear c139
                      (first | rw [c139b0] | (simp only [i64_w, i32_w]; rw [c139b0]) | skip)
                      by_cases c140 : x269000_4.toList = ([102] : List UInt8)
                      ·rw [if_pos c140] at H
                       have c140b0 : (x269000_4.toList == ([102] : List UInt8)) = true := beq_iff_eq.mpr c140
                       have c140b1 : (x269000_4.toList != ([102] : List UInt8)) = false := bne_eq_false_iff_eq.mpr c140
                       clear c140
                       have H' := AZ.mk H
                       clear H
                       obtain ⟨Ao141, co141, eo141⟩ := Kd.R_slice HO_15.out
                       subst eo141
                       have hnb142 := NB268_249.out
                       have hnc142 := NB249_268.out
                       have hnb143 := NB268_250.out
                       have hnc143 := NB250_268.out
                       have hnb144 := NB268_262.out
                       have hnc144 := NB262_268.out
                       have hcz145_0 : wc.cell? ⟨gb268, 0, none⟩ = some (.string x269000_4) := (blk_cell BK268.out 0).trans rfl
                       have hcz145_1 : wc.cell? ⟨gb268, 1, none⟩ = some (.string x269001_4) := (blk_cell BK268.out 1).trans rfl
                       have hcz145_2 : wc.cell? ⟨gb268, 2, none⟩ = some (.string x269002_4) := (blk_cell BK268.out 2).trans rfl
                       have hfz145_0 := blk_frozen BK268.out 0
                       have hfz145_1 := blk_frozen BK268.out 1
                       have hfz145_2 := blk_frozen BK268.out 2
                       go_wp2
                       go_meet
                       case rel => exact ⟨_, (true), zq8, H', ⟨zq116⟩, ⟨zq11⟩, ⟨zq13⟩, ⟨zq25⟩, ⟨zq32⟩, ⟨zq5⟩⟩
                      ·rw [if_neg c140] at H
                       have c140b0 : (x269000_4.toList == ([102] : List UInt8)) = false := beq_eq_false_iff_ne.mpr c140
                       have c140b1 : (x269000_4.toList != ([102] : List UInt8)) = true := bne_iff_ne.mpr c140
                       have H' := AZ.mk H
                       clear H
                       obtain ⟨Ao146, co146, eo146⟩ := Kd.R_slice HO_15.out
                       subst eo146
                       have hnb147 := NB268_249.out
                       have hnc147 := NB249_268.out
                       have hnb148 := NB268_250.out
                       have hnc148 := NB250_268.out
                       have hnb149 := NB268_262.out
                       have hnc149 := NB262_268.out
                       have hcz150_0 : wc.cell? ⟨gb268, 0, none⟩ = some (.string x269000_4) := (blk_cell BK268.out 0).trans rfl
                       have hcz150_1 : wc.cell? ⟨gb268, 1, none⟩ = some (.string x269001_4) := (blk_cell BK268.out 1).trans rfl
                       have hcz150_2 : wc.cell? ⟨gb268, 2, none⟩ = some (.string x269002_4) := (blk_cell BK268.out 2).trans rfl
                       have hfz150_0 := blk_frozen BK268.out 0
                       have hfz150_1 := blk_frozen BK268.out 1
                       have hfz150_2 := blk_frozen BK268.out 2
                       go_wp2
                       go_meet
                       case rel => exact ⟨_, ((x269000_4.toList == ([120] : List UInt8))), zq8, H', ⟨zq116⟩, ⟨zq11⟩, ⟨zq13⟩, ⟨zq25⟩, ⟨zq32⟩, ⟨zq5⟩⟩
                     ·rw [if_neg c139] at H
                      have c139b0 : (x16_3 == (wrap64 ((t265.length : Int) - 1))) = false := beq_eq_false_iff_ne.mpr c139
                      have c139b1 : (x16_3 != (wrap64 ((t265.length : Int) - 1))) = true := bne_iff_ne.mpr c139
                      (first | rw [c139b0] | (simp only [i64_w, i32_w]; rw [c139b0]) | skip)
                      have H' := AZ.mk H
                      clear H
                      obtain ⟨Ao151, co151, eo151⟩ := Kd.R_slice HO_15.out
                      subst eo151
                      go_wp2
                      go_meet
                      case rel => exact ⟨_, (false), zq8, H', ⟨zq116⟩, ⟨zq11⟩, ⟨zq13⟩, ⟨zq25⟩, ⟨zq32⟩, ⟨zq5⟩⟩
                    case rest =>
                     clear HC138
                     try clear c1
                     try clear c2
                     try clear p2
                     try clear q2
                     try clear hx2
                     try clear c4
                     try clear p6
                     try clear c10
                     try clear c11
                     try clear c12
                     try clear c13
                     try clear c14
                     try clear p27
                     try clear q27
                     try clear hx27
                     try clear c49
                     try clear p64
                     try clear c104
                     try clear c115
                     try clear c115b0
                     try clear c116
                     try clear c116b0
                     try clear c118
                     try clear c118b0
                     try clear c118b1
                     try clear c123
                     try clear c124
                     try clear c125
                     try clear c127
                     try clear c128
                     try clear c130
                     try clear c130b0
                     try clear c131
                     try clear c132
                     try clear c133
                     try clear c135
                     try clear c136
                     try clear c139
                     try clear c139b0
                     try clear c139b1
                     try clear c140
                     try clear c140b0
                     try clear c140b1
                     try clear c142
                     try clear c143
                     try clear c144
                     try clear c147
                     try clear c148
                     try clear c149
                     try clear hcz126_0
                     try clear hcz126_1
                     try clear hcz126_2
                     try clear hcz126_3
                     try clear hcz126_4
                     try clear hcz129_0
                     try clear hcz129_1
                     try clear hcz129_2
                     try clear hcz129_3
                     try clear hcz129_4
                     try clear hcz134_0
                     try clear hcz134_1
                     try clear hcz134_2
                     try clear hcz134_3
                     try clear hcz134_4
                     try clear hcz137_0
                     try clear hcz137_1
                     try clear hcz137_2
                     try clear hcz137_3
                     try clear hcz137_4
                     try clear hcz145_0
                     try clear hcz145_1
                     try clear hcz145_2
                     try clear hcz150_0
                     try clear hcz150_1
                     try clear hcz150_2
                     try clear hfz126_0
                     try clear hfz126_1
                     try clear hfz126_2
                     try clear hfz126_3
                     try clear hfz126_4
                     try clear hfz129_0
                     try clear hfz129_1
                     try clear hfz129_2
                     try clear hfz129_3
                     try clear hfz129_4
                     try clear hfz134_0
                     try clear hfz134_1
                     try clear hfz134_2
                     try clear hfz134_3
                     try clear hfz134_4
                     try clear hfz137_0
                     try clear hfz137_1
                     try clear hfz137_2
                     try clear hfz137_3
                     try clear hfz137_4
                     try clear hfz145_0
                     try clear hfz145_1
                     try clear hfz145_2
                     try clear hfz150_0
                     try clear hfz150_1
                     try clear hfz150_2
                     try clear hx273_0
                     try clear p273
                     try clear q273
                     obtain ⟨kq, x159_137, rfl, HA, HJ137, BK249, BK250, BK262, BK268, HB⟩ := hcut
                     cases kq with
                     | zero => exact absurd HA.out (by simp [impl_Show.j5])
                     | succ kj137 =>
                      have H := HA.out
                      clear HA
                      simp only [impl_Show.j5] at H
                      by_cases c152 : x159_137 = true
                      ·subst c152
                       rw [if_pos rfl] at H
                       have HC153 := AZ.mk H
                       clear H
                       go_upto_region 31 with (fail)
                       go_cut [172] (fun v172 wc => ∃ (kq : Nat) (x172_152 : Bool), v172 = .bool x172_152 ∧ AZ (impl_Show.j6 kq a1 x172_152 l2_0 a2_1 a2_2 2 false (⟨#[]⟩ : ByteArray) (⟨#[]⟩ : ByteArray) false x269000_4 x269001_4 x269002_4 = some (r1, r2, r3, r4, r5)) ∧ AZ (kq ≤ kj137) ∧ AZ (wc.heap[gb249]? = some (.cells #[(.slice (some ad263) l2_0.length c2_0), .bool a2_1, .string a2_2] 38 (0, 0))) ∧ AZ (wc.heap[gb250]? = some (.cells #[.int .i64 x251000_3, .bool x251001_3, .string x251002_3, .string x251003_3, .bool x251004_3] 36 (0, 0))) ∧ AZ (wc.heap[gb262]? = some (.cells #[.int .i64 2, .bool false, .string (⟨#[]⟩ : ByteArray), .string (⟨#[]⟩ : ByteArray), .bool false] 36 (0, 0))) ∧ AZ (wc.heap[gb268]? = some (.cells #[.string x269000_4, .string x269001_4, .string x269002_4] 88 (0, 0))) ∧ AZ (Below w.heap.size w wc))
                       case first =>
                        have H := HC153.out
                        clear HC153
                        by_cases c154 : a2_1 = true
                        ·subst c154
                         rw [if_pos rfl] at H
                         by_cases c155 : 5 + a2_2.size ≤ 9223372036854775807
                         ·rw [if_pos c155] at H
                          have c155b0 := eq_true c155
                          have c155b1 : decide (5 + a2_2.size ≤ 9223372036854775807) = true := decide_eq_true c155
                          try have c155b2 : (9223372036854775807 < 5 + a2_2.size) = False := eq_false (Nat.not_lt.2 c155)
                          replace H := Option.bind_eq_some_iff.mp H
                          obtain ⟨t275, A1560, H⟩ := H
                          try dsimp only at H
                          have A156 := AZ.mk A1560
                          clear A1560
                          have H' := AZ.mk H
                          clear H
                          try go_wp2
                          have n0_ := AZ.mk (blk_drew BK249.out)
                          have n1_ := AZ.mk (blk_drew BK250.out)
                          have n2_ := AZ.mk (blk_drew BK262.out)
                          have n3_ := AZ.mk (blk_drew BK268.out)
                          have n4_ := AZ.mk (below_drew1 HB.out)
                          clear BK249
                          clear BK250
                          clear BK262
                          clear BK268
                          clear HB
                          have BK249 := n0_
                          have BK250 := n1_
                          have BK262 := n2_
                          have BK268 := n3_
                          have HB := n4_
                          clear n0_ n1_ n2_ n3_ n4_
                          refine start_ (n := 13) (S := fun w' => w'.cell? ⟨gb249, 0, none⟩ = some (.slice (some ad263) l2_0.length c2_0) ∧ w'.cell? ⟨gb249, 1, none⟩ = some (.bool true) ∧ w'.cell? ⟨gb249, 2, none⟩ = some (.string a2_2) ∧ w'.cell? ⟨gb268, 0, none⟩ = some (.string x269000_4) ∧ w'.cell? ⟨gb268, 1, none⟩ = some (.string x269001_4) ∧ w'.cell? ⟨gb268, 2, none⟩ = some (.string x269002_4)) (ds := []) #[false, false, false, false, false, false, false, false, false, false, false, false, false] zq17 rfl rfl ⟨(blk_cell BK249.out 0).trans rfl, (blk_cell BK249.out 1).trans rfl, (blk_cell BK249.out 2).trans rfl, (blk_cell BK268.out 0).trans rfl, (blk_cell BK268.out 1).trans rfl, (blk_cell BK268.out 2).trans rfl⟩ (fun hH => ?_); refine tbW impl_Show.tab31 impl_Show.bits31 (fun HT_ HW_ => ?_)
                          generalize wc.drew = w157 at BK249 BK250 BK262 BK268 HB hH ⊢
                          refine pure_ (i := 0) (N := some 160) (v := ?_) (a' := ?_) #[true, false, false, false, false, false, false, false, false, false, false, false, false] rfl rfl (any_of HT_.out zq17) (fun _ _ _ h => h) (Or.inl ⟨zq105, ?_⟩) ?_ ?_
                          rotate_left
                          ·intro w'
                           go_simp
                           with_reducible rfl
                          rotate_left
                          ·simp only [Act.put, List.setIfInBounds_toArray, List.set_cons_zero, List.set_cons_succ, i64_w, i32_w]
                           rfl
                          refine take_ (i := 1) (N := some 161) (v := ?_) (a' := ?_) #[true, true, false, false, false, false, false, false, false, false, false, false, false] rfl rfl (take_ofW HT_.out HW_.out zq17) (fun _ _ _ h => h) (Or.inl ⟨zq105, ?_⟩) hH ?_ ?_
                          rotate_left
                          ·rintro w' ⟨s0, s1, s2, s3, s4, s5⟩
                           go_simp
                           with_reducible rfl
                          rotate_left
                          ·simp only [Act.put, List.setIfInBounds_toArray, List.set_cons_zero, List.set_cons_succ, i64_w, i32_w]
                           rfl
                          refine pure_ (i := 2) (N := some 162) (v := ?_) (a' := ?_) #[true, true, true, false, false, false, false, false, false, false, false, false, false] rfl rfl (any_of HT_.out zq17) (fun _ _ _ h => h) (Or.inl ⟨zq105, ?_⟩) ?_ ?_
                          rotate_left
                          ·intro w'
                           go_simp
                           with_reducible rfl
                          rotate_left
                          ·simp only [Act.put, List.setIfInBounds_toArray, List.set_cons_zero, List.set_cons_succ, i64_w, i32_w]
                           rfl
                          refine pure_ (i := 3) (N := some 163) (v := ?_) (a' := ?_) #[true, true, true, true, false, false, false, false, false, false, false, false, false] rfl rfl (any_of HT_.out zq17) (fun _ _ _ h => h) (Or.inl ⟨zq105, ?_⟩) ?_ ?_
                          rotate_left
                          ·intro w'
                           go_simp
                           with_reducible rfl
                          rotate_left
                          ·simp only [Act.put, List.setIfInBounds_toArray, List.set_cons_zero, List.set_cons_succ, i64_w, i32_w]
                           rfl
                          refine pure_ (i := 4) (N := some 164) (v := ?_) (a' := ?_) #[true, true, true, true, true, false, false, false, false, false, false, false, false] rfl rfl (any_of HT_.out zq17) (fun _ _ _ h => h) (Or.inl ⟨zq105, ?_⟩) ?_ ?_
                          rotate_left
                          ·intro w'
                           go_simp
                           with_reducible rfl
                          rotate_left
                          ·simp only [Act.put, List.setIfInBounds_toArray, List.set_cons_zero, List.set_cons_succ, i64_w, i32_w]
                           rfl
                          refine pure_ (i := 7) (N := some 167) (v := ?_) (a' := ?_) #[true, true, true, true, true, false, false, true, false, false, false, false, false] rfl rfl (any_of HT_.out zq17) (fun _ _ _ h => h) (Or.inl ⟨zq105, ?_⟩) ?_ ?_
                          rotate_left
                          ·intro w'
                           go_simp
                           with_reducible rfl
                          rotate_left
                          ·simp only [Act.put, List.setIfInBounds_toArray, List.set_cons_zero, List.set_cons_succ, i64_w, i32_w]
                           rfl
                          refine pure_ (i := 9) (N := some 169) (v := ?_) (a' := ?_) #[true, true, true, true, true, false, false, true, false, true, false, false, false] rfl rfl (any_of HT_.out zq17) (fun _ _ _ h => h) (Or.inl ⟨zq105, ?_⟩) ?_ ?_
                          rotate_left
                          ·intro w'
                           go_simp
                           with_reducible rfl
                          rotate_left
                          ·simp only [Act.put, List.setIfInBounds_toArray, List.set_cons_zero, List.set_cons_succ, i64_w, i32_w]
                           rfl
                          refine take_ (i := 5) (N := some 165) (v := ?_) (a' := ?_) #[true, true, true, true, true, true, false, true, false, true, false, false, false] rfl rfl (take_ofW HT_.out HW_.out zq17) (fun _ _ _ h => h) (Or.inl ⟨zq105, ?_⟩) hH ?_ ?_
                          rotate_left
                          ·rintro w' ⟨s0, s1, s2, s3, s4, s5⟩
                           go_simp
                           with_reducible rfl
                          rotate_left
                          ·simp only [Act.put, List.setIfInBounds_toArray, List.set_cons_zero, List.set_cons_succ, i64_w, i32_w]
                           rfl
                          refine pure_ (i := 6) (N := some 166) (v := ?_) (a' := ?_) #[true, true, true, true, true, true, true, true, false, true, false, false, false] rfl rfl (any_of HT_.out zq17) (fun _ _ _ h => h) (Or.inl ⟨zq105, ?_⟩) ?_ ?_
                          rotate_left
                          ·intro w'
                           go_simp
                           with_reducible rfl
                          rotate_left
                          ·simp only [Act.put, List.setIfInBounds_toArray, List.set_cons_zero, List.set_cons_succ, i64_w, i32_w]
                           rfl
                          refine take_ (i := 10) (N := some 170) (v := ?_) (a' := ?_) #[true, true, true, true, true, true, true, true, false, true, true, false, false] rfl rfl (take_ofW HT_.out HW_.out zq17) (fun _ _ _ h => h) (Or.inl ⟨zq105, ?_⟩) hH ?_ ?_
                          rotate_left
                          ·rintro w' ⟨s0, s1, s2, s3, s4, s5⟩
                           go_simp
                           with_reducible rfl
                          rotate_left
                          ·simp only [Act.put, List.setIfInBounds_toArray, List.set_cons_zero, List.set_cons_succ, i64_w, i32_w]
                           rfl
                          refine one_ (i := 8) (N := some 168) #[true, true, true, true, true, true, true, true, true, true, true, false, false] rfl rfl (one_of HT_.out zq17) zq118 (fun K hK => ?_)
                          refine goes_ Tryd.func49 zq17 rfl #[.string ((⟨#[102, 105, 108, 101, 32]⟩ : ByteArray) ++ a2_2), .int .i64 a3] zq105 rfl rfl zq2 ?_
                          with_reducible refine (impl_Sum.calls kj137 ((⟨#[102, 105, 108, 101, 32]⟩ : ByteArray) ++ a2_2) a3 t275 _ A156.out).mono ?_
                          rintro e w158 ⟨rfl, hb⟩
                          refine ⟨_, rfl, ?_⟩
                          have n0_ := AZ.mk (blk_below (g := gb249) (o := .cells #[.slice (some ad263) l2_0.length c2_0, .bool true, .string a2_2] 38 (0, 0)) zq11 hb)
                          have n1_ := AZ.mk (blk_below (g := gb250) (o := .cells #[.int .i64 x251000_3, .bool x251001_3, .string x251002_3, .string x251003_3, .bool x251004_3] 36 (0, 0)) zq13 hb)
                          have n2_ := AZ.mk (blk_below (g := gb262) (o := .cells #[.int .i64 2, .bool false, .string (⟨#[]⟩ : ByteArray), .string (⟨#[]⟩ : ByteArray), .bool false] 36 (0, 0)) zq25 hb)
                          have n3_ := AZ.mk (blk_below (g := gb268) (o := .cells #[.string x269000_4, .string x269001_4, .string x269002_4] 88 (0, 0)) zq32 hb)
                          have n4_ := AZ.mk (below_step zq5 hb)
                          clear BK249
                          clear BK250
                          clear BK262
                          clear BK268
                          clear HB
                          have BK249 := n0_
                          have BK250 := n1_
                          have BK262 := n2_
                          have BK268 := n3_
                          have HB := n4_
                          clear n0_ n1_ n2_ n3_ n4_
                          (try clear hb)
                          (try clear hb2)
                          (try clear hk)
                          (try clear hi)
                          refine hK.out _ _ ⟨(blk_cell BK249.out 0).trans rfl, (blk_cell BK249.out 1).trans rfl, (blk_cell BK249.out 2).trans rfl, (blk_cell BK268.out 0).trans rfl, (blk_cell BK268.out 1).trans rfl, (blk_cell BK268.out 2).trans rfl⟩ (fun hH => ?_)
                          clear hK K
                          refine norm_ (a' := ?_) ?_ ?_
                          rotate_left
                          ·show Act.put _ (some 168) _ = _
                           simp only [Act.put, List.setIfInBounds_toArray, List.set_cons_zero, List.set_cons_succ, i64_w, i32_w]
                           rfl
                          refine pure_ (i := 11) (N := some 171) (v := ?_) (a' := ?_) #[true, true, true, true, true, true, true, true, true, true, true, true, false] rfl rfl (any_of HT_.out zq17) (fun _ _ _ h => h) (Or.inl ⟨zq105, ?_⟩) ?_ ?_
                          rotate_left
                          ·intro w'
                           go_simp
                           with_reducible rfl
                          rotate_left
                          ·simp only [Act.put, List.setIfInBounds_toArray, List.set_cons_zero, List.set_cons_succ, i64_w, i32_w]
                           rfl
                          refine pure_ (i := 12) (N := some 172) (v := ?_) (a' := ?_) #[true, true, true, true, true, true, true, true, true, true, true, true, true] rfl rfl (any_of HT_.out zq17) (fun _ _ _ h => h) (Or.inl ⟨zq105, ?_⟩) ?_ ?_
                          rotate_left
                          ·intro w'
                           go_simp
                           with_reducible rfl
                          rotate_left
                          ·simp only [Act.put, List.setIfInBounds_toArray, List.set_cons_zero, List.set_cons_succ, i64_w, i32_w]
                           rfl
                          refine done_ (done_of HT_.out zq17) ?_
                          try go_wp2
                          go_meet
                          case rel => exact ⟨_, ((t275.toList != x269002_4.toList)), zq8, H', ⟨zq127⟩, ⟨zq11⟩, ⟨zq13⟩, ⟨zq25⟩, ⟨zq32⟩, ⟨zq5⟩⟩
                         ·rw [if_neg c155] at H
                          exact absurd H zq119
                        ·replace c154 := Bool.eq_false_iff.mpr c154
                         subst c154
                         rw [if_neg (show ¬ (false = true) by decide)] at H
                         have H' := AZ.mk H
                         clear H
                         try go_wp2
                         have n0_ := AZ.mk (blk_drew BK249.out)
                         have n1_ := AZ.mk (blk_drew BK250.out)
                         have n2_ := AZ.mk (blk_drew BK262.out)
                         have n3_ := AZ.mk (blk_drew BK268.out)
                         have n4_ := AZ.mk (below_drew1 HB.out)
                         clear BK249
                         clear BK250
                         clear BK262
                         clear BK268
                         clear HB
                         have BK249 := n0_
                         have BK250 := n1_
                         have BK262 := n2_
                         have BK268 := n3_
                         have HB := n4_
                         clear n0_ n1_ n2_ n3_ n4_
                         refine start_ (n := 13) (S := fun w' => w'.cell? ⟨gb249, 0, none⟩ = some (.slice (some ad263) l2_0.length c2_0) ∧ w'.cell? ⟨gb249, 1, none⟩ = some (.bool false) ∧ w'.cell? ⟨gb249, 2, none⟩ = some (.string a2_2)) (ds := []) #[false, false, false, false, false, false, false, false, false, false, false, false, false] zq17 rfl rfl ⟨(blk_cell BK249.out 0).trans rfl, (blk_cell BK249.out 1).trans rfl, (blk_cell BK249.out 2).trans rfl⟩ (fun hH => ?_); refine tbW impl_Show.tab31 impl_Show.bits31 (fun HT_ HW_ => ?_)
                         generalize wc.drew = w159 at BK249 BK250 BK262 BK268 HB hH ⊢
                         refine pure_ (i := 0) (N := some 160) (v := ?_) (a' := ?_) #[true, false, false, false, false, false, false, false, false, false, false, false, false] rfl rfl (any_of HT_.out zq17) (fun _ _ _ h => h) (Or.inl ⟨zq105, ?_⟩) ?_ ?_
                         rotate_left
                         ·intro w'
                          go_simp
                          with_reducible rfl
                         rotate_left
                         ·simp only [Act.put, List.setIfInBounds_toArray, List.set_cons_zero, List.set_cons_succ, i64_w, i32_w]
                          rfl
                         refine take_ (i := 1) (N := some 161) (v := ?_) (a' := ?_) #[true, true, false, false, false, false, false, false, false, false, false, false, false] rfl rfl (take_ofW HT_.out HW_.out zq17) (fun _ _ _ h => h) (Or.inl ⟨zq105, ?_⟩) hH ?_ ?_
                         rotate_left
                         ·rintro w' ⟨s0, s1, s2⟩
                          go_simp
                          with_reducible rfl
                         rotate_left
                         ·simp only [Act.put, List.setIfInBounds_toArray, List.set_cons_zero, List.set_cons_succ, i64_w, i32_w]
                          rfl
                         refine pure_ (i := 2) (N := some 162) (v := ?_) (a' := ?_) #[true, true, true, false, false, false, false, false, false, false, false, false, false] rfl rfl (any_of HT_.out zq17) (fun _ _ _ h => h) (Or.inl ⟨zq105, ?_⟩) ?_ ?_
                         rotate_left
                         ·intro w'
                          go_simp
                          with_reducible rfl
                         rotate_left
                         ·simp only [Act.put, List.setIfInBounds_toArray, List.set_cons_zero, List.set_cons_succ, i64_w, i32_w]
                          rfl
                         refine pure_ (i := 3) (N := some 163) (v := ?_) (a' := ?_) #[true, true, true, true, false, false, false, false, false, false, false, false, false] rfl rfl (any_of HT_.out zq17) (fun _ _ _ h => h) (Or.inl ⟨zq105, ?_⟩) ?_ ?_
                         rotate_left
                         ·intro w'
                          go_simp
                          with_reducible rfl
                         rotate_left
                         ·simp only [Act.put, List.setIfInBounds_toArray, List.set_cons_zero, List.set_cons_succ, i64_w, i32_w]
                          rfl
                         refine pure_ (i := 4) (N := some 164) (v := undef) (a' := ?_) #[true, true, true, true, true, false, false, false, false, false, false, false, false] rfl rfl (any_of HT_.out zq17) (fun _ _ _ h => h) (Or.inr ⟨zq105, rfl⟩) ?_ ?_
                         rotate_left
                         ·simp only [Act.put, List.setIfInBounds_toArray, List.set_cons_zero, List.set_cons_succ, i64_w, i32_w]
                          rfl
                         refine pure_ (i := 5) (N := some 165) (v := undef) (a' := ?_) #[true, true, true, true, true, true, false, false, false, false, false, false, false] rfl rfl (any_of HT_.out zq17) (fun _ _ _ h => h) (Or.inr ⟨zq105, rfl⟩) ?_ ?_
                         rotate_left
                         ·simp only [Act.put, List.setIfInBounds_toArray, List.set_cons_zero, List.set_cons_succ, i64_w, i32_w]
                          rfl
                         refine pure_ (i := 6) (N := some 166) (v := undef) (a' := ?_) #[true, true, true, true, true, true, true, false, false, false, false, false, false] rfl rfl (any_of HT_.out zq17) (fun _ _ _ h => h) (Or.inr ⟨zq105, rfl⟩) ?_ ?_
                         rotate_left
                         ·simp only [Act.put, List.setIfInBounds_toArray, List.set_cons_zero, List.set_cons_succ, i64_w, i32_w]
                          rfl
                         refine pure_ (i := 7) (N := some 167) (v := undef) (a' := ?_) #[true, true, true, true, true, true, true, true, false, false, false, false, false] rfl rfl (any_of HT_.out zq17) (fun _ _ _ h => h) (Or.inr ⟨zq105, rfl⟩) ?_ ?_
                         rotate_left
                         ·simp only [Act.put, List.setIfInBounds_toArray, List.set_cons_zero, List.set_cons_succ, i64_w, i32_w]
                          rfl
                         refine pure_ (i := 8) (N := some 168) (v := undef) (a' := ?_) #[true, true, true, true, true, true, true, true, true, false, false, false, false] rfl rfl (any_of HT_.out zq17) (fun _ _ _ h => h) (Or.inr ⟨zq105, rfl⟩) ?_ ?_
                         rotate_left
                         ·simp only [Act.put, List.setIfInBounds_toArray, List.set_cons_zero, List.set_cons_succ, i64_w, i32_w]
                          rfl
                         refine pure_ (i := 9) (N := some 169) (v := undef) (a' := ?_) #[true, true, true, true, true, true, true, true, true, true, false, false, false] rfl rfl (any_of HT_.out zq17) (fun _ _ _ h => h) (Or.inr ⟨zq105, rfl⟩) ?_ ?_
                         rotate_left
                         ·simp only [Act.put, List.setIfInBounds_toArray, List.set_cons_zero, List.set_cons_succ, i64_w, i32_w]
                          rfl
                         refine pure_ (i := 10) (N := some 170) (v := undef) (a' := ?_) #[true, true, true, true, true, true, true, true, true, true, true, false, false] rfl rfl (any_of HT_.out zq17) (fun _ _ _ h => h) (Or.inr ⟨zq105, rfl⟩) ?_ ?_
                         rotate_left
                         ·simp only [Act.put, List.setIfInBounds_toArray, List.set_cons_zero, List.set_cons_succ, i64_w, i32_w]
                          rfl
                         refine pure_ (i := 11) (N := some 171) (v := undef) (a' := ?_) #[true, true, true, true, true, true, true, true, true, true, true, true, false] rfl rfl (any_of HT_.out zq17) (fun _ _ _ h => h) (Or.inr ⟨zq105, rfl⟩) ?_ ?_
                         rotate_left
                         ·simp only [Act.put, List.setIfInBounds_toArray, List.set_cons_zero, List.set_cons_succ, i64_w, i32_w]
                          rfl
                         refine pure_ (i := 12) (N := some 172) (v := ?_) (a' := ?_) #[true, true, true, true, true, true, true, true, true, true, true, true, true] rfl rfl (any_of HT_.out zq17) (fun _ _ _ h => h) (Or.inl ⟨zq105, ?_⟩) ?_ ?_
                         rotate_left
                         ·intro w'
                          go_simp
                          with_reducible rfl
                         rotate_left
                         ·simp only [Act.put, List.setIfInBounds_toArray, List.set_cons_zero, List.set_cons_succ, i64_w, i32_w]
                          rfl
                         refine done_ (done_of HT_.out zq17) ?_
                         try go_wp2
                         go_meet
                         case rel => exact ⟨_, (true), zq8, H', ⟨zq127⟩, ⟨zq11⟩, ⟨zq13⟩, ⟨zq25⟩, ⟨zq32⟩, ⟨zq5⟩⟩
                       case rest =>
                        clear HC153
                        try clear c1
                        try clear c2
                        try clear p2
                        try clear q2
                        try clear hx2
                        try clear c4
                        try clear p6
                        try clear c10
                        try clear c11
                        try clear c12
                        try clear c13
                        try clear c14
                        try clear c15
                        try clear p27
                        try clear q27
                        try clear hx27
                        try clear c49
                        try clear p64
                        try clear c104
                        try clear c115
                        try clear c115b0
                        try clear c116
                        try clear c116b0
                        try clear c118
                        try clear c118b0
                        try clear c118b1
                        try clear c123
                        try clear c124
                        try clear c125
                        try clear c127
                        try clear c128
                        try clear c130
                        try clear c130b0
                        try clear c131
                        try clear c132
                        try clear c133
                        try clear c135
                        try clear c136
                        try clear c139
                        try clear c139b0
                        try clear c139b1
                        try clear c140
                        try clear c140b0
                        try clear c140b1
                        try clear c142
                        try clear c143
                        try clear c144
                        try clear c147
                        try clear c148
                        try clear c149
                        try clear c152
                        try clear c154
                        try clear c155
                        try clear c155b0
                        try clear c155b1
                        try clear c155b2
                        try clear hcz126_0
                        try clear hcz126_1
                        try clear hcz126_2
                        try clear hcz126_3
                        try clear hcz126_4
                        try clear hcz129_0
                        try clear hcz129_1
                        try clear hcz129_2
                        try clear hcz129_3
                        try clear hcz129_4
                        try clear hcz134_0
                        try clear hcz134_1
                        try clear hcz134_2
                        try clear hcz134_3
                        try clear hcz134_4
                        try clear hcz137_0
                        try clear hcz137_1
                        try clear hcz137_2
                        try clear hcz137_3
                        try clear hcz137_4
                        try clear hcz145_0
                        try clear hcz145_1
                        try clear hcz145_2
                        try clear hcz150_0
                        try clear hcz150_1
                        try clear hcz150_2
                        try clear hfz126_0
                        try clear hfz126_1
                        try clear hfz126_2
                        try clear hfz126_3
                        try clear hfz126_4
                        try clear hfz129_0
                        try clear hfz129_1
                        try clear hfz129_2
                        try clear hfz129_3
                        try clear hfz129_4
                        try clear hfz134_0
                        try clear hfz134_1
                        try clear hfz134_2
                        try clear hfz134_3
                        try clear hfz134_4
                        try clear hfz137_0
                        try clear hfz137_1
                        try clear hfz137_2
                        try clear hfz137_3
                        try clear hfz137_4
                        try clear hfz145_0
                        try clear hfz145_1
                        try clear hfz145_2
                        try clear hfz150_0
                        try clear hfz150_1
                        try clear hfz150_2
                        try clear hx273_0
                        try clear p2
                        try clear p27
                        try clear p273
                        try clear p6
                        try clear p64
                        try clear q2
                        try clear q27
                        try clear q273
                        obtain ⟨kq, x172_152, rfl, HA, HJ152, BK249, BK250, BK262, BK268, HB⟩ := hcut
                        cases kq with
                        | zero => exact absurd HA.out (by simp [impl_Show.j6])
                        | succ kj152 =>
                         have H := HA.out
                         clear HA
                         simp only [impl_Show.j6] at H
                         by_cases c160 : x172_152 = true
                         ·subst c160
                          rw [if_pos rfl] at H
                          simp only [Option.some.injEq, Prod.mk.injEq] at H
                          obtain ⟨rfl, rfl, rfl, rfl, rfl⟩ := H
                          have hnb161 := NB262_249.out
                          have hnc161 := NB249_262.out
                          have hnb162 := NB262_250.out
                          have hnc162 := NB250_262.out
                          have hnb163 := NB262_268.out
                          have hnc163 := NB268_262.out
                          have hcz164_0 : wc.cell? ⟨gb262, 0, none⟩ = some (.int .i64 2) := (blk_cell BK262.out 0).trans rfl
                          have hcz164_1 : wc.cell? ⟨gb262, 1, none⟩ = some (.bool false) := (blk_cell BK262.out 1).trans rfl
                          have hcz164_2 : wc.cell? ⟨gb262, 2, none⟩ = some (.string (⟨#[]⟩ : ByteArray)) := (blk_cell BK262.out 2).trans rfl
                          have hcz164_3 : wc.cell? ⟨gb262, 3, none⟩ = some (.string (⟨#[]⟩ : ByteArray)) := (blk_cell BK262.out 3).trans rfl
                          have hcz164_4 : wc.cell? ⟨gb262, 4, none⟩ = some (.bool false) := (blk_cell BK262.out 4).trans rfl
                          have hfz164_0 := blk_frozen BK262.out 0
                          have hfz164_1 := blk_frozen BK262.out 1
                          have hfz164_2 := blk_frozen BK262.out 2
                          have hfz164_3 := blk_frozen BK262.out 3
                          have hfz164_4 := blk_frozen BK262.out 4
                          have hnb165 := NB250_249.out
                          have hnc165 := NB249_250.out
                          have hnb166 := NB250_268.out
                          have hnc166 := NB268_250.out
                          have hcz167_0 : wc.cell? ⟨gb250, 0, none⟩ = some (.int .i64 x251000_3) := (blk_cell BK250.out 0).trans rfl
                          have hcz167_1 : wc.cell? ⟨gb250, 1, none⟩ = some (.bool x251001_3) := (blk_cell BK250.out 1).trans rfl
                          have hcz167_2 : wc.cell? ⟨gb250, 2, none⟩ = some (.string x251002_3) := (blk_cell BK250.out 2).trans rfl
                          have hcz167_3 : wc.cell? ⟨gb250, 3, none⟩ = some (.string x251003_3) := (blk_cell BK250.out 3).trans rfl
                          have hcz167_4 : wc.cell? ⟨gb250, 4, none⟩ = some (.bool x251004_3) := (blk_cell BK250.out 4).trans rfl
                          have hfz167_0 := blk_frozen BK250.out 0
                          have hfz167_1 := blk_frozen BK250.out 1
                          have hfz167_2 := blk_frozen BK250.out 2
                          have hfz167_3 := blk_frozen BK250.out 3
                          have hfz167_4 := blk_frozen BK250.out 4
                          go_wp2
                          refine bodyPost_ret (results_cell_row rfl _ _ gb250 36 #[.int .i64 2, .bool false, .string (⟨#[]⟩ : ByteArray), .string (⟨#[]⟩ : ByteArray), .bool false] (0, 0) _ rfl zq14 Tryd.underlying36 rfl zq17) rfl ?_
                          exact ⟨zq7, zq5⟩
                         ·replace c160 := Bool.eq_false_iff.mpr c160
                          subst c160
                          rw [if_neg (show ¬ (false = true) by decide)] at H
                          simp only [Option.some.injEq, Prod.mk.injEq] at H
                          obtain ⟨rfl, rfl, rfl, rfl, rfl⟩ := H
                          have hnb168 := NB249_250.out
                          have hnc168 := NB250_249.out
                          have hnb169 := NB249_262.out
                          have hnc169 := NB262_249.out
                          have hnb170 := NB249_268.out
                          have hnc170 := NB268_249.out
                          have hcz171_0 : wc.cell? ⟨gb249, 0, none⟩ = some (.slice (some ad263) l2_0.length c2_0) := (blk_cell BK249.out 0).trans rfl
                          have hcz171_1 : wc.cell? ⟨gb249, 1, none⟩ = some (.bool a2_1) := (blk_cell BK249.out 1).trans rfl
                          have hcz171_2 : wc.cell? ⟨gb249, 2, none⟩ = some (.string a2_2) := (blk_cell BK249.out 2).trans rfl
                          have hfz171_0 := blk_frozen BK249.out 0
                          have hfz171_1 := blk_frozen BK249.out 1
                          have hfz171_2 := blk_frozen BK249.out 2
                          have hnb172 := NB268_250.out
                          have hnc172 := NB250_268.out
                          have hnb173 := NB268_262.out
                          have hnc173 := NB262_268.out
                          have hcz174_0 : wc.cell? ⟨gb268, 0, none⟩ = some (.string x269000_4) := (blk_cell BK268.out 0).trans rfl
                          have hcz174_1 : wc.cell? ⟨gb268, 1, none⟩ = some (.string x269001_4) := (blk_cell BK268.out 1).trans rfl
                          have hcz174_2 : wc.cell? ⟨gb268, 2, none⟩ = some (.string x269002_4) := (blk_cell BK268.out 2).trans rfl
                          have hfz174_0 := blk_frozen BK268.out 0
                          have hfz174_1 := blk_frozen BK268.out 1
                          have hfz174_2 := blk_frozen BK268.out 2
                          have hnb175 := NB250_262.out
                          have hnc175 := NB262_250.out
                          have hcz176_0 : wc.cell? ⟨gb250, 0, none⟩ = some (.int .i64 x251000_3) := (blk_cell BK250.out 0).trans rfl
                          have hcz176_1 : wc.cell? ⟨gb250, 1, none⟩ = some (.bool x251001_3) := (blk_cell BK250.out 1).trans rfl
                          have hcz176_2 : wc.cell? ⟨gb250, 2, none⟩ = some (.string x251002_3) := (blk_cell BK250.out 2).trans rfl
                          have hcz176_3 : wc.cell? ⟨gb250, 3, none⟩ = some (.string x251003_3) := (blk_cell BK250.out 3).trans rfl
                          have hcz176_4 : wc.cell? ⟨gb250, 4, none⟩ = some (.bool x251004_3) := (blk_cell BK250.out 4).trans rfl
                          have hfz176_0 := blk_frozen BK250.out 0
                          have hfz176_1 := blk_frozen BK250.out 1
                          have hfz176_2 := blk_frozen BK250.out 2
                          have hfz176_3 := blk_frozen BK250.out 3
                          have hfz176_4 := blk_frozen BK250.out 4
                          go_wp2
                          refine bodyPost_ret (results_cell_row rfl _ _ gb250 36 #[.int .i64 0, .bool true, .string a1, .string a2_2, .bool (x269000_4.toList == ([120] : List UInt8))] (0, 0) _ rfl (by (with_reducible repeat (first | refine blk_drewN ?_ _ | refine blk_drew ?_ | refine blk_alloc ?_ _)); refine blk_put (cs := #[.int .i64 0, .bool true, .string a1, .string a2_2, .bool x251004_3]) ?_ 4 _ rfl; (with_reducible repeat (first | refine blk_drewN ?_ _ | refine blk_drew ?_ | refine blk_alloc ?_ _)); refine blk_put (cs := #[.int .i64 0, .bool true, .string a1, .string x251003_3, .bool x251004_3]) ?_ 3 _ rfl; (with_reducible repeat (first | refine blk_drewN ?_ _ | refine blk_drew ?_ | refine blk_alloc ?_ _)); refine blk_put (cs := #[.int .i64 0, .bool true, .string x251002_3, .string x251003_3, .bool x251004_3]) ?_ 2 _ rfl; (with_reducible repeat (first | refine blk_drewN ?_ _ | refine blk_drew ?_ | refine blk_alloc ?_ _)); refine blk_put (cs := #[.int .i64 0, .bool x251001_3, .string x251002_3, .string x251003_3, .bool x251004_3]) ?_ 1 _ rfl; (with_reducible repeat (first | refine blk_drewN ?_ _ | refine blk_drew ?_ | refine blk_alloc ?_ _)); refine blk_put (cs := #[.int .i64 x251000_3, .bool x251001_3, .string x251002_3, .string x251003_3, .bool x251004_3]) ?_ 0 _ rfl; (with_reducible repeat (first | refine blk_drewN ?_ _ | refine blk_drew ?_ | refine blk_alloc ?_ _)); exact BK250.out) Tryd.underlying36 rfl zq17) rfl ?_
                          exact ⟨zq7, zq5⟩
                      ·replace c152 := Bool.eq_false_iff.mpr c152
                       subst c152
                       rw [if_neg (show ¬ (false = true) by decide)] at H
                       by_cases c177 : a2_1 = true
                       ·subst c177
                        rw [if_pos rfl] at H
                        simp only [Option.some.injEq, Prod.mk.injEq] at H
                        obtain ⟨rfl, rfl, rfl, rfl, rfl⟩ := H
                        have hnb178 := NB249_250.out
                        have hnc178 := NB250_249.out
                        have hnb179 := NB249_262.out
                        have hnc179 := NB262_249.out
                        have hnb180 := NB249_268.out
                        have hnc180 := NB268_249.out
                        have hcz181_0 : wc.cell? ⟨gb249, 0, none⟩ = some (.slice (some ad263) l2_0.length c2_0) := (blk_cell BK249.out 0).trans rfl
                        have hcz181_1 : wc.cell? ⟨gb249, 1, none⟩ = some (.bool true) := (blk_cell BK249.out 1).trans rfl
                        have hcz181_2 : wc.cell? ⟨gb249, 2, none⟩ = some (.string a2_2) := (blk_cell BK249.out 2).trans rfl
                        have hfz181_0 := blk_frozen BK249.out 0
                        have hfz181_1 := blk_frozen BK249.out 1
                        have hfz181_2 := blk_frozen BK249.out 2
                        have hnb182 := NB262_250.out
                        have hnc182 := NB250_262.out
                        have hnb183 := NB262_268.out
                        have hnc183 := NB268_262.out
                        have hcz184_0 : wc.cell? ⟨gb262, 0, none⟩ = some (.int .i64 2) := (blk_cell BK262.out 0).trans rfl
                        have hcz184_1 : wc.cell? ⟨gb262, 1, none⟩ = some (.bool false) := (blk_cell BK262.out 1).trans rfl
                        have hcz184_2 : wc.cell? ⟨gb262, 2, none⟩ = some (.string (⟨#[]⟩ : ByteArray)) := (blk_cell BK262.out 2).trans rfl
                        have hcz184_3 : wc.cell? ⟨gb262, 3, none⟩ = some (.string (⟨#[]⟩ : ByteArray)) := (blk_cell BK262.out 3).trans rfl
                        have hcz184_4 : wc.cell? ⟨gb262, 4, none⟩ = some (.bool false) := (blk_cell BK262.out 4).trans rfl
                        have hfz184_0 := blk_frozen BK262.out 0
                        have hfz184_1 := blk_frozen BK262.out 1
                        have hfz184_2 := blk_frozen BK262.out 2
                        have hfz184_3 := blk_frozen BK262.out 3
                        have hfz184_4 := blk_frozen BK262.out 4
                        have hnb185 := NB250_268.out
                        have hnc185 := NB268_250.out
                        have hcz186_0 : wc.cell? ⟨gb250, 0, none⟩ = some (.int .i64 x251000_3) := (blk_cell BK250.out 0).trans rfl
                        have hcz186_1 : wc.cell? ⟨gb250, 1, none⟩ = some (.bool x251001_3) := (blk_cell BK250.out 1).trans rfl
                        have hcz186_2 : wc.cell? ⟨gb250, 2, none⟩ = some (.string x251002_3) := (blk_cell BK250.out 2).trans rfl
                        have hcz186_3 : wc.cell? ⟨gb250, 3, none⟩ = some (.string x251003_3) := (blk_cell BK250.out 3).trans rfl
                        have hcz186_4 : wc.cell? ⟨gb250, 4, none⟩ = some (.bool x251004_3) := (blk_cell BK250.out 4).trans rfl
                        have hfz186_0 := blk_frozen BK250.out 0
                        have hfz186_1 := blk_frozen BK250.out 1
                        have hfz186_2 := blk_frozen BK250.out 2
                        have hfz186_3 := blk_frozen BK250.out 3
                        have hfz186_4 := blk_frozen BK250.out 4
                        go_wp2
                        refine bodyPost_ret (results_cell_row rfl _ _ gb250 36 #[.int .i64 2, .bool false, .string (⟨#[]⟩ : ByteArray), .string (⟨#[]⟩ : ByteArray), .bool false] (0, 0) _ rfl zq14 Tryd.underlying36 rfl zq17) rfl ?_
                        exact ⟨zq7, zq5⟩
                       ·replace c177 := Bool.eq_false_iff.mpr c177
                        subst c177
                        rw [if_neg (show ¬ (false = true) by decide)] at H
                        simp only [Option.some.injEq, Prod.mk.injEq] at H
                        obtain ⟨rfl, rfl, rfl, rfl, rfl⟩ := H
                        have hnb187 := NB249_250.out
                        have hnc187 := NB250_249.out
                        have hnb188 := NB249_262.out
                        have hnc188 := NB262_249.out
                        have hnb189 := NB249_268.out
                        have hnc189 := NB268_249.out
                        have hcz190_0 : wc.cell? ⟨gb249, 0, none⟩ = some (.slice (some ad263) l2_0.length c2_0) := (blk_cell BK249.out 0).trans rfl
                        have hcz190_1 : wc.cell? ⟨gb249, 1, none⟩ = some (.bool false) := (blk_cell BK249.out 1).trans rfl
                        have hcz190_2 : wc.cell? ⟨gb249, 2, none⟩ = some (.string a2_2) := (blk_cell BK249.out 2).trans rfl
                        have hfz190_0 := blk_frozen BK249.out 0
                        have hfz190_1 := blk_frozen BK249.out 1
                        have hfz190_2 := blk_frozen BK249.out 2
                        have hnb191 := NB250_262.out
                        have hnc191 := NB262_250.out
                        have hnb192 := NB250_268.out
                        have hnc192 := NB268_250.out
                        have hcz193_0 : wc.cell? ⟨gb250, 0, none⟩ = some (.int .i64 x251000_3) := (blk_cell BK250.out 0).trans rfl
                        have hcz193_1 : wc.cell? ⟨gb250, 1, none⟩ = some (.bool x251001_3) := (blk_cell BK250.out 1).trans rfl
                        have hcz193_2 : wc.cell? ⟨gb250, 2, none⟩ = some (.string x251002_3) := (blk_cell BK250.out 2).trans rfl
                        have hcz193_3 : wc.cell? ⟨gb250, 3, none⟩ = some (.string x251003_3) := (blk_cell BK250.out 3).trans rfl
                        have hcz193_4 : wc.cell? ⟨gb250, 4, none⟩ = some (.bool x251004_3) := (blk_cell BK250.out 4).trans rfl
                        have hfz193_0 := blk_frozen BK250.out 0
                        have hfz193_1 := blk_frozen BK250.out 1
                        have hfz193_2 := blk_frozen BK250.out 2
                        have hfz193_3 := blk_frozen BK250.out 3
                        have hfz193_4 := blk_frozen BK250.out 4
                        go_wp2
                        refine bodyPost_ret (results_cell_row rfl _ _ gb250 36 #[.int .i64 0, .bool false, .string (⟨#[]⟩ : ByteArray), .string (⟨#[]⟩ : ByteArray), .bool false] (0, 0) _ rfl (by (with_reducible repeat (first | refine blk_drewN ?_ _ | refine blk_drew ?_ | refine blk_alloc ?_ _)); refine blk_put (cs := #[.int .i64 0, .bool false, .string (⟨#[]⟩ : ByteArray), .string (⟨#[]⟩ : ByteArray), .bool x251004_3]) ?_ 4 _ rfl; (with_reducible repeat (first | refine blk_drewN ?_ _ | refine blk_drew ?_ | refine blk_alloc ?_ _)); refine blk_put (cs := #[.int .i64 0, .bool false, .string (⟨#[]⟩ : ByteArray), .string x251003_3, .bool x251004_3]) ?_ 3 _ rfl; (with_reducible repeat (first | refine blk_drewN ?_ _ | refine blk_drew ?_ | refine blk_alloc ?_ _)); refine blk_put (cs := #[.int .i64 0, .bool false, .string x251002_3, .string x251003_3, .bool x251004_3]) ?_ 2 _ rfl; (with_reducible repeat (first | refine blk_drewN ?_ _ | refine blk_drew ?_ | refine blk_alloc ?_ _)); refine blk_put (cs := #[.int .i64 0, .bool x251001_3, .string x251002_3, .string x251003_3, .bool x251004_3]) ?_ 1 _ rfl; (with_reducible repeat (first | refine blk_drewN ?_ _ | refine blk_drew ?_ | refine blk_alloc ?_ _)); refine blk_put (cs := #[.int .i64 x251000_3, .bool x251001_3, .string x251002_3, .string x251003_3, .bool x251004_3]) ?_ 0 _ rfl; (with_reducible repeat (first | refine blk_drewN ?_ _ | refine blk_drew ?_ | refine blk_alloc ?_ _)); exact BK250.out) Tryd.underlying36 rfl zq17) rfl ?_
                        exact ⟨zq7, zq5⟩
            ·rw [if_neg c64] at H
             exact absurd H zq119
           ·rw [if_neg c63] at H
            exact absurd H zq119
        ·rw [if_neg c53] at H
         have c53b0 : (t264.toList == a0.toList) = false := beq_eq_false_iff_ne.mpr c53
         have c53b1 : (t264.toList != a0.toList) = true := bne_iff_ne.mpr c53
         simp only [Option.some.injEq, Prod.mk.injEq] at H
         obtain ⟨rfl, rfl, rfl, rfl, rfl⟩ := H
         go_wp2_with (first | ((with_reducible refine gate_dst (N := 14) rfl ?_); (try (refine gate_guard zq105 ?_; dsimp only)); refine box_event ?hg (N := 14) ?hd (cs := #[.int .i64 0, .bool false, .string (⟨#[]⟩ : ByteArray), .string (⟨#[]⟩ : ByteArray), .bool false]) (t := 36) ?hr ?_; (case hd => rfl); (case hg => rfl); (case hr => first | (go_simp; done) | (go_simp; rfl)); intro gb262 hg w194 hbox hb; have n0_ := AZ.mk (Kd.S_below zq22 hb); have n1_ := AZ.mk (blk_below (g := gb249) (o := .cells #[.slice A2_0 l2_0.length c2_0, .bool a2_1, .string a2_2] 38 (0, 0)) zq11 hb); have n2_ := AZ.mk (blk_below (g := gb250) (o := .cells #[.int .i64 x251000_2, .bool x251001_2, .string x251002_2, .string x251003_2, .bool x251004_2] 36 (0, 0)) zq13 hb); have n3_ := AZ.mk (below_step zq10 hb); have n4_ := AZ.mk (hbox); have n5_ := AZ.mk ((by rw [hg]; exact (below_size zq10) : w.heap.size ≤ gb262)); have n6_ := AZ.mk ((by rw [hg]; exact (below_size zq10) : w.heap.size ≤ gb262)); have n7_ := AZ.mk ((by rw [hg]; exact Nat.ne_of_lt (blk_lt (g := gb249) (o := .cells #[.slice A2_0 l2_0.length c2_0, .bool a2_1, .string a2_2] 38 (0, 0)) zq11) : gb249 ≠ gb262)); have n8_ := AZ.mk ((by rw [hg]; exact Nat.ne_of_gt (blk_lt (g := gb249) (o := .cells #[.slice A2_0 l2_0.length c2_0, .bool a2_1, .string a2_2] 38 (0, 0)) zq11) : gb262 ≠ gb249)); have n9_ := AZ.mk ((by rw [hg]; exact Nat.ne_of_lt (blk_lt (g := gb250) (o := .cells #[.int .i64 x251000_2, .bool x251001_2, .string x251002_2, .string x251003_2, .bool x251004_2] 36 (0, 0)) zq13) : gb250 ≠ gb262)); have n10_ := AZ.mk ((by rw [hg]; exact Nat.ne_of_gt (blk_lt (g := gb250) (o := .cells #[.int .i64 x251000_2, .bool x251001_2, .string x251002_2, .string x251003_2, .bool x251004_2] 36 (0, 0)) zq13) : gb262 ≠ gb250)); clear HO_9; clear BK249; clear BK250; clear HB; have HO_9 := n0_; have BK249 := n1_; have BK250 := n2_; have HB := n3_; have BK262 := n4_; have GW262 := n5_; have GE262 := n6_; have NB249_262 := n7_; have NB262_249 := n8_; have NB250_262 := n9_; have NB262_250 := n10_; clear n0_ n1_ n2_ n3_ n4_ n5_ n6_ n7_ n8_ n9_ n10_; clear hb hbox hg; have hnb195 := NB262_249.out; have hnc195 := NB249_262.out; have hnb196 := NB262_250.out; have hnc196 := NB250_262.out; have hcz197_0 : w194.cell? ⟨gb262, 0, none⟩ = some (.int .i64 0) := (blk_cell BK262.out 0).trans rfl; have hcz197_1 : w194.cell? ⟨gb262, 1, none⟩ = some (.bool false) := (blk_cell BK262.out 1).trans rfl; have hcz197_2 : w194.cell? ⟨gb262, 2, none⟩ = some (.string (⟨#[]⟩ : ByteArray)) := (blk_cell BK262.out 2).trans rfl; have hcz197_3 : w194.cell? ⟨gb262, 3, none⟩ = some (.string (⟨#[]⟩ : ByteArray)) := (blk_cell BK262.out 3).trans rfl; have hcz197_4 : w194.cell? ⟨gb262, 4, none⟩ = some (.bool false) := (blk_cell BK262.out 4).trans rfl; have hfz197_0 := blk_frozen BK262.out 0; have hfz197_1 := blk_frozen BK262.out 1; have hfz197_2 := blk_frozen BK262.out 2; have hfz197_3 := blk_frozen BK262.out 3; have hfz197_4 := blk_frozen BK262.out 4; have hnb198 := NB249_250.out; have hnc198 := NB250_249.out; have hcz199_0 : w194.cell? ⟨gb249, 0, none⟩ = some (.slice A2_0 l2_0.length c2_0) := (blk_cell BK249.out 0).trans rfl; have hcz199_1 : w194.cell? ⟨gb249, 1, none⟩ = some (.bool a2_1) := (blk_cell BK249.out 1).trans rfl; have hcz199_2 : w194.cell? ⟨gb249, 2, none⟩ = some (.string a2_2) := (blk_cell BK249.out 2).trans rfl; have hfz199_0 := blk_frozen BK249.out 0; have hfz199_1 := blk_frozen BK249.out 1; have hfz199_2 := blk_frozen BK249.out 2; have p263 : 0 ≤ (0 : Int) := zq94; have q263 : 0 < (l2_0.length : Int) := of_decide_eq_true zq1; obtain ⟨ad263, e263, hx263_0⟩ := Kd.at_string HR2_0.out 0 p263 q263; cases e263; have qi263 : (0 < l2_0.length) = True := eq_true zq94; (try rw [show ((0 : Int)).toNat = 0 from rfl] at hx263_0); (try rw [Addr.add_zero'] at hx263_0); have hn263_0 : ad263.block ≠ gb262 := Nat.ne_of_lt (Nat.lt_of_lt_of_le zq69 GW262.out); have hn263_1 : ad263.block ≠ gb262 := Nat.ne_of_lt (Nat.lt_of_lt_of_le zq69 GW262.out); have hn263_2 : ad263.block ≠ gb262 := Nat.ne_of_lt (Nat.lt_of_lt_of_le zq69 GW262.out); have hn263_3 : ad263.block ≠ gb262 := Nat.ne_of_lt (Nat.lt_of_lt_of_le zq69 GW262.out); have hn263_4 : ad263.block ≠ gb262 := Nat.ne_of_lt (Nat.lt_of_lt_of_le zq69 GW262.out); replace hx263_0 := (HB.out.cell (World.block_lt_of_cell? w _ hx263_0)).trans hx263_0; replace hx263_0 := (cell_far (p := ⟨gb262, 0, none⟩) zq133 (.int .i64 2)).trans hx263_0; replace hx263_0 := (cell_far (p := ⟨gb262, 1, none⟩) zq132 (.bool false)).trans hx263_0; replace hx263_0 := (cell_far (p := ⟨gb262, 2, none⟩) zq131 (.string (⟨#[]⟩ : ByteArray))).trans hx263_0; replace hx263_0 := (cell_far (p := ⟨gb262, 3, none⟩) zq130 (.string (⟨#[]⟩ : ByteArray))).trans hx263_0; replace hx263_0 := (cell_far (p := ⟨gb262, 4, none⟩) zq129 (.bool false)).trans hx263_0; clear hn263_0; clear hn263_1; clear hn263_2; clear hn263_3; clear hn263_4; replace p263 := eq_true p263; replace q263 := eq_true q263) | ((with_reducible refine gate_callee (f := 49) rfl ?_); refine goesL_ (some 84) rfl rfl Tryd.func49 zq17 rfl #[.string (rdOf ByteArray.empty l2_0 0), .int .i64 a3] rfl zq2 ?_; (with_reducible refine (impl_Sum.calls k2 (rdOf ByteArray.empty l2_0 0) a3 t264 _ A52.out).mono ?_); rintro e w200 ⟨rfl, hb⟩; refine ⟨_, rfl, ?_⟩; have n0_ := AZ.mk (Kd.S_below zq80 hb); have n1_ := AZ.mk (blk_below (g := gb249) (o := .cells #[.slice (some ad263) l2_0.length c2_0, .bool a2_1, .string a2_2] 38 (0, 0)) zq66 hb); have n2_ := AZ.mk (blk_below (g := gb250) (o := .cells #[.int .i64 x251000_2, .bool x251001_2, .string x251002_2, .string x251003_2, .bool x251004_2] 36 (0, 0)) zq65 hb); have n3_ := AZ.mk (blk_below (g := gb262) (o := .cells #[.int .i64 2, .bool false, .string (⟨#[]⟩ : ByteArray), .string (⟨#[]⟩ : ByteArray), .bool false] 36 (0, 0)) zq46 hb); have n4_ := AZ.mk (below_step zq33 hb); clear HO_9; clear BK249; clear BK250; clear BK262; clear HB; have HO_9 := n0_; have BK249 := n1_; have BK250 := n2_; have BK262 := n3_; have HB := n4_; clear n0_ n1_ n2_ n3_ n4_; (try clear hb); (try clear hb2); (try clear hk); (try clear hi); have hcz201_0 : w200.cell? ⟨gb262, 0, none⟩ = some (.int .i64 2) := (blk_cell BK262.out 0).trans rfl; have hcz201_1 : w200.cell? ⟨gb262, 1, none⟩ = some (.bool false) := (blk_cell BK262.out 1).trans rfl; have hcz201_2 : w200.cell? ⟨gb262, 2, none⟩ = some (.string (⟨#[]⟩ : ByteArray)) := (blk_cell BK262.out 2).trans rfl; have hcz201_3 : w200.cell? ⟨gb262, 3, none⟩ = some (.string (⟨#[]⟩ : ByteArray)) := (blk_cell BK262.out 3).trans rfl; have hcz201_4 : w200.cell? ⟨gb262, 4, none⟩ = some (.bool false) := (blk_cell BK262.out 4).trans rfl; have hfz201_0 := blk_frozen BK262.out 0; have hfz201_1 := blk_frozen BK262.out 1; have hfz201_2 := blk_frozen BK262.out 2; have hfz201_3 := blk_frozen BK262.out 3; have hfz201_4 := blk_frozen BK262.out 4; have hcz202_0 : w200.cell? ⟨gb250, 0, none⟩ = some (.int .i64 x251000_2) := (blk_cell BK250.out 0).trans rfl; have hcz202_1 : w200.cell? ⟨gb250, 1, none⟩ = some (.bool x251001_2) := (blk_cell BK250.out 1).trans rfl; have hcz202_2 : w200.cell? ⟨gb250, 2, none⟩ = some (.string x251002_2) := (blk_cell BK250.out 2).trans rfl; have hcz202_3 : w200.cell? ⟨gb250, 3, none⟩ = some (.string x251003_2) := (blk_cell BK250.out 3).trans rfl; have hcz202_4 : w200.cell? ⟨gb250, 4, none⟩ = some (.bool x251004_2) := (blk_cell BK250.out 4).trans rfl; have hfz202_0 := blk_frozen BK250.out 0; have hfz202_1 := blk_frozen BK250.out 1; have hfz202_2 := blk_frozen BK250.out 2; have hfz202_3 := blk_frozen BK250.out 3; have hfz202_4 := blk_frozen BK250.out 4))
         refine bodyPost_ret (results_cell_row rfl _ _ gb250 36 #[.int .i64 2, .bool false, .string (⟨#[]⟩ : ByteArray), .string (⟨#[]⟩ : ByteArray), .bool false] (0, 0) _ rfl (by (with_reducible repeat (first | refine blk_drewN ?_ _ | refine blk_drew ?_ | refine blk_alloc ?_ _)); refine blk_put (cs := #[.int .i64 2, .bool false, .string (⟨#[]⟩ : ByteArray), .string (⟨#[]⟩ : ByteArray), .bool x251004_2]) ?_ 4 _ rfl; (with_reducible repeat (first | refine blk_drewN ?_ _ | refine blk_drew ?_ | refine blk_alloc ?_ _)); refine blk_put (cs := #[.int .i64 2, .bool false, .string (⟨#[]⟩ : ByteArray), .string x251003_2, .bool x251004_2]) ?_ 3 _ rfl; (with_reducible repeat (first | refine blk_drewN ?_ _ | refine blk_drew ?_ | refine blk_alloc ?_ _)); refine blk_put (cs := #[.int .i64 2, .bool false, .string x251002_2, .string x251003_2, .bool x251004_2]) ?_ 2 _ rfl; (with_reducible repeat (first | refine blk_drewN ?_ _ | refine blk_drew ?_ | refine blk_alloc ?_ _)); refine blk_put (cs := #[.int .i64 2, .bool x251001_2, .string x251002_2, .string x251003_2, .bool x251004_2]) ?_ 1 _ rfl; (with_reducible repeat (first | refine blk_drewN ?_ _ | refine blk_drew ?_ | refine blk_alloc ?_ _)); refine blk_put (cs := #[.int .i64 x251000_2, .bool x251001_2, .string x251002_2, .string x251003_2, .bool x251004_2]) ?_ 0 _ rfl; (with_reducible repeat (first | refine blk_drewN ?_ _ | refine blk_drew ?_ | refine blk_alloc ?_ _)); exact BK250.out) Tryd.underlying36 rfl zq17) rfl ?_
         exact ⟨zq7, zq33⟩
       ·rw [if_neg c51] at H
        exact absurd H zq119
end Go.Proofs.YtgjipjffpodjlaaDoor.K
namespace Go.Proofs.YtgjipjffpodjlaaDoor.K
open Go.RowKit Go.Proofs.YtgjipjffpodjlaaDoorW.PrintWords Go.Proofs.YtgjipjffpodjlaaDoorW.PrintLast Go.Proofs.YtgjipjffpodjlaaDoorW.PrintMore
attribute [local go_sem] max2_int min2_int max_two min_two max_three min_three max_four min_four   
set_option linter.unusedVariables false
set_option linter.unusedSimpArgs false
def laws_eqEntry.f (a0_0 : ByteArray) (a0_1 : ByteArray) (a0_2 : Bool) (a1_0 : ByteArray) (a1_1 : ByteArray) (a1_2 : Bool) : Option (Bool) := if a0_0.toList = a1_0.toList then (if a0_1.toList = a1_1.toList then (if (a0_2 != a1_2) = true then (some false) else (some true)) else (some false)) else (some false)
set_option maxHeartbeats 2000000 in
set_option maxRecDepth 100000 in
theorem laws_eqEntry.calls (a0_0 : ByteArray) (a0_1 : ByteArray) (a0_2 : Bool) (a1_0 : ByteArray) (a1_1 : ByteArray) (a1_2 : Bool) (r : Bool) (w : World) (h : laws_eqEntry.f a0_0 a0_1 a0_2 a1_0 a1_1 a1_2 = some r) :
  Calls Tryd.prog 51 #[.agg #[.string a0_0, .string a0_1, .bool a0_2], .agg #[.string a1_0, .string a1_1, .bool a1_2]] w fun e w' => e = .returned (.bool r) ∧ Below w.heap.size w w' := by
 have hu34 := Tryd.underlying34
 have HB := AZ.mk (Below.refl w.heap.size w)
 have H : (if a0_0.toList = a1_0.toList then (if a0_1.toList = a1_1.toList then (if (a0_2 != a1_2) = true then (some false) else (some true)) else (some false)) else (some false)) = some r := h
 clear h
 by_cases c3 : a0_0.toList = a1_0.toList
 ·rw [if_pos c3] at H
  have c3b0 : (a0_0.toList == a1_0.toList) = true := beq_iff_eq.mpr c3
  have c3b1 : (a0_0.toList != a1_0.toList) = false := bne_eq_false_iff_eq.mpr c3
  clear c3
  by_cases c4 : a0_1.toList = a1_1.toList
  ·rw [if_pos c4] at H
   have c4b0 : (a0_1.toList == a1_1.toList) = true := beq_iff_eq.mpr c4
   have c4b1 : (a0_1.toList != a1_1.toList) = false := bne_eq_false_iff_eq.mpr c4
   clear c4
   by_cases c5 : (a0_2 != a1_2) = true
   ·rw [if_pos c5] at H
    have c5b0 : (a0_2 != a1_2) = true := c5
    (try (have c5b1 : decide (a0_2 = a1_2) = false := zq142))
    (try (have c5b2 : (a0_2 == a1_2) = false := zq142))
    (try (have c5b3 : ¬ (a0_2 = a1_2) := zq142))
    clear c5
    obtain rfl := Option.some.inj H
    go_enter Tryd.func51, Tryd.ntmps51
    go_wp2_with (first | ((with_reducible refine gate_dst (N := 2) rfl ?_); refine box_event ?hg (N := 2) ?hd (cs := #[.string a0_0, .string a0_1, .bool a0_2]) (t := 34) ?hr ?_; (case hd => rfl); (case hg => rfl); (case hr => first | (go_simp; done) | (go_simp; rfl)); intro gb276 hg w6 hbox hb; have n0_ := AZ.mk (below_step zq0 hb); have n1_ := AZ.mk (hbox); have n2_ := AZ.mk ((by rw [hg]; exact (below_size zq0) : w.heap.size ≤ gb276)); have n3_ := AZ.mk ((by rw [hg]; exact (below_size zq0) : w.heap.size ≤ gb276)); clear HB; have HB := n0_; have BK276 := n1_; have GW276 := n2_; have GE276 := n3_; clear n0_ n1_ n2_ n3_; clear hb hbox hg) | ((with_reducible refine gate_dst (N := 3) rfl ?_); refine box_event ?hg (N := 3) ?hd (cs := #[.string a1_0, .string a1_1, .bool a1_2]) (t := 34) ?hr ?_; (case hd => rfl); (case hg => rfl); (case hr => first | (go_simp; done) | (go_simp; rfl)); intro gb277 hg w7 hbox hb; have n0_ := AZ.mk (blk_below (g := gb276) (o := .cells #[.string a0_0, .string a0_1, .bool a0_2] 34 (0, 0)) zq51 hb); have n1_ := AZ.mk (below_step zq36 hb); have n2_ := AZ.mk (hbox); have n3_ := AZ.mk ((by rw [hg]; exact (below_size zq36) : w.heap.size ≤ gb277)); have n4_ := AZ.mk ((by rw [hg]; exact (below_size zq36) : w.heap.size ≤ gb277)); have n5_ := AZ.mk ((by rw [hg]; exact Nat.ne_of_lt (blk_lt (g := gb276) (o := .cells #[.string a0_0, .string a0_1, .bool a0_2] 34 (0, 0)) zq51) : gb276 ≠ gb277)); have n6_ := AZ.mk ((by rw [hg]; exact Nat.ne_of_gt (blk_lt (g := gb276) (o := .cells #[.string a0_0, .string a0_1, .bool a0_2] 34 (0, 0)) zq51) : gb277 ≠ gb276)); clear BK276; clear HB; have BK276 := n0_; have HB := n1_; have BK277 := n2_; have GW277 := n3_; have GE277 := n4_; have NB276_277 := n5_; have NB277_276 := n6_; clear n0_ n1_ n2_ n3_ n4_ n5_ n6_; clear hb hbox hg; have hnb8 := NB276_277.out; have hnc8 := NB277_276.out; have hcz9_0 : w7.cell? ⟨gb276, 0, none⟩ = some (.string a0_0) := (blk_cell BK276.out 0).trans rfl; have hcz9_1 : w7.cell? ⟨gb276, 1, none⟩ = some (.string a0_1) := (blk_cell BK276.out 1).trans rfl; have hcz9_2 : w7.cell? ⟨gb276, 2, none⟩ = some (.bool a0_2) := (blk_cell BK276.out 2).trans rfl; have hfz9_0 := blk_frozen BK276.out 0; have hfz9_1 := blk_frozen BK276.out 1; have hfz9_2 := blk_frozen BK276.out 2; have hcz10_0 : w7.cell? ⟨gb277, 0, none⟩ = some (.string a1_0) := (blk_cell BK277.out 0).trans rfl; have hcz10_1 : w7.cell? ⟨gb277, 1, none⟩ = some (.string a1_1) := (blk_cell BK277.out 1).trans rfl; have hcz10_2 : w7.cell? ⟨gb277, 2, none⟩ = some (.bool a1_2) := (blk_cell BK277.out 2).trans rfl; have hfz10_0 := blk_frozen BK277.out 0; have hfz10_1 := blk_frozen BK277.out 1; have hfz10_2 := blk_frozen BK277.out 2))
    go_ret
    exact ⟨zq7, zq79⟩
   ·rw [if_neg c5] at H
    have c5b0 : (a0_2 != a1_2) = false := by simpa using c5
    (try (have c5b1 : decide (a0_2 = a1_2) = true := zq142))
    (try (have c5b2 : (a0_2 == a1_2) = true := zq142))
    clear c5
    obtain rfl := Option.some.inj H
    go_enter Tryd.func51, Tryd.ntmps51
    go_wp2_with (first | ((with_reducible refine gate_dst (N := 2) rfl ?_); refine box_event ?hg (N := 2) ?hd (cs := #[.string a0_0, .string a0_1, .bool a0_2]) (t := 34) ?hr ?_; (case hd => rfl); (case hg => rfl); (case hr => first | (go_simp; done) | (go_simp; rfl)); intro gb276 hg w11 hbox hb; have n0_ := AZ.mk (below_step zq0 hb); have n1_ := AZ.mk (hbox); have n2_ := AZ.mk ((by rw [hg]; exact (below_size zq0) : w.heap.size ≤ gb276)); have n3_ := AZ.mk ((by rw [hg]; exact (below_size zq0) : w.heap.size ≤ gb276)); clear HB; have HB := n0_; have BK276 := n1_; have GW276 := n2_; have GE276 := n3_; clear n0_ n1_ n2_ n3_; clear hb hbox hg) | ((with_reducible refine gate_dst (N := 3) rfl ?_); refine box_event ?hg (N := 3) ?hd (cs := #[.string a1_0, .string a1_1, .bool a1_2]) (t := 34) ?hr ?_; (case hd => rfl); (case hg => rfl); (case hr => first | (go_simp; done) | (go_simp; rfl)); intro gb277 hg w12 hbox hb; have n0_ := AZ.mk (blk_below (g := gb276) (o := .cells #[.string a0_0, .string a0_1, .bool a0_2] 34 (0, 0)) zq51 hb); have n1_ := AZ.mk (below_step zq36 hb); have n2_ := AZ.mk (hbox); have n3_ := AZ.mk ((by rw [hg]; exact (below_size zq36) : w.heap.size ≤ gb277)); have n4_ := AZ.mk ((by rw [hg]; exact (below_size zq36) : w.heap.size ≤ gb277)); have n5_ := AZ.mk ((by rw [hg]; exact Nat.ne_of_lt (blk_lt (g := gb276) (o := .cells #[.string a0_0, .string a0_1, .bool a0_2] 34 (0, 0)) zq51) : gb276 ≠ gb277)); have n6_ := AZ.mk ((by rw [hg]; exact Nat.ne_of_gt (blk_lt (g := gb276) (o := .cells #[.string a0_0, .string a0_1, .bool a0_2] 34 (0, 0)) zq51) : gb277 ≠ gb276)); clear BK276; clear HB; have BK276 := n0_; have HB := n1_; have BK277 := n2_; have GW277 := n3_; have GE277 := n4_; have NB276_277 := n5_; have NB277_276 := n6_; clear n0_ n1_ n2_ n3_ n4_ n5_ n6_; clear hb hbox hg; have hnb13 := NB276_277.out; have hnc13 := NB277_276.out; have hcz14_0 : w12.cell? ⟨gb276, 0, none⟩ = some (.string a0_0) := (blk_cell BK276.out 0).trans rfl; have hcz14_1 : w12.cell? ⟨gb276, 1, none⟩ = some (.string a0_1) := (blk_cell BK276.out 1).trans rfl; have hcz14_2 : w12.cell? ⟨gb276, 2, none⟩ = some (.bool a0_2) := (blk_cell BK276.out 2).trans rfl; have hfz14_0 := blk_frozen BK276.out 0; have hfz14_1 := blk_frozen BK276.out 1; have hfz14_2 := blk_frozen BK276.out 2; have hcz15_0 : w12.cell? ⟨gb277, 0, none⟩ = some (.string a1_0) := (blk_cell BK277.out 0).trans rfl; have hcz15_1 : w12.cell? ⟨gb277, 1, none⟩ = some (.string a1_1) := (blk_cell BK277.out 1).trans rfl; have hcz15_2 : w12.cell? ⟨gb277, 2, none⟩ = some (.bool a1_2) := (blk_cell BK277.out 2).trans rfl; have hfz15_0 := blk_frozen BK277.out 0; have hfz15_1 := blk_frozen BK277.out 1; have hfz15_2 := blk_frozen BK277.out 2))
    go_ret
    exact ⟨zq7, zq79⟩
  ·rw [if_neg c4] at H
   have c4b0 : (a0_1.toList == a1_1.toList) = false := beq_eq_false_iff_ne.mpr c4
   have c4b1 : (a0_1.toList != a1_1.toList) = true := bne_iff_ne.mpr c4
   obtain rfl := Option.some.inj H
   go_enter Tryd.func51, Tryd.ntmps51
   go_wp2_with (first | ((with_reducible refine gate_dst (N := 2) rfl ?_); refine box_event ?hg (N := 2) ?hd (cs := #[.string a0_0, .string a0_1, .bool a0_2]) (t := 34) ?hr ?_; (case hd => rfl); (case hg => rfl); (case hr => first | (go_simp; done) | (go_simp; rfl)); intro gb276 hg w16 hbox hb; have n0_ := AZ.mk (below_step zq0 hb); have n1_ := AZ.mk (hbox); have n2_ := AZ.mk ((by rw [hg]; exact (below_size zq0) : w.heap.size ≤ gb276)); have n3_ := AZ.mk ((by rw [hg]; exact (below_size zq0) : w.heap.size ≤ gb276)); clear HB; have HB := n0_; have BK276 := n1_; have GW276 := n2_; have GE276 := n3_; clear n0_ n1_ n2_ n3_; clear hb hbox hg) | ((with_reducible refine gate_dst (N := 3) rfl ?_); refine box_event ?hg (N := 3) ?hd (cs := #[.string a1_0, .string a1_1, .bool a1_2]) (t := 34) ?hr ?_; (case hd => rfl); (case hg => rfl); (case hr => first | (go_simp; done) | (go_simp; rfl)); intro gb277 hg w17 hbox hb; have n0_ := AZ.mk (blk_below (g := gb276) (o := .cells #[.string a0_0, .string a0_1, .bool a0_2] 34 (0, 0)) zq51 hb); have n1_ := AZ.mk (below_step zq36 hb); have n2_ := AZ.mk (hbox); have n3_ := AZ.mk ((by rw [hg]; exact (below_size zq36) : w.heap.size ≤ gb277)); have n4_ := AZ.mk ((by rw [hg]; exact (below_size zq36) : w.heap.size ≤ gb277)); have n5_ := AZ.mk ((by rw [hg]; exact Nat.ne_of_lt (blk_lt (g := gb276) (o := .cells #[.string a0_0, .string a0_1, .bool a0_2] 34 (0, 0)) zq51) : gb276 ≠ gb277)); have n6_ := AZ.mk ((by rw [hg]; exact Nat.ne_of_gt (blk_lt (g := gb276) (o := .cells #[.string a0_0, .string a0_1, .bool a0_2] 34 (0, 0)) zq51) : gb277 ≠ gb276)); clear BK276; clear HB; have BK276 := n0_; have HB := n1_; have BK277 := n2_; have GW277 := n3_; have GE277 := n4_; have NB276_277 := n5_; have NB277_276 := n6_; clear n0_ n1_ n2_ n3_ n4_ n5_ n6_; clear hb hbox hg; have hnb18 := NB276_277.out; have hnc18 := NB277_276.out; have hcz19_0 : w17.cell? ⟨gb276, 0, none⟩ = some (.string a0_0) := (blk_cell BK276.out 0).trans rfl; have hcz19_1 : w17.cell? ⟨gb276, 1, none⟩ = some (.string a0_1) := (blk_cell BK276.out 1).trans rfl; have hcz19_2 : w17.cell? ⟨gb276, 2, none⟩ = some (.bool a0_2) := (blk_cell BK276.out 2).trans rfl; have hfz19_0 := blk_frozen BK276.out 0; have hfz19_1 := blk_frozen BK276.out 1; have hfz19_2 := blk_frozen BK276.out 2; have hcz20_0 : w17.cell? ⟨gb277, 0, none⟩ = some (.string a1_0) := (blk_cell BK277.out 0).trans rfl; have hcz20_1 : w17.cell? ⟨gb277, 1, none⟩ = some (.string a1_1) := (blk_cell BK277.out 1).trans rfl; have hcz20_2 : w17.cell? ⟨gb277, 2, none⟩ = some (.bool a1_2) := (blk_cell BK277.out 2).trans rfl; have hfz20_0 := blk_frozen BK277.out 0; have hfz20_1 := blk_frozen BK277.out 1; have hfz20_2 := blk_frozen BK277.out 2))
   go_ret
   exact ⟨zq7, zq79⟩
 ·rw [if_neg c3] at H
  have c3b0 : (a0_0.toList == a1_0.toList) = false := beq_eq_false_iff_ne.mpr c3
  have c3b1 : (a0_0.toList != a1_0.toList) = true := bne_iff_ne.mpr c3
  obtain rfl := Option.some.inj H
  go_enter Tryd.func51, Tryd.ntmps51
  go_wp2_with (first | ((with_reducible refine gate_dst (N := 2) rfl ?_); refine box_event ?hg (N := 2) ?hd (cs := #[.string a0_0, .string a0_1, .bool a0_2]) (t := 34) ?hr ?_; (case hd => rfl); (case hg => rfl); (case hr => first | (go_simp; done) | (go_simp; rfl)); intro gb276 hg w21 hbox hb; have n0_ := AZ.mk (below_step zq0 hb); have n1_ := AZ.mk (hbox); have n2_ := AZ.mk ((by rw [hg]; exact (below_size zq0) : w.heap.size ≤ gb276)); have n3_ := AZ.mk ((by rw [hg]; exact (below_size zq0) : w.heap.size ≤ gb276)); clear HB; have HB := n0_; have BK276 := n1_; have GW276 := n2_; have GE276 := n3_; clear n0_ n1_ n2_ n3_; clear hb hbox hg) | ((with_reducible refine gate_dst (N := 3) rfl ?_); refine box_event ?hg (N := 3) ?hd (cs := #[.string a1_0, .string a1_1, .bool a1_2]) (t := 34) ?hr ?_; (case hd => rfl); (case hg => rfl); (case hr => first | (go_simp; done) | (go_simp; rfl)); intro gb277 hg w22 hbox hb; have n0_ := AZ.mk (blk_below (g := gb276) (o := .cells #[.string a0_0, .string a0_1, .bool a0_2] 34 (0, 0)) zq51 hb); have n1_ := AZ.mk (below_step zq36 hb); have n2_ := AZ.mk (hbox); have n3_ := AZ.mk ((by rw [hg]; exact (below_size zq36) : w.heap.size ≤ gb277)); have n4_ := AZ.mk ((by rw [hg]; exact (below_size zq36) : w.heap.size ≤ gb277)); have n5_ := AZ.mk ((by rw [hg]; exact Nat.ne_of_lt (blk_lt (g := gb276) (o := .cells #[.string a0_0, .string a0_1, .bool a0_2] 34 (0, 0)) zq51) : gb276 ≠ gb277)); have n6_ := AZ.mk ((by rw [hg]; exact Nat.ne_of_gt (blk_lt (g := gb276) (o := .cells #[.string a0_0, .string a0_1, .bool a0_2] 34 (0, 0)) zq51) : gb277 ≠ gb276)); clear BK276; clear HB; have BK276 := n0_; have HB := n1_; have BK277 := n2_; have GW277 := n3_; have GE277 := n4_; have NB276_277 := n5_; have NB277_276 := n6_; clear n0_ n1_ n2_ n3_ n4_ n5_ n6_; clear hb hbox hg; have hnb23 := NB276_277.out; have hnc23 := NB277_276.out; have hcz24_0 : w22.cell? ⟨gb276, 0, none⟩ = some (.string a0_0) := (blk_cell BK276.out 0).trans rfl; have hcz24_1 : w22.cell? ⟨gb276, 1, none⟩ = some (.string a0_1) := (blk_cell BK276.out 1).trans rfl; have hcz24_2 : w22.cell? ⟨gb276, 2, none⟩ = some (.bool a0_2) := (blk_cell BK276.out 2).trans rfl; have hfz24_0 := blk_frozen BK276.out 0; have hfz24_1 := blk_frozen BK276.out 1; have hfz24_2 := blk_frozen BK276.out 2; have hcz25_0 : w22.cell? ⟨gb277, 0, none⟩ = some (.string a1_0) := (blk_cell BK277.out 0).trans rfl; have hcz25_1 : w22.cell? ⟨gb277, 1, none⟩ = some (.string a1_1) := (blk_cell BK277.out 1).trans rfl; have hcz25_2 : w22.cell? ⟨gb277, 2, none⟩ = some (.bool a1_2) := (blk_cell BK277.out 2).trans rfl; have hfz25_0 := blk_frozen BK277.out 0; have hfz25_1 := blk_frozen BK277.out 1; have hfz25_2 := blk_frozen BK277.out 2))
  go_ret
  exact ⟨zq7, zq79⟩
end Go.Proofs.YtgjipjffpodjlaaDoor.K
