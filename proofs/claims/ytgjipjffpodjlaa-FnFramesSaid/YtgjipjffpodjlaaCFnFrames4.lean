import Derived.Lib.SliceRun
import Derived.Deep.DeepMust
import Derived.Laws.BitsAllLaws
import Derived.Shelf.Strings.Builder1
import Derived.Test.YtgjipjffpodjlaaProg
import Derived.Test.YtgjipjffpodjlaaCFnFrames3
namespace Go.Proofs.Ytgjipjffpodjlaa.K
open Go.RowKit Go.Proofs.YtgjipjffpodjlaaW.PrintWords Go.Proofs.YtgjipjffpodjlaaW.PrintLast Go.Proofs.YtgjipjffpodjlaaW.PrintMore
attribute [local go_sem] max2_int min2_int max_two min_two max_three min_three max_four min_four   
set_option linter.unusedVariables false
set_option linter.unusedSimpArgs false
def spec_Feed.l0 : Nat → ByteArray → Int → ByteArray → List ByteArray → Bool → Int → ByteArray → List ByteArray → Bool → Option (Int × ByteArray × List ByteArray × Bool)
 | 0, _, _, _, _, _, _, _, _, _ => none
 | k + 1, x6, x125000, x125001, x125002, x125003, x134000, x134001, x134002, x134003 => (spec_l3Front.f k x6 x125000).bind fun bt134 => (if bt134.1 = 0 then (some (x134000, x6, x134002, x134003)) else (if bt134.1 = 2 then (some (x134000, x134001, x134002, true)) else (if (x134002.length : Int) ≥ 500 then (some (x134000, x134001, x134002, true)) else (if x134002.length < 8796093022208 then (if 0 ≤ bt134.2.2 then (if bt134.2.2 ≤ (x6.size : Int) then (spec_Feed.l0 k (x6.extract (bt134.2.2 : Int).toNat x6.size) x125000 x125001 x125002 x125003 x134000 x134001 (x134002 ++ [bt134.2.1]) x134003) else (none)) else (none)) else (none)))))
def spec_Feed.f (k : Nat) (a0_0 : Int) (a0_1 : ByteArray) (l0_2 : List ByteArray) (a0_3 : Bool) (a1 : ByteArray) : Option (Int × ByteArray × List ByteArray × Bool) := (spec_ValidDecoder.f k a0_0 a0_1 l0_2 a0_3).bind fun t126 => (if t126 = true then ((some (([] : List ByteArray) : List ByteArray)).bind fun y127 => (if y127.length + l0_2.length < 8796093022208 then ((some (y127 ++ l0_2 : List ByteArray)).bind fun y130 => (if a0_3 = true then (some (a0_0, (⟨#[]⟩ : ByteArray), y130, a0_3)) else (if a0_1.size + a1.size ≤ 9223372036854775807 then (spec_Feed.l0 k (a0_1 ++ a1) a0_0 a0_1 l0_2 a0_3 a0_0 (⟨#[]⟩ : ByteArray) y130 a0_3) else (none)))) else (none))) else (some (0, (⟨#[]⟩ : ByteArray), ([] : List ByteArray), false)))
theorem spec_Feed.mono_l : ∀ k, (∀ y0 y1 y2 y3 y4 y5 y6 y7 y8, LeO (spec_Feed.l0 k y0 y1 y2 y3 y4 y5 y6 y7 y8) (spec_Feed.l0 (k + 1) y0 y1 y2 y3 y4 y5 y6 y7 y8))
 | 0 => fun _ _ _ _ _ _ _ _ _ r h => by simp [spec_Feed.l0] at h
 | k + 1 => by
  have ih0 := spec_Feed.mono_l k
  ·intro y0 y1 y2 y3 y4 y5 y6 y7 y8
   unfold spec_Feed.l0
   repeat' first
   | (with_reducible exact ih0 _ _ _ _ _ _ _ _ _)
   | (with_reducible exact spec_ValidDecoder.mono _ _ _ _ _)
   | (with_reducible exact spec_l3Front.mono _ _ _)
   | (with_reducible exact LeO.refl _)
   | (with_reducible exact LeO.none _)
   | (with_reducible refine LeO.ite ?_ ?_)
   | (with_reducible refine LeO.bind ?_ (fun _ => ?_))
   | exact ih0 _ _ _ _ _ _ _ _ _
   | exact spec_ValidDecoder.mono _ _ _ _ _
   | exact spec_l3Front.mono _ _ _
   | exact LeO.none _
   | refine LeO.ite ?_ ?_
   | refine LeO.bind ?_ (fun _ => ?_)
theorem spec_Feed.mono : ∀ a0 a1 a2 a3 a4 k, LeO (spec_Feed.f k a0 a1 a2 a3 a4) (spec_Feed.f (k + 1) a0 a1 a2 a3 a4) := by
 intro a0 a1 a2 a3 a4 k
 have ih0 := spec_Feed.mono_l k
 unfold spec_Feed.f
 repeat' first
   | (with_reducible exact ih0 _ _ _ _ _ _ _ _ _)
   | (with_reducible exact spec_ValidDecoder.mono _ _ _ _ _)
   | (with_reducible exact spec_l3Front.mono _ _ _)
   | (with_reducible exact LeO.refl _)
   | (with_reducible exact LeO.none _)
   | (with_reducible refine LeO.ite ?_ ?_)
   | (with_reducible refine LeO.bind ?_ (fun _ => ?_))
   | exact ih0 _ _ _ _ _ _ _ _ _
   | exact spec_ValidDecoder.mono _ _ _ _ _
   | exact spec_l3Front.mono _ _ _
   | exact LeO.none _
   | refine LeO.ite ?_ ?_
   | refine LeO.bind ?_ (fun _ => ?_)
def spec_Feed.T3 : Bool × List (List Nat × List Nat) := (true, [([], []), ([0], [0]), ([], []), ([], []), ([3], [3]), ([2, 4], [2, 4]), ([], []), ([6], [6]), ([1, 5, 7], [1, 5, 7]), ([], []), ([9, 8, 5, 0, 1, 2, 3, 4, 5, 6, 7, 8, 9], [8, 9])])
def spec_Feed.B3 : List Nat := [0, 1, 0, 0, 8, 28, 0, 64, 255, 0, 1023]
theorem spec_Feed.tab3 : rtab .any (opsOf Try.f9 3) = spec_Feed.T3 := by kernel_rfl
theorem spec_Feed.bits3 : waitsOk spec_Feed.T3.2 spec_Feed.B3 = true := by kernel_rfl
set_option maxHeartbeats 2000000 in
set_option maxRecDepth 100000 in
theorem spec_Feed.calls (k : Nat) (a0_0 : Int) (a0_1 : ByteArray) (A0_2 : Option Addr) (c0_2 : Nat) (l0_2 : List ByteArray) (a0_3 : Bool) (a1 : ByteArray) (r1 : Int) (r2 : ByteArray) (r3 : List ByteArray) (r4 : Bool) (w : World) (hr0_2 : Kd.C Kd.string w A0_2 l0_2.length l0_2) (hc0_2 : l0_2.length ≤ c0_2) (h : spec_Feed.f k a0_0 a0_1 l0_2 a0_3 a1 = some (r1, r2, r3, r4)) :
  Calls Try.prog 9 #[.agg #[.int .i64 a0_0, .string a0_1, .slice A0_2 l0_2.length c0_2, .bool a0_3], .string a1] w fun e w' => ∃ v2_ : Value, e = .returned (.agg #[.int .i64 r1, .string r2, v2_, .bool r4]) ∧ Kd.R Kd.string 9 w' w.heap.size (fun _ => True) v2_ r3 ∧ Below w.heap.size w w' := by
 have hu25 := Try.underlying25
 have HR0_2 := Aside0.mk hr0_2
 have HC0_2 := Aside0.mk hc0_2
 clear hr0_2 hc0_2
 have HB := Aside0.mk (Below.refl w.heap.size w)
 have H : ((spec_ValidDecoder.f k a0_0 a0_1 l0_2 a0_3).bind fun t126 => (if t126 = true then ((some (([] : List ByteArray) : List ByteArray)).bind fun y127 => (if y127.length + l0_2.length < 8796093022208 then ((some (y127 ++ l0_2 : List ByteArray)).bind fun y130 => (if a0_3 = true then (some (a0_0, (⟨#[]⟩ : ByteArray), y130, a0_3)) else (if a0_1.size + a1.size ≤ 9223372036854775807 then (spec_Feed.l0 k (a0_1 ++ a1) a0_0 a0_1 l0_2 a0_3 a0_0 (⟨#[]⟩ : ByteArray) y130 a0_3) else (none)))) else (none))) else (some (0, (⟨#[]⟩ : ByteArray), ([] : List ByteArray), false)))) = some (r1, r2, r3, r4) := h
 clear h
 replace H := Option.bind_eq_some_iff.mp H
 obtain ⟨t126, A30, H⟩ := H
 try dsimp only at H
 have A3 := Aside0.mk A30
 clear A30
 by_cases c4 : t126 = true
 ·subst c4
  rw [if_pos rfl] at H
  obtain ⟨y127, hy127⟩ : ∃ y_ : List ByteArray, y_ = (([] : List ByteArray)) := ⟨_, rfl⟩
  replace H : (if y127.length + l0_2.length < 8796093022208 then ((some (y127 ++ l0_2 : List ByteArray)).bind fun y130 => (if a0_3 = true then (some (a0_0, (⟨#[]⟩ : ByteArray), y130, a0_3)) else (if a0_1.size + a1.size ≤ 9223372036854775807 then (spec_Feed.l0 k (a0_1 ++ a1) a0_0 a0_1 l0_2 a0_3 a0_0 (⟨#[]⟩ : ByteArray) y130 a0_3) else (none)))) else (none)) = some (r1, r2, r3, r4) := by first | (rw [hy127]; with_reducible exact H) | (have H2_ := (Option.bind_some _ _).symm.trans H; rw [hy127]; with_reducible exact H2_) | (have H2_ := (Option.bind_some _ _).symm.trans H; with_reducible exact H2_) | with_reducible exact H | (rw [hy127]; exact H) | exact H
  have Ny127 := Aside0.mk hy127
  clear hy127
  by_cases c5 : y127.length + l0_2.length < 8796093022208
  ·rw [if_pos c5] at H
   have LMc5 := Aside0.mk c5
   clear c5
   obtain ⟨y130, hy130⟩ : ∃ y_ : List ByteArray, y_ = (y127 ++ l0_2) := ⟨_, rfl⟩
   replace H : (if a0_3 = true then (some (a0_0, (⟨#[]⟩ : ByteArray), y130, a0_3)) else (if a0_1.size + a1.size ≤ 9223372036854775807 then (spec_Feed.l0 k (a0_1 ++ a1) a0_0 a0_1 l0_2 a0_3 a0_0 (⟨#[]⟩ : ByteArray) y130 a0_3) else (none))) = some (r1, r2, r3, r4) := by first | (rw [hy130]; with_reducible exact H) | (have H2_ := (Option.bind_some _ _).symm.trans H; rw [hy130]; with_reducible exact H2_) | (have H2_ := (Option.bind_some _ _).symm.trans H; with_reducible exact H2_) | with_reducible exact H | (rw [hy130]; exact H) | exact H
   have Ny130 := Aside0.mk hy130
   clear hy130
   by_cases c6 : a0_3 = true
   ·subst c6
    rw [if_pos rfl] at H
    simp only [Option.some.injEq, Prod.mk.injEq] at H
    obtain ⟨rfl, rfl, rfl, rfl⟩ := H
    go_enter Try.func9, Try.ntmps9
    try go_wp2_with (first | ((with_reducible refine gate_dst (N := 2) rfl ?_); (try (refine gate_guard zq90 ?_; dsimp only)); refine box_event ?hg (N := 2) ?hd (cs := #[.int .i64 a0_0, .string a0_1, .slice A0_2 l0_2.length c0_2, .bool true]) (t := 25) ?hr ?_; (case hd => rfl); (case hg => rfl); (case hr => first | (go_simp; done) | (go_simp; rfl)); intro gb124 hg w7 hbox hb; have n0_ := Aside0.mk (below_step zq1 hb); have n1_ := Aside0.mk (hbox); have n2_ := Aside0.mk ((by rw [hg]; exact (below_size zq1) : w.heap.size ≤ gb124)); have n3_ := Aside0.mk ((by rw [hg]; exact (below_size zq1) : w.heap.size ≤ gb124)); clear HB; have HB := n0_; have BK124 := n1_; have GW124 := n2_; have GE124 := n3_; clear n0_ n1_ n2_ n3_; clear hb hbox hg) | ((with_reducible refine gate_dst (N := 4) rfl ?_); (try (refine gate_guard zq90 ?_; dsimp only)); refine box_event ?hg (N := 4) ?hd (cs := #[.int .i64 0, .string (⟨#[]⟩ : ByteArray), .slice none 0 0, .bool false]) (t := 25) ?hr ?_; (case hd => rfl); (case hg => rfl); (case hr => first | (go_simp; done) | (go_simp; rfl)); intro gb125 hg w8 hbox hb; have n0_ := Aside0.mk (blk_below (g := gb124) (o := .cells #[.int .i64 a0_0, .string a0_1, .slice A0_2 l0_2.length c0_2, .bool true] 25 (0, 0)) zq11 hb); have n1_ := Aside0.mk (below_step zq54 hb); have n2_ := Aside0.mk (hbox); have n3_ := Aside0.mk ((by rw [hg]; exact (below_size zq54) : w.heap.size ≤ gb125)); have n4_ := Aside0.mk ((by rw [hg]; exact (below_size zq54) : w.heap.size ≤ gb125)); have n5_ := Aside0.mk ((by rw [hg]; exact Nat.ne_of_lt (blk_lt (g := gb124) (o := .cells #[.int .i64 a0_0, .string a0_1, .slice A0_2 l0_2.length c0_2, .bool true] 25 (0, 0)) zq11) : gb124 ≠ gb125)); have n6_ := Aside0.mk ((by rw [hg]; exact Nat.ne_of_gt (blk_lt (g := gb124) (o := .cells #[.int .i64 a0_0, .string a0_1, .slice A0_2 l0_2.length c0_2, .bool true] 25 (0, 0)) zq11) : gb125 ≠ gb124)); clear BK124; clear HB; have BK124 := n0_; have HB := n1_; have BK125 := n2_; have GW125 := n3_; have GE125 := n4_; have NB124_125 := n5_; have NB125_124 := n6_; clear n0_ n1_ n2_ n3_ n4_ n5_ n6_; clear hb hbox hg; have hnb9 := NB124_125.out; have hnc9 := NB125_124.out; have hcz10_0 : w8.cell? ⟨gb124, 0, none⟩ = some (.int .i64 a0_0) := (blk_cell BK124.out 0).trans rfl; have hcz10_1 : w8.cell? ⟨gb124, 1, none⟩ = some (.string a0_1) := (blk_cell BK124.out 1).trans rfl; have hcz10_2 : w8.cell? ⟨gb124, 2, none⟩ = some (.slice A0_2 l0_2.length c0_2) := (blk_cell BK124.out 2).trans rfl; have hcz10_3 : w8.cell? ⟨gb124, 3, none⟩ = some (.bool true) := (blk_cell BK124.out 3).trans rfl; have hfz10_0 := blk_frozen BK124.out 0; have hfz10_1 := blk_frozen BK124.out 1; have hfz10_2 := blk_frozen BK124.out 2; have hfz10_3 := blk_frozen BK124.out 3) | ((with_reducible refine gate_callee (f := 10) rfl ?_); refine goesL_ (some 11) rfl rfl Try.func10 zq19 rfl #[.agg #[.int .i64 a0_0, .string a0_1, .slice A0_2 l0_2.length c0_2, .bool true]] rfl zq0 ?_; (with_reducible refine (spec_ValidDecoder.calls k a0_0 a0_1 _ _ l0_2 true true _ ?side1 ?side2 A3.out).mono ?_); (case side1 => repeat (first | exact (Kd.C_below HR0_2.out HB.out) | (with_reducible refine Kd.C_alloc ?_ _) | (with_reducible refine Kd.C_drewN ?_ _) | (with_reducible refine Kd.C_drew ?_))); (case side2 => exact HC0_2.out); rintro e w11 ⟨rfl, hb⟩; refine ⟨_, rfl, ?_⟩; have n0_ := Aside0.mk (blk_below (g := gb124) (o := .cells #[.int .i64 a0_0, .string a0_1, .slice A0_2 l0_2.length c0_2, .bool true] 25 (0, 0)) zq11 hb); have n1_ := Aside0.mk (blk_below (g := gb125) (o := .cells #[.int .i64 0, .string (⟨#[]⟩ : ByteArray), .slice none 0 0, .bool false] 25 (0, 0)) zq18 hb); have n2_ := Aside0.mk (below_step zq12 hb); clear BK124; clear BK125; clear HB; have BK124 := n0_; have BK125 := n1_; have HB := n2_; clear n0_ n1_ n2_; (try clear hb); (try clear hb2); (try clear hk); (try clear hi)))
    have n0_ := Aside0.mk (blk_drew BK124.out)
    have n1_ := Aside0.mk (blk_drew BK125.out)
    have n2_ := Aside0.mk (below_drew1 HB.out)
    clear BK124
    clear BK125
    clear HB
    have BK124 := n0_
    have BK125 := n1_
    have HB := n2_
    clear n0_ n1_ n2_
    refine start_ (n := 11) (S := fun w' => w'.cell? ⟨gb124, 0, none⟩ = some (.int .i64 a0_0) ∧ w'.cell? ⟨gb124, 1, none⟩ = some (.string a0_1) ∧ w'.cell? ⟨gb124, 2, none⟩ = some (.slice A0_2 l0_2.length c0_2) ∧ w'.cell? ⟨gb124, 3, none⟩ = some (.bool true)) (ds := []) #[false, false, false, false, false, false, false, false, false, false, false] zq19 rfl rfl ⟨(blk_cell BK124.out 0).trans rfl, (blk_cell BK124.out 1).trans rfl, (blk_cell BK124.out 2).trans rfl, (blk_cell BK124.out 3).trans rfl⟩ (fun hHeld => ?_); refine with_tabW spec_Feed.tab3 spec_Feed.bits3 (fun HT_ HW_ => ?_)
    generalize w11.drew = w12 at BK124 BK125 HB hHeld ⊢
    refine pure_ (i := 0) (N := some 14) (v := ?_) (a' := ?_) #[true, false, false, false, false, false, false, false, false, false, false] rfl rfl (any_of HT_.out zq19) (fun _ _ _ h => h) (Or.inl ⟨zq90, ?_⟩) ?_ ?_
    rotate_left
    ·intro w'
     go_simp
     with_reducible rfl
    rotate_left
    ·simp only [Act.put, List.setIfInBounds_toArray, List.set_cons_zero, List.set_cons_succ, i64_w, i32_w]
     rfl
    refine pure_ (i := 3) (N := some 17) (v := ?_) (a' := ?_) #[true, false, false, true, false, false, false, false, false, false, false] rfl rfl (any_of HT_.out zq19) (fun _ _ _ h => h) (Or.inl ⟨zq90, ?_⟩) ?_ ?_
    rotate_left
    ·intro w'
     go_simp
     with_reducible rfl
    rotate_left
    ·simp only [Act.put, List.setIfInBounds_toArray, List.set_cons_zero, List.set_cons_succ, i64_w, i32_w]
     rfl
    refine pure_ (i := 6) (N := some 20) (v := ?_) (a' := ?_) #[true, false, false, true, false, false, true, false, false, false, false] rfl rfl (any_of HT_.out zq19) (fun _ _ _ h => h) (Or.inl ⟨zq90, ?_⟩) ?_ ?_
    rotate_left
    ·intro w'
     go_simp
     with_reducible rfl
    rotate_left
    ·simp only [Act.put, List.setIfInBounds_toArray, List.set_cons_zero, List.set_cons_succ, i64_w, i32_w]
     rfl
    refine take_ (i := 1) (N := some 15) (v := ?_) (a' := ?_) #[true, true, false, true, false, false, true, false, false, false, false] rfl rfl (take_ofW HT_.out HW_.out zq19) (fun _ _ _ h => h) (Or.inl ⟨zq90, ?_⟩) hHeld ?_ ?_
    rotate_left
    ·rintro w' ⟨s0, s1, s2, s3⟩
     go_simp
     with_reducible rfl
    rotate_left
    ·simp only [Act.put, List.setIfInBounds_toArray, List.set_cons_zero, List.set_cons_succ, i64_w, i32_w]
     rfl
    refine take_ (i := 4) (N := some 18) (v := ?_) (a' := ?_) #[true, true, false, true, true, false, true, false, false, false, false] rfl rfl (take_ofW HT_.out HW_.out zq19) (fun _ _ _ h => h) (Or.inl ⟨zq90, ?_⟩) hHeld ?_ ?_
    rotate_left
    ·rintro w' ⟨s0, s1, s2, s3⟩
     go_simp
     with_reducible rfl
    rotate_left
    ·simp only [Act.put, List.setIfInBounds_toArray, List.set_cons_zero, List.set_cons_succ, i64_w, i32_w]
     rfl
    refine take_ (i := 7) (N := some 21) (v := ?_) (a' := ?_) #[true, true, false, true, true, false, true, true, false, false, false] rfl rfl (take_ofW HT_.out HW_.out zq19) (fun _ _ _ h => h) (Or.inl ⟨zq90, ?_⟩) hHeld ?_ ?_
    rotate_left
    ·rintro w' ⟨s0, s1, s2, s3⟩
     go_simp
     with_reducible rfl
    rotate_left
    ·simp only [Act.put, List.setIfInBounds_toArray, List.set_cons_zero, List.set_cons_succ, i64_w, i32_w]
     rfl
    refine join_ (σ := Value × Value × Nat) 1 #[true, true, true, true, true, true, true, true, true, true, false] (fun s_ => [(16, s_.1), (19, s_.2.1), (5, .pointer (some ⟨s_.2.2, 0, none⟩)), (22, .agg #[.int .i64 a0_0, .string (⟨#[]⟩ : ByteArray), s_.2.1, .bool true])]) (fun s_ w' => (w'.cell? ⟨gb124, 0, none⟩ = some (.int .i64 a0_0) ∧ w'.cell? ⟨gb124, 1, none⟩ = some (.string a0_1) ∧ w'.cell? ⟨gb124, 2, none⟩ = some (.slice A0_2 l0_2.length c0_2) ∧ w'.cell? ⟨gb124, 3, none⟩ = some (.bool true)) ∧ (Kd.R Kd.string 9 w' w.heap.size (fun _ => True) s_.2.1 y130) ∧ (w'.heap[gb124]? = some (.cells #[.int .i64 a0_0, .string a0_1, .slice A0_2 l0_2.length c0_2, .bool true] 25 (0, 0))) ∧ (w'.heap[gb125]? = some (.cells #[.int .i64 0, .string (⟨#[]⟩ : ByteArray), .slice none 0 0, .bool false] 25 (0, 0))) ∧ (w'.heap[s_.2.2]? = some (.cells #[.int .i64 0, .string (⟨#[]⟩ : ByteArray), .slice none 0 0, .bool false] 25 (0, 0))) ∧ (w.heap.size ≤ s_.2.2) ∧ (w.heap.size ≤ s_.2.2) ∧ (gb124 ≠ s_.2.2) ∧ (s_.2.2 ≠ gb124) ∧ (gb125 ≠ s_.2.2) ∧ (s_.2.2 ≠ gb125) ∧ (Below w.heap.size w w')) ?_ ?_
    rotate_left
    ·intro hCont
     refine two_ (i := 2) (j := 9) (Ni := some 16) (Nj := some 5) #[true, true, true, true, true, false, true, true, false, false, false] #[true, true, false, true, true, false, true, true, false, true, false] rfl rfl rfl rfl (two_of HT_.out zq19) zq60 zq60 (fun K hK => ?_) (fun K hK => ?_)
     ·skip
      refine Kd.R_lit_step Kd.string _ 9 ?hg (N := 16) ?hd (xs := ([] : List ByteArray)) (inner := []) (ok := fun _ => True) (okp := fun _ => True) ?hr ?hp (fun _ hk => hk) trivial (Below.refl _ _) (Nat.le_refl _) zq81 ?_; (case hd => rfl); (case hg => rfl); (case hr => first | (go_simp; done) | (go_simp; rfl)); (case hp => exact (Reps.none _ _))
      intro v128 w13 ho14 hb hg_ hnew_
      clear hg_ hnew_
      (first | rw [← Ny127.out] at ho14 | (simp only [Int.reduceToNat] at ho14; rw [← Ny127.out] at ho14))
      have n0_ := Aside0.mk (Kd.R_lower ho14 (below_size zq12))
      have n1_ := Aside0.mk (blk_below (g := gb124) (o := .cells #[.int .i64 a0_0, .string a0_1, .slice A0_2 l0_2.length c0_2, .bool true] 25 (0, 0)) zq11 hb)
      have n2_ := Aside0.mk (blk_below (g := gb125) (o := .cells #[.int .i64 0, .string (⟨#[]⟩ : ByteArray), .slice none 0 0, .bool false] 25 (0, 0)) zq18 hb)
      have n3_ := Aside0.mk (below_step zq12 hb)
      clear BK124
      clear BK125
      clear HB
      have HO129 := n0_
      have BK124 := n1_
      have BK125 := n2_
      have HB := n3_
      clear n0_ n1_ n2_ n3_
      clear hb ho14
      refine hK.out _ _ ⟨(blk_cell BK124.out 0).trans rfl, (blk_cell BK124.out 1).trans rfl, (blk_cell BK124.out 2).trans rfl, (blk_cell BK124.out 3).trans rfl⟩ (fun hHeld => ?_)
      clear hK K
      refine norm_ (a' := ?_) ?_ ?_
      rotate_left
      ·show Act.put _ (some 16) _ = _
       simp only [Act.put, List.setIfInBounds_toArray, List.set_cons_zero, List.set_cons_succ, i64_w, i32_w]
       rfl
      refine two_ (i := 5) (j := 9) (Ni := some 19) (Nj := some 5) #[true, true, true, true, true, true, true, true, false, false, false] #[true, true, true, true, true, false, true, true, false, true, false] rfl rfl rfl rfl (two_of HT_.out zq19) zq60 zq60 (fun K hK => ?_) (fun K hK => ?_)
      ·skip
       refine Kd.R_append_rows_step Kd.string (w0 := w) w.heap.size zq90 (.tmp 16) (.tmp 18) 23 9 (.string ⟨#[]⟩) 16 rfl Try.underlying23 info9 rfl zq60 zq99 v128 y127 l0_2 _ _ _ (fun _ => True) (fun _ => False) rfl rfl ?aO ?aR (fun _ _ h => h) (fun _ h => h.elim) ?aF ?aB ?aS ?aL ?_
       (case aR => repeat (first | exact (Kd.C_below HR0_2.out HB.out) | (with_reducible refine Kd.C_alloc ?_ _) | (with_reducible refine Kd.C_drewN ?_ _) | (with_reducible refine Kd.C_drew ?_)))
       (case aB => exact zq12)
       (case aF => exact (fun _ _ => trivial))
       (case aO => exact zq64)
       (case aS => exact (below_size zq12))
       (case aL => have := LMc5.out; omega)
       intro v131 w15 ho hb hg hat
       rw [← Ny130.out] at ho
       have n0_ := Aside0.mk (blk_grown (g := gb124) (o := .cells #[.int .i64 a0_0, .string a0_1, .slice A0_2 l0_2.length c0_2, .bool true] 25 (0, 0)) zq11 hg (Kd.R_ne HO129.out BK124.out zq60))
       have n1_ := Aside0.mk (blk_grown (g := gb125) (o := .cells #[.int .i64 0, .string (⟨#[]⟩ : ByteArray), .slice none 0 0, .bool false] 25 (0, 0)) zq18 hg (Kd.R_ne HO129.out BK125.out zq60))
       have n2_ := Aside0.mk (hb)
       have n3_ := Aside0.mk (ho)
       clear BK124
       clear BK125
       clear HB
       clear HO129
       have BK124 := n0_
       have BK125 := n1_
       have HB := n2_
       have HO132 := n3_
       clear n0_ n1_ n2_ n3_
       clear ho hb hg hat
       obtain ⟨Ao16, co16, eo16⟩ := Kd.R_slice HO132.out
       (first | subst eo16 | (injection eo16 with f1_ f2_ f3_; have f4_ := f1_.symm; have f5_ := f3_.symm; clear f1_ f2_ f3_; subst f4_; subst f5_))
       refine hK.out _ _ ⟨(blk_cell BK124.out 0).trans rfl, (blk_cell BK124.out 1).trans rfl, (blk_cell BK124.out 2).trans rfl, (blk_cell BK124.out 3).trans rfl⟩ (fun hHeld => ?_)
       clear hK K
       refine norm_ (a' := ?_) ?_ ?_
       rotate_left
       ·show Act.put _ (some 19) _ = _
        simp only [Act.put, List.setIfInBounds_toArray, List.set_cons_zero, List.set_cons_succ, i64_w, i32_w]
        rfl
       refine pure_ (i := 8) (N := some 22) (v := ?_) (a' := ?_) #[true, true, true, true, true, true, true, true, true, false, false] rfl rfl (any_of HT_.out zq19) (fun _ _ _ h => h) (Or.inl ⟨zq90, ?_⟩) ?_ ?_
       rotate_left
       ·intro w'
        go_simp
        with_reducible rfl
       rotate_left
       ·simp only [Act.put, List.setIfInBounds_toArray, List.set_cons_zero, List.set_cons_succ, i64_w, i32_w]
        rfl
       refine one_ (i := 9) (N := some 5) #[true, true, true, true, true, true, true, true, true, true, false] rfl rfl (one_of HT_.out zq19) zq60 (fun K hK => ?_)
       refine box_step ?hg (N := 5) ?hd (cs := #[.int .i64 0, .string (⟨#[]⟩ : ByteArray), .slice none 0 0, .bool false]) (t := 25) ?hr ?_; (case hd => rfl); (case hg => rfl); (case hr => first | (go_simp; done) | (go_simp; rfl))
       intro gb133 hg w17 hbox hb
       have n0_ := Aside0.mk (Kd.R_below zq63 hb)
       have n1_ := Aside0.mk (blk_below (g := gb124) (o := .cells #[.int .i64 a0_0, .string a0_1, .slice A0_2 l0_2.length c0_2, .bool true] 25 (0, 0)) zq11 hb)
       have n2_ := Aside0.mk (blk_below (g := gb125) (o := .cells #[.int .i64 0, .string (⟨#[]⟩ : ByteArray), .slice none 0 0, .bool false] 25 (0, 0)) zq18 hb)
       have n3_ := Aside0.mk (below_step zq12 hb)
       have n4_ := Aside0.mk (hbox)
       have n5_ := Aside0.mk ((by rw [hg]; exact (below_size zq12) : w.heap.size ≤ gb133))
       have n6_ := Aside0.mk ((by rw [hg]; exact (below_size zq12) : w.heap.size ≤ gb133))
       have n7_ := Aside0.mk ((by rw [hg]; exact Nat.ne_of_lt (blk_lt (g := gb124) (o := .cells #[.int .i64 a0_0, .string a0_1, .slice A0_2 l0_2.length c0_2, .bool true] 25 (0, 0)) zq11) : gb124 ≠ gb133))
       have n8_ := Aside0.mk ((by rw [hg]; exact Nat.ne_of_gt (blk_lt (g := gb124) (o := .cells #[.int .i64 a0_0, .string a0_1, .slice A0_2 l0_2.length c0_2, .bool true] 25 (0, 0)) zq11) : gb133 ≠ gb124))
       have n9_ := Aside0.mk ((by rw [hg]; exact Nat.ne_of_lt (blk_lt (g := gb125) (o := .cells #[.int .i64 0, .string (⟨#[]⟩ : ByteArray), .slice none 0 0, .bool false] 25 (0, 0)) zq18) : gb125 ≠ gb133))
       have n10_ := Aside0.mk ((by rw [hg]; exact Nat.ne_of_gt (blk_lt (g := gb125) (o := .cells #[.int .i64 0, .string (⟨#[]⟩ : ByteArray), .slice none 0 0, .bool false] 25 (0, 0)) zq18) : gb133 ≠ gb125))
       clear HO132
       clear BK124
       clear BK125
       clear HB
       have HO132 := n0_
       have BK124 := n1_
       have BK125 := n2_
       have HB := n3_
       have BK133 := n4_
       have GW133 := n5_
       have GE133 := n6_
       have NB124_133 := n7_
       have NB133_124 := n8_
       have NB125_133 := n9_
       have NB133_125 := n10_
       clear n0_ n1_ n2_ n3_ n4_ n5_ n6_ n7_ n8_ n9_ n10_
       clear hb hbox hg
       refine hK.out _ _ ⟨(blk_cell BK124.out 0).trans rfl, (blk_cell BK124.out 1).trans rfl, (blk_cell BK124.out 2).trans rfl, (blk_cell BK124.out 3).trans rfl⟩ (fun hHeld => ?_)
       clear hK K
       refine norm_ (a' := ?_) ?_ ?_
       rotate_left
       ·show Act.put _ (some 5) _ = _
        simp only [Act.put, List.setIfInBounds_toArray, List.set_cons_zero, List.set_cons_succ, i64_w, i32_w]
        rfl
       exact norm_ zq67 (hCont (v128, .slice Ao16 y130.length co16, gb133) _ ⟨hHeld, zq63, zq11, zq18, zq41, GW133.out, GE133.out, NB124_133.out, NB133_124.out, NB125_133.out, NB133_125.out, zq7⟩)
      ·skip
       refine box_step ?hg (N := 5) ?hd (cs := #[.int .i64 0, .string (⟨#[]⟩ : ByteArray), .slice none 0 0, .bool false]) (t := 25) ?hr ?_; (case hd => rfl); (case hg => rfl); (case hr => first | (go_simp; done) | (go_simp; rfl))
       intro gb133 hg w15 hbox hb
       have n0_ := Aside0.mk (Kd.R_below zq64 hb)
       have n1_ := Aside0.mk (blk_below (g := gb124) (o := .cells #[.int .i64 a0_0, .string a0_1, .slice A0_2 l0_2.length c0_2, .bool true] 25 (0, 0)) zq11 hb)
       have n2_ := Aside0.mk (blk_below (g := gb125) (o := .cells #[.int .i64 0, .string (⟨#[]⟩ : ByteArray), .slice none 0 0, .bool false] 25 (0, 0)) zq18 hb)
       have n3_ := Aside0.mk (below_step zq12 hb)
       have n4_ := Aside0.mk (hbox)
       have n5_ := Aside0.mk ((by rw [hg]; exact (below_size zq12) : w.heap.size ≤ gb133))
       have n6_ := Aside0.mk ((by rw [hg]; exact (below_size zq12) : w.heap.size ≤ gb133))
       have n7_ := Aside0.mk ((by rw [hg]; exact Nat.ne_of_lt (blk_lt (g := gb124) (o := .cells #[.int .i64 a0_0, .string a0_1, .slice A0_2 l0_2.length c0_2, .bool true] 25 (0, 0)) zq11) : gb124 ≠ gb133))
       have n8_ := Aside0.mk ((by rw [hg]; exact Nat.ne_of_gt (blk_lt (g := gb124) (o := .cells #[.int .i64 a0_0, .string a0_1, .slice A0_2 l0_2.length c0_2, .bool true] 25 (0, 0)) zq11) : gb133 ≠ gb124))
       have n9_ := Aside0.mk ((by rw [hg]; exact Nat.ne_of_lt (blk_lt (g := gb125) (o := .cells #[.int .i64 0, .string (⟨#[]⟩ : ByteArray), .slice none 0 0, .bool false] 25 (0, 0)) zq18) : gb125 ≠ gb133))
       have n10_ := Aside0.mk ((by rw [hg]; exact Nat.ne_of_gt (blk_lt (g := gb125) (o := .cells #[.int .i64 0, .string (⟨#[]⟩ : ByteArray), .slice none 0 0, .bool false] 25 (0, 0)) zq18) : gb133 ≠ gb125))
       clear HO129
       clear BK124
       clear BK125
       clear HB
       have HO129 := n0_
       have BK124 := n1_
       have BK125 := n2_
       have HB := n3_
       have BK133 := n4_
       have GW133 := n5_
       have GE133 := n6_
       have NB124_133 := n7_
       have NB133_124 := n8_
       have NB125_133 := n9_
       have NB133_125 := n10_
       clear n0_ n1_ n2_ n3_ n4_ n5_ n6_ n7_ n8_ n9_ n10_
       clear hb hbox hg
       refine hK.out _ _ ⟨(blk_cell BK124.out 0).trans rfl, (blk_cell BK124.out 1).trans rfl, (blk_cell BK124.out 2).trans rfl, (blk_cell BK124.out 3).trans rfl⟩ (fun hHeld => ?_)
       clear hK K
       refine norm_ (a' := ?_) ?_ ?_
       rotate_left
       ·show Act.put _ (some 5) _ = _
        simp only [Act.put, List.setIfInBounds_toArray, List.set_cons_zero, List.set_cons_succ, i64_w, i32_w]
        rfl
       refine one_ (i := 5) (N := some 19) #[true, true, true, true, true, true, true, true, false, true, false] rfl rfl (one_of HT_.out zq19) zq60 (fun K hK => ?_)
       refine Kd.R_append_rows_step Kd.string (w0 := w) w.heap.size zq90 (.tmp 16) (.tmp 18) 23 9 (.string ⟨#[]⟩) 16 rfl Try.underlying23 info9 rfl zq60 zq99 v128 y127 l0_2 _ _ _ (fun _ => True) (fun _ => False) rfl rfl ?aO ?aR (fun _ _ h => h) (fun _ h => h.elim) ?aF ?aB ?aS ?aL ?_
       (case aR => repeat (first | exact (Kd.C_below HR0_2.out HB.out) | (with_reducible refine Kd.C_alloc ?_ _) | (with_reducible refine Kd.C_drewN ?_ _) | (with_reducible refine Kd.C_drew ?_)))
       (case aB => exact zq7)
       (case aF => exact (fun _ _ => trivial))
       (case aO => exact zq64)
       (case aS => exact (below_size zq7))
       (case aL => have := LMc5.out; omega)
       intro v131 w16 ho hb hg hat
       rw [← Ny130.out] at ho
       have n0_ := Aside0.mk (blk_grown (g := gb124) (o := .cells #[.int .i64 a0_0, .string a0_1, .slice A0_2 l0_2.length c0_2, .bool true] 25 (0, 0)) zq11 hg (Kd.R_ne HO129.out BK124.out zq60))
       have n1_ := Aside0.mk (blk_grown (g := gb125) (o := .cells #[.int .i64 0, .string (⟨#[]⟩ : ByteArray), .slice none 0 0, .bool false] 25 (0, 0)) zq18 hg (Kd.R_ne HO129.out BK125.out zq60))
       have n2_ := Aside0.mk (blk_grown (g := gb133) (o := .cells #[.int .i64 0, .string (⟨#[]⟩ : ByteArray), .slice none 0 0, .bool false] 25 (0, 0)) zq41 hg (Kd.R_ne HO129.out BK133.out zq60))
       have n3_ := Aside0.mk (hb)
       have n4_ := Aside0.mk (ho)
       clear BK124
       clear BK125
       clear BK133
       clear HB
       clear HO129
       have BK124 := n0_
       have BK125 := n1_
       have BK133 := n2_
       have HB := n3_
       have HO132 := n4_
       clear n0_ n1_ n2_ n3_ n4_
       clear ho hb hg hat
       obtain ⟨Ao17, co17, eo17⟩ := Kd.R_slice HO132.out
       (first | subst eo17 | (injection eo17 with f1_ f2_ f3_; have f4_ := f1_.symm; have f5_ := f3_.symm; clear f1_ f2_ f3_; subst f4_; subst f5_))
       refine hK.out _ _ ⟨(blk_cell BK124.out 0).trans rfl, (blk_cell BK124.out 1).trans rfl, (blk_cell BK124.out 2).trans rfl, (blk_cell BK124.out 3).trans rfl⟩ (fun hHeld => ?_)
       clear hK K
       refine norm_ (a' := ?_) ?_ ?_
       rotate_left
       ·show Act.put _ (some 19) _ = _
        simp only [Act.put, List.setIfInBounds_toArray, List.set_cons_zero, List.set_cons_succ, i64_w, i32_w]
        rfl
       refine pure_ (i := 8) (N := some 22) (v := ?_) (a' := ?_) #[true, true, true, true, true, true, true, true, true, true, false] rfl rfl (any_of HT_.out zq19) (fun _ _ _ h => h) (Or.inl ⟨zq90, ?_⟩) ?_ ?_
       rotate_left
       ·intro w'
        go_simp
        with_reducible rfl
       rotate_left
       ·simp only [Act.put, List.setIfInBounds_toArray, List.set_cons_zero, List.set_cons_succ, i64_w, i32_w]
        rfl
       exact norm_ zq67 (hCont (v128, .slice Ao17 y130.length co17, gb133) _ ⟨hHeld, zq63, zq11, zq18, zq41, GW133.out, GE133.out, NB124_133.out, NB133_124.out, NB125_133.out, NB133_125.out, zq7⟩)
     ·skip
      refine box_step ?hg (N := 5) ?hd (cs := #[.int .i64 0, .string (⟨#[]⟩ : ByteArray), .slice none 0 0, .bool false]) (t := 25) ?hr ?_; (case hd => rfl); (case hg => rfl); (case hr => first | (go_simp; done) | (go_simp; rfl))
      intro gb133 hg w13 hbox hb
      have n0_ := Aside0.mk (blk_below (g := gb124) (o := .cells #[.int .i64 a0_0, .string a0_1, .slice A0_2 l0_2.length c0_2, .bool true] 25 (0, 0)) zq11 hb)
      have n1_ := Aside0.mk (blk_below (g := gb125) (o := .cells #[.int .i64 0, .string (⟨#[]⟩ : ByteArray), .slice none 0 0, .bool false] 25 (0, 0)) zq18 hb)
      have n2_ := Aside0.mk (below_step zq12 hb)
      have n3_ := Aside0.mk (hbox)
      have n4_ := Aside0.mk ((by rw [hg]; exact (below_size zq12) : w.heap.size ≤ gb133))
      have n5_ := Aside0.mk ((by rw [hg]; exact (below_size zq12) : w.heap.size ≤ gb133))
      have n6_ := Aside0.mk ((by rw [hg]; exact Nat.ne_of_lt (blk_lt (g := gb124) (o := .cells #[.int .i64 a0_0, .string a0_1, .slice A0_2 l0_2.length c0_2, .bool true] 25 (0, 0)) zq11) : gb124 ≠ gb133))
      have n7_ := Aside0.mk ((by rw [hg]; exact Nat.ne_of_gt (blk_lt (g := gb124) (o := .cells #[.int .i64 a0_0, .string a0_1, .slice A0_2 l0_2.length c0_2, .bool true] 25 (0, 0)) zq11) : gb133 ≠ gb124))
      have n8_ := Aside0.mk ((by rw [hg]; exact Nat.ne_of_lt (blk_lt (g := gb125) (o := .cells #[.int .i64 0, .string (⟨#[]⟩ : ByteArray), .slice none 0 0, .bool false] 25 (0, 0)) zq18) : gb125 ≠ gb133))
      have n9_ := Aside0.mk ((by rw [hg]; exact Nat.ne_of_gt (blk_lt (g := gb125) (o := .cells #[.int .i64 0, .string (⟨#[]⟩ : ByteArray), .slice none 0 0, .bool false] 25 (0, 0)) zq18) : gb133 ≠ gb125))
      clear BK124
      clear BK125
      clear HB
      have BK124 := n0_
      have BK125 := n1_
      have HB := n2_
      have BK133 := n3_
      have GW133 := n4_
      have GE133 := n5_
      have NB124_133 := n6_
      have NB133_124 := n7_
      have NB125_133 := n8_
      have NB133_125 := n9_
      clear n0_ n1_ n2_ n3_ n4_ n5_ n6_ n7_ n8_ n9_
      clear hb hbox hg
      refine hK.out _ _ ⟨(blk_cell BK124.out 0).trans rfl, (blk_cell BK124.out 1).trans rfl, (blk_cell BK124.out 2).trans rfl, (blk_cell BK124.out 3).trans rfl⟩ (fun hHeld => ?_)
      clear hK K
      refine norm_ (a' := ?_) ?_ ?_
      rotate_left
      ·show Act.put _ (some 5) _ = _
       simp only [Act.put, List.setIfInBounds_toArray, List.set_cons_zero, List.set_cons_succ, i64_w, i32_w]
       rfl
      refine one_ (i := 2) (N := some 16) #[true, true, true, true, true, false, true, true, false, true, false] rfl rfl (one_of HT_.out zq19) zq60 (fun K hK => ?_)
      refine Kd.R_lit_step Kd.string _ 9 ?hg (N := 16) ?hd (xs := ([] : List ByteArray)) (inner := []) (ok := fun _ => True) (okp := fun _ => True) ?hr ?hp (fun _ hk => hk) trivial (Below.refl _ _) (Nat.le_refl _) zq81 ?_; (case hd => rfl); (case hg => rfl); (case hr => first | (go_simp; done) | (go_simp; rfl)); (case hp => exact (Reps.none _ _))
      intro v128 w14 ho15 hb hg_ hnew_
      clear hg_ hnew_
      (first | rw [← Ny127.out] at ho15 | (simp only [Int.reduceToNat] at ho15; rw [← Ny127.out] at ho15))
      have n0_ := Aside0.mk (Kd.R_lower ho15 (below_size zq7))
      have n1_ := Aside0.mk (blk_below (g := gb124) (o := .cells #[.int .i64 a0_0, .string a0_1, .slice A0_2 l0_2.length c0_2, .bool true] 25 (0, 0)) zq11 hb)
      have n2_ := Aside0.mk (blk_below (g := gb125) (o := .cells #[.int .i64 0, .string (⟨#[]⟩ : ByteArray), .slice none 0 0, .bool false] 25 (0, 0)) zq18 hb)
      have n3_ := Aside0.mk (blk_below (g := gb133) (o := .cells #[.int .i64 0, .string (⟨#[]⟩ : ByteArray), .slice none 0 0, .bool false] 25 (0, 0)) zq41 hb)
      have n4_ := Aside0.mk (below_step zq7 hb)
      clear BK124
      clear BK125
      clear BK133
      clear HB
      have HO129 := n0_
      have BK124 := n1_
      have BK125 := n2_
      have BK133 := n3_
      have HB := n4_
      clear n0_ n1_ n2_ n3_ n4_
      clear hb ho15
      refine hK.out _ _ ⟨(blk_cell BK124.out 0).trans rfl, (blk_cell BK124.out 1).trans rfl, (blk_cell BK124.out 2).trans rfl, (blk_cell BK124.out 3).trans rfl⟩ (fun hHeld => ?_)
      clear hK K
      refine norm_ (a' := ?_) ?_ ?_
      rotate_left
      ·show Act.put _ (some 16) _ = _
       simp only [Act.put, List.setIfInBounds_toArray, List.set_cons_zero, List.set_cons_succ, i64_w, i32_w]
       rfl
      refine one_ (i := 5) (N := some 19) #[true, true, true, true, true, true, true, true, false, true, false] rfl rfl (one_of HT_.out zq19) zq60 (fun K hK => ?_)
      refine Kd.R_append_rows_step Kd.string (w0 := w) w.heap.size zq90 (.tmp 16) (.tmp 18) 23 9 (.string ⟨#[]⟩) 16 rfl Try.underlying23 info9 rfl zq60 zq99 v128 y127 l0_2 _ _ _ (fun _ => True) (fun _ => False) rfl rfl ?aO ?aR (fun _ _ h => h) (fun _ h => h.elim) ?aF ?aB ?aS ?aL ?_
      (case aR => repeat (first | exact (Kd.C_below HR0_2.out HB.out) | (with_reducible refine Kd.C_alloc ?_ _) | (with_reducible refine Kd.C_drewN ?_ _) | (with_reducible refine Kd.C_drew ?_)))
      (case aB => exact zq7)
      (case aF => exact (fun _ _ => trivial))
      (case aO => exact zq64)
      (case aS => exact (below_size zq7))
      (case aL => have := LMc5.out; omega)
      intro v131 w16 ho hb hg hat
      rw [← Ny130.out] at ho
      have n0_ := Aside0.mk (blk_grown (g := gb124) (o := .cells #[.int .i64 a0_0, .string a0_1, .slice A0_2 l0_2.length c0_2, .bool true] 25 (0, 0)) zq11 hg (Kd.R_ne HO129.out BK124.out zq60))
      have n1_ := Aside0.mk (blk_grown (g := gb125) (o := .cells #[.int .i64 0, .string (⟨#[]⟩ : ByteArray), .slice none 0 0, .bool false] 25 (0, 0)) zq18 hg (Kd.R_ne HO129.out BK125.out zq60))
      have n2_ := Aside0.mk (blk_grown (g := gb133) (o := .cells #[.int .i64 0, .string (⟨#[]⟩ : ByteArray), .slice none 0 0, .bool false] 25 (0, 0)) zq41 hg (Kd.R_ne HO129.out BK133.out zq60))
      have n3_ := Aside0.mk (hb)
      have n4_ := Aside0.mk (ho)
      clear BK124
      clear BK125
      clear BK133
      clear HB
      clear HO129
      have BK124 := n0_
      have BK125 := n1_
      have BK133 := n2_
      have HB := n3_
      have HO132 := n4_
      clear n0_ n1_ n2_ n3_ n4_
      clear ho hb hg hat
      obtain ⟨Ao17, co17, eo17⟩ := Kd.R_slice HO132.out
      (first | subst eo17 | (injection eo17 with f1_ f2_ f3_; have f4_ := f1_.symm; have f5_ := f3_.symm; clear f1_ f2_ f3_; subst f4_; subst f5_))
      refine hK.out _ _ ⟨(blk_cell BK124.out 0).trans rfl, (blk_cell BK124.out 1).trans rfl, (blk_cell BK124.out 2).trans rfl, (blk_cell BK124.out 3).trans rfl⟩ (fun hHeld => ?_)
      clear hK K
      refine norm_ (a' := ?_) ?_ ?_
      rotate_left
      ·show Act.put _ (some 19) _ = _
       simp only [Act.put, List.setIfInBounds_toArray, List.set_cons_zero, List.set_cons_succ, i64_w, i32_w]
       rfl
      refine pure_ (i := 8) (N := some 22) (v := ?_) (a' := ?_) #[true, true, true, true, true, true, true, true, true, true, false] rfl rfl (any_of HT_.out zq19) (fun _ _ _ h => h) (Or.inl ⟨zq90, ?_⟩) ?_ ?_
      rotate_left
      ·intro w'
       go_simp
       with_reducible rfl
      rotate_left
      ·simp only [Act.put, List.setIfInBounds_toArray, List.set_cons_zero, List.set_cons_succ, i64_w, i32_w]
       rfl
      exact norm_ zq67 (hCont (v128, .slice Ao17 y130.length co17, gb133) _ ⟨hHeld, zq63, zq11, zq18, zq41, GW133.out, GE133.out, NB124_133.out, NB133_124.out, NB125_133.out, NB133_125.out, zq7⟩)
    rintro ⟨v128, v131, gb133⟩ w18 ⟨hS_, h0_, h1_, h2_, h3_, h4_, h5_, h6_, h7_, h8_, h9_, h10_⟩
    have n0_ : Aside0 (Kd.R Kd.string 9 w18 w.heap.size (fun _ => True) v131 y130) := ⟨h0_⟩
    have n1_ : Aside0 (w18.heap[gb124]? = some (.cells #[.int .i64 a0_0, .string a0_1, .slice A0_2 l0_2.length c0_2, .bool true] 25 (0, 0))) := ⟨h1_⟩
    have n2_ : Aside0 (w18.heap[gb125]? = some (.cells #[.int .i64 0, .string (⟨#[]⟩ : ByteArray), .slice none 0 0, .bool false] 25 (0, 0))) := ⟨h2_⟩
    have n3_ : Aside0 (w18.heap[gb133]? = some (.cells #[.int .i64 0, .string (⟨#[]⟩ : ByteArray), .slice none 0 0, .bool false] 25 (0, 0))) := ⟨h3_⟩
    have n4_ : Aside0 (w.heap.size ≤ gb133) := ⟨h4_⟩
    have n5_ : Aside0 (w.heap.size ≤ gb133) := ⟨h5_⟩
    have n6_ : Aside0 (gb124 ≠ gb133) := ⟨h6_⟩
    have n7_ : Aside0 (gb133 ≠ gb124) := ⟨h7_⟩
    have n8_ : Aside0 (gb125 ≠ gb133) := ⟨h8_⟩
    have n9_ : Aside0 (gb133 ≠ gb125) := ⟨h9_⟩
    have n10_ : Aside0 (Below w.heap.size w w18) := ⟨h10_⟩
    clear BK124
    clear BK125
    clear HB
    clear h0_ h1_ h2_ h3_ h4_ h5_ h6_ h7_ h8_ h9_ h10_
    have HO132 := n0_
    have BK124 := n1_
    have BK125 := n2_
    have BK133 := n3_
    have GW133 := n4_
    have GE133 := n5_
    have NB124_133 := n6_
    have NB133_124 := n7_
    have NB125_133 := n8_
    have NB133_125 := n9_
    have HB := n10_
    clear n0_ n1_ n2_ n3_ n4_ n5_ n6_ n7_ n8_ n9_ n10_
    have hHeld : w18.cell? ⟨gb124, 0, none⟩ = some (.int .i64 a0_0) ∧ w18.cell? ⟨gb124, 1, none⟩ = some (.string a0_1) ∧ w18.cell? ⟨gb124, 2, none⟩ = some (.slice A0_2 l0_2.length c0_2) ∧ w18.cell? ⟨gb124, 3, none⟩ = some (.bool true) := hS_
    obtain ⟨Ao19, co19, eo19⟩ := Kd.R_slice HO132.out
    (first | subst eo19 | (injection eo19 with f1_ f2_ f3_; have f4_ := f1_.symm; have f5_ := f3_.symm; clear f1_ f2_ f3_; subst f4_; subst f5_))
    refine norm_ (a' := ?_) ?_ ?_
    rotate_left
    ·simp only [putAll, Act.put, List.setIfInBounds_toArray, List.set_cons_zero, List.set_cons_succ]
     rfl
    refine one_ (i := 10) (N := none) #[true, true, true, true, true, true, true, true, true, true, true] rfl rfl (one_of HT_.out zq19) zq60 (fun K hK => ?_)
    have hs20 : w18.cell? ⟨gb133, 0, none⟩ = some (.int .i64 0) := (blk_cell BK133.out 0).trans rfl
    have hfs20 := blk_frozen BK133.out 0
    have hns20_0 := NB124_133.out
    have hns20_1 := NB125_133.out
    have hms20_0 := NB133_124.out
    have hms20_1 := NB133_125.out
    have hs21 : w18.cell? ⟨gb133, 1, none⟩ = some (.string (⟨#[]⟩ : ByteArray)) := (blk_cell BK133.out 1).trans rfl
    have hfs21 := blk_frozen BK133.out 1
    have hns21_0 := NB124_133.out
    have hns21_1 := NB125_133.out
    have hms21_0 := NB133_124.out
    have hms21_1 := NB133_125.out
    have hs22 : w18.cell? ⟨gb133, 2, none⟩ = some (.slice none 0 0) := (blk_cell BK133.out 2).trans rfl
    have hfs22 := blk_frozen BK133.out 2
    have hns22_0 := NB124_133.out
    have hns22_1 := NB125_133.out
    have hms22_0 := NB133_124.out
    have hms22_1 := NB133_125.out
    have hs23 : w18.cell? ⟨gb133, 3, none⟩ = some (.bool false) := (blk_cell BK133.out 3).trans rfl
    have hfs23 := blk_frozen BK133.out 3
    have hns23_0 := NB124_133.out
    have hns23_1 := NB125_133.out
    have hms23_0 := NB133_124.out
    have hms23_1 := NB133_125.out
    refine skip_ (w1 := ?_) zq90 rfl ?_ ?_
    rotate_left
    ·go_simp
     rfl
    refine hK.out _ _ ⟨((cell_far (p := ⟨gb133, _, none⟩) NB124_133.out _).trans (((cell_far (p := ⟨gb133, _, none⟩) NB124_133.out _).trans (((cell_far (p := ⟨gb133, _, none⟩) NB124_133.out _).trans (((cell_far (p := ⟨gb133, _, none⟩) NB124_133.out _).trans (hHeld.1)))))))), ((cell_far (p := ⟨gb133, _, none⟩) NB124_133.out _).trans (((cell_far (p := ⟨gb133, _, none⟩) NB124_133.out _).trans (((cell_far (p := ⟨gb133, _, none⟩) NB124_133.out _).trans (((cell_far (p := ⟨gb133, _, none⟩) NB124_133.out _).trans (hHeld.2.1)))))))), ((cell_far (p := ⟨gb133, _, none⟩) NB124_133.out _).trans (((cell_far (p := ⟨gb133, _, none⟩) NB124_133.out _).trans (((cell_far (p := ⟨gb133, _, none⟩) NB124_133.out _).trans (((cell_far (p := ⟨gb133, _, none⟩) NB124_133.out _).trans (hHeld.2.2.1)))))))), ((cell_far (p := ⟨gb133, _, none⟩) NB124_133.out _).trans (((cell_far (p := ⟨gb133, _, none⟩) NB124_133.out _).trans (((cell_far (p := ⟨gb133, _, none⟩) NB124_133.out _).trans (((cell_far (p := ⟨gb133, _, none⟩) NB124_133.out _).trans (hHeld.2.2.2))))))))⟩ (fun hHeld => ?_)
    clear hK K
    refine done_ (done_of HT_.out zq19) ?_
    have hnb24 := NB124_133.out
    have hnc24 := NB133_124.out
    have hcz25_0 : w18.cell? ⟨gb124, 0, none⟩ = some (.int .i64 a0_0) := (blk_cell BK124.out 0).trans rfl
    have hcz25_1 : w18.cell? ⟨gb124, 1, none⟩ = some (.string a0_1) := (blk_cell BK124.out 1).trans rfl
    have hcz25_2 : w18.cell? ⟨gb124, 2, none⟩ = some (.slice A0_2 l0_2.length c0_2) := (blk_cell BK124.out 2).trans rfl
    have hcz25_3 : w18.cell? ⟨gb124, 3, none⟩ = some (.bool true) := (blk_cell BK124.out 3).trans rfl
    have hfz25_0 := blk_frozen BK124.out 0
    have hfz25_1 := blk_frozen BK124.out 1
    have hfz25_2 := blk_frozen BK124.out 2
    have hfz25_3 := blk_frozen BK124.out 3
    have hnb26 := NB133_125.out
    have hnc26 := NB125_133.out
    have hcz27_0 : w18.cell? ⟨gb133, 0, none⟩ = some (.int .i64 0) := (blk_cell BK133.out 0).trans rfl
    have hcz27_1 : w18.cell? ⟨gb133, 1, none⟩ = some (.string (⟨#[]⟩ : ByteArray)) := (blk_cell BK133.out 1).trans rfl
    have hcz27_2 : w18.cell? ⟨gb133, 2, none⟩ = some (.slice none 0 0) := (blk_cell BK133.out 2).trans rfl
    have hcz27_3 : w18.cell? ⟨gb133, 3, none⟩ = some (.bool false) := (blk_cell BK133.out 3).trans rfl
    have hfz27_0 := blk_frozen BK133.out 0
    have hfz27_1 := blk_frozen BK133.out 1
    have hfz27_2 := blk_frozen BK133.out 2
    have hfz27_3 := blk_frozen BK133.out 3
    have hcz28_0 : w18.cell? ⟨gb125, 0, none⟩ = some (.int .i64 0) := (blk_cell BK125.out 0).trans rfl
    have hcz28_1 : w18.cell? ⟨gb125, 1, none⟩ = some (.string (⟨#[]⟩ : ByteArray)) := (blk_cell BK125.out 1).trans rfl
    have hcz28_2 : w18.cell? ⟨gb125, 2, none⟩ = some (.slice none 0 0) := (blk_cell BK125.out 2).trans rfl
    have hcz28_3 : w18.cell? ⟨gb125, 3, none⟩ = some (.bool false) := (blk_cell BK125.out 3).trans rfl
    have hfz28_0 := blk_frozen BK125.out 0
    have hfz28_1 := blk_frozen BK125.out 1
    have hfz28_2 := blk_frozen BK125.out 2
    have hfz28_3 := blk_frozen BK125.out 3
    try go_wp2
    refine bodyPost_ret (results_cell_row rfl _ _ gb125 25 #[.int .i64 a0_0, .string (⟨#[]⟩ : ByteArray), .slice Ao19 y130.length co19, .bool true] (0, 0) _ rfl (by (with_reducible repeat (first | refine blk_drewN ?_ _ | refine blk_drew ?_ | refine blk_alloc ?_ _)); refine blk_put (cs := #[.int .i64 a0_0, .string (⟨#[]⟩ : ByteArray), .slice Ao19 y130.length co19, .bool false]) ?_ 3 _ rfl; (with_reducible repeat (first | refine blk_drewN ?_ _ | refine blk_drew ?_ | refine blk_alloc ?_ _)); refine blk_put (cs := #[.int .i64 a0_0, .string (⟨#[]⟩ : ByteArray), .slice none 0 0, .bool false]) ?_ 2 _ rfl; (with_reducible repeat (first | refine blk_drewN ?_ _ | refine blk_drew ?_ | refine blk_alloc ?_ _)); refine blk_put (cs := #[.int .i64 a0_0, .string (⟨#[]⟩ : ByteArray), .slice none 0 0, .bool false]) ?_ 1 _ rfl; (with_reducible repeat (first | refine blk_drewN ?_ _ | refine blk_drew ?_ | refine blk_alloc ?_ _)); refine blk_put (cs := #[.int .i64 0, .string (⟨#[]⟩ : ByteArray), .slice none 0 0, .bool false]) ?_ 0 _ rfl; (with_reducible repeat (first | refine blk_drewN ?_ _ | refine blk_drew ?_ | refine blk_alloc ?_ _)); refine blk_far ?_ NB125_133.out _; (with_reducible repeat (first | refine blk_drewN ?_ _ | refine blk_drew ?_ | refine blk_alloc ?_ _)); refine blk_far ?_ NB125_133.out _; (with_reducible repeat (first | refine blk_drewN ?_ _ | refine blk_drew ?_ | refine blk_alloc ?_ _)); refine blk_far ?_ NB125_133.out _; (with_reducible repeat (first | refine blk_drewN ?_ _ | refine blk_drew ?_ | refine blk_alloc ?_ _)); refine blk_far ?_ NB125_133.out _; (with_reducible repeat (first | refine blk_drewN ?_ _ | refine blk_drew ?_ | refine blk_alloc ?_ _)); exact BK125.out) Try.underlying25 rfl zq19) rfl ?_
    exact ⟨_, zq8, by (with_reducible repeat (first | apply Kd.R_alloc | apply Kd.R_drewN | apply Kd.R_drew)); exact Kd.R_mono (Kd.R_far (p := ⟨gb125, 3, none⟩) (Kd.R_far (p := ⟨gb125, 2, none⟩) (Kd.R_far (p := ⟨gb125, 1, none⟩) (Kd.R_far (p := ⟨gb125, 0, none⟩) (Kd.R_far (p := ⟨gb133, 3, none⟩) (Kd.R_far (p := ⟨gb133, 2, none⟩) (Kd.R_far (p := ⟨gb133, 1, none⟩) (Kd.R_far (p := ⟨gb133, 0, none⟩) (Kd.R_types (Kd.R_types HO132.out BK133.out zq60) BK125.out zq60) (fun _ hk => hk.1.2) (.int .i64 a0_0)) (fun _ hk => hk.1.2) (.string (⟨#[]⟩ : ByteArray))) (fun _ hk => hk.1.2) (.slice Ao19 y130.length co19)) (fun _ hk => hk.1.2) (.bool true)) (fun _ hk => hk.2) (.int .i64 a0_0)) (fun _ hk => hk.2) (.string (⟨#[]⟩ : ByteArray))) (fun _ hk => hk.2) (.slice Ao19 y130.length co19)) (fun _ hk => hk.2) (.bool true)) (fun _ hk => trivial), zq7⟩
   ·replace c6 := Bool.eq_false_iff.mpr c6
    subst c6
    rw [if_neg (show ¬ (false = true) by decide)] at H
    by_cases c29 : a0_1.size + a1.size ≤ 9223372036854775807
    ·rw [if_pos c29] at H
     have c29b0 := eq_true c29
     have c29b1 : decide (a0_1.size + a1.size ≤ 9223372036854775807) = true := decide_eq_true c29
     try have c29b2 : (9223372036854775807 < a0_1.size + a1.size) = False := eq_false (Nat.not_lt.2 c29)
     have H' := Aside0.mk H
     clear H
     go_enter Try.func9, Try.ntmps9
     try go_wp2_with (first | ((with_reducible refine gate_dst (N := 2) rfl ?_); (try (refine gate_guard zq90 ?_; dsimp only)); refine box_event ?hg (N := 2) ?hd (cs := #[.int .i64 a0_0, .string a0_1, .slice A0_2 l0_2.length c0_2, .bool false]) (t := 25) ?hr ?_; (case hd => rfl); (case hg => rfl); (case hr => first | (go_simp; done) | (go_simp; rfl)); intro gb124 hg w30 hbox hb; have n0_ := Aside0.mk (below_step zq1 hb); have n1_ := Aside0.mk (hbox); have n2_ := Aside0.mk ((by rw [hg]; exact (below_size zq1) : w.heap.size ≤ gb124)); have n3_ := Aside0.mk ((by rw [hg]; exact (below_size zq1) : w.heap.size ≤ gb124)); clear HB; have HB := n0_; have BK124 := n1_; have GW124 := n2_; have GE124 := n3_; clear n0_ n1_ n2_ n3_; clear hb hbox hg) | ((with_reducible refine gate_dst (N := 4) rfl ?_); (try (refine gate_guard zq90 ?_; dsimp only)); refine box_event ?hg (N := 4) ?hd (cs := #[.int .i64 0, .string (⟨#[]⟩ : ByteArray), .slice none 0 0, .bool false]) (t := 25) ?hr ?_; (case hd => rfl); (case hg => rfl); (case hr => first | (go_simp; done) | (go_simp; rfl)); intro gb125 hg w31 hbox hb; have n0_ := Aside0.mk (blk_below (g := gb124) (o := .cells #[.int .i64 a0_0, .string a0_1, .slice A0_2 l0_2.length c0_2, .bool false] 25 (0, 0)) zq11 hb); have n1_ := Aside0.mk (below_step zq54 hb); have n2_ := Aside0.mk (hbox); have n3_ := Aside0.mk ((by rw [hg]; exact (below_size zq54) : w.heap.size ≤ gb125)); have n4_ := Aside0.mk ((by rw [hg]; exact (below_size zq54) : w.heap.size ≤ gb125)); have n5_ := Aside0.mk ((by rw [hg]; exact Nat.ne_of_lt (blk_lt (g := gb124) (o := .cells #[.int .i64 a0_0, .string a0_1, .slice A0_2 l0_2.length c0_2, .bool false] 25 (0, 0)) zq11) : gb124 ≠ gb125)); have n6_ := Aside0.mk ((by rw [hg]; exact Nat.ne_of_gt (blk_lt (g := gb124) (o := .cells #[.int .i64 a0_0, .string a0_1, .slice A0_2 l0_2.length c0_2, .bool false] 25 (0, 0)) zq11) : gb125 ≠ gb124)); clear BK124; clear HB; have BK124 := n0_; have HB := n1_; have BK125 := n2_; have GW125 := n3_; have GE125 := n4_; have NB124_125 := n5_; have NB125_124 := n6_; clear n0_ n1_ n2_ n3_ n4_ n5_ n6_; clear hb hbox hg; have hnb32 := NB124_125.out; have hnc32 := NB125_124.out; have hcz33_0 : w31.cell? ⟨gb124, 0, none⟩ = some (.int .i64 a0_0) := (blk_cell BK124.out 0).trans rfl; have hcz33_1 : w31.cell? ⟨gb124, 1, none⟩ = some (.string a0_1) := (blk_cell BK124.out 1).trans rfl; have hcz33_2 : w31.cell? ⟨gb124, 2, none⟩ = some (.slice A0_2 l0_2.length c0_2) := (blk_cell BK124.out 2).trans rfl; have hcz33_3 : w31.cell? ⟨gb124, 3, none⟩ = some (.bool false) := (blk_cell BK124.out 3).trans rfl; have hfz33_0 := blk_frozen BK124.out 0; have hfz33_1 := blk_frozen BK124.out 1; have hfz33_2 := blk_frozen BK124.out 2; have hfz33_3 := blk_frozen BK124.out 3) | ((with_reducible refine gate_callee (f := 10) rfl ?_); refine goesL_ (some 11) rfl rfl Try.func10 zq19 rfl #[.agg #[.int .i64 a0_0, .string a0_1, .slice A0_2 l0_2.length c0_2, .bool false]] rfl zq0 ?_; (with_reducible refine (spec_ValidDecoder.calls k a0_0 a0_1 _ _ l0_2 false true _ ?side1 ?side2 A3.out).mono ?_); (case side1 => repeat (first | exact (Kd.C_below HR0_2.out HB.out) | (with_reducible refine Kd.C_alloc ?_ _) | (with_reducible refine Kd.C_drewN ?_ _) | (with_reducible refine Kd.C_drew ?_))); (case side2 => exact HC0_2.out); rintro e w34 ⟨rfl, hb⟩; refine ⟨_, rfl, ?_⟩; have n0_ := Aside0.mk (blk_below (g := gb124) (o := .cells #[.int .i64 a0_0, .string a0_1, .slice A0_2 l0_2.length c0_2, .bool false] 25 (0, 0)) zq11 hb); have n1_ := Aside0.mk (blk_below (g := gb125) (o := .cells #[.int .i64 0, .string (⟨#[]⟩ : ByteArray), .slice none 0 0, .bool false] 25 (0, 0)) zq18 hb); have n2_ := Aside0.mk (below_step zq12 hb); clear BK124; clear BK125; clear HB; have BK124 := n0_; have BK125 := n1_; have HB := n2_; clear n0_ n1_ n2_; (try clear hb); (try clear hb2); (try clear hk); (try clear hi)))
     have n0_ := Aside0.mk (blk_drew BK124.out)
     have n1_ := Aside0.mk (blk_drew BK125.out)
     have n2_ := Aside0.mk (below_drew1 HB.out)
     clear BK124
     clear BK125
     clear HB
     have BK124 := n0_
     have BK125 := n1_
     have HB := n2_
     clear n0_ n1_ n2_
     refine start_ (n := 11) (S := fun w' => w'.cell? ⟨gb124, 0, none⟩ = some (.int .i64 a0_0) ∧ w'.cell? ⟨gb124, 1, none⟩ = some (.string a0_1) ∧ w'.cell? ⟨gb124, 2, none⟩ = some (.slice A0_2 l0_2.length c0_2) ∧ w'.cell? ⟨gb124, 3, none⟩ = some (.bool false)) (ds := []) #[false, false, false, false, false, false, false, false, false, false, false] zq19 rfl rfl ⟨(blk_cell BK124.out 0).trans rfl, (blk_cell BK124.out 1).trans rfl, (blk_cell BK124.out 2).trans rfl, (blk_cell BK124.out 3).trans rfl⟩ (fun hHeld => ?_); refine with_tabW spec_Feed.tab3 spec_Feed.bits3 (fun HT_ HW_ => ?_)
     generalize w34.drew = w35 at BK124 BK125 HB hHeld ⊢
     refine pure_ (i := 0) (N := some 14) (v := ?_) (a' := ?_) #[true, false, false, false, false, false, false, false, false, false, false] rfl rfl (any_of HT_.out zq19) (fun _ _ _ h => h) (Or.inl ⟨zq90, ?_⟩) ?_ ?_
     rotate_left
     ·intro w'
      go_simp
      with_reducible rfl
     rotate_left
     ·simp only [Act.put, List.setIfInBounds_toArray, List.set_cons_zero, List.set_cons_succ, i64_w, i32_w]
      rfl
     refine pure_ (i := 3) (N := some 17) (v := ?_) (a' := ?_) #[true, false, false, true, false, false, false, false, false, false, false] rfl rfl (any_of HT_.out zq19) (fun _ _ _ h => h) (Or.inl ⟨zq90, ?_⟩) ?_ ?_
     rotate_left
     ·intro w'
      go_simp
      with_reducible rfl
     rotate_left
     ·simp only [Act.put, List.setIfInBounds_toArray, List.set_cons_zero, List.set_cons_succ, i64_w, i32_w]
      rfl
     refine pure_ (i := 6) (N := some 20) (v := ?_) (a' := ?_) #[true, false, false, true, false, false, true, false, false, false, false] rfl rfl (any_of HT_.out zq19) (fun _ _ _ h => h) (Or.inl ⟨zq90, ?_⟩) ?_ ?_
     rotate_left
     ·intro w'
      go_simp
      with_reducible rfl
     rotate_left
     ·simp only [Act.put, List.setIfInBounds_toArray, List.set_cons_zero, List.set_cons_succ, i64_w, i32_w]
      rfl
     refine take_ (i := 1) (N := some 15) (v := ?_) (a' := ?_) #[true, true, false, true, false, false, true, false, false, false, false] rfl rfl (take_ofW HT_.out HW_.out zq19) (fun _ _ _ h => h) (Or.inl ⟨zq90, ?_⟩) hHeld ?_ ?_
     rotate_left
     ·rintro w' ⟨s0, s1, s2, s3⟩
      go_simp
      with_reducible rfl
     rotate_left
     ·simp only [Act.put, List.setIfInBounds_toArray, List.set_cons_zero, List.set_cons_succ, i64_w, i32_w]
      rfl
     refine take_ (i := 4) (N := some 18) (v := ?_) (a' := ?_) #[true, true, false, true, true, false, true, false, false, false, false] rfl rfl (take_ofW HT_.out HW_.out zq19) (fun _ _ _ h => h) (Or.inl ⟨zq90, ?_⟩) hHeld ?_ ?_
     rotate_left
     ·rintro w' ⟨s0, s1, s2, s3⟩
      go_simp
      with_reducible rfl
     rotate_left
     ·simp only [Act.put, List.setIfInBounds_toArray, List.set_cons_zero, List.set_cons_succ, i64_w, i32_w]
      rfl
     refine take_ (i := 7) (N := some 21) (v := ?_) (a' := ?_) #[true, true, false, true, true, false, true, true, false, false, false] rfl rfl (take_ofW HT_.out HW_.out zq19) (fun _ _ _ h => h) (Or.inl ⟨zq90, ?_⟩) hHeld ?_ ?_
     rotate_left
     ·rintro w' ⟨s0, s1, s2, s3⟩
      go_simp
      with_reducible rfl
     rotate_left
     ·simp only [Act.put, List.setIfInBounds_toArray, List.set_cons_zero, List.set_cons_succ, i64_w, i32_w]
      rfl
     refine join_ (σ := Value × Value × Nat) 1 #[true, true, true, true, true, true, true, true, true, true, false] (fun s_ => [(16, s_.1), (19, s_.2.1), (5, .pointer (some ⟨s_.2.2, 0, none⟩)), (22, .agg #[.int .i64 a0_0, .string (⟨#[]⟩ : ByteArray), s_.2.1, .bool false])]) (fun s_ w' => (w'.cell? ⟨gb124, 0, none⟩ = some (.int .i64 a0_0) ∧ w'.cell? ⟨gb124, 1, none⟩ = some (.string a0_1) ∧ w'.cell? ⟨gb124, 2, none⟩ = some (.slice A0_2 l0_2.length c0_2) ∧ w'.cell? ⟨gb124, 3, none⟩ = some (.bool false)) ∧ (Kd.R Kd.string 9 w' w.heap.size (fun _ => True) s_.2.1 y130) ∧ (w'.heap[gb124]? = some (.cells #[.int .i64 a0_0, .string a0_1, .slice A0_2 l0_2.length c0_2, .bool false] 25 (0, 0))) ∧ (w'.heap[gb125]? = some (.cells #[.int .i64 0, .string (⟨#[]⟩ : ByteArray), .slice none 0 0, .bool false] 25 (0, 0))) ∧ (w'.heap[s_.2.2]? = some (.cells #[.int .i64 0, .string (⟨#[]⟩ : ByteArray), .slice none 0 0, .bool false] 25 (0, 0))) ∧ (w.heap.size ≤ s_.2.2) ∧ (w.heap.size ≤ s_.2.2) ∧ (gb124 ≠ s_.2.2) ∧ (s_.2.2 ≠ gb124) ∧ (gb125 ≠ s_.2.2) ∧ (s_.2.2 ≠ gb125) ∧ (Below w.heap.size w w')) ?_ ?_
     rotate_left
     ·intro hCont
      refine two_ (i := 2) (j := 9) (Ni := some 16) (Nj := some 5) #[true, true, true, true, true, false, true, true, false, false, false] #[true, true, false, true, true, false, true, true, false, true, false] rfl rfl rfl rfl (two_of HT_.out zq19) zq60 zq60 (fun K hK => ?_) (fun K hK => ?_)
      ·skip
       refine Kd.R_lit_step Kd.string _ 9 ?hg (N := 16) ?hd (xs := ([] : List ByteArray)) (inner := []) (ok := fun _ => True) (okp := fun _ => True) ?hr ?hp (fun _ hk => hk) trivial (Below.refl _ _) (Nat.le_refl _) zq81 ?_; (case hd => rfl); (case hg => rfl); (case hr => first | (go_simp; done) | (go_simp; rfl)); (case hp => exact (Reps.none _ _))
       intro v128 w36 ho37 hb hg_ hnew_
       clear hg_ hnew_
       (first | rw [← Ny127.out] at ho37 | (simp only [Int.reduceToNat] at ho37; rw [← Ny127.out] at ho37))
       have n0_ := Aside0.mk (Kd.R_lower ho37 (below_size zq12))
       have n1_ := Aside0.mk (blk_below (g := gb124) (o := .cells #[.int .i64 a0_0, .string a0_1, .slice A0_2 l0_2.length c0_2, .bool false] 25 (0, 0)) zq11 hb)
       have n2_ := Aside0.mk (blk_below (g := gb125) (o := .cells #[.int .i64 0, .string (⟨#[]⟩ : ByteArray), .slice none 0 0, .bool false] 25 (0, 0)) zq18 hb)
       have n3_ := Aside0.mk (below_step zq12 hb)
       clear BK124
       clear BK125
       clear HB
       have HO129 := n0_
       have BK124 := n1_
       have BK125 := n2_
       have HB := n3_
       clear n0_ n1_ n2_ n3_
       clear hb ho37
       refine hK.out _ _ ⟨(blk_cell BK124.out 0).trans rfl, (blk_cell BK124.out 1).trans rfl, (blk_cell BK124.out 2).trans rfl, (blk_cell BK124.out 3).trans rfl⟩ (fun hHeld => ?_)
       clear hK K
       refine norm_ (a' := ?_) ?_ ?_
       rotate_left
       ·show Act.put _ (some 16) _ = _
        simp only [Act.put, List.setIfInBounds_toArray, List.set_cons_zero, List.set_cons_succ, i64_w, i32_w]
        rfl
       refine two_ (i := 5) (j := 9) (Ni := some 19) (Nj := some 5) #[true, true, true, true, true, true, true, true, false, false, false] #[true, true, true, true, true, false, true, true, false, true, false] rfl rfl rfl rfl (two_of HT_.out zq19) zq60 zq60 (fun K hK => ?_) (fun K hK => ?_)
       ·skip
        refine Kd.R_append_rows_step Kd.string (w0 := w) w.heap.size zq90 (.tmp 16) (.tmp 18) 23 9 (.string ⟨#[]⟩) 16 rfl Try.underlying23 info9 rfl zq60 zq99 v128 y127 l0_2 _ _ _ (fun _ => True) (fun _ => False) rfl rfl ?aO ?aR (fun _ _ h => h) (fun _ h => h.elim) ?aF ?aB ?aS ?aL ?_
        (case aR => repeat (first | exact (Kd.C_below HR0_2.out HB.out) | (with_reducible refine Kd.C_alloc ?_ _) | (with_reducible refine Kd.C_drewN ?_ _) | (with_reducible refine Kd.C_drew ?_)))
        (case aB => exact zq12)
        (case aF => exact (fun _ _ => trivial))
        (case aO => exact zq64)
        (case aS => exact (below_size zq12))
        (case aL => have := LMc5.out; omega)
        intro v131 w38 ho hb hg hat
        rw [← Ny130.out] at ho
        have n0_ := Aside0.mk (blk_grown (g := gb124) (o := .cells #[.int .i64 a0_0, .string a0_1, .slice A0_2 l0_2.length c0_2, .bool false] 25 (0, 0)) zq11 hg (Kd.R_ne HO129.out BK124.out zq60))
        have n1_ := Aside0.mk (blk_grown (g := gb125) (o := .cells #[.int .i64 0, .string (⟨#[]⟩ : ByteArray), .slice none 0 0, .bool false] 25 (0, 0)) zq18 hg (Kd.R_ne HO129.out BK125.out zq60))
        have n2_ := Aside0.mk (hb)
        have n3_ := Aside0.mk (ho)
        clear BK124
        clear BK125
        clear HB
        clear HO129
        have BK124 := n0_
        have BK125 := n1_
        have HB := n2_
        have HO132 := n3_
        clear n0_ n1_ n2_ n3_
        clear ho hb hg hat
        obtain ⟨Ao39, co39, eo39⟩ := Kd.R_slice HO132.out
        (first | subst eo39 | (injection eo39 with f1_ f2_ f3_; have f4_ := f1_.symm; have f5_ := f3_.symm; clear f1_ f2_ f3_; subst f4_; subst f5_))
        refine hK.out _ _ ⟨(blk_cell BK124.out 0).trans rfl, (blk_cell BK124.out 1).trans rfl, (blk_cell BK124.out 2).trans rfl, (blk_cell BK124.out 3).trans rfl⟩ (fun hHeld => ?_)
        clear hK K
        refine norm_ (a' := ?_) ?_ ?_
        rotate_left
        ·show Act.put _ (some 19) _ = _
         simp only [Act.put, List.setIfInBounds_toArray, List.set_cons_zero, List.set_cons_succ, i64_w, i32_w]
         rfl
        refine pure_ (i := 8) (N := some 22) (v := ?_) (a' := ?_) #[true, true, true, true, true, true, true, true, true, false, false] rfl rfl (any_of HT_.out zq19) (fun _ _ _ h => h) (Or.inl ⟨zq90, ?_⟩) ?_ ?_
        rotate_left
        ·intro w'
         go_simp
         with_reducible rfl
        rotate_left
        ·simp only [Act.put, List.setIfInBounds_toArray, List.set_cons_zero, List.set_cons_succ, i64_w, i32_w]
         rfl
        refine one_ (i := 9) (N := some 5) #[true, true, true, true, true, true, true, true, true, true, false] rfl rfl (one_of HT_.out zq19) zq60 (fun K hK => ?_)
        refine box_step ?hg (N := 5) ?hd (cs := #[.int .i64 0, .string (⟨#[]⟩ : ByteArray), .slice none 0 0, .bool false]) (t := 25) ?hr ?_; (case hd => rfl); (case hg => rfl); (case hr => first | (go_simp; done) | (go_simp; rfl))
        intro gb133 hg w40 hbox hb
        have n0_ := Aside0.mk (Kd.R_below zq63 hb)
        have n1_ := Aside0.mk (blk_below (g := gb124) (o := .cells #[.int .i64 a0_0, .string a0_1, .slice A0_2 l0_2.length c0_2, .bool false] 25 (0, 0)) zq11 hb)
        have n2_ := Aside0.mk (blk_below (g := gb125) (o := .cells #[.int .i64 0, .string (⟨#[]⟩ : ByteArray), .slice none 0 0, .bool false] 25 (0, 0)) zq18 hb)
        have n3_ := Aside0.mk (below_step zq12 hb)
        have n4_ := Aside0.mk (hbox)
        have n5_ := Aside0.mk ((by rw [hg]; exact (below_size zq12) : w.heap.size ≤ gb133))
        have n6_ := Aside0.mk ((by rw [hg]; exact (below_size zq12) : w.heap.size ≤ gb133))
        have n7_ := Aside0.mk ((by rw [hg]; exact Nat.ne_of_lt (blk_lt (g := gb124) (o := .cells #[.int .i64 a0_0, .string a0_1, .slice A0_2 l0_2.length c0_2, .bool false] 25 (0, 0)) zq11) : gb124 ≠ gb133))
        have n8_ := Aside0.mk ((by rw [hg]; exact Nat.ne_of_gt (blk_lt (g := gb124) (o := .cells #[.int .i64 a0_0, .string a0_1, .slice A0_2 l0_2.length c0_2, .bool false] 25 (0, 0)) zq11) : gb133 ≠ gb124))
        have n9_ := Aside0.mk ((by rw [hg]; exact Nat.ne_of_lt (blk_lt (g := gb125) (o := .cells #[.int .i64 0, .string (⟨#[]⟩ : ByteArray), .slice none 0 0, .bool false] 25 (0, 0)) zq18) : gb125 ≠ gb133))
        have n10_ := Aside0.mk ((by rw [hg]; exact Nat.ne_of_gt (blk_lt (g := gb125) (o := .cells #[.int .i64 0, .string (⟨#[]⟩ : ByteArray), .slice none 0 0, .bool false] 25 (0, 0)) zq18) : gb133 ≠ gb125))
        clear HO132
        clear BK124
        clear BK125
        clear HB
        have HO132 := n0_
        have BK124 := n1_
        have BK125 := n2_
        have HB := n3_
        have BK133 := n4_
        have GW133 := n5_
        have GE133 := n6_
        have NB124_133 := n7_
        have NB133_124 := n8_
        have NB125_133 := n9_
        have NB133_125 := n10_
        clear n0_ n1_ n2_ n3_ n4_ n5_ n6_ n7_ n8_ n9_ n10_
        clear hb hbox hg
        refine hK.out _ _ ⟨(blk_cell BK124.out 0).trans rfl, (blk_cell BK124.out 1).trans rfl, (blk_cell BK124.out 2).trans rfl, (blk_cell BK124.out 3).trans rfl⟩ (fun hHeld => ?_)
        clear hK K
        refine norm_ (a' := ?_) ?_ ?_
        rotate_left
        ·show Act.put _ (some 5) _ = _
         simp only [Act.put, List.setIfInBounds_toArray, List.set_cons_zero, List.set_cons_succ, i64_w, i32_w]
         rfl
        exact norm_ zq67 (hCont (v128, .slice Ao39 y130.length co39, gb133) _ ⟨hHeld, zq63, zq11, zq18, zq41, GW133.out, GE133.out, NB124_133.out, NB133_124.out, NB125_133.out, NB133_125.out, zq7⟩)
       ·skip
        refine box_step ?hg (N := 5) ?hd (cs := #[.int .i64 0, .string (⟨#[]⟩ : ByteArray), .slice none 0 0, .bool false]) (t := 25) ?hr ?_; (case hd => rfl); (case hg => rfl); (case hr => first | (go_simp; done) | (go_simp; rfl))
        intro gb133 hg w38 hbox hb
        have n0_ := Aside0.mk (Kd.R_below zq64 hb)
        have n1_ := Aside0.mk (blk_below (g := gb124) (o := .cells #[.int .i64 a0_0, .string a0_1, .slice A0_2 l0_2.length c0_2, .bool false] 25 (0, 0)) zq11 hb)
        have n2_ := Aside0.mk (blk_below (g := gb125) (o := .cells #[.int .i64 0, .string (⟨#[]⟩ : ByteArray), .slice none 0 0, .bool false] 25 (0, 0)) zq18 hb)
        have n3_ := Aside0.mk (below_step zq12 hb)
        have n4_ := Aside0.mk (hbox)
        have n5_ := Aside0.mk ((by rw [hg]; exact (below_size zq12) : w.heap.size ≤ gb133))
        have n6_ := Aside0.mk ((by rw [hg]; exact (below_size zq12) : w.heap.size ≤ gb133))
        have n7_ := Aside0.mk ((by rw [hg]; exact Nat.ne_of_lt (blk_lt (g := gb124) (o := .cells #[.int .i64 a0_0, .string a0_1, .slice A0_2 l0_2.length c0_2, .bool false] 25 (0, 0)) zq11) : gb124 ≠ gb133))
        have n8_ := Aside0.mk ((by rw [hg]; exact Nat.ne_of_gt (blk_lt (g := gb124) (o := .cells #[.int .i64 a0_0, .string a0_1, .slice A0_2 l0_2.length c0_2, .bool false] 25 (0, 0)) zq11) : gb133 ≠ gb124))
        have n9_ := Aside0.mk ((by rw [hg]; exact Nat.ne_of_lt (blk_lt (g := gb125) (o := .cells #[.int .i64 0, .string (⟨#[]⟩ : ByteArray), .slice none 0 0, .bool false] 25 (0, 0)) zq18) : gb125 ≠ gb133))
        have n10_ := Aside0.mk ((by rw [hg]; exact Nat.ne_of_gt (blk_lt (g := gb125) (o := .cells #[.int .i64 0, .string (⟨#[]⟩ : ByteArray), .slice none 0 0, .bool false] 25 (0, 0)) zq18) : gb133 ≠ gb125))
        clear HO129
        clear BK124
        clear BK125
        clear HB
        have HO129 := n0_
        have BK124 := n1_
        have BK125 := n2_
        have HB := n3_
        have BK133 := n4_
        have GW133 := n5_
        have GE133 := n6_
        have NB124_133 := n7_
        have NB133_124 := n8_
        have NB125_133 := n9_
        have NB133_125 := n10_
        clear n0_ n1_ n2_ n3_ n4_ n5_ n6_ n7_ n8_ n9_ n10_
        clear hb hbox hg
        refine hK.out _ _ ⟨(blk_cell BK124.out 0).trans rfl, (blk_cell BK124.out 1).trans rfl, (blk_cell BK124.out 2).trans rfl, (blk_cell BK124.out 3).trans rfl⟩ (fun hHeld => ?_)
        clear hK K
        refine norm_ (a' := ?_) ?_ ?_
        rotate_left
        ·show Act.put _ (some 5) _ = _
         simp only [Act.put, List.setIfInBounds_toArray, List.set_cons_zero, List.set_cons_succ, i64_w, i32_w]
         rfl
        refine one_ (i := 5) (N := some 19) #[true, true, true, true, true, true, true, true, false, true, false] rfl rfl (one_of HT_.out zq19) zq60 (fun K hK => ?_)
        refine Kd.R_append_rows_step Kd.string (w0 := w) w.heap.size zq90 (.tmp 16) (.tmp 18) 23 9 (.string ⟨#[]⟩) 16 rfl Try.underlying23 info9 rfl zq60 zq99 v128 y127 l0_2 _ _ _ (fun _ => True) (fun _ => False) rfl rfl ?aO ?aR (fun _ _ h => h) (fun _ h => h.elim) ?aF ?aB ?aS ?aL ?_
        (case aR => repeat (first | exact (Kd.C_below HR0_2.out HB.out) | (with_reducible refine Kd.C_alloc ?_ _) | (with_reducible refine Kd.C_drewN ?_ _) | (with_reducible refine Kd.C_drew ?_)))
        (case aB => exact zq7)
        (case aF => exact (fun _ _ => trivial))
        (case aO => exact zq64)
        (case aS => exact (below_size zq7))
        (case aL => have := LMc5.out; omega)
        intro v131 w39 ho hb hg hat
        rw [← Ny130.out] at ho
        have n0_ := Aside0.mk (blk_grown (g := gb124) (o := .cells #[.int .i64 a0_0, .string a0_1, .slice A0_2 l0_2.length c0_2, .bool false] 25 (0, 0)) zq11 hg (Kd.R_ne HO129.out BK124.out zq60))
        have n1_ := Aside0.mk (blk_grown (g := gb125) (o := .cells #[.int .i64 0, .string (⟨#[]⟩ : ByteArray), .slice none 0 0, .bool false] 25 (0, 0)) zq18 hg (Kd.R_ne HO129.out BK125.out zq60))
        have n2_ := Aside0.mk (blk_grown (g := gb133) (o := .cells #[.int .i64 0, .string (⟨#[]⟩ : ByteArray), .slice none 0 0, .bool false] 25 (0, 0)) zq41 hg (Kd.R_ne HO129.out BK133.out zq60))
        have n3_ := Aside0.mk (hb)
        have n4_ := Aside0.mk (ho)
        clear BK124
        clear BK125
        clear BK133
        clear HB
        clear HO129
        have BK124 := n0_
        have BK125 := n1_
        have BK133 := n2_
        have HB := n3_
        have HO132 := n4_
        clear n0_ n1_ n2_ n3_ n4_
        clear ho hb hg hat
        obtain ⟨Ao40, co40, eo40⟩ := Kd.R_slice HO132.out
        (first | subst eo40 | (injection eo40 with f1_ f2_ f3_; have f4_ := f1_.symm; have f5_ := f3_.symm; clear f1_ f2_ f3_; subst f4_; subst f5_))
        refine hK.out _ _ ⟨(blk_cell BK124.out 0).trans rfl, (blk_cell BK124.out 1).trans rfl, (blk_cell BK124.out 2).trans rfl, (blk_cell BK124.out 3).trans rfl⟩ (fun hHeld => ?_)
        clear hK K
        refine norm_ (a' := ?_) ?_ ?_
        rotate_left
        ·show Act.put _ (some 19) _ = _
         simp only [Act.put, List.setIfInBounds_toArray, List.set_cons_zero, List.set_cons_succ, i64_w, i32_w]
         rfl
        refine pure_ (i := 8) (N := some 22) (v := ?_) (a' := ?_) #[true, true, true, true, true, true, true, true, true, true, false] rfl rfl (any_of HT_.out zq19) (fun _ _ _ h => h) (Or.inl ⟨zq90, ?_⟩) ?_ ?_
        rotate_left
        ·intro w'
         go_simp
         with_reducible rfl
        rotate_left
        ·simp only [Act.put, List.setIfInBounds_toArray, List.set_cons_zero, List.set_cons_succ, i64_w, i32_w]
         rfl
        exact norm_ zq67 (hCont (v128, .slice Ao40 y130.length co40, gb133) _ ⟨hHeld, zq63, zq11, zq18, zq41, GW133.out, GE133.out, NB124_133.out, NB133_124.out, NB125_133.out, NB133_125.out, zq7⟩)
      ·skip
       refine box_step ?hg (N := 5) ?hd (cs := #[.int .i64 0, .string (⟨#[]⟩ : ByteArray), .slice none 0 0, .bool false]) (t := 25) ?hr ?_; (case hd => rfl); (case hg => rfl); (case hr => first | (go_simp; done) | (go_simp; rfl))
       intro gb133 hg w36 hbox hb
       have n0_ := Aside0.mk (blk_below (g := gb124) (o := .cells #[.int .i64 a0_0, .string a0_1, .slice A0_2 l0_2.length c0_2, .bool false] 25 (0, 0)) zq11 hb)
       have n1_ := Aside0.mk (blk_below (g := gb125) (o := .cells #[.int .i64 0, .string (⟨#[]⟩ : ByteArray), .slice none 0 0, .bool false] 25 (0, 0)) zq18 hb)
       have n2_ := Aside0.mk (below_step zq12 hb)
       have n3_ := Aside0.mk (hbox)
       have n4_ := Aside0.mk ((by rw [hg]; exact (below_size zq12) : w.heap.size ≤ gb133))
       have n5_ := Aside0.mk ((by rw [hg]; exact (below_size zq12) : w.heap.size ≤ gb133))
       have n6_ := Aside0.mk ((by rw [hg]; exact Nat.ne_of_lt (blk_lt (g := gb124) (o := .cells #[.int .i64 a0_0, .string a0_1, .slice A0_2 l0_2.length c0_2, .bool false] 25 (0, 0)) zq11) : gb124 ≠ gb133))
       have n7_ := Aside0.mk ((by rw [hg]; exact Nat.ne_of_gt (blk_lt (g := gb124) (o := .cells #[.int .i64 a0_0, .string a0_1, .slice A0_2 l0_2.length c0_2, .bool false] 25 (0, 0)) zq11) : gb133 ≠ gb124))
       have n8_ := Aside0.mk ((by rw [hg]; exact Nat.ne_of_lt (blk_lt (g := gb125) (o := .cells #[.int .i64 0, .string (⟨#[]⟩ : ByteArray), .slice none 0 0, .bool false] 25 (0, 0)) zq18) : gb125 ≠ gb133))
       have n9_ := Aside0.mk ((by rw [hg]; exact Nat.ne_of_gt (blk_lt (g := gb125) (o := .cells #[.int .i64 0, .string (⟨#[]⟩ : ByteArray), .slice none 0 0, .bool false] 25 (0, 0)) zq18) : gb133 ≠ gb125))
       clear BK124
       clear BK125
       clear HB
       have BK124 := n0_
       have BK125 := n1_
       have HB := n2_
       have BK133 := n3_
       have GW133 := n4_
       have GE133 := n5_
       have NB124_133 := n6_
       have NB133_124 := n7_
       have NB125_133 := n8_
       have NB133_125 := n9_
       clear n0_ n1_ n2_ n3_ n4_ n5_ n6_ n7_ n8_ n9_
       clear hb hbox hg
       refine hK.out _ _ ⟨(blk_cell BK124.out 0).trans rfl, (blk_cell BK124.out 1).trans rfl, (blk_cell BK124.out 2).trans rfl, (blk_cell BK124.out 3).trans rfl⟩ (fun hHeld => ?_)
       clear hK K
       refine norm_ (a' := ?_) ?_ ?_
       rotate_left
       ·show Act.put _ (some 5) _ = _
        simp only [Act.put, List.setIfInBounds_toArray, List.set_cons_zero, List.set_cons_succ, i64_w, i32_w]
        rfl
       refine one_ (i := 2) (N := some 16) #[true, true, true, true, true, false, true, true, false, true, false] rfl rfl (one_of HT_.out zq19) zq60 (fun K hK => ?_)
       refine Kd.R_lit_step Kd.string _ 9 ?hg (N := 16) ?hd (xs := ([] : List ByteArray)) (inner := []) (ok := fun _ => True) (okp := fun _ => True) ?hr ?hp (fun _ hk => hk) trivial (Below.refl _ _) (Nat.le_refl _) zq81 ?_; (case hd => rfl); (case hg => rfl); (case hr => first | (go_simp; done) | (go_simp; rfl)); (case hp => exact (Reps.none _ _))
       intro v128 w37 ho38 hb hg_ hnew_
       clear hg_ hnew_
       (first | rw [← Ny127.out] at ho38 | (simp only [Int.reduceToNat] at ho38; rw [← Ny127.out] at ho38))
       have n0_ := Aside0.mk (Kd.R_lower ho38 (below_size zq7))
       have n1_ := Aside0.mk (blk_below (g := gb124) (o := .cells #[.int .i64 a0_0, .string a0_1, .slice A0_2 l0_2.length c0_2, .bool false] 25 (0, 0)) zq11 hb)
       have n2_ := Aside0.mk (blk_below (g := gb125) (o := .cells #[.int .i64 0, .string (⟨#[]⟩ : ByteArray), .slice none 0 0, .bool false] 25 (0, 0)) zq18 hb)
       have n3_ := Aside0.mk (blk_below (g := gb133) (o := .cells #[.int .i64 0, .string (⟨#[]⟩ : ByteArray), .slice none 0 0, .bool false] 25 (0, 0)) zq41 hb)
       have n4_ := Aside0.mk (below_step zq7 hb)
       clear BK124
       clear BK125
       clear BK133
       clear HB
       have HO129 := n0_
       have BK124 := n1_
       have BK125 := n2_
       have BK133 := n3_
       have HB := n4_
       clear n0_ n1_ n2_ n3_ n4_
       clear hb ho38
       refine hK.out _ _ ⟨(blk_cell BK124.out 0).trans rfl, (blk_cell BK124.out 1).trans rfl, (blk_cell BK124.out 2).trans rfl, (blk_cell BK124.out 3).trans rfl⟩ (fun hHeld => ?_)
       clear hK K
       refine norm_ (a' := ?_) ?_ ?_
       rotate_left
       ·show Act.put _ (some 16) _ = _
        simp only [Act.put, List.setIfInBounds_toArray, List.set_cons_zero, List.set_cons_succ, i64_w, i32_w]
        rfl
       refine one_ (i := 5) (N := some 19) #[true, true, true, true, true, true, true, true, false, true, false] rfl rfl (one_of HT_.out zq19) zq60 (fun K hK => ?_)
       refine Kd.R_append_rows_step Kd.string (w0 := w) w.heap.size zq90 (.tmp 16) (.tmp 18) 23 9 (.string ⟨#[]⟩) 16 rfl Try.underlying23 info9 rfl zq60 zq99 v128 y127 l0_2 _ _ _ (fun _ => True) (fun _ => False) rfl rfl ?aO ?aR (fun _ _ h => h) (fun _ h => h.elim) ?aF ?aB ?aS ?aL ?_
       (case aR => repeat (first | exact (Kd.C_below HR0_2.out HB.out) | (with_reducible refine Kd.C_alloc ?_ _) | (with_reducible refine Kd.C_drewN ?_ _) | (with_reducible refine Kd.C_drew ?_)))
       (case aB => exact zq7)
       (case aF => exact (fun _ _ => trivial))
       (case aO => exact zq64)
       (case aS => exact (below_size zq7))
       (case aL => have := LMc5.out; omega)
       intro v131 w39 ho hb hg hat
       rw [← Ny130.out] at ho
       have n0_ := Aside0.mk (blk_grown (g := gb124) (o := .cells #[.int .i64 a0_0, .string a0_1, .slice A0_2 l0_2.length c0_2, .bool false] 25 (0, 0)) zq11 hg (Kd.R_ne HO129.out BK124.out zq60))
       have n1_ := Aside0.mk (blk_grown (g := gb125) (o := .cells #[.int .i64 0, .string (⟨#[]⟩ : ByteArray), .slice none 0 0, .bool false] 25 (0, 0)) zq18 hg (Kd.R_ne HO129.out BK125.out zq60))
       have n2_ := Aside0.mk (blk_grown (g := gb133) (o := .cells #[.int .i64 0, .string (⟨#[]⟩ : ByteArray), .slice none 0 0, .bool false] 25 (0, 0)) zq41 hg (Kd.R_ne HO129.out BK133.out zq60))
       have n3_ := Aside0.mk (hb)
       have n4_ := Aside0.mk (ho)
       clear BK124
       clear BK125
       clear BK133
       clear HB
       clear HO129
       have BK124 := n0_
       have BK125 := n1_
       have BK133 := n2_
       have HB := n3_
       have HO132 := n4_
       clear n0_ n1_ n2_ n3_ n4_
       clear ho hb hg hat
       obtain ⟨Ao40, co40, eo40⟩ := Kd.R_slice HO132.out
       (first | subst eo40 | (injection eo40 with f1_ f2_ f3_; have f4_ := f1_.symm; have f5_ := f3_.symm; clear f1_ f2_ f3_; subst f4_; subst f5_))
       refine hK.out _ _ ⟨(blk_cell BK124.out 0).trans rfl, (blk_cell BK124.out 1).trans rfl, (blk_cell BK124.out 2).trans rfl, (blk_cell BK124.out 3).trans rfl⟩ (fun hHeld => ?_)
       clear hK K
       refine norm_ (a' := ?_) ?_ ?_
       rotate_left
       ·show Act.put _ (some 19) _ = _
        simp only [Act.put, List.setIfInBounds_toArray, List.set_cons_zero, List.set_cons_succ, i64_w, i32_w]
        rfl
       refine pure_ (i := 8) (N := some 22) (v := ?_) (a' := ?_) #[true, true, true, true, true, true, true, true, true, true, false] rfl rfl (any_of HT_.out zq19) (fun _ _ _ h => h) (Or.inl ⟨zq90, ?_⟩) ?_ ?_
       rotate_left
       ·intro w'
        go_simp
        with_reducible rfl
       rotate_left
       ·simp only [Act.put, List.setIfInBounds_toArray, List.set_cons_zero, List.set_cons_succ, i64_w, i32_w]
        rfl
       exact norm_ zq67 (hCont (v128, .slice Ao40 y130.length co40, gb133) _ ⟨hHeld, zq63, zq11, zq18, zq41, GW133.out, GE133.out, NB124_133.out, NB133_124.out, NB125_133.out, NB133_125.out, zq7⟩)
     rintro ⟨v128, v131, gb133⟩ w41 ⟨hS_, h0_, h1_, h2_, h3_, h4_, h5_, h6_, h7_, h8_, h9_, h10_⟩
     have n0_ : Aside0 (Kd.R Kd.string 9 w41 w.heap.size (fun _ => True) v131 y130) := ⟨h0_⟩
     have n1_ : Aside0 (w41.heap[gb124]? = some (.cells #[.int .i64 a0_0, .string a0_1, .slice A0_2 l0_2.length c0_2, .bool false] 25 (0, 0))) := ⟨h1_⟩
     have n2_ : Aside0 (w41.heap[gb125]? = some (.cells #[.int .i64 0, .string (⟨#[]⟩ : ByteArray), .slice none 0 0, .bool false] 25 (0, 0))) := ⟨h2_⟩
     have n3_ : Aside0 (w41.heap[gb133]? = some (.cells #[.int .i64 0, .string (⟨#[]⟩ : ByteArray), .slice none 0 0, .bool false] 25 (0, 0))) := ⟨h3_⟩
     have n4_ : Aside0 (w.heap.size ≤ gb133) := ⟨h4_⟩
     have n5_ : Aside0 (w.heap.size ≤ gb133) := ⟨h5_⟩
     have n6_ : Aside0 (gb124 ≠ gb133) := ⟨h6_⟩
     have n7_ : Aside0 (gb133 ≠ gb124) := ⟨h7_⟩
     have n8_ : Aside0 (gb125 ≠ gb133) := ⟨h8_⟩
     have n9_ : Aside0 (gb133 ≠ gb125) := ⟨h9_⟩
     have n10_ : Aside0 (Below w.heap.size w w41) := ⟨h10_⟩
     clear BK124
     clear BK125
     clear HB
     clear h0_ h1_ h2_ h3_ h4_ h5_ h6_ h7_ h8_ h9_ h10_
     have HO132 := n0_
     have BK124 := n1_
     have BK125 := n2_
     have BK133 := n3_
     have GW133 := n4_
     have GE133 := n5_
     have NB124_133 := n6_
     have NB133_124 := n7_
     have NB125_133 := n8_
     have NB133_125 := n9_
     have HB := n10_
     clear n0_ n1_ n2_ n3_ n4_ n5_ n6_ n7_ n8_ n9_ n10_
     have hHeld : w41.cell? ⟨gb124, 0, none⟩ = some (.int .i64 a0_0) ∧ w41.cell? ⟨gb124, 1, none⟩ = some (.string a0_1) ∧ w41.cell? ⟨gb124, 2, none⟩ = some (.slice A0_2 l0_2.length c0_2) ∧ w41.cell? ⟨gb124, 3, none⟩ = some (.bool false) := hS_
     obtain ⟨Ao42, co42, eo42⟩ := Kd.R_slice HO132.out
     (first | subst eo42 | (injection eo42 with f1_ f2_ f3_; have f4_ := f1_.symm; have f5_ := f3_.symm; clear f1_ f2_ f3_; subst f4_; subst f5_))
     refine norm_ (a' := ?_) ?_ ?_
     rotate_left
     ·simp only [putAll, Act.put, List.setIfInBounds_toArray, List.set_cons_zero, List.set_cons_succ]
      rfl
     refine one_ (i := 10) (N := none) #[true, true, true, true, true, true, true, true, true, true, true] rfl rfl (one_of HT_.out zq19) zq60 (fun K hK => ?_)
     have hs43 : w41.cell? ⟨gb133, 0, none⟩ = some (.int .i64 0) := (blk_cell BK133.out 0).trans rfl
     have hfs43 := blk_frozen BK133.out 0
     have hns43_0 := NB124_133.out
     have hns43_1 := NB125_133.out
     have hms43_0 := NB133_124.out
     have hms43_1 := NB133_125.out
     have hs44 : w41.cell? ⟨gb133, 1, none⟩ = some (.string (⟨#[]⟩ : ByteArray)) := (blk_cell BK133.out 1).trans rfl
     have hfs44 := blk_frozen BK133.out 1
     have hns44_0 := NB124_133.out
     have hns44_1 := NB125_133.out
     have hms44_0 := NB133_124.out
     have hms44_1 := NB133_125.out
     have hs45 : w41.cell? ⟨gb133, 2, none⟩ = some (.slice none 0 0) := (blk_cell BK133.out 2).trans rfl
     have hfs45 := blk_frozen BK133.out 2
     have hns45_0 := NB124_133.out
     have hns45_1 := NB125_133.out
     have hms45_0 := NB133_124.out
     have hms45_1 := NB133_125.out
     have hs46 : w41.cell? ⟨gb133, 3, none⟩ = some (.bool false) := (blk_cell BK133.out 3).trans rfl
     have hfs46 := blk_frozen BK133.out 3
     have hns46_0 := NB124_133.out
     have hns46_1 := NB125_133.out
     have hms46_0 := NB133_124.out
     have hms46_1 := NB133_125.out
     refine skip_ (w1 := ?_) zq90 rfl ?_ ?_
     rotate_left
     ·go_simp
      rfl
     refine hK.out _ _ ⟨((cell_far (p := ⟨gb133, _, none⟩) NB124_133.out _).trans (((cell_far (p := ⟨gb133, _, none⟩) NB124_133.out _).trans (((cell_far (p := ⟨gb133, _, none⟩) NB124_133.out _).trans (((cell_far (p := ⟨gb133, _, none⟩) NB124_133.out _).trans (hHeld.1)))))))), ((cell_far (p := ⟨gb133, _, none⟩) NB124_133.out _).trans (((cell_far (p := ⟨gb133, _, none⟩) NB124_133.out _).trans (((cell_far (p := ⟨gb133, _, none⟩) NB124_133.out _).trans (((cell_far (p := ⟨gb133, _, none⟩) NB124_133.out _).trans (hHeld.2.1)))))))), ((cell_far (p := ⟨gb133, _, none⟩) NB124_133.out _).trans (((cell_far (p := ⟨gb133, _, none⟩) NB124_133.out _).trans (((cell_far (p := ⟨gb133, _, none⟩) NB124_133.out _).trans (((cell_far (p := ⟨gb133, _, none⟩) NB124_133.out _).trans (hHeld.2.2.1)))))))), ((cell_far (p := ⟨gb133, _, none⟩) NB124_133.out _).trans (((cell_far (p := ⟨gb133, _, none⟩) NB124_133.out _).trans (((cell_far (p := ⟨gb133, _, none⟩) NB124_133.out _).trans (((cell_far (p := ⟨gb133, _, none⟩) NB124_133.out _).trans (hHeld.2.2.2))))))))⟩ (fun hHeld => ?_)
     clear hK K
     refine done_ (done_of HT_.out zq19) ?_
     have hnb47 := NB124_133.out
     have hnc47 := NB133_124.out
     have hcz48_0 : w41.cell? ⟨gb124, 0, none⟩ = some (.int .i64 a0_0) := (blk_cell BK124.out 0).trans rfl
     have hcz48_1 : w41.cell? ⟨gb124, 1, none⟩ = some (.string a0_1) := (blk_cell BK124.out 1).trans rfl
     have hcz48_2 : w41.cell? ⟨gb124, 2, none⟩ = some (.slice A0_2 l0_2.length c0_2) := (blk_cell BK124.out 2).trans rfl
     have hcz48_3 : w41.cell? ⟨gb124, 3, none⟩ = some (.bool false) := (blk_cell BK124.out 3).trans rfl
     have hfz48_0 := blk_frozen BK124.out 0
     have hfz48_1 := blk_frozen BK124.out 1
     have hfz48_2 := blk_frozen BK124.out 2
     have hfz48_3 := blk_frozen BK124.out 3
     try go_wp2
     go_loopg [6] k (fun kq v6 w' => ∃ (x6_1 : ByteArray) (x126000_1 : Int) (x126001_1 : ByteArray) (x126003_1 : Bool) (x134001_1 : ByteArray) (x134002_1 : List ByteArray) (x134003_1 : Bool) (u134002 : Value), v6 = .string x6_1 ∧ Aside0 (spec_Feed.l0 kq x6_1 a0_0 a0_1 l0_2 false a0_0 x134001_1 x134002_1 x134003_1 = some (r1, r2, r3, r4)) ∧ Aside0 (kq ≤ k) ∧ Aside0 (Kd.R Kd.string 9 w' w.heap.size (fun _ => True) u134002 x134002_1) ∧ Aside0 (w'.heap[gb124]? = some (.cells #[.int .i64 a0_0, .string a0_1, (.slice A0_2 l0_2.length c0_2), .bool false] 25 (0, 0))) ∧ Aside0 (w'.heap[gb125]? = some (.cells #[.int .i64 x126000_1, .string x126001_1, (.slice none 0 0), .bool x126003_1] 25 (0, 0))) ∧ Aside0 (w'.heap[gb133]? = some (.cells #[.int .i64 a0_0, .string x134001_1, u134002, .bool x134003_1] 25 (0, 0))) ∧ Aside0 (Below w.heap.size w w'))
     case atStart => exact ⟨(a0_1 ++ a1), (0), ((⟨#[]⟩ : ByteArray)), (false), ((⟨#[]⟩ : ByteArray)), (y130), (false), (.slice Ao42 y130.length co42), zq22, H', ⟨Nat.le_refl _⟩, ⟨by (with_reducible repeat (first | apply Kd.R_alloc | apply Kd.R_drewN | apply Kd.R_drew)); exact Kd.R_mono (Kd.R_far (p := ⟨gb133, 3, none⟩) (Kd.R_far (p := ⟨gb133, 2, none⟩) (Kd.R_far (p := ⟨gb133, 1, none⟩) (Kd.R_far (p := ⟨gb133, 0, none⟩) (Kd.R_types HO132.out BK133.out zq60) (fun _ hk => hk.2) (.int .i64 a0_0)) (fun _ hk => hk.2) (.string (⟨#[]⟩ : ByteArray))) (fun _ hk => hk.2) (.slice Ao42 y130.length co42)) (fun _ hk => hk.2) (.bool false)) (fun _ hk => trivial)⟩, ⟨by (with_reducible repeat (first | refine blk_drewN ?_ _ | refine blk_drew ?_ | refine blk_alloc ?_ _)); refine blk_far ?_ NB124_133.out _; (with_reducible repeat (first | refine blk_drewN ?_ _ | refine blk_drew ?_ | refine blk_alloc ?_ _)); refine blk_far ?_ NB124_133.out _; (with_reducible repeat (first | refine blk_drewN ?_ _ | refine blk_drew ?_ | refine blk_alloc ?_ _)); refine blk_far ?_ NB124_133.out _; (with_reducible repeat (first | refine blk_drewN ?_ _ | refine blk_drew ?_ | refine blk_alloc ?_ _)); refine blk_far ?_ NB124_133.out _; (with_reducible repeat (first | refine blk_drewN ?_ _ | refine blk_drew ?_ | refine blk_alloc ?_ _)); exact BK124.out⟩, ⟨by (with_reducible repeat (first | refine blk_drewN ?_ _ | refine blk_drew ?_ | refine blk_alloc ?_ _)); refine blk_far ?_ NB125_133.out _; (with_reducible repeat (first | refine blk_drewN ?_ _ | refine blk_drew ?_ | refine blk_alloc ?_ _)); refine blk_far ?_ NB125_133.out _; (with_reducible repeat (first | refine blk_drewN ?_ _ | refine blk_drew ?_ | refine blk_alloc ?_ _)); refine blk_far ?_ NB125_133.out _; (with_reducible repeat (first | refine blk_drewN ?_ _ | refine blk_drew ?_ | refine blk_alloc ?_ _)); refine blk_far ?_ NB125_133.out _; (with_reducible repeat (first | refine blk_drewN ?_ _ | refine blk_drew ?_ | refine blk_alloc ?_ _)); exact BK125.out⟩, ⟨by (with_reducible repeat (first | refine blk_drewN ?_ _ | refine blk_drew ?_ | refine blk_alloc ?_ _)); refine blk_put (cs := #[.int .i64 a0_0, .string (⟨#[]⟩ : ByteArray), .slice Ao42 y130.length co42, .bool false]) ?_ 3 _ rfl; (with_reducible repeat (first | refine blk_drewN ?_ _ | refine blk_drew ?_ | refine blk_alloc ?_ _)); refine blk_put (cs := #[.int .i64 a0_0, .string (⟨#[]⟩ : ByteArray), .slice none 0 0, .bool false]) ?_ 2 _ rfl; (with_reducible repeat (first | refine blk_drewN ?_ _ | refine blk_drew ?_ | refine blk_alloc ?_ _)); refine blk_put (cs := #[.int .i64 a0_0, .string (⟨#[]⟩ : ByteArray), .slice none 0 0, .bool false]) ?_ 1 _ rfl; (with_reducible repeat (first | refine blk_drewN ?_ _ | refine blk_drew ?_ | refine blk_alloc ?_ _)); refine blk_put (cs := #[.int .i64 0, .string (⟨#[]⟩ : ByteArray), .slice none 0 0, .bool false]) ?_ 0 _ rfl; (with_reducible repeat (first | refine blk_drewN ?_ _ | refine blk_drew ?_ | refine blk_alloc ?_ _)); exact BK133.out⟩, ⟨zq7⟩⟩
     case round =>
      clear H'
      try clear c1
      try clear c2
      try clear p2
      try clear c3
      try clear c4
      try clear c5
      try clear c6
      try clear c9
      try clear c10
      try clear c24
      try clear c26
      try clear c29
      try clear c29b0
      try clear c29b1
      try clear c29b2
      try clear c32
      try clear c47
      try clear hcz25_0
      try clear hcz25_1
      try clear hcz25_2
      try clear hcz25_3
      try clear hcz27_0
      try clear hcz27_1
      try clear hcz27_2
      try clear hcz27_3
      try clear hcz28_0
      try clear hcz28_1
      try clear hcz28_2
      try clear hcz28_3
      try clear hcz33_0
      try clear hcz33_1
      try clear hcz33_2
      try clear hcz33_3
      try clear hcz48_0
      try clear hcz48_1
      try clear hcz48_2
      try clear hcz48_3
      try clear hfz25_0
      try clear hfz25_1
      try clear hfz25_2
      try clear hfz25_3
      try clear hfz27_0
      try clear hfz27_1
      try clear hfz27_2
      try clear hfz27_3
      try clear hfz28_0
      try clear hfz28_1
      try clear hfz28_2
      try clear hfz28_3
      try clear hfz33_0
      try clear hfz33_1
      try clear hfz33_2
      try clear hfz33_3
      try clear hfz48_0
      try clear hfz48_1
      try clear hfz48_2
      try clear hfz48_3
      obtain ⟨x6_1, x126000_1, x126001_1, x126003_1, x134001_1, x134002_1, x134003_1, u134002, rfl, HA, HK1, HO_134002, BK124, BK125, BK133, HB⟩ := hrel
      cases gk with
      | zero => exact absurd HA.out (by simp [spec_Feed.l0])
      | succ k1 =>
       have H := HA.out
       clear HA
       simp only [spec_Feed.l0] at H
       replace H := Option.bind_eq_some_iff.mp H
       obtain ⟨⟨t134, t135, t136⟩, A490, H⟩ := H
       try dsimp only at H
       have A49 := Aside0.mk A490
       clear A490
       by_cases c50 : t134 = 0
       ·rw [if_pos c50] at H
        have c50b0 : (t134 == 0) = true := beq_iff_eq.mpr c50
        have c50b1 : (t134 != 0) = false := bne_eq_false_iff_eq.mpr c50
        clear c50
        simp only [Option.some.injEq, Prod.mk.injEq] at H
        obtain ⟨rfl, rfl, rfl, rfl⟩ := H
        have hnb51 := NB124_125.out
        have hnc51 := NB125_124.out
        have hnb52 := NB124_133.out
        have hnc52 := NB133_124.out
        have hcz53_0 : wr.cell? ⟨gb124, 0, none⟩ = some (.int .i64 a0_0) := (blk_cell BK124.out 0).trans rfl
        have hcz53_1 : wr.cell? ⟨gb124, 1, none⟩ = some (.string a0_1) := (blk_cell BK124.out 1).trans rfl
        have hcz53_2 : wr.cell? ⟨gb124, 2, none⟩ = some (.slice A0_2 l0_2.length c0_2) := (blk_cell BK124.out 2).trans rfl
        have hcz53_3 : wr.cell? ⟨gb124, 3, none⟩ = some (.bool false) := (blk_cell BK124.out 3).trans rfl
        have hfz53_0 := blk_frozen BK124.out 0
        have hfz53_1 := blk_frozen BK124.out 1
        have hfz53_2 := blk_frozen BK124.out 2
        have hfz53_3 := blk_frozen BK124.out 3
        go_wp2_with (first | ((with_reducible refine gate_callee (f := 35) rfl ?_); refine goesL_ (some 34) rfl rfl Try.func35 zq19 rfl #[.string x6_1, .int .i64 a0_0] rfl zq0 ?_; (with_reducible refine (spec_l3Front.calls k1 x6_1 a0_0 t134 t135 t136 _ A49.out).mono ?_); rintro e w54 ⟨rfl, hb⟩; refine ⟨_, rfl, ?_⟩; have n0_ := Aside0.mk (Kd.R_below zq78 hb); have n1_ := Aside0.mk (blk_below (g := gb124) (o := .cells #[.int .i64 a0_0, .string a0_1, .slice A0_2 l0_2.length c0_2, .bool false] 25 (0, 0)) zq11 hb); have n2_ := Aside0.mk (blk_below (g := gb125) (o := .cells #[.int .i64 x126000_1, .string x126001_1, .slice none 0 0, .bool x126003_1] 25 (0, 0)) zq18 hb); have n3_ := Aside0.mk (blk_below (g := gb133) (o := .cells #[.int .i64 a0_0, .string x134001_1, u134002, .bool x134003_1] 25 (0, 0)) zq41 hb); have n4_ := Aside0.mk (below_step zq7 hb); clear HO_134002; clear BK124; clear BK125; clear BK133; clear HB; have HO_134002 := n0_; have BK124 := n1_; have BK125 := n2_; have BK133 := n3_; have HB := n4_; clear n0_ n1_ n2_ n3_ n4_; (try clear hb); (try clear hb2); (try clear hk); (try clear hi); have hnb55 := NB133_125.out; have hnc55 := NB125_133.out; have hcz56_0 : w54.cell? ⟨gb133, 0, none⟩ = some (.int .i64 a0_0) := (blk_cell BK133.out 0).trans rfl; have hcz56_1 : w54.cell? ⟨gb133, 1, none⟩ = some (.string x134001_1) := (blk_cell BK133.out 1).trans rfl; have hcz56_2 : w54.cell? ⟨gb133, 2, none⟩ = some (u134002) := (blk_cell BK133.out 2).trans rfl; have hcz56_3 : w54.cell? ⟨gb133, 3, none⟩ = some (.bool x134003_1) := (blk_cell BK133.out 3).trans rfl; have hfz56_0 := blk_frozen BK133.out 0; have hfz56_1 := blk_frozen BK133.out 1; have hfz56_2 := blk_frozen BK133.out 2; have hfz56_3 := blk_frozen BK133.out 3; have hcz57_0 : w54.cell? ⟨gb125, 0, none⟩ = some (.int .i64 x126000_1) := (blk_cell BK125.out 0).trans rfl; have hcz57_1 : w54.cell? ⟨gb125, 1, none⟩ = some (.string x126001_1) := (blk_cell BK125.out 1).trans rfl; have hcz57_2 : w54.cell? ⟨gb125, 2, none⟩ = some (.slice none 0 0) := (blk_cell BK125.out 2).trans rfl; have hcz57_3 : w54.cell? ⟨gb125, 3, none⟩ = some (.bool x126003_1) := (blk_cell BK125.out 3).trans rfl; have hfz57_0 := blk_frozen BK125.out 0; have hfz57_1 := blk_frozen BK125.out 1; have hfz57_2 := blk_frozen BK125.out 2; have hfz57_3 := blk_frozen BK125.out 3; obtain ⟨Ao58, co58, eo58⟩ := Kd.R_slice HO_134002.out; subst eo58))
        refine bodyPost_ret (results_cell_row rfl _ _ gb125 25 #[.int .i64 a0_0, .string x6_1, .slice Ao58 x134002_1.length co58, .bool x134003_1] (0, 0) _ rfl (by (with_reducible repeat (first | refine blk_drewN ?_ _ | refine blk_drew ?_ | refine blk_alloc ?_ _)); refine blk_put (cs := #[.int .i64 a0_0, .string x6_1, .slice Ao58 x134002_1.length co58, .bool x126003_1]) ?_ 3 _ rfl; (with_reducible repeat (first | refine blk_drewN ?_ _ | refine blk_drew ?_ | refine blk_alloc ?_ _)); refine blk_put (cs := #[.int .i64 a0_0, .string x6_1, .slice none 0 0, .bool x126003_1]) ?_ 2 _ rfl; (with_reducible repeat (first | refine blk_drewN ?_ _ | refine blk_drew ?_ | refine blk_alloc ?_ _)); refine blk_put (cs := #[.int .i64 a0_0, .string x126001_1, .slice none 0 0, .bool x126003_1]) ?_ 1 _ rfl; (with_reducible repeat (first | refine blk_drewN ?_ _ | refine blk_drew ?_ | refine blk_alloc ?_ _)); refine blk_put (cs := #[.int .i64 x126000_1, .string x126001_1, .slice none 0 0, .bool x126003_1]) ?_ 0 _ rfl; (with_reducible repeat (first | refine blk_drewN ?_ _ | refine blk_drew ?_ | refine blk_alloc ?_ _)); refine blk_far ?_ NB125_133.out _; (with_reducible repeat (first | refine blk_drewN ?_ _ | refine blk_drew ?_ | refine blk_alloc ?_ _)); exact BK125.out) Try.underlying25 rfl zq19) rfl ?_
        exact ⟨_, zq8, by (with_reducible repeat (first | apply Kd.R_alloc | apply Kd.R_drewN | apply Kd.R_drew)); exact Kd.R_mono (Kd.R_far (p := ⟨gb125, 3, none⟩) (Kd.R_far (p := ⟨gb125, 2, none⟩) (Kd.R_far (p := ⟨gb125, 1, none⟩) (Kd.R_far (p := ⟨gb125, 0, none⟩) (Kd.R_far (p := ⟨gb133, 1, none⟩) (Kd.R_types (Kd.R_types HO_134002.out BK133.out zq60) BK125.out zq60) (fun _ hk => hk.1.2) (.string x6_1)) (fun _ hk => hk.2) (.int .i64 a0_0)) (fun _ hk => hk.2) (.string x6_1)) (fun _ hk => hk.2) (.slice Ao58 x134002_1.length co58)) (fun _ hk => hk.2) (.bool x134003_1)) (fun _ hk => trivial), zq7⟩
       ·rw [if_neg c50] at H
        have c50b0 : (t134 == 0) = false := beq_eq_false_iff_ne.mpr c50
        have c50b1 : (t134 != 0) = true := bne_iff_ne.mpr c50
        by_cases c59 : t134 = 2
        ·rw [if_pos c59] at H
         have c59b0 : (t134 == 2) = true := beq_iff_eq.mpr c59
         have c59b1 : (t134 != 2) = false := bne_eq_false_iff_eq.mpr c59
         clear c59
         simp only [Option.some.injEq, Prod.mk.injEq] at H
         obtain ⟨rfl, rfl, rfl, rfl⟩ := H
         have hnb60 := NB124_125.out
         have hnc60 := NB125_124.out
         have hnb61 := NB124_133.out
         have hnc61 := NB133_124.out
         have hcz62_0 : wr.cell? ⟨gb124, 0, none⟩ = some (.int .i64 a0_0) := (blk_cell BK124.out 0).trans rfl
         have hcz62_1 : wr.cell? ⟨gb124, 1, none⟩ = some (.string a0_1) := (blk_cell BK124.out 1).trans rfl
         have hcz62_2 : wr.cell? ⟨gb124, 2, none⟩ = some (.slice A0_2 l0_2.length c0_2) := (blk_cell BK124.out 2).trans rfl
         have hcz62_3 : wr.cell? ⟨gb124, 3, none⟩ = some (.bool false) := (blk_cell BK124.out 3).trans rfl
         have hfz62_0 := blk_frozen BK124.out 0
         have hfz62_1 := blk_frozen BK124.out 1
         have hfz62_2 := blk_frozen BK124.out 2
         have hfz62_3 := blk_frozen BK124.out 3
         go_wp2_with (first | ((with_reducible refine gate_callee (f := 35) rfl ?_); refine goesL_ (some 34) rfl rfl Try.func35 zq19 rfl #[.string x6_1, .int .i64 a0_0] rfl zq0 ?_; (with_reducible refine (spec_l3Front.calls k1 x6_1 a0_0 t134 t135 t136 _ A49.out).mono ?_); rintro e w63 ⟨rfl, hb⟩; refine ⟨_, rfl, ?_⟩; have n0_ := Aside0.mk (Kd.R_below zq78 hb); have n1_ := Aside0.mk (blk_below (g := gb124) (o := .cells #[.int .i64 a0_0, .string a0_1, .slice A0_2 l0_2.length c0_2, .bool false] 25 (0, 0)) zq11 hb); have n2_ := Aside0.mk (blk_below (g := gb125) (o := .cells #[.int .i64 x126000_1, .string x126001_1, .slice none 0 0, .bool x126003_1] 25 (0, 0)) zq18 hb); have n3_ := Aside0.mk (blk_below (g := gb133) (o := .cells #[.int .i64 a0_0, .string x134001_1, u134002, .bool x134003_1] 25 (0, 0)) zq41 hb); have n4_ := Aside0.mk (below_step zq7 hb); clear HO_134002; clear BK124; clear BK125; clear BK133; clear HB; have HO_134002 := n0_; have BK124 := n1_; have BK125 := n2_; have BK133 := n3_; have HB := n4_; clear n0_ n1_ n2_ n3_ n4_; (try clear hb); (try clear hb2); (try clear hk); (try clear hi); have hnb64 := NB133_125.out; have hnc64 := NB125_133.out; have hcz65_0 : w63.cell? ⟨gb133, 0, none⟩ = some (.int .i64 a0_0) := (blk_cell BK133.out 0).trans rfl; have hcz65_1 : w63.cell? ⟨gb133, 1, none⟩ = some (.string x134001_1) := (blk_cell BK133.out 1).trans rfl; have hcz65_2 : w63.cell? ⟨gb133, 2, none⟩ = some (u134002) := (blk_cell BK133.out 2).trans rfl; have hcz65_3 : w63.cell? ⟨gb133, 3, none⟩ = some (.bool x134003_1) := (blk_cell BK133.out 3).trans rfl; have hfz65_0 := blk_frozen BK133.out 0; have hfz65_1 := blk_frozen BK133.out 1; have hfz65_2 := blk_frozen BK133.out 2; have hfz65_3 := blk_frozen BK133.out 3; have hcz66_0 : w63.cell? ⟨gb125, 0, none⟩ = some (.int .i64 x126000_1) := (blk_cell BK125.out 0).trans rfl; have hcz66_1 : w63.cell? ⟨gb125, 1, none⟩ = some (.string x126001_1) := (blk_cell BK125.out 1).trans rfl; have hcz66_2 : w63.cell? ⟨gb125, 2, none⟩ = some (.slice none 0 0) := (blk_cell BK125.out 2).trans rfl; have hcz66_3 : w63.cell? ⟨gb125, 3, none⟩ = some (.bool x126003_1) := (blk_cell BK125.out 3).trans rfl; have hfz66_0 := blk_frozen BK125.out 0; have hfz66_1 := blk_frozen BK125.out 1; have hfz66_2 := blk_frozen BK125.out 2; have hfz66_3 := blk_frozen BK125.out 3; obtain ⟨Ao67, co67, eo67⟩ := Kd.R_slice HO_134002.out; subst eo67))
         refine bodyPost_ret (results_cell_row rfl _ _ gb125 25 #[.int .i64 a0_0, .string x134001_1, .slice Ao67 x134002_1.length co67, .bool true] (0, 0) _ rfl (by (with_reducible repeat (first | refine blk_drewN ?_ _ | refine blk_drew ?_ | refine blk_alloc ?_ _)); refine blk_put (cs := #[.int .i64 a0_0, .string x134001_1, .slice Ao67 x134002_1.length co67, .bool x126003_1]) ?_ 3 _ rfl; (with_reducible repeat (first | refine blk_drewN ?_ _ | refine blk_drew ?_ | refine blk_alloc ?_ _)); refine blk_put (cs := #[.int .i64 a0_0, .string x134001_1, .slice none 0 0, .bool x126003_1]) ?_ 2 _ rfl; (with_reducible repeat (first | refine blk_drewN ?_ _ | refine blk_drew ?_ | refine blk_alloc ?_ _)); refine blk_put (cs := #[.int .i64 a0_0, .string x126001_1, .slice none 0 0, .bool x126003_1]) ?_ 1 _ rfl; (with_reducible repeat (first | refine blk_drewN ?_ _ | refine blk_drew ?_ | refine blk_alloc ?_ _)); refine blk_put (cs := #[.int .i64 x126000_1, .string x126001_1, .slice none 0 0, .bool x126003_1]) ?_ 0 _ rfl; (with_reducible repeat (first | refine blk_drewN ?_ _ | refine blk_drew ?_ | refine blk_alloc ?_ _)); refine blk_far ?_ NB125_133.out _; (with_reducible repeat (first | refine blk_drewN ?_ _ | refine blk_drew ?_ | refine blk_alloc ?_ _)); exact BK125.out) Try.underlying25 rfl zq19) rfl ?_
         exact ⟨_, zq8, by (with_reducible repeat (first | apply Kd.R_alloc | apply Kd.R_drewN | apply Kd.R_drew)); exact Kd.R_mono (Kd.R_far (p := ⟨gb125, 3, none⟩) (Kd.R_far (p := ⟨gb125, 2, none⟩) (Kd.R_far (p := ⟨gb125, 1, none⟩) (Kd.R_far (p := ⟨gb125, 0, none⟩) (Kd.R_far (p := ⟨gb133, 3, none⟩) (Kd.R_types (Kd.R_types HO_134002.out BK133.out zq60) BK125.out zq60) (fun _ hk => hk.1.2) (.bool true)) (fun _ hk => hk.2) (.int .i64 a0_0)) (fun _ hk => hk.2) (.string x134001_1)) (fun _ hk => hk.2) (.slice Ao67 x134002_1.length co67)) (fun _ hk => hk.2) (.bool true)) (fun _ hk => trivial), zq7⟩
        ·rw [if_neg c59] at H
         have c59b0 : (t134 == 2) = false := beq_eq_false_iff_ne.mpr c59
         have c59b1 : (t134 != 2) = true := bne_iff_ne.mpr c59
         by_cases c68 : (x134002_1.length : Int) ≥ 500
         ·rw [if_pos c68] at H
          have c68b0 : decide (500 ≤ (x134002_1.length : Int)) = true := decide_eq_true c68
          have c68b1 : decide (500 ≤ x134002_1.length) = true := decide_eq_true zq99
          clear c68
          simp only [Option.some.injEq, Prod.mk.injEq] at H
          obtain ⟨rfl, rfl, rfl, rfl⟩ := H
          have hnb69 := NB124_125.out
          have hnc69 := NB125_124.out
          have hnb70 := NB124_133.out
          have hnc70 := NB133_124.out
          have hcz71_0 : wr.cell? ⟨gb124, 0, none⟩ = some (.int .i64 a0_0) := (blk_cell BK124.out 0).trans rfl
          have hcz71_1 : wr.cell? ⟨gb124, 1, none⟩ = some (.string a0_1) := (blk_cell BK124.out 1).trans rfl
          have hcz71_2 : wr.cell? ⟨gb124, 2, none⟩ = some (.slice A0_2 l0_2.length c0_2) := (blk_cell BK124.out 2).trans rfl
          have hcz71_3 : wr.cell? ⟨gb124, 3, none⟩ = some (.bool false) := (blk_cell BK124.out 3).trans rfl
          have hfz71_0 := blk_frozen BK124.out 0
          have hfz71_1 := blk_frozen BK124.out 1
          have hfz71_2 := blk_frozen BK124.out 2
          have hfz71_3 := blk_frozen BK124.out 3
          go_wp2_with (first | ((with_reducible refine gate_callee (f := 35) rfl ?_); refine goesL_ (some 34) rfl rfl Try.func35 zq19 rfl #[.string x6_1, .int .i64 a0_0] rfl zq0 ?_; (with_reducible refine (spec_l3Front.calls k1 x6_1 a0_0 t134 t135 t136 _ A49.out).mono ?_); rintro e w72 ⟨rfl, hb⟩; refine ⟨_, rfl, ?_⟩; have n0_ := Aside0.mk (Kd.R_below zq78 hb); have n1_ := Aside0.mk (blk_below (g := gb124) (o := .cells #[.int .i64 a0_0, .string a0_1, .slice A0_2 l0_2.length c0_2, .bool false] 25 (0, 0)) zq11 hb); have n2_ := Aside0.mk (blk_below (g := gb125) (o := .cells #[.int .i64 x126000_1, .string x126001_1, .slice none 0 0, .bool x126003_1] 25 (0, 0)) zq18 hb); have n3_ := Aside0.mk (blk_below (g := gb133) (o := .cells #[.int .i64 a0_0, .string x134001_1, u134002, .bool x134003_1] 25 (0, 0)) zq41 hb); have n4_ := Aside0.mk (below_step zq7 hb); clear HO_134002; clear BK124; clear BK125; clear BK133; clear HB; have HO_134002 := n0_; have BK124 := n1_; have BK125 := n2_; have BK133 := n3_; have HB := n4_; clear n0_ n1_ n2_ n3_ n4_; (try clear hb); (try clear hb2); (try clear hk); (try clear hi); have hnb73 := NB133_125.out; have hnc73 := NB125_133.out; have hcz74_0 : w72.cell? ⟨gb133, 0, none⟩ = some (.int .i64 a0_0) := (blk_cell BK133.out 0).trans rfl; have hcz74_1 : w72.cell? ⟨gb133, 1, none⟩ = some (.string x134001_1) := (blk_cell BK133.out 1).trans rfl; have hcz74_2 : w72.cell? ⟨gb133, 2, none⟩ = some (u134002) := (blk_cell BK133.out 2).trans rfl; have hcz74_3 : w72.cell? ⟨gb133, 3, none⟩ = some (.bool x134003_1) := (blk_cell BK133.out 3).trans rfl; have hfz74_0 := blk_frozen BK133.out 0; have hfz74_1 := blk_frozen BK133.out 1; have hfz74_2 := blk_frozen BK133.out 2; have hfz74_3 := blk_frozen BK133.out 3; obtain ⟨Ao75, co75, eo75⟩ := Kd.R_slice HO_134002.out; subst eo75; have hcz76_0 : w72.cell? ⟨gb125, 0, none⟩ = some (.int .i64 x126000_1) := (blk_cell BK125.out 0).trans rfl; have hcz76_1 : w72.cell? ⟨gb125, 1, none⟩ = some (.string x126001_1) := (blk_cell BK125.out 1).trans rfl; have hcz76_2 : w72.cell? ⟨gb125, 2, none⟩ = some (.slice none 0 0) := (blk_cell BK125.out 2).trans rfl; have hcz76_3 : w72.cell? ⟨gb125, 3, none⟩ = some (.bool x126003_1) := (blk_cell BK125.out 3).trans rfl; have hfz76_0 := blk_frozen BK125.out 0; have hfz76_1 := blk_frozen BK125.out 1; have hfz76_2 := blk_frozen BK125.out 2; have hfz76_3 := blk_frozen BK125.out 3))
          refine bodyPost_ret (results_cell_row rfl _ _ gb125 25 #[.int .i64 a0_0, .string x134001_1, .slice Ao75 x134002_1.length co75, .bool true] (0, 0) _ rfl (by (with_reducible repeat (first | refine blk_drewN ?_ _ | refine blk_drew ?_ | refine blk_alloc ?_ _)); refine blk_put (cs := #[.int .i64 a0_0, .string x134001_1, .slice Ao75 x134002_1.length co75, .bool x126003_1]) ?_ 3 _ rfl; (with_reducible repeat (first | refine blk_drewN ?_ _ | refine blk_drew ?_ | refine blk_alloc ?_ _)); refine blk_put (cs := #[.int .i64 a0_0, .string x134001_1, .slice none 0 0, .bool x126003_1]) ?_ 2 _ rfl; (with_reducible repeat (first | refine blk_drewN ?_ _ | refine blk_drew ?_ | refine blk_alloc ?_ _)); refine blk_put (cs := #[.int .i64 a0_0, .string x126001_1, .slice none 0 0, .bool x126003_1]) ?_ 1 _ rfl; (with_reducible repeat (first | refine blk_drewN ?_ _ | refine blk_drew ?_ | refine blk_alloc ?_ _)); refine blk_put (cs := #[.int .i64 x126000_1, .string x126001_1, .slice none 0 0, .bool x126003_1]) ?_ 0 _ rfl; (with_reducible repeat (first | refine blk_drewN ?_ _ | refine blk_drew ?_ | refine blk_alloc ?_ _)); refine blk_far ?_ NB125_133.out _; (with_reducible repeat (first | refine blk_drewN ?_ _ | refine blk_drew ?_ | refine blk_alloc ?_ _)); exact BK125.out) Try.underlying25 rfl zq19) rfl ?_
          exact ⟨_, zq8, by (with_reducible repeat (first | apply Kd.R_alloc | apply Kd.R_drewN | apply Kd.R_drew)); exact Kd.R_mono (Kd.R_far (p := ⟨gb125, 3, none⟩) (Kd.R_far (p := ⟨gb125, 2, none⟩) (Kd.R_far (p := ⟨gb125, 1, none⟩) (Kd.R_far (p := ⟨gb125, 0, none⟩) (Kd.R_far (p := ⟨gb133, 3, none⟩) (Kd.R_types (Kd.R_types HO_134002.out BK133.out zq60) BK125.out zq60) (fun _ hk => hk.1.2) (.bool true)) (fun _ hk => hk.2) (.int .i64 a0_0)) (fun _ hk => hk.2) (.string x134001_1)) (fun _ hk => hk.2) (.slice Ao75 x134002_1.length co75)) (fun _ hk => hk.2) (.bool true)) (fun _ hk => trivial), zq7⟩
         ·rw [if_neg c68] at H
          have c68b0 : decide (500 ≤ (x134002_1.length : Int)) = false := decide_eq_false c68
          have c68b1 : decide (500 ≤ x134002_1.length) = false := decide_eq_false zq99
          clear c68
          by_cases c77 : x134002_1.length < 8796093022208
          ·rw [if_pos c77] at H
           have LMc77 := Aside0.mk c77
           clear c77
           obtain ⟨y137, hy137⟩ : ∃ y_ : List ByteArray, y_ = (x134002_1 ++ [t135]) := ⟨_, rfl⟩
           replace H : (if 0 ≤ t136 then (if t136 ≤ (x6_1.size : Int) then (spec_Feed.l0 k1 (x6_1.extract (t136 : Int).toNat x6_1.size) a0_0 a0_1 l0_2 false a0_0 x134001_1 y137 x134003_1) else (none)) else (none)) = some (r1, r2, r3, r4) := by first | (rw [hy137]; with_reducible exact H) | (have H2_ := (Option.bind_some _ _).symm.trans H; rw [hy137]; with_reducible exact H2_) | (have H2_ := (Option.bind_some _ _).symm.trans H; with_reducible exact H2_) | with_reducible exact H | (rw [hy137]; exact H) | exact H
           have Ny137 := Aside0.mk hy137
           clear hy137
           by_cases c78 : 0 ≤ t136
           ·rw [if_pos c78] at H
            have c78b0 := eq_true c78
            have c78b1 : decide (0 ≤ t136) = true := decide_eq_true c78
            clear c78
            by_cases c79 : t136 ≤ (x6_1.size : Int)
            ·rw [if_pos c79] at H
             have c79b0 := eq_true c79
             have c79b1 : decide (t136 ≤ (x6_1.size : Int)) = true := decide_eq_true c79
             clear c79
             have H' := Aside0.mk H
             clear H
             have hnb80 := NB124_125.out
             have hnc80 := NB125_124.out
             have hnb81 := NB124_133.out
             have hnc81 := NB133_124.out
             have hcz82_0 : wr.cell? ⟨gb124, 0, none⟩ = some (.int .i64 a0_0) := (blk_cell BK124.out 0).trans rfl
             have hcz82_1 : wr.cell? ⟨gb124, 1, none⟩ = some (.string a0_1) := (blk_cell BK124.out 1).trans rfl
             have hcz82_2 : wr.cell? ⟨gb124, 2, none⟩ = some (.slice A0_2 l0_2.length c0_2) := (blk_cell BK124.out 2).trans rfl
             have hcz82_3 : wr.cell? ⟨gb124, 3, none⟩ = some (.bool false) := (blk_cell BK124.out 3).trans rfl
             have hfz82_0 := blk_frozen BK124.out 0
             have hfz82_1 := blk_frozen BK124.out 1
             have hfz82_2 := blk_frozen BK124.out 2
             have hfz82_3 := blk_frozen BK124.out 3
             go_wp2_with (first | ((with_reducible refine gate_callee (f := 35) rfl ?_); refine goesL_ (some 34) rfl rfl Try.func35 zq19 rfl #[.string x6_1, .int .i64 a0_0] rfl zq0 ?_; (with_reducible refine (spec_l3Front.calls k1 x6_1 a0_0 t134 t135 t136 _ A49.out).mono ?_); rintro e w83 ⟨rfl, hb⟩; refine ⟨_, rfl, ?_⟩; have n0_ := Aside0.mk (Kd.R_below zq78 hb); have n1_ := Aside0.mk (blk_below (g := gb124) (o := .cells #[.int .i64 a0_0, .string a0_1, .slice A0_2 l0_2.length c0_2, .bool false] 25 (0, 0)) zq11 hb); have n2_ := Aside0.mk (blk_below (g := gb125) (o := .cells #[.int .i64 x126000_1, .string x126001_1, .slice none 0 0, .bool x126003_1] 25 (0, 0)) zq18 hb); have n3_ := Aside0.mk (blk_below (g := gb133) (o := .cells #[.int .i64 a0_0, .string x134001_1, u134002, .bool x134003_1] 25 (0, 0)) zq41 hb); have n4_ := Aside0.mk (below_step zq7 hb); clear HO_134002; clear BK124; clear BK125; clear BK133; clear HB; have HO_134002 := n0_; have BK124 := n1_; have BK125 := n2_; have BK133 := n3_; have HB := n4_; clear n0_ n1_ n2_ n3_ n4_; (try clear hb); (try clear hb2); (try clear hk); (try clear hi); have hnb84 := NB133_125.out; have hnc84 := NB125_133.out; have hcz85_0 : w83.cell? ⟨gb133, 0, none⟩ = some (.int .i64 a0_0) := (blk_cell BK133.out 0).trans rfl; have hcz85_1 : w83.cell? ⟨gb133, 1, none⟩ = some (.string x134001_1) := (blk_cell BK133.out 1).trans rfl; have hcz85_2 : w83.cell? ⟨gb133, 2, none⟩ = some (u134002) := (blk_cell BK133.out 2).trans rfl; have hcz85_3 : w83.cell? ⟨gb133, 3, none⟩ = some (.bool x134003_1) := (blk_cell BK133.out 3).trans rfl; have hfz85_0 := blk_frozen BK133.out 0; have hfz85_1 := blk_frozen BK133.out 1; have hfz85_2 := blk_frozen BK133.out 2; have hfz85_3 := blk_frozen BK133.out 3; obtain ⟨Ao86, co86, eo86⟩ := Kd.R_slice HO_134002.out; subst eo86) | ((with_reducible refine gate_builtin (b := .append) (xs := #[.tmp 54, .tmp 56]) rfl ?_); (try (refine gate_guard zq90 ?_; dsimp only)); at_builtin; refine Kd.R_append Kd.string (w0 := w) w.heap.size rfl (.tmp 54) (.tmp 56) 23 9 (.string ⟨#[]⟩) 16 rfl Try.underlying23 info9 rfl zq60 zq99 (.slice Ao86 x134002_1.length co86) x134002_1 t135 [.string t135] (fun _ => True) (fun _ => False) rfl rfl ?aP (fun _ hk => hk.elim) ?aF ?aO ?aB ?aS ?aL ?_; (case aP => exact rfl); (case aB => exact zq7); (case aF => exact (fun _ _ => trivial)); (case aO => exact zq78); (case aS => exact (below_size zq7)); (case aL => have := LMc77.out; omega); intro v138 w87 ho hb hg hat; rw [← Ny137.out] at ho; have n0_ := Aside0.mk (blk_grown (g := gb124) (o := .cells #[.int .i64 a0_0, .string a0_1, .slice A0_2 l0_2.length c0_2, .bool false] 25 (0, 0)) zq11 hg (Kd.R_ne HO_134002.out BK124.out zq60)); have n1_ := Aside0.mk (blk_grown (g := gb125) (o := .cells #[.int .i64 x126000_1, .string x126001_1, .slice none 0 0, .bool x126003_1] 25 (0, 0)) zq18 hg (Kd.R_ne HO_134002.out BK125.out zq60)); have n2_ := Aside0.mk (blk_grown (g := gb133) (o := .cells #[.int .i64 a0_0, .string x134001_1, .slice Ao86 x134002_1.length co86, .bool x134003_1] 25 (0, 0)) zq41 hg (Kd.R_ne HO_134002.out BK133.out zq60)); have n3_ := Aside0.mk (hb); have n4_ := Aside0.mk (ho); clear BK124; clear BK125; clear BK133; clear HB; clear HO_134002; have BK124 := n0_; have BK125 := n1_; have BK133 := n2_; have HB := n3_; have HO139 := n4_; clear n0_ n1_ n2_ n3_ n4_; clear ho hb hg hat; obtain ⟨Ao88, co88, eo88⟩ := Kd.R_slice HO139.out; subst eo88; have hcz89_0 : w87.cell? ⟨gb133, 0, none⟩ = some (.int .i64 a0_0) := (blk_cell BK133.out 0).trans rfl; have hcz89_1 : w87.cell? ⟨gb133, 1, none⟩ = some (.string x134001_1) := (blk_cell BK133.out 1).trans rfl; have hcz89_2 : w87.cell? ⟨gb133, 2, none⟩ = some (.slice Ao86 x134002_1.length co86) := (blk_cell BK133.out 2).trans rfl; have hcz89_3 : w87.cell? ⟨gb133, 3, none⟩ = some (.bool x134003_1) := (blk_cell BK133.out 3).trans rfl; have hfz89_0 := blk_frozen BK133.out 0; have hfz89_1 := blk_frozen BK133.out 1; have hfz89_2 := blk_frozen BK133.out 2; have hfz89_3 := blk_frozen BK133.out 3))
             go_roundg k1
             case measure => have := HK1.out; omega
             case rel => exact ⟨(x6_1.extract (t136 : Int).toNat x6_1.size), (x126000_1), (x126001_1), (x126003_1), (x134001_1), (y137), (x134003_1), (.slice Ao88 y137.length co88), zq22, H', ⟨zq88⟩, ⟨by (with_reducible repeat (first | apply Kd.R_alloc | apply Kd.R_drewN | apply Kd.R_drew)); exact Kd.R_mono (Kd.R_far (p := ⟨gb133, 2, none⟩) (Kd.R_types HO139.out BK133.out zq60) (fun _ hk => hk.2) (.slice Ao88 y137.length co88)) (fun _ hk => trivial)⟩, ⟨by (with_reducible repeat (first | refine blk_drewN ?_ _ | refine blk_drew ?_ | refine blk_alloc ?_ _)); refine blk_far ?_ NB124_133.out _; (with_reducible repeat (first | refine blk_drewN ?_ _ | refine blk_drew ?_ | refine blk_alloc ?_ _)); exact BK124.out⟩, ⟨by (with_reducible repeat (first | refine blk_drewN ?_ _ | refine blk_drew ?_ | refine blk_alloc ?_ _)); refine blk_far ?_ NB125_133.out _; (with_reducible repeat (first | refine blk_drewN ?_ _ | refine blk_drew ?_ | refine blk_alloc ?_ _)); exact BK125.out⟩, ⟨by (with_reducible repeat (first | refine blk_drewN ?_ _ | refine blk_drew ?_ | refine blk_alloc ?_ _)); refine blk_put (cs := #[.int .i64 a0_0, .string x134001_1, .slice Ao86 x134002_1.length co86, .bool x134003_1]) ?_ 2 _ rfl; (with_reducible repeat (first | refine blk_drewN ?_ _ | refine blk_drew ?_ | refine blk_alloc ?_ _)); exact BK133.out⟩, ⟨zq7⟩⟩
            ·rw [if_neg c79] at H
             exact absurd H zq81
           ·rw [if_neg c78] at H
            exact absurd H zq81
          ·rw [if_neg c77] at H
           exact absurd H zq81
    ·rw [if_neg c29] at H
     exact absurd H zq81
  ·rw [if_neg c5] at H
   exact absurd H zq81
 ·replace c4 := Bool.eq_false_iff.mpr c4
  subst c4
  rw [if_neg (show ¬ (false = true) by decide)] at H
  simp only [Option.some.injEq, Prod.mk.injEq] at H
  obtain ⟨rfl, rfl, rfl, rfl⟩ := H
  go_enter Try.func9, Try.ntmps9
  go_wp2_with (first | ((with_reducible refine gate_dst (N := 2) rfl ?_); (try (refine gate_guard zq90 ?_; dsimp only)); refine box_event ?hg (N := 2) ?hd (cs := #[.int .i64 a0_0, .string a0_1, .slice A0_2 l0_2.length c0_2, .bool a0_3]) (t := 25) ?hr ?_; (case hd => rfl); (case hg => rfl); (case hr => first | (go_simp; done) | (go_simp; rfl)); intro gb124 hg w90 hbox hb; have n0_ := Aside0.mk (below_step zq1 hb); have n1_ := Aside0.mk (hbox); have n2_ := Aside0.mk ((by rw [hg]; exact (below_size zq1) : w.heap.size ≤ gb124)); have n3_ := Aside0.mk ((by rw [hg]; exact (below_size zq1) : w.heap.size ≤ gb124)); clear HB; have HB := n0_; have BK124 := n1_; have GW124 := n2_; have GE124 := n3_; clear n0_ n1_ n2_ n3_; clear hb hbox hg) | ((with_reducible refine gate_dst (N := 4) rfl ?_); (try (refine gate_guard zq90 ?_; dsimp only)); refine box_event ?hg (N := 4) ?hd (cs := #[.int .i64 0, .string (⟨#[]⟩ : ByteArray), .slice none 0 0, .bool false]) (t := 25) ?hr ?_; (case hd => rfl); (case hg => rfl); (case hr => first | (go_simp; done) | (go_simp; rfl)); intro gb125 hg w91 hbox hb; have n0_ := Aside0.mk (blk_below (g := gb124) (o := .cells #[.int .i64 a0_0, .string a0_1, .slice A0_2 l0_2.length c0_2, .bool a0_3] 25 (0, 0)) zq11 hb); have n1_ := Aside0.mk (below_step zq54 hb); have n2_ := Aside0.mk (hbox); have n3_ := Aside0.mk ((by rw [hg]; exact (below_size zq54) : w.heap.size ≤ gb125)); have n4_ := Aside0.mk ((by rw [hg]; exact (below_size zq54) : w.heap.size ≤ gb125)); have n5_ := Aside0.mk ((by rw [hg]; exact Nat.ne_of_lt (blk_lt (g := gb124) (o := .cells #[.int .i64 a0_0, .string a0_1, .slice A0_2 l0_2.length c0_2, .bool a0_3] 25 (0, 0)) zq11) : gb124 ≠ gb125)); have n6_ := Aside0.mk ((by rw [hg]; exact Nat.ne_of_gt (blk_lt (g := gb124) (o := .cells #[.int .i64 a0_0, .string a0_1, .slice A0_2 l0_2.length c0_2, .bool a0_3] 25 (0, 0)) zq11) : gb125 ≠ gb124)); clear BK124; clear HB; have BK124 := n0_; have HB := n1_; have BK125 := n2_; have GW125 := n3_; have GE125 := n4_; have NB124_125 := n5_; have NB125_124 := n6_; clear n0_ n1_ n2_ n3_ n4_ n5_ n6_; clear hb hbox hg; have hnb92 := NB124_125.out; have hnc92 := NB125_124.out; have hcz93_0 : w91.cell? ⟨gb124, 0, none⟩ = some (.int .i64 a0_0) := (blk_cell BK124.out 0).trans rfl; have hcz93_1 : w91.cell? ⟨gb124, 1, none⟩ = some (.string a0_1) := (blk_cell BK124.out 1).trans rfl; have hcz93_2 : w91.cell? ⟨gb124, 2, none⟩ = some (.slice A0_2 l0_2.length c0_2) := (blk_cell BK124.out 2).trans rfl; have hcz93_3 : w91.cell? ⟨gb124, 3, none⟩ = some (.bool a0_3) := (blk_cell BK124.out 3).trans rfl; have hfz93_0 := blk_frozen BK124.out 0; have hfz93_1 := blk_frozen BK124.out 1; have hfz93_2 := blk_frozen BK124.out 2; have hfz93_3 := blk_frozen BK124.out 3) | ((with_reducible refine gate_callee (f := 10) rfl ?_); refine goesL_ (some 11) rfl rfl Try.func10 zq19 rfl #[.agg #[.int .i64 a0_0, .string a0_1, .slice A0_2 l0_2.length c0_2, .bool a0_3]] rfl zq0 ?_; (with_reducible refine (spec_ValidDecoder.calls k a0_0 a0_1 _ _ l0_2 a0_3 false _ ?side1 ?side2 A3.out).mono ?_); (case side1 => repeat (first | exact (Kd.C_below HR0_2.out HB.out) | (with_reducible refine Kd.C_alloc ?_ _) | (with_reducible refine Kd.C_drewN ?_ _) | (with_reducible refine Kd.C_drew ?_))); (case side2 => exact HC0_2.out); rintro e w94 ⟨rfl, hb⟩; refine ⟨_, rfl, ?_⟩; have n0_ := Aside0.mk (blk_below (g := gb124) (o := .cells #[.int .i64 a0_0, .string a0_1, .slice A0_2 l0_2.length c0_2, .bool a0_3] 25 (0, 0)) zq11 hb); have n1_ := Aside0.mk (blk_below (g := gb125) (o := .cells #[.int .i64 0, .string (⟨#[]⟩ : ByteArray), .slice none 0 0, .bool false] 25 (0, 0)) zq18 hb); have n2_ := Aside0.mk (below_step zq12 hb); clear BK124; clear BK125; clear HB; have BK124 := n0_; have BK125 := n1_; have HB := n2_; clear n0_ n1_ n2_; (try clear hb); (try clear hb2); (try clear hk); (try clear hi); have hcz95_0 : w94.cell? ⟨gb125, 0, none⟩ = some (.int .i64 0) := (blk_cell BK125.out 0).trans rfl; have hcz95_1 : w94.cell? ⟨gb125, 1, none⟩ = some (.string (⟨#[]⟩ : ByteArray)) := (blk_cell BK125.out 1).trans rfl; have hcz95_2 : w94.cell? ⟨gb125, 2, none⟩ = some (.slice none 0 0) := (blk_cell BK125.out 2).trans rfl; have hcz95_3 : w94.cell? ⟨gb125, 3, none⟩ = some (.bool false) := (blk_cell BK125.out 3).trans rfl; have hfz95_0 := blk_frozen BK125.out 0; have hfz95_1 := blk_frozen BK125.out 1; have hfz95_2 := blk_frozen BK125.out 2; have hfz95_3 := blk_frozen BK125.out 3))
  refine bodyPost_ret (results_cell_row rfl _ _ gb125 25 #[.int .i64 0, .string (⟨#[]⟩ : ByteArray), .slice none 0 0, .bool false] (0, 0) _ rfl (by (with_reducible repeat (first | refine blk_drewN ?_ _ | refine blk_drew ?_ | refine blk_alloc ?_ _)); refine blk_put (cs := #[.int .i64 0, .string (⟨#[]⟩ : ByteArray), .slice none 0 0, .bool false]) ?_ 3 _ rfl; (with_reducible repeat (first | refine blk_drewN ?_ _ | refine blk_drew ?_ | refine blk_alloc ?_ _)); refine blk_put (cs := #[.int .i64 0, .string (⟨#[]⟩ : ByteArray), .slice none 0 0, .bool false]) ?_ 2 _ rfl; (with_reducible repeat (first | refine blk_drewN ?_ _ | refine blk_drew ?_ | refine blk_alloc ?_ _)); refine blk_put (cs := #[.int .i64 0, .string (⟨#[]⟩ : ByteArray), .slice none 0 0, .bool false]) ?_ 1 _ rfl; (with_reducible repeat (first | refine blk_drewN ?_ _ | refine blk_drew ?_ | refine blk_alloc ?_ _)); refine blk_put (cs := #[.int .i64 0, .string (⟨#[]⟩ : ByteArray), .slice none 0 0, .bool false]) ?_ 0 _ rfl; (with_reducible repeat (first | refine blk_drewN ?_ _ | refine blk_drew ?_ | refine blk_alloc ?_ _)); exact BK125.out) Try.underlying25 rfl zq19) rfl ?_
  exact ⟨_, zq8, zq89, zq12⟩
end Go.Proofs.Ytgjipjffpodjlaa.K
namespace Go.Proofs.Ytgjipjffpodjlaa.K
open Go.RowKit Go.Proofs.YtgjipjffpodjlaaW.PrintWords Go.Proofs.YtgjipjffpodjlaaW.PrintLast Go.Proofs.YtgjipjffpodjlaaW.PrintMore
attribute [local go_sem] max2_int min2_int max_two min_two max_three min_three max_four min_four   
set_option linter.unusedVariables false
set_option linter.unusedSimpArgs false
def slices_Clone_string_string.f (l0 : List ByteArray) : Option (List ByteArray) := if l0.length ≤ 8796093022208 then some l0 else none
set_option maxHeartbeats 800000 in
set_option maxRecDepth 100000 in
theorem slices_Clone_string_string.calls (A0 : Option Addr) (c0 : Nat) (l0 : List ByteArray) (r : List ByteArray) (w : World) (hr0 : Kd.C Kd.string w A0 l0.length l0) (hc0 : l0.length ≤ c0) (h : slices_Clone_string_string.f l0 = some r) :
    Calls Try.prog 33 #[.slice A0 l0.length c0] w fun e w' => ∃ v0_ : Value, e = .returned (v0_) ∧ Kd.R Kd.string 9 w' w.heap.size (fun _ => True) v0_ r ∧ Below w.heap.size w w' := by
  unfold slices_Clone_string_string.f at h
  split at h
  case isFalse => cases h
  case isTrue hlim =>
  obtain rfl := Option.some.inj h
  clear h
  have hnil := fun (w : World) (A : Option Addr) (n c : Nat) => Lib.run_eql_slice_nil (P := Try.prog) w 23 9 A n c 0 0 Try.underlying23
  have HR := Aside0.mk hr0
  have HB := Aside0.mk (Below.refl w.heap.size w)
  rcases A0 with _ | ad
  · have hl : l0 = [] := by
      rcases l0 with _ | ⟨x, l⟩
      · rfl
      · obtain ⟨ad, h, _⟩ := hr0.2.2 (by simp)
        cases h
    subst hl
    clear hr0
    go_enter Try.func33, Try.ntmps33
    go_wp2
    go_ret
    exact ⟨_, rfl, Kd.R_nil _ _ _ _ _, HB.out⟩
  · clear hr0
    have LM := Aside0.mk hlim
    clear hlim
    go_enter Try.func33, Try.ntmps33
    go_wp2_with (first | ((with_reducible refine gate_dst (N := 5) rfl ?_); refine Kd.R_lit Kd.string w.heap.size 9 (w0 := w) ?hg (N := 5) ?hd (xs := ([] : List ByteArray)) (inner := []) (ok := fun _ => True) (okp := fun _ => True) ?hr ?hp (fun _ hk => hk) trivial (Below.refl _ _) (Nat.le_refl _) (by simp) ?_; (case hd => rfl); (case hg => rfl); (case hr => first | (go_simp; done) | (go_simp; rfl)); (case hp => exact (Reps.none _ _)); intro v103 w10 ho11 hb hg_ hnew_; have HO := Aside0.mk ho11; have HB2 := Aside0.mk hb; clear hg_ hnew_ ho11 hb HB) | ((with_reducible refine gate_dst (N := 7) rfl ?_); go_must (refine Kd.R_append_row (w0 := w) Value.string ByteArray.empty (h1 := fun _ => rfl) w.heap.size ?hgd (.tmp 5) (.tmp 6) 23 9 (.string ⟨#[]⟩) 16 ?ho Try.underlying23 info9 rfl (by decide) v103 [] l0 (some ad) l0.length c0 (fun _ => True) ?hs ?hx (fun _ _ => trivial) HO.out (Kd.C_below HR.out HB2.out) HB2.out (below_size HB2.out) ?hl ?_); (case hgd => rfl); (case ho => rfl); (case hs => rfl); (case hx => rfl); (case hl => have := LM.out; simp; omega); intro v1 w1 hR hb hg hat; have HO1 := Aside0.mk hR; have HB3 := Aside0.mk hb; clear hR hb hg hat))
    go_ret
    exact ⟨_, rfl, HO1.out, HB3.out⟩
end Go.Proofs.Ytgjipjffpodjlaa.K
namespace Go.Proofs.Ytgjipjffpodjlaa.K
open Go.RowKit Go.Proofs.YtgjipjffpodjlaaW.PrintWords Go.Proofs.YtgjipjffpodjlaaW.PrintLast Go.Proofs.YtgjipjffpodjlaaW.PrintMore
attribute [local go_sem] max2_int min2_int max_two min_two max_three min_three max_four min_four   
set_option linter.unusedVariables false
set_option linter.unusedSimpArgs false
def impl_Feed.l0 : Nat → ByteArray → Int → ByteArray → List ByteArray → Bool → Option (Int × ByteArray × List ByteArray × Bool)
 | 0, _, _, _, _, _ => none
 | k + 1, x5, x335000, x335001, x335002, x335003 => (impl_front.f k x5 x335000).bind fun bt340 => (if bt340.1 = 0 then (some (x335000, x5, x335002, x335003)) else (if bt340.1 = 2 then (some (x335000, (⟨#[]⟩ : ByteArray), x335002, true)) else (if (x335002.length : Int) = 500 then (some (x335000, (⟨#[]⟩ : ByteArray), x335002, true)) else (if x335002.length < 8796093022208 then (if 0 ≤ bt340.2.2 then (if bt340.2.2 ≤ (x5.size : Int) then (impl_Feed.l0 k (x5.extract (bt340.2.2 : Int).toNat x5.size) x335000 x335001 (x335002 ++ [bt340.2.1]) x335003) else (none)) else (none)) else (none)))))
def impl_Feed.f (k : Nat) (a0_0 : Int) (a0_1 : ByteArray) (l0_2 : List ByteArray) (a0_3 : Bool) (a1 : ByteArray) : Option (Int × ByteArray × List ByteArray × Bool) := (impl_ValidDecoder.f k a0_0 a0_1 l0_2 a0_3).bind fun t336 => (if t336 = true then ((slices_Clone_string_string.f l0_2).bind fun t337 => (if a0_3 = true then (some (a0_0, a0_1, t337, a0_3)) else (if a0_1.size + a1.size ≤ 9223372036854775807 then (impl_Feed.l0 k (a0_1 ++ a1) a0_0 a0_1 t337 a0_3) else (none)))) else (some (0, (⟨#[]⟩ : ByteArray), ([] : List ByteArray), false)))
theorem impl_Feed.mono_l : ∀ k, (∀ y0 y1 y2 y3 y4, LeO (impl_Feed.l0 k y0 y1 y2 y3 y4) (impl_Feed.l0 (k + 1) y0 y1 y2 y3 y4))
 | 0 => fun _ _ _ _ _ r h => by simp [impl_Feed.l0] at h
 | k + 1 => by
  have ih0 := impl_Feed.mono_l k
  ·intro y0 y1 y2 y3 y4
   unfold impl_Feed.l0
   repeat' first
   | (with_reducible exact ih0 _ _ _ _ _)
   | (with_reducible exact impl_ValidDecoder.mono _ _ _ _ _)
   | (with_reducible exact impl_front.mono _ _ _)
   | (with_reducible exact LeO.refl _)
   | (with_reducible exact LeO.none _)
   | (with_reducible refine LeO.ite ?_ ?_)
   | (with_reducible refine LeO.bind ?_ (fun _ => ?_))
   | exact ih0 _ _ _ _ _
   | exact impl_ValidDecoder.mono _ _ _ _ _
   | exact impl_front.mono _ _ _
   | exact LeO.none _
   | refine LeO.ite ?_ ?_
   | refine LeO.bind ?_ (fun _ => ?_)
theorem impl_Feed.mono : ∀ a0 a1 a2 a3 a4 k, LeO (impl_Feed.f k a0 a1 a2 a3 a4) (impl_Feed.f (k + 1) a0 a1 a2 a3 a4) := by
 intro a0 a1 a2 a3 a4 k
 have ih0 := impl_Feed.mono_l k
 unfold impl_Feed.f
 repeat' first
   | (with_reducible exact ih0 _ _ _ _ _)
   | (with_reducible exact impl_ValidDecoder.mono _ _ _ _ _)
   | (with_reducible exact impl_front.mono _ _ _)
   | (with_reducible exact LeO.refl _)
   | (with_reducible exact LeO.none _)
   | (with_reducible refine LeO.ite ?_ ?_)
   | (with_reducible refine LeO.bind ?_ (fun _ => ?_))
   | exact ih0 _ _ _ _ _
   | exact impl_ValidDecoder.mono _ _ _ _ _
   | exact impl_front.mono _ _ _
   | exact LeO.none _
   | refine LeO.ite ?_ ?_
   | refine LeO.bind ?_ (fun _ => ?_)
set_option maxHeartbeats 2000000 in
set_option maxRecDepth 100000 in
theorem impl_Feed.calls (k : Nat) (a0_0 : Int) (a0_1 : ByteArray) (A0_2 : Option Addr) (c0_2 : Nat) (l0_2 : List ByteArray) (a0_3 : Bool) (a1 : ByteArray) (r1 : Int) (r2 : ByteArray) (r3 : List ByteArray) (r4 : Bool) (w : World) (hr0_2 : Kd.C Kd.string w A0_2 l0_2.length l0_2) (hc0_2 : l0_2.length ≤ c0_2) (h : impl_Feed.f k a0_0 a0_1 l0_2 a0_3 a1 = some (r1, r2, r3, r4)) :
  Calls Try.prog 7 #[.agg #[.int .i64 a0_0, .string a0_1, .slice A0_2 l0_2.length c0_2, .bool a0_3], .string a1] w fun e w' => ∃ v2_ : Value, e = .returned (.agg #[.int .i64 r1, .string r2, v2_, .bool r4]) ∧ Kd.R Kd.string 9 w' w.heap.size (fun _ => True) v2_ r3 ∧ Below w.heap.size w w' := by
 have hu25 := Try.underlying25
 have HR0_2 := Aside0.mk hr0_2
 have HC0_2 := Aside0.mk hc0_2
 clear hr0_2 hc0_2
 have HB := Aside0.mk (Below.refl w.heap.size w)
 have H : ((impl_ValidDecoder.f k a0_0 a0_1 l0_2 a0_3).bind fun t336 => (if t336 = true then ((slices_Clone_string_string.f l0_2).bind fun t337 => (if a0_3 = true then (some (a0_0, a0_1, t337, a0_3)) else (if a0_1.size + a1.size ≤ 9223372036854775807 then (impl_Feed.l0 k (a0_1 ++ a1) a0_0 a0_1 t337 a0_3) else (none)))) else (some (0, (⟨#[]⟩ : ByteArray), ([] : List ByteArray), false)))) = some (r1, r2, r3, r4) := h
 clear h
 replace H := Option.bind_eq_some_iff.mp H
 obtain ⟨t336, A30, H⟩ := H
 try dsimp only at H
 have A3 := Aside0.mk A30
 clear A30
 by_cases c4 : t336 = true
 ·subst c4
  rw [if_pos rfl] at H
  replace H := Option.bind_eq_some_iff.mp H
  obtain ⟨t337, A50, H⟩ := H
  try dsimp only at H
  have A5 := Aside0.mk A50
  clear A50
  by_cases c6 : a0_3 = true
  ·subst c6
   rw [if_pos rfl] at H
   simp only [Option.some.injEq, Prod.mk.injEq] at H
   obtain ⟨rfl, rfl, rfl, rfl⟩ := H
   go_enter Try.func7, Try.ntmps7
   go_wp2_with (first | ((with_reducible refine gate_dst (N := 2) rfl ?_); (try (refine gate_guard zq90 ?_; dsimp only)); refine box_event ?hg (N := 2) ?hd (cs := #[.int .i64 a0_0, .string a0_1, .slice A0_2 l0_2.length c0_2, .bool true]) (t := 25) ?hr ?_; (case hd => rfl); (case hg => rfl); (case hr => first | (go_simp; done) | (go_simp; rfl)); intro gb334 hg w7 hbox hb; have n0_ := Aside0.mk (below_step zq1 hb); have n1_ := Aside0.mk (hbox); have n2_ := Aside0.mk ((by rw [hg]; exact (below_size zq1) : w.heap.size ≤ gb334)); have n3_ := Aside0.mk ((by rw [hg]; exact (below_size zq1) : w.heap.size ≤ gb334)); clear HB; have HB := n0_; have BK334 := n1_; have GW334 := n2_; have GE334 := n3_; clear n0_ n1_ n2_ n3_; clear hb hbox hg) | ((with_reducible refine gate_dst (N := 4) rfl ?_); (try (refine gate_guard zq90 ?_; dsimp only)); refine box_event ?hg (N := 4) ?hd (cs := #[.int .i64 0, .string (⟨#[]⟩ : ByteArray), .slice none 0 0, .bool false]) (t := 25) ?hr ?_; (case hd => rfl); (case hg => rfl); (case hr => first | (go_simp; done) | (go_simp; rfl)); intro gb335 hg w8 hbox hb; have n0_ := Aside0.mk (blk_below (g := gb334) (o := .cells #[.int .i64 a0_0, .string a0_1, .slice A0_2 l0_2.length c0_2, .bool true] 25 (0, 0)) zq38 hb); have n1_ := Aside0.mk (below_step zq52 hb); have n2_ := Aside0.mk (hbox); have n3_ := Aside0.mk ((by rw [hg]; exact (below_size zq52) : w.heap.size ≤ gb335)); have n4_ := Aside0.mk ((by rw [hg]; exact (below_size zq52) : w.heap.size ≤ gb335)); have n5_ := Aside0.mk ((by rw [hg]; exact Nat.ne_of_lt (blk_lt (g := gb334) (o := .cells #[.int .i64 a0_0, .string a0_1, .slice A0_2 l0_2.length c0_2, .bool true] 25 (0, 0)) zq38) : gb334 ≠ gb335)); have n6_ := Aside0.mk ((by rw [hg]; exact Nat.ne_of_gt (blk_lt (g := gb334) (o := .cells #[.int .i64 a0_0, .string a0_1, .slice A0_2 l0_2.length c0_2, .bool true] 25 (0, 0)) zq38) : gb335 ≠ gb334)); clear BK334; clear HB; have BK334 := n0_; have HB := n1_; have BK335 := n2_; have GW335 := n3_; have GE335 := n4_; have NB334_335 := n5_; have NB335_334 := n6_; clear n0_ n1_ n2_ n3_ n4_ n5_ n6_; clear hb hbox hg; have hnb9 := NB334_335.out; have hnc9 := NB335_334.out; have hcz10_0 : w8.cell? ⟨gb334, 0, none⟩ = some (.int .i64 a0_0) := (blk_cell BK334.out 0).trans rfl; have hcz10_1 : w8.cell? ⟨gb334, 1, none⟩ = some (.string a0_1) := (blk_cell BK334.out 1).trans rfl; have hcz10_2 : w8.cell? ⟨gb334, 2, none⟩ = some (.slice A0_2 l0_2.length c0_2) := (blk_cell BK334.out 2).trans rfl; have hcz10_3 : w8.cell? ⟨gb334, 3, none⟩ = some (.bool true) := (blk_cell BK334.out 3).trans rfl; have hfz10_0 := blk_frozen BK334.out 0; have hfz10_1 := blk_frozen BK334.out 1; have hfz10_2 := blk_frozen BK334.out 2; have hfz10_3 := blk_frozen BK334.out 3) | ((with_reducible refine gate_callee (f := 11) rfl ?_); refine goesL_ (some 10) rfl rfl Try.func11 zq19 rfl #[.agg #[.int .i64 a0_0, .string a0_1, .slice A0_2 l0_2.length c0_2, .bool true]] rfl zq0 ?_; (with_reducible refine (impl_ValidDecoder.calls k a0_0 a0_1 _ _ l0_2 true true _ ?side1 ?side2 A3.out).mono ?_); (case side1 => repeat (first | exact (Kd.C_below HR0_2.out HB.out) | (with_reducible refine Kd.C_alloc ?_ _) | (with_reducible refine Kd.C_drewN ?_ _) | (with_reducible refine Kd.C_drew ?_))); (case side2 => exact HC0_2.out); rintro e w11 ⟨rfl, hb⟩; refine ⟨_, rfl, ?_⟩; have n0_ := Aside0.mk (blk_below (g := gb334) (o := .cells #[.int .i64 a0_0, .string a0_1, .slice A0_2 l0_2.length c0_2, .bool true] 25 (0, 0)) zq38 hb); have n1_ := Aside0.mk (blk_below (g := gb335) (o := .cells #[.int .i64 0, .string (⟨#[]⟩ : ByteArray), .slice none 0 0, .bool false] 25 (0, 0)) zq61 hb); have n2_ := Aside0.mk (below_step zq25 hb); clear BK334; clear BK335; clear HB; have BK334 := n0_; have BK335 := n1_; have HB := n2_; clear n0_ n1_ n2_; (try clear hb); (try clear hb2); (try clear hk); (try clear hi); have hcz12_0 : w11.cell? ⟨gb334, 0, none⟩ = some (.int .i64 a0_0) := (blk_cell BK334.out 0).trans rfl; have hcz12_1 : w11.cell? ⟨gb334, 1, none⟩ = some (.string a0_1) := (blk_cell BK334.out 1).trans rfl; have hcz12_2 : w11.cell? ⟨gb334, 2, none⟩ = some (.slice A0_2 l0_2.length c0_2) := (blk_cell BK334.out 2).trans rfl; have hcz12_3 : w11.cell? ⟨gb334, 3, none⟩ = some (.bool true) := (blk_cell BK334.out 3).trans rfl; have hfz12_0 := blk_frozen BK334.out 0; have hfz12_1 := blk_frozen BK334.out 1; have hfz12_2 := blk_frozen BK334.out 2; have hfz12_3 := blk_frozen BK334.out 3) | ((with_reducible refine gate_callee (f := 33) rfl ?_); refine goesL_ (some 15) rfl rfl Try.func33 zq19 rfl #[.slice A0_2 l0_2.length c0_2] rfl zq0 ?_; (with_reducible refine (slices_Clone_string_string.calls _ _ l0_2 t337 _ ?side1 ?side2 A5.out).mono ?_); (case side1 => repeat (first | exact (Kd.C_below HR0_2.out HB.out) | (with_reducible refine Kd.C_alloc ?_ _) | (with_reducible refine Kd.C_drewN ?_ _) | (with_reducible refine Kd.C_drew ?_))); (case side2 => exact HC0_2.out); rintro e w13 ⟨v338, rfl, ho0, hb⟩; refine ⟨_, rfl, ?_⟩; have n0_ := Aside0.mk (Kd.R_lower ho0 (below_size zq25)); have n1_ := Aside0.mk (blk_below (g := gb334) (o := .cells #[.int .i64 a0_0, .string a0_1, .slice A0_2 l0_2.length c0_2, .bool true] 25 (0, 0)) zq38 hb); have n2_ := Aside0.mk (blk_below (g := gb335) (o := .cells #[.int .i64 0, .string (⟨#[]⟩ : ByteArray), .slice none 0 0, .bool false] 25 (0, 0)) zq61 hb); have n3_ := Aside0.mk (below_step zq25 hb); clear BK334; clear BK335; clear HB; have HO339 := n0_; have BK334 := n1_; have BK335 := n2_; have HB := n3_; clear n0_ n1_ n2_ n3_; (try clear hb); (try clear hb2); (try clear hk); (try clear hi); (try clear ho0); obtain ⟨Ao14, co14, eo14⟩ := Kd.R_slice HO339.out; subst eo14; have hcz15_0 : w13.cell? ⟨gb334, 0, none⟩ = some (.int .i64 a0_0) := (blk_cell BK334.out 0).trans rfl; have hcz15_1 : w13.cell? ⟨gb334, 1, none⟩ = some (.string a0_1) := (blk_cell BK334.out 1).trans rfl; have hcz15_2 : w13.cell? ⟨gb334, 2, none⟩ = some (.slice A0_2 l0_2.length c0_2) := (blk_cell BK334.out 2).trans rfl; have hcz15_3 : w13.cell? ⟨gb334, 3, none⟩ = some (.bool true) := (blk_cell BK334.out 3).trans rfl; have hfz15_0 := blk_frozen BK334.out 0; have hfz15_1 := blk_frozen BK334.out 1; have hfz15_2 := blk_frozen BK334.out 2; have hfz15_3 := blk_frozen BK334.out 3; have hcz16_0 : w13.cell? ⟨gb335, 0, none⟩ = some (.int .i64 0) := (blk_cell BK335.out 0).trans rfl; have hcz16_1 : w13.cell? ⟨gb335, 1, none⟩ = some (.string (⟨#[]⟩ : ByteArray)) := (blk_cell BK335.out 1).trans rfl; have hcz16_2 : w13.cell? ⟨gb335, 2, none⟩ = some (.slice none 0 0) := (blk_cell BK335.out 2).trans rfl; have hcz16_3 : w13.cell? ⟨gb335, 3, none⟩ = some (.bool false) := (blk_cell BK335.out 3).trans rfl; have hfz16_0 := blk_frozen BK335.out 0; have hfz16_1 := blk_frozen BK335.out 1; have hfz16_2 := blk_frozen BK335.out 2; have hfz16_3 := blk_frozen BK335.out 3))
   refine bodyPost_ret (results_cell_row rfl _ _ gb335 25 #[.int .i64 a0_0, .string a0_1, .slice Ao14 t337.length co14, .bool true] (0, 0) _ rfl (by (with_reducible repeat (first | refine blk_drewN ?_ _ | refine blk_drew ?_ | refine blk_alloc ?_ _)); refine blk_put (cs := #[.int .i64 a0_0, .string a0_1, .slice Ao14 t337.length co14, .bool false]) ?_ 3 _ rfl; (with_reducible repeat (first | refine blk_drewN ?_ _ | refine blk_drew ?_ | refine blk_alloc ?_ _)); refine blk_put (cs := #[.int .i64 a0_0, .string a0_1, .slice none 0 0, .bool false]) ?_ 2 _ rfl; (with_reducible repeat (first | refine blk_drewN ?_ _ | refine blk_drew ?_ | refine blk_alloc ?_ _)); refine blk_put (cs := #[.int .i64 a0_0, .string (⟨#[]⟩ : ByteArray), .slice none 0 0, .bool false]) ?_ 1 _ rfl; (with_reducible repeat (first | refine blk_drewN ?_ _ | refine blk_drew ?_ | refine blk_alloc ?_ _)); refine blk_put (cs := #[.int .i64 0, .string (⟨#[]⟩ : ByteArray), .slice none 0 0, .bool false]) ?_ 0 _ rfl; (with_reducible repeat (first | refine blk_drewN ?_ _ | refine blk_drew ?_ | refine blk_alloc ?_ _)); refine blk_far ?_ NB335_334.out _; (with_reducible repeat (first | refine blk_drewN ?_ _ | refine blk_drew ?_ | refine blk_alloc ?_ _)); exact BK335.out) Try.underlying25 rfl zq19) rfl ?_
   exact ⟨_, zq8, by (with_reducible repeat (first | apply Kd.R_alloc | apply Kd.R_drewN | apply Kd.R_drew)); exact Kd.R_mono (Kd.R_far (p := ⟨gb335, 3, none⟩) (Kd.R_far (p := ⟨gb335, 2, none⟩) (Kd.R_far (p := ⟨gb335, 1, none⟩) (Kd.R_far (p := ⟨gb335, 0, none⟩) (Kd.R_far (p := ⟨gb334, 2, none⟩) (Kd.R_types (Kd.R_types HO339.out BK334.out zq60) BK335.out zq60) (fun _ hk => hk.1.2) (.slice Ao14 t337.length co14)) (fun _ hk => hk.2) (.int .i64 a0_0)) (fun _ hk => hk.2) (.string a0_1)) (fun _ hk => hk.2) (.slice Ao14 t337.length co14)) (fun _ hk => hk.2) (.bool true)) (fun _ hk => trivial), zq25⟩
  ·replace c6 := Bool.eq_false_iff.mpr c6
   subst c6
   rw [if_neg (show ¬ (false = true) by decide)] at H
   by_cases c17 : a0_1.size + a1.size ≤ 9223372036854775807
   ·rw [if_pos c17] at H
    have c17b0 := eq_true c17
    have c17b1 : decide (a0_1.size + a1.size ≤ 9223372036854775807) = true := decide_eq_true c17
    try have c17b2 : (9223372036854775807 < a0_1.size + a1.size) = False := eq_false (Nat.not_lt.2 c17)
    have H' := Aside0.mk H
    clear H
    go_enter Try.func7, Try.ntmps7
    go_wp2_with (first | ((with_reducible refine gate_dst (N := 2) rfl ?_); (try (refine gate_guard zq90 ?_; dsimp only)); refine box_event ?hg (N := 2) ?hd (cs := #[.int .i64 a0_0, .string a0_1, .slice A0_2 l0_2.length c0_2, .bool false]) (t := 25) ?hr ?_; (case hd => rfl); (case hg => rfl); (case hr => first | (go_simp; done) | (go_simp; rfl)); intro gb334 hg w18 hbox hb; have n0_ := Aside0.mk (below_step zq1 hb); have n1_ := Aside0.mk (hbox); have n2_ := Aside0.mk ((by rw [hg]; exact (below_size zq1) : w.heap.size ≤ gb334)); have n3_ := Aside0.mk ((by rw [hg]; exact (below_size zq1) : w.heap.size ≤ gb334)); clear HB; have HB := n0_; have BK334 := n1_; have GW334 := n2_; have GE334 := n3_; clear n0_ n1_ n2_ n3_; clear hb hbox hg) | ((with_reducible refine gate_dst (N := 4) rfl ?_); (try (refine gate_guard zq90 ?_; dsimp only)); refine box_event ?hg (N := 4) ?hd (cs := #[.int .i64 0, .string (⟨#[]⟩ : ByteArray), .slice none 0 0, .bool false]) (t := 25) ?hr ?_; (case hd => rfl); (case hg => rfl); (case hr => first | (go_simp; done) | (go_simp; rfl)); intro gb335 hg w19 hbox hb; have n0_ := Aside0.mk (blk_below (g := gb334) (o := .cells #[.int .i64 a0_0, .string a0_1, .slice A0_2 l0_2.length c0_2, .bool false] 25 (0, 0)) zq38 hb); have n1_ := Aside0.mk (below_step zq52 hb); have n2_ := Aside0.mk (hbox); have n3_ := Aside0.mk ((by rw [hg]; exact (below_size zq52) : w.heap.size ≤ gb335)); have n4_ := Aside0.mk ((by rw [hg]; exact (below_size zq52) : w.heap.size ≤ gb335)); have n5_ := Aside0.mk ((by rw [hg]; exact Nat.ne_of_lt (blk_lt (g := gb334) (o := .cells #[.int .i64 a0_0, .string a0_1, .slice A0_2 l0_2.length c0_2, .bool false] 25 (0, 0)) zq38) : gb334 ≠ gb335)); have n6_ := Aside0.mk ((by rw [hg]; exact Nat.ne_of_gt (blk_lt (g := gb334) (o := .cells #[.int .i64 a0_0, .string a0_1, .slice A0_2 l0_2.length c0_2, .bool false] 25 (0, 0)) zq38) : gb335 ≠ gb334)); clear BK334; clear HB; have BK334 := n0_; have HB := n1_; have BK335 := n2_; have GW335 := n3_; have GE335 := n4_; have NB334_335 := n5_; have NB335_334 := n6_; clear n0_ n1_ n2_ n3_ n4_ n5_ n6_; clear hb hbox hg; have hnb20 := NB334_335.out; have hnc20 := NB335_334.out; have hcz21_0 : w19.cell? ⟨gb334, 0, none⟩ = some (.int .i64 a0_0) := (blk_cell BK334.out 0).trans rfl; have hcz21_1 : w19.cell? ⟨gb334, 1, none⟩ = some (.string a0_1) := (blk_cell BK334.out 1).trans rfl; have hcz21_2 : w19.cell? ⟨gb334, 2, none⟩ = some (.slice A0_2 l0_2.length c0_2) := (blk_cell BK334.out 2).trans rfl; have hcz21_3 : w19.cell? ⟨gb334, 3, none⟩ = some (.bool false) := (blk_cell BK334.out 3).trans rfl; have hfz21_0 := blk_frozen BK334.out 0; have hfz21_1 := blk_frozen BK334.out 1; have hfz21_2 := blk_frozen BK334.out 2; have hfz21_3 := blk_frozen BK334.out 3) | ((with_reducible refine gate_callee (f := 11) rfl ?_); refine goesL_ (some 10) rfl rfl Try.func11 zq19 rfl #[.agg #[.int .i64 a0_0, .string a0_1, .slice A0_2 l0_2.length c0_2, .bool false]] rfl zq0 ?_; (with_reducible refine (impl_ValidDecoder.calls k a0_0 a0_1 _ _ l0_2 false true _ ?side1 ?side2 A3.out).mono ?_); (case side1 => repeat (first | exact (Kd.C_below HR0_2.out HB.out) | (with_reducible refine Kd.C_alloc ?_ _) | (with_reducible refine Kd.C_drewN ?_ _) | (with_reducible refine Kd.C_drew ?_))); (case side2 => exact HC0_2.out); rintro e w22 ⟨rfl, hb⟩; refine ⟨_, rfl, ?_⟩; have n0_ := Aside0.mk (blk_below (g := gb334) (o := .cells #[.int .i64 a0_0, .string a0_1, .slice A0_2 l0_2.length c0_2, .bool false] 25 (0, 0)) zq38 hb); have n1_ := Aside0.mk (blk_below (g := gb335) (o := .cells #[.int .i64 0, .string (⟨#[]⟩ : ByteArray), .slice none 0 0, .bool false] 25 (0, 0)) zq61 hb); have n2_ := Aside0.mk (below_step zq25 hb); clear BK334; clear BK335; clear HB; have BK334 := n0_; have BK335 := n1_; have HB := n2_; clear n0_ n1_ n2_; (try clear hb); (try clear hb2); (try clear hk); (try clear hi); have hcz23_0 : w22.cell? ⟨gb334, 0, none⟩ = some (.int .i64 a0_0) := (blk_cell BK334.out 0).trans rfl; have hcz23_1 : w22.cell? ⟨gb334, 1, none⟩ = some (.string a0_1) := (blk_cell BK334.out 1).trans rfl; have hcz23_2 : w22.cell? ⟨gb334, 2, none⟩ = some (.slice A0_2 l0_2.length c0_2) := (blk_cell BK334.out 2).trans rfl; have hcz23_3 : w22.cell? ⟨gb334, 3, none⟩ = some (.bool false) := (blk_cell BK334.out 3).trans rfl; have hfz23_0 := blk_frozen BK334.out 0; have hfz23_1 := blk_frozen BK334.out 1; have hfz23_2 := blk_frozen BK334.out 2; have hfz23_3 := blk_frozen BK334.out 3) | ((with_reducible refine gate_callee (f := 33) rfl ?_); refine goesL_ (some 15) rfl rfl Try.func33 zq19 rfl #[.slice A0_2 l0_2.length c0_2] rfl zq0 ?_; (with_reducible refine (slices_Clone_string_string.calls _ _ l0_2 t337 _ ?side1 ?side2 A5.out).mono ?_); (case side1 => repeat (first | exact (Kd.C_below HR0_2.out HB.out) | (with_reducible refine Kd.C_alloc ?_ _) | (with_reducible refine Kd.C_drewN ?_ _) | (with_reducible refine Kd.C_drew ?_))); (case side2 => exact HC0_2.out); rintro e w24 ⟨v338, rfl, ho0, hb⟩; refine ⟨_, rfl, ?_⟩; have n0_ := Aside0.mk (Kd.R_lower ho0 (below_size zq25)); have n1_ := Aside0.mk (blk_below (g := gb334) (o := .cells #[.int .i64 a0_0, .string a0_1, .slice A0_2 l0_2.length c0_2, .bool false] 25 (0, 0)) zq38 hb); have n2_ := Aside0.mk (blk_below (g := gb335) (o := .cells #[.int .i64 0, .string (⟨#[]⟩ : ByteArray), .slice none 0 0, .bool false] 25 (0, 0)) zq61 hb); have n3_ := Aside0.mk (below_step zq25 hb); clear BK334; clear BK335; clear HB; have HO339 := n0_; have BK334 := n1_; have BK335 := n2_; have HB := n3_; clear n0_ n1_ n2_ n3_; (try clear hb); (try clear hb2); (try clear hk); (try clear hi); (try clear ho0); obtain ⟨Ao25, co25, eo25⟩ := Kd.R_slice HO339.out; subst eo25; have hcz26_0 : w24.cell? ⟨gb334, 0, none⟩ = some (.int .i64 a0_0) := (blk_cell BK334.out 0).trans rfl; have hcz26_1 : w24.cell? ⟨gb334, 1, none⟩ = some (.string a0_1) := (blk_cell BK334.out 1).trans rfl; have hcz26_2 : w24.cell? ⟨gb334, 2, none⟩ = some (.slice A0_2 l0_2.length c0_2) := (blk_cell BK334.out 2).trans rfl; have hcz26_3 : w24.cell? ⟨gb334, 3, none⟩ = some (.bool false) := (blk_cell BK334.out 3).trans rfl; have hfz26_0 := blk_frozen BK334.out 0; have hfz26_1 := blk_frozen BK334.out 1; have hfz26_2 := blk_frozen BK334.out 2; have hfz26_3 := blk_frozen BK334.out 3))
    go_loopg [5] k (fun kq v5 w' => ∃ (x5_1 : ByteArray) (x335001_1 : ByteArray) (x335002_1 : List ByteArray) (x335003_1 : Bool) (x336000_1 : Int) (x336001_1 : ByteArray) (x336003_1 : Bool) (u335002 : Value), v5 = .string x5_1 ∧ Aside0 (impl_Feed.l0 kq x5_1 a0_0 x335001_1 x335002_1 x335003_1 = some (r1, r2, r3, r4)) ∧ Aside0 (kq ≤ k) ∧ Aside0 (Kd.R Kd.string 9 w' w.heap.size (fun _ => True) u335002 x335002_1) ∧ Aside0 (w'.heap[gb334]? = some (.cells #[.int .i64 a0_0, .string x335001_1, u335002, .bool x335003_1] 25 (0, 0))) ∧ Aside0 (w'.heap[gb335]? = some (.cells #[.int .i64 x336000_1, .string x336001_1, (.slice none 0 0), .bool x336003_1] 25 (0, 0))) ∧ Aside0 (Below w.heap.size w w'))
    case atStart => exact ⟨(a0_1 ++ a1), (a0_1), (t337), (false), (0), ((⟨#[]⟩ : ByteArray)), (false), (.slice Ao25 t337.length co25), zq22, H', ⟨Nat.le_refl _⟩, ⟨by (with_reducible repeat (first | apply Kd.R_alloc | apply Kd.R_drewN | apply Kd.R_drew)); exact Kd.R_mono (Kd.R_far (p := ⟨gb334, 2, none⟩) (Kd.R_types HO339.out BK334.out zq60) (fun _ hk => hk.2) (.slice Ao25 t337.length co25)) (fun _ hk => trivial)⟩, ⟨by (with_reducible repeat (first | refine blk_drewN ?_ _ | refine blk_drew ?_ | refine blk_alloc ?_ _)); refine blk_put (cs := #[.int .i64 a0_0, .string a0_1, .slice A0_2 l0_2.length c0_2, .bool false]) ?_ 2 _ rfl; (with_reducible repeat (first | refine blk_drewN ?_ _ | refine blk_drew ?_ | refine blk_alloc ?_ _)); exact BK334.out⟩, ⟨zq91⟩, ⟨zq25⟩⟩
    case round =>
     clear H'
     try clear c1
     try clear c2
     try clear p2
     try clear c3
     try clear c4
     try clear c6
     try clear c7
     try clear c9
     try clear c11
     try clear c17
     try clear c17b0
     try clear c17b1
     try clear c17b2
     try clear c20
     try clear hcz10_0
     try clear hcz10_1
     try clear hcz10_2
     try clear hcz10_3
     try clear hcz12_0
     try clear hcz12_1
     try clear hcz12_2
     try clear hcz12_3
     try clear hcz15_0
     try clear hcz15_1
     try clear hcz15_2
     try clear hcz15_3
     try clear hcz16_0
     try clear hcz16_1
     try clear hcz16_2
     try clear hcz16_3
     try clear hcz21_0
     try clear hcz21_1
     try clear hcz21_2
     try clear hcz21_3
     try clear hcz23_0
     try clear hcz23_1
     try clear hcz23_2
     try clear hcz23_3
     try clear hcz26_0
     try clear hcz26_1
     try clear hcz26_2
     try clear hcz26_3
     try clear hfz10_0
     try clear hfz10_1
     try clear hfz10_2
     try clear hfz10_3
     try clear hfz12_0
     try clear hfz12_1
     try clear hfz12_2
     try clear hfz12_3
     try clear hfz15_0
     try clear hfz15_1
     try clear hfz15_2
     try clear hfz15_3
     try clear hfz16_0
     try clear hfz16_1
     try clear hfz16_2
     try clear hfz16_3
     try clear hfz21_0
     try clear hfz21_1
     try clear hfz21_2
     try clear hfz21_3
     try clear hfz23_0
     try clear hfz23_1
     try clear hfz23_2
     try clear hfz23_3
     try clear hfz26_0
     try clear hfz26_1
     try clear hfz26_2
     try clear hfz26_3
     obtain ⟨x5_1, x335001_1, x335002_1, x335003_1, x336000_1, x336001_1, x336003_1, u335002, rfl, HA, HK1, HO_335002, BK334, BK335, HB⟩ := hrel
     cases gk with
     | zero => exact absurd HA.out (by simp [impl_Feed.l0])
     | succ k1 =>
      have H := HA.out
      clear HA
      simp only [impl_Feed.l0] at H
      replace H := Option.bind_eq_some_iff.mp H
      obtain ⟨⟨t340, t341, t342⟩, A270, H⟩ := H
      try dsimp only at H
      have A27 := Aside0.mk A270
      clear A270
      by_cases c28 : t340 = 0
      ·rw [if_pos c28] at H
       have c28b0 : (t340 == 0) = true := beq_iff_eq.mpr c28
       have c28b1 : (t340 != 0) = false := bne_eq_false_iff_eq.mpr c28
       clear c28
       simp only [Option.some.injEq, Prod.mk.injEq] at H
       obtain ⟨rfl, rfl, rfl, rfl⟩ := H
       have hnb29 := NB334_335.out
       have hnc29 := NB335_334.out
       have hcz30_0 : wr.cell? ⟨gb334, 0, none⟩ = some (.int .i64 a0_0) := (blk_cell BK334.out 0).trans rfl
       have hcz30_1 : wr.cell? ⟨gb334, 1, none⟩ = some (.string x335001_1) := (blk_cell BK334.out 1).trans rfl
       have hcz30_2 : wr.cell? ⟨gb334, 2, none⟩ = some (u335002) := (blk_cell BK334.out 2).trans rfl
       have hcz30_3 : wr.cell? ⟨gb334, 3, none⟩ = some (.bool x335003_1) := (blk_cell BK334.out 3).trans rfl
       have hfz30_0 := blk_frozen BK334.out 0
       have hfz30_1 := blk_frozen BK334.out 1
       have hfz30_2 := blk_frozen BK334.out 2
       have hfz30_3 := blk_frozen BK334.out 3
       go_wp2_with (first | ((with_reducible refine gate_callee (f := 34) rfl ?_); refine goesL_ (some 28) rfl rfl Try.func34 zq19 rfl #[.string x5_1, .int .i64 a0_0] rfl zq0 ?_; (with_reducible refine (impl_front.calls k1 x5_1 a0_0 t340 t341 t342 _ A27.out).mono ?_); rintro e w31 ⟨rfl, hb⟩; refine ⟨_, rfl, ?_⟩; have n0_ := Aside0.mk (Kd.R_below zq77 hb); have n1_ := Aside0.mk (blk_below (g := gb334) (o := .cells #[.int .i64 a0_0, .string x335001_1, u335002, .bool x335003_1] 25 (0, 0)) zq38 hb); have n2_ := Aside0.mk (blk_below (g := gb335) (o := .cells #[.int .i64 x336000_1, .string x336001_1, .slice none 0 0, .bool x336003_1] 25 (0, 0)) zq61 hb); have n3_ := Aside0.mk (below_step zq25 hb); clear HO_335002; clear BK334; clear BK335; clear HB; have HO_335002 := n0_; have BK334 := n1_; have BK335 := n2_; have HB := n3_; clear n0_ n1_ n2_ n3_; (try clear hb); (try clear hb2); (try clear hk); (try clear hi); have hcz32_0 : w31.cell? ⟨gb334, 0, none⟩ = some (.int .i64 a0_0) := (blk_cell BK334.out 0).trans rfl; have hcz32_1 : w31.cell? ⟨gb334, 1, none⟩ = some (.string x335001_1) := (blk_cell BK334.out 1).trans rfl; have hcz32_2 : w31.cell? ⟨gb334, 2, none⟩ = some (u335002) := (blk_cell BK334.out 2).trans rfl; have hcz32_3 : w31.cell? ⟨gb334, 3, none⟩ = some (.bool x335003_1) := (blk_cell BK334.out 3).trans rfl; have hfz32_0 := blk_frozen BK334.out 0; have hfz32_1 := blk_frozen BK334.out 1; have hfz32_2 := blk_frozen BK334.out 2; have hfz32_3 := blk_frozen BK334.out 3; have hcz33_0 : w31.cell? ⟨gb335, 0, none⟩ = some (.int .i64 x336000_1) := (blk_cell BK335.out 0).trans rfl; have hcz33_1 : w31.cell? ⟨gb335, 1, none⟩ = some (.string x336001_1) := (blk_cell BK335.out 1).trans rfl; have hcz33_2 : w31.cell? ⟨gb335, 2, none⟩ = some (.slice none 0 0) := (blk_cell BK335.out 2).trans rfl; have hcz33_3 : w31.cell? ⟨gb335, 3, none⟩ = some (.bool x336003_1) := (blk_cell BK335.out 3).trans rfl; have hfz33_0 := blk_frozen BK335.out 0; have hfz33_1 := blk_frozen BK335.out 1; have hfz33_2 := blk_frozen BK335.out 2; have hfz33_3 := blk_frozen BK335.out 3; obtain ⟨Ao34, co34, eo34⟩ := Kd.R_slice HO_335002.out; subst eo34))
       refine bodyPost_ret (results_cell_row rfl _ _ gb335 25 #[.int .i64 a0_0, .string x5_1, .slice Ao34 x335002_1.length co34, .bool x335003_1] (0, 0) _ rfl (by (with_reducible repeat (first | refine blk_drewN ?_ _ | refine blk_drew ?_ | refine blk_alloc ?_ _)); refine blk_put (cs := #[.int .i64 a0_0, .string x5_1, .slice Ao34 x335002_1.length co34, .bool x336003_1]) ?_ 3 _ rfl; (with_reducible repeat (first | refine blk_drewN ?_ _ | refine blk_drew ?_ | refine blk_alloc ?_ _)); refine blk_put (cs := #[.int .i64 a0_0, .string x5_1, .slice none 0 0, .bool x336003_1]) ?_ 2 _ rfl; (with_reducible repeat (first | refine blk_drewN ?_ _ | refine blk_drew ?_ | refine blk_alloc ?_ _)); refine blk_put (cs := #[.int .i64 a0_0, .string x336001_1, .slice none 0 0, .bool x336003_1]) ?_ 1 _ rfl; (with_reducible repeat (first | refine blk_drewN ?_ _ | refine blk_drew ?_ | refine blk_alloc ?_ _)); refine blk_put (cs := #[.int .i64 x336000_1, .string x336001_1, .slice none 0 0, .bool x336003_1]) ?_ 0 _ rfl; (with_reducible repeat (first | refine blk_drewN ?_ _ | refine blk_drew ?_ | refine blk_alloc ?_ _)); refine blk_far ?_ NB335_334.out _; (with_reducible repeat (first | refine blk_drewN ?_ _ | refine blk_drew ?_ | refine blk_alloc ?_ _)); exact BK335.out) Try.underlying25 rfl zq19) rfl ?_
       exact ⟨_, zq8, by (with_reducible repeat (first | apply Kd.R_alloc | apply Kd.R_drewN | apply Kd.R_drew)); exact Kd.R_mono (Kd.R_far (p := ⟨gb335, 3, none⟩) (Kd.R_far (p := ⟨gb335, 2, none⟩) (Kd.R_far (p := ⟨gb335, 1, none⟩) (Kd.R_far (p := ⟨gb335, 0, none⟩) (Kd.R_far (p := ⟨gb334, 1, none⟩) (Kd.R_types (Kd.R_types HO_335002.out BK334.out zq60) BK335.out zq60) (fun _ hk => hk.1.2) (.string x5_1)) (fun _ hk => hk.2) (.int .i64 a0_0)) (fun _ hk => hk.2) (.string x5_1)) (fun _ hk => hk.2) (.slice Ao34 x335002_1.length co34)) (fun _ hk => hk.2) (.bool x335003_1)) (fun _ hk => trivial), zq25⟩
      ·rw [if_neg c28] at H
       have c28b0 : (t340 == 0) = false := beq_eq_false_iff_ne.mpr c28
       have c28b1 : (t340 != 0) = true := bne_iff_ne.mpr c28
       by_cases c35 : t340 = 2
       ·rw [if_pos c35] at H
        have c35b0 : (t340 == 2) = true := beq_iff_eq.mpr c35
        have c35b1 : (t340 != 2) = false := bne_eq_false_iff_eq.mpr c35
        clear c35
        simp only [Option.some.injEq, Prod.mk.injEq] at H
        obtain ⟨rfl, rfl, rfl, rfl⟩ := H
        have hnb36 := NB334_335.out
        have hnc36 := NB335_334.out
        have hcz37_0 : wr.cell? ⟨gb334, 0, none⟩ = some (.int .i64 a0_0) := (blk_cell BK334.out 0).trans rfl
        have hcz37_1 : wr.cell? ⟨gb334, 1, none⟩ = some (.string x335001_1) := (blk_cell BK334.out 1).trans rfl
        have hcz37_2 : wr.cell? ⟨gb334, 2, none⟩ = some (u335002) := (blk_cell BK334.out 2).trans rfl
        have hcz37_3 : wr.cell? ⟨gb334, 3, none⟩ = some (.bool x335003_1) := (blk_cell BK334.out 3).trans rfl
        have hfz37_0 := blk_frozen BK334.out 0
        have hfz37_1 := blk_frozen BK334.out 1
        have hfz37_2 := blk_frozen BK334.out 2
        have hfz37_3 := blk_frozen BK334.out 3
        go_wp2_with (first | ((with_reducible refine gate_callee (f := 34) rfl ?_); refine goesL_ (some 28) rfl rfl Try.func34 zq19 rfl #[.string x5_1, .int .i64 a0_0] rfl zq0 ?_; (with_reducible refine (impl_front.calls k1 x5_1 a0_0 t340 t341 t342 _ A27.out).mono ?_); rintro e w38 ⟨rfl, hb⟩; refine ⟨_, rfl, ?_⟩; have n0_ := Aside0.mk (Kd.R_below zq77 hb); have n1_ := Aside0.mk (blk_below (g := gb334) (o := .cells #[.int .i64 a0_0, .string x335001_1, u335002, .bool x335003_1] 25 (0, 0)) zq38 hb); have n2_ := Aside0.mk (blk_below (g := gb335) (o := .cells #[.int .i64 x336000_1, .string x336001_1, .slice none 0 0, .bool x336003_1] 25 (0, 0)) zq61 hb); have n3_ := Aside0.mk (below_step zq25 hb); clear HO_335002; clear BK334; clear BK335; clear HB; have HO_335002 := n0_; have BK334 := n1_; have BK335 := n2_; have HB := n3_; clear n0_ n1_ n2_ n3_; (try clear hb); (try clear hb2); (try clear hk); (try clear hi); have hcz39_0 : w38.cell? ⟨gb334, 0, none⟩ = some (.int .i64 a0_0) := (blk_cell BK334.out 0).trans rfl; have hcz39_1 : w38.cell? ⟨gb334, 1, none⟩ = some (.string x335001_1) := (blk_cell BK334.out 1).trans rfl; have hcz39_2 : w38.cell? ⟨gb334, 2, none⟩ = some (u335002) := (blk_cell BK334.out 2).trans rfl; have hcz39_3 : w38.cell? ⟨gb334, 3, none⟩ = some (.bool x335003_1) := (blk_cell BK334.out 3).trans rfl; have hfz39_0 := blk_frozen BK334.out 0; have hfz39_1 := blk_frozen BK334.out 1; have hfz39_2 := blk_frozen BK334.out 2; have hfz39_3 := blk_frozen BK334.out 3; have hcz40_0 : w38.cell? ⟨gb335, 0, none⟩ = some (.int .i64 x336000_1) := (blk_cell BK335.out 0).trans rfl; have hcz40_1 : w38.cell? ⟨gb335, 1, none⟩ = some (.string x336001_1) := (blk_cell BK335.out 1).trans rfl; have hcz40_2 : w38.cell? ⟨gb335, 2, none⟩ = some (.slice none 0 0) := (blk_cell BK335.out 2).trans rfl; have hcz40_3 : w38.cell? ⟨gb335, 3, none⟩ = some (.bool x336003_1) := (blk_cell BK335.out 3).trans rfl; have hfz40_0 := blk_frozen BK335.out 0; have hfz40_1 := blk_frozen BK335.out 1; have hfz40_2 := blk_frozen BK335.out 2; have hfz40_3 := blk_frozen BK335.out 3; obtain ⟨Ao41, co41, eo41⟩ := Kd.R_slice HO_335002.out; subst eo41))
        refine bodyPost_ret (results_cell_row rfl _ _ gb335 25 #[.int .i64 a0_0, .string (⟨#[]⟩ : ByteArray), .slice Ao41 x335002_1.length co41, .bool true] (0, 0) _ rfl (by (with_reducible repeat (first | refine blk_drewN ?_ _ | refine blk_drew ?_ | refine blk_alloc ?_ _)); refine blk_put (cs := #[.int .i64 a0_0, .string (⟨#[]⟩ : ByteArray), .slice Ao41 x335002_1.length co41, .bool x336003_1]) ?_ 3 _ rfl; (with_reducible repeat (first | refine blk_drewN ?_ _ | refine blk_drew ?_ | refine blk_alloc ?_ _)); refine blk_put (cs := #[.int .i64 a0_0, .string (⟨#[]⟩ : ByteArray), .slice none 0 0, .bool x336003_1]) ?_ 2 _ rfl; (with_reducible repeat (first | refine blk_drewN ?_ _ | refine blk_drew ?_ | refine blk_alloc ?_ _)); refine blk_put (cs := #[.int .i64 a0_0, .string x336001_1, .slice none 0 0, .bool x336003_1]) ?_ 1 _ rfl; (with_reducible repeat (first | refine blk_drewN ?_ _ | refine blk_drew ?_ | refine blk_alloc ?_ _)); refine blk_put (cs := #[.int .i64 x336000_1, .string x336001_1, .slice none 0 0, .bool x336003_1]) ?_ 0 _ rfl; (with_reducible repeat (first | refine blk_drewN ?_ _ | refine blk_drew ?_ | refine blk_alloc ?_ _)); refine blk_far ?_ NB335_334.out _; (with_reducible repeat (first | refine blk_drewN ?_ _ | refine blk_drew ?_ | refine blk_alloc ?_ _)); refine blk_far ?_ NB335_334.out _; (with_reducible repeat (first | refine blk_drewN ?_ _ | refine blk_drew ?_ | refine blk_alloc ?_ _)); exact BK335.out) Try.underlying25 rfl zq19) rfl ?_
        exact ⟨_, zq8, by (with_reducible repeat (first | apply Kd.R_alloc | apply Kd.R_drewN | apply Kd.R_drew)); exact Kd.R_mono (Kd.R_far (p := ⟨gb335, 3, none⟩) (Kd.R_far (p := ⟨gb335, 2, none⟩) (Kd.R_far (p := ⟨gb335, 1, none⟩) (Kd.R_far (p := ⟨gb335, 0, none⟩) (Kd.R_far (p := ⟨gb334, 1, none⟩) (Kd.R_far (p := ⟨gb334, 3, none⟩) (Kd.R_types (Kd.R_types HO_335002.out BK334.out zq60) BK335.out zq60) (fun _ hk => hk.1.2) (.bool true)) (fun _ hk => hk.1.2) (.string (⟨#[]⟩ : ByteArray))) (fun _ hk => hk.2) (.int .i64 a0_0)) (fun _ hk => hk.2) (.string (⟨#[]⟩ : ByteArray))) (fun _ hk => hk.2) (.slice Ao41 x335002_1.length co41)) (fun _ hk => hk.2) (.bool true)) (fun _ hk => trivial), zq25⟩
       ·rw [if_neg c35] at H
        have c35b0 : (t340 == 2) = false := beq_eq_false_iff_ne.mpr c35
        have c35b1 : (t340 != 2) = true := bne_iff_ne.mpr c35
        by_cases c42 : (x335002_1.length : Int) = 500
        ·rw [if_pos c42] at H
         have c42b0 : ((x335002_1.length : Int) == 500) = true := beq_iff_eq.mpr c42
         have c42b1 : ((x335002_1.length : Int) != 500) = false := bne_eq_false_iff_eq.mpr c42
         clear c42
         simp only [Option.some.injEq, Prod.mk.injEq] at H
         obtain ⟨rfl, rfl, rfl, rfl⟩ := H
         have hnb43 := NB334_335.out
         have hnc43 := NB335_334.out
         have hcz44_0 : wr.cell? ⟨gb334, 0, none⟩ = some (.int .i64 a0_0) := (blk_cell BK334.out 0).trans rfl
         have hcz44_1 : wr.cell? ⟨gb334, 1, none⟩ = some (.string x335001_1) := (blk_cell BK334.out 1).trans rfl
         have hcz44_2 : wr.cell? ⟨gb334, 2, none⟩ = some (u335002) := (blk_cell BK334.out 2).trans rfl
         have hcz44_3 : wr.cell? ⟨gb334, 3, none⟩ = some (.bool x335003_1) := (blk_cell BK334.out 3).trans rfl
         have hfz44_0 := blk_frozen BK334.out 0
         have hfz44_1 := blk_frozen BK334.out 1
         have hfz44_2 := blk_frozen BK334.out 2
         have hfz44_3 := blk_frozen BK334.out 3
         go_wp2_with (first | ((with_reducible refine gate_callee (f := 34) rfl ?_); refine goesL_ (some 28) rfl rfl Try.func34 zq19 rfl #[.string x5_1, .int .i64 a0_0] rfl zq0 ?_; (with_reducible refine (impl_front.calls k1 x5_1 a0_0 t340 t341 t342 _ A27.out).mono ?_); rintro e w45 ⟨rfl, hb⟩; refine ⟨_, rfl, ?_⟩; have n0_ := Aside0.mk (Kd.R_below zq77 hb); have n1_ := Aside0.mk (blk_below (g := gb334) (o := .cells #[.int .i64 a0_0, .string x335001_1, u335002, .bool x335003_1] 25 (0, 0)) zq38 hb); have n2_ := Aside0.mk (blk_below (g := gb335) (o := .cells #[.int .i64 x336000_1, .string x336001_1, .slice none 0 0, .bool x336003_1] 25 (0, 0)) zq61 hb); have n3_ := Aside0.mk (below_step zq25 hb); clear HO_335002; clear BK334; clear BK335; clear HB; have HO_335002 := n0_; have BK334 := n1_; have BK335 := n2_; have HB := n3_; clear n0_ n1_ n2_ n3_; (try clear hb); (try clear hb2); (try clear hk); (try clear hi); have hcz46_0 : w45.cell? ⟨gb334, 0, none⟩ = some (.int .i64 a0_0) := (blk_cell BK334.out 0).trans rfl; have hcz46_1 : w45.cell? ⟨gb334, 1, none⟩ = some (.string x335001_1) := (blk_cell BK334.out 1).trans rfl; have hcz46_2 : w45.cell? ⟨gb334, 2, none⟩ = some (u335002) := (blk_cell BK334.out 2).trans rfl; have hcz46_3 : w45.cell? ⟨gb334, 3, none⟩ = some (.bool x335003_1) := (blk_cell BK334.out 3).trans rfl; have hfz46_0 := blk_frozen BK334.out 0; have hfz46_1 := blk_frozen BK334.out 1; have hfz46_2 := blk_frozen BK334.out 2; have hfz46_3 := blk_frozen BK334.out 3; obtain ⟨Ao47, co47, eo47⟩ := Kd.R_slice HO_335002.out; subst eo47; have hcz48_0 : w45.cell? ⟨gb335, 0, none⟩ = some (.int .i64 x336000_1) := (blk_cell BK335.out 0).trans rfl; have hcz48_1 : w45.cell? ⟨gb335, 1, none⟩ = some (.string x336001_1) := (blk_cell BK335.out 1).trans rfl; have hcz48_2 : w45.cell? ⟨gb335, 2, none⟩ = some (.slice none 0 0) := (blk_cell BK335.out 2).trans rfl; have hcz48_3 : w45.cell? ⟨gb335, 3, none⟩ = some (.bool x336003_1) := (blk_cell BK335.out 3).trans rfl; have hfz48_0 := blk_frozen BK335.out 0; have hfz48_1 := blk_frozen BK335.out 1; have hfz48_2 := blk_frozen BK335.out 2; have hfz48_3 := blk_frozen BK335.out 3))
         refine bodyPost_ret (results_cell_row rfl _ _ gb335 25 #[.int .i64 a0_0, .string (⟨#[]⟩ : ByteArray), .slice Ao47 x335002_1.length co47, .bool true] (0, 0) _ rfl (by (with_reducible repeat (first | refine blk_drewN ?_ _ | refine blk_drew ?_ | refine blk_alloc ?_ _)); refine blk_put (cs := #[.int .i64 a0_0, .string (⟨#[]⟩ : ByteArray), .slice Ao47 x335002_1.length co47, .bool x336003_1]) ?_ 3 _ rfl; (with_reducible repeat (first | refine blk_drewN ?_ _ | refine blk_drew ?_ | refine blk_alloc ?_ _)); refine blk_put (cs := #[.int .i64 a0_0, .string (⟨#[]⟩ : ByteArray), .slice none 0 0, .bool x336003_1]) ?_ 2 _ rfl; (with_reducible repeat (first | refine blk_drewN ?_ _ | refine blk_drew ?_ | refine blk_alloc ?_ _)); refine blk_put (cs := #[.int .i64 a0_0, .string x336001_1, .slice none 0 0, .bool x336003_1]) ?_ 1 _ rfl; (with_reducible repeat (first | refine blk_drewN ?_ _ | refine blk_drew ?_ | refine blk_alloc ?_ _)); refine blk_put (cs := #[.int .i64 x336000_1, .string x336001_1, .slice none 0 0, .bool x336003_1]) ?_ 0 _ rfl; (with_reducible repeat (first | refine blk_drewN ?_ _ | refine blk_drew ?_ | refine blk_alloc ?_ _)); refine blk_far ?_ NB335_334.out _; (with_reducible repeat (first | refine blk_drewN ?_ _ | refine blk_drew ?_ | refine blk_alloc ?_ _)); refine blk_far ?_ NB335_334.out _; (with_reducible repeat (first | refine blk_drewN ?_ _ | refine blk_drew ?_ | refine blk_alloc ?_ _)); exact BK335.out) Try.underlying25 rfl zq19) rfl ?_
         exact ⟨_, zq8, by (with_reducible repeat (first | apply Kd.R_alloc | apply Kd.R_drewN | apply Kd.R_drew)); exact Kd.R_mono (Kd.R_far (p := ⟨gb335, 3, none⟩) (Kd.R_far (p := ⟨gb335, 2, none⟩) (Kd.R_far (p := ⟨gb335, 1, none⟩) (Kd.R_far (p := ⟨gb335, 0, none⟩) (Kd.R_far (p := ⟨gb334, 1, none⟩) (Kd.R_far (p := ⟨gb334, 3, none⟩) (Kd.R_types (Kd.R_types HO_335002.out BK334.out zq60) BK335.out zq60) (fun _ hk => hk.1.2) (.bool true)) (fun _ hk => hk.1.2) (.string (⟨#[]⟩ : ByteArray))) (fun _ hk => hk.2) (.int .i64 a0_0)) (fun _ hk => hk.2) (.string (⟨#[]⟩ : ByteArray))) (fun _ hk => hk.2) (.slice Ao47 x335002_1.length co47)) (fun _ hk => hk.2) (.bool true)) (fun _ hk => trivial), zq25⟩
        ·rw [if_neg c42] at H
         have c42b0 : ((x335002_1.length : Int) == 500) = false := beq_eq_false_iff_ne.mpr c42
         have c42b1 : ((x335002_1.length : Int) != 500) = true := bne_iff_ne.mpr c42
         by_cases c49 : x335002_1.length < 8796093022208
         ·rw [if_pos c49] at H
          have LMc49 := Aside0.mk c49
          clear c49
          obtain ⟨y343, hy343⟩ : ∃ y_ : List ByteArray, y_ = (x335002_1 ++ [t341]) := ⟨_, rfl⟩
          replace H : (if 0 ≤ t342 then (if t342 ≤ (x5_1.size : Int) then (impl_Feed.l0 k1 (x5_1.extract (t342 : Int).toNat x5_1.size) a0_0 x335001_1 y343 x335003_1) else (none)) else (none)) = some (r1, r2, r3, r4) := by first | (rw [hy343]; with_reducible exact H) | (have H2_ := (Option.bind_some _ _).symm.trans H; rw [hy343]; with_reducible exact H2_) | (have H2_ := (Option.bind_some _ _).symm.trans H; with_reducible exact H2_) | with_reducible exact H | (rw [hy343]; exact H) | exact H
          have Ny343 := Aside0.mk hy343
          clear hy343
          by_cases c50 : 0 ≤ t342
          ·rw [if_pos c50] at H
           have c50b0 := eq_true c50
           have c50b1 : decide (0 ≤ t342) = true := decide_eq_true c50
           clear c50
           by_cases c51 : t342 ≤ (x5_1.size : Int)
           ·rw [if_pos c51] at H
            have c51b0 := eq_true c51
            have c51b1 : decide (t342 ≤ (x5_1.size : Int)) = true := decide_eq_true c51
            clear c51
            have H' := Aside0.mk H
            clear H
            have hnb52 := NB334_335.out
            have hnc52 := NB335_334.out
            have hcz53_0 : wr.cell? ⟨gb334, 0, none⟩ = some (.int .i64 a0_0) := (blk_cell BK334.out 0).trans rfl
            have hcz53_1 : wr.cell? ⟨gb334, 1, none⟩ = some (.string x335001_1) := (blk_cell BK334.out 1).trans rfl
            have hcz53_2 : wr.cell? ⟨gb334, 2, none⟩ = some (u335002) := (blk_cell BK334.out 2).trans rfl
            have hcz53_3 : wr.cell? ⟨gb334, 3, none⟩ = some (.bool x335003_1) := (blk_cell BK334.out 3).trans rfl
            have hfz53_0 := blk_frozen BK334.out 0
            have hfz53_1 := blk_frozen BK334.out 1
            have hfz53_2 := blk_frozen BK334.out 2
            have hfz53_3 := blk_frozen BK334.out 3
            go_wp2_with (first | ((with_reducible refine gate_callee (f := 34) rfl ?_); refine goesL_ (some 28) rfl rfl Try.func34 zq19 rfl #[.string x5_1, .int .i64 a0_0] rfl zq0 ?_; (with_reducible refine (impl_front.calls k1 x5_1 a0_0 t340 t341 t342 _ A27.out).mono ?_); rintro e w54 ⟨rfl, hb⟩; refine ⟨_, rfl, ?_⟩; have n0_ := Aside0.mk (Kd.R_below zq77 hb); have n1_ := Aside0.mk (blk_below (g := gb334) (o := .cells #[.int .i64 a0_0, .string x335001_1, u335002, .bool x335003_1] 25 (0, 0)) zq38 hb); have n2_ := Aside0.mk (blk_below (g := gb335) (o := .cells #[.int .i64 x336000_1, .string x336001_1, .slice none 0 0, .bool x336003_1] 25 (0, 0)) zq61 hb); have n3_ := Aside0.mk (below_step zq25 hb); clear HO_335002; clear BK334; clear BK335; clear HB; have HO_335002 := n0_; have BK334 := n1_; have BK335 := n2_; have HB := n3_; clear n0_ n1_ n2_ n3_; (try clear hb); (try clear hb2); (try clear hk); (try clear hi); have hcz55_0 : w54.cell? ⟨gb334, 0, none⟩ = some (.int .i64 a0_0) := (blk_cell BK334.out 0).trans rfl; have hcz55_1 : w54.cell? ⟨gb334, 1, none⟩ = some (.string x335001_1) := (blk_cell BK334.out 1).trans rfl; have hcz55_2 : w54.cell? ⟨gb334, 2, none⟩ = some (u335002) := (blk_cell BK334.out 2).trans rfl; have hcz55_3 : w54.cell? ⟨gb334, 3, none⟩ = some (.bool x335003_1) := (blk_cell BK334.out 3).trans rfl; have hfz55_0 := blk_frozen BK334.out 0; have hfz55_1 := blk_frozen BK334.out 1; have hfz55_2 := blk_frozen BK334.out 2; have hfz55_3 := blk_frozen BK334.out 3; obtain ⟨Ao56, co56, eo56⟩ := Kd.R_slice HO_335002.out; subst eo56) | ((with_reducible refine gate_builtin (b := .append) (xs := #[.tmp 49, .tmp 51]) rfl ?_); (try (refine gate_guard zq90 ?_; dsimp only)); at_builtin; refine Kd.R_append Kd.string (w0 := w) w.heap.size rfl (.tmp 49) (.tmp 51) 23 9 (.string ⟨#[]⟩) 16 rfl Try.underlying23 info9 rfl zq60 zq99 (.slice Ao56 x335002_1.length co56) x335002_1 t341 [.string t341] (fun _ => True) (fun _ => False) rfl rfl ?aP (fun _ hk => hk.elim) ?aF ?aO ?aB ?aS ?aL ?_; (case aP => exact rfl); (case aB => exact zq25); (case aF => exact (fun _ _ => trivial)); (case aO => exact zq77); (case aS => exact (below_size zq25)); (case aL => have := LMc49.out; omega); intro v344 w57 ho hb hg hat; rw [← Ny343.out] at ho; have n0_ := Aside0.mk (blk_grown (g := gb334) (o := .cells #[.int .i64 a0_0, .string x335001_1, .slice Ao56 x335002_1.length co56, .bool x335003_1] 25 (0, 0)) zq38 hg (Kd.R_ne HO_335002.out BK334.out zq60)); have n1_ := Aside0.mk (blk_grown (g := gb335) (o := .cells #[.int .i64 x336000_1, .string x336001_1, .slice none 0 0, .bool x336003_1] 25 (0, 0)) zq61 hg (Kd.R_ne HO_335002.out BK335.out zq60)); have n2_ := Aside0.mk (hb); have n3_ := Aside0.mk (ho); clear BK334; clear BK335; clear HB; clear HO_335002; have BK334 := n0_; have BK335 := n1_; have HB := n2_; have HO345 := n3_; clear n0_ n1_ n2_ n3_; clear ho hb hg hat; obtain ⟨Ao58, co58, eo58⟩ := Kd.R_slice HO345.out; subst eo58; have hcz59_0 : w57.cell? ⟨gb334, 0, none⟩ = some (.int .i64 a0_0) := (blk_cell BK334.out 0).trans rfl; have hcz59_1 : w57.cell? ⟨gb334, 1, none⟩ = some (.string x335001_1) := (blk_cell BK334.out 1).trans rfl; have hcz59_2 : w57.cell? ⟨gb334, 2, none⟩ = some (.slice Ao56 x335002_1.length co56) := (blk_cell BK334.out 2).trans rfl; have hcz59_3 : w57.cell? ⟨gb334, 3, none⟩ = some (.bool x335003_1) := (blk_cell BK334.out 3).trans rfl; have hfz59_0 := blk_frozen BK334.out 0; have hfz59_1 := blk_frozen BK334.out 1; have hfz59_2 := blk_frozen BK334.out 2; have hfz59_3 := blk_frozen BK334.out 3))
            go_roundg k1
            case measure => have := HK1.out; omega
            case rel => exact ⟨(x5_1.extract (t342 : Int).toNat x5_1.size), (x335001_1), (y343), (x335003_1), (x336000_1), (x336001_1), (x336003_1), (.slice Ao58 y343.length co58), zq22, H', ⟨zq88⟩, ⟨by (with_reducible repeat (first | apply Kd.R_alloc | apply Kd.R_drewN | apply Kd.R_drew)); exact Kd.R_mono (Kd.R_far (p := ⟨gb334, 2, none⟩) (Kd.R_types HO345.out BK334.out zq60) (fun _ hk => hk.2) (.slice Ao58 y343.length co58)) (fun _ hk => trivial)⟩, ⟨by (with_reducible repeat (first | refine blk_drewN ?_ _ | refine blk_drew ?_ | refine blk_alloc ?_ _)); refine blk_put (cs := #[.int .i64 a0_0, .string x335001_1, .slice Ao56 x335002_1.length co56, .bool x335003_1]) ?_ 2 _ rfl; (with_reducible repeat (first | refine blk_drewN ?_ _ | refine blk_drew ?_ | refine blk_alloc ?_ _)); exact BK334.out⟩, ⟨zq91⟩, ⟨zq25⟩⟩
           ·rw [if_neg c51] at H
            exact absurd H zq81
          ·rw [if_neg c50] at H
           exact absurd H zq81
         ·rw [if_neg c49] at H
          exact absurd H zq81
   ·rw [if_neg c17] at H
    exact absurd H zq81
 ·replace c4 := Bool.eq_false_iff.mpr c4
  subst c4
  rw [if_neg (show ¬ (false = true) by decide)] at H
  simp only [Option.some.injEq, Prod.mk.injEq] at H
  obtain ⟨rfl, rfl, rfl, rfl⟩ := H
  go_enter Try.func7, Try.ntmps7
  go_wp2_with (first | ((with_reducible refine gate_dst (N := 2) rfl ?_); (try (refine gate_guard zq90 ?_; dsimp only)); refine box_event ?hg (N := 2) ?hd (cs := #[.int .i64 a0_0, .string a0_1, .slice A0_2 l0_2.length c0_2, .bool a0_3]) (t := 25) ?hr ?_; (case hd => rfl); (case hg => rfl); (case hr => first | (go_simp; done) | (go_simp; rfl)); intro gb334 hg w60 hbox hb; have n0_ := Aside0.mk (below_step zq1 hb); have n1_ := Aside0.mk (hbox); have n2_ := Aside0.mk ((by rw [hg]; exact (below_size zq1) : w.heap.size ≤ gb334)); have n3_ := Aside0.mk ((by rw [hg]; exact (below_size zq1) : w.heap.size ≤ gb334)); clear HB; have HB := n0_; have BK334 := n1_; have GW334 := n2_; have GE334 := n3_; clear n0_ n1_ n2_ n3_; clear hb hbox hg) | ((with_reducible refine gate_dst (N := 4) rfl ?_); (try (refine gate_guard zq90 ?_; dsimp only)); refine box_event ?hg (N := 4) ?hd (cs := #[.int .i64 0, .string (⟨#[]⟩ : ByteArray), .slice none 0 0, .bool false]) (t := 25) ?hr ?_; (case hd => rfl); (case hg => rfl); (case hr => first | (go_simp; done) | (go_simp; rfl)); intro gb335 hg w61 hbox hb; have n0_ := Aside0.mk (blk_below (g := gb334) (o := .cells #[.int .i64 a0_0, .string a0_1, .slice A0_2 l0_2.length c0_2, .bool a0_3] 25 (0, 0)) zq38 hb); have n1_ := Aside0.mk (below_step zq52 hb); have n2_ := Aside0.mk (hbox); have n3_ := Aside0.mk ((by rw [hg]; exact (below_size zq52) : w.heap.size ≤ gb335)); have n4_ := Aside0.mk ((by rw [hg]; exact (below_size zq52) : w.heap.size ≤ gb335)); have n5_ := Aside0.mk ((by rw [hg]; exact Nat.ne_of_lt (blk_lt (g := gb334) (o := .cells #[.int .i64 a0_0, .string a0_1, .slice A0_2 l0_2.length c0_2, .bool a0_3] 25 (0, 0)) zq38) : gb334 ≠ gb335)); have n6_ := Aside0.mk ((by rw [hg]; exact Nat.ne_of_gt (blk_lt (g := gb334) (o := .cells #[.int .i64 a0_0, .string a0_1, .slice A0_2 l0_2.length c0_2, .bool a0_3] 25 (0, 0)) zq38) : gb335 ≠ gb334)); clear BK334; clear HB; have BK334 := n0_; have HB := n1_; have BK335 := n2_; have GW335 := n3_; have GE335 := n4_; have NB334_335 := n5_; have NB335_334 := n6_; clear n0_ n1_ n2_ n3_ n4_ n5_ n6_; clear hb hbox hg; have hnb62 := NB334_335.out; have hnc62 := NB335_334.out; have hcz63_0 : w61.cell? ⟨gb334, 0, none⟩ = some (.int .i64 a0_0) := (blk_cell BK334.out 0).trans rfl; have hcz63_1 : w61.cell? ⟨gb334, 1, none⟩ = some (.string a0_1) := (blk_cell BK334.out 1).trans rfl; have hcz63_2 : w61.cell? ⟨gb334, 2, none⟩ = some (.slice A0_2 l0_2.length c0_2) := (blk_cell BK334.out 2).trans rfl; have hcz63_3 : w61.cell? ⟨gb334, 3, none⟩ = some (.bool a0_3) := (blk_cell BK334.out 3).trans rfl; have hfz63_0 := blk_frozen BK334.out 0; have hfz63_1 := blk_frozen BK334.out 1; have hfz63_2 := blk_frozen BK334.out 2; have hfz63_3 := blk_frozen BK334.out 3) | ((with_reducible refine gate_callee (f := 11) rfl ?_); refine goesL_ (some 10) rfl rfl Try.func11 zq19 rfl #[.agg #[.int .i64 a0_0, .string a0_1, .slice A0_2 l0_2.length c0_2, .bool a0_3]] rfl zq0 ?_; (with_reducible refine (impl_ValidDecoder.calls k a0_0 a0_1 _ _ l0_2 a0_3 false _ ?side1 ?side2 A3.out).mono ?_); (case side1 => repeat (first | exact (Kd.C_below HR0_2.out HB.out) | (with_reducible refine Kd.C_alloc ?_ _) | (with_reducible refine Kd.C_drewN ?_ _) | (with_reducible refine Kd.C_drew ?_))); (case side2 => exact HC0_2.out); rintro e w64 ⟨rfl, hb⟩; refine ⟨_, rfl, ?_⟩; have n0_ := Aside0.mk (blk_below (g := gb334) (o := .cells #[.int .i64 a0_0, .string a0_1, .slice A0_2 l0_2.length c0_2, .bool a0_3] 25 (0, 0)) zq38 hb); have n1_ := Aside0.mk (blk_below (g := gb335) (o := .cells #[.int .i64 0, .string (⟨#[]⟩ : ByteArray), .slice none 0 0, .bool false] 25 (0, 0)) zq61 hb); have n2_ := Aside0.mk (below_step zq25 hb); clear BK334; clear BK335; clear HB; have BK334 := n0_; have BK335 := n1_; have HB := n2_; clear n0_ n1_ n2_; (try clear hb); (try clear hb2); (try clear hk); (try clear hi); have hcz65_0 : w64.cell? ⟨gb335, 0, none⟩ = some (.int .i64 0) := (blk_cell BK335.out 0).trans rfl; have hcz65_1 : w64.cell? ⟨gb335, 1, none⟩ = some (.string (⟨#[]⟩ : ByteArray)) := (blk_cell BK335.out 1).trans rfl; have hcz65_2 : w64.cell? ⟨gb335, 2, none⟩ = some (.slice none 0 0) := (blk_cell BK335.out 2).trans rfl; have hcz65_3 : w64.cell? ⟨gb335, 3, none⟩ = some (.bool false) := (blk_cell BK335.out 3).trans rfl; have hfz65_0 := blk_frozen BK335.out 0; have hfz65_1 := blk_frozen BK335.out 1; have hfz65_2 := blk_frozen BK335.out 2; have hfz65_3 := blk_frozen BK335.out 3))
  refine bodyPost_ret (results_cell_row rfl _ _ gb335 25 #[.int .i64 0, .string (⟨#[]⟩ : ByteArray), .slice none 0 0, .bool false] (0, 0) _ rfl (by (with_reducible repeat (first | refine blk_drewN ?_ _ | refine blk_drew ?_ | refine blk_alloc ?_ _)); refine blk_put (cs := #[.int .i64 0, .string (⟨#[]⟩ : ByteArray), .slice none 0 0, .bool false]) ?_ 3 _ rfl; (with_reducible repeat (first | refine blk_drewN ?_ _ | refine blk_drew ?_ | refine blk_alloc ?_ _)); refine blk_put (cs := #[.int .i64 0, .string (⟨#[]⟩ : ByteArray), .slice none 0 0, .bool false]) ?_ 2 _ rfl; (with_reducible repeat (first | refine blk_drewN ?_ _ | refine blk_drew ?_ | refine blk_alloc ?_ _)); refine blk_put (cs := #[.int .i64 0, .string (⟨#[]⟩ : ByteArray), .slice none 0 0, .bool false]) ?_ 1 _ rfl; (with_reducible repeat (first | refine blk_drewN ?_ _ | refine blk_drew ?_ | refine blk_alloc ?_ _)); refine blk_put (cs := #[.int .i64 0, .string (⟨#[]⟩ : ByteArray), .slice none 0 0, .bool false]) ?_ 0 _ rfl; (with_reducible repeat (first | refine blk_drewN ?_ _ | refine blk_drew ?_ | refine blk_alloc ?_ _)); exact BK335.out) Try.underlying25 rfl zq19) rfl ?_
  exact ⟨_, zq8, zq89, zq25⟩
end Go.Proofs.Ytgjipjffpodjlaa.K
set_option linter.unusedVariables false
namespace Go.Proofs.Ytgjipjffpodjlaa.E
open Go.RowKit Go.Proofs.YtgjipjffpodjlaaW.PrintWords Go.Proofs.YtgjipjffpodjlaaW.PrintLast Go.Proofs.YtgjipjffpodjlaaW.PrintMore Go.Proofs.Ytgjipjffpodjlaa.U Go.Proofs.Ytgjipjffpodjlaa.K
set_option maxRecDepth 20000 in
theorem or128 : ∀ a : Fin 256, a.val ||| 128 = a.val % 128 + 128 := by decide
set_option maxRecDepth 20000 in
theorem and127 : ∀ a : Fin 256, a.val &&& 127 = a.val % 128 := by decide
theorem u8_or128 (x : Int) (h : 0 ≤ x) : Go.bits .or .u8 (x % 256) 128 = x % 128 + 128 := by
  have e := or128 ⟨(x % 256).toNat, by omega⟩
  rw [u8_or _ _ (by omega) (by omega) (by omega) (by omega)]
  simp only at e
  rw [show (128 : Int).toNat = 128 from rfl, e]; omega
theorem u8_and127 (x : Int) (h : 0 ≤ x) (h1 : x ≤ 255) : Go.bits .and .u8 x 127 = x % 128 := by
  have e := and127 ⟨x.toNat, by omega⟩
  rw [u8_and _ _ (by omega) (by omega) (by omega) (by omega)]
  simp only at e
  rw [show (127 : Int).toNat = 127 from rfl, e]; omega
theorem impl_short_out (n : Nat) : ∀ (x : Int) (acc : List Int), 0 ≤ x → x ≤ 18446744073709551615 → x < 128 ^ (n + 1) → acc.length ≤ 100 - n → n ≤ 100 →
    Ev (fun k => impl_short.l0 k x acc) (strOfNums (acc ++ shortN n x)) := by
  induction n with
  | zero =>
    intro x acc h0 h1 hx hl hn
    refine Ev.step (f := fun _ => some (strOfNums (acc ++ shortN 0 x))) (fun k => ?_) (Ev.now _)
    simp only [impl_short.l0]
    rw [if_neg (by simp at hx; omega), if_pos (by omega)]; rfl
  | succ n ih =>
    intro x acc h0 h1 hx hl hn
    by_cases h : x > 127
    · refine Ev.step (f := fun k => impl_short.l0 k (x / 128) (acc ++ [x % 128 + 128])) (fun k => ?_) ?_
      · simp only [impl_short.l0]
        rw [if_pos (by omega), if_pos (by omega), u8_or128 x h0]
      · have := ih (x / 128) (acc ++ [x % 128 + 128]) (by omega) (by omega) (by rw [Int.pow_succ] at hx; omega) (by simp; omega) (by omega)
        rw [show acc ++ shortN (n + 1) x = acc ++ [x % 128 + 128] ++ shortN n (x / 128) by simp [shortN, h]]
        exact this
    · refine Ev.step (f := fun _ => some (strOfNums (acc ++ shortN (n + 1) x))) (fun k => ?_) (Ev.now _)
      simp only [impl_short.l0]
      rw [if_neg (by omega), if_pos (by omega)]; simp [shortN, h]
theorem impl_short_ev (x : Int) (h0 : 0 ≤ x) (h1 : x ≤ 18446744073709551615) : Ev (fun k => impl_short.f k x) (shortT x) := by
  unfold impl_short.f
  exact impl_short_out 10 x [] h0 h1 (by omega) (by simp) (by omega)
def frontN (s : ByteArray) (w n : Int) (h : Nat) : Int × ByteArray × Int :=
  if 1 ≤ n ∧ n ≤ 1000 then
    if (s.size : Int) < h + n + w then (0, ⟨#[]⟩, 0)
    else if sumT (s.extract h (h + n.toNat)) w = s.extract (h + n.toNat) (h + n.toNat + w.toNat) then (1, s.extract h (h + n.toNat), h + n + w) else (2, ⟨#[]⟩, 0)
  else (2, ⟨#[]⟩, 0)
def frontT (s : ByteArray) (w : Int) : Int × ByteArray × Int :=
  if s.size = 0 then (0, ⟨#[]⟩, 0)
  else if bt s 0 < 128 then frontN s w (bt s 0) 1
  else if s.size = 1 then (0, ⟨#[]⟩, 0)
  else if bt s 1 = 0 ∨ bt s 1 ≥ 128 then (2, ⟨#[]⟩, 0)
  else frontN s w (bt s 0 % 128 + 128 * bt s 1) 2
theorem impl_front_j0 (s : ByteArray) (w n : Int) (h : Nat) (hs : s.size ≤ 4611686018427387904) (hw : 1 ≤ w ∧ w ≤ 8) (hn : 0 ≤ n ∧ n ≤ 100000) (hh : h ≤ 2) (hhs : h ≤ s.size) :
    Ev (fun k => impl_front.j0 k s w n h) (frontN s w n h) := by
  unfold frontN
  refine Ev.step (fun k => by simp only [impl_front.j0]; exact rfl) ?_
  refine Ev.bindC (in_eq _ _ _) ?_
  by_cases h1 : 1 ≤ n ∧ n ≤ 1000
  · rw [decide_eq_true h1, if_pos h1]
    refine Ev.pos rfl ?_
    simp only [w64 (n := (h : Int) + n) (by omega), w64 (n := (h : Int) + n + w) (by omega)]
    by_cases h2 : (s.size : Int) < h + n + w
    · rw [if_pos h2]; exact Ev.pos h2 (Ev.now _)
    · rw [if_neg h2]
      refine Ev.neg h2 (Ev.pos (by omega) (Ev.pos (by omega) (Ev.pos (by omega) ?_)))
      simp only [show ((h : Int) + n).toNat = h + n.toNat by omega, show ((h : Int) + n + w).toNat = h + n.toNat + w.toNat by omega, Int.toNat_natCast]
      refine Ev.bind (impl_Sum_ev _ _ (by rw [size_ext]; omega)) ?_
      refine Ev.pos (by omega) (Ev.pos (by omega) (Ev.pos (by omega) ?_))
      by_cases h3 : sumT (s.extract h (h + n.toNat)) w = s.extract (h + n.toNat) (h + n.toNat + w.toNat)
      · rw [if_pos h3]; exact Ev.pos (by rw [h3]) (Ev.now _)
      · rw [if_neg h3]; exact Ev.neg (fun e => h3 (text_inj.1 e)) (Ev.now _)
  · rw [decide_eq_false h1, if_neg h1]
    exact Ev.neg (by decide) (Ev.now _)
theorem nil_iff (s : ByteArray) : s.toList = ([] : List UInt8) ↔ s.size = 0 := by
  rw [toList_eq, ← size_list]
  exact List.length_eq_zero_iff.symm
theorem impl_front_ev (s : ByteArray) (w : Int) (hs : s.size ≤ 4611686018427387904) (hw : 1 ≤ w ∧ w ≤ 8) : Ev (fun k => impl_front.f k s w) (frontT s w) := by
  unfold impl_front.f frontT
  have b0 := bt_range s 0
  have b1 := bt_range s 1
  by_cases h0 : s.size = 0
  · rw [if_pos h0]; exact Ev.pos ((nil_iff s).2 h0) (Ev.now _)
  rw [if_neg h0]
  refine Ev.neg (fun e => h0 ((nil_iff s).1 e)) (Ev.pos (by omega) ?_)
  by_cases h1 : bt s 0 < 128
  · rw [if_pos h1]
    refine Ev.neg (by omega) ?_
    rw [w64 (by omega)]
    exact impl_front_j0 s w _ 1 hs hw (by omega) (by omega) (by omega)
  rw [if_neg h1]
  refine Ev.pos (by omega) ?_
  by_cases h2 : s.size = 1
  · rw [if_pos h2]; exact Ev.pos (by omega) (Ev.now _)
  rw [if_neg h2]
  refine Ev.neg (by omega) (Ev.pos (by omega) ?_)
  by_cases h3 : bt s 1 = 0
  · rw [if_pos (.inl h3)]; exact Ev.pos h3 (Ev.now _)
  refine Ev.neg h3 ?_
  by_cases h4 : bt s 1 ≥ 128
  · rw [if_pos (.inr h4)]; exact Ev.pos h4 (Ev.now _)
  rw [if_neg (by omega)]
  refine Ev.neg h4 ?_
  rw [u8_and127 _ (by omega) (by omega), w64 (n := bt s 0 % 128) (by omega), w64 (n := bt s 1) (by omega), w64 (n := 128 * bt s 1) (by omega), w64 (by omega)]
  exact impl_front_j0 s w _ 2 hs hw (by omega) (by omega) (by omega)
theorem spec_front_j1 (s : ByteArray) (w n : Int) (h : Nat) (hs : s.size ≤ 4611686018427387904) (hw : 1 ≤ w ∧ w ≤ 8) (hn : 1 ≤ n ∧ n ≤ 1000) (hh : h ≤ 2) (hhs : h ≤ s.size) :
    Ev (fun k => spec_l3Front.j1 k s w n h false) (frontN s w n h) := by
  unfold frontN
  refine Ev.step (fun k => by simp only [spec_l3Front.j1]; exact rfl) ?_
  rw [if_pos hn]
  refine Ev.neg (by decide) ?_
  simp only [w64 (n := (h : Int) + n) (by omega), w64 (n := (h : Int) + n + w) (by omega)]
  by_cases h2 : (s.size : Int) < h + n + w
  · rw [if_pos h2]; exact Ev.pos h2 (Ev.now _)
  · rw [if_neg h2]
    refine Ev.neg h2 (Ev.pos (by omega) (Ev.pos (by omega) (Ev.pos (by omega) ?_)))
    simp only [show ((h : Int) + n).toNat = h + n.toNat by omega, show ((h : Int) + n + w).toNat = h + n.toNat + w.toNat by omega, Int.toNat_natCast]
    refine Ev.bind (spec_Sum_ev _ _ (by rw [size_ext]; omega)) ?_
    refine Ev.pos (by omega) (Ev.pos (by omega) (Ev.pos (by omega) ?_))
    by_cases h3 : sumT (s.extract h (h + n.toNat)) w = s.extract (h + n.toNat) (h + n.toNat + w.toNat)
    · rw [if_pos h3]; exact Ev.pos (by rw [h3]) (Ev.now _)
    · rw [if_neg h3]; exact Ev.neg (fun e => h3 (text_inj.1 e)) (Ev.now _)
theorem spec_front_bad (s : ByteArray) (w n : Int) (h : Int) : Ev (fun k => spec_l3Front.j1 k s w n h true) (2, ⟨#[]⟩, 0) := by
  refine Ev.step (f := fun _ => some (2, ⟨#[]⟩, 0)) (fun k => ?_) (Ev.now _)
  simp only [spec_l3Front.j1]; rw [if_pos trivial]
theorem bt_bytes (s : ByteArray) (i : Nat) (h : i < s.size) : s.data.toList[i]'(by rw [size_list]; exact h) = UInt8.ofNat (bt s i).toNat := by
  unfold bt
  rw [dif_pos (by simpa using h)]
  simp
  rfl
theorem spec_front_end (s : ByteArray) (w n : Int) (h : Nat) (hs : s.size ≤ 4611686018427387904) (hw : 1 ≤ w ∧ w ≤ 8) (hn : 0 ≤ n ∧ n ≤ 100000) (hh : h ≤ 2) (hhs : h ≤ s.size)
    {g : Nat → Option (Int × ByteArray × Int)} (hg : ∀ k, g k = (spec_l1In.f n 1 1000).bind fun t => (if t = true then ((spec_l2Short.f k (IntKind.u64.wrap n)).bind fun t115 => (if 0 ≤ (h : Int) then (if (h : Int) ≤ (s.size : Int) then (spec_l3Front.j1 k s w n h (t115.toList != (s.extract 0 ((h : Int)).toNat).toList)) else (none)) else (none))) else (spec_l3Front.j1 k s w n h true))) :
    Ev g (if shortT n = s.extract 0 h then frontN s w n h else (2, ⟨#[]⟩, 0)) := by
  refine Ev.congr hg ?_
  refine Ev.bindC (l1In_eq _ _ _) ?_
  by_cases h1 : 1 ≤ n ∧ n ≤ 1000
  · rw [decide_eq_true h1]
    refine Ev.pos rfl ?_
    rw [u64 (by omega)]
    refine Ev.bind (spec_l2Short_ev n (by omega) (by omega)) (Ev.pos (by omega) (Ev.pos (by omega) ?_))
    by_cases h2 : shortT n = s.extract 0 h
    · rw [if_pos h2, show ((shortT n).toList != (s.extract 0 ((h : Int)).toNat).toList) = false by rw [Int.toNat_natCast, h2]; simp]
      exact spec_front_j1 s w n h hs hw h1 hh hhs
    · rw [if_neg h2, show ((shortT n).toList != (s.extract 0 ((h : Int)).toNat).toList) = true by rw [Int.toNat_natCast, bne_iff_ne]; exact fun e => h2 (text_inj.1 e)]
      exact spec_front_bad s w n h
  · rw [decide_eq_false h1]
    have e : (if shortT n = s.extract 0 h then frontN s w n h else (2, ⟨#[]⟩, 0)) = ((2, ⟨#[]⟩, 0) : Int × ByteArray × Int) := by
      unfold frontN; rw [if_neg h1]; split <;> rfl
    rw [e]
    exact Ev.neg (by decide) (spec_front_bad s w n h)
theorem strOfNums_list (l : List Int) : (strOfNums l).data.toList = l.map fun n => UInt8.ofNat n.toNat := by simp [strOfNums]
theorem short_one (s : ByteArray) (hs : 1 ≤ s.size) (h : bt s 0 < 128) : shortT (bt s 0) = s.extract 0 1 := by
  apply text_ext
  have hl : s.data.toList.length = s.size := size_list s
  have e := bt_bytes s 0 (by omega)
  rw [toList_ext, List.drop_zero, List.take_one]
  have b := bt_range s 0
  unfold shortT
  rw [strOfNums_list, shortN, if_neg (by omega)]
  rw [List.head?_eq_getElem?, List.getElem?_eq_getElem (by omega), e]
  simp
  congr 2; omega
theorem short_two (s : ByteArray) (hs : 2 ≤ s.size) (h : 128 ≤ bt s 0) (h1 : bt s 1 < 128) : (shortT (bt s 0 % 128 + 128 * bt s 1) = s.extract 0 2) ↔ bt s 1 ≠ 0 := by
  have hl : s.data.toList.length = s.size := size_list s
  have e0 := bt_bytes s 0 (by omega)
  have e1 := bt_bytes s 1 (by omega)
  have b0 := bt_range s 0
  have b1 := bt_range s 1
  constructor
  · intro e hz
    have := congrArg ByteArray.size e
    rw [size_ext, hz] at this
    unfold shortT at this
    rw [strOfNums_size, shortN, if_neg (by omega)] at this
    simp at this; omega
  · intro hz
    apply text_ext
    rw [toList_ext, List.drop_zero]
    unfold shortT
    rw [strOfNums_list, shortN, if_pos (by omega), shortN, if_neg (by omega)]
    obtain ⟨a, b, l, hd⟩ : ∃ a b l, s.data.toList = a :: b :: l := by
      rcases hx : s.data.toList with _ | ⟨a, _ | ⟨b, l⟩⟩
      · rw [hx] at hl; simp at hl; omega
      · rw [hx] at hl; simp at hl; omega
      · exact ⟨a, b, l, rfl⟩
    simp only [hd, List.getElem_cons_zero, List.getElem_cons_succ] at e0 e1
    rw [hd, e0, e1]
    simp
    constructor
    · congr 1; omega
    · congr 1; omega
theorem spec_front_ev (s : ByteArray) (w : Int) (hs : s.size ≤ 4611686018427387904) (hw : 1 ≤ w ∧ w ≤ 8) : Ev (fun k => spec_l3Front.f k s w) (frontT s w) := by
  unfold spec_l3Front.f frontT
  have b0 := bt_range s 0
  have b1 := bt_range s 1
  refine Ev.step (fun k => by simp only [spec_l3Front.l0]; exact rfl) ?_
  by_cases h0 : s.size = 0
  · rw [if_pos h0]; exact Ev.pos (by omega) (Ev.neg (by omega) (Ev.now _))
  rw [if_neg h0]
  refine Ev.neg (by omega) (Ev.pos (by omega) (Ev.pos (by omega) ?_))
  simp only [w64 (n := bt s 0) (by omega), Int.tmod_eq_emod_of_nonneg b0.1, Int.mul_one, Int.zero_add, w64 (n := bt s 0 % 128) (by omega), w64 (n := 1) (by omega)]
  by_cases h1 : bt s 0 < 128
  · rw [if_pos h1]
    refine Ev.pos h1 ?_
    rw [show bt s 0 % 128 = bt s 0 by omega]
    have := spec_front_end s w (bt s 0) 1 hs hw (by omega) (by omega) (by omega) (g := _) (fun k => rfl)
    rw [if_pos (short_one s (by omega) h1)] at this
    exact this
  rw [if_neg h1]
  refine Ev.neg h1 (Ev.neg (by omega) ?_)
  refine Ev.step (fun k => by simp only [spec_l3Front.l0]; exact rfl) ?_
  by_cases h2 : s.size = 1
  · rw [if_pos h2]; exact Ev.pos (by omega) (Ev.neg (by omega) (Ev.now _))
  rw [if_neg h2]
  refine Ev.neg (by omega) (Ev.pos (by omega) (Ev.pos (by omega) ?_))
  simp only [w64 (n := bt s 1) (by omega), Int.tmod_eq_emod_of_nonneg b1.1, Int.reduceMul, w64 (n := 128) (by omega), w64 (n := bt s 1 % 128 * 128) (by omega), w64 (n := bt s 0 % 128 + bt s 1 % 128 * 128) (by omega), Int.reduceAdd, w64 (n := 2) (by omega)]
  by_cases h3 : bt s 1 < 128
  · refine Ev.pos h3 ?_
    rw [show bt s 0 % 128 + bt s 1 % 128 * 128 = bt s 0 % 128 + 128 * bt s 1 by omega]
    have := spec_front_end s w (bt s 0 % 128 + 128 * bt s 1) 2 hs hw (by omega) (by omega) (by omega) (g := _) (fun k => rfl)
    by_cases h4 : bt s 1 = 0
    · rw [if_neg (fun e => (short_two s (by omega) (by omega) h3).1 e h4)] at this
      rw [if_pos (.inl h4)]; exact this
    · rw [if_pos ((short_two s (by omega) (by omega) h3).2 h4)] at this
      rw [if_neg (by omega)]; exact this
  · rw [if_pos (.inr (by omega))]
    exact Ev.neg h3 (Ev.pos (by omega) (Ev.now _))
end Go.Proofs.Ytgjipjffpodjlaa.E
namespace Go.Proofs.Ytgjipjffpodjlaa.H
open Go.Shelf Go.RowKit
theorem bld_size : (Try.prog.info? 64).map (·.size) = some 2 := by kernel_rfl
theorem bld_lies : liesAt Try.prog Try.prog.depth 64 (2 / Try.prog.cellsOf 64) 0 64 1 = true := by kernel_rfl
theorem byte_info : (Try.prog.info? 5).map (fun i => (i.zero, i.size, i.bytes)) = some (some (.int .u8 0), 1, 1) := by kernel_rfl
set_option maxHeartbeats 1000000 in
set_option maxRecDepth 100000 in
theorem copyCheck_used (b : Nat) (w : World) (h0 : w.cell? ⟨b, 0, none⟩ = some (.pointer (some ⟨b, 0, none⟩))) :
    Calls Try.prog 62 #[.pointer (some ⟨b, 0, none⟩)] w fun e w' => e = .returned (.tuple #[]) ∧ w' = w := by
  obtain ⟨j, hj, _⟩ := Option.map_eq_some_iff.1 bld_size
  go_enter Try.func62, Try.ntmps62
  go_wp2
  rw [Lib.run_neq_ptr_same w _ Try.underlying62 hj]
  go_wp2
  go_end0
  exact ⟨rfl, rfl⟩
set_option maxHeartbeats 1000000 in
set_option maxRecDepth 100000 in
theorem copyCheck_fresh (b : Nat) (w : World) (h0 : w.cell? ⟨b, 0, none⟩ = some (.pointer none)) (hsh : w.shape? b = some (64, 2)) (hfz : w.frozen? ⟨b, 0, none⟩ = false) :
    Calls Try.prog 62 #[.pointer (some ⟨b, 0, none⟩)] w fun e w' => e = .returned (.tuple #[]) ∧ w' = w.setCell ⟨b, 0, none⟩ (.pointer (some ⟨b, 0, none⟩)) := by
  obtain ⟨j, hj, hjs⟩ := Option.map_eq_some_iff.1 bld_size
  go_enter Try.func62, Try.ntmps62
  go_wp2
  rw [Lib.run_to_unsafe w ⟨b, 0, none⟩ Try.underlying62 Try.underlying110 hj (by rw [hjs]; decide) hsh (Nat.zero_lt_succ 1)]
  simp only [Result.andThen]
  rw [Oper.upon_value]
  go_wp2
  rw [run_callFunc_extern Try.func77 (by kernel_rfl) (by kernel_rfl) (by kernel_rfl) (e := Extern.AbiNoEscape.same) (by kernel_rfl)]
  rw [Lib.run_noEscape]
  simp only [Result.andThen]
  rw [Oper.upon_value]
  go_wp2
  rw [Lib.run_from_unsafe w ⟨b, 0, none⟩ Try.underlying110 Try.underlying62 hj hsh bld_lies]
  simp only [Result.andThen]
  rw [Oper.upon_value]
  go_wp2
  go_end0
  exact ⟨rfl, rfl⟩
theorem copyCheck (B b : Nat) (bs : List Value) (w : World) (h : Lib.IsBuilder 64 5 B b bs w) :
    Calls Try.prog 62 #[.pointer (some ⟨b, 0, none⟩)] w fun e w' => e = .returned (.tuple #[]) ∧ (Lib.BuilderAt 64 5 B b (.pointer (some ⟨b, 0, none⟩)) bs w' ∧ Below B w w') := by
  rcases h with h | h
  · refine (copyCheck_fresh b w h.cell0 h.shape h.frozen0).mono ?_
    rintro e w' ⟨rfl, rfl⟩
    exact ⟨rfl, h.used _, (Below.refl B w).setCell (p := ⟨b, 0, none⟩) h.1 _⟩
  · refine (copyCheck_used b w h.cell0).mono ?_
    rintro e w' ⟨rfl, rfl⟩
    exact ⟨rfl, h, Below.refl B _⟩
set_option maxHeartbeats 2000000 in
set_option maxRecDepth 100000 in
theorem WriteByte (B b : Nat) (bs : List Value) (c : Int) (w : World) (h : Lib.IsBuilder 64 5 B b bs w) (hlen : bs.length + 1 ≤ 140737488355328) (hBw : B ≤ w.heap.size) :
    Calls Try.prog 55 #[.pointer (some ⟨b, 0, none⟩), .int .u8 c] w fun e w' => e = .returned .nilIface ∧ (Lib.IsBuilder 64 5 B b (bs ++ [.int .u8 c]) w' ∧ Below B w w') := by
  obtain ⟨i0, hi, hz0, hz1, hz2⟩ := info_parts byte_info
  go_enter Try.func55, Try.ntmps55
  go_wp2_with (go_at_call 62; refine (copyCheck B b bs _ h).mono ?_)
  rintro e w1 ⟨rfl, h1, hb1⟩
  obtain ⟨hB, v, hbk, hown, hne⟩ := h1
  have c0 : w1.cell? ⟨b, 0, none⟩ = some (.pointer (some ⟨b, 0, none⟩)) := by rw [Lib.cell_of_heap hbk]; rfl
  have c1 : w1.cell? ⟨b, 1, none⟩ = some v := by rw [Lib.cell_of_heap hbk]; rfl
  go_wp2_with (at_builtin; refine wpList_append_own _ rfl _ _ 22 rfl B 5 i0 (.int .u8 0) 1 1 Try.underlying22 hi hz0 hz1 hz2 rfl (by decide) _ _ _ rfl (hown.alloc _) ⟨w1.heap.size, 0, none⟩ 1 1 [.int .u8 c] rfl rfl ?c1 ?c2 ?c3 ?c4 ?c5 ?_)
  case c1 =>
    intro j u hj
    match j, hj with
    | 0, hj => simp at hj; subst hj; simp [Addr.add]
  case c2 => intro u hu; simp at hu; subst hu; rfl
  case c3 => unfold maxLen; omega
  case c4 => omega
  case c5 => have := hb1.size; simp; omega
  intro v' w2 hown' hgrow _
  have hlt : b < w1.heap.size := by
    rcases Nat.lt_or_ge b w1.heap.size with h' | h'
    · exact h'
    · simp [Array.getElem?_eq_none h'] at hbk
  have hb2 : w2.heap[b]? = some (.cells #[.pointer (some ⟨b, 0, none⟩), v] 64 (0, 0)) := by
    rw [hgrow.block b (by simp; omega) (fun e => hne e.symm), Lib.alloc_old w1 _ b hlt]
    exact hbk
  have d0 : w2.cell? ⟨b, 0, none⟩ = some (.pointer (some ⟨b, 0, none⟩)) := by rw [Lib.cell_of_heap hb2]; rfl
  have d1 : w2.cell? ⟨b, 1, none⟩ = some v := by rw [Lib.cell_of_heap hb2]; rfl
  have f1 : w2.frozen? ⟨b, 1, none⟩ = false := Lib.frozen_of_heap hb2 1
  obtain ⟨g, cap, rfl⟩ : ∃ g cap, v' = .slice (some ⟨g, 0, none⟩) (bs.length + 1) cap := by
    rcases hown'.2 with ⟨_, h0⟩ | ⟨g, cap, cur, hv, _⟩
    · omega
    · exact ⟨g, cap, hv⟩
  go_wp2
  go_ret
  refine ⟨rfl, .inr ?_, ?_⟩
  · exact Lib.BuilderAt.put (T := 64) (e := 5) hB hb2 (bs' := bs ++ [.int .u8 c]) (by simpa using hown') (by decide)
  · exact ((hb1.alloc (by have := hb1.size; omega) _).grown hgrow (by have := hb1.size; simp; omega) (fun k hk => (hown.lt k hk).1)).setCell (p := ⟨b, 1, none⟩) hB _
set_option maxHeartbeats 2000000 in
set_option maxRecDepth 100000 in
theorem WriteString (B b : Nat) (bs : List Value) (s : ByteArray) (w : World) (h : Lib.IsBuilder 64 5 B b bs w) (hlen : bs.length + s.size ≤ 140737488355328) (hBw : B ≤ w.heap.size) :
    Calls Try.prog 40 #[.pointer (some ⟨b, 0, none⟩), .string s] w fun e w' => e = .returned (.tuple #[.int .i64 s.size, .nilIface]) ∧ (Lib.IsBuilder 64 5 B b (bs ++ Lib.strCells s) w' ∧ Below B w w') := by
  obtain ⟨i0, hi, hz0, hz1, hz2⟩ := info_parts byte_info
  go_enter Try.func40, Try.ntmps40
  go_wp2_with (go_at_call 62; refine (copyCheck B b bs _ h).mono ?_)
  rintro e w1 ⟨rfl, h1, hb1⟩
  obtain ⟨hB, v, hbk, hown, hne⟩ := h1
  have c0 : w1.cell? ⟨b, 0, none⟩ = some (.pointer (some ⟨b, 0, none⟩)) := by rw [Lib.cell_of_heap hbk]; rfl
  have c1 : w1.cell? ⟨b, 1, none⟩ = some v := by rw [Lib.cell_of_heap hbk]; rfl
  go_wp2_with (at_builtin; refine Lib.wpList_append_own_string _ rfl _ _ 22 9 rfl B 5 i0 Try.underlying22 Try.underlying9 hi hz0 hz1 hz2 _ _ _ rfl hown s rfl ?c3 ?c4 ?c5 ?_)
  case c3 => unfold maxLen; omega
  case c4 => omega
  case c5 => have := hb1.size; omega
  intro v' w2 hown' hgrow _
  have hlt : b < w1.heap.size := by
    rcases Nat.lt_or_ge b w1.heap.size with h' | h'
    · exact h'
    · simp [Array.getElem?_eq_none h'] at hbk
  have hb2 : w2.heap[b]? = some (.cells #[.pointer (some ⟨b, 0, none⟩), v] 64 (0, 0)) := by
    rw [hgrow.block b hlt (fun e => hne e.symm)]
    exact hbk
  have d0 : w2.cell? ⟨b, 0, none⟩ = some (.pointer (some ⟨b, 0, none⟩)) := by rw [Lib.cell_of_heap hb2]; rfl
  have d1 : w2.cell? ⟨b, 1, none⟩ = some v := by rw [Lib.cell_of_heap hb2]; rfl
  have f1 : w2.frozen? ⟨b, 1, none⟩ = false := Lib.frozen_of_heap hb2 1
  obtain ⟨ao, n', cap, rfl⟩ : ∃ ao n' cap, v' = .slice ao n' cap := by
    rcases hown'.2 with ⟨hv, _⟩ | ⟨g, cap, cur, hv, _⟩
    · exact ⟨_, _, _, hv⟩
    · exact ⟨_, _, _, hv⟩
  go_wp2
  go_ret2
  refine ⟨rfl, .inr ?_, ?_⟩
  · exact Lib.BuilderAt.put (T := 64) (e := 5) hB hb2 (bs' := bs ++ Lib.strCells s) (by simpa [Lib.strCells_length] using hown') (by decide)
  · exact (hb1.grown hgrow (by have := hb1.size; omega) (fun k hk => (hown.lt k hk).1)).setCell (p := ⟨b, 1, none⟩) hB _
def lays169_ren : Go.Shelf.Ren := ⟨fun | 169 => 43 | n => n, fun | 70 => 62 | 9 => 9 | 0 => 0 | 72 => 64 | 37 => 22 | 127 => 100 | 3 => 3 | 5 => 5 | n => n, fun | n => n⟩
theorem lays169 : Go.Proofs.Lays.n169 Try.prog lays169_ren := {
  mixed := by kernel_rfl
  f169 := Try.func43.trans (congrArg some (by kernel_rfl))
  t0 := Try.underlying0
  a0 := Try.isAgg0
  z0 := Try.sizeOf0
  v0 := Try.zeroValue0
  t3 := Try.underlying3
  a3 := Try.isAgg3
  z3 := Try.sizeOf3
  v3 := Try.zeroValue3
  t9 := Try.underlying9
  a9 := Try.isAgg9
  z9 := Try.sizeOf9
  v9 := Try.zeroValue9
  t37 := Try.underlying22
  a37 := Try.isAgg22
  z37 := Try.sizeOf22
  v37 := Try.zeroValue22
  t70 := Try.underlying62
  a70 := Try.isAgg62
  z70 := Try.sizeOf62
  v70 := Try.zeroValue62
  t72 := Try.underlying64
  a72 := Try.isAgg64
  z72 := Try.sizeOf64
  v72 := Try.zeroValue64
  t127 := Try.underlying100
  a127 := Try.isAgg100
  z127 := Try.sizeOf100
  v127 := Try.zeroValue100 }
theorem extra169 : Builder.Extra Try.prog lays169_ren := {
  sizeBuilder := by kernel_rfl
  liesBuilder := by kernel_rfl
  t5 := Try.underlying5
  a5 := Try.isAgg5
  z5 := Try.sizeOf5
  v5 := Try.zeroValue5
  infoByte := by kernel_rfl
  cellsByte := by kernel_rfl
  sizeByte := by kernel_rfl
  neB5 := by decide }
theorem String_any (B b : Nat) (l : List UInt8) (w : World) (h : Lib.IsBuilder 64 5 B b (Lib.byteCells l) w) (hBw : B ≤ w.heap.size) :
    Calls Try.prog 43 #[.pointer (some ⟨b, 0, none⟩)] w fun e w' => e = .returned (.string ⟨l.toArray⟩) ∧ Below B w w' := Any.Builder_String_any lays169 extra169 B b l w h hBw
theorem String_text (B b : Nat) (s : ByteArray) (w : World) (h : Lib.IsBuilder 64 5 B b (Lib.strCells s) w) (hBw : B ≤ w.heap.size) :
    Calls Try.prog 43 #[.pointer (some ⟨b, 0, none⟩)] w fun e w' => e = .returned (.string s) ∧ Below B w w' := String_any B b s.data.toList w h hBw
theorem strCells_append (s t : ByteArray) : Lib.strCells (s ++ t) = Lib.strCells s ++ Lib.strCells t := by
  simp [Lib.strCells]
theorem fresh (B : Nat) (w : World) (hB : B ≤ w.heap.size) : Lib.IsBuilder 64 5 B w.heap.size (Lib.strCells ⟨#[]⟩) (w.alloc (.cells #[.pointer none, .slice none 0 0] 64)) :=
  Or.inl ⟨hB, .slice none 0 0, heap_alloc_new w _, World.ownsRow_nil _ _ _ _, by simp [Value.ownBlock]⟩
theorem kept {B b : Nat} {bs : List Value} {w w' : World} (h : Lib.IsBuilder 64 5 B b bs w) (hb : Below w.heap.size w w') : Lib.IsBuilder 64 5 B b bs w' := by
  have one : ∀ p, Lib.BuilderAt 64 5 B b p bs w → Lib.BuilderAt 64 5 B b p bs w' := by
    intro p h
    have hlt := h.lt
    obtain ⟨hB, v, hbk, hown, hne⟩ := h
    refine ⟨hB, v, (hb.block b hlt).trans hbk, ?_, hne⟩
    exact hown.kept (row := none) ⟨hb.os, hb.tape, hb.output, hb.size, fun k hk _ => hb.block k hk⟩ (by cases v.ownBlock <;> simp)
  exact h.elim (fun h => .inl (one _ h)) (fun h => .inr (one _ h))
end Go.Proofs.Ytgjipjffpodjlaa.H
namespace Go.Proofs.Ytgjipjffpodjlaa.K
open Go.RowKit Go.Proofs.YtgjipjffpodjlaaW.PrintWords Go.Proofs.YtgjipjffpodjlaaW.PrintLast Go.Proofs.YtgjipjffpodjlaaW.PrintMore
attribute [local go_sem] max2_int min2_int max_two min_two max_three min_three max_four min_four   
set_option linter.unusedVariables false
set_option linter.unusedSimpArgs false
mutual
def spec_Encode.j0 : Nat → List ByteArray → Int → Bool → Option (ByteArray)
 | 0, _, _, _ => none
 | k + 1, x0, x1, x14 => if x14 = true then (some (⟨#[]⟩ : ByteArray)) else (spec_Encode.l0 k x0 x1 (([] : List Int)) 0)
def spec_Encode.l0 : Nat → List ByteArray → Int → List Int → Int → Option (ByteArray)
 | 0, _, _, _, _ => none
 | k + 1, x0, x1, x5, x6 => if x6 < (x0.length : Int) then (if 0 ≤ x6 then ((spec_l1In.f ((rdOf ByteArray.empty x0 x6).size : Int) 1 1000).bind fun t146 => (if t146 = true then ((spec_l2Text.f k (rdOf ByteArray.empty x0 x6)).bind fun t148 => (if x5.length + t148.size < 140737488355328 then ((some (x5 ++ bytesOf t148 : List Int)).bind fun y149 => ((spec_Sum.f k (rdOf ByteArray.empty x0 x6) x1).bind fun t153 => (if y149.length + t153.size < 140737488355328 then (spec_Encode.l0 k x0 x1 (y149 ++ bytesOf t153) (wrap64 (x6 + 1))) else (none)))) else (none))) else (some (⟨#[]⟩ : ByteArray)))) else (none)) else (some (strOfNums x5))
end
def spec_Encode.f (k : Nat) (l0 : List ByteArray) (a1 : Int) : Option (ByteArray) := (spec_l1In.f a1 1 8).bind fun t141 => (if t141 = true then (spec_Encode.j0 k l0 a1 (decide ((l0.length : Int) > 500))) else (spec_Encode.j0 k l0 a1 true))
theorem spec_Encode.mono_l : ∀ k, (∀ y0 y1 y2, LeO (spec_Encode.j0 k y0 y1 y2) (spec_Encode.j0 (k + 1) y0 y1 y2)) ∧ (∀ y0 y1 y2 y3, LeO (spec_Encode.l0 k y0 y1 y2 y3) (spec_Encode.l0 (k + 1) y0 y1 y2 y3))
 | 0 => ⟨fun _ _ _ r h => by simp [spec_Encode.j0] at h, fun _ _ _ _ r h => by simp [spec_Encode.l0] at h⟩
 | k + 1 => by
  obtain ⟨ih0, ih1⟩ := spec_Encode.mono_l k
  refine ⟨?_, ?_⟩
  ·intro y0 y1 y2
   unfold spec_Encode.j0
   repeat' first
   | (with_reducible exact ih0 _ _ _)
   | (with_reducible exact ih1 _ _ _ _)
   | (with_reducible exact spec_Sum.mono _ _ _)
   | (with_reducible exact spec_l2Text.mono _ _)
   | (with_reducible exact LeO.refl _)
   | (with_reducible exact LeO.none _)
   | (with_reducible refine LeO.ite ?_ ?_)
   | (with_reducible refine LeO.bind ?_ (fun _ => ?_))
   | exact ih0 _ _ _
   | exact ih1 _ _ _ _
   | exact spec_Sum.mono _ _ _
   | exact spec_l2Text.mono _ _
   | exact LeO.none _
   | refine LeO.ite ?_ ?_
   | refine LeO.bind ?_ (fun _ => ?_)
  ·intro y0 y1 y2 y3
   unfold spec_Encode.l0
   repeat' first
   | (with_reducible exact ih0 _ _ _)
   | (with_reducible exact ih1 _ _ _ _)
   | (with_reducible exact spec_Sum.mono _ _ _)
   | (with_reducible exact spec_l2Text.mono _ _)
   | (with_reducible exact LeO.refl _)
   | (with_reducible exact LeO.none _)
   | (with_reducible refine LeO.ite ?_ ?_)
   | (with_reducible refine LeO.bind ?_ (fun _ => ?_))
   | exact ih0 _ _ _
   | exact ih1 _ _ _ _
   | exact spec_Sum.mono _ _ _
   | exact spec_l2Text.mono _ _
   | exact LeO.none _
   | refine LeO.ite ?_ ?_
   | refine LeO.bind ?_ (fun _ => ?_)
theorem spec_Encode.mono : ∀ a0 a1 k, LeO (spec_Encode.f k a0 a1) (spec_Encode.f (k + 1) a0 a1) := by
 intro a0 a1 k
 obtain ⟨ih0, ih1⟩ := spec_Encode.mono_l k
 unfold spec_Encode.f
 repeat' first
   | (with_reducible exact ih0 _ _ _)
   | (with_reducible exact ih1 _ _ _ _)
   | (with_reducible exact spec_Sum.mono _ _ _)
   | (with_reducible exact spec_l2Text.mono _ _)
   | (with_reducible exact LeO.refl _)
   | (with_reducible exact LeO.none _)
   | (with_reducible refine LeO.ite ?_ ?_)
   | (with_reducible refine LeO.bind ?_ (fun _ => ?_))
   | exact ih0 _ _ _
   | exact ih1 _ _ _ _
   | exact spec_Sum.mono _ _ _
   | exact spec_l2Text.mono _ _
   | exact LeO.none _
   | refine LeO.ite ?_ ?_
   | refine LeO.bind ?_ (fun _ => ?_)
set_option maxHeartbeats 2000000 in
set_option maxRecDepth 100000 in
theorem spec_Encode.calls (k : Nat) (A0 : Option Addr) (c0 : Nat) (l0 : List ByteArray) (a1 : Int) (r : ByteArray) (w : World) (hr0 : Kd.C Kd.string w A0 l0.length l0) (hc0 : l0.length ≤ c0) (h : spec_Encode.f k l0 a1 = some r) :
  Calls Try.prog 14 #[.slice A0 l0.length c0, .int .i64 a1] w fun e w' => e = .returned (.string r) ∧ Below w.heap.size w w' := by
 have HR0 := Aside0.mk hr0
 have HC0 := Aside0.mk hc0
 clear hr0 hc0
 have HB := Aside0.mk (Below.refl w.heap.size w)
 have H : ((spec_l1In.f a1 1 8).bind fun t141 => (if t141 = true then (spec_Encode.j0 k l0 a1 (decide ((l0.length : Int) > 500))) else (spec_Encode.j0 k l0 a1 true))) = some r := h
 clear h
 have HC3 := Aside0.mk H
 clear H
 go_enter Try.func14, Try.ntmps14
 go_upto_region 1 with (fail)
 go_cut [14] (fun v14 wc => ∃ (kq : Nat) (x14_2 : Bool), v14 = .bool x14_2 ∧ Aside0 (spec_Encode.j0 kq l0 a1 x14_2 = some r) ∧ Aside0 (kq ≤ k) ∧ Aside0 (Below w.heap.size w wc))
 case first =>
  have H := HC3.out
  clear HC3
  replace H := Option.bind_eq_some_iff.mp H
  obtain ⟨t141, A40, H⟩ := H
  try dsimp only at H
  have A4 := Aside0.mk A40
  clear A40
  by_cases c5 : t141 = true
  ·subst c5
   rw [if_pos rfl] at H
   have H' := Aside0.mk H
   clear H
   go_wp2_with (first | ((with_reducible refine gate_callee (f := 36) rfl ?_); refine goesL_ (some 8) rfl rfl Try.func36 zq19 rfl #[.int .i64 a1, .int .i64 1, .int .i64 8] rfl zq0 ?_; (with_reducible refine (spec_l1In.calls a1 1 8 true _ A4.out).mono ?_); rintro e w' ⟨rfl, ⟨nd, rfl⟩⟩; refine ⟨_, rfl, ?_⟩))
   go_meet
   case rel => exact ⟨_, (decide ((l0.length : Int) > 500)), zq22, H', ⟨zq74⟩, ⟨zq1⟩⟩
  ·replace c5 := Bool.eq_false_iff.mpr c5
   subst c5
   rw [if_neg (show ¬ (false = true) by decide)] at H
   have H' := Aside0.mk H
   clear H
   go_wp2_with (first | ((with_reducible refine gate_callee (f := 36) rfl ?_); refine goesL_ (some 8) rfl rfl Try.func36 zq19 rfl #[.int .i64 a1, .int .i64 1, .int .i64 8] rfl zq0 ?_; (with_reducible refine (spec_l1In.calls a1 1 8 false _ A4.out).mono ?_); rintro e w' ⟨rfl, ⟨nd, rfl⟩⟩; refine ⟨_, rfl, ?_⟩))
   go_meet
   case rel => exact ⟨_, (true), zq22, H', ⟨zq74⟩, ⟨zq1⟩⟩
 case rest =>
  clear HC3
  try clear c1
  try clear p2
  try clear c3
  try clear c5
  obtain ⟨kq, x14_2, rfl, HA, HJ2, HB⟩ := hcut
  cases kq with
  | zero => exact absurd HA.out (by simp [spec_Encode.j0])
  | succ kj2 =>
   have H := HA.out
   clear HA
   simp only [spec_Encode.j0] at H
   by_cases c6 : x14_2 = true
   ·subst c6
    rw [if_pos rfl] at H
    obtain rfl := Option.some.inj H
    go_wp2
    go_ret
    exact ⟨zq8, zq1⟩
   ·replace c6 := Bool.eq_false_iff.mpr c6
    subst c6
    rw [if_neg (show ¬ (false = true) by decide)] at H
    obtain ⟨y142, hy142⟩ : ∃ y_ : List Int, y_ = (([] : List Int)) := ⟨_, rfl⟩
    replace H : (spec_Encode.l0 kj2 l0 a1 y142 0) = some r := by first | (rw [hy142]; with_reducible exact H) | (have H2_ := (Option.bind_some _ _).symm.trans H; rw [hy142]; with_reducible exact H2_) | (have H2_ := (Option.bind_some _ _).symm.trans H; with_reducible exact H2_) | with_reducible exact H | (rw [hy142]; exact H) | exact H
    have Ny142 := Aside0.mk hy142
    clear hy142
    have H' := Aside0.mk H
    clear H
    go_wp2_with (first | ((with_reducible refine gate_dst (N := 15) rfl ?_); (try (refine gate_guard zq90 ?_; dsimp only)); refine Kd.R_lit (Kd.int .u8) _ 5 ?hg (N := 15) ?hd (xs := ([] : List Int)) (inner := []) (ok := fun _ => True) (okp := fun _ => True) ?hr ?hp (fun _ hk => hk) trivial (Below.refl _ _) (Nat.le_refl _) zq81 ?_; (case hd => rfl); (case hg => rfl); (case hr => first | (go_simp; done) | (go_simp; rfl)); (case hp => exact (Reps.none _ _)); intro v143 w7 ho8 hb hg_ hnew_; clear hg_ hnew_; (first | rw [← Ny142.out] at ho8 | (simp only [Int.reduceToNat] at ho8; rw [← Ny142.out] at ho8)); have n0_ := Aside0.mk (Kd.R_lower ho8 (below_size zq1)); have n1_ := Aside0.mk (below_step zq1 hb); clear HB; have HO144 := n0_; have HB := n1_; clear n0_ n1_; clear hb ho8))
    go_loopg [5, 6] kj2 (fun kq v5 v6 w' => ∃ (x5_2 : List Int) (x6_2 : Int), v6 = .int .i64 x6_2 ∧ Aside0 (spec_Encode.l0 kq l0 a1 x5_2 x6_2 = some r) ∧ Aside0 (kq ≤ kj2) ∧ Aside0 (Kd.R (Kd.int .u8) 5 w' w.heap.size (fun _ => True) v5 x5_2) ∧ Aside0 (Below w.heap.size w w'))
    case atStart => exact ⟨(y142), (0), zq22, H', ⟨Nat.le_refl _⟩, ⟨by (with_reducible repeat (first | apply Kd.R_alloc | apply Kd.R_drewN | apply Kd.R_drew)); exact HO144.out⟩, ⟨zq1⟩⟩
    case round =>
     clear H'
     try clear c1
     try clear p2
     try clear c3
     try clear c5
     try clear c6
     try clear p2
     obtain ⟨x5_2, x6_2, rfl, HA, HK2, HO_5, HB⟩ := hrel
     cases gk with
     | zero => exact absurd HA.out (by simp [spec_Encode.l0])
     | succ k2 =>
      have H := HA.out
      clear HA
      simp only [spec_Encode.l0] at H
      by_cases c9 : x6_2 < (l0.length : Int)
      ·rw [if_pos c9] at H
       have c9b0 : decide (x6_2 < (l0.length : Int)) = true := decide_eq_true c9
       clear c9
       by_cases c10 : 0 ≤ x6_2
       ·rw [if_pos c10] at H
        have c10b0 : decide (0 ≤ x6_2) = true := decide_eq_true c10
        clear c10
        replace H := Option.bind_eq_some_iff.mp H
        obtain ⟨t146, A110, H⟩ := H
        try dsimp only at H
        have A11 := Aside0.mk A110
        clear A110
        by_cases c12 : t146 = true
        ·subst c12
         rw [if_pos rfl] at H
         replace H := Option.bind_eq_some_iff.mp H
         obtain ⟨t148, A130, H⟩ := H
         try dsimp only at H
         have A13 := Aside0.mk A130
         clear A130
         by_cases c14 : x5_2.length + t148.size < 140737488355328
         ·rw [if_pos c14] at H
          have LMc14 := Aside0.mk c14
          clear c14
          obtain ⟨y149, hy149⟩ : ∃ y_ : List Int, y_ = (x5_2 ++ bytesOf t148) := ⟨_, rfl⟩
          replace H : ((spec_Sum.f k2 (rdOf ByteArray.empty l0 x6_2) a1).bind fun t153 => (if y149.length + t153.size < 140737488355328 then (spec_Encode.l0 k2 l0 a1 (y149 ++ bytesOf t153) (wrap64 (x6_2 + 1))) else (none))) = some r := by first | (rw [hy149]; with_reducible exact H) | (have H2_ := (Option.bind_some _ _).symm.trans H; rw [hy149]; with_reducible exact H2_) | (have H2_ := (Option.bind_some _ _).symm.trans H; with_reducible exact H2_) | with_reducible exact H | (rw [hy149]; exact H) | exact H
          have Ny149 := Aside0.mk hy149
          clear hy149
          replace H := Option.bind_eq_some_iff.mp H
          obtain ⟨t153, A150, H⟩ := H
          try dsimp only at H
          have A15 := Aside0.mk A150
          clear A150
          by_cases c16 : y149.length + t153.size < 140737488355328
          ·rw [if_pos c16] at H
           have LMc16 := Aside0.mk c16
           clear c16
           obtain ⟨y154, hy154⟩ : ∃ y_ : List Int, y_ = (y149 ++ bytesOf t153) := ⟨_, rfl⟩
           replace H : (spec_Encode.l0 k2 l0 a1 y154 (wrap64 (x6_2 + 1))) = some r := by first | (rw [hy154]; with_reducible exact H) | (have H2_ := (Option.bind_some _ _).symm.trans H; rw [hy154]; with_reducible exact H2_) | (have H2_ := (Option.bind_some _ _).symm.trans H; with_reducible exact H2_) | with_reducible exact H | (rw [hy154]; exact H) | exact H
           have Ny154 := Aside0.mk hy154
           clear hy154
           have H' := Aside0.mk H
           clear H
           have p145 : 0 ≤ (x6_2 : Int) := of_decide_eq_true zq23
           have q145 : x6_2 < (l0.length : Int) := of_decide_eq_true zq23
           obtain ⟨ad145, e145, hx145_0⟩ := Kd.at_string HR0.out x6_2 p145 q145
           cases e145
           replace hx145_0 := (HB.out.cell (World.block_lt_of_cell? w _ hx145_0)).trans hx145_0
           replace p145 := eq_true p145
           replace q145 := eq_true q145
           go_wp2_with (first | ((with_reducible refine gate_callee (f := 36) rfl ?_); refine goesL_ (some 27) rfl rfl Try.func36 zq19 rfl #[.int .i64 ((rdOf ByteArray.empty l0 x6_2).size : Int), .int .i64 1, .int .i64 1000] rfl zq0 ?_; (with_reducible refine (spec_l1In.calls ((rdOf ByteArray.empty l0 x6_2).size : Int) 1 1000 true _ A11.out).mono ?_); rintro e w' ⟨rfl, ⟨nd, rfl⟩⟩; refine ⟨_, rfl, ?_⟩; have p147 : 0 ≤ (x6_2 : Int) := of_decide_eq_true zq23; have q147 : x6_2 < (l0.length : Int) := of_decide_eq_true zq23; obtain ⟨ad147, e147, hx147_0⟩ := Kd.at_string HR0.out x6_2 p147 q147; obtain rfl : ad145 = ad147 := (by injection e147); replace hx147_0 := (HB.out.cell (World.block_lt_of_cell? w _ hx147_0)).trans hx147_0; replace p147 := eq_true p147; replace q147 := eq_true q147) | ((with_reducible refine gate_callee (f := 44) rfl ?_); refine goesL_ (some 34) rfl rfl Try.func44 zq19 rfl #[.string (rdOf ByteArray.empty l0 x6_2)] rfl zq0 ?_; (with_reducible refine (spec_l2Text.calls k2 (rdOf ByteArray.empty l0 x6_2) t148 _ A13.out).mono ?_); rintro e w17 ⟨rfl, hb⟩; refine ⟨_, rfl, ?_⟩; have n0_ := Aside0.mk (Kd.R_below zq79 hb); have n1_ := Aside0.mk (below_step zq1 hb); clear HO_5; clear HB; have HO_5 := n0_; have HB := n1_; clear n0_ n1_; (try clear hb); (try clear hb2); (try clear hk); (try clear hi)) | (at_builtin; refine print_append_str (w0 := w) w.heap.size rfl (.tmp 29) _ 22 9 5 rfl Try.underlying22 Try.underlying9 info5 u5 x5_2 t148 rfl rfl ?aO ?aB ?aS ?aL ?_; (case aB => exact zq1); (case aO => exact (Kd.own_of_R zq79)); (case aS => exact (below_size zq1)); (case aL => have := LMc14.out; omega); intro v150 w18 ho0 hb hg; have ho := Kd.R_of_own (h1 := fun _ => rfl) (ok := fun _ => True) ho0 (fun _ _ => trivial); clear ho0; have hat := True.intro; rw [← Ny149.out] at ho; change Kd.R (Kd.int .u8) 5 w18 w.heap.size (fun _ => True) v150 y149 at ho; have n0_ := Aside0.mk (hb); have n1_ := Aside0.mk (ho); clear HB; clear HO_5; have HB := n0_; have HO151 := n1_; clear n0_ n1_; clear ho hb hg hat; have p152 : 0 ≤ (x6_2 : Int) := of_decide_eq_true zq23; have q152 : x6_2 < (l0.length : Int) := of_decide_eq_true zq23; obtain ⟨ad152, e152, hx152_0⟩ := Kd.at_string HR0.out x6_2 p152 q152; obtain rfl : ad145 = ad152 := (by injection e152); replace hx152_0 := (HB.out.cell (World.block_lt_of_cell? w _ hx152_0)).trans hx152_0; replace p152 := eq_true p152; replace q152 := eq_true q152) | ((with_reducible refine gate_callee (f := 31) rfl ?_); refine goesL_ (some 42) rfl rfl Try.func31 zq19 rfl #[.string (rdOf ByteArray.empty l0 x6_2), .int .i64 a1] rfl zq0 ?_; (with_reducible refine (spec_Sum.calls k2 (rdOf ByteArray.empty l0 x6_2) a1 t153 _ A15.out).mono ?_); rintro e w19 ⟨rfl, hb⟩; refine ⟨_, rfl, ?_⟩; have n0_ := Aside0.mk (Kd.R_below (by (with_reducible repeat (first | apply Kd.R_alloc | apply Kd.R_drewN | apply Kd.R_drew)); exact HO151.out) hb); have n1_ := Aside0.mk (below_step zq1 hb); clear HO151; clear HB; have HO151 := n0_; have HB := n1_; clear n0_ n1_; (try clear hb); (try clear hb2); (try clear hk); (try clear hi)) | (at_builtin; refine print_append_str (w0 := w) w.heap.size rfl (.tmp 36) _ 22 9 5 rfl Try.underlying22 Try.underlying9 info5 v150 y149 t153 rfl rfl ?aO ?aB ?aS ?aL ?_; (case aB => exact zq1); (case aO => exact (Kd.own_of_R (by (with_reducible repeat (first | apply Kd.R_alloc | apply Kd.R_drewN | apply Kd.R_drew)); exact HO151.out))); (case aS => exact (below_size zq1)); (case aL => have := LMc16.out; omega); intro v155 w20 ho0 hb hg; have ho := Kd.R_of_own (h1 := fun _ => rfl) (ok := fun _ => True) ho0 (fun _ _ => trivial); clear ho0; have hat := True.intro; rw [← Ny154.out] at ho; change Kd.R (Kd.int .u8) 5 w20 w.heap.size (fun _ => True) v155 y154 at ho; have n0_ := Aside0.mk (hb); have n1_ := Aside0.mk (ho); clear HB; clear HO151; have HB := n0_; have HO156 := n1_; clear n0_ n1_; clear ho hb hg hat))
           go_roundg k2
           case measure => have := HJ2.out; have := HK2.out; omega
           case rel => exact ⟨(y154), (wrap64 (x6_2 + 1)), zq22, H', ⟨by have := HJ2.out; have := HK2.out; omega⟩, ⟨by (with_reducible repeat (first | apply Kd.R_alloc | apply Kd.R_drewN | apply Kd.R_drew)); exact HO156.out⟩, ⟨zq1⟩⟩
          ·rw [if_neg c16] at H
           exact absurd H zq81
         ·rw [if_neg c14] at H
          exact absurd H zq81
        ·replace c12 := Bool.eq_false_iff.mpr c12
         subst c12
         rw [if_neg (show ¬ (false = true) by decide)] at H
         obtain rfl := Option.some.inj H
         have p145 : 0 ≤ (x6_2 : Int) := of_decide_eq_true zq23
         have q145 : x6_2 < (l0.length : Int) := of_decide_eq_true zq23
         obtain ⟨ad145, e145, hx145_0⟩ := Kd.at_string HR0.out x6_2 p145 q145
         cases e145
         replace hx145_0 := (HB.out.cell (World.block_lt_of_cell? w _ hx145_0)).trans hx145_0
         replace p145 := eq_true p145
         replace q145 := eq_true q145
         go_wp2_with (first | ((with_reducible refine gate_callee (f := 36) rfl ?_); refine goesL_ (some 27) rfl rfl Try.func36 zq19 rfl #[.int .i64 ((rdOf ByteArray.empty l0 x6_2).size : Int), .int .i64 1, .int .i64 1000] rfl zq0 ?_; (with_reducible refine (spec_l1In.calls ((rdOf ByteArray.empty l0 x6_2).size : Int) 1 1000 false _ A11.out).mono ?_); rintro e w' ⟨rfl, ⟨nd, rfl⟩⟩; refine ⟨_, rfl, ?_⟩))
         go_ret
         exact ⟨zq8, zq1⟩
       ·rw [if_neg c10] at H
        exact absurd H zq81
      ·rw [if_neg c9] at H
       have c9b0 : decide (x6_2 < (l0.length : Int)) = false := decide_eq_false c9
       clear c9
       obtain rfl := Option.some.inj H
       have hcv21 := own_string (P := Try.prog) Try.underlying22 Try.underlying5 Try.underlying9 (Kd.own_of_R HO_5.out)
       go_wp2
       go_ret
       exact ⟨zq8, zq1⟩
end Go.Proofs.Ytgjipjffpodjlaa.K
set_option linter.unusedVariables false
namespace Go.Proofs.Ytgjipjffpodjlaa.E
open Go.RowKit Go.Proofs.YtgjipjffpodjlaaW.PrintWords Go.Proofs.YtgjipjffpodjlaaW.PrintLast Go.Proofs.YtgjipjffpodjlaaW.PrintMore Go.Proofs.Ytgjipjffpodjlaa.U Go.Proofs.Ytgjipjffpodjlaa.K
def okF (f : ByteArray) : Bool := decide (1 ≤ f.size ∧ f.size ≤ 1000)
def frameT (p : ByteArray) (w : Int) : ByteArray := shortT p.size ++ p ++ sumT p w
def catF (l : List ByteArray) (w : Int) : ByteArray := l.foldl (fun a p => a ++ frameT p w) ⟨#[]⟩
def encT (l : List ByteArray) (w : Int) : ByteArray := if (1 ≤ w ∧ w ≤ 8) ∧ l.length ≤ 500 ∧ l.all okF = true then catF l w else ⟨#[]⟩
theorem catF_snoc (l : List ByteArray) (p : ByteArray) (w : Int) : catF (l ++ [p]) w = catF l w ++ frameT p w := by
  unfold catF; rw [List.foldl_append]; rfl
theorem frameT_size (p : ByteArray) (w : Int) (h : okF p = true) : (frameT p w).size ≤ 1019 := by
  have h1 := shortT_size p.size
  have h2 := sumT_size_le p w
  have h3 := of_decide_eq_true h
  unfold frameT
  rw [size_app, size_app]; omega
theorem catF_size0 (l : List ByteArray) (w : Int) (acc : ByteArray) (h : l.all okF = true) : (l.foldl (fun a p => a ++ frameT p w) acc).size ≤ acc.size + 1019 * l.length := by
  induction l generalizing acc with
  | nil => exact Nat.le_refl _
  | cons p l ih =>
    rw [List.all_cons, Bool.and_eq_true] at h
    have h1 := ih (acc ++ frameT p w) h.2
    have h2 := frameT_size p w h.1
    rw [size_app] at h1
    simp only [List.foldl_cons, List.length_cons]; omega
theorem catF_size (l : List ByteArray) (w : Int) (h : l.all okF = true) : (catF l w).size ≤ 1019 * l.length := by
  have := catF_size0 l w ⟨#[]⟩ h
  have e : (⟨#[]⟩ : ByteArray).size = 0 := rfl
  rw [e] at this
  unfold catF; omega
theorem below_undrew {B : Nat} {w w1 : World} {n : Nat} (h : Below B (w.drewN n) w1) : Below B w w1 := ⟨h.os, h.tape, h.output, h.size, h.block⟩
theorem take_snoc {α : Type} (l : List α) (i : Nat) (h : i < l.length) : l.take (i + 1) = l.take i ++ [l[i]] := List.take_succ_eq_append_getElem h
theorem all_false_of {l : List ByteArray} {i : Nat} (h : i < l.length) (e : okF l[i] = false) : l.all okF = false := by
  rw [List.all_eq_false]
  exact ⟨l[i], List.getElem_mem h, by simp [e]⟩
theorem rdOf_nat' {α : Type} (d : α) (l : List α) (i : Nat) (h : i < l.length) : rdOf d l i = l[i] := by
  simp [rdOf, List.getD, List.getElem?_eq_getElem h]
theorem list_bytes_length (s : ByteArray) : (Lib.strCells s).length = s.size := Lib.strCells_length s
theorem in_calls (a b c : Int) (r : Bool) (w : World) (h : decide (b ≤ a ∧ a ≤ c) = r) : Calls Try.prog 37 #[.int .i64 a, .int .i64 b, .int .i64 c] w fun e w' => e = .returned (.bool r) ∧ Drawn0 w w' :=
  impl_in.calls a b c r w ((in_eq a b c).trans (by rw [h]))
theorem short_calls (x : Int) (r : ByteArray) (w : World) (h0 : 0 ≤ x ∧ x ≤ 18446744073709551615) (h : shortT x = r) : Calls Try.prog 41 #[.int .u64 x] w fun e w' => e = .returned (.string r) ∧ Below w.heap.size w w' := by
  subst h
  obtain ⟨k, hk⟩ := Ev.rounds (impl_short_ev x h0.1 h0.2)
  exact impl_short.calls k x _ w hk
theorem sum_calls (s : ByteArray) (a : Int) (r : ByteArray) (w : World) (hs : s.size ≤ 4611686018427387904) (h : sumT s a = r) : Calls Try.prog 42 #[.string s, .int .i64 a] w fun e w' => e = .returned (.string r) ∧ Below w.heap.size w w' := by
  subst h
  obtain ⟨k, hk⟩ := Ev.rounds (impl_Sum_ev s a hs)
  exact impl_Sum.calls k s a _ w hk
end Go.Proofs.Ytgjipjffpodjlaa.E
namespace Go.Proofs.Ytgjipjffpodjlaa.K
open Go.RowKit Go.Proofs.YtgjipjffpodjlaaW.PrintWords Go.Proofs.YtgjipjffpodjlaaW.PrintLast Go.Proofs.YtgjipjffpodjlaaW.PrintMore Go.Proofs.Ytgjipjffpodjlaa.U Go.Proofs.Ytgjipjffpodjlaa.E
def impl_Encode.f (l0 : List ByteArray) (a1 : Int) : Option (ByteArray) := some (encT l0 a1)
set_option maxHeartbeats 2000000 in
set_option maxRecDepth 100000 in
theorem impl_Encode.main (A0 : Option Addr) (c0 : Nat) (l0 : List ByteArray) (a1 : Int) (w : World) (hr0 : Kd.C Kd.string w A0 l0.length l0) (hc0 : l0.length ≤ c0) (hw : 1 ≤ a1 ∧ a1 ≤ 8) (hl : l0.length ≤ 500) :
    Calls Try.prog 13 #[.slice A0 l0.length c0, .int .i64 a1] w fun e w' => e = .returned (.string (encT l0 a1)) ∧ Below w.heap.size w w' := by
  have HR0 := Aside0.mk hr0
  clear hr0
  have HW := Aside0.mk hw
  have HL := Aside0.mk hl
  have hin : decide (1 ≤ a1 ∧ a1 ≤ 8) = true := decide_eq_true hw
  have hl0 : decide ((500 : Int) < (l0.length : Int)) = false := decide_eq_false (by omega)
  have hl1 : decide (500 < l0.length) = false := decide_eq_false (by omega)
  have HIN := Aside0.mk hin
  clear hin hw
  go_enter Try.func13, Try.ntmps13
  go_wp2_with (go_at_call 37; refine (in_calls a1 1 8 true _ HIN.out).mono ?_; rintro e w' ⟨rfl, ⟨nd, rfl⟩⟩)
  go_loopw [18] (fun v18 wr => ∃ i : Nat, i ≤ l0.length ∧ v18 = .int .i64 i ∧ Aside0 ((l0.take i).all okF = true) ∧ Aside0 (Lib.IsBuilder 64 5 w.heap.size w.heap.size (Lib.strCells (catF (l0.take i) a1)) wr) ∧ Aside0 (Below w.heap.size w wr)) (fun v18 _ => l0.length - (intOf v18).toNat)
  case atStart => exact ⟨0, Nat.zero_le _, rfl, ⟨rfl⟩, ⟨H.fresh w.heap.size (w.drewN nd) (Nat.le_refl _)⟩, ⟨pw_below_drewN (below_alloc (Below.refl _ _) _) nd⟩⟩
  case round =>
    obtain ⟨i, hi, rfl, HA, HD, HB⟩ := hrel
    by_cases hlt : i < l0.length
    · obtain ⟨ad, e, hx⟩ := Kd.at_string HR0.out i (by omega) (by omega)
      cases e
      rw [rdOf_nat' _ _ _ hlt, Int.toNat_natCast] at hx
      replace hx := pw_cell_below HB.out hx
      obtain ⟨p, hp⟩ : ∃ p, p = l0[i] := ⟨_, rfl⟩
      rw [← hp] at hx
      have HP := Aside0.mk hp
      clear hp
      by_cases hok : okF p = true
      · have h1 : 1 ≤ p.size := (of_decide_eq_true hok).1
        have h2 : p.size ≤ 1000 := (of_decide_eq_true hok).2
        have hin2 : decide ((1 : Int) ≤ (p.size : Int) ∧ (p.size : Int) ≤ 1000) = true := decide_eq_true (by omega)
        have HIN2 := Aside0.mk hin2
        have HOK := Aside0.mk hok
        clear hin2 hok
        obtain ⟨sh, hsh⟩ : ∃ x, shortT p.size = x := ⟨_, rfl⟩
        obtain ⟨sm, hsm⟩ : ∃ x, sumT p a1 = x := ⟨_, rfl⟩
        have h3 : sh.size ≤ 11 := by rw [← hsh]; exact (shortT_size _).2
        have h4 : sm.size ≤ 8 := by rw [← hsm]; exact sumT_size_le _ _
        have HSH := Aside0.mk hsh
        have HSM := Aside0.mk hsm
        clear hsh hsm
        have hcat : (catF (l0.take i) a1).size ≤ 509500 := by
          have := catF_size _ a1 HA.out
          have := List.length_take_le i l0
          have := HL.out
          omega
        have HCAT := Aside0.mk hcat
        clear hcat
        go_wp2_with (first | (go_at_call 37; refine (in_calls p.size 1 1000 true _ HIN2.out).mono ?_; rintro e w' ⟨rfl, ⟨nd2, rfl⟩⟩) | (go_at_call 41; refine (short_calls p.size sh _ ⟨by omega, by omega⟩ HSH.out).mono ?_; rintro e w1 ⟨rfl, hb1⟩; have HB1 := Aside0.mk (below_undrew (w := wr) hb1); clear hb1) | (go_at_call 42; refine (sum_calls p a1 sm _ (by omega) HSM.out).mono ?_; rintro e w2 ⟨rfl, hb2⟩; have HB2 := Aside0.mk hb2; clear hb2) | (go_at_call 40; refine (H.WriteString w.heap.size w.heap.size (Lib.strCells (catF (l0.take i) a1)) (sh ++ p ++ sm) _ (H.kept (H.kept HD.out HB1.out) HB2.out) (by rw [Lib.strCells_length, size_app, size_app]; have := HCAT.out; omega) (Nat.le_trans HB.out.size (Nat.le_trans HB1.out.size HB2.out.size))).mono ?_; rintro e w3 ⟨rfl, hd3, hb3⟩; have HD3 := Aside0.mk hd3; have HB3 := Aside0.mk hb3; clear hd3 hb3))
        go_roundw
        case measure => simp [intOf]; omega
        case rel =>
          refine ⟨i + 1, by omega, by go_num, ⟨?_⟩, ⟨?_⟩, ⟨(below_then (below_then HB.out HB.out.size HB1.out) (below_then HB.out HB.out.size HB1.out).size HB2.out).trans HB3.out⟩⟩
          · rw [take_snoc _ _ hlt, List.all_append, HA.out, ← HP.out]; simp [HOK.out]
          · rw [take_snoc _ _ hlt, ← HP.out, catF_snoc, H.strCells_append]
            have := HD3.out
            rw [← HSH.out, ← HSM.out] at this
            exact this
      · have hok' : okF p = false := by simpa using hok
        have hin2 : decide ((1 : Int) ≤ (p.size : Int) ∧ (p.size : Int) ≤ 1000) = false := decide_eq_false (fun h => of_decide_eq_false hok' (by omega))
        have HIN2 := Aside0.mk hin2
        have HOK := Aside0.mk hok'
        clear hin2 hok hok'
        go_wp2_with (go_at_call 37; refine (in_calls p.size 1 1000 false _ HIN2.out).mono ?_; rintro e w' ⟨rfl, ⟨nd2, rfl⟩⟩)
        go_ret
        refine ⟨?_, pw_below_drewN HB.out _⟩
        have : encT l0 a1 = ⟨#[]⟩ := by
          unfold encT
          rw [if_neg (fun h => by have := all_false_of hlt (by rw [← HP.out]; exact HOK.out); rw [this] at h; simp at h)]
        rw [this]
        rfl
    · have hi2 : i = l0.length := by omega
      have HI := Aside0.mk hi2
      clear hi2
      go_wp2_with (go_at_call 43; refine (H.String_text w.heap.size w.heap.size (catF (l0.take i) a1) _ HD.out HB.out.size).mono ?_; rintro e w1 ⟨rfl, hb1⟩; have HB1 := Aside0.mk hb1; clear hb1)
      go_ret
      refine ⟨?_, HB.out.trans HB1.out⟩
      have e := HA.out
      rw [HI.out, List.take_length] at e
      rw [HI.out, List.take_length]
      unfold encT
      rw [if_pos ⟨HW.out, HL.out, e⟩]
      rfl
set_option maxHeartbeats 2000000 in
set_option maxRecDepth 100000 in
theorem impl_Encode.none (A0 : Option Addr) (c0 : Nat) (l0 : List ByteArray) (a1 : Int) (w : World) (hc0 : l0.length ≤ c0) (hw : ¬ ((1 ≤ a1 ∧ a1 ≤ 8) ∧ l0.length ≤ 500)) :
    Calls Try.prog 13 #[.slice A0 l0.length c0, .int .i64 a1] w fun e w' => e = .returned (.string (encT l0 a1)) ∧ Below w.heap.size w w' := by
  have e0 : encT l0 a1 = ⟨#[]⟩ := by
    unfold encT; rw [if_neg (fun h => hw ⟨h.1, h.2.1⟩)]
  rw [e0]
  clear e0
  by_cases h : 1 ≤ a1 ∧ a1 ≤ 8
  · have hl0 : decide ((500 : Int) < (l0.length : Int)) = true := decide_eq_true (by omega)
    have hl1 : decide (500 < l0.length) = true := decide_eq_true (by omega)
    have HIN := Aside0.mk (decide_eq_true h)
    clear h hw
    go_enter Try.func13, Try.ntmps13
    go_wp2_with (go_at_call 37; refine (in_calls a1 1 8 true _ HIN.out).mono ?_; rintro e w' ⟨rfl, ⟨nd, rfl⟩⟩)
    go_ret
    exact ⟨rfl, pw_below_drewN (Below.refl _ _) _⟩
  · have HIN := Aside0.mk (decide_eq_false h)
    clear h hw
    go_enter Try.func13, Try.ntmps13
    go_wp2_with (go_at_call 37; refine (in_calls a1 1 8 false _ HIN.out).mono ?_; rintro e w' ⟨rfl, ⟨nd, rfl⟩⟩)
    go_ret
    exact ⟨rfl, pw_below_drewN (Below.refl _ _) _⟩
theorem impl_Encode.calls (A0 : Option Addr) (c0 : Nat) (l0 : List ByteArray) (a1 : Int) (r : ByteArray) (w : World) (hr0 : Kd.C Kd.string w A0 l0.length l0) (hc0 : l0.length ≤ c0) (h : impl_Encode.f l0 a1 = some r) :
    Calls Try.prog 13 #[.slice A0 l0.length c0, .int .i64 a1] w fun e w' => e = .returned (.string r) ∧ Below w.heap.size w w' := by
  obtain rfl := Option.some.inj h
  by_cases hh : (1 ≤ a1 ∧ a1 ≤ 8) ∧ l0.length ≤ 500
  · exact impl_Encode.main A0 c0 l0 a1 w hr0 hc0 hh.1 hh.2
  · exact impl_Encode.none A0 c0 l0 a1 w hc0 hh
end Go.Proofs.Ytgjipjffpodjlaa.K
namespace Go.Proofs.Ytgjipjffpodjlaa.K
open Go.RowKit Go.Proofs.YtgjipjffpodjlaaW.PrintWords Go.Proofs.YtgjipjffpodjlaaW.PrintLast Go.Proofs.YtgjipjffpodjlaaW.PrintMore
attribute [local go_sem] max2_int min2_int max_two min_two max_three min_three max_four min_four   
set_option linter.unusedVariables false
set_option linter.unusedSimpArgs false
def IsS98 (w0 W : World) (g : Nat) (f0 : List Int) (f1 : Int) : Prop := ∃ A0 c0, W.heap[g]? = some (.cells #[.slice A0 f0.length c0, .int .i64 f1] 98 (0, 0)) ∧ w0.heap.size ≤ g ∧ Kd.C (Kd.int .u8) w0 A0 f0.length f0
theorem IsS98.grown {w0 W : World} {g : Nat} {f0 : List Int} {f1 : Int} {W1 : World} {row : Option Nat} (h : IsS98 w0 W g f0 f1) (hw : W.grownBy W1 row) (hne : some g ≠ row) : IsS98 w0 W1 g f0 f1 := by
 obtain ⟨A0, c0, hb, hg, hr0⟩ := h
 exact ⟨A0, c0, blk_grown hb hw hne, hg, hr0⟩
theorem IsS98.own_neN {w0 W : World} {g : Nat} {f0 : List Int} {f1 : Int} {α : Type} {d : Kd α} {e : Nat} {base : Nat} {ok : Nat → Prop} {v : Value} {xs : List α} (h : IsS98 w0 W g f0 f1) (ho : Kd.N d e W base ok v xs) (ht : e ≠ 98) : some g ≠ v.ownBlock := by
 obtain ⟨A0, c0, hb, hg, hr0⟩ := h
 exact Kd.N_ne ho hb ht
theorem IsS98.fresh {w0 W : World} {g : Nat} {f0 : List Int} {f1 : Int} (h : IsS98 w0 W g f0 f1) : ∀ k, W.heap.size ≤ k → k ≠ g := by
 obtain ⟨A0, c0, hb, hg, hr0⟩ := h
 exact Kd.freshB hb
theorem IsS98.kept {w0 W : World} {g : Nat} {f0 : List Int} {f1 : Int} {W1 : World} {S : Nat → Prop} (h : IsS98 w0 W g f0 f1) (hk : Kept W W1 S) (hne : ¬ S g) : IsS98 w0 W1 g f0 f1 := by
 obtain ⟨A0, c0, hb, hg, hr0⟩ := h
 exact ⟨A0, c0, blk_kept hb hk hne, hg, hr0⟩
theorem IsS98.below {w0 W : World} {g : Nat} {f0 : List Int} {f1 : Int} {W1 : World} (h : IsS98 w0 W g f0 f1) (hw : Below W.heap.size W W1) : IsS98 w0 W1 g f0 f1 := h.grown (grown_of_below hw none) zq81
theorem IsS98.alloc {w0 W : World} {g : Nat} {f0 : List Int} {f1 : Int} (h : IsS98 w0 W g f0 f1) (o : Obj) : IsS98 w0 (W.alloc o) g f0 f1 := h.below (below_alloc (Below.refl _ _) o)
theorem IsS98.drewN {w0 W : World} {g : Nat} {f0 : List Int} {f1 : Int} (h : IsS98 w0 W g f0 f1) (m : Nat) : IsS98 w0 (W.drewN m) g f0 f1 := h
theorem IsS98.drew {w0 W : World} {g : Nat} {f0 : List Int} {f1 : Int} (h : IsS98 w0 W g f0 f1) : IsS98 w0 W.drew g f0 f1 := h
theorem IsS98.at_ {w0 W : World} {g : Nat} {f0 : List Int} {f1 : Int} {w' : World} {m : Nat} (hq : W.drewN m = w') (h : IsS98 w0 W g f0 f1) : IsS98 w0 w' g f0 f1 := by subst hq; exact IsS98.drewN h m
theorem IsS98.apart {w0 W : World} {g : Nat} {f0 : List Int} {f1 : Int} {α : Type} {d : Kd α} {e : Nat} {base : Nat} {ok : Nat → Prop} {v : Value} {xs : List α} (h : IsS98 w0 W g f0 f1) (ho : d.R e W base ok v xs) (ht : ∀ q, q ∈ e :: d.E → q ≠ 98) : d.R e W base (fun k => ok k ∧ k ≠ g) v xs := by
 obtain ⟨A0, c0, hb, hg, hr0⟩ := h
 exact Kd.R_types ho hb ht
theorem IsS98.own_ne {w0 W : World} {g : Nat} {f0 : List Int} {f1 : Int} {α : Type} {d : Kd α} {e : Nat} {base : Nat} {ok : Nat → Prop} {v : Value} {xs : List α} (h : IsS98 w0 W g f0 f1) (ho : d.R e W base ok v xs) (ht : e ≠ 98) : some g ≠ v.ownBlock := by
 obtain ⟨A0, c0, hb, hg, hr0⟩ := h
 exact Kd.R_ne ho hb ht
theorem IsS98.apartQ {w0 W : World} {g : Nat} {f0 : List Int} {f1 : Int} {α : Type} {d : Kd α} {e : Nat} {base : Nat} {ok : Nat → Prop} {v : Value} {xs : List α} (h : IsS98 w0 W g f0 f1) (ho : d.Q e W base ok v xs) (ht : ∀ q, q ∈ e :: d.E → q ≠ 98) : d.Q e W base (fun k => ok k ∧ k ≠ g) v xs := by
 obtain ⟨A0, c0, hb, hg, hr0⟩ := h
 exact Kd.Q_types ho hb ht
theorem IsS98.own_neQ {w0 W : World} {g : Nat} {f0 : List Int} {f1 : Int} {α : Type} {d : Kd α} {e : Nat} {base : Nat} {ok : Nat → Prop} {v : Value} {xs : List α} (h : IsS98 w0 W g f0 f1) (ho : d.Q e W base ok v xs) (ht : e ≠ 98) : some g ≠ v.ownBlock := by
 obtain ⟨A0, c0, hb, hg, hr0⟩ := h
 exact Kd.Q_ne ho hb ht
theorem IsS98.apartS {w0 W : World} {g : Nat} {f0 : List Int} {f1 : Int} {α : Type} {d : Kd α} {e : Nat} {base : Nat} {ok : Nat → Prop} {v : Value} {xs : List α} (h : IsS98 w0 W g f0 f1) (ho : d.S e W base ok v xs) (ht : ∀ q, q ∈ e :: d.E → q ≠ 98) : d.S e W base (fun k => ok k ∧ k ≠ g) v xs := by
 obtain ⟨A0, c0, hb, hg, hr0⟩ := h
 exact Kd.S_types ho hb ht
theorem IsS98.own_neS {w0 W : World} {g : Nat} {f0 : List Int} {f1 : Int} {α : Type} {d : Kd α} {e : Nat} {base : Nat} {ok : Nat → Prop} {v : Value} {xs : List α} (h : IsS98 w0 W g f0 f1) (ho : d.S e W base ok v xs) (ht : e ≠ 98) : some g ≠ v.ownBlock := by
 obtain ⟨A0, c0, hb, hg, hr0⟩ := h
 exact Kd.S_ne ho hb ht
theorem IsS98.lt {w0 W : World} {g : Nat} {f0 : List Int} {f1 : Int} (h : IsS98 w0 W g f0 f1) : g < W.heap.size := by
 obtain ⟨A0, c0, hb, hg, hr0⟩ := h
 exact blk_lt hb
theorem IsS98.ge {w0 W : World} {g : Nat} {f0 : List Int} {f1 : Int} (h : IsS98 w0 W g f0 f1) : w0.heap.size ≤ g := by
 obtain ⟨A0, c0, hb, hg, hr0⟩ := h
 exact hg
theorem IsS98.ne_blk {w0 W : World} {g : Nat} {f0 : List Int} {f1 : Int} {a : Nat} {cs : Array Value} {t : TypeId} {fr : Nat × Nat} (h : IsS98 w0 W g f0 f1) (hb2 : W.heap[a]? = some (.cells cs t fr)) (ht : t ≠ 98) : g ≠ a := by
 obtain ⟨A0, c0, hb, hg, hr0⟩ := h
 rintro rfl
 rw [hb] at hb2
 injection hb2 with hb2
 injection hb2 with _ ht2
 exact ht ht2.symm
theorem IsS98.far {w0 W : World} {g : Nat} {f0 : List Int} {f1 : Int} {p : Addr} (h : IsS98 w0 W g f0 f1) (hne : g ≠ p.block) (u : Value) : IsS98 w0 (W.setCell p u) g f0 f1 := by
 obtain ⟨A0, c0, hb, hg, hr0⟩ := h
 exact ⟨A0, c0, blk_far hb hne u, hg, hr0⟩
theorem cellS98_0 {W : World} {g : Nat} {A0 : Option Addr} {c0 : Nat} {f0 : List Int} {f1 : Int} (h : W.heap[g]? = some (.cells #[.slice A0 f0.length c0, .int .i64 f1] 98 (0, 0))) : W.cell? ⟨g, 0, none⟩ = some (.slice A0 f0.length c0) := (blk_cell h 0).trans rfl
theorem cellS98_1 {W : World} {g : Nat} {A0 : Option Addr} {c0 : Nat} {f0 : List Int} {f1 : Int} (h : W.heap[g]? = some (.cells #[.slice A0 f0.length c0, .int .i64 f1] 98 (0, 0))) : W.cell? ⟨g, 1, none⟩ = some (.int .i64 f1) := (blk_cell h 1).trans rfl
theorem IsS98.set_1 {w0 W : World} {g : Nat} {f0 : List Int} {f1 : Int} (h : IsS98 w0 W g f0 f1) (x : Int) : IsS98 w0 (W.setCell ⟨g, 1, none⟩ (.int .i64 x)) g f0 x := by
 obtain ⟨A0, c0, hb, hg, hr0⟩ := h
 exact ⟨A0, c0, by simpa using blk_set hb 1 (.int .i64 x), hg, hr0⟩
theorem IsS98.new (w0 W : World) (A0 : Option Addr) (c0 : Nat) (f0 : List Int) (f1 : Int) (hB : Below w0.heap.size w0 W) (hr0 : Kd.C (Kd.int .u8) w0 A0 f0.length f0) : IsS98 w0 (W.alloc (.cells #[.slice A0 f0.length c0, .int .i64 f1] 98)) W.heap.size f0 f1 := ⟨A0, c0, by simpa using heap_alloc_new W _, hB.size, hr0⟩
def spec_l1Open.f (l0 : List Int) : Option (List Int × Int) := if (l0.length : Int) > 2000 then (if 2000 ≤ (l0.length : Int) then (some (l0.take 2000, 0)) else (none)) else (some (l0, 0))
set_option maxHeartbeats 2000000 in
set_option maxRecDepth 100000 in
theorem spec_l1Open.calls (A0 : Option Addr) (c0 : Nat) (l0 : List Int) (r1 : List Int) (r2 : Int) (w0 w : World) (hB : Below w0.heap.size w0 w) (hr0 : Kd.C (Kd.int .u8) w0 A0 l0.length l0) (hc0 : l0.length ≤ c0) (h : spec_l1Open.f l0 = some (r1, r2)) :
  Calls Try.prog 26 #[.slice A0 l0.length c0] w fun e w' => ∃ g_ : Nat, e = .returned (.pointer (some ⟨g_, 0, none⟩)) ∧ IsS98 w0 w' g_ r1 r2 ∧ Below w0.heap.size w0 w' ∧ Below w.heap.size w w' := by
 have hu98 := Try.underlying98
 have HR0 := Aside0.mk hr0
 have HC0 := Aside0.mk hc0
 clear hr0 hc0
 have HBW := Aside0.mk (Below.refl w.heap.size w)
 have HW0 := Aside0.mk hB.size
 have HB := Aside0.mk hB
 clear hB
 have H : (if (l0.length : Int) > 2000 then (if 2000 ≤ (l0.length : Int) then (some (l0.take 2000, 0)) else (none)) else (some (l0, 0))) = some (r1, r2) := h
 clear h
 by_cases c2 : (l0.length : Int) > 2000
 ·rw [if_pos c2] at H
  have c2b0 : decide (2000 < (l0.length : Int)) = true := decide_eq_true c2
  have c2b1 : decide (2000 < l0.length) = true := decide_eq_true zq99
  clear c2
  by_cases c3 : 2000 ≤ (l0.length : Int)
  ·rw [if_pos c3] at H
   have c3b0 := eq_true c3
   have c3b1 : decide (2000 ≤ (l0.length : Int)) = true := decide_eq_true c3
   clear c3
   simp only [Option.some.injEq, Prod.mk.injEq] at H
   obtain ⟨rfl, rfl⟩ := H
   obtain ⟨i04, hi04, _, hsz4, _⟩ := info_parts info5
   obtain ⟨hcut4, hA4, hC4⟩ := print_take_of (P := Try.prog) (Value.int .u8) 0 22 5 .i64 Try.underlying22 hi04 hsz4 A0 c0 l0 2000 zq99 (of_decide_eq_true zq23) HC0.out
   have HR157 := Aside0.mk (Kd.C_of_reads (h1 := fun _ => rfl) (hA4 _ (Kd.reads_of_C HR0.out)))
   have HC157 := Aside0.mk hC4
   clear hA4 hC4 hi04 hsz4
   go_enter Try.func26, Try.ntmps26
   go_wp2_with (first | ((with_reducible refine gate_dst (N := 10) rfl ?_); refine box_event ?hg (N := 10) ?hd (cs := #[.slice A0 (l0.take 2000).length c0, .int .i64 0]) (t := 98) ?hr ?_; (case hd => rfl); (case hg => rfl); (case hr => first | (go_simp; done) | (go_simp; rfl)); intro gb158 hg w5 hbox hb; have n0_ := Aside0.mk (below_step HBW.out hb); have n1_ := Aside0.mk (below_step zq1 hb); have n2_ := Aside0.mk (hbox); have n3_ := Aside0.mk ((by rw [hg]; exact (below_size zq80) : w.heap.size ≤ gb158)); have n4_ := Aside0.mk ((Nat.le_trans HW0.out (by rw [hg]; exact (below_size zq80) : w.heap.size ≤ gb158) : w0.heap.size ≤ gb158)); clear HBW; clear HB; have HBW := n0_; have HB := n1_; have BK158 := n2_; have GW158 := n3_; have GE158 := n4_; clear n0_ n1_ n2_ n3_ n4_; clear hb hbox hg))
   go_ret
   exact ⟨_, rfl, (show IsS98 w0 _ gb158 (l0.take 2000) 0 from ⟨_, _, by (with_reducible repeat (first | refine blk_drewN ?_ _ | refine blk_drew ?_ | refine blk_alloc ?_ _)); exact BK158.out, GE158.out, HR157.out⟩), by repeat (first | (with_reducible first | exact HB.out | apply below_alloc | apply pw_below_drewN | apply below_drew1 | refine below_set ?_ GE158.out) | exact HB.out), by repeat (first | (with_reducible first | exact HBW.out | apply below_alloc | apply pw_below_drewN | apply below_drew1 | refine below_set ?_ GW158.out) | exact HBW.out)⟩
  ·rw [if_neg c3] at H
   exact absurd H zq81
 ·rw [if_neg c2] at H
  have c2b0 : decide (2000 < (l0.length : Int)) = false := decide_eq_false c2
  have c2b1 : decide (2000 < l0.length) = false := decide_eq_false zq99
  clear c2
  simp only [Option.some.injEq, Prod.mk.injEq] at H
  obtain ⟨rfl, rfl⟩ := H
  go_enter Try.func26, Try.ntmps26
  go_wp2_with (first | ((with_reducible refine gate_dst (N := 10) rfl ?_); refine box_event ?hg (N := 10) ?hd (cs := #[.slice A0 l0.length c0, .int .i64 0]) (t := 98) ?hr ?_; (case hd => rfl); (case hg => rfl); (case hr => first | (go_simp; done) | (go_simp; rfl)); intro gb159 hg w6 hbox hb; have n0_ := Aside0.mk (below_step HBW.out hb); have n1_ := Aside0.mk (below_step zq1 hb); have n2_ := Aside0.mk (hbox); have n3_ := Aside0.mk ((by rw [hg]; exact (below_size zq80) : w.heap.size ≤ gb159)); have n4_ := Aside0.mk ((Nat.le_trans HW0.out (by rw [hg]; exact (below_size zq80) : w.heap.size ≤ gb159) : w0.heap.size ≤ gb159)); clear HBW; clear HB; have HBW := n0_; have HB := n1_; have BK159 := n2_; have GW159 := n3_; have GE159 := n4_; clear n0_ n1_ n2_ n3_ n4_; clear hb hbox hg))
  go_ret
  exact ⟨_, rfl, (show IsS98 w0 _ gb159 l0 0 from ⟨_, _, by (with_reducible repeat (first | refine blk_drewN ?_ _ | refine blk_drew ?_ | refine blk_alloc ?_ _)); exact BK159.out, GE159.out, HR0.out⟩), by repeat (first | (with_reducible first | exact HB.out | apply below_alloc | apply pw_below_drewN | apply below_drew1 | refine below_set ?_ GE159.out) | exact HB.out), by repeat (first | (with_reducible first | exact HBW.out | apply below_alloc | apply pw_below_drewN | apply below_drew1 | refine below_set ?_ GW159.out) | exact HBW.out)⟩
end Go.Proofs.Ytgjipjffpodjlaa.K
namespace Go.Proofs.Ytgjipjffpodjlaa.K
open Go.RowKit Go.Proofs.YtgjipjffpodjlaaW.PrintWords Go.Proofs.YtgjipjffpodjlaaW.PrintLast Go.Proofs.YtgjipjffpodjlaaW.PrintMore
attribute [local go_sem] max2_int min2_int max_two min_two max_three min_three max_four min_four   
set_option linter.unusedVariables false
set_option linter.unusedSimpArgs false
def spec_l1Rd_pick.j0 : Nat → Int → Bool → List Int → Int → Option (Int × Int)
 | 0, _, _, _, _ => none
 | k + 1, x1, x24, x1000, x1001 => if x24 = true then (some (0, x1001)) else (if (wrap64 (x1001 - 1)) < (x1000.length : Int) then (if 0 ≤ (wrap64 (x1001 - 1)) then (if x1 = 0 then (none) else (some (Int.tmod (wrap64 (rd x1000 (wrap64 (x1001 - 1)))) x1, x1001))) else (none)) else (if (x1000.length : Int) = 0 then (none) else (if 0 ≤ (Int.tmod (wrap64 (x1001 - 1)) (x1000.length : Int)) then (if (Int.tmod (wrap64 (x1001 - 1)) (x1000.length : Int)) < (x1000.length : Int) then (if 0 ≤ (Int.tmod (wrap64 ((wrap64 ((wrap64 (x1001 - 1)) * 7)) + 3)) (x1000.length : Int)) then (if (Int.tmod (wrap64 ((wrap64 ((wrap64 (x1001 - 1)) * 7)) + 3)) (x1000.length : Int)) < (x1000.length : Int) then (if x1 = 0 then (none) else (some (Int.tmod (Go.bits .xor .i64 (wrap64 ((wrap64 ((wrap64 ((wrap64 ((wrap64 (rd x1000 (Int.tmod (wrap64 (x1001 - 1)) (x1000.length : Int)))) * 131)) + (wrap64 ((wrap64 (rd x1000 (Int.tmod (wrap64 ((wrap64 ((wrap64 (x1001 - 1)) * 7)) + 3)) (x1000.length : Int)))) * 1117)))) + (wrap64 ((wrap64 (x1001 - 1)) * 29)))) + (wrap64 ((wrap64 (Int.tdiv (wrap64 (x1001 - 1)) (x1000.length : Int))) * 53)))) (wrap64 (Int.tdiv (wrap64 ((wrap64 ((wrap64 ((wrap64 ((wrap64 (rd x1000 (Int.tmod (wrap64 (x1001 - 1)) (x1000.length : Int)))) * 131)) + (wrap64 ((wrap64 (rd x1000 (Int.tmod (wrap64 ((wrap64 ((wrap64 (x1001 - 1)) * 7)) + 3)) (x1000.length : Int)))) * 1117)))) + (wrap64 ((wrap64 (x1001 - 1)) * 29)))) + (wrap64 ((wrap64 (Int.tdiv (wrap64 (x1001 - 1)) (x1000.length : Int))) * 53)))) 64))) x1, x1001))) else (none)) else (none)) else (none)) else (none))))
def spec_l1Rd_pick.f (k : Nat) (s0_0 : List Int) (s0_1 : Int) (a1 : Int) : Option (Int × Int) := if a1 < 1 then (spec_l1Rd_pick.j0 k a1 true s0_0 (wrap64 (s0_1 + 1))) else (spec_l1Rd_pick.j0 k a1 ((s0_0.length : Int) == 0) s0_0 (wrap64 (s0_1 + 1)))
theorem spec_l1Rd_pick.mono_l : ∀ k, (∀ y0 y1 y2 y3, LeO (spec_l1Rd_pick.j0 k y0 y1 y2 y3) (spec_l1Rd_pick.j0 (k + 1) y0 y1 y2 y3))
 | 0 => fun _ _ _ _ r h => by simp [spec_l1Rd_pick.j0] at h
 | k + 1 => by
  have ih0 := spec_l1Rd_pick.mono_l k
  ·intro y0 y1 y2 y3
   unfold spec_l1Rd_pick.j0
   repeat' first
   | (with_reducible exact ih0 _ _ _ _)
   | (with_reducible exact LeO.refl _)
   | (with_reducible exact LeO.none _)
   | (with_reducible refine LeO.ite ?_ ?_)
   | (with_reducible refine LeO.bind ?_ (fun _ => ?_))
   | exact ih0 _ _ _ _
   | exact LeO.none _
   | refine LeO.ite ?_ ?_
   | refine LeO.bind ?_ (fun _ => ?_)
theorem spec_l1Rd_pick.mono : ∀ a0 a1 a2 k, LeO (spec_l1Rd_pick.f k a0 a1 a2) (spec_l1Rd_pick.f (k + 1) a0 a1 a2) := by
 intro a0 a1 a2 k
 have ih0 := spec_l1Rd_pick.mono_l k
 unfold spec_l1Rd_pick.f
 repeat' first
   | (with_reducible exact ih0 _ _ _ _)
   | (with_reducible exact LeO.refl _)
   | (with_reducible exact LeO.none _)
   | (with_reducible refine LeO.ite ?_ ?_)
   | (with_reducible refine LeO.bind ?_ (fun _ => ?_))
   | exact ih0 _ _ _ _
   | exact LeO.none _
   | refine LeO.ite ?_ ?_
   | refine LeO.bind ?_ (fun _ => ?_)
set_option maxHeartbeats 2000000 in
set_option maxRecDepth 100000 in
theorem spec_l1Rd_pick.calls (k : Nat) (g : Nat) (s0_0 : List Int) (s0_1 : Int) (a1 : Int) (r1 : Int) (r2 : Int) (w0 w : World) (hI : IsS98 w0 w g s0_0 s0_1) (hB : Below w0.heap.size w0 w) (h : spec_l1Rd_pick.f k s0_0 s0_1 a1 = some (r1, r2)) :
  Calls Try.prog 29 #[.pointer (some ⟨g, 0, none⟩), .int .i64 a1] w fun e w' => e = .returned (.int .i64 r1) ∧ IsS98 w0 w' g s0_0 r2 ∧ Below w0.heap.size w0 w' ∧ KeepBut w w' g none := by
 have HI0 := Aside0.mk hI
 have HK := Aside0.mk (KeepBut.refl w g none)
 have HL := Aside0.mk hB.size
 clear hI
 have HW0 := Aside0.mk hB.size
 have HB := Aside0.mk hB
 clear hB
 have H : (if a1 < 1 then (spec_l1Rd_pick.j0 k a1 true s0_0 (wrap64 (s0_1 + 1))) else (spec_l1Rd_pick.j0 k a1 ((s0_0.length : Int) == 0) s0_0 (wrap64 (s0_1 + 1)))) = some (r1, r2) := h
 clear h
 have HC3 := Aside0.mk H
 clear H
 obtain ⟨ASz4_0, cSz4_0, HGz4, hgz4, HSz4_0⟩ := HI0.out
 have hcz4_0 := cellS98_0 HGz4
 have hcz4_1 := cellS98_1 HGz4
 have hfz4_1 := blk_frozen HGz4 1
 clear HGz4 hgz4
 go_enter Try.func29, Try.ntmps29
 go_upto_region 2 with (fail)
 repeat (go_quiet (fail); go_upto_region 2 with (fail))
 go_cut [24] (fun v24 wc => ∃ (kq : Nat) (x24_2 : Bool), v24 = .bool x24_2 ∧ Aside0 (spec_l1Rd_pick.j0 kq a1 x24_2 s0_0 (wrap64 (s0_1 + 1)) = some (r1, r2)) ∧ Aside0 (kq ≤ k) ∧ Aside0 (IsS98 w0 wc g s0_0 (wrap64 (s0_1 + 1))) ∧ Aside0 (KeepBut w wc g none) ∧ Aside0 (Below w0.heap.size w0 wc))
 case first =>
  have H := HC3.out
  clear HC3
  by_cases c5 : a1 < 1
  ·rw [if_pos c5] at H
   have c5b0 : decide (a1 < 1) = true := decide_eq_true c5
   clear c5
   (first | rw [c5b0] | (simp only [i64_w, i32_w]; rw [c5b0]) | skip)
   have H' := Aside0.mk H
   clear H
   go_wp2
   repeat (go_quiet (fail); try go_wp2)
   go_meet
   case rel => exact ⟨_, (true), zq22, H', ⟨zq74⟩, ⟨zq4⟩, ⟨zq3⟩, ⟨zq6⟩⟩
  ·rw [if_neg c5] at H
   have c5b0 : decide (a1 < 1) = false := decide_eq_false c5
   clear c5
   (first | rw [c5b0] | (simp only [i64_w, i32_w]; rw [c5b0]) | skip)
   have H' := Aside0.mk H
   clear H
   obtain ⟨ASz6_0, cSz6_0, HGz6, hgz6, HSz6_0⟩ := HI0.out
   have hcz6_0 := cellS98_0 HGz6
   have hcz6_1 := cellS98_1 HGz6
   have hfz6_1 := blk_frozen HGz6 1
   clear HGz6 hgz6
   go_wp2
   repeat (go_quiet (fail); try go_wp2)
   go_meet
   case rel => exact ⟨_, (((s0_0.length : Int) == 0)), zq22, H', ⟨zq74⟩, ⟨zq4⟩, ⟨zq3⟩, ⟨zq6⟩⟩
 case rest =>
  clear HC3
  try clear c2
  try clear p2
  try clear c5
  try clear c5b0
  try clear p6
  try clear hcz4_0
  try clear hcz4_1
  try clear hcz6_0
  try clear hcz6_1
  try clear hfz4_1
  try clear hfz6_1
  obtain ⟨kq, x24_2, rfl, HA, HJ2, HI0, HK, HB⟩ := hcut
  cases kq with
  | zero => exact absurd HA.out (by simp [spec_l1Rd_pick.j0])
  | succ kj2 =>
   have H := HA.out
   clear HA
   simp only [spec_l1Rd_pick.j0] at H
   by_cases c7 : x24_2 = true
   ·subst c7
    rw [if_pos rfl] at H
    simp only [Option.some.injEq, Prod.mk.injEq] at H
    obtain ⟨rfl, rfl⟩ := H
    go_wp2
    repeat (go_quiet (fail); try go_wp2)
    go_ret
    exact ⟨zq8, zq4, zq6, zq3⟩
   ·replace c7 := Bool.eq_false_iff.mpr c7
    subst c7
    rw [if_neg (show ¬ (false = true) by decide)] at H
    by_cases c8 : (wrap64 ((wrap64 (s0_1 + 1)) - 1)) < (s0_0.length : Int)
    ·rw [if_pos c8] at H
     have c8b0 : decide ((wrap64 ((wrap64 (s0_1 + 1)) - 1)) < (s0_0.length : Int)) = true := decide_eq_true c8
     clear c8
     obtain ⟨ji9, hji9⟩ : ∃ j_ : Int, (wrap64 ((wrap64 (s0_1 + 1)) - 1)) = j_ := ⟨_, rfl⟩
     replace H : (if 0 ≤ (ji9) then (if a1 = 0 then (none) else (some (Int.tmod (wrap64 (rd s0_0 (ji9))) a1, (wrap64 (s0_1 + 1))))) else (none)) = some (r1, r2) := by first | (rw [hji9] at H; exact H) | (simp only [hji9] at H ⊢; exact H)
     (try rw [hji9] at c8b0)
     have hji9w : (IntKind.i64.wrap ((wrap64 (s0_1 + 1)) - 1)) = ji9 := (i64_w _).trans hji9
     by_cases c10 : 0 ≤ (ji9)
     ·rw [if_pos c10] at H
      have c10b0 : decide (0 ≤ (ji9)) = true := decide_eq_true c10
      clear c10
      by_cases c11 : a1 = 0
      ·rw [if_pos c11] at H
       exact absurd H zq81
      ·rw [if_neg c11] at H
       have c11b0 : (a1 == 0) = false := beq_eq_false_iff_ne.mpr c11
       have c11b1 : (a1 != 0) = true := bne_iff_ne.mpr c11
       simp only [Option.some.injEq, Prod.mk.injEq] at H
       obtain ⟨rfl, rfl⟩ := H
       obtain ⟨ASz12_0, cSz12_0, HGz12, hgz12, HSz12_0⟩ := HI0.out
       have hcz12_0 := cellS98_0 HGz12
       have hcz12_1 := cellS98_1 HGz12
       have hfz12_1 := blk_frozen HGz12 1
       clear HGz12 hgz12
       have p160 : 0 ≤ ((ji9) : Int) := of_decide_eq_true zq23
       have q160 : (ji9) < (s0_0.length : Int) := of_decide_eq_true zq23
       obtain ⟨ad160, e160, hx160_0⟩ := Kd.at_int HSz12_0 (ji9) p160 q160
       cases e160
       replace hx160_0 := pw_cell_below HB.out hx160_0
       replace p160 := eq_true p160
       replace q160 := eq_true q160
       go_wp2
       repeat (go_quiet (fail); try go_wp2)
       go_ret
       exact ⟨by first | rfl | (simp [errW_none, errW_some] <;> rfl) | (simp only [← hji9]; first | rfl | (simp [errW_none, errW_some] <;> rfl)) | (simp [*, errW_none, errW_some] <;> rfl), zq4, zq6, zq3⟩
     ·rw [if_neg c10] at H
      exact absurd H zq81
    ·rw [if_neg c8] at H
     have c8b0 : decide ((wrap64 ((wrap64 (s0_1 + 1)) - 1)) < (s0_0.length : Int)) = false := decide_eq_false c8
     clear c8
     by_cases c13 : (s0_0.length : Int) = 0
     ·rw [if_pos c13] at H
      exact absurd H zq81
     ·rw [if_neg c13] at H
      have c13b0 : ((s0_0.length : Int) == 0) = false := beq_eq_false_iff_ne.mpr c13
      have c13b1 : ((s0_0.length : Int) != 0) = true := bne_iff_ne.mpr c13
      have c13b2 : ¬ (s0_0 = []) := fun h_ => c13 (by rw [h_]; rfl)
      obtain ⟨ji14, hji14⟩ : ∃ j_ : Int, (Int.tmod (wrap64 ((wrap64 (s0_1 + 1)) - 1)) (s0_0.length : Int)) = j_ := ⟨_, rfl⟩
      replace H : (if 0 ≤ (ji14) then (if (ji14) < (s0_0.length : Int) then (if 0 ≤ (Int.tmod (wrap64 ((wrap64 ((wrap64 ((wrap64 (s0_1 + 1)) - 1)) * 7)) + 3)) (s0_0.length : Int)) then (if (Int.tmod (wrap64 ((wrap64 ((wrap64 ((wrap64 (s0_1 + 1)) - 1)) * 7)) + 3)) (s0_0.length : Int)) < (s0_0.length : Int) then (if a1 = 0 then (none) else (some (Int.tmod (Go.bits .xor .i64 (wrap64 ((wrap64 ((wrap64 ((wrap64 ((wrap64 (rd s0_0 (ji14))) * 131)) + (wrap64 ((wrap64 (rd s0_0 (Int.tmod (wrap64 ((wrap64 ((wrap64 ((wrap64 (s0_1 + 1)) - 1)) * 7)) + 3)) (s0_0.length : Int)))) * 1117)))) + (wrap64 ((wrap64 ((wrap64 (s0_1 + 1)) - 1)) * 29)))) + (wrap64 ((wrap64 (Int.tdiv (wrap64 ((wrap64 (s0_1 + 1)) - 1)) (s0_0.length : Int))) * 53)))) (wrap64 (Int.tdiv (wrap64 ((wrap64 ((wrap64 ((wrap64 ((wrap64 (rd s0_0 (ji14))) * 131)) + (wrap64 ((wrap64 (rd s0_0 (Int.tmod (wrap64 ((wrap64 ((wrap64 ((wrap64 (s0_1 + 1)) - 1)) * 7)) + 3)) (s0_0.length : Int)))) * 1117)))) + (wrap64 ((wrap64 ((wrap64 (s0_1 + 1)) - 1)) * 29)))) + (wrap64 ((wrap64 (Int.tdiv (wrap64 ((wrap64 (s0_1 + 1)) - 1)) (s0_0.length : Int))) * 53)))) 64))) a1, (wrap64 (s0_1 + 1))))) else (none)) else (none)) else (none)) else (none)) = some (r1, r2) := by first | (rw [hji14] at H; exact H) | (simp only [hji14] at H ⊢; exact H)
      by_cases c15 : 0 ≤ (ji14)
      ·rw [if_pos c15] at H
       have c15b0 : decide (0 ≤ (ji14)) = true := decide_eq_true c15
       clear c15
       by_cases c16 : (ji14) < (s0_0.length : Int)
       ·rw [if_pos c16] at H
        have c16b0 : decide ((ji14) < (s0_0.length : Int)) = true := decide_eq_true c16
        clear c16
        obtain ⟨ji17, hji17⟩ : ∃ j_ : Int, (Int.tmod (wrap64 ((wrap64 ((wrap64 ((wrap64 (s0_1 + 1)) - 1)) * 7)) + 3)) (s0_0.length : Int)) = j_ := ⟨_, rfl⟩
        replace H : (if 0 ≤ (ji17) then (if (ji17) < (s0_0.length : Int) then (if a1 = 0 then (none) else (some (Int.tmod (Go.bits .xor .i64 (wrap64 ((wrap64 ((wrap64 ((wrap64 ((wrap64 (rd s0_0 (ji14))) * 131)) + (wrap64 ((wrap64 (rd s0_0 (ji17))) * 1117)))) + (wrap64 ((wrap64 ((wrap64 (s0_1 + 1)) - 1)) * 29)))) + (wrap64 ((wrap64 (Int.tdiv (wrap64 ((wrap64 (s0_1 + 1)) - 1)) (s0_0.length : Int))) * 53)))) (wrap64 (Int.tdiv (wrap64 ((wrap64 ((wrap64 ((wrap64 ((wrap64 (rd s0_0 (ji14))) * 131)) + (wrap64 ((wrap64 (rd s0_0 (ji17))) * 1117)))) + (wrap64 ((wrap64 ((wrap64 (s0_1 + 1)) - 1)) * 29)))) + (wrap64 ((wrap64 (Int.tdiv (wrap64 ((wrap64 (s0_1 + 1)) - 1)) (s0_0.length : Int))) * 53)))) 64))) a1, (wrap64 (s0_1 + 1))))) else (none)) else (none)) = some (r1, r2) := by first | (rw [hji17] at H; exact H) | (simp only [hji17] at H ⊢; exact H)
        by_cases c18 : 0 ≤ (ji17)
        ·rw [if_pos c18] at H
         have c18b0 : decide (0 ≤ (ji17)) = true := decide_eq_true c18
         clear c18
         by_cases c19 : (ji17) < (s0_0.length : Int)
         ·rw [if_pos c19] at H
          have c19b0 : decide ((ji17) < (s0_0.length : Int)) = true := decide_eq_true c19
          clear c19
          by_cases c20 : a1 = 0
          ·rw [if_pos c20] at H
           exact absurd H zq81
          ·rw [if_neg c20] at H
           have c20b0 : (a1 == 0) = false := beq_eq_false_iff_ne.mpr c20
           have c20b1 : (a1 != 0) = true := bne_iff_ne.mpr c20
           simp only [Option.some.injEq, Prod.mk.injEq] at H
           obtain ⟨rfl, rfl⟩ := H
           obtain ⟨ASz21_0, cSz21_0, HGz21, hgz21, HSz21_0⟩ := HI0.out
           have hcz21_0 := cellS98_0 HGz21
           have hcz21_1 := cellS98_1 HGz21
           have hfz21_1 := blk_frozen HGz21 1
           clear HGz21 hgz21
           have p161 : 0 ≤ ((ji14) : Int) := of_decide_eq_true zq23
           have q161 : (ji14) < (s0_0.length : Int) := of_decide_eq_true zq23
           obtain ⟨ad161, e161, hx161_0⟩ := Kd.at_int HSz21_0 (ji14) p161 q161
           cases e161
           replace hx161_0 := pw_cell_below HB.out hx161_0
           replace p161 := eq_true p161
           replace q161 := eq_true q161
           have p162 : 0 ≤ ((ji17) : Int) := of_decide_eq_true zq23
           have q162 : (ji17) < (s0_0.length : Int) := of_decide_eq_true zq23
           obtain ⟨ad162, e162, hx162_0⟩ := Kd.at_int HSz21_0 (ji17) p162 q162
           obtain rfl : ad161 = ad162 := (by injection e162)
           replace hx162_0 := pw_cell_below HB.out hx162_0
           replace p162 := eq_true p162
           replace q162 := eq_true q162
           go_wp2
           repeat (go_quiet (fail); try go_wp2)
           go_ret
           exact ⟨by first | rfl | (simp [errW_none, errW_some] <;> rfl) | (simp only [← hji14, ← hji17]; first | rfl | (simp [errW_none, errW_some] <;> rfl)) | (simp [*, errW_none, errW_some] <;> rfl), zq4, zq6, zq3⟩
         ·rw [if_neg c19] at H
          exact absurd H zq81
        ·rw [if_neg c18] at H
         exact absurd H zq81
       ·rw [if_neg c16] at H
        exact absurd H zq81
      ·rw [if_neg c15] at H
       exact absurd H zq81
end Go.Proofs.Ytgjipjffpodjlaa.K
namespace Go.Proofs.Ytgjipjffpodjlaa.K
open Go.RowKit Go.Proofs.YtgjipjffpodjlaaW.PrintWords Go.Proofs.YtgjipjffpodjlaaW.PrintLast Go.Proofs.YtgjipjffpodjlaaW.PrintMore
attribute [local go_sem] max2_int min2_int max_two min_two max_three min_three max_four min_four   
set_option linter.unusedVariables false
set_option linter.unusedSimpArgs false
def spec_l1Many.l0 : Nat → ByteArray → Int → ByteArray → Option (ByteArray)
 | 0, _, _, _ => none
 | k + 1, x0, x1, x5 => if x1 > 0 then (if (Int.tmod x1 2) = 1 then (if x5.size + x0.size ≤ 9223372036854775807 then (if x0.size + x0.size ≤ 9223372036854775807 then (spec_l1Many.l0 k (x0 ++ x0) (wrap64 (Int.tdiv x1 2)) (x5 ++ x0)) else (none)) else (none)) else (if x0.size + x0.size ≤ 9223372036854775807 then (spec_l1Many.l0 k (x0 ++ x0) (wrap64 (Int.tdiv x1 2)) x5) else (none))) else (some x5)
def spec_l1Many.f (k : Nat) (a0 : ByteArray) (a1 : Int) : Option (ByteArray) := spec_l1Many.l0 k a0 a1 (⟨#[]⟩ : ByteArray)
theorem spec_l1Many.mono_l : ∀ k, (∀ y0 y1 y2, LeO (spec_l1Many.l0 k y0 y1 y2) (spec_l1Many.l0 (k + 1) y0 y1 y2))
 | 0 => fun _ _ _ r h => by simp [spec_l1Many.l0] at h
 | k + 1 => by
  have ih0 := spec_l1Many.mono_l k
  ·intro y0 y1 y2
   unfold spec_l1Many.l0
   repeat' first
   | (with_reducible exact ih0 _ _ _)
   | (with_reducible exact LeO.refl _)
   | (with_reducible exact LeO.none _)
   | (with_reducible refine LeO.ite ?_ ?_)
   | (with_reducible refine LeO.bind ?_ (fun _ => ?_))
   | exact ih0 _ _ _
   | exact LeO.none _
   | refine LeO.ite ?_ ?_
   | refine LeO.bind ?_ (fun _ => ?_)
theorem spec_l1Many.mono : ∀ a0 a1 k, LeO (spec_l1Many.f k a0 a1) (spec_l1Many.f (k + 1) a0 a1) := by
 intro a0 a1 k
 have ih0 := spec_l1Many.mono_l k
 unfold spec_l1Many.f
 repeat' first
   | (with_reducible exact ih0 _ _ _)
   | (with_reducible exact LeO.refl _)
   | (with_reducible exact LeO.none _)
   | (with_reducible refine LeO.ite ?_ ?_)
   | (with_reducible refine LeO.bind ?_ (fun _ => ?_))
   | exact ih0 _ _ _
   | exact LeO.none _
   | refine LeO.ite ?_ ?_
   | refine LeO.bind ?_ (fun _ => ?_)
set_option maxHeartbeats 2000000 in
set_option maxRecDepth 100000 in
theorem spec_l1Many.calls (k : Nat) (a0 : ByteArray) (a1 : Int) (r : ByteArray) (w : World) (h : spec_l1Many.f k a0 a1 = some r) :
  Calls Try.prog 38 #[.string a0, .int .i64 a1] w fun e w' => e = .returned (.string r) ∧ Drawn0 w w' := by
 have H : (spec_l1Many.l0 k a0 a1 (⟨#[]⟩ : ByteArray)) = some r := h
 clear h
 have H' := Aside0.mk H
 clear H
 go_enter Try.func38, Try.ntmps38
 go_wp2
 go_loopg [0, 1, 5] k (fun kq v0 v1 v5 w' => ∃ (x0_1 : ByteArray) (x1_1 : Int) (x5_1 : ByteArray), v0 = .string x0_1 ∧ v1 = .int .i64 x1_1 ∧ v5 = .string x5_1 ∧ Aside0 (spec_l1Many.l0 kq x0_1 x1_1 x5_1 = some r) ∧ Aside0 (kq ≤ k) ∧ Drawn0 w w')
 case atStart => exact ⟨(a0), (a1), ((⟨#[]⟩ : ByteArray)), zq22, zq22, zq22, H', ⟨Nat.le_refl _⟩, zq68⟩
 case round =>
  clear H'
  try clear p2
  obtain ⟨x0_1, x1_1, x5_1, rfl, rfl, rfl, HA, HK1, ⟨m1, rfl⟩⟩ := hrel
  cases gk with
  | zero => exact absurd HA.out (by simp [spec_l1Many.l0])
  | succ k1 =>
   have H := HA.out
   clear HA
   simp only [spec_l1Many.l0] at H
   by_cases c3 : x1_1 > 0
   ·rw [if_pos c3] at H
    have c3b0 : decide (0 < x1_1) = true := decide_eq_true c3
    clear c3
    by_cases c4 : (Int.tmod x1_1 2) = 1
    ·rw [if_pos c4] at H
     have c4b0 : ((Int.tmod x1_1 2) == 1) = true := beq_iff_eq.mpr c4
     have c4b1 : ((Int.tmod x1_1 2) != 1) = false := bne_eq_false_iff_eq.mpr c4
     clear c4
     by_cases c5 : x5_1.size + x0_1.size ≤ 9223372036854775807
     ·rw [if_pos c5] at H
      have c5b0 := eq_true c5
      have c5b1 : decide (x5_1.size + x0_1.size ≤ 9223372036854775807) = true := decide_eq_true c5
      try have c5b2 : (9223372036854775807 < x5_1.size + x0_1.size) = False := eq_false (Nat.not_lt.2 c5)
      by_cases c6 : x0_1.size + x0_1.size ≤ 9223372036854775807
      ·rw [if_pos c6] at H
       have c6b0 := eq_true c6
       have c6b1 : decide (x0_1.size + x0_1.size ≤ 9223372036854775807) = true := decide_eq_true c6
       try have c6b2 : (9223372036854775807 < x0_1.size + x0_1.size) = False := eq_false (Nat.not_lt.2 c6)
       have H' := Aside0.mk H
       clear H
       go_wp2
       go_roundg k1
       case measure => have := HK1.out; omega
       case rel => exact ⟨(x0_1 ++ x0_1), (wrap64 (Int.tdiv x1_1 2)), (x5_1 ++ x0_1), zq22, zq22, zq22, H', ⟨zq88⟩, zq68⟩
      ·rw [if_neg c6] at H
       exact absurd H zq81
     ·rw [if_neg c5] at H
      exact absurd H zq81
    ·rw [if_neg c4] at H
     have c4b0 : ((Int.tmod x1_1 2) == 1) = false := beq_eq_false_iff_ne.mpr c4
     have c4b1 : ((Int.tmod x1_1 2) != 1) = true := bne_iff_ne.mpr c4
     by_cases c7 : x0_1.size + x0_1.size ≤ 9223372036854775807
     ·rw [if_pos c7] at H
      have c7b0 := eq_true c7
      have c7b1 : decide (x0_1.size + x0_1.size ≤ 9223372036854775807) = true := decide_eq_true c7
      try have c7b2 : (9223372036854775807 < x0_1.size + x0_1.size) = False := eq_false (Nat.not_lt.2 c7)
      have H' := Aside0.mk H
      clear H
      go_wp2
      go_roundg k1
      case measure => have := HK1.out; omega
      case rel => exact ⟨(x0_1 ++ x0_1), (wrap64 (Int.tdiv x1_1 2)), (x5_1), zq22, zq22, zq22, H', ⟨zq88⟩, zq68⟩
     ·rw [if_neg c7] at H
      exact absurd H zq81
   ·rw [if_neg c3] at H
    have c3b0 : decide (0 < x1_1) = false := decide_eq_false c3
    clear c3
    obtain rfl := Option.some.inj H
    go_wp2
    go_ret
    exact ⟨zq22, zq68⟩
end Go.Proofs.Ytgjipjffpodjlaa.K
