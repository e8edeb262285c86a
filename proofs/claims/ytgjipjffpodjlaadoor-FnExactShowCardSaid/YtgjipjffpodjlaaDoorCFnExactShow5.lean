import Derived.WalkKit
import Derived.Lib.Strings
import Derived.Laws.Bits64
import Derived.Lib.SplitLaws
import Derived.Test.YtgjipjffpodjlaaDoorCFnExactShow0
import Derived.Test.YtgjipjffpodjlaaDoorCFnExactShow1
import Derived.Test.YtgjipjffpodjlaaDoorCFnExactShow2
import Derived.Test.YtgjipjffpodjlaaDoorCFnExactShow3
import Derived.Test.YtgjipjffpodjlaaDoorCFnExactShow4
namespace Go.Proofs.YtgjipjffpodjlaaDoor.K
open Go.RowKit Go.Proofs.YtgjipjffpodjlaaDoorW.PrintWords Go.Proofs.YtgjipjffpodjlaaDoorW.PrintLast Go.Proofs.YtgjipjffpodjlaaDoorW.PrintMore
attribute [local go_sem] max2_int min2_int max_two min_two max_three min_three max_four min_four   
set_option linter.unusedVariables false
set_option linter.unusedSimpArgs false
def laws_eqShown.f (a0_0 : Int) (a0_1 : Bool) (a0_2 : ByteArray) (a0_3 : ByteArray) (a0_4 : Bool) (a1_0 : Int) (a1_1 : Bool) (a1_2 : ByteArray) (a1_3 : ByteArray) (a1_4 : Bool) : Option (Bool) := if a0_0 = a1_0 then (if (a0_1 != a1_1) = true then (some false) else ((laws_eqEntry.f a0_2 a0_3 a0_4 a1_2 a1_3 a1_4).bind fun t280 => (if t280 = true then (some true) else (some false)))) else (some false)
set_option maxHeartbeats 2000000 in
set_option maxRecDepth 100000 in
theorem laws_eqShown.calls (a0_0 : Int) (a0_1 : Bool) (a0_2 : ByteArray) (a0_3 : ByteArray) (a0_4 : Bool) (a1_0 : Int) (a1_1 : Bool) (a1_2 : ByteArray) (a1_3 : ByteArray) (a1_4 : Bool) (r : Bool) (w : World) (h : laws_eqShown.f a0_0 a0_1 a0_2 a0_3 a0_4 a1_0 a1_1 a1_2 a1_3 a1_4 = some r) :
  Calls Tryd.prog 14 #[.agg #[.int .i64 a0_0, .bool a0_1, .string a0_2, .string a0_3, .bool a0_4], .agg #[.int .i64 a1_0, .bool a1_1, .string a1_2, .string a1_3, .bool a1_4]] w fun e w' => e = .returned (.bool r) ∧ Below w.heap.size w w' := by
 have hu36 := Tryd.underlying36
 have hu34 := Tryd.underlying34
 have HB := AZ.mk (Below.refl w.heap.size w)
 have H : (if a0_0 = a1_0 then (if (a0_1 != a1_1) = true then (some false) else ((laws_eqEntry.f a0_2 a0_3 a0_4 a1_2 a1_3 a1_4).bind fun t280 => (if t280 = true then (some true) else (some false)))) else (some false)) = some r := h
 clear h
 by_cases c3 : a0_0 = a1_0
 ·rw [if_pos c3] at H
  have c3b0 : (a0_0 == a1_0) = true := beq_iff_eq.mpr c3
  have c3b1 : (a0_0 != a1_0) = false := bne_eq_false_iff_eq.mpr c3
  clear c3
  by_cases c4 : (a0_1 != a1_1) = true
  ·rw [if_pos c4] at H
   have c4b0 : (a0_1 != a1_1) = true := c4
   (try (have c4b1 : decide (a0_1 = a1_1) = false := by simpa using c4))
   (try (have c4b2 : (a0_1 == a1_1) = false := by simpa using c4))
   (try (have c4b3 : ¬ (a0_1 = a1_1) := by simpa using c4))
   clear c4
   obtain rfl := Option.some.inj H
   go_enter Tryd.func14, Tryd.ntmps14
   go_wp2_with (first | ((with_reducible refine gate_dst (N := 2) rfl ?_); refine box_event ?hg (N := 2) ?hd (cs := #[.int .i64 a0_0, .bool a0_1, .string a0_2, .string a0_3, .bool a0_4]) (t := 36) ?hr ?_; (case hd => rfl); (case hg => rfl); (case hr => first | (go_simp; done) | (go_simp; rfl)); intro gb278 hg w5 hbox hb; have n0_ := AZ.mk (below_step zq0 hb); have n1_ := AZ.mk (hbox); have n2_ := AZ.mk ((by rw [hg]; exact (below_size zq0) : w.heap.size ≤ gb278)); have n3_ := AZ.mk ((by rw [hg]; exact (below_size zq0) : w.heap.size ≤ gb278)); clear HB; have HB := n0_; have BK278 := n1_; have GW278 := n2_; have GE278 := n3_; clear n0_ n1_ n2_ n3_; clear hb hbox hg) | ((with_reducible refine gate_dst (N := 3) rfl ?_); refine box_event ?hg (N := 3) ?hd (cs := #[.int .i64 a1_0, .bool a1_1, .string a1_2, .string a1_3, .bool a1_4]) (t := 36) ?hr ?_; (case hd => rfl); (case hg => rfl); (case hr => first | (go_simp; done) | (go_simp; rfl)); intro gb279 hg w6 hbox hb; have n0_ := AZ.mk (blk_below (g := gb278) (o := .cells #[.int .i64 a0_0, .bool a0_1, .string a0_2, .string a0_3, .bool a0_4] 36 (0, 0)) zq43 hb); have n1_ := AZ.mk (below_step zq35 hb); have n2_ := AZ.mk (hbox); have n3_ := AZ.mk ((by rw [hg]; exact (below_size zq35) : w.heap.size ≤ gb279)); have n4_ := AZ.mk ((by rw [hg]; exact (below_size zq35) : w.heap.size ≤ gb279)); have n5_ := AZ.mk ((by rw [hg]; exact Nat.ne_of_lt (blk_lt (g := gb278) (o := .cells #[.int .i64 a0_0, .bool a0_1, .string a0_2, .string a0_3, .bool a0_4] 36 (0, 0)) zq43) : gb278 ≠ gb279)); have n6_ := AZ.mk ((by rw [hg]; exact Nat.ne_of_gt (blk_lt (g := gb278) (o := .cells #[.int .i64 a0_0, .bool a0_1, .string a0_2, .string a0_3, .bool a0_4] 36 (0, 0)) zq43) : gb279 ≠ gb278)); clear BK278; clear HB; have BK278 := n0_; have HB := n1_; have BK279 := n2_; have GW279 := n3_; have GE279 := n4_; have NB278_279 := n5_; have NB279_278 := n6_; clear n0_ n1_ n2_ n3_ n4_ n5_ n6_; clear hb hbox hg; have hnb7 := NB278_279.out; have hnc7 := NB279_278.out; have hcz8_0 : w6.cell? ⟨gb278, 0, none⟩ = some (.int .i64 a0_0) := (blk_cell BK278.out 0).trans rfl; have hcz8_1 : w6.cell? ⟨gb278, 1, none⟩ = some (.bool a0_1) := (blk_cell BK278.out 1).trans rfl; have hcz8_2 : w6.cell? ⟨gb278, 2, none⟩ = some (.string a0_2) := (blk_cell BK278.out 2).trans rfl; have hcz8_3 : w6.cell? ⟨gb278, 3, none⟩ = some (.string a0_3) := (blk_cell BK278.out 3).trans rfl; have hcz8_4 : w6.cell? ⟨gb278, 4, none⟩ = some (.bool a0_4) := (blk_cell BK278.out 4).trans rfl; have hfz8_0 := blk_frozen BK278.out 0; have hfz8_1 := blk_frozen BK278.out 1; have hfz8_2 := blk_frozen BK278.out 2; have hfz8_3 := blk_frozen BK278.out 3; have hfz8_4 := blk_frozen BK278.out 4; have hcz9_0 : w6.cell? ⟨gb279, 0, none⟩ = some (.int .i64 a1_0) := (blk_cell BK279.out 0).trans rfl; have hcz9_1 : w6.cell? ⟨gb279, 1, none⟩ = some (.bool a1_1) := (blk_cell BK279.out 1).trans rfl; have hcz9_2 : w6.cell? ⟨gb279, 2, none⟩ = some (.string a1_2) := (blk_cell BK279.out 2).trans rfl; have hcz9_3 : w6.cell? ⟨gb279, 3, none⟩ = some (.string a1_3) := (blk_cell BK279.out 3).trans rfl; have hcz9_4 : w6.cell? ⟨gb279, 4, none⟩ = some (.bool a1_4) := (blk_cell BK279.out 4).trans rfl; have hfz9_0 := blk_frozen BK279.out 0; have hfz9_1 := blk_frozen BK279.out 1; have hfz9_2 := blk_frozen BK279.out 2; have hfz9_3 := blk_frozen BK279.out 3; have hfz9_4 := blk_frozen BK279.out 4))
   go_ret
   exact ⟨zq7, zq59⟩
  ·rw [if_neg c4] at H
   have c4b0 : (a0_1 != a1_1) = false := by simpa using c4
   (try (have c4b1 : decide (a0_1 = a1_1) = true := by simpa using c4))
   (try (have c4b2 : (a0_1 == a1_1) = true := by simpa using c4))
   clear c4
   replace H := Option.bind_eq_some_iff.mp H
   obtain ⟨t280, A100, H⟩ := H
   try dsimp only at H
   have A10 := AZ.mk A100
   clear A100
   by_cases c11 : t280 = true
   ·subst c11
    rw [if_pos rfl] at H
    obtain rfl := Option.some.inj H
    go_enter Tryd.func14, Tryd.ntmps14
    go_wp2_with (first | ((with_reducible refine gate_dst (N := 2) rfl ?_); refine box_event ?hg (N := 2) ?hd (cs := #[.int .i64 a0_0, .bool a0_1, .string a0_2, .string a0_3, .bool a0_4]) (t := 36) ?hr ?_; (case hd => rfl); (case hg => rfl); (case hr => first | (go_simp; done) | (go_simp; rfl)); intro gb278 hg w12 hbox hb; have n0_ := AZ.mk (below_step zq0 hb); have n1_ := AZ.mk (hbox); have n2_ := AZ.mk ((by rw [hg]; exact (below_size zq0) : w.heap.size ≤ gb278)); have n3_ := AZ.mk ((by rw [hg]; exact (below_size zq0) : w.heap.size ≤ gb278)); clear HB; have HB := n0_; have BK278 := n1_; have GW278 := n2_; have GE278 := n3_; clear n0_ n1_ n2_ n3_; clear hb hbox hg) | ((with_reducible refine gate_dst (N := 3) rfl ?_); refine box_event ?hg (N := 3) ?hd (cs := #[.int .i64 a1_0, .bool a1_1, .string a1_2, .string a1_3, .bool a1_4]) (t := 36) ?hr ?_; (case hd => rfl); (case hg => rfl); (case hr => first | (go_simp; done) | (go_simp; rfl)); intro gb279 hg w13 hbox hb; have n0_ := AZ.mk (blk_below (g := gb278) (o := .cells #[.int .i64 a0_0, .bool a0_1, .string a0_2, .string a0_3, .bool a0_4] 36 (0, 0)) zq43 hb); have n1_ := AZ.mk (below_step zq35 hb); have n2_ := AZ.mk (hbox); have n3_ := AZ.mk ((by rw [hg]; exact (below_size zq35) : w.heap.size ≤ gb279)); have n4_ := AZ.mk ((by rw [hg]; exact (below_size zq35) : w.heap.size ≤ gb279)); have n5_ := AZ.mk ((by rw [hg]; exact Nat.ne_of_lt (blk_lt (g := gb278) (o := .cells #[.int .i64 a0_0, .bool a0_1, .string a0_2, .string a0_3, .bool a0_4] 36 (0, 0)) zq43) : gb278 ≠ gb279)); have n6_ := AZ.mk ((by rw [hg]; exact Nat.ne_of_gt (blk_lt (g := gb278) (o := .cells #[.int .i64 a0_0, .bool a0_1, .string a0_2, .string a0_3, .bool a0_4] 36 (0, 0)) zq43) : gb279 ≠ gb278)); clear BK278; clear HB; have BK278 := n0_; have HB := n1_; have BK279 := n2_; have GW279 := n3_; have GE279 := n4_; have NB278_279 := n5_; have NB279_278 := n6_; clear n0_ n1_ n2_ n3_ n4_ n5_ n6_; clear hb hbox hg; have hnb14 := NB278_279.out; have hnc14 := NB279_278.out; have hcz15_0 : w13.cell? ⟨gb278, 0, none⟩ = some (.int .i64 a0_0) := (blk_cell BK278.out 0).trans rfl; have hcz15_1 : w13.cell? ⟨gb278, 1, none⟩ = some (.bool a0_1) := (blk_cell BK278.out 1).trans rfl; have hcz15_2 : w13.cell? ⟨gb278, 2, none⟩ = some (.string a0_2) := (blk_cell BK278.out 2).trans rfl; have hcz15_3 : w13.cell? ⟨gb278, 3, none⟩ = some (.string a0_3) := (blk_cell BK278.out 3).trans rfl; have hcz15_4 : w13.cell? ⟨gb278, 4, none⟩ = some (.bool a0_4) := (blk_cell BK278.out 4).trans rfl; have hfz15_0 := blk_frozen BK278.out 0; have hfz15_1 := blk_frozen BK278.out 1; have hfz15_2 := blk_frozen BK278.out 2; have hfz15_3 := blk_frozen BK278.out 3; have hfz15_4 := blk_frozen BK278.out 4; have hcz16_0 : w13.cell? ⟨gb279, 0, none⟩ = some (.int .i64 a1_0) := (blk_cell BK279.out 0).trans rfl; have hcz16_1 : w13.cell? ⟨gb279, 1, none⟩ = some (.bool a1_1) := (blk_cell BK279.out 1).trans rfl; have hcz16_2 : w13.cell? ⟨gb279, 2, none⟩ = some (.string a1_2) := (blk_cell BK279.out 2).trans rfl; have hcz16_3 : w13.cell? ⟨gb279, 3, none⟩ = some (.string a1_3) := (blk_cell BK279.out 3).trans rfl; have hcz16_4 : w13.cell? ⟨gb279, 4, none⟩ = some (.bool a1_4) := (blk_cell BK279.out 4).trans rfl; have hfz16_0 := blk_frozen BK279.out 0; have hfz16_1 := blk_frozen BK279.out 1; have hfz16_2 := blk_frozen BK279.out 2; have hfz16_3 := blk_frozen BK279.out 3; have hfz16_4 := blk_frozen BK279.out 4) | ((with_reducible refine gate_callee (f := 51) rfl ?_); refine goesL_ (some 19) rfl rfl Tryd.func51 zq17 rfl #[.agg #[.string a0_2, .string a0_3, .bool a0_4], .agg #[.string a1_2, .string a1_3, .bool a1_4]] rfl zq2 ?_; (with_reducible refine (laws_eqEntry.calls a0_2 a0_3 a0_4 a1_2 a1_3 a1_4 true _ A10.out).mono ?_); rintro e w17 ⟨rfl, hb⟩; refine ⟨_, rfl, ?_⟩; have n0_ := AZ.mk (blk_below (g := gb278) (o := .cells #[.int .i64 a0_0, .bool a0_1, .string a0_2, .string a0_3, .bool a0_4] 36 (0, 0)) zq43 hb); have n1_ := AZ.mk (blk_below (g := gb279) (o := .cells #[.int .i64 a1_0, .bool a1_1, .string a1_2, .string a1_3, .bool a1_4] 36 (0, 0)) zq139 hb); have n2_ := AZ.mk (below_step zq59 hb); clear BK278; clear BK279; clear HB; have BK278 := n0_; have BK279 := n1_; have HB := n2_; clear n0_ n1_ n2_; (try clear hb); (try clear hb2); (try clear hk); (try clear hi)))
    go_ret
    exact ⟨zq7, zq59⟩
   ·replace c11 := Bool.eq_false_iff.mpr c11
    subst c11
    rw [if_neg (show ¬ (false = true) by decide)] at H
    obtain rfl := Option.some.inj H
    go_enter Tryd.func14, Tryd.ntmps14
    go_wp2_with (first | ((with_reducible refine gate_dst (N := 2) rfl ?_); refine box_event ?hg (N := 2) ?hd (cs := #[.int .i64 a0_0, .bool a0_1, .string a0_2, .string a0_3, .bool a0_4]) (t := 36) ?hr ?_; (case hd => rfl); (case hg => rfl); (case hr => first | (go_simp; done) | (go_simp; rfl)); intro gb278 hg w18 hbox hb; have n0_ := AZ.mk (below_step zq0 hb); have n1_ := AZ.mk (hbox); have n2_ := AZ.mk ((by rw [hg]; exact (below_size zq0) : w.heap.size ≤ gb278)); have n3_ := AZ.mk ((by rw [hg]; exact (below_size zq0) : w.heap.size ≤ gb278)); clear HB; have HB := n0_; have BK278 := n1_; have GW278 := n2_; have GE278 := n3_; clear n0_ n1_ n2_ n3_; clear hb hbox hg) | ((with_reducible refine gate_dst (N := 3) rfl ?_); refine box_event ?hg (N := 3) ?hd (cs := #[.int .i64 a1_0, .bool a1_1, .string a1_2, .string a1_3, .bool a1_4]) (t := 36) ?hr ?_; (case hd => rfl); (case hg => rfl); (case hr => first | (go_simp; done) | (go_simp; rfl)); intro gb279 hg w19 hbox hb; have n0_ := AZ.mk (blk_below (g := gb278) (o := .cells #[.int .i64 a0_0, .bool a0_1, .string a0_2, .string a0_3, .bool a0_4] 36 (0, 0)) zq43 hb); have n1_ := AZ.mk (below_step zq35 hb); have n2_ := AZ.mk (hbox); have n3_ := AZ.mk ((by rw [hg]; exact (below_size zq35) : w.heap.size ≤ gb279)); have n4_ := AZ.mk ((by rw [hg]; exact (below_size zq35) : w.heap.size ≤ gb279)); have n5_ := AZ.mk ((by rw [hg]; exact Nat.ne_of_lt (blk_lt (g := gb278) (o := .cells #[.int .i64 a0_0, .bool a0_1, .string a0_2, .string a0_3, .bool a0_4] 36 (0, 0)) zq43) : gb278 ≠ gb279)); have n6_ := AZ.mk ((by rw [hg]; exact Nat.ne_of_gt (blk_lt (g := gb278) (o := .cells #[.int .i64 a0_0, .bool a0_1, .string a0_2, .string a0_3, .bool a0_4] 36 (0, 0)) zq43) : gb279 ≠ gb278)); clear BK278; clear HB; have BK278 := n0_; have HB := n1_; have BK279 := n2_; have GW279 := n3_; have GE279 := n4_; have NB278_279 := n5_; have NB279_278 := n6_; clear n0_ n1_ n2_ n3_ n4_ n5_ n6_; clear hb hbox hg; have hnb20 := NB278_279.out; have hnc20 := NB279_278.out; have hcz21_0 : w19.cell? ⟨gb278, 0, none⟩ = some (.int .i64 a0_0) := (blk_cell BK278.out 0).trans rfl; have hcz21_1 : w19.cell? ⟨gb278, 1, none⟩ = some (.bool a0_1) := (blk_cell BK278.out 1).trans rfl; have hcz21_2 : w19.cell? ⟨gb278, 2, none⟩ = some (.string a0_2) := (blk_cell BK278.out 2).trans rfl; have hcz21_3 : w19.cell? ⟨gb278, 3, none⟩ = some (.string a0_3) := (blk_cell BK278.out 3).trans rfl; have hcz21_4 : w19.cell? ⟨gb278, 4, none⟩ = some (.bool a0_4) := (blk_cell BK278.out 4).trans rfl; have hfz21_0 := blk_frozen BK278.out 0; have hfz21_1 := blk_frozen BK278.out 1; have hfz21_2 := blk_frozen BK278.out 2; have hfz21_3 := blk_frozen BK278.out 3; have hfz21_4 := blk_frozen BK278.out 4; have hcz22_0 : w19.cell? ⟨gb279, 0, none⟩ = some (.int .i64 a1_0) := (blk_cell BK279.out 0).trans rfl; have hcz22_1 : w19.cell? ⟨gb279, 1, none⟩ = some (.bool a1_1) := (blk_cell BK279.out 1).trans rfl; have hcz22_2 : w19.cell? ⟨gb279, 2, none⟩ = some (.string a1_2) := (blk_cell BK279.out 2).trans rfl; have hcz22_3 : w19.cell? ⟨gb279, 3, none⟩ = some (.string a1_3) := (blk_cell BK279.out 3).trans rfl; have hcz22_4 : w19.cell? ⟨gb279, 4, none⟩ = some (.bool a1_4) := (blk_cell BK279.out 4).trans rfl; have hfz22_0 := blk_frozen BK279.out 0; have hfz22_1 := blk_frozen BK279.out 1; have hfz22_2 := blk_frozen BK279.out 2; have hfz22_3 := blk_frozen BK279.out 3; have hfz22_4 := blk_frozen BK279.out 4) | ((with_reducible refine gate_callee (f := 51) rfl ?_); refine goesL_ (some 19) rfl rfl Tryd.func51 zq17 rfl #[.agg #[.string a0_2, .string a0_3, .bool a0_4], .agg #[.string a1_2, .string a1_3, .bool a1_4]] rfl zq2 ?_; (with_reducible refine (laws_eqEntry.calls a0_2 a0_3 a0_4 a1_2 a1_3 a1_4 false _ A10.out).mono ?_); rintro e w23 ⟨rfl, hb⟩; refine ⟨_, rfl, ?_⟩; have n0_ := AZ.mk (blk_below (g := gb278) (o := .cells #[.int .i64 a0_0, .bool a0_1, .string a0_2, .string a0_3, .bool a0_4] 36 (0, 0)) zq43 hb); have n1_ := AZ.mk (blk_below (g := gb279) (o := .cells #[.int .i64 a1_0, .bool a1_1, .string a1_2, .string a1_3, .bool a1_4] 36 (0, 0)) zq139 hb); have n2_ := AZ.mk (below_step zq59 hb); clear BK278; clear BK279; clear HB; have BK278 := n0_; have BK279 := n1_; have HB := n2_; clear n0_ n1_ n2_; (try clear hb); (try clear hb2); (try clear hk); (try clear hi)))
    go_ret
    exact ⟨zq7, zq59⟩
 ·rw [if_neg c3] at H
  have c3b0 : (a0_0 == a1_0) = false := beq_eq_false_iff_ne.mpr c3
  have c3b1 : (a0_0 != a1_0) = true := bne_iff_ne.mpr c3
  obtain rfl := Option.some.inj H
  go_enter Tryd.func14, Tryd.ntmps14
  go_wp2_with (first | ((with_reducible refine gate_dst (N := 2) rfl ?_); refine box_event ?hg (N := 2) ?hd (cs := #[.int .i64 a0_0, .bool a0_1, .string a0_2, .string a0_3, .bool a0_4]) (t := 36) ?hr ?_; (case hd => rfl); (case hg => rfl); (case hr => first | (go_simp; done) | (go_simp; rfl)); intro gb278 hg w24 hbox hb; have n0_ := AZ.mk (below_step zq0 hb); have n1_ := AZ.mk (hbox); have n2_ := AZ.mk ((by rw [hg]; exact (below_size zq0) : w.heap.size ≤ gb278)); have n3_ := AZ.mk ((by rw [hg]; exact (below_size zq0) : w.heap.size ≤ gb278)); clear HB; have HB := n0_; have BK278 := n1_; have GW278 := n2_; have GE278 := n3_; clear n0_ n1_ n2_ n3_; clear hb hbox hg) | ((with_reducible refine gate_dst (N := 3) rfl ?_); refine box_event ?hg (N := 3) ?hd (cs := #[.int .i64 a1_0, .bool a1_1, .string a1_2, .string a1_3, .bool a1_4]) (t := 36) ?hr ?_; (case hd => rfl); (case hg => rfl); (case hr => first | (go_simp; done) | (go_simp; rfl)); intro gb279 hg w25 hbox hb; have n0_ := AZ.mk (blk_below (g := gb278) (o := .cells #[.int .i64 a0_0, .bool a0_1, .string a0_2, .string a0_3, .bool a0_4] 36 (0, 0)) zq43 hb); have n1_ := AZ.mk (below_step zq35 hb); have n2_ := AZ.mk (hbox); have n3_ := AZ.mk ((by rw [hg]; exact (below_size zq35) : w.heap.size ≤ gb279)); have n4_ := AZ.mk ((by rw [hg]; exact (below_size zq35) : w.heap.size ≤ gb279)); have n5_ := AZ.mk ((by rw [hg]; exact Nat.ne_of_lt (blk_lt (g := gb278) (o := .cells #[.int .i64 a0_0, .bool a0_1, .string a0_2, .string a0_3, .bool a0_4] 36 (0, 0)) zq43) : gb278 ≠ gb279)); have n6_ := AZ.mk ((by rw [hg]; exact Nat.ne_of_gt (blk_lt (g := gb278) (o := .cells #[.int .i64 a0_0, .bool a0_1, .string a0_2, .string a0_3, .bool a0_4] 36 (0, 0)) zq43) : gb279 ≠ gb278)); clear BK278; clear HB; have BK278 := n0_; have HB := n1_; have BK279 := n2_; have GW279 := n3_; have GE279 := n4_; have NB278_279 := n5_; have NB279_278 := n6_; clear n0_ n1_ n2_ n3_ n4_ n5_ n6_; clear hb hbox hg; have hnb26 := NB278_279.out; have hnc26 := NB279_278.out; have hcz27_0 : w25.cell? ⟨gb278, 0, none⟩ = some (.int .i64 a0_0) := (blk_cell BK278.out 0).trans rfl; have hcz27_1 : w25.cell? ⟨gb278, 1, none⟩ = some (.bool a0_1) := (blk_cell BK278.out 1).trans rfl; have hcz27_2 : w25.cell? ⟨gb278, 2, none⟩ = some (.string a0_2) := (blk_cell BK278.out 2).trans rfl; have hcz27_3 : w25.cell? ⟨gb278, 3, none⟩ = some (.string a0_3) := (blk_cell BK278.out 3).trans rfl; have hcz27_4 : w25.cell? ⟨gb278, 4, none⟩ = some (.bool a0_4) := (blk_cell BK278.out 4).trans rfl; have hfz27_0 := blk_frozen BK278.out 0; have hfz27_1 := blk_frozen BK278.out 1; have hfz27_2 := blk_frozen BK278.out 2; have hfz27_3 := blk_frozen BK278.out 3; have hfz27_4 := blk_frozen BK278.out 4; have hcz28_0 : w25.cell? ⟨gb279, 0, none⟩ = some (.int .i64 a1_0) := (blk_cell BK279.out 0).trans rfl; have hcz28_1 : w25.cell? ⟨gb279, 1, none⟩ = some (.bool a1_1) := (blk_cell BK279.out 1).trans rfl; have hcz28_2 : w25.cell? ⟨gb279, 2, none⟩ = some (.string a1_2) := (blk_cell BK279.out 2).trans rfl; have hcz28_3 : w25.cell? ⟨gb279, 3, none⟩ = some (.string a1_3) := (blk_cell BK279.out 3).trans rfl; have hcz28_4 : w25.cell? ⟨gb279, 4, none⟩ = some (.bool a1_4) := (blk_cell BK279.out 4).trans rfl; have hfz28_0 := blk_frozen BK279.out 0; have hfz28_1 := blk_frozen BK279.out 1; have hfz28_2 := blk_frozen BK279.out 2; have hfz28_3 := blk_frozen BK279.out 3; have hfz28_4 := blk_frozen BK279.out 4))
  go_ret
  exact ⟨zq7, zq59⟩
end Go.Proofs.YtgjipjffpodjlaaDoor.K
namespace Go.Proofs.YtgjipjffpodjlaaDoor.K
open Go.RowKit Go.Proofs.YtgjipjffpodjlaaDoorW.PrintWords Go.Proofs.YtgjipjffpodjlaaDoorW.PrintLast Go.Proofs.YtgjipjffpodjlaaDoorW.PrintMore
attribute [local go_sem] max2_int min2_int max_two min_two max_three min_three max_four min_four   
set_option linter.unusedVariables false
set_option linter.unusedSimpArgs false
def laws_eqStringS.l0 : Nat → List ByteArray → List ByteArray → Int → Option (Bool)
 | 0, _, _, _ => none
 | k + 1, x0, x1, x5 => if x5 < (x0.length : Int) then (if 0 ≤ x5 then (if x5 < (x1.length : Int) then (if (rdOf ByteArray.empty x0 x5).toList = (rdOf ByteArray.empty x1 x5).toList then (laws_eqStringS.l0 k x0 x1 (wrap64 (x5 + 1))) else (some false)) else (none)) else (none)) else (some true)
def laws_eqStringS.f (k : Nat) (l0 : List ByteArray) (l1 : List ByteArray) : Option (Bool) := if (l0.length : Int) = (l1.length : Int) then (laws_eqStringS.l0 k l0 l1 0) else (some false)
theorem laws_eqStringS.mono_l : ∀ k, (∀ y0 y1 y2, LeO (laws_eqStringS.l0 k y0 y1 y2) (laws_eqStringS.l0 (k + 1) y0 y1 y2))
 | 0 => fun _ _ _ r h => by simp [laws_eqStringS.l0] at h
 | k + 1 => by
  have ih0 := laws_eqStringS.mono_l k
  ·intro y0 y1 y2
   unfold laws_eqStringS.l0
   repeat' first
   | (with_reducible exact ih0 _ _ _)
   | (with_reducible exact LeO.refl _)
   | (with_reducible exact LeO.none _)
   | (with_reducible refine LeO.ite ?_ ?_)
   | (with_reducible refine LeO.bind ?_ (fun _ => ?_))
   | exact ih0 _ _ _
   | exact LeO.none _
   | refine LeO.ite ?_ ?_
   | refine LeO.bind ?_ (fun _ => ?_)
theorem laws_eqStringS.mono : ∀ a0 a1 k, LeO (laws_eqStringS.f k a0 a1) (laws_eqStringS.f (k + 1) a0 a1) := by
 intro a0 a1 k
 have ih0 := laws_eqStringS.mono_l k
 unfold laws_eqStringS.f
 repeat' first
   | (with_reducible exact ih0 _ _ _)
   | (with_reducible exact LeO.refl _)
   | (with_reducible exact LeO.none _)
   | (with_reducible refine LeO.ite ?_ ?_)
   | (with_reducible refine LeO.bind ?_ (fun _ => ?_))
   | exact ih0 _ _ _
   | exact LeO.none _
   | refine LeO.ite ?_ ?_
   | refine LeO.bind ?_ (fun _ => ?_)
set_option maxHeartbeats 2000000 in
set_option maxRecDepth 100000 in
theorem laws_eqStringS.calls (k : Nat) (A0 : Option Addr) (c0 : Nat) (l0 : List ByteArray) (A1 : Option Addr) (c1 : Nat) (l1 : List ByteArray) (r : Bool) (w : World) (hr0 : Kd.C Kd.string w A0 l0.length l0) (hc0 : l0.length ≤ c0) (hr1 : Kd.C Kd.string w A1 l1.length l1) (hc1 : l1.length ≤ c1) (h : laws_eqStringS.f k l0 l1 = some r) :
  Calls Tryd.prog 52 #[.slice A0 l0.length c0, .slice A1 l1.length c1] w fun e w' => e = .returned (.bool r) ∧ Drawn0 w w' := by
 have HR0 := AZ.mk hr0
 have HC0 := AZ.mk hc0
 clear hr0 hc0
 have HR1 := AZ.mk hr1
 have HC1 := AZ.mk hc1
 clear hr1 hc1
 have H : (if (l0.length : Int) = (l1.length : Int) then (laws_eqStringS.l0 k l0 l1 0) else (some false)) = some r := h
 clear h
 by_cases c3 : (l0.length : Int) = (l1.length : Int)
 ·rw [if_pos c3] at H
  have c3b0 : ((l0.length : Int) == (l1.length : Int)) = true := beq_iff_eq.mpr c3
  have c3b1 : ((l0.length : Int) != (l1.length : Int)) = false := bne_eq_false_iff_eq.mpr c3
  have c3b2 : (l0.length == l1.length) = true := by first | simpa using c3 | (simp at c3 ⊢; omega)
  clear c3
  have H' := AZ.mk H
  clear H
  go_enter Tryd.func52, Tryd.ntmps52
  go_wp2
  repeat (go_quiet (fail); try go_wp2)
  go_loopg [5] k (fun kq v5 w' => ∃ (x5_1 : Int), v5 = .int .i64 x5_1 ∧ AZ (laws_eqStringS.l0 kq l0 l1 x5_1 = some r) ∧ AZ (kq ≤ k) ∧ Drawn0 w w')
  case atStart => exact ⟨(0), zq8, H', ⟨Nat.le_refl _⟩, zq31⟩
  case round =>
   clear H'
   try clear c1
   try clear p2
   try clear c3
   try clear c3b0
   try clear c3b1
   try clear c3b2
   obtain ⟨x5_1, rfl, HA, HK1, ⟨m1, rfl⟩⟩ := hrel
   cases gk with
   | zero => exact absurd HA.out (by simp [laws_eqStringS.l0])
   | succ k1 =>
    have H := HA.out
    clear HA
    simp only [laws_eqStringS.l0] at H
    by_cases c4 : x5_1 < (l0.length : Int)
    ·rw [if_pos c4] at H
     have c4b0 : decide (x5_1 < (l0.length : Int)) = true := decide_eq_true c4
     clear c4
     by_cases c5 : 0 ≤ x5_1
     ·rw [if_pos c5] at H
      have c5b0 : decide (0 ≤ x5_1) = true := decide_eq_true c5
      clear c5
      by_cases c6 : x5_1 < (l1.length : Int)
      ·rw [if_pos c6] at H
       have c6b0 : decide (x5_1 < (l1.length : Int)) = true := decide_eq_true c6
       clear c6
       by_cases c7 : (rdOf ByteArray.empty l0 x5_1).toList = (rdOf ByteArray.empty l1 x5_1).toList
       ·rw [if_pos c7] at H
        have c7b0 : ((rdOf ByteArray.empty l0 x5_1).toList == (rdOf ByteArray.empty l1 x5_1).toList) = true := beq_iff_eq.mpr c7
        have c7b1 : ((rdOf ByteArray.empty l0 x5_1).toList != (rdOf ByteArray.empty l1 x5_1).toList) = false := bne_eq_false_iff_eq.mpr c7
        clear c7
        have H' := AZ.mk H
        clear H
        have p281 : 0 ≤ (x5_1 : Int) := of_decide_eq_true zq1
        have q281 : x5_1 < (l0.length : Int) := of_decide_eq_true zq1
        obtain ⟨ad281, e281, hx281_0⟩ := Kd.at_string HR0.out x5_1 p281 q281
        cases e281
        replace p281 := eq_true p281
        replace q281 := eq_true q281
        have p282 : 0 ≤ (x5_1 : Int) := of_decide_eq_true zq1
        have q282 : x5_1 < (l1.length : Int) := of_decide_eq_true zq1
        obtain ⟨ad282, e282, hx282_0⟩ := Kd.at_string HR1.out x5_1 p282 q282
        cases e282
        replace p282 := eq_true p282
        replace q282 := eq_true q282
        go_wp2
        repeat (go_quiet (fail); try go_wp2)
        go_roundg k1
        case measure => have := HK1.out; omega
        case rel => exact ⟨(wrap64 (x5_1 + 1)), zq8, H', ⟨zq121⟩, zq31⟩
       ·rw [if_neg c7] at H
        have c7b0 : ((rdOf ByteArray.empty l0 x5_1).toList == (rdOf ByteArray.empty l1 x5_1).toList) = false := beq_eq_false_iff_ne.mpr c7
        have c7b1 : ((rdOf ByteArray.empty l0 x5_1).toList != (rdOf ByteArray.empty l1 x5_1).toList) = true := bne_iff_ne.mpr c7
        obtain rfl := Option.some.inj H
        have p281 : 0 ≤ (x5_1 : Int) := of_decide_eq_true zq1
        have q281 : x5_1 < (l0.length : Int) := of_decide_eq_true zq1
        obtain ⟨ad281, e281, hx281_0⟩ := Kd.at_string HR0.out x5_1 p281 q281
        cases e281
        replace p281 := eq_true p281
        replace q281 := eq_true q281
        have p282 : 0 ≤ (x5_1 : Int) := of_decide_eq_true zq1
        have q282 : x5_1 < (l1.length : Int) := of_decide_eq_true zq1
        obtain ⟨ad282, e282, hx282_0⟩ := Kd.at_string HR1.out x5_1 p282 q282
        cases e282
        replace p282 := eq_true p282
        replace q282 := eq_true q282
        go_wp2
        repeat (go_quiet (fail); try go_wp2)
        go_ret
        exact ⟨zq8, zq31⟩
      ·rw [if_neg c6] at H
       exact absurd H zq119
     ·rw [if_neg c5] at H
      exact absurd H zq119
    ·rw [if_neg c4] at H
     have c4b0 : decide (x5_1 < (l0.length : Int)) = false := decide_eq_false c4
     clear c4
     obtain rfl := Option.some.inj H
     go_wp2
     repeat (go_quiet (fail); try go_wp2)
     go_ret
     exact ⟨zq8, zq31⟩
 ·rw [if_neg c3] at H
  have c3b0 : ((l0.length : Int) == (l1.length : Int)) = false := beq_eq_false_iff_ne.mpr c3
  have c3b1 : ((l0.length : Int) != (l1.length : Int)) = true := bne_iff_ne.mpr c3
  have c3b2 : (l0.length == l1.length) = false := by first | simpa using c3 | (simp at c3 ⊢; omega)
  obtain rfl := Option.some.inj H
  go_enter Tryd.func52, Tryd.ntmps52
  go_wp2
  repeat (go_quiet (fail); try go_wp2)
  go_ret
  exact ⟨zq8, zq31⟩
end Go.Proofs.YtgjipjffpodjlaaDoor.K
namespace Go.Proofs.YtgjipjffpodjlaaDoor.K
open Go.RowKit Go.Proofs.YtgjipjffpodjlaaDoorW.PrintWords Go.Proofs.YtgjipjffpodjlaaDoorW.PrintLast Go.Proofs.YtgjipjffpodjlaaDoorW.PrintMore
attribute [local go_sem] max2_int min2_int max_two min_two max_three min_three max_four min_four   
set_option linter.unusedVariables false
set_option linter.unusedSimpArgs false
def laws_eqProof.f (k : Nat) (l0_0 : List ByteArray) (a0_1 : Bool) (a0_2 : ByteArray) (l1_0 : List ByteArray) (a1_1 : Bool) (a1_2 : ByteArray) : Option (Bool) := (laws_eqStringS.f k l0_0 l1_0).bind fun t285 => (if t285 = true then (if (a0_1 != a1_1) = true then (some false) else (if a0_2.toList = a1_2.toList then (some true) else (some false))) else (some false))
theorem laws_eqProof.mono : ∀ a0 a1 a2 a3 a4 a5 k, LeO (laws_eqProof.f k a0 a1 a2 a3 a4 a5) (laws_eqProof.f (k + 1) a0 a1 a2 a3 a4 a5) := by
 intro a0 a1 a2 a3 a4 a5 k
 unfold laws_eqProof.f
 repeat' first
   | (with_reducible exact laws_eqStringS.mono _ _ _)
   | (with_reducible exact LeO.refl _)
   | (with_reducible exact LeO.none _)
   | (with_reducible refine LeO.ite ?_ ?_)
   | (with_reducible refine LeO.bind ?_ (fun _ => ?_))
   | exact laws_eqStringS.mono _ _ _
   | exact LeO.none _
   | refine LeO.ite ?_ ?_
   | refine LeO.bind ?_ (fun _ => ?_)
set_option maxHeartbeats 2000000 in
set_option maxRecDepth 100000 in
theorem laws_eqProof.calls (k : Nat) (A0_0 : Option Addr) (c0_0 : Nat) (l0_0 : List ByteArray) (a0_1 : Bool) (a0_2 : ByteArray) (A1_0 : Option Addr) (c1_0 : Nat) (l1_0 : List ByteArray) (a1_1 : Bool) (a1_2 : ByteArray) (r : Bool) (w : World) (hr0_0 : Kd.C Kd.string w A0_0 l0_0.length l0_0) (hc0_0 : l0_0.length ≤ c0_0) (hr1_0 : Kd.C Kd.string w A1_0 l1_0.length l1_0) (hc1_0 : l1_0.length ≤ c1_0) (h : laws_eqProof.f k l0_0 a0_1 a0_2 l1_0 a1_1 a1_2 = some r) :
  Calls Tryd.prog 15 #[.agg #[.slice A0_0 l0_0.length c0_0, .bool a0_1, .string a0_2], .agg #[.slice A1_0 l1_0.length c1_0, .bool a1_1, .string a1_2]] w fun e w' => e = .returned (.bool r) ∧ Below w.heap.size w w' := by
 have hu38 := Tryd.underlying38
 have HR0_0 := AZ.mk hr0_0
 have HC0_0 := AZ.mk hc0_0
 clear hr0_0 hc0_0
 have HR1_0 := AZ.mk hr1_0
 have HC1_0 := AZ.mk hc1_0
 clear hr1_0 hc1_0
 have HB := AZ.mk (Below.refl w.heap.size w)
 have H : ((laws_eqStringS.f k l0_0 l1_0).bind fun t285 => (if t285 = true then (if (a0_1 != a1_1) = true then (some false) else (if a0_2.toList = a1_2.toList then (some true) else (some false))) else (some false))) = some r := h
 clear h
 replace H := Option.bind_eq_some_iff.mp H
 obtain ⟨t285, A30, H⟩ := H
 try dsimp only at H
 have A3 := AZ.mk A30
 clear A30
 by_cases c4 : t285 = true
 ·subst c4
  rw [if_pos rfl] at H
  by_cases c5 : (a0_1 != a1_1) = true
  ·rw [if_pos c5] at H
   have c5b0 : (a0_1 != a1_1) = true := c5
   (try (have c5b1 : decide (a0_1 = a1_1) = false := zq142))
   (try (have c5b2 : (a0_1 == a1_1) = false := zq142))
   (try (have c5b3 : ¬ (a0_1 = a1_1) := zq142))
   clear c5
   obtain rfl := Option.some.inj H
   go_enter Tryd.func15, Tryd.ntmps15
   go_wp2_with (first | ((with_reducible refine gate_dst (N := 2) rfl ?_); refine box_event ?hg (N := 2) ?hd (cs := #[.slice A0_0 l0_0.length c0_0, .bool a0_1, .string a0_2]) (t := 38) ?hr ?_; (case hd => rfl); (case hg => rfl); (case hr => first | (go_simp; done) | (go_simp; rfl)); intro gb283 hg w6 hbox hb; have n0_ := AZ.mk (below_step zq0 hb); have n1_ := AZ.mk (hbox); have n2_ := AZ.mk ((by rw [hg]; exact (below_size zq0) : w.heap.size ≤ gb283)); have n3_ := AZ.mk ((by rw [hg]; exact (below_size zq0) : w.heap.size ≤ gb283)); clear HB; have HB := n0_; have BK283 := n1_; have GW283 := n2_; have GE283 := n3_; clear n0_ n1_ n2_ n3_; clear hb hbox hg) | ((with_reducible refine gate_dst (N := 3) rfl ?_); refine box_event ?hg (N := 3) ?hd (cs := #[.slice A1_0 l1_0.length c1_0, .bool a1_1, .string a1_2]) (t := 38) ?hr ?_; (case hd => rfl); (case hg => rfl); (case hr => first | (go_simp; done) | (go_simp; rfl)); intro gb284 hg w7 hbox hb; have n0_ := AZ.mk (blk_below (g := gb283) (o := .cells #[.slice A0_0 l0_0.length c0_0, .bool a0_1, .string a0_2] 38 (0, 0)) zq50 hb); have n1_ := AZ.mk (below_step zq34 hb); have n2_ := AZ.mk (hbox); have n3_ := AZ.mk ((by rw [hg]; exact (below_size zq34) : w.heap.size ≤ gb284)); have n4_ := AZ.mk ((by rw [hg]; exact (below_size zq34) : w.heap.size ≤ gb284)); have n5_ := AZ.mk ((by rw [hg]; exact Nat.ne_of_lt (blk_lt (g := gb283) (o := .cells #[.slice A0_0 l0_0.length c0_0, .bool a0_1, .string a0_2] 38 (0, 0)) zq50) : gb283 ≠ gb284)); have n6_ := AZ.mk ((by rw [hg]; exact Nat.ne_of_gt (blk_lt (g := gb283) (o := .cells #[.slice A0_0 l0_0.length c0_0, .bool a0_1, .string a0_2] 38 (0, 0)) zq50) : gb284 ≠ gb283)); clear BK283; clear HB; have BK283 := n0_; have HB := n1_; have BK284 := n2_; have GW284 := n3_; have GE284 := n4_; have NB283_284 := n5_; have NB284_283 := n6_; clear n0_ n1_ n2_ n3_ n4_ n5_ n6_; clear hb hbox hg; have hnb8 := NB283_284.out; have hnc8 := NB284_283.out; have hcz9_0 : w7.cell? ⟨gb283, 0, none⟩ = some (.slice A0_0 l0_0.length c0_0) := (blk_cell BK283.out 0).trans rfl; have hcz9_1 : w7.cell? ⟨gb283, 1, none⟩ = some (.bool a0_1) := (blk_cell BK283.out 1).trans rfl; have hcz9_2 : w7.cell? ⟨gb283, 2, none⟩ = some (.string a0_2) := (blk_cell BK283.out 2).trans rfl; have hfz9_0 := blk_frozen BK283.out 0; have hfz9_1 := blk_frozen BK283.out 1; have hfz9_2 := blk_frozen BK283.out 2; have hcz10_0 : w7.cell? ⟨gb284, 0, none⟩ = some (.slice A1_0 l1_0.length c1_0) := (blk_cell BK284.out 0).trans rfl; have hcz10_1 : w7.cell? ⟨gb284, 1, none⟩ = some (.bool a1_1) := (blk_cell BK284.out 1).trans rfl; have hcz10_2 : w7.cell? ⟨gb284, 2, none⟩ = some (.string a1_2) := (blk_cell BK284.out 2).trans rfl; have hfz10_0 := blk_frozen BK284.out 0; have hfz10_1 := blk_frozen BK284.out 1; have hfz10_2 := blk_frozen BK284.out 2) | ((with_reducible refine gate_callee (f := 52) rfl ?_); refine goesL_ (some 9) rfl rfl Tryd.func52 zq17 rfl #[.slice A0_0 l0_0.length c0_0, .slice A1_0 l1_0.length c1_0] rfl zq2 ?_; (with_reducible refine (laws_eqStringS.calls k _ _ l0_0 _ _ l1_0 true _ ?side1 ?side2 ?side3 ?side4 A3.out).mono ?_); (case side1 => repeat (first | exact (Kd.C_below HR0_0.out HB.out) | (with_reducible refine Kd.C_alloc ?_ _) | (with_reducible refine Kd.C_drewN ?_ _) | (with_reducible refine Kd.C_drew ?_))); (case side2 => exact HC0_0.out); (case side3 => repeat (first | exact (Kd.C_below HR1_0.out HB.out) | (with_reducible refine Kd.C_alloc ?_ _) | (with_reducible refine Kd.C_drewN ?_ _) | (with_reducible refine Kd.C_drew ?_))); (case side4 => exact HC1_0.out); rintro e w' ⟨rfl, ⟨nd, rfl⟩⟩; refine ⟨_, rfl, ?_⟩))
   go_ret
   exact ⟨zq7, zq78⟩
  ·rw [if_neg c5] at H
   have c5b0 : (a0_1 != a1_1) = false := by simpa using c5
   (try (have c5b1 : decide (a0_1 = a1_1) = true := zq142))
   (try (have c5b2 : (a0_1 == a1_1) = true := zq142))
   clear c5
   by_cases c11 : a0_2.toList = a1_2.toList
   ·rw [if_pos c11] at H
    have c11b0 : (a0_2.toList == a1_2.toList) = true := beq_iff_eq.mpr c11
    have c11b1 : (a0_2.toList != a1_2.toList) = false := bne_eq_false_iff_eq.mpr c11
    clear c11
    obtain rfl := Option.some.inj H
    go_enter Tryd.func15, Tryd.ntmps15
    go_wp2_with (first | ((with_reducible refine gate_dst (N := 2) rfl ?_); refine box_event ?hg (N := 2) ?hd (cs := #[.slice A0_0 l0_0.length c0_0, .bool a0_1, .string a0_2]) (t := 38) ?hr ?_; (case hd => rfl); (case hg => rfl); (case hr => first | (go_simp; done) | (go_simp; rfl)); intro gb283 hg w12 hbox hb; have n0_ := AZ.mk (below_step zq0 hb); have n1_ := AZ.mk (hbox); have n2_ := AZ.mk ((by rw [hg]; exact (below_size zq0) : w.heap.size ≤ gb283)); have n3_ := AZ.mk ((by rw [hg]; exact (below_size zq0) : w.heap.size ≤ gb283)); clear HB; have HB := n0_; have BK283 := n1_; have GW283 := n2_; have GE283 := n3_; clear n0_ n1_ n2_ n3_; clear hb hbox hg) | ((with_reducible refine gate_dst (N := 3) rfl ?_); refine box_event ?hg (N := 3) ?hd (cs := #[.slice A1_0 l1_0.length c1_0, .bool a1_1, .string a1_2]) (t := 38) ?hr ?_; (case hd => rfl); (case hg => rfl); (case hr => first | (go_simp; done) | (go_simp; rfl)); intro gb284 hg w13 hbox hb; have n0_ := AZ.mk (blk_below (g := gb283) (o := .cells #[.slice A0_0 l0_0.length c0_0, .bool a0_1, .string a0_2] 38 (0, 0)) zq50 hb); have n1_ := AZ.mk (below_step zq34 hb); have n2_ := AZ.mk (hbox); have n3_ := AZ.mk ((by rw [hg]; exact (below_size zq34) : w.heap.size ≤ gb284)); have n4_ := AZ.mk ((by rw [hg]; exact (below_size zq34) : w.heap.size ≤ gb284)); have n5_ := AZ.mk ((by rw [hg]; exact Nat.ne_of_lt (blk_lt (g := gb283) (o := .cells #[.slice A0_0 l0_0.length c0_0, .bool a0_1, .string a0_2] 38 (0, 0)) zq50) : gb283 ≠ gb284)); have n6_ := AZ.mk ((by rw [hg]; exact Nat.ne_of_gt (blk_lt (g := gb283) (o := .cells #[.slice A0_0 l0_0.length c0_0, .bool a0_1, .string a0_2] 38 (0, 0)) zq50) : gb284 ≠ gb283)); clear BK283; clear HB; have BK283 := n0_; have HB := n1_; have BK284 := n2_; have GW284 := n3_; have GE284 := n4_; have NB283_284 := n5_; have NB284_283 := n6_; clear n0_ n1_ n2_ n3_ n4_ n5_ n6_; clear hb hbox hg; have hnb14 := NB283_284.out; have hnc14 := NB284_283.out; have hcz15_0 : w13.cell? ⟨gb283, 0, none⟩ = some (.slice A0_0 l0_0.length c0_0) := (blk_cell BK283.out 0).trans rfl; have hcz15_1 : w13.cell? ⟨gb283, 1, none⟩ = some (.bool a0_1) := (blk_cell BK283.out 1).trans rfl; have hcz15_2 : w13.cell? ⟨gb283, 2, none⟩ = some (.string a0_2) := (blk_cell BK283.out 2).trans rfl; have hfz15_0 := blk_frozen BK283.out 0; have hfz15_1 := blk_frozen BK283.out 1; have hfz15_2 := blk_frozen BK283.out 2; have hcz16_0 : w13.cell? ⟨gb284, 0, none⟩ = some (.slice A1_0 l1_0.length c1_0) := (blk_cell BK284.out 0).trans rfl; have hcz16_1 : w13.cell? ⟨gb284, 1, none⟩ = some (.bool a1_1) := (blk_cell BK284.out 1).trans rfl; have hcz16_2 : w13.cell? ⟨gb284, 2, none⟩ = some (.string a1_2) := (blk_cell BK284.out 2).trans rfl; have hfz16_0 := blk_frozen BK284.out 0; have hfz16_1 := blk_frozen BK284.out 1; have hfz16_2 := blk_frozen BK284.out 2) | ((with_reducible refine gate_callee (f := 52) rfl ?_); refine goesL_ (some 9) rfl rfl Tryd.func52 zq17 rfl #[.slice A0_0 l0_0.length c0_0, .slice A1_0 l1_0.length c1_0] rfl zq2 ?_; (with_reducible refine (laws_eqStringS.calls k _ _ l0_0 _ _ l1_0 true _ ?side1 ?side2 ?side3 ?side4 A3.out).mono ?_); (case side1 => repeat (first | exact (Kd.C_below HR0_0.out HB.out) | (with_reducible refine Kd.C_alloc ?_ _) | (with_reducible refine Kd.C_drewN ?_ _) | (with_reducible refine Kd.C_drew ?_))); (case side2 => exact HC0_0.out); (case side3 => repeat (first | exact (Kd.C_below HR1_0.out HB.out) | (with_reducible refine Kd.C_alloc ?_ _) | (with_reducible refine Kd.C_drewN ?_ _) | (with_reducible refine Kd.C_drew ?_))); (case side4 => exact HC1_0.out); rintro e w' ⟨rfl, ⟨nd, rfl⟩⟩; refine ⟨_, rfl, ?_⟩))
    go_ret
    exact ⟨zq7, zq78⟩
   ·rw [if_neg c11] at H
    have c11b0 : (a0_2.toList == a1_2.toList) = false := beq_eq_false_iff_ne.mpr c11
    have c11b1 : (a0_2.toList != a1_2.toList) = true := bne_iff_ne.mpr c11
    obtain rfl := Option.some.inj H
    go_enter Tryd.func15, Tryd.ntmps15
    go_wp2_with (first | ((with_reducible refine gate_dst (N := 2) rfl ?_); refine box_event ?hg (N := 2) ?hd (cs := #[.slice A0_0 l0_0.length c0_0, .bool a0_1, .string a0_2]) (t := 38) ?hr ?_; (case hd => rfl); (case hg => rfl); (case hr => first | (go_simp; done) | (go_simp; rfl)); intro gb283 hg w17 hbox hb; have n0_ := AZ.mk (below_step zq0 hb); have n1_ := AZ.mk (hbox); have n2_ := AZ.mk ((by rw [hg]; exact (below_size zq0) : w.heap.size ≤ gb283)); have n3_ := AZ.mk ((by rw [hg]; exact (below_size zq0) : w.heap.size ≤ gb283)); clear HB; have HB := n0_; have BK283 := n1_; have GW283 := n2_; have GE283 := n3_; clear n0_ n1_ n2_ n3_; clear hb hbox hg) | ((with_reducible refine gate_dst (N := 3) rfl ?_); refine box_event ?hg (N := 3) ?hd (cs := #[.slice A1_0 l1_0.length c1_0, .bool a1_1, .string a1_2]) (t := 38) ?hr ?_; (case hd => rfl); (case hg => rfl); (case hr => first | (go_simp; done) | (go_simp; rfl)); intro gb284 hg w18 hbox hb; have n0_ := AZ.mk (blk_below (g := gb283) (o := .cells #[.slice A0_0 l0_0.length c0_0, .bool a0_1, .string a0_2] 38 (0, 0)) zq50 hb); have n1_ := AZ.mk (below_step zq34 hb); have n2_ := AZ.mk (hbox); have n3_ := AZ.mk ((by rw [hg]; exact (below_size zq34) : w.heap.size ≤ gb284)); have n4_ := AZ.mk ((by rw [hg]; exact (below_size zq34) : w.heap.size ≤ gb284)); have n5_ := AZ.mk ((by rw [hg]; exact Nat.ne_of_lt (blk_lt (g := gb283) (o := .cells #[.slice A0_0 l0_0.length c0_0, .bool a0_1, .string a0_2] 38 (0, 0)) zq50) : gb283 ≠ gb284)); have n6_ := AZ.mk ((by rw [hg]; exact Nat.ne_of_gt (blk_lt (g := gb283) (o := .cells #[.slice A0_0 l0_0.length c0_0, .bool a0_1, .string a0_2] 38 (0, 0)) zq50) : gb284 ≠ gb283)); clear BK283; clear HB; have BK283 := n0_; have HB := n1_; have BK284 := n2_; have GW284 := n3_; have GE284 := n4_; have NB283_284 := n5_; have NB284_283 := n6_; clear n0_ n1_ n2_ n3_ n4_ n5_ n6_; clear hb hbox hg; have hnb19 := NB283_284.out; have hnc19 := NB284_283.out; have hcz20_0 : w18.cell? ⟨gb283, 0, none⟩ = some (.slice A0_0 l0_0.length c0_0) := (blk_cell BK283.out 0).trans rfl; have hcz20_1 : w18.cell? ⟨gb283, 1, none⟩ = some (.bool a0_1) := (blk_cell BK283.out 1).trans rfl; have hcz20_2 : w18.cell? ⟨gb283, 2, none⟩ = some (.string a0_2) := (blk_cell BK283.out 2).trans rfl; have hfz20_0 := blk_frozen BK283.out 0; have hfz20_1 := blk_frozen BK283.out 1; have hfz20_2 := blk_frozen BK283.out 2; have hcz21_0 : w18.cell? ⟨gb284, 0, none⟩ = some (.slice A1_0 l1_0.length c1_0) := (blk_cell BK284.out 0).trans rfl; have hcz21_1 : w18.cell? ⟨gb284, 1, none⟩ = some (.bool a1_1) := (blk_cell BK284.out 1).trans rfl; have hcz21_2 : w18.cell? ⟨gb284, 2, none⟩ = some (.string a1_2) := (blk_cell BK284.out 2).trans rfl; have hfz21_0 := blk_frozen BK284.out 0; have hfz21_1 := blk_frozen BK284.out 1; have hfz21_2 := blk_frozen BK284.out 2) | ((with_reducible refine gate_callee (f := 52) rfl ?_); refine goesL_ (some 9) rfl rfl Tryd.func52 zq17 rfl #[.slice A0_0 l0_0.length c0_0, .slice A1_0 l1_0.length c1_0] rfl zq2 ?_; (with_reducible refine (laws_eqStringS.calls k _ _ l0_0 _ _ l1_0 true _ ?side1 ?side2 ?side3 ?side4 A3.out).mono ?_); (case side1 => repeat (first | exact (Kd.C_below HR0_0.out HB.out) | (with_reducible refine Kd.C_alloc ?_ _) | (with_reducible refine Kd.C_drewN ?_ _) | (with_reducible refine Kd.C_drew ?_))); (case side2 => exact HC0_0.out); (case side3 => repeat (first | exact (Kd.C_below HR1_0.out HB.out) | (with_reducible refine Kd.C_alloc ?_ _) | (with_reducible refine Kd.C_drewN ?_ _) | (with_reducible refine Kd.C_drew ?_))); (case side4 => exact HC1_0.out); rintro e w' ⟨rfl, ⟨nd, rfl⟩⟩; refine ⟨_, rfl, ?_⟩))
    go_ret
    exact ⟨zq7, zq78⟩
 ·replace c4 := Bool.eq_false_iff.mpr c4
  subst c4
  rw [if_neg (show ¬ (false = true) by decide)] at H
  obtain rfl := Option.some.inj H
  go_enter Tryd.func15, Tryd.ntmps15
  go_wp2_with (first | ((with_reducible refine gate_dst (N := 2) rfl ?_); refine box_event ?hg (N := 2) ?hd (cs := #[.slice A0_0 l0_0.length c0_0, .bool a0_1, .string a0_2]) (t := 38) ?hr ?_; (case hd => rfl); (case hg => rfl); (case hr => first | (go_simp; done) | (go_simp; rfl)); intro gb283 hg w22 hbox hb; have n0_ := AZ.mk (below_step zq0 hb); have n1_ := AZ.mk (hbox); have n2_ := AZ.mk ((by rw [hg]; exact (below_size zq0) : w.heap.size ≤ gb283)); have n3_ := AZ.mk ((by rw [hg]; exact (below_size zq0) : w.heap.size ≤ gb283)); clear HB; have HB := n0_; have BK283 := n1_; have GW283 := n2_; have GE283 := n3_; clear n0_ n1_ n2_ n3_; clear hb hbox hg) | ((with_reducible refine gate_dst (N := 3) rfl ?_); refine box_event ?hg (N := 3) ?hd (cs := #[.slice A1_0 l1_0.length c1_0, .bool a1_1, .string a1_2]) (t := 38) ?hr ?_; (case hd => rfl); (case hg => rfl); (case hr => first | (go_simp; done) | (go_simp; rfl)); intro gb284 hg w23 hbox hb; have n0_ := AZ.mk (blk_below (g := gb283) (o := .cells #[.slice A0_0 l0_0.length c0_0, .bool a0_1, .string a0_2] 38 (0, 0)) zq50 hb); have n1_ := AZ.mk (below_step zq34 hb); have n2_ := AZ.mk (hbox); have n3_ := AZ.mk ((by rw [hg]; exact (below_size zq34) : w.heap.size ≤ gb284)); have n4_ := AZ.mk ((by rw [hg]; exact (below_size zq34) : w.heap.size ≤ gb284)); have n5_ := AZ.mk ((by rw [hg]; exact Nat.ne_of_lt (blk_lt (g := gb283) (o := .cells #[.slice A0_0 l0_0.length c0_0, .bool a0_1, .string a0_2] 38 (0, 0)) zq50) : gb283 ≠ gb284)); have n6_ := AZ.mk ((by rw [hg]; exact Nat.ne_of_gt (blk_lt (g := gb283) (o := .cells #[.slice A0_0 l0_0.length c0_0, .bool a0_1, .string a0_2] 38 (0, 0)) zq50) : gb284 ≠ gb283)); clear BK283; clear HB; have BK283 := n0_; have HB := n1_; have BK284 := n2_; have GW284 := n3_; have GE284 := n4_; have NB283_284 := n5_; have NB284_283 := n6_; clear n0_ n1_ n2_ n3_ n4_ n5_ n6_; clear hb hbox hg; have hnb24 := NB283_284.out; have hnc24 := NB284_283.out; have hcz25_0 : w23.cell? ⟨gb283, 0, none⟩ = some (.slice A0_0 l0_0.length c0_0) := (blk_cell BK283.out 0).trans rfl; have hcz25_1 : w23.cell? ⟨gb283, 1, none⟩ = some (.bool a0_1) := (blk_cell BK283.out 1).trans rfl; have hcz25_2 : w23.cell? ⟨gb283, 2, none⟩ = some (.string a0_2) := (blk_cell BK283.out 2).trans rfl; have hfz25_0 := blk_frozen BK283.out 0; have hfz25_1 := blk_frozen BK283.out 1; have hfz25_2 := blk_frozen BK283.out 2; have hcz26_0 : w23.cell? ⟨gb284, 0, none⟩ = some (.slice A1_0 l1_0.length c1_0) := (blk_cell BK284.out 0).trans rfl; have hcz26_1 : w23.cell? ⟨gb284, 1, none⟩ = some (.bool a1_1) := (blk_cell BK284.out 1).trans rfl; have hcz26_2 : w23.cell? ⟨gb284, 2, none⟩ = some (.string a1_2) := (blk_cell BK284.out 2).trans rfl; have hfz26_0 := blk_frozen BK284.out 0; have hfz26_1 := blk_frozen BK284.out 1; have hfz26_2 := blk_frozen BK284.out 2) | ((with_reducible refine gate_callee (f := 52) rfl ?_); refine goesL_ (some 9) rfl rfl Tryd.func52 zq17 rfl #[.slice A0_0 l0_0.length c0_0, .slice A1_0 l1_0.length c1_0] rfl zq2 ?_; (with_reducible refine (laws_eqStringS.calls k _ _ l0_0 _ _ l1_0 false _ ?side1 ?side2 ?side3 ?side4 A3.out).mono ?_); (case side1 => repeat (first | exact (Kd.C_below HR0_0.out HB.out) | (with_reducible refine Kd.C_alloc ?_ _) | (with_reducible refine Kd.C_drewN ?_ _) | (with_reducible refine Kd.C_drew ?_))); (case side2 => exact HC0_0.out); (case side3 => repeat (first | exact (Kd.C_below HR1_0.out HB.out) | (with_reducible refine Kd.C_alloc ?_ _) | (with_reducible refine Kd.C_drewN ?_ _) | (with_reducible refine Kd.C_drew ?_))); (case side4 => exact HC1_0.out); rintro e w' ⟨rfl, ⟨nd, rfl⟩⟩; refine ⟨_, rfl, ?_⟩))
  go_ret
  exact ⟨zq7, zq78⟩
end Go.Proofs.YtgjipjffpodjlaaDoor.K
namespace Go.Proofs.YtgjipjffpodjlaaDoor.K
open Go.RowKit Go.Proofs.YtgjipjffpodjlaaDoorW.PrintWords Go.Proofs.YtgjipjffpodjlaaDoorW.PrintLast Go.Proofs.YtgjipjffpodjlaaDoorW.PrintMore
attribute [local go_sem] max2_int min2_int max_two min_two max_three min_three max_four min_four   
set_option linter.unusedVariables false
set_option linter.unusedSimpArgs false
def laws_FnExactShow.f (k : Nat) (a0 : ByteArray) (a1 : ByteArray) (l2_0 : List ByteArray) (a2_1 : Bool) (a2_2 : ByteArray) (a3 : Int) : Option (Bool) := if (a0.size : Int) > 1048576 then (some true) else (if (a1.size : Int) > 1048576 then (some true) else ((laws_szProof.f k l2_0 a2_1 a2_2 1048576).bind fun t287 => (if t287 < 0 then (some true) else ((laws_toProof.f k l2_0 a2_1 a2_2).bind fun bt288 => ((spec_Show.f k a0 a1 bt288.1 bt288.2.1 bt288.2.2 a3).bind fun bt293 => ((laws_toProof.f k l2_0 a2_1 a2_2).bind fun bt299 => ((impl_Show.f k a0 a1 bt299.1 bt299.2.1 bt299.2.2 a3).bind fun bt305 => ((laws_eqShown.f bt305.1 bt305.2.1 bt305.2.2.1 bt305.2.2.2.1 bt305.2.2.2.2 bt293.1 bt293.2.1 bt293.2.2.1 bt293.2.2.2.1 bt293.2.2.2.2).bind fun t311 => (if t311 = true then ((laws_toProof.f k l2_0 a2_1 a2_2).bind fun bt312 => ((laws_eqProof.f k bt299.1 bt299.2.1 bt299.2.2 bt312.1 bt312.2.1 bt312.2.2).bind fun t317 => (if t317 = true then (some true) else (some false)))) else (some false))))))))))
theorem laws_FnExactShow.mono : ∀ a0 a1 a2 a3 a4 a5 k, LeO (laws_FnExactShow.f k a0 a1 a2 a3 a4 a5) (laws_FnExactShow.f (k + 1) a0 a1 a2 a3 a4 a5) := by
 intro a0 a1 a2 a3 a4 a5 k
 unfold laws_FnExactShow.f
 repeat' first
   | (with_reducible exact impl_Show.mono _ _ _ _ _ _ _)
   | (with_reducible exact laws_eqProof.mono _ _ _ _ _ _ _)
   | (with_reducible exact laws_szProof.mono _ _ _ _ _)
   | (with_reducible exact laws_toProof.mono _ _ _ _)
   | (with_reducible exact spec_Show.mono _ _ _ _ _ _ _)
   | (with_reducible exact LeO.refl _)
   | (with_reducible exact LeO.none _)
   | (with_reducible refine LeO.ite ?_ ?_)
   | (with_reducible refine LeO.bind ?_ (fun _ => ?_))
   | exact impl_Show.mono _ _ _ _ _ _ _
   | exact laws_eqProof.mono _ _ _ _ _ _ _
   | exact laws_szProof.mono _ _ _ _ _
   | exact laws_toProof.mono _ _ _ _
   | exact spec_Show.mono _ _ _ _ _ _ _
   | exact LeO.none _
   | refine LeO.ite ?_ ?_
   | refine LeO.bind ?_ (fun _ => ?_)
set_option maxHeartbeats 2000000 in
set_option maxRecDepth 100000 in
theorem laws_FnExactShow.calls (k : Nat) (a0 : ByteArray) (a1 : ByteArray) (A2_0 : Option Addr) (c2_0 : Nat) (l2_0 : List ByteArray) (a2_1 : Bool) (a2_2 : ByteArray) (a3 : Int) (r : Bool) (w : World) (hr2_0 : Kd.C Kd.string w A2_0 l2_0.length l2_0) (hc2_0 : l2_0.length ≤ c2_0) (h : laws_FnExactShow.f k a0 a1 l2_0 a2_1 a2_2 a3 = some r) :
  Calls Tryd.prog 5 #[.string a0, .string a1, .agg #[.slice A2_0 l2_0.length c2_0, .bool a2_1, .string a2_2], .int .i64 a3] w fun e w' => e = .returned (.bool r) ∧ Below w.heap.size w w' := by
 have hu31 := Tryd.underlying31
 have hu36 := Tryd.underlying36
 have hu38 := Tryd.underlying38
 have HR2_0 := AZ.mk hr2_0
 have HC2_0 := AZ.mk hc2_0
 clear hr2_0 hc2_0
 have HB := AZ.mk (Below.refl w.heap.size w)
 have H : (if (a0.size : Int) > 1048576 then (some true) else (if (a1.size : Int) > 1048576 then (some true) else ((laws_szProof.f k l2_0 a2_1 a2_2 1048576).bind fun t287 => (if t287 < 0 then (some true) else ((laws_toProof.f k l2_0 a2_1 a2_2).bind fun bt288 => ((spec_Show.f k a0 a1 bt288.1 bt288.2.1 bt288.2.2 a3).bind fun bt293 => ((laws_toProof.f k l2_0 a2_1 a2_2).bind fun bt299 => ((impl_Show.f k a0 a1 bt299.1 bt299.2.1 bt299.2.2 a3).bind fun bt305 => ((laws_eqShown.f bt305.1 bt305.2.1 bt305.2.2.1 bt305.2.2.2.1 bt305.2.2.2.2 bt293.1 bt293.2.1 bt293.2.2.1 bt293.2.2.2.1 bt293.2.2.2.2).bind fun t311 => (if t311 = true then ((laws_toProof.f k l2_0 a2_1 a2_2).bind fun bt312 => ((laws_eqProof.f k bt299.1 bt299.2.1 bt299.2.2 bt312.1 bt312.2.1 bt312.2.2).bind fun t317 => (if t317 = true then (some true) else (some false)))) else (some false))))))))))) = some r := h
 clear h
 by_cases c5 : (a0.size : Int) > 1048576
 ·rw [if_pos c5] at H
  have c5b0 : decide (1048576 < (a0.size : Int)) = true := decide_eq_true c5
  have c5b1 : decide (1048576 < a0.size) = true := decide_eq_true zq94
  clear c5
  obtain rfl := Option.some.inj H
  go_enter Tryd.func5, Tryd.ntmps5
  go_wp2_with (first | ((with_reducible refine gate_dst (N := 6) rfl ?_); refine box_event ?hg (N := 6) ?hd (cs := #[.slice A2_0 l2_0.length c2_0, .bool a2_1, .string a2_2]) (t := 31) ?hr ?_; (case hd => rfl); (case hg => rfl); (case hr => first | (go_simp; done) | (go_simp; rfl)); intro gb286 hg w6 hbox hb; have n0_ := AZ.mk (below_step zq0 hb); have n1_ := AZ.mk (hbox); have n2_ := AZ.mk ((by rw [hg]; exact (below_size zq0) : w.heap.size ≤ gb286)); have n3_ := AZ.mk ((by rw [hg]; exact (below_size zq0) : w.heap.size ≤ gb286)); clear HB; have HB := n0_; have BK286 := n1_; have GW286 := n2_; have GE286 := n3_; clear n0_ n1_ n2_ n3_; clear hb hbox hg))
  go_ret
  exact ⟨zq7, zq18⟩
 ·rw [if_neg c5] at H
  have c5b0 : decide (1048576 < (a0.size : Int)) = false := decide_eq_false c5
  have c5b1 : decide (1048576 < a0.size) = false := decide_eq_false zq94
  clear c5
  by_cases c7 : (a1.size : Int) > 1048576
  ·rw [if_pos c7] at H
   have c7b0 : decide (1048576 < (a1.size : Int)) = true := decide_eq_true c7
   have c7b1 : decide (1048576 < a1.size) = true := decide_eq_true zq94
   clear c7
   obtain rfl := Option.some.inj H
   go_enter Tryd.func5, Tryd.ntmps5
   go_wp2_with (first | ((with_reducible refine gate_dst (N := 6) rfl ?_); refine box_event ?hg (N := 6) ?hd (cs := #[.slice A2_0 l2_0.length c2_0, .bool a2_1, .string a2_2]) (t := 31) ?hr ?_; (case hd => rfl); (case hg => rfl); (case hr => first | (go_simp; done) | (go_simp; rfl)); intro gb286 hg w8 hbox hb; have n0_ := AZ.mk (below_step zq0 hb); have n1_ := AZ.mk (hbox); have n2_ := AZ.mk ((by rw [hg]; exact (below_size zq0) : w.heap.size ≤ gb286)); have n3_ := AZ.mk ((by rw [hg]; exact (below_size zq0) : w.heap.size ≤ gb286)); clear HB; have HB := n0_; have BK286 := n1_; have GW286 := n2_; have GE286 := n3_; clear n0_ n1_ n2_ n3_; clear hb hbox hg))
   go_ret
   exact ⟨zq7, zq18⟩
  ·rw [if_neg c7] at H
   have c7b0 : decide (1048576 < (a1.size : Int)) = false := decide_eq_false c7
   have c7b1 : decide (1048576 < a1.size) = false := decide_eq_false zq94
   clear c7
   replace H := Option.bind_eq_some_iff.mp H
   obtain ⟨t287, A90, H⟩ := H
   try dsimp only at H
   have A9 := AZ.mk A90
   clear A90
   by_cases c10 : t287 < 0
   ·rw [if_pos c10] at H
    have c10b0 : decide (t287 < 0) = true := decide_eq_true c10
    clear c10
    obtain rfl := Option.some.inj H
    go_enter Tryd.func5, Tryd.ntmps5
    go_wp2_with (first | ((with_reducible refine gate_dst (N := 6) rfl ?_); refine box_event ?hg (N := 6) ?hd (cs := #[.slice A2_0 l2_0.length c2_0, .bool a2_1, .string a2_2]) (t := 31) ?hr ?_; (case hd => rfl); (case hg => rfl); (case hr => first | (go_simp; done) | (go_simp; rfl)); intro gb286 hg w11 hbox hb; have n0_ := AZ.mk (below_step zq0 hb); have n1_ := AZ.mk (hbox); have n2_ := AZ.mk ((by rw [hg]; exact (below_size zq0) : w.heap.size ≤ gb286)); have n3_ := AZ.mk ((by rw [hg]; exact (below_size zq0) : w.heap.size ≤ gb286)); clear HB; have HB := n0_; have BK286 := n1_; have GW286 := n2_; have GE286 := n3_; clear n0_ n1_ n2_ n3_; clear hb hbox hg; have hcz12_0 : w11.cell? ⟨gb286, 0, none⟩ = some (.slice A2_0 l2_0.length c2_0) := (blk_cell BK286.out 0).trans rfl; have hcz12_1 : w11.cell? ⟨gb286, 1, none⟩ = some (.bool a2_1) := (blk_cell BK286.out 1).trans rfl; have hcz12_2 : w11.cell? ⟨gb286, 2, none⟩ = some (.string a2_2) := (blk_cell BK286.out 2).trans rfl; have hfz12_0 := blk_frozen BK286.out 0; have hfz12_1 := blk_frozen BK286.out 1; have hfz12_2 := blk_frozen BK286.out 2) | ((with_reducible refine gate_callee (f := 10) rfl ?_); refine goesL_ (some 21) rfl rfl Tryd.func10 zq17 rfl #[.agg #[.slice A2_0 l2_0.length c2_0, .bool a2_1, .string a2_2], .int .i64 1048576] rfl zq2 ?_; (with_reducible refine (laws_szProof.calls k _ _ l2_0 a2_1 a2_2 1048576 t287 _ ?side1 ?side2 A9.out).mono ?_); (case side1 => repeat (first | exact (Kd.C_below HR2_0.out HB.out) | (with_reducible refine Kd.C_alloc ?_ _) | (with_reducible refine Kd.C_drewN ?_ _) | (with_reducible refine Kd.C_drew ?_))); (case side2 => exact HC2_0.out); rintro e w13 ⟨rfl, hb⟩; refine ⟨_, rfl, ?_⟩; have n0_ := AZ.mk (blk_below (g := gb286) (o := .cells #[.slice A2_0 l2_0.length c2_0, .bool a2_1, .string a2_2] 31 (0, 0)) zq16 hb); have n1_ := AZ.mk (below_step zq18 hb); clear BK286; clear HB; have BK286 := n0_; have HB := n1_; clear n0_ n1_; (try clear hb); (try clear hb2); (try clear hk); (try clear hi)))
    go_ret
    exact ⟨zq7, zq18⟩
   ·rw [if_neg c10] at H
    have c10b0 : decide (t287 < 0) = false := decide_eq_false c10
    clear c10
    replace H := Option.bind_eq_some_iff.mp H
    obtain ⟨⟨t288, t291, t292⟩, A140, H⟩ := H
    try dsimp only at H
    have A14 := AZ.mk A140
    clear A140
    replace H := Option.bind_eq_some_iff.mp H
    obtain ⟨⟨t293, t294, t295, t296, t297⟩, A150, H⟩ := H
    try dsimp only at H
    have A15 := AZ.mk A150
    clear A150
    replace H := Option.bind_eq_some_iff.mp H
    obtain ⟨⟨t299, t302, t303⟩, A160, H⟩ := H
    try dsimp only at H
    have A16 := AZ.mk A160
    clear A160
    replace H := Option.bind_eq_some_iff.mp H
    obtain ⟨⟨t305, t306, t307, t308, t309⟩, A170, H⟩ := H
    try dsimp only at H
    have A17 := AZ.mk A170
    clear A170
    replace H := Option.bind_eq_some_iff.mp H
    obtain ⟨t311, A180, H⟩ := H
    try dsimp only at H
    have A18 := AZ.mk A180
    clear A180
    by_cases c19 : t311 = true
    ·subst c19
     rw [if_pos rfl] at H
     replace H := Option.bind_eq_some_iff.mp H
     obtain ⟨⟨t312, t315, t316⟩, A200, H⟩ := H
     try dsimp only at H
     have A20 := AZ.mk A200
     clear A200
     replace H := Option.bind_eq_some_iff.mp H
     obtain ⟨t317, A210, H⟩ := H
     try dsimp only at H
     have A21 := AZ.mk A210
     clear A210
     by_cases c22 : t317 = true
     ·subst c22
      rw [if_pos rfl] at H
      obtain rfl := Option.some.inj H
      go_enter Tryd.func5, Tryd.ntmps5
      try go_wp2_with (first | ((with_reducible refine gate_dst (N := 6) rfl ?_); refine box_event ?hg (N := 6) ?hd (cs := #[.slice A2_0 l2_0.length c2_0, .bool a2_1, .string a2_2]) (t := 31) ?hr ?_; (case hd => rfl); (case hg => rfl); (case hr => first | (go_simp; done) | (go_simp; rfl)); intro gb286 hg w23 hbox hb; have n0_ := AZ.mk (below_step zq0 hb); have n1_ := AZ.mk (hbox); have n2_ := AZ.mk ((by rw [hg]; exact (below_size zq0) : w.heap.size ≤ gb286)); have n3_ := AZ.mk ((by rw [hg]; exact (below_size zq0) : w.heap.size ≤ gb286)); clear HB; have HB := n0_; have BK286 := n1_; have GW286 := n2_; have GE286 := n3_; clear n0_ n1_ n2_ n3_; clear hb hbox hg; have hcz24_0 : w23.cell? ⟨gb286, 0, none⟩ = some (.slice A2_0 l2_0.length c2_0) := (blk_cell BK286.out 0).trans rfl; have hcz24_1 : w23.cell? ⟨gb286, 1, none⟩ = some (.bool a2_1) := (blk_cell BK286.out 1).trans rfl; have hcz24_2 : w23.cell? ⟨gb286, 2, none⟩ = some (.string a2_2) := (blk_cell BK286.out 2).trans rfl; have hfz24_0 := blk_frozen BK286.out 0; have hfz24_1 := blk_frozen BK286.out 1; have hfz24_2 := blk_frozen BK286.out 2) | ((with_reducible refine gate_callee (f := 10) rfl ?_); refine goesL_ (some 21) rfl rfl Tryd.func10 zq17 rfl #[.agg #[.slice A2_0 l2_0.length c2_0, .bool a2_1, .string a2_2], .int .i64 1048576] rfl zq2 ?_; (with_reducible refine (laws_szProof.calls k _ _ l2_0 a2_1 a2_2 1048576 t287 _ ?side1 ?side2 A9.out).mono ?_); (case side1 => repeat (first | exact (Kd.C_below HR2_0.out HB.out) | (with_reducible refine Kd.C_alloc ?_ _) | (with_reducible refine Kd.C_drewN ?_ _) | (with_reducible refine Kd.C_drew ?_))); (case side2 => exact HC2_0.out); rintro e w25 ⟨rfl, hb⟩; refine ⟨_, rfl, ?_⟩; have n0_ := AZ.mk (blk_below (g := gb286) (o := .cells #[.slice A2_0 l2_0.length c2_0, .bool a2_1, .string a2_2] 31 (0, 0)) zq16 hb); have n1_ := AZ.mk (below_step zq18 hb); clear BK286; clear HB; have BK286 := n0_; have HB := n1_; clear n0_ n1_; (try clear hb); (try clear hb2); (try clear hk); (try clear hi); have hcz26_0 : w25.cell? ⟨gb286, 0, none⟩ = some (.slice A2_0 l2_0.length c2_0) := (blk_cell BK286.out 0).trans rfl; have hcz26_1 : w25.cell? ⟨gb286, 1, none⟩ = some (.bool a2_1) := (blk_cell BK286.out 1).trans rfl; have hcz26_2 : w25.cell? ⟨gb286, 2, none⟩ = some (.string a2_2) := (blk_cell BK286.out 2).trans rfl; have hfz26_0 := blk_frozen BK286.out 0; have hfz26_1 := blk_frozen BK286.out 1; have hfz26_2 := blk_frozen BK286.out 2) | ((with_reducible refine gate_callee (f := 12) rfl ?_); refine goesL_ (some 27) rfl rfl Tryd.func12 zq17 rfl #[.agg #[.slice A2_0 l2_0.length c2_0, .bool a2_1, .string a2_2]] rfl zq2 ?_; (with_reducible refine (laws_toProof.calls k _ _ l2_0 a2_1 a2_2 t288 t291 t292 _ ?side1 ?side2 A14.out).mono ?_); (case side1 => repeat (first | exact (Kd.C_below HR2_0.out HB.out) | (with_reducible refine Kd.C_alloc ?_ _) | (with_reducible refine Kd.C_drewN ?_ _) | (with_reducible refine Kd.C_drew ?_))); (case side2 => exact HC2_0.out); rintro e w27 ⟨v289, rfl, ho0, hb⟩; refine ⟨_, rfl, ?_⟩; have n0_ := AZ.mk (Kd.R_lower ho0 (below_size zq18)); have n1_ := AZ.mk (blk_below (g := gb286) (o := .cells #[.slice A2_0 l2_0.length c2_0, .bool a2_1, .string a2_2] 31 (0, 0)) zq16 hb); have n2_ := AZ.mk (below_step zq18 hb); clear BK286; clear HB; have HO290 := n0_; have BK286 := n1_; have HB := n2_; clear n0_ n1_ n2_; (try clear hb); (try clear hb2); (try clear hk); (try clear hi); (try clear ho0); obtain ⟨Ao28, co28, eo28⟩ := Kd.R_slice HO290.out; subst eo28) | ((with_reducible refine gate_callee (f := 11) rfl ?_); refine goesL_ (some 29) rfl rfl Tryd.func11 zq17 rfl #[.string a0, .string a1, .agg #[.slice Ao28 t288.length co28, .bool t291, .string t292], .int .i64 a3] rfl zq2 ?_; (with_reducible refine (spec_Show.calls k a0 a1 _ _ t288 t291 t292 a3 t293 t294 t295 t296 t297 _ ?side1 ?side2 A15.out).mono ?_); (case side1 => repeat (first | exact (Kd.R_reads' HO290.out).2.2 | (with_reducible refine Kd.C_alloc ?_ _) | (with_reducible refine Kd.C_drewN ?_ _) | (with_reducible refine Kd.C_drew ?_))); (case side2 => exact (Kd.R_reads' HO290.out).2.1); rintro e w29 ⟨rfl, hb⟩; refine ⟨_, rfl, ?_⟩; have n0_ := AZ.mk (Kd.R_below zq37 hb); have n1_ := AZ.mk (blk_below (g := gb286) (o := .cells #[.slice A2_0 l2_0.length c2_0, .bool a2_1, .string a2_2] 31 (0, 0)) zq16 hb); have n2_ := AZ.mk (below_step zq18 hb); clear HO290; clear BK286; clear HB; have HO290 := n0_; have BK286 := n1_; have HB := n2_; clear n0_ n1_ n2_; (try clear hb); (try clear hb2); (try clear hk); (try clear hi)) | ((with_reducible refine gate_dst (N := 10) rfl ?_); refine box_event ?hg (N := 10) ?hd (cs := #[.int .i64 0, .bool false, .string (⟨#[]⟩ : ByteArray), .string (⟨#[]⟩ : ByteArray), .bool false]) (t := 36) ?hr ?_; (case hd => rfl); (case hg => rfl); (case hr => first | (go_simp; done) | (go_simp; rfl)); intro gb298 hg w30 hbox hb; have n0_ := AZ.mk (Kd.R_below zq37 hb); have n1_ := AZ.mk (blk_below (g := gb286) (o := .cells #[.slice A2_0 l2_0.length c2_0, .bool a2_1, .string a2_2] 31 (0, 0)) zq16 hb); have n2_ := AZ.mk (below_step zq18 hb); have n3_ := AZ.mk (hbox); have n4_ := AZ.mk ((by rw [hg]; exact (below_size zq18) : w.heap.size ≤ gb298)); have n5_ := AZ.mk ((by rw [hg]; exact (below_size zq18) : w.heap.size ≤ gb298)); have n6_ := AZ.mk ((by rw [hg]; exact Nat.ne_of_lt (blk_lt (g := gb286) (o := .cells #[.slice A2_0 l2_0.length c2_0, .bool a2_1, .string a2_2] 31 (0, 0)) zq16) : gb286 ≠ gb298)); have n7_ := AZ.mk ((by rw [hg]; exact Nat.ne_of_gt (blk_lt (g := gb286) (o := .cells #[.slice A2_0 l2_0.length c2_0, .bool a2_1, .string a2_2] 31 (0, 0)) zq16) : gb298 ≠ gb286)); clear HO290; clear BK286; clear HB; have HO290 := n0_; have BK286 := n1_; have HB := n2_; have BK298 := n3_; have GW298 := n4_; have GE298 := n5_; have NB286_298 := n6_; have NB298_286 := n7_; clear n0_ n1_ n2_ n3_ n4_ n5_ n6_ n7_; clear hb hbox hg; have hnb31 := NB298_286.out; have hnc31 := NB286_298.out; have hcz32_0 : w30.cell? ⟨gb298, 0, none⟩ = some (.int .i64 0) := (blk_cell BK298.out 0).trans rfl; have hcz32_1 : w30.cell? ⟨gb298, 1, none⟩ = some (.bool false) := (blk_cell BK298.out 1).trans rfl; have hcz32_2 : w30.cell? ⟨gb298, 2, none⟩ = some (.string (⟨#[]⟩ : ByteArray)) := (blk_cell BK298.out 2).trans rfl; have hcz32_3 : w30.cell? ⟨gb298, 3, none⟩ = some (.string (⟨#[]⟩ : ByteArray)) := (blk_cell BK298.out 3).trans rfl; have hcz32_4 : w30.cell? ⟨gb298, 4, none⟩ = some (.bool false) := (blk_cell BK298.out 4).trans rfl; have hfz32_0 := blk_frozen BK298.out 0; have hfz32_1 := blk_frozen BK298.out 1; have hfz32_2 := blk_frozen BK298.out 2; have hfz32_3 := blk_frozen BK298.out 3; have hfz32_4 := blk_frozen BK298.out 4; have hcz33_0 : w30.cell? ⟨gb286, 0, none⟩ = some (.slice A2_0 l2_0.length c2_0) := (blk_cell BK286.out 0).trans rfl; have hcz33_1 : w30.cell? ⟨gb286, 1, none⟩ = some (.bool a2_1) := (blk_cell BK286.out 1).trans rfl; have hcz33_2 : w30.cell? ⟨gb286, 2, none⟩ = some (.string a2_2) := (blk_cell BK286.out 2).trans rfl; have hfz33_0 := blk_frozen BK286.out 0; have hfz33_1 := blk_frozen BK286.out 1; have hfz33_2 := blk_frozen BK286.out 2) | ((with_reducible refine gate_callee (f := 12) rfl ?_); refine goesL_ (some 31) rfl rfl Tryd.func12 zq17 rfl #[.agg #[.slice A2_0 l2_0.length c2_0, .bool a2_1, .string a2_2]] rfl zq2 ?_; (with_reducible refine (laws_toProof.calls k _ _ l2_0 a2_1 a2_2 t299 t302 t303 _ ?side1 ?side2 A16.out).mono ?_); (case side1 => exact Kd.C_below HR2_0.out zq19); (case side2 => exact HC2_0.out); rintro e w34 ⟨v300, rfl, ho0, hb⟩; refine ⟨_, rfl, ?_⟩; have n0_ := AZ.mk (Kd.R_elder' zq24 (Kd.R_base ho0) hb); have n1_ := AZ.mk (Kd.R_lower (Kd.R_new' ho0 (Kd.R_lt zq24)) (below_size zq19)); have n2_ := AZ.mk (blk_below (g := gb286) (o := .cells #[.slice A2_0 l2_0.length c2_0, .bool a2_1, .string a2_2] 31 (0, 0)) zq42 hb); have n3_ := AZ.mk (blk_below (g := gb298) (o := .cells #[.int .i64 t293, .bool t294, .string t295, .string t296, .bool t297] 36 (0, 0)) zq28 hb); have n4_ := AZ.mk (below_step zq19 hb); clear HO290; clear BK286; clear BK298; clear HB; have HO290 := n0_; have HO301 := n1_; have BK286 := n2_; have BK298 := n3_; have HB := n4_; clear n0_ n1_ n2_ n3_ n4_; (try clear hb); (try clear hb2); (try clear hk); (try clear hi); (try clear ho0)) | ((with_reducible refine gate_dst (N := 11) rfl ?_); refine box_event ?hg (N := 11) ?hd (cs := #[.slice none 0 0, .bool false, .string (⟨#[]⟩ : ByteArray)]) (t := 38) ?hr ?_; (case hd => rfl); (case hg => rfl); (case hr => first | (go_simp; done) | (go_simp; rfl)); intro gb304 hg w35 hbox hb; have n0_ := AZ.mk (Kd.R_below zq37 hb); have n1_ := AZ.mk (Kd.R_below zq52 hb); have n2_ := AZ.mk (blk_below (g := gb286) (o := .cells #[.slice A2_0 l2_0.length c2_0, .bool a2_1, .string a2_2] 31 (0, 0)) zq16 hb); have n3_ := AZ.mk (blk_below (g := gb298) (o := .cells #[.int .i64 t293, .bool t294, .string t295, .string t296, .bool t297] 36 (0, 0)) zq30 hb); have n4_ := AZ.mk (below_step zq19 hb); have n5_ := AZ.mk (hbox); have n6_ := AZ.mk ((by rw [hg]; exact (below_size zq19) : w.heap.size ≤ gb304)); have n7_ := AZ.mk ((by rw [hg]; exact (below_size zq19) : w.heap.size ≤ gb304)); have n8_ := AZ.mk ((by rw [hg]; exact Nat.ne_of_lt (blk_lt (g := gb286) (o := .cells #[.slice A2_0 l2_0.length c2_0, .bool a2_1, .string a2_2] 31 (0, 0)) zq16) : gb286 ≠ gb304)); have n9_ := AZ.mk ((by rw [hg]; exact Nat.ne_of_gt (blk_lt (g := gb286) (o := .cells #[.slice A2_0 l2_0.length c2_0, .bool a2_1, .string a2_2] 31 (0, 0)) zq16) : gb304 ≠ gb286)); have n10_ := AZ.mk ((by rw [hg]; exact Nat.ne_of_lt (blk_lt (g := gb298) (o := .cells #[.int .i64 t293, .bool t294, .string t295, .string t296, .bool t297] 36 (0, 0)) zq30) : gb298 ≠ gb304)); have n11_ := AZ.mk ((by rw [hg]; exact Nat.ne_of_gt (blk_lt (g := gb298) (o := .cells #[.int .i64 t293, .bool t294, .string t295, .string t296, .bool t297] 36 (0, 0)) zq30) : gb304 ≠ gb298)); clear HO290; clear HO301; clear BK286; clear BK298; clear HB; have HO290 := n0_; have HO301 := n1_; have BK286 := n2_; have BK298 := n3_; have HB := n4_; have BK304 := n5_; have GW304 := n6_; have GE304 := n7_; have NB286_304 := n8_; have NB304_286 := n9_; have NB298_304 := n10_; have NB304_298 := n11_; clear n0_ n1_ n2_ n3_ n4_ n5_ n6_ n7_ n8_ n9_ n10_ n11_; clear hb hbox hg; obtain ⟨Ao36, co36, eo36⟩ := Kd.R_slice HO301.out; subst eo36; have hnb37 := NB304_286.out; have hnc37 := NB286_304.out; have hnb38 := NB304_298.out; have hnc38 := NB298_304.out; have hcz39_0 : w35.cell? ⟨gb304, 0, none⟩ = some (.slice none 0 0) := (blk_cell BK304.out 0).trans rfl; have hcz39_1 : w35.cell? ⟨gb304, 1, none⟩ = some (.bool false) := (blk_cell BK304.out 1).trans rfl; have hcz39_2 : w35.cell? ⟨gb304, 2, none⟩ = some (.string (⟨#[]⟩ : ByteArray)) := (blk_cell BK304.out 2).trans rfl; have hfz39_0 := blk_frozen BK304.out 0; have hfz39_1 := blk_frozen BK304.out 1; have hfz39_2 := blk_frozen BK304.out 2) | ((with_reducible refine gate_callee (f := 13) rfl ?_); refine goesL_ (some 36) rfl rfl Tryd.func13 zq17 rfl #[.string a0, .string a1, .agg #[.slice Ao36 t299.length co36, .bool t302, .string t303], .int .i64 a3] rfl zq2 ?_; (with_reducible refine (impl_Show.calls k a0 a1 _ _ t299 t302 t303 a3 t305 t306 t307 t308 t309 _ ?side1 ?side2 A17.out).mono ?_); (case side1 => refine (Kd.R_reads' (e := 9) (base := w.heap.size) (ok := fun k_ => (True ∧ some k_ ≠ (.slice Ao28 t288.length co28 : Value).ownBlock)) (n := t299.length) (c := co36) ?_).2.2; exact zq102); (case side2 => exact (Kd.R_reads' HO301.out).2.1); rintro e w40 ⟨rfl, hb⟩; refine ⟨_, rfl, ?_⟩; have n0_ := AZ.mk (Kd.R_below (by (with_reducible repeat (first | apply Kd.R_alloc | apply Kd.R_drewN | apply Kd.R_drew)); exact (Kd.R_mono (Kd.R_far (p := ⟨gb304, 2, none⟩) (Kd.R_far (p := ⟨gb304, 1, none⟩) (Kd.R_far (p := ⟨gb304, 0, none⟩) (Kd.R_types HO290.out BK304.out zq118) (fun _ hk => hk.2) (.slice Ao36 t299.length co36)) (fun _ hk => hk.2) (.bool t302)) (fun _ hk => hk.2) (.string t303)) (fun _ h_ => h_.1))) hb); have n1_ := AZ.mk (Kd.R_below zq102 hb); have n2_ := AZ.mk (blk_below (g := gb286) (o := .cells #[.slice A2_0 l2_0.length c2_0, .bool a2_1, .string a2_2] 31 (0, 0)) zq57 hb); have n3_ := AZ.mk (blk_below (g := gb298) (o := .cells #[.int .i64 t293, .bool t294, .string t295, .string t296, .bool t297] 36 (0, 0)) zq56 hb); have n4_ := AZ.mk (blk_below (g := gb304) (o := .cells #[.slice Ao36 t299.length co36, .bool t302, .string t303] 38 (0, 0)) (by (with_reducible repeat (first | refine blk_drewN ?_ _ | refine blk_drew ?_ | refine blk_alloc ?_ _)); refine blk_put (cs := #[.slice Ao36 t299.length co36, .bool t302, .string (⟨#[]⟩ : ByteArray)]) ?_ 2 _ rfl; (with_reducible repeat (first | refine blk_drewN ?_ _ | refine blk_drew ?_ | refine blk_alloc ?_ _)); refine blk_put (cs := #[.slice Ao36 t299.length co36, .bool false, .string (⟨#[]⟩ : ByteArray)]) ?_ 1 _ rfl; (with_reducible repeat (first | refine blk_drewN ?_ _ | refine blk_drew ?_ | refine blk_alloc ?_ _)); refine blk_put (cs := #[.slice none 0 0, .bool false, .string (⟨#[]⟩ : ByteArray)]) ?_ 0 _ rfl; (with_reducible repeat (first | refine blk_drewN ?_ _ | refine blk_drew ?_ | refine blk_alloc ?_ _)); exact BK304.out) hb); have n5_ := AZ.mk (below_step zq29 hb); clear HO290; clear HO301; clear BK286; clear BK298; clear BK304; clear HB; have HO290 := n0_; have HO301 := n1_; have BK286 := n2_; have BK298 := n3_; have BK304 := n4_; have HB := n5_; clear n0_ n1_ n2_ n3_ n4_ n5_; (try clear hb); (try clear hb2); (try clear hk); (try clear hi)) | ((with_reducible refine gate_dst (N := 12) rfl ?_); refine box_event ?hg (N := 12) ?hd (cs := #[.int .i64 0, .bool false, .string (⟨#[]⟩ : ByteArray), .string (⟨#[]⟩ : ByteArray), .bool false]) (t := 36) ?hr ?_; (case hd => rfl); (case hg => rfl); (case hr => first | (go_simp; done) | (go_simp; rfl)); intro gb310 hg w41 hbox hb; have n0_ := AZ.mk (Kd.R_below zq37 hb); have n1_ := AZ.mk (Kd.R_below zq52 hb); have n2_ := AZ.mk (blk_below (g := gb286) (o := .cells #[.slice A2_0 l2_0.length c2_0, .bool a2_1, .string a2_2] 31 (0, 0)) zq16 hb); have n3_ := AZ.mk (blk_below (g := gb298) (o := .cells #[.int .i64 t293, .bool t294, .string t295, .string t296, .bool t297] 36 (0, 0)) zq30 hb); have n4_ := AZ.mk (blk_below (g := gb304) (o := .cells #[.slice Ao36 t299.length co36, .bool t302, .string t303] 38 (0, 0)) zq45 hb); have n5_ := AZ.mk (below_step zq29 hb); have n6_ := AZ.mk (hbox); have n7_ := AZ.mk ((by rw [hg]; exact (below_size zq29) : w.heap.size ≤ gb310)); have n8_ := AZ.mk ((by rw [hg]; exact (below_size zq29) : w.heap.size ≤ gb310)); have n9_ := AZ.mk ((by rw [hg]; exact Nat.ne_of_lt (blk_lt (g := gb286) (o := .cells #[.slice A2_0 l2_0.length c2_0, .bool a2_1, .string a2_2] 31 (0, 0)) zq16) : gb286 ≠ gb310)); have n10_ := AZ.mk ((by rw [hg]; exact Nat.ne_of_gt (blk_lt (g := gb286) (o := .cells #[.slice A2_0 l2_0.length c2_0, .bool a2_1, .string a2_2] 31 (0, 0)) zq16) : gb310 ≠ gb286)); have n11_ := AZ.mk ((by rw [hg]; exact Nat.ne_of_lt (blk_lt (g := gb298) (o := .cells #[.int .i64 t293, .bool t294, .string t295, .string t296, .bool t297] 36 (0, 0)) zq30) : gb298 ≠ gb310)); have n12_ := AZ.mk ((by rw [hg]; exact Nat.ne_of_gt (blk_lt (g := gb298) (o := .cells #[.int .i64 t293, .bool t294, .string t295, .string t296, .bool t297] 36 (0, 0)) zq30) : gb310 ≠ gb298)); have n13_ := AZ.mk ((by rw [hg]; exact Nat.ne_of_lt (blk_lt (g := gb304) (o := .cells #[.slice Ao36 t299.length co36, .bool t302, .string t303] 38 (0, 0)) zq45) : gb304 ≠ gb310)); have n14_ := AZ.mk ((by rw [hg]; exact Nat.ne_of_gt (blk_lt (g := gb304) (o := .cells #[.slice Ao36 t299.length co36, .bool t302, .string t303] 38 (0, 0)) zq45) : gb310 ≠ gb304)); clear HO290; clear HO301; clear BK286; clear BK298; clear BK304; clear HB; have HO290 := n0_; have HO301 := n1_; have BK286 := n2_; have BK298 := n3_; have BK304 := n4_; have HB := n5_; have BK310 := n6_; have GW310 := n7_; have GE310 := n8_; have NB286_310 := n9_; have NB310_286 := n10_; have NB298_310 := n11_; have NB310_298 := n12_; have NB304_310 := n13_; have NB310_304 := n14_; clear n0_ n1_ n2_ n3_ n4_ n5_ n6_ n7_ n8_ n9_ n10_ n11_ n12_ n13_ n14_; clear hb hbox hg; have hnb42 := NB310_286.out; have hnc42 := NB286_310.out; have hnb43 := NB310_298.out; have hnc43 := NB298_310.out; have hnb44 := NB310_304.out; have hnc44 := NB304_310.out; have hcz45_0 : w41.cell? ⟨gb310, 0, none⟩ = some (.int .i64 0) := (blk_cell BK310.out 0).trans rfl; have hcz45_1 : w41.cell? ⟨gb310, 1, none⟩ = some (.bool false) := (blk_cell BK310.out 1).trans rfl; have hcz45_2 : w41.cell? ⟨gb310, 2, none⟩ = some (.string (⟨#[]⟩ : ByteArray)) := (blk_cell BK310.out 2).trans rfl; have hcz45_3 : w41.cell? ⟨gb310, 3, none⟩ = some (.string (⟨#[]⟩ : ByteArray)) := (blk_cell BK310.out 3).trans rfl; have hcz45_4 : w41.cell? ⟨gb310, 4, none⟩ = some (.bool false) := (blk_cell BK310.out 4).trans rfl; have hfz45_0 := blk_frozen BK310.out 0; have hfz45_1 := blk_frozen BK310.out 1; have hfz45_2 := blk_frozen BK310.out 2; have hfz45_3 := blk_frozen BK310.out 3; have hfz45_4 := blk_frozen BK310.out 4; have hcz46_0 : w41.cell? ⟨gb298, 0, none⟩ = some (.int .i64 t293) := (blk_cell BK298.out 0).trans rfl; have hcz46_1 : w41.cell? ⟨gb298, 1, none⟩ = some (.bool t294) := (blk_cell BK298.out 1).trans rfl; have hcz46_2 : w41.cell? ⟨gb298, 2, none⟩ = some (.string t295) := (blk_cell BK298.out 2).trans rfl; have hcz46_3 : w41.cell? ⟨gb298, 3, none⟩ = some (.string t296) := (blk_cell BK298.out 3).trans rfl; have hcz46_4 : w41.cell? ⟨gb298, 4, none⟩ = some (.bool t297) := (blk_cell BK298.out 4).trans rfl; have hfz46_0 := blk_frozen BK298.out 0; have hfz46_1 := blk_frozen BK298.out 1; have hfz46_2 := blk_frozen BK298.out 2; have hfz46_3 := blk_frozen BK298.out 3; have hfz46_4 := blk_frozen BK298.out 4) | ((with_reducible refine gate_callee (f := 14) rfl ?_); refine goesL_ (some 39) rfl rfl Tryd.func14 zq17 rfl #[.agg #[.int .i64 t305, .bool t306, .string t307, .string t308, .bool t309], .agg #[.int .i64 t293, .bool t294, .string t295, .string t296, .bool t297]] rfl zq2 ?_; (with_reducible refine (laws_eqShown.calls t305 t306 t307 t308 t309 t293 t294 t295 t296 t297 true _ A18.out).mono ?_); rintro e w47 ⟨rfl, hb⟩; refine ⟨_, rfl, ?_⟩; have n0_ := AZ.mk (Kd.R_below zq55 hb); have n1_ := AZ.mk (Kd.R_below zq54 hb); have n2_ := AZ.mk (blk_below (g := gb286) (o := .cells #[.slice A2_0 l2_0.length c2_0, .bool a2_1, .string a2_2] 31 (0, 0)) zq41 hb); have n3_ := AZ.mk (blk_below (g := gb298) (o := .cells #[.int .i64 t293, .bool t294, .string t295, .string t296, .bool t297] 36 (0, 0)) zq40 hb); have n4_ := AZ.mk (blk_below (g := gb304) (o := .cells #[.slice Ao36 t299.length co36, .bool t302, .string t303] 38 (0, 0)) zq39 hb); have n5_ := AZ.mk (blk_below (g := gb310) (o := .cells #[.int .i64 t305, .bool t306, .string t307, .string t308, .bool t309] 36 (0, 0)) zq27 hb); have n6_ := AZ.mk (below_step zq21 hb); clear HO290; clear HO301; clear BK286; clear BK298; clear BK304; clear BK310; clear HB; have HO290 := n0_; have HO301 := n1_; have BK286 := n2_; have BK298 := n3_; have BK304 := n4_; have BK310 := n5_; have HB := n6_; clear n0_ n1_ n2_ n3_ n4_ n5_ n6_; (try clear hb); (try clear hb2); (try clear hk); (try clear hi)))
      have n0_ := AZ.mk (Kd.R_drew HO290.out)
      have n1_ := AZ.mk (Kd.R_drew HO301.out)
      have n2_ := AZ.mk (blk_drew BK286.out)
      have n3_ := AZ.mk (blk_drew BK298.out)
      have n4_ := AZ.mk (blk_drew BK304.out)
      have n5_ := AZ.mk (blk_drew BK310.out)
      have n6_ := AZ.mk (below_drew1 HB.out)
      clear HO290
      clear HO301
      clear BK286
      clear BK298
      clear BK304
      clear BK310
      clear HB
      have HO290 := n0_
      have HO301 := n1_
      have BK286 := n2_
      have BK298 := n3_
      have BK304 := n4_
      have BK310 := n5_
      have HB := n6_
      clear n0_ n1_ n2_ n3_ n4_ n5_ n6_
      refine start_ (n := 5) (S := fun w' => w'.cell? ⟨gb304, 0, none⟩ = some (.slice Ao36 t299.length co36) ∧ w'.cell? ⟨gb304, 1, none⟩ = some (.bool t302) ∧ w'.cell? ⟨gb304, 2, none⟩ = some (.string t303) ∧ w'.cell? ⟨gb286, 0, none⟩ = some (.slice A2_0 l2_0.length c2_0) ∧ w'.cell? ⟨gb286, 1, none⟩ = some (.bool a2_1) ∧ w'.cell? ⟨gb286, 2, none⟩ = some (.string a2_2)) (ds := []) #[false, false, false, false, false] zq17 rfl rfl ⟨(blk_cell BK304.out 0).trans rfl, (blk_cell BK304.out 1).trans rfl, (blk_cell BK304.out 2).trans rfl, (blk_cell BK286.out 0).trans rfl, (blk_cell BK286.out 1).trans rfl, (blk_cell BK286.out 2).trans rfl⟩ (fun hH => ?_)
      generalize w47.drew = w48 at HO290 HO301 BK286 BK298 BK304 BK310 HB hH ⊢
      refine take_ (i := 0) (N := some 41) (v := ?_) (a' := ?_) #[true, false, false, false, false] rfl rfl zq17 (fun _ _ _ h => h) (Or.inl ⟨zq105, ?_⟩) hH ?_ ?_
      rotate_left
      ·rintro w' ⟨s0, s1, s2, s3, s4, s5⟩
       go_simp
       with_reducible rfl
      rotate_left
      ·simp only [Act.put, List.setIfInBounds_toArray, List.set_cons_zero, List.set_cons_succ, i64_w, i32_w]
       rfl
      refine take_ (i := 1) (N := some 42) (v := ?_) (a' := ?_) #[true, true, false, false, false] rfl rfl zq17 (fun _ _ _ h => h) (Or.inl ⟨zq105, ?_⟩) hH ?_ ?_
      rotate_left
      ·rintro w' ⟨s0, s1, s2, s3, s4, s5⟩
       go_simp
       with_reducible rfl
      rotate_left
      ·simp only [Act.put, List.setIfInBounds_toArray, List.set_cons_zero, List.set_cons_succ, i64_w, i32_w]
       rfl
      refine one_ (i := 2) (N := some 43) #[true, true, true, false, false] rfl rfl zq17 zq118 (fun K hK => ?_)
      refine goes_ Tryd.func12 zq17 rfl #[.agg #[.slice A2_0 l2_0.length c2_0, .bool a2_1, .string a2_2]] zq105 rfl rfl zq2 ?_
      with_reducible refine (laws_toProof.calls k _ _ l2_0 a2_1 a2_2 t312 t315 t316 _ ?side1 ?side2 A20.out).mono ?_
      (case side1 => repeat (first | exact (Kd.C_below HR2_0.out HB.out) | (with_reducible refine Kd.C_alloc ?_ _) | (with_reducible refine Kd.C_drewN ?_ _) | (with_reducible refine Kd.C_drew ?_)))
      (case side2 => exact HC2_0.out)
      rintro e w49 ⟨v313, rfl, ho0, hb⟩
      refine ⟨_, rfl, ?_⟩
      have n0_ := AZ.mk (Kd.R_elder' zq37 (Kd.R_base ho0) hb)
      have n1_ := AZ.mk (Kd.R_elder' zq52 (Kd.R_base ho0) hb)
      have n2_ := AZ.mk (Kd.R_lower (Kd.R_new' (Kd.R_new' ho0 (Kd.R_lt zq37)) (Kd.R_lt zq52)) (below_size zq21))
      have n3_ := AZ.mk (blk_below (g := gb286) (o := .cells #[.slice A2_0 l2_0.length c2_0, .bool a2_1, .string a2_2] 31 (0, 0)) zq16 hb)
      have n4_ := AZ.mk (blk_below (g := gb298) (o := .cells #[.int .i64 t293, .bool t294, .string t295, .string t296, .bool t297] 36 (0, 0)) zq30 hb)
      have n5_ := AZ.mk (blk_below (g := gb304) (o := .cells #[.slice Ao36 t299.length co36, .bool t302, .string t303] 38 (0, 0)) zq45 hb)
      have n6_ := AZ.mk (blk_below (g := gb310) (o := .cells #[.int .i64 t305, .bool t306, .string t307, .string t308, .bool t309] 36 (0, 0)) zq107 hb)
      have n7_ := AZ.mk (below_step zq21 hb)
      clear HO290
      clear HO301
      clear BK286
      clear BK298
      clear BK304
      clear BK310
      clear HB
      have HO290 := n0_
      have HO301 := n1_
      have HO314 := n2_
      have BK286 := n3_
      have BK298 := n4_
      have BK304 := n5_
      have BK310 := n6_
      have HB := n7_
      clear n0_ n1_ n2_ n3_ n4_ n5_ n6_ n7_
      (try clear hb)
      (try clear hb2)
      (try clear hk)
      (try clear hi)
      (try clear ho0)
      obtain ⟨Ao50, co50, eo50⟩ := Kd.R_slice HO314.out
      (first | subst eo50 | (injection eo50 with f1_ f2_ f3_; have f4_ := f1_.symm; have f5_ := f3_.symm; clear f1_ f2_ f3_; subst f4_; subst f5_))
      refine hK.out _ _ ⟨(blk_cell BK304.out 0).trans rfl, (blk_cell BK304.out 1).trans rfl, (blk_cell BK304.out 2).trans rfl, (blk_cell BK286.out 0).trans rfl, (blk_cell BK286.out 1).trans rfl, (blk_cell BK286.out 2).trans rfl⟩ (fun hH => ?_)
      clear hK K
      refine norm_ (a' := ?_) ?_ ?_
      rotate_left
      ·show Act.put _ (some 43) _ = _
       simp only [Act.put, List.setIfInBounds_toArray, List.set_cons_zero, List.set_cons_succ, i64_w, i32_w]
       rfl
      refine one_ (i := 3) (N := some 44) #[true, true, true, true, false] rfl rfl zq17 zq118 (fun K hK => ?_)
      refine goes_ Tryd.func15 zq17 rfl #[.agg #[.slice Ao36 t299.length co36, .bool t302, .string t303], .agg #[.slice Ao50 t312.length co50, .bool t315, .string t316]] zq105 rfl rfl zq2 ?_
      with_reducible refine (laws_eqProof.calls k _ _ t299 t302 t303 _ _ t312 t315 t316 true _ ?side1 ?side2 ?side3 ?side4 A21.out).mono ?_
      (case side1 => repeat (first | exact (Kd.R_reads' HO301.out).2.2 | (with_reducible refine Kd.C_alloc ?_ _) | (with_reducible refine Kd.C_drewN ?_ _) | (with_reducible refine Kd.C_drew ?_)))
      (case side2 => exact (Kd.R_reads' HO301.out).2.1)
      (case side3 => repeat (first | exact (Kd.R_reads' HO314.out).2.2 | (with_reducible refine Kd.C_alloc ?_ _) | (with_reducible refine Kd.C_drewN ?_ _) | (with_reducible refine Kd.C_drew ?_)))
      (case side4 => exact (Kd.R_reads' HO314.out).2.1)
      rintro e w51 ⟨rfl, hb⟩
      refine ⟨_, rfl, ?_⟩
      have n0_ := AZ.mk (Kd.R_below zq37 hb)
      have n1_ := AZ.mk (Kd.R_below zq52 hb)
      have n2_ := AZ.mk (Kd.R_below (by (with_reducible repeat (first | apply Kd.R_alloc | apply Kd.R_drewN | apply Kd.R_drew)); exact HO314.out) hb)
      have n3_ := AZ.mk (blk_below (g := gb286) (o := .cells #[.slice A2_0 l2_0.length c2_0, .bool a2_1, .string a2_2] 31 (0, 0)) zq16 hb)
      have n4_ := AZ.mk (blk_below (g := gb298) (o := .cells #[.int .i64 t293, .bool t294, .string t295, .string t296, .bool t297] 36 (0, 0)) zq30 hb)
      have n5_ := AZ.mk (blk_below (g := gb304) (o := .cells #[.slice Ao36 t299.length co36, .bool t302, .string t303] 38 (0, 0)) zq45 hb)
      have n6_ := AZ.mk (blk_below (g := gb310) (o := .cells #[.int .i64 t305, .bool t306, .string t307, .string t308, .bool t309] 36 (0, 0)) zq107 hb)
      have n7_ := AZ.mk (below_step zq21 hb)
      clear HO290
      clear HO301
      clear HO314
      clear BK286
      clear BK298
      clear BK304
      clear BK310
      clear HB
      have HO290 := n0_
      have HO301 := n1_
      have HO314 := n2_
      have BK286 := n3_
      have BK298 := n4_
      have BK304 := n5_
      have BK310 := n6_
      have HB := n7_
      clear n0_ n1_ n2_ n3_ n4_ n5_ n6_ n7_
      (try clear hb)
      (try clear hb2)
      (try clear hk)
      (try clear hi)
      refine hK.out _ _ ⟨(blk_cell BK304.out 0).trans rfl, (blk_cell BK304.out 1).trans rfl, (blk_cell BK304.out 2).trans rfl, (blk_cell BK286.out 0).trans rfl, (blk_cell BK286.out 1).trans rfl, (blk_cell BK286.out 2).trans rfl⟩ (fun hH => ?_)
      clear hK K
      refine norm_ (a' := ?_) ?_ ?_
      rotate_left
      ·show Act.put _ (some 44) _ = _
       simp only [Act.put, List.setIfInBounds_toArray, List.set_cons_zero, List.set_cons_succ, i64_w, i32_w]
       rfl
      refine pure_ (i := 4) (N := some 45) (v := ?_) (a' := ?_) #[true, true, true, true, true] rfl rfl zq17 (fun _ _ _ h => h) (Or.inl ⟨zq105, ?_⟩) ?_ ?_
      rotate_left
      ·intro w'
       go_simp
       with_reducible rfl
      rotate_left
      ·simp only [Act.put, List.setIfInBounds_toArray, List.set_cons_zero, List.set_cons_succ, i64_w, i32_w]
       rfl
      refine done_ zq17 ?_
      try go_wp2
      go_ret
      exact ⟨zq7, zq21⟩
     ·replace c22 := Bool.eq_false_iff.mpr c22
      subst c22
      rw [if_neg (show ¬ (false = true) by decide)] at H
      obtain rfl := Option.some.inj H
      go_enter Tryd.func5, Tryd.ntmps5
      try go_wp2_with (first | ((with_reducible refine gate_dst (N := 6) rfl ?_); refine box_event ?hg (N := 6) ?hd (cs := #[.slice A2_0 l2_0.length c2_0, .bool a2_1, .string a2_2]) (t := 31) ?hr ?_; (case hd => rfl); (case hg => rfl); (case hr => first | (go_simp; done) | (go_simp; rfl)); intro gb286 hg w52 hbox hb; have n0_ := AZ.mk (below_step zq0 hb); have n1_ := AZ.mk (hbox); have n2_ := AZ.mk ((by rw [hg]; exact (below_size zq0) : w.heap.size ≤ gb286)); have n3_ := AZ.mk ((by rw [hg]; exact (below_size zq0) : w.heap.size ≤ gb286)); clear HB; have HB := n0_; have BK286 := n1_; have GW286 := n2_; have GE286 := n3_; clear n0_ n1_ n2_ n3_; clear hb hbox hg; have hcz53_0 : w52.cell? ⟨gb286, 0, none⟩ = some (.slice A2_0 l2_0.length c2_0) := (blk_cell BK286.out 0).trans rfl; have hcz53_1 : w52.cell? ⟨gb286, 1, none⟩ = some (.bool a2_1) := (blk_cell BK286.out 1).trans rfl; have hcz53_2 : w52.cell? ⟨gb286, 2, none⟩ = some (.string a2_2) := (blk_cell BK286.out 2).trans rfl; have hfz53_0 := blk_frozen BK286.out 0; have hfz53_1 := blk_frozen BK286.out 1; have hfz53_2 := blk_frozen BK286.out 2) | ((with_reducible refine gate_callee (f := 10) rfl ?_); refine goesL_ (some 21) rfl rfl Tryd.func10 zq17 rfl #[.agg #[.slice A2_0 l2_0.length c2_0, .bool a2_1, .string a2_2], .int .i64 1048576] rfl zq2 ?_; (with_reducible refine (laws_szProof.calls k _ _ l2_0 a2_1 a2_2 1048576 t287 _ ?side1 ?side2 A9.out).mono ?_); (case side1 => repeat (first | exact (Kd.C_below HR2_0.out HB.out) | (with_reducible refine Kd.C_alloc ?_ _) | (with_reducible refine Kd.C_drewN ?_ _) | (with_reducible refine Kd.C_drew ?_))); (case side2 => exact HC2_0.out); rintro e w54 ⟨rfl, hb⟩; refine ⟨_, rfl, ?_⟩; have n0_ := AZ.mk (blk_below (g := gb286) (o := .cells #[.slice A2_0 l2_0.length c2_0, .bool a2_1, .string a2_2] 31 (0, 0)) zq16 hb); have n1_ := AZ.mk (below_step zq18 hb); clear BK286; clear HB; have BK286 := n0_; have HB := n1_; clear n0_ n1_; (try clear hb); (try clear hb2); (try clear hk); (try clear hi); have hcz55_0 : w54.cell? ⟨gb286, 0, none⟩ = some (.slice A2_0 l2_0.length c2_0) := (blk_cell BK286.out 0).trans rfl; have hcz55_1 : w54.cell? ⟨gb286, 1, none⟩ = some (.bool a2_1) := (blk_cell BK286.out 1).trans rfl; have hcz55_2 : w54.cell? ⟨gb286, 2, none⟩ = some (.string a2_2) := (blk_cell BK286.out 2).trans rfl; have hfz55_0 := blk_frozen BK286.out 0; have hfz55_1 := blk_frozen BK286.out 1; have hfz55_2 := blk_frozen BK286.out 2) | ((with_reducible refine gate_callee (f := 12) rfl ?_); refine goesL_ (some 27) rfl rfl Tryd.func12 zq17 rfl #[.agg #[.slice A2_0 l2_0.length c2_0, .bool a2_1, .string a2_2]] rfl zq2 ?_; (with_reducible refine (laws_toProof.calls k _ _ l2_0 a2_1 a2_2 t288 t291 t292 _ ?side1 ?side2 A14.out).mono ?_); (case side1 => repeat (first | exact (Kd.C_below HR2_0.out HB.out) | (with_reducible refine Kd.C_alloc ?_ _) | (with_reducible refine Kd.C_drewN ?_ _) | (with_reducible refine Kd.C_drew ?_))); (case side2 => exact HC2_0.out); rintro e w56 ⟨v289, rfl, ho0, hb⟩; refine ⟨_, rfl, ?_⟩; have n0_ := AZ.mk (Kd.R_lower ho0 (below_size zq18)); have n1_ := AZ.mk (blk_below (g := gb286) (o := .cells #[.slice A2_0 l2_0.length c2_0, .bool a2_1, .string a2_2] 31 (0, 0)) zq16 hb); have n2_ := AZ.mk (below_step zq18 hb); clear BK286; clear HB; have HO290 := n0_; have BK286 := n1_; have HB := n2_; clear n0_ n1_ n2_; (try clear hb); (try clear hb2); (try clear hk); (try clear hi); (try clear ho0); obtain ⟨Ao57, co57, eo57⟩ := Kd.R_slice HO290.out; subst eo57) | ((with_reducible refine gate_callee (f := 11) rfl ?_); refine goesL_ (some 29) rfl rfl Tryd.func11 zq17 rfl #[.string a0, .string a1, .agg #[.slice Ao57 t288.length co57, .bool t291, .string t292], .int .i64 a3] rfl zq2 ?_; (with_reducible refine (spec_Show.calls k a0 a1 _ _ t288 t291 t292 a3 t293 t294 t295 t296 t297 _ ?side1 ?side2 A15.out).mono ?_); (case side1 => repeat (first | exact (Kd.R_reads' HO290.out).2.2 | (with_reducible refine Kd.C_alloc ?_ _) | (with_reducible refine Kd.C_drewN ?_ _) | (with_reducible refine Kd.C_drew ?_))); (case side2 => exact (Kd.R_reads' HO290.out).2.1); rintro e w58 ⟨rfl, hb⟩; refine ⟨_, rfl, ?_⟩; have n0_ := AZ.mk (Kd.R_below zq37 hb); have n1_ := AZ.mk (blk_below (g := gb286) (o := .cells #[.slice A2_0 l2_0.length c2_0, .bool a2_1, .string a2_2] 31 (0, 0)) zq16 hb); have n2_ := AZ.mk (below_step zq18 hb); clear HO290; clear BK286; clear HB; have HO290 := n0_; have BK286 := n1_; have HB := n2_; clear n0_ n1_ n2_; (try clear hb); (try clear hb2); (try clear hk); (try clear hi)) | ((with_reducible refine gate_dst (N := 10) rfl ?_); refine box_event ?hg (N := 10) ?hd (cs := #[.int .i64 0, .bool false, .string (⟨#[]⟩ : ByteArray), .string (⟨#[]⟩ : ByteArray), .bool false]) (t := 36) ?hr ?_; (case hd => rfl); (case hg => rfl); (case hr => first | (go_simp; done) | (go_simp; rfl)); intro gb298 hg w59 hbox hb; have n0_ := AZ.mk (Kd.R_below zq37 hb); have n1_ := AZ.mk (blk_below (g := gb286) (o := .cells #[.slice A2_0 l2_0.length c2_0, .bool a2_1, .string a2_2] 31 (0, 0)) zq16 hb); have n2_ := AZ.mk (below_step zq18 hb); have n3_ := AZ.mk (hbox); have n4_ := AZ.mk ((by rw [hg]; exact (below_size zq18) : w.heap.size ≤ gb298)); have n5_ := AZ.mk ((by rw [hg]; exact (below_size zq18) : w.heap.size ≤ gb298)); have n6_ := AZ.mk ((by rw [hg]; exact Nat.ne_of_lt (blk_lt (g := gb286) (o := .cells #[.slice A2_0 l2_0.length c2_0, .bool a2_1, .string a2_2] 31 (0, 0)) zq16) : gb286 ≠ gb298)); have n7_ := AZ.mk ((by rw [hg]; exact Nat.ne_of_gt (blk_lt (g := gb286) (o := .cells #[.slice A2_0 l2_0.length c2_0, .bool a2_1, .string a2_2] 31 (0, 0)) zq16) : gb298 ≠ gb286)); clear HO290; clear BK286; clear HB; have HO290 := n0_; have BK286 := n1_; have HB := n2_; have BK298 := n3_; have GW298 := n4_; have GE298 := n5_; have NB286_298 := n6_; have NB298_286 := n7_; clear n0_ n1_ n2_ n3_ n4_ n5_ n6_ n7_; clear hb hbox hg; have hnb60 := NB298_286.out; have hnc60 := NB286_298.out; have hcz61_0 : w59.cell? ⟨gb298, 0, none⟩ = some (.int .i64 0) := (blk_cell BK298.out 0).trans rfl; have hcz61_1 : w59.cell? ⟨gb298, 1, none⟩ = some (.bool false) := (blk_cell BK298.out 1).trans rfl; have hcz61_2 : w59.cell? ⟨gb298, 2, none⟩ = some (.string (⟨#[]⟩ : ByteArray)) := (blk_cell BK298.out 2).trans rfl; have hcz61_3 : w59.cell? ⟨gb298, 3, none⟩ = some (.string (⟨#[]⟩ : ByteArray)) := (blk_cell BK298.out 3).trans rfl; have hcz61_4 : w59.cell? ⟨gb298, 4, none⟩ = some (.bool false) := (blk_cell BK298.out 4).trans rfl; have hfz61_0 := blk_frozen BK298.out 0; have hfz61_1 := blk_frozen BK298.out 1; have hfz61_2 := blk_frozen BK298.out 2; have hfz61_3 := blk_frozen BK298.out 3; have hfz61_4 := blk_frozen BK298.out 4; have hcz62_0 : w59.cell? ⟨gb286, 0, none⟩ = some (.slice A2_0 l2_0.length c2_0) := (blk_cell BK286.out 0).trans rfl; have hcz62_1 : w59.cell? ⟨gb286, 1, none⟩ = some (.bool a2_1) := (blk_cell BK286.out 1).trans rfl; have hcz62_2 : w59.cell? ⟨gb286, 2, none⟩ = some (.string a2_2) := (blk_cell BK286.out 2).trans rfl; have hfz62_0 := blk_frozen BK286.out 0; have hfz62_1 := blk_frozen BK286.out 1; have hfz62_2 := blk_frozen BK286.out 2) | ((with_reducible refine gate_callee (f := 12) rfl ?_); refine goesL_ (some 31) rfl rfl Tryd.func12 zq17 rfl #[.agg #[.slice A2_0 l2_0.length c2_0, .bool a2_1, .string a2_2]] rfl zq2 ?_; (with_reducible refine (laws_toProof.calls k _ _ l2_0 a2_1 a2_2 t299 t302 t303 _ ?side1 ?side2 A16.out).mono ?_); (case side1 => exact Kd.C_below HR2_0.out zq19); (case side2 => exact HC2_0.out); rintro e w63 ⟨v300, rfl, ho0, hb⟩; refine ⟨_, rfl, ?_⟩; have n0_ := AZ.mk (Kd.R_elder' zq24 (Kd.R_base ho0) hb); have n1_ := AZ.mk (Kd.R_lower (Kd.R_new' ho0 (Kd.R_lt zq24)) (below_size zq19)); have n2_ := AZ.mk (blk_below (g := gb286) (o := .cells #[.slice A2_0 l2_0.length c2_0, .bool a2_1, .string a2_2] 31 (0, 0)) zq42 hb); have n3_ := AZ.mk (blk_below (g := gb298) (o := .cells #[.int .i64 t293, .bool t294, .string t295, .string t296, .bool t297] 36 (0, 0)) zq28 hb); have n4_ := AZ.mk (below_step zq19 hb); clear HO290; clear BK286; clear BK298; clear HB; have HO290 := n0_; have HO301 := n1_; have BK286 := n2_; have BK298 := n3_; have HB := n4_; clear n0_ n1_ n2_ n3_ n4_; (try clear hb); (try clear hb2); (try clear hk); (try clear hi); (try clear ho0)) | ((with_reducible refine gate_dst (N := 11) rfl ?_); refine box_event ?hg (N := 11) ?hd (cs := #[.slice none 0 0, .bool false, .string (⟨#[]⟩ : ByteArray)]) (t := 38) ?hr ?_; (case hd => rfl); (case hg => rfl); (case hr => first | (go_simp; done) | (go_simp; rfl)); intro gb304 hg w64 hbox hb; have n0_ := AZ.mk (Kd.R_below zq37 hb); have n1_ := AZ.mk (Kd.R_below zq52 hb); have n2_ := AZ.mk (blk_below (g := gb286) (o := .cells #[.slice A2_0 l2_0.length c2_0, .bool a2_1, .string a2_2] 31 (0, 0)) zq16 hb); have n3_ := AZ.mk (blk_below (g := gb298) (o := .cells #[.int .i64 t293, .bool t294, .string t295, .string t296, .bool t297] 36 (0, 0)) zq30 hb); have n4_ := AZ.mk (below_step zq19 hb); have n5_ := AZ.mk (hbox); have n6_ := AZ.mk ((by rw [hg]; exact (below_size zq19) : w.heap.size ≤ gb304)); have n7_ := AZ.mk ((by rw [hg]; exact (below_size zq19) : w.heap.size ≤ gb304)); have n8_ := AZ.mk ((by rw [hg]; exact Nat.ne_of_lt (blk_lt (g := gb286) (o := .cells #[.slice A2_0 l2_0.length c2_0, .bool a2_1, .string a2_2] 31 (0, 0)) zq16) : gb286 ≠ gb304)); have n9_ := AZ.mk ((by rw [hg]; exact Nat.ne_of_gt (blk_lt (g := gb286) (o := .cells #[.slice A2_0 l2_0.length c2_0, .bool a2_1, .string a2_2] 31 (0, 0)) zq16) : gb304 ≠ gb286)); have n10_ := AZ.mk ((by rw [hg]; exact Nat.ne_of_lt (blk_lt (g := gb298) (o := .cells #[.int .i64 t293, .bool t294, .string t295, .string t296, .bool t297] 36 (0, 0)) zq30) : gb298 ≠ gb304)); have n11_ := AZ.mk ((by rw [hg]; exact Nat.ne_of_gt (blk_lt (g := gb298) (o := .cells #[.int .i64 t293, .bool t294, .string t295, .string t296, .bool t297] 36 (0, 0)) zq30) : gb304 ≠ gb298)); clear HO290; clear HO301; clear BK286; clear BK298; clear HB; have HO290 := n0_; have HO301 := n1_; have BK286 := n2_; have BK298 := n3_; have HB := n4_; have BK304 := n5_; have GW304 := n6_; have GE304 := n7_; have NB286_304 := n8_; have NB304_286 := n9_; have NB298_304 := n10_; have NB304_298 := n11_; clear n0_ n1_ n2_ n3_ n4_ n5_ n6_ n7_ n8_ n9_ n10_ n11_; clear hb hbox hg; obtain ⟨Ao65, co65, eo65⟩ := Kd.R_slice HO301.out; subst eo65; have hnb66 := NB304_286.out; have hnc66 := NB286_304.out; have hnb67 := NB304_298.out; have hnc67 := NB298_304.out; have hcz68_0 : w64.cell? ⟨gb304, 0, none⟩ = some (.slice none 0 0) := (blk_cell BK304.out 0).trans rfl; have hcz68_1 : w64.cell? ⟨gb304, 1, none⟩ = some (.bool false) := (blk_cell BK304.out 1).trans rfl; have hcz68_2 : w64.cell? ⟨gb304, 2, none⟩ = some (.string (⟨#[]⟩ : ByteArray)) := (blk_cell BK304.out 2).trans rfl; have hfz68_0 := blk_frozen BK304.out 0; have hfz68_1 := blk_frozen BK304.out 1; have hfz68_2 := blk_frozen BK304.out 2) | ((with_reducible refine gate_callee (f := 13) rfl ?_); refine goesL_ (some 36) rfl rfl Tryd.func13 zq17 rfl #[.string a0, .string a1, .agg #[.slice Ao65 t299.length co65, .bool t302, .string t303], .int .i64 a3] rfl zq2 ?_; (with_reducible refine (impl_Show.calls k a0 a1 _ _ t299 t302 t303 a3 t305 t306 t307 t308 t309 _ ?side1 ?side2 A17.out).mono ?_); (case side1 => refine (Kd.R_reads' (e := 9) (base := w.heap.size) (ok := fun k_ => (True ∧ some k_ ≠ (.slice Ao57 t288.length co57 : Value).ownBlock)) (n := t299.length) (c := co65) ?_).2.2; exact zq101); (case side2 => exact (Kd.R_reads' HO301.out).2.1); rintro e w69 ⟨rfl, hb⟩; refine ⟨_, rfl, ?_⟩; have n0_ := AZ.mk (Kd.R_below (by (with_reducible repeat (first | apply Kd.R_alloc | apply Kd.R_drewN | apply Kd.R_drew)); exact (Kd.R_mono (Kd.R_far (p := ⟨gb304, 2, none⟩) (Kd.R_far (p := ⟨gb304, 1, none⟩) (Kd.R_far (p := ⟨gb304, 0, none⟩) (Kd.R_types HO290.out BK304.out zq118) (fun _ hk => hk.2) (.slice Ao65 t299.length co65)) (fun _ hk => hk.2) (.bool t302)) (fun _ hk => hk.2) (.string t303)) (fun _ h_ => h_.1))) hb); have n1_ := AZ.mk (Kd.R_below zq101 hb); have n2_ := AZ.mk (blk_below (g := gb286) (o := .cells #[.slice A2_0 l2_0.length c2_0, .bool a2_1, .string a2_2] 31 (0, 0)) zq57 hb); have n3_ := AZ.mk (blk_below (g := gb298) (o := .cells #[.int .i64 t293, .bool t294, .string t295, .string t296, .bool t297] 36 (0, 0)) zq56 hb); have n4_ := AZ.mk (blk_below (g := gb304) (o := .cells #[.slice Ao65 t299.length co65, .bool t302, .string t303] 38 (0, 0)) (by (with_reducible repeat (first | refine blk_drewN ?_ _ | refine blk_drew ?_ | refine blk_alloc ?_ _)); refine blk_put (cs := #[.slice Ao65 t299.length co65, .bool t302, .string (⟨#[]⟩ : ByteArray)]) ?_ 2 _ rfl; (with_reducible repeat (first | refine blk_drewN ?_ _ | refine blk_drew ?_ | refine blk_alloc ?_ _)); refine blk_put (cs := #[.slice Ao65 t299.length co65, .bool false, .string (⟨#[]⟩ : ByteArray)]) ?_ 1 _ rfl; (with_reducible repeat (first | refine blk_drewN ?_ _ | refine blk_drew ?_ | refine blk_alloc ?_ _)); refine blk_put (cs := #[.slice none 0 0, .bool false, .string (⟨#[]⟩ : ByteArray)]) ?_ 0 _ rfl; (with_reducible repeat (first | refine blk_drewN ?_ _ | refine blk_drew ?_ | refine blk_alloc ?_ _)); exact BK304.out) hb); have n5_ := AZ.mk (below_step zq29 hb); clear HO290; clear HO301; clear BK286; clear BK298; clear BK304; clear HB; have HO290 := n0_; have HO301 := n1_; have BK286 := n2_; have BK298 := n3_; have BK304 := n4_; have HB := n5_; clear n0_ n1_ n2_ n3_ n4_ n5_; (try clear hb); (try clear hb2); (try clear hk); (try clear hi)) | ((with_reducible refine gate_dst (N := 12) rfl ?_); refine box_event ?hg (N := 12) ?hd (cs := #[.int .i64 0, .bool false, .string (⟨#[]⟩ : ByteArray), .string (⟨#[]⟩ : ByteArray), .bool false]) (t := 36) ?hr ?_; (case hd => rfl); (case hg => rfl); (case hr => first | (go_simp; done) | (go_simp; rfl)); intro gb310 hg w70 hbox hb; have n0_ := AZ.mk (Kd.R_below zq37 hb); have n1_ := AZ.mk (Kd.R_below zq52 hb); have n2_ := AZ.mk (blk_below (g := gb286) (o := .cells #[.slice A2_0 l2_0.length c2_0, .bool a2_1, .string a2_2] 31 (0, 0)) zq16 hb); have n3_ := AZ.mk (blk_below (g := gb298) (o := .cells #[.int .i64 t293, .bool t294, .string t295, .string t296, .bool t297] 36 (0, 0)) zq30 hb); have n4_ := AZ.mk (blk_below (g := gb304) (o := .cells #[.slice Ao65 t299.length co65, .bool t302, .string t303] 38 (0, 0)) zq45 hb); have n5_ := AZ.mk (below_step zq29 hb); have n6_ := AZ.mk (hbox); have n7_ := AZ.mk ((by rw [hg]; exact (below_size zq29) : w.heap.size ≤ gb310)); have n8_ := AZ.mk ((by rw [hg]; exact (below_size zq29) : w.heap.size ≤ gb310)); have n9_ := AZ.mk ((by rw [hg]; exact Nat.ne_of_lt (blk_lt (g := gb286) (o := .cells #[.slice A2_0 l2_0.length c2_0, .bool a2_1, .string a2_2] 31 (0, 0)) zq16) : gb286 ≠ gb310)); have n10_ := AZ.mk ((by rw [hg]; exact Nat.ne_of_gt (blk_lt (g := gb286) (o := .cells #[.slice A2_0 l2_0.length c2_0, .bool a2_1, .string a2_2] 31 (0, 0)) zq16) : gb310 ≠ gb286)); have n11_ := AZ.mk ((by rw [hg]; exact Nat.ne_of_lt (blk_lt (g := gb298) (o := .cells #[.int .i64 t293, .bool t294, .string t295, .string t296, .bool t297] 36 (0, 0)) zq30) : gb298 ≠ gb310)); have n12_ := AZ.mk ((by rw [hg]; exact Nat.ne_of_gt (blk_lt (g := gb298) (o := .cells #[.int .i64 t293, .bool t294, .string t295, .string t296, .bool t297] 36 (0, 0)) zq30) : gb310 ≠ gb298)); have n13_ := AZ.mk ((by rw [hg]; exact Nat.ne_of_lt (blk_lt (g := gb304) (o := .cells #[.slice Ao65 t299.length co65, .bool t302, .string t303] 38 (0, 0)) zq45) : gb304 ≠ gb310)); have n14_ := AZ.mk ((by rw [hg]; exact Nat.ne_of_gt (blk_lt (g := gb304) (o := .cells #[.slice Ao65 t299.length co65, .bool t302, .string t303] 38 (0, 0)) zq45) : gb310 ≠ gb304)); clear HO290; clear HO301; clear BK286; clear BK298; clear BK304; clear HB; have HO290 := n0_; have HO301 := n1_; have BK286 := n2_; have BK298 := n3_; have BK304 := n4_; have HB := n5_; have BK310 := n6_; have GW310 := n7_; have GE310 := n8_; have NB286_310 := n9_; have NB310_286 := n10_; have NB298_310 := n11_; have NB310_298 := n12_; have NB304_310 := n13_; have NB310_304 := n14_; clear n0_ n1_ n2_ n3_ n4_ n5_ n6_ n7_ n8_ n9_ n10_ n11_ n12_ n13_ n14_; clear hb hbox hg; have hnb71 := NB310_286.out; have hnc71 := NB286_310.out; have hnb72 := NB310_298.out; have hnc72 := NB298_310.out; have hnb73 := NB310_304.out; have hnc73 := NB304_310.out; have hcz74_0 : w70.cell? ⟨gb310, 0, none⟩ = some (.int .i64 0) := (blk_cell BK310.out 0).trans rfl; have hcz74_1 : w70.cell? ⟨gb310, 1, none⟩ = some (.bool false) := (blk_cell BK310.out 1).trans rfl; have hcz74_2 : w70.cell? ⟨gb310, 2, none⟩ = some (.string (⟨#[]⟩ : ByteArray)) := (blk_cell BK310.out 2).trans rfl; have hcz74_3 : w70.cell? ⟨gb310, 3, none⟩ = some (.string (⟨#[]⟩ : ByteArray)) := (blk_cell BK310.out 3).trans rfl; have hcz74_4 : w70.cell? ⟨gb310, 4, none⟩ = some (.bool false) := (blk_cell BK310.out 4).trans rfl; have hfz74_0 := blk_frozen BK310.out 0; have hfz74_1 := blk_frozen BK310.out 1; have hfz74_2 := blk_frozen BK310.out 2; have hfz74_3 := blk_frozen BK310.out 3; have hfz74_4 := blk_frozen BK310.out 4; have hcz75_0 : w70.cell? ⟨gb298, 0, none⟩ = some (.int .i64 t293) := (blk_cell BK298.out 0).trans rfl; have hcz75_1 : w70.cell? ⟨gb298, 1, none⟩ = some (.bool t294) := (blk_cell BK298.out 1).trans rfl; have hcz75_2 : w70.cell? ⟨gb298, 2, none⟩ = some (.string t295) := (blk_cell BK298.out 2).trans rfl; have hcz75_3 : w70.cell? ⟨gb298, 3, none⟩ = some (.string t296) := (blk_cell BK298.out 3).trans rfl; have hcz75_4 : w70.cell? ⟨gb298, 4, none⟩ = some (.bool t297) := (blk_cell BK298.out 4).trans rfl; have hfz75_0 := blk_frozen BK298.out 0; have hfz75_1 := blk_frozen BK298.out 1; have hfz75_2 := blk_frozen BK298.out 2; have hfz75_3 := blk_frozen BK298.out 3; have hfz75_4 := blk_frozen BK298.out 4) | ((with_reducible refine gate_callee (f := 14) rfl ?_); refine goesL_ (some 39) rfl rfl Tryd.func14 zq17 rfl #[.agg #[.int .i64 t305, .bool t306, .string t307, .string t308, .bool t309], .agg #[.int .i64 t293, .bool t294, .string t295, .string t296, .bool t297]] rfl zq2 ?_; (with_reducible refine (laws_eqShown.calls t305 t306 t307 t308 t309 t293 t294 t295 t296 t297 true _ A18.out).mono ?_); rintro e w76 ⟨rfl, hb⟩; refine ⟨_, rfl, ?_⟩; have n0_ := AZ.mk (Kd.R_below zq55 hb); have n1_ := AZ.mk (Kd.R_below zq54 hb); have n2_ := AZ.mk (blk_below (g := gb286) (o := .cells #[.slice A2_0 l2_0.length c2_0, .bool a2_1, .string a2_2] 31 (0, 0)) zq41 hb); have n3_ := AZ.mk (blk_below (g := gb298) (o := .cells #[.int .i64 t293, .bool t294, .string t295, .string t296, .bool t297] 36 (0, 0)) zq40 hb); have n4_ := AZ.mk (blk_below (g := gb304) (o := .cells #[.slice Ao65 t299.length co65, .bool t302, .string t303] 38 (0, 0)) zq39 hb); have n5_ := AZ.mk (blk_below (g := gb310) (o := .cells #[.int .i64 t305, .bool t306, .string t307, .string t308, .bool t309] 36 (0, 0)) zq27 hb); have n6_ := AZ.mk (below_step zq21 hb); clear HO290; clear HO301; clear BK286; clear BK298; clear BK304; clear BK310; clear HB; have HO290 := n0_; have HO301 := n1_; have BK286 := n2_; have BK298 := n3_; have BK304 := n4_; have BK310 := n5_; have HB := n6_; clear n0_ n1_ n2_ n3_ n4_ n5_ n6_; (try clear hb); (try clear hb2); (try clear hk); (try clear hi)))
      have n0_ := AZ.mk (Kd.R_drew HO290.out)
      have n1_ := AZ.mk (Kd.R_drew HO301.out)
      have n2_ := AZ.mk (blk_drew BK286.out)
      have n3_ := AZ.mk (blk_drew BK298.out)
      have n4_ := AZ.mk (blk_drew BK304.out)
      have n5_ := AZ.mk (blk_drew BK310.out)
      have n6_ := AZ.mk (below_drew1 HB.out)
      clear HO290
      clear HO301
      clear BK286
      clear BK298
      clear BK304
      clear BK310
      clear HB
      have HO290 := n0_
      have HO301 := n1_
      have BK286 := n2_
      have BK298 := n3_
      have BK304 := n4_
      have BK310 := n5_
      have HB := n6_
      clear n0_ n1_ n2_ n3_ n4_ n5_ n6_
      refine start_ (n := 5) (S := fun w' => w'.cell? ⟨gb304, 0, none⟩ = some (.slice Ao65 t299.length co65) ∧ w'.cell? ⟨gb304, 1, none⟩ = some (.bool t302) ∧ w'.cell? ⟨gb304, 2, none⟩ = some (.string t303) ∧ w'.cell? ⟨gb286, 0, none⟩ = some (.slice A2_0 l2_0.length c2_0) ∧ w'.cell? ⟨gb286, 1, none⟩ = some (.bool a2_1) ∧ w'.cell? ⟨gb286, 2, none⟩ = some (.string a2_2)) (ds := []) #[false, false, false, false, false] zq17 rfl rfl ⟨(blk_cell BK304.out 0).trans rfl, (blk_cell BK304.out 1).trans rfl, (blk_cell BK304.out 2).trans rfl, (blk_cell BK286.out 0).trans rfl, (blk_cell BK286.out 1).trans rfl, (blk_cell BK286.out 2).trans rfl⟩ (fun hH => ?_)
      generalize w76.drew = w77 at HO290 HO301 BK286 BK298 BK304 BK310 HB hH ⊢
      refine take_ (i := 0) (N := some 41) (v := ?_) (a' := ?_) #[true, false, false, false, false] rfl rfl zq17 (fun _ _ _ h => h) (Or.inl ⟨zq105, ?_⟩) hH ?_ ?_
      rotate_left
      ·rintro w' ⟨s0, s1, s2, s3, s4, s5⟩
       go_simp
       with_reducible rfl
      rotate_left
      ·simp only [Act.put, List.setIfInBounds_toArray, List.set_cons_zero, List.set_cons_succ, i64_w, i32_w]
       rfl
      refine take_ (i := 1) (N := some 42) (v := ?_) (a' := ?_) #[true, true, false, false, false] rfl rfl zq17 (fun _ _ _ h => h) (Or.inl ⟨zq105, ?_⟩) hH ?_ ?_
      rotate_left
      ·rintro w' ⟨s0, s1, s2, s3, s4, s5⟩
       go_simp
       with_reducible rfl
      rotate_left
      ·simp only [Act.put, List.setIfInBounds_toArray, List.set_cons_zero, List.set_cons_succ, i64_w, i32_w]
       rfl
      refine one_ (i := 2) (N := some 43) #[true, true, true, false, false] rfl rfl zq17 zq118 (fun K hK => ?_)
      refine goes_ Tryd.func12 zq17 rfl #[.agg #[.slice A2_0 l2_0.length c2_0, .bool a2_1, .string a2_2]] zq105 rfl rfl zq2 ?_
      with_reducible refine (laws_toProof.calls k _ _ l2_0 a2_1 a2_2 t312 t315 t316 _ ?side1 ?side2 A20.out).mono ?_
      (case side1 => repeat (first | exact (Kd.C_below HR2_0.out HB.out) | (with_reducible refine Kd.C_alloc ?_ _) | (with_reducible refine Kd.C_drewN ?_ _) | (with_reducible refine Kd.C_drew ?_)))
      (case side2 => exact HC2_0.out)
      rintro e w78 ⟨v313, rfl, ho0, hb⟩
      refine ⟨_, rfl, ?_⟩
      have n0_ := AZ.mk (Kd.R_elder' zq37 (Kd.R_base ho0) hb)
      have n1_ := AZ.mk (Kd.R_elder' zq52 (Kd.R_base ho0) hb)
      have n2_ := AZ.mk (Kd.R_lower (Kd.R_new' (Kd.R_new' ho0 (Kd.R_lt zq37)) (Kd.R_lt zq52)) (below_size zq21))
      have n3_ := AZ.mk (blk_below (g := gb286) (o := .cells #[.slice A2_0 l2_0.length c2_0, .bool a2_1, .string a2_2] 31 (0, 0)) zq16 hb)
      have n4_ := AZ.mk (blk_below (g := gb298) (o := .cells #[.int .i64 t293, .bool t294, .string t295, .string t296, .bool t297] 36 (0, 0)) zq30 hb)
      have n5_ := AZ.mk (blk_below (g := gb304) (o := .cells #[.slice Ao65 t299.length co65, .bool t302, .string t303] 38 (0, 0)) zq45 hb)
      have n6_ := AZ.mk (blk_below (g := gb310) (o := .cells #[.int .i64 t305, .bool t306, .string t307, .string t308, .bool t309] 36 (0, 0)) zq107 hb)
      have n7_ := AZ.mk (below_step zq21 hb)
      clear HO290
      clear HO301
      clear BK286
      clear BK298
      clear BK304
      clear BK310
      clear HB
      have HO290 := n0_
      have HO301 := n1_
      have HO314 := n2_
      have BK286 := n3_
      have BK298 := n4_
      have BK304 := n5_
      have BK310 := n6_
      have HB := n7_
      clear n0_ n1_ n2_ n3_ n4_ n5_ n6_ n7_
      (try clear hb)
      (try clear hb2)
      (try clear hk)
      (try clear hi)
      (try clear ho0)
      obtain ⟨Ao79, co79, eo79⟩ := Kd.R_slice HO314.out
      (first | subst eo79 | (injection eo79 with f1_ f2_ f3_; have f4_ := f1_.symm; have f5_ := f3_.symm; clear f1_ f2_ f3_; subst f4_; subst f5_))
      refine hK.out _ _ ⟨(blk_cell BK304.out 0).trans rfl, (blk_cell BK304.out 1).trans rfl, (blk_cell BK304.out 2).trans rfl, (blk_cell BK286.out 0).trans rfl, (blk_cell BK286.out 1).trans rfl, (blk_cell BK286.out 2).trans rfl⟩ (fun hH => ?_)
      clear hK K
      refine norm_ (a' := ?_) ?_ ?_
      rotate_left
      ·show Act.put _ (some 43) _ = _
       simp only [Act.put, List.setIfInBounds_toArray, List.set_cons_zero, List.set_cons_succ, i64_w, i32_w]
       rfl
      refine one_ (i := 3) (N := some 44) #[true, true, true, true, false] rfl rfl zq17 zq118 (fun K hK => ?_)
      refine goes_ Tryd.func15 zq17 rfl #[.agg #[.slice Ao65 t299.length co65, .bool t302, .string t303], .agg #[.slice Ao79 t312.length co79, .bool t315, .string t316]] zq105 rfl rfl zq2 ?_
      with_reducible refine (laws_eqProof.calls k _ _ t299 t302 t303 _ _ t312 t315 t316 false _ ?side1 ?side2 ?side3 ?side4 A21.out).mono ?_
      (case side1 => repeat (first | exact (Kd.R_reads' HO301.out).2.2 | (with_reducible refine Kd.C_alloc ?_ _) | (with_reducible refine Kd.C_drewN ?_ _) | (with_reducible refine Kd.C_drew ?_)))
      (case side2 => exact (Kd.R_reads' HO301.out).2.1)
      (case side3 => repeat (first | exact (Kd.R_reads' HO314.out).2.2 | (with_reducible refine Kd.C_alloc ?_ _) | (with_reducible refine Kd.C_drewN ?_ _) | (with_reducible refine Kd.C_drew ?_)))
      (case side4 => exact (Kd.R_reads' HO314.out).2.1)
      rintro e w80 ⟨rfl, hb⟩
      refine ⟨_, rfl, ?_⟩
      have n0_ := AZ.mk (Kd.R_below zq37 hb)
      have n1_ := AZ.mk (Kd.R_below zq52 hb)
      have n2_ := AZ.mk (Kd.R_below (by (with_reducible repeat (first | apply Kd.R_alloc | apply Kd.R_drewN | apply Kd.R_drew)); exact HO314.out) hb)
      have n3_ := AZ.mk (blk_below (g := gb286) (o := .cells #[.slice A2_0 l2_0.length c2_0, .bool a2_1, .string a2_2] 31 (0, 0)) zq16 hb)
      have n4_ := AZ.mk (blk_below (g := gb298) (o := .cells #[.int .i64 t293, .bool t294, .string t295, .string t296, .bool t297] 36 (0, 0)) zq30 hb)
      have n5_ := AZ.mk (blk_below (g := gb304) (o := .cells #[.slice Ao65 t299.length co65, .bool t302, .string t303] 38 (0, 0)) zq45 hb)
      have n6_ := AZ.mk (blk_below (g := gb310) (o := .cells #[.int .i64 t305, .bool t306, .string t307, .string t308, .bool t309] 36 (0, 0)) zq107 hb)
      have n7_ := AZ.mk (below_step zq21 hb)
      clear HO290
      clear HO301
      clear HO314
      clear BK286
      clear BK298
      clear BK304
      clear BK310
      clear HB
      have HO290 := n0_
      have HO301 := n1_
      have HO314 := n2_
      have BK286 := n3_
      have BK298 := n4_
      have BK304 := n5_
      have BK310 := n6_
      have HB := n7_
      clear n0_ n1_ n2_ n3_ n4_ n5_ n6_ n7_
      (try clear hb)
      (try clear hb2)
      (try clear hk)
      (try clear hi)
      refine hK.out _ _ ⟨(blk_cell BK304.out 0).trans rfl, (blk_cell BK304.out 1).trans rfl, (blk_cell BK304.out 2).trans rfl, (blk_cell BK286.out 0).trans rfl, (blk_cell BK286.out 1).trans rfl, (blk_cell BK286.out 2).trans rfl⟩ (fun hH => ?_)
      clear hK K
      refine norm_ (a' := ?_) ?_ ?_
      rotate_left
      ·show Act.put _ (some 44) _ = _
       simp only [Act.put, List.setIfInBounds_toArray, List.set_cons_zero, List.set_cons_succ, i64_w, i32_w]
       rfl
      refine pure_ (i := 4) (N := some 45) (v := ?_) (a' := ?_) #[true, true, true, true, true] rfl rfl zq17 (fun _ _ _ h => h) (Or.inl ⟨zq105, ?_⟩) ?_ ?_
      rotate_left
      ·intro w'
       go_simp
       with_reducible rfl
      rotate_left
      ·simp only [Act.put, List.setIfInBounds_toArray, List.set_cons_zero, List.set_cons_succ, i64_w, i32_w]
       rfl
      refine done_ zq17 ?_
      try go_wp2
      go_ret
      exact ⟨zq7, zq21⟩
    ·replace c19 := Bool.eq_false_iff.mpr c19
     subst c19
     rw [if_neg (show ¬ (false = true) by decide)] at H
     obtain rfl := Option.some.inj H
     go_enter Tryd.func5, Tryd.ntmps5
     go_wp2_with (first | ((with_reducible refine gate_dst (N := 6) rfl ?_); refine box_event ?hg (N := 6) ?hd (cs := #[.slice A2_0 l2_0.length c2_0, .bool a2_1, .string a2_2]) (t := 31) ?hr ?_; (case hd => rfl); (case hg => rfl); (case hr => first | (go_simp; done) | (go_simp; rfl)); intro gb286 hg w81 hbox hb; have n0_ := AZ.mk (below_step zq0 hb); have n1_ := AZ.mk (hbox); have n2_ := AZ.mk ((by rw [hg]; exact (below_size zq0) : w.heap.size ≤ gb286)); have n3_ := AZ.mk ((by rw [hg]; exact (below_size zq0) : w.heap.size ≤ gb286)); clear HB; have HB := n0_; have BK286 := n1_; have GW286 := n2_; have GE286 := n3_; clear n0_ n1_ n2_ n3_; clear hb hbox hg; have hcz82_0 : w81.cell? ⟨gb286, 0, none⟩ = some (.slice A2_0 l2_0.length c2_0) := (blk_cell BK286.out 0).trans rfl; have hcz82_1 : w81.cell? ⟨gb286, 1, none⟩ = some (.bool a2_1) := (blk_cell BK286.out 1).trans rfl; have hcz82_2 : w81.cell? ⟨gb286, 2, none⟩ = some (.string a2_2) := (blk_cell BK286.out 2).trans rfl; have hfz82_0 := blk_frozen BK286.out 0; have hfz82_1 := blk_frozen BK286.out 1; have hfz82_2 := blk_frozen BK286.out 2) | ((with_reducible refine gate_callee (f := 10) rfl ?_); refine goesL_ (some 21) rfl rfl Tryd.func10 zq17 rfl #[.agg #[.slice A2_0 l2_0.length c2_0, .bool a2_1, .string a2_2], .int .i64 1048576] rfl zq2 ?_; (with_reducible refine (laws_szProof.calls k _ _ l2_0 a2_1 a2_2 1048576 t287 _ ?side1 ?side2 A9.out).mono ?_); (case side1 => repeat (first | exact (Kd.C_below HR2_0.out HB.out) | (with_reducible refine Kd.C_alloc ?_ _) | (with_reducible refine Kd.C_drewN ?_ _) | (with_reducible refine Kd.C_drew ?_))); (case side2 => exact HC2_0.out); rintro e w83 ⟨rfl, hb⟩; refine ⟨_, rfl, ?_⟩; have n0_ := AZ.mk (blk_below (g := gb286) (o := .cells #[.slice A2_0 l2_0.length c2_0, .bool a2_1, .string a2_2] 31 (0, 0)) zq16 hb); have n1_ := AZ.mk (below_step zq18 hb); clear BK286; clear HB; have BK286 := n0_; have HB := n1_; clear n0_ n1_; (try clear hb); (try clear hb2); (try clear hk); (try clear hi); have hcz84_0 : w83.cell? ⟨gb286, 0, none⟩ = some (.slice A2_0 l2_0.length c2_0) := (blk_cell BK286.out 0).trans rfl; have hcz84_1 : w83.cell? ⟨gb286, 1, none⟩ = some (.bool a2_1) := (blk_cell BK286.out 1).trans rfl; have hcz84_2 : w83.cell? ⟨gb286, 2, none⟩ = some (.string a2_2) := (blk_cell BK286.out 2).trans rfl; have hfz84_0 := blk_frozen BK286.out 0; have hfz84_1 := blk_frozen BK286.out 1; have hfz84_2 := blk_frozen BK286.out 2) | ((with_reducible refine gate_callee (f := 12) rfl ?_); refine goesL_ (some 27) rfl rfl Tryd.func12 zq17 rfl #[.agg #[.slice A2_0 l2_0.length c2_0, .bool a2_1, .string a2_2]] rfl zq2 ?_; (with_reducible refine (laws_toProof.calls k _ _ l2_0 a2_1 a2_2 t288 t291 t292 _ ?side1 ?side2 A14.out).mono ?_); (case side1 => repeat (first | exact (Kd.C_below HR2_0.out HB.out) | (with_reducible refine Kd.C_alloc ?_ _) | (with_reducible refine Kd.C_drewN ?_ _) | (with_reducible refine Kd.C_drew ?_))); (case side2 => exact HC2_0.out); rintro e w85 ⟨v289, rfl, ho0, hb⟩; refine ⟨_, rfl, ?_⟩; have n0_ := AZ.mk (Kd.R_lower ho0 (below_size zq18)); have n1_ := AZ.mk (blk_below (g := gb286) (o := .cells #[.slice A2_0 l2_0.length c2_0, .bool a2_1, .string a2_2] 31 (0, 0)) zq16 hb); have n2_ := AZ.mk (below_step zq18 hb); clear BK286; clear HB; have HO290 := n0_; have BK286 := n1_; have HB := n2_; clear n0_ n1_ n2_; (try clear hb); (try clear hb2); (try clear hk); (try clear hi); (try clear ho0); obtain ⟨Ao86, co86, eo86⟩ := Kd.R_slice HO290.out; subst eo86) | ((with_reducible refine gate_callee (f := 11) rfl ?_); refine goesL_ (some 29) rfl rfl Tryd.func11 zq17 rfl #[.string a0, .string a1, .agg #[.slice Ao86 t288.length co86, .bool t291, .string t292], .int .i64 a3] rfl zq2 ?_; (with_reducible refine (spec_Show.calls k a0 a1 _ _ t288 t291 t292 a3 t293 t294 t295 t296 t297 _ ?side1 ?side2 A15.out).mono ?_); (case side1 => repeat (first | exact (Kd.R_reads' HO290.out).2.2 | (with_reducible refine Kd.C_alloc ?_ _) | (with_reducible refine Kd.C_drewN ?_ _) | (with_reducible refine Kd.C_drew ?_))); (case side2 => exact (Kd.R_reads' HO290.out).2.1); rintro e w87 ⟨rfl, hb⟩; refine ⟨_, rfl, ?_⟩; have n0_ := AZ.mk (Kd.R_below zq37 hb); have n1_ := AZ.mk (blk_below (g := gb286) (o := .cells #[.slice A2_0 l2_0.length c2_0, .bool a2_1, .string a2_2] 31 (0, 0)) zq16 hb); have n2_ := AZ.mk (below_step zq18 hb); clear HO290; clear BK286; clear HB; have HO290 := n0_; have BK286 := n1_; have HB := n2_; clear n0_ n1_ n2_; (try clear hb); (try clear hb2); (try clear hk); (try clear hi)) | ((with_reducible refine gate_dst (N := 10) rfl ?_); refine box_event ?hg (N := 10) ?hd (cs := #[.int .i64 0, .bool false, .string (⟨#[]⟩ : ByteArray), .string (⟨#[]⟩ : ByteArray), .bool false]) (t := 36) ?hr ?_; (case hd => rfl); (case hg => rfl); (case hr => first | (go_simp; done) | (go_simp; rfl)); intro gb298 hg w88 hbox hb; have n0_ := AZ.mk (Kd.R_below zq37 hb); have n1_ := AZ.mk (blk_below (g := gb286) (o := .cells #[.slice A2_0 l2_0.length c2_0, .bool a2_1, .string a2_2] 31 (0, 0)) zq16 hb); have n2_ := AZ.mk (below_step zq18 hb); have n3_ := AZ.mk (hbox); have n4_ := AZ.mk ((by rw [hg]; exact (below_size zq18) : w.heap.size ≤ gb298)); have n5_ := AZ.mk ((by rw [hg]; exact (below_size zq18) : w.heap.size ≤ gb298)); have n6_ := AZ.mk ((by rw [hg]; exact Nat.ne_of_lt (blk_lt (g := gb286) (o := .cells #[.slice A2_0 l2_0.length c2_0, .bool a2_1, .string a2_2] 31 (0, 0)) zq16) : gb286 ≠ gb298)); have n7_ := AZ.mk ((by rw [hg]; exact Nat.ne_of_gt (blk_lt (g := gb286) (o := .cells #[.slice A2_0 l2_0.length c2_0, .bool a2_1, .string a2_2] 31 (0, 0)) zq16) : gb298 ≠ gb286)); clear HO290; clear BK286; clear HB; have HO290 := n0_; have BK286 := n1_; have HB := n2_; have BK298 := n3_; have GW298 := n4_; have GE298 := n5_; have NB286_298 := n6_; have NB298_286 := n7_; clear n0_ n1_ n2_ n3_ n4_ n5_ n6_ n7_; clear hb hbox hg; have hnb89 := NB298_286.out; have hnc89 := NB286_298.out; have hcz90_0 : w88.cell? ⟨gb298, 0, none⟩ = some (.int .i64 0) := (blk_cell BK298.out 0).trans rfl; have hcz90_1 : w88.cell? ⟨gb298, 1, none⟩ = some (.bool false) := (blk_cell BK298.out 1).trans rfl; have hcz90_2 : w88.cell? ⟨gb298, 2, none⟩ = some (.string (⟨#[]⟩ : ByteArray)) := (blk_cell BK298.out 2).trans rfl; have hcz90_3 : w88.cell? ⟨gb298, 3, none⟩ = some (.string (⟨#[]⟩ : ByteArray)) := (blk_cell BK298.out 3).trans rfl; have hcz90_4 : w88.cell? ⟨gb298, 4, none⟩ = some (.bool false) := (blk_cell BK298.out 4).trans rfl; have hfz90_0 := blk_frozen BK298.out 0; have hfz90_1 := blk_frozen BK298.out 1; have hfz90_2 := blk_frozen BK298.out 2; have hfz90_3 := blk_frozen BK298.out 3; have hfz90_4 := blk_frozen BK298.out 4; have hcz91_0 : w88.cell? ⟨gb286, 0, none⟩ = some (.slice A2_0 l2_0.length c2_0) := (blk_cell BK286.out 0).trans rfl; have hcz91_1 : w88.cell? ⟨gb286, 1, none⟩ = some (.bool a2_1) := (blk_cell BK286.out 1).trans rfl; have hcz91_2 : w88.cell? ⟨gb286, 2, none⟩ = some (.string a2_2) := (blk_cell BK286.out 2).trans rfl; have hfz91_0 := blk_frozen BK286.out 0; have hfz91_1 := blk_frozen BK286.out 1; have hfz91_2 := blk_frozen BK286.out 2) | ((with_reducible refine gate_callee (f := 12) rfl ?_); refine goesL_ (some 31) rfl rfl Tryd.func12 zq17 rfl #[.agg #[.slice A2_0 l2_0.length c2_0, .bool a2_1, .string a2_2]] rfl zq2 ?_; (with_reducible refine (laws_toProof.calls k _ _ l2_0 a2_1 a2_2 t299 t302 t303 _ ?side1 ?side2 A16.out).mono ?_); (case side1 => exact Kd.C_below HR2_0.out zq19); (case side2 => exact HC2_0.out); rintro e w92 ⟨v300, rfl, ho0, hb⟩; refine ⟨_, rfl, ?_⟩; have n0_ := AZ.mk (Kd.R_elder' zq24 (Kd.R_base ho0) hb); have n1_ := AZ.mk (Kd.R_lower (Kd.R_new' ho0 (Kd.R_lt zq24)) (below_size zq19)); have n2_ := AZ.mk (blk_below (g := gb286) (o := .cells #[.slice A2_0 l2_0.length c2_0, .bool a2_1, .string a2_2] 31 (0, 0)) zq42 hb); have n3_ := AZ.mk (blk_below (g := gb298) (o := .cells #[.int .i64 t293, .bool t294, .string t295, .string t296, .bool t297] 36 (0, 0)) zq28 hb); have n4_ := AZ.mk (below_step zq19 hb); clear HO290; clear BK286; clear BK298; clear HB; have HO290 := n0_; have HO301 := n1_; have BK286 := n2_; have BK298 := n3_; have HB := n4_; clear n0_ n1_ n2_ n3_ n4_; (try clear hb); (try clear hb2); (try clear hk); (try clear hi); (try clear ho0)) | ((with_reducible refine gate_dst (N := 11) rfl ?_); refine box_event ?hg (N := 11) ?hd (cs := #[.slice none 0 0, .bool false, .string (⟨#[]⟩ : ByteArray)]) (t := 38) ?hr ?_; (case hd => rfl); (case hg => rfl); (case hr => first | (go_simp; done) | (go_simp; rfl)); intro gb304 hg w93 hbox hb; have n0_ := AZ.mk (Kd.R_below zq37 hb); have n1_ := AZ.mk (Kd.R_below zq52 hb); have n2_ := AZ.mk (blk_below (g := gb286) (o := .cells #[.slice A2_0 l2_0.length c2_0, .bool a2_1, .string a2_2] 31 (0, 0)) zq16 hb); have n3_ := AZ.mk (blk_below (g := gb298) (o := .cells #[.int .i64 t293, .bool t294, .string t295, .string t296, .bool t297] 36 (0, 0)) zq30 hb); have n4_ := AZ.mk (below_step zq19 hb); have n5_ := AZ.mk (hbox); have n6_ := AZ.mk ((by rw [hg]; exact (below_size zq19) : w.heap.size ≤ gb304)); have n7_ := AZ.mk ((by rw [hg]; exact (below_size zq19) : w.heap.size ≤ gb304)); have n8_ := AZ.mk ((by rw [hg]; exact Nat.ne_of_lt (blk_lt (g := gb286) (o := .cells #[.slice A2_0 l2_0.length c2_0, .bool a2_1, .string a2_2] 31 (0, 0)) zq16) : gb286 ≠ gb304)); have n9_ := AZ.mk ((by rw [hg]; exact Nat.ne_of_gt (blk_lt (g := gb286) (o := .cells #[.slice A2_0 l2_0.length c2_0, .bool a2_1, .string a2_2] 31 (0, 0)) zq16) : gb304 ≠ gb286)); have n10_ := AZ.mk ((by rw [hg]; exact Nat.ne_of_lt (blk_lt (g := gb298) (o := .cells #[.int .i64 t293, .bool t294, .string t295, .string t296, .bool t297] 36 (0, 0)) zq30) : gb298 ≠ gb304)); have n11_ := AZ.mk ((by rw [hg]; exact Nat.ne_of_gt (blk_lt (g := gb298) (o := .cells #[.int .i64 t293, .bool t294, .string t295, .string t296, .bool t297] 36 (0, 0)) zq30) : gb304 ≠ gb298)); clear HO290; clear HO301; clear BK286; clear BK298; clear HB; have HO290 := n0_; have HO301 := n1_; have BK286 := n2_; have BK298 := n3_; have HB := n4_; have BK304 := n5_; have GW304 := n6_; have GE304 := n7_; have NB286_304 := n8_; have NB304_286 := n9_; have NB298_304 := n10_; have NB304_298 := n11_; clear n0_ n1_ n2_ n3_ n4_ n5_ n6_ n7_ n8_ n9_ n10_ n11_; clear hb hbox hg; obtain ⟨Ao94, co94, eo94⟩ := Kd.R_slice HO301.out; subst eo94; have hnb95 := NB304_286.out; have hnc95 := NB286_304.out; have hnb96 := NB304_298.out; have hnc96 := NB298_304.out; have hcz97_0 : w93.cell? ⟨gb304, 0, none⟩ = some (.slice none 0 0) := (blk_cell BK304.out 0).trans rfl; have hcz97_1 : w93.cell? ⟨gb304, 1, none⟩ = some (.bool false) := (blk_cell BK304.out 1).trans rfl; have hcz97_2 : w93.cell? ⟨gb304, 2, none⟩ = some (.string (⟨#[]⟩ : ByteArray)) := (blk_cell BK304.out 2).trans rfl; have hfz97_0 := blk_frozen BK304.out 0; have hfz97_1 := blk_frozen BK304.out 1; have hfz97_2 := blk_frozen BK304.out 2) | ((with_reducible refine gate_callee (f := 13) rfl ?_); refine goesL_ (some 36) rfl rfl Tryd.func13 zq17 rfl #[.string a0, .string a1, .agg #[.slice Ao94 t299.length co94, .bool t302, .string t303], .int .i64 a3] rfl zq2 ?_; (with_reducible refine (impl_Show.calls k a0 a1 _ _ t299 t302 t303 a3 t305 t306 t307 t308 t309 _ ?side1 ?side2 A17.out).mono ?_); (case side1 => refine (Kd.R_reads' (e := 9) (base := w.heap.size) (ok := fun k_ => (True ∧ some k_ ≠ (.slice Ao86 t288.length co86 : Value).ownBlock)) (n := t299.length) (c := co94) ?_).2.2; exact zq100); (case side2 => exact (Kd.R_reads' HO301.out).2.1); rintro e w98 ⟨rfl, hb⟩; refine ⟨_, rfl, ?_⟩; have n0_ := AZ.mk (Kd.R_below (by (with_reducible repeat (first | apply Kd.R_alloc | apply Kd.R_drewN | apply Kd.R_drew)); exact (Kd.R_mono (Kd.R_far (p := ⟨gb304, 2, none⟩) (Kd.R_far (p := ⟨gb304, 1, none⟩) (Kd.R_far (p := ⟨gb304, 0, none⟩) (Kd.R_types HO290.out BK304.out zq118) (fun _ hk => hk.2) (.slice Ao94 t299.length co94)) (fun _ hk => hk.2) (.bool t302)) (fun _ hk => hk.2) (.string t303)) (fun _ h_ => h_.1))) hb); have n1_ := AZ.mk (Kd.R_below zq100 hb); have n2_ := AZ.mk (blk_below (g := gb286) (o := .cells #[.slice A2_0 l2_0.length c2_0, .bool a2_1, .string a2_2] 31 (0, 0)) zq57 hb); have n3_ := AZ.mk (blk_below (g := gb298) (o := .cells #[.int .i64 t293, .bool t294, .string t295, .string t296, .bool t297] 36 (0, 0)) zq56 hb); have n4_ := AZ.mk (blk_below (g := gb304) (o := .cells #[.slice Ao94 t299.length co94, .bool t302, .string t303] 38 (0, 0)) (by (with_reducible repeat (first | refine blk_drewN ?_ _ | refine blk_drew ?_ | refine blk_alloc ?_ _)); refine blk_put (cs := #[.slice Ao94 t299.length co94, .bool t302, .string (⟨#[]⟩ : ByteArray)]) ?_ 2 _ rfl; (with_reducible repeat (first | refine blk_drewN ?_ _ | refine blk_drew ?_ | refine blk_alloc ?_ _)); refine blk_put (cs := #[.slice Ao94 t299.length co94, .bool false, .string (⟨#[]⟩ : ByteArray)]) ?_ 1 _ rfl; (with_reducible repeat (first | refine blk_drewN ?_ _ | refine blk_drew ?_ | refine blk_alloc ?_ _)); refine blk_put (cs := #[.slice none 0 0, .bool false, .string (⟨#[]⟩ : ByteArray)]) ?_ 0 _ rfl; (with_reducible repeat (first | refine blk_drewN ?_ _ | refine blk_drew ?_ | refine blk_alloc ?_ _)); exact BK304.out) hb); have n5_ := AZ.mk (below_step zq29 hb); clear HO290; clear HO301; clear BK286; clear BK298; clear BK304; clear HB; have HO290 := n0_; have HO301 := n1_; have BK286 := n2_; have BK298 := n3_; have BK304 := n4_; have HB := n5_; clear n0_ n1_ n2_ n3_ n4_ n5_; (try clear hb); (try clear hb2); (try clear hk); (try clear hi)) | ((with_reducible refine gate_dst (N := 12) rfl ?_); refine box_event ?hg (N := 12) ?hd (cs := #[.int .i64 0, .bool false, .string (⟨#[]⟩ : ByteArray), .string (⟨#[]⟩ : ByteArray), .bool false]) (t := 36) ?hr ?_; (case hd => rfl); (case hg => rfl); (case hr => first | (go_simp; done) | (go_simp; rfl)); intro gb310 hg w99 hbox hb; have n0_ := AZ.mk (Kd.R_below zq37 hb); have n1_ := AZ.mk (Kd.R_below zq52 hb); have n2_ := AZ.mk (blk_below (g := gb286) (o := .cells #[.slice A2_0 l2_0.length c2_0, .bool a2_1, .string a2_2] 31 (0, 0)) zq16 hb); have n3_ := AZ.mk (blk_below (g := gb298) (o := .cells #[.int .i64 t293, .bool t294, .string t295, .string t296, .bool t297] 36 (0, 0)) zq30 hb); have n4_ := AZ.mk (blk_below (g := gb304) (o := .cells #[.slice Ao94 t299.length co94, .bool t302, .string t303] 38 (0, 0)) zq45 hb); have n5_ := AZ.mk (below_step zq29 hb); have n6_ := AZ.mk (hbox); have n7_ := AZ.mk ((by rw [hg]; exact (below_size zq29) : w.heap.size ≤ gb310)); have n8_ := AZ.mk ((by rw [hg]; exact (below_size zq29) : w.heap.size ≤ gb310)); have n9_ := AZ.mk ((by rw [hg]; exact Nat.ne_of_lt (blk_lt (g := gb286) (o := .cells #[.slice A2_0 l2_0.length c2_0, .bool a2_1, .string a2_2] 31 (0, 0)) zq16) : gb286 ≠ gb310)); have n10_ := AZ.mk ((by rw [hg]; exact Nat.ne_of_gt (blk_lt (g := gb286) (o := .cells #[.slice A2_0 l2_0.length c2_0, .bool a2_1, .string a2_2] 31 (0, 0)) zq16) : gb310 ≠ gb286)); have n11_ := AZ.mk ((by rw [hg]; exact Nat.ne_of_lt (blk_lt (g := gb298) (o := .cells #[.int .i64 t293, .bool t294, .string t295, .string t296, .bool t297] 36 (0, 0)) zq30) : gb298 ≠ gb310)); have n12_ := AZ.mk ((by rw [hg]; exact Nat.ne_of_gt (blk_lt (g := gb298) (o := .cells #[.int .i64 t293, .bool t294, .string t295, .string t296, .bool t297] 36 (0, 0)) zq30) : gb310 ≠ gb298)); have n13_ := AZ.mk ((by rw [hg]; exact Nat.ne_of_lt (blk_lt (g := gb304) (o := .cells #[.slice Ao94 t299.length co94, .bool t302, .string t303] 38 (0, 0)) zq45) : gb304 ≠ gb310)); have n14_ := AZ.mk ((by rw [hg]; exact Nat.ne_of_gt (blk_lt (g := gb304) (o := .cells #[.slice Ao94 t299.length co94, .bool t302, .string t303] 38 (0, 0)) zq45) : gb310 ≠ gb304)); clear HO290; clear HO301; clear BK286; clear BK298; clear BK304; clear HB; have HO290 := n0_; have HO301 := n1_; have BK286 := n2_; have BK298 := n3_; have BK304 := n4_; have HB := n5_; have BK310 := n6_; have GW310 := n7_; have GE310 := n8_; have NB286_310 := n9_; have NB310_286 := n10_; have NB298_310 := n11_; have NB310_298 := n12_; have NB304_310 := n13_; have NB310_304 := n14_; clear n0_ n1_ n2_ n3_ n4_ n5_ n6_ n7_ n8_ n9_ n10_ n11_ n12_ n13_ n14_; clear hb hbox hg; have hnb100 := NB310_286.out; have hnc100 := NB286_310.out; have hnb101 := NB310_298.out; have hnc101 := NB298_310.out; have hnb102 := NB310_304.out; have hnc102 := NB304_310.out; have hcz103_0 : w99.cell? ⟨gb310, 0, none⟩ = some (.int .i64 0) := (blk_cell BK310.out 0).trans rfl; have hcz103_1 : w99.cell? ⟨gb310, 1, none⟩ = some (.bool false) := (blk_cell BK310.out 1).trans rfl; have hcz103_2 : w99.cell? ⟨gb310, 2, none⟩ = some (.string (⟨#[]⟩ : ByteArray)) := (blk_cell BK310.out 2).trans rfl; have hcz103_3 : w99.cell? ⟨gb310, 3, none⟩ = some (.string (⟨#[]⟩ : ByteArray)) := (blk_cell BK310.out 3).trans rfl; have hcz103_4 : w99.cell? ⟨gb310, 4, none⟩ = some (.bool false) := (blk_cell BK310.out 4).trans rfl; have hfz103_0 := blk_frozen BK310.out 0; have hfz103_1 := blk_frozen BK310.out 1; have hfz103_2 := blk_frozen BK310.out 2; have hfz103_3 := blk_frozen BK310.out 3; have hfz103_4 := blk_frozen BK310.out 4; have hcz104_0 : w99.cell? ⟨gb298, 0, none⟩ = some (.int .i64 t293) := (blk_cell BK298.out 0).trans rfl; have hcz104_1 : w99.cell? ⟨gb298, 1, none⟩ = some (.bool t294) := (blk_cell BK298.out 1).trans rfl; have hcz104_2 : w99.cell? ⟨gb298, 2, none⟩ = some (.string t295) := (blk_cell BK298.out 2).trans rfl; have hcz104_3 : w99.cell? ⟨gb298, 3, none⟩ = some (.string t296) := (blk_cell BK298.out 3).trans rfl; have hcz104_4 : w99.cell? ⟨gb298, 4, none⟩ = some (.bool t297) := (blk_cell BK298.out 4).trans rfl; have hfz104_0 := blk_frozen BK298.out 0; have hfz104_1 := blk_frozen BK298.out 1; have hfz104_2 := blk_frozen BK298.out 2; have hfz104_3 := blk_frozen BK298.out 3; have hfz104_4 := blk_frozen BK298.out 4) | ((with_reducible refine gate_callee (f := 14) rfl ?_); refine goesL_ (some 39) rfl rfl Tryd.func14 zq17 rfl #[.agg #[.int .i64 t305, .bool t306, .string t307, .string t308, .bool t309], .agg #[.int .i64 t293, .bool t294, .string t295, .string t296, .bool t297]] rfl zq2 ?_; (with_reducible refine (laws_eqShown.calls t305 t306 t307 t308 t309 t293 t294 t295 t296 t297 false _ A18.out).mono ?_); rintro e w105 ⟨rfl, hb⟩; refine ⟨_, rfl, ?_⟩; have n0_ := AZ.mk (Kd.R_below zq55 hb); have n1_ := AZ.mk (Kd.R_below zq54 hb); have n2_ := AZ.mk (blk_below (g := gb286) (o := .cells #[.slice A2_0 l2_0.length c2_0, .bool a2_1, .string a2_2] 31 (0, 0)) zq41 hb); have n3_ := AZ.mk (blk_below (g := gb298) (o := .cells #[.int .i64 t293, .bool t294, .string t295, .string t296, .bool t297] 36 (0, 0)) zq40 hb); have n4_ := AZ.mk (blk_below (g := gb304) (o := .cells #[.slice Ao94 t299.length co94, .bool t302, .string t303] 38 (0, 0)) zq39 hb); have n5_ := AZ.mk (blk_below (g := gb310) (o := .cells #[.int .i64 t305, .bool t306, .string t307, .string t308, .bool t309] 36 (0, 0)) zq27 hb); have n6_ := AZ.mk (below_step zq21 hb); clear HO290; clear HO301; clear BK286; clear BK298; clear BK304; clear BK310; clear HB; have HO290 := n0_; have HO301 := n1_; have BK286 := n2_; have BK298 := n3_; have BK304 := n4_; have BK310 := n5_; have HB := n6_; clear n0_ n1_ n2_ n3_ n4_ n5_ n6_; (try clear hb); (try clear hb2); (try clear hk); (try clear hi)))
     go_ret
     exact ⟨zq7, zq21⟩
end Go.Proofs.YtgjipjffpodjlaaDoor.K
namespace Go.Proofs.YtgjipjffpodjlaaDoor.U
open Go.RowKit Go.Proofs.YtgjipjffpodjlaaDoorW.PrintWords Go.Proofs.YtgjipjffpodjlaaDoorW.PrintLast Go.Proofs.YtgjipjffpodjlaaDoorW.PrintMore
def Tot {α : Type} (g : Nat → Option α) (P : α → Prop) : Prop := ∃ r, Ev g r ∧ P r
section
variable {α β : Type} {P P' : α → Prop} {Q : β → Prop}
theorem Tot.now {r : α} (h : P r) : Tot (fun _ => some r) P := ⟨r, Ev.now r, h⟩
theorem Tot.bind {g : Nat → Option α} {f : Nat → α → Option β} (h : Tot g P) (k : ∀ a, P a → Tot (fun n => f n a) Q) : Tot (fun n => (g n).bind (f n)) Q := by
  obtain ⟨a, ha, hp⟩ := h
  obtain ⟨r, hr, hq⟩ := k a hp
  exact ⟨r, Ev.bind ha hr, hq⟩
theorem Tot.ev {g : Nat → Option α} {r : α} (h : Ev g r) : Tot g (fun x => x = r) := ⟨r, h, rfl⟩
theorem Tot.bindEv {g : Nat → Option α} {f : Nat → α → Option β} {a : α} (h : Ev g a) (k : Tot (fun n => f n a) Q) : Tot (fun n => (g n).bind (f n)) Q :=
  Tot.bind (Tot.ev h) (fun x hx => by subst hx; exact k)
theorem Tot.bindSome {a : α} {f : Nat → α → Option β} (k : Tot (fun n => f n a) Q) : Tot (fun n => (some a).bind (f n)) Q := k
theorem Tot.bindC {o : Option α} {a : α} {f : Nat → α → Option β} (h : o = some a) (k : Tot (fun n => f n a) Q) : Tot (fun n => o.bind (f n)) Q := by subst h; exact k
theorem Tot.ite {c : Prop} [Decidable c] {a b : Nat → Option α} (h1 : c → Tot a P) (h2 : ¬ c → Tot b P) : Tot (fun n => if c then a n else b n) P := by
  by_cases h : c
  · simpa only [if_pos h] using h1 h
  · simpa only [if_neg h] using h2 h
theorem Tot.pos {c : Prop} [Decidable c] {a b : Nat → Option α} (h : c) (k : Tot a P) : Tot (fun n => if c then a n else b n) P := by simpa only [if_pos h] using k
theorem Tot.neg {c : Prop} [Decidable c] {a b : Nat → Option α} (h : ¬ c) (k : Tot b P) : Tot (fun n => if c then a n else b n) P := by simpa only [if_neg h] using k
theorem Tot.mono {g : Nat → Option α} (h : Tot g P) (k : ∀ r, P r → P' r) : Tot g P' := by obtain ⟨r, hr, hp⟩ := h; exact ⟨r, hr, k r hp⟩
theorem Tot.step {g f : Nat → Option α} (h : ∀ k, g (k + 1) = f k) (k : Tot f P) : Tot g P := by obtain ⟨r, hr, hp⟩ := k; exact ⟨r, Ev.step h hr, hp⟩
theorem Tot.out {g : Nat → Option α} (h : Tot g P) : ∃ r, Ev g r ∧ P r := h
theorem Ev.uniq {g : Nat → Option α} {r r' : α} (h : Ev g r) (h' : Ev g r') : r = r' := by
  obtain ⟨K, h⟩ := h
  obtain ⟨K', h'⟩ := h'
  have := (h (max K K') (Nat.le_max_left _ _)).symm.trans (h' (max K K') (Nat.le_max_right _ _))
  exact Option.some.inj this
theorem Tot.toEv {g : Nat → Option α} {r : α} (h : Tot g (fun x => x = r)) : Ev g r := by obtain ⟨x, hx, rfl⟩ := h; exact hx
theorem Ev.pos {c : Prop} [Decidable c] {a b : Nat → Option α} {r : α} (h : c) (k : Ev a r) : Ev (fun n => if c then a n else b n) r := by simpa only [if_pos h] using k
theorem Ev.neg {c : Prop} [Decidable c] {a b : Nat → Option α} {r : α} (h : ¬ c) (k : Ev b r) : Ev (fun n => if c then a n else b n) r := by simpa only [if_neg h] using k
theorem Ev.bindC {o : Option α} {a : α} {f : Nat → α → Option β} {r : β} (h : o = some a) (k : Ev (fun n => f n a) r) : Ev (fun n => o.bind (f n)) r := by subst h; exact k
theorem Ev.const {o : Option α} {a : α} (h : o = some a) : Ev (fun _ => o) a := by subst h; exact Ev.now a
end
theorem w64 {n : Int} (h : -9223372036854775808 ≤ n ∧ n ≤ 9223372036854775807) : wrap64 n = n := IntWalk.wrap64_in n h
theorem u64 {n : Int} (h : 0 ≤ n ∧ n ≤ 18446744073709551615) : IntKind.u64.wrap n = n := IntWalk.u64_in n h
theorem size_app (a b : ByteArray) : (a ++ b).size = a.size + b.size := ByteArray.size_append
theorem size_ext (a : ByteArray) (i j : Nat) : (a.extract i j).size = min j a.size - i := ByteArray.size_extract
theorem text_ext {a b : ByteArray} (h : a.data.toList = b.data.toList) : a = b := by
  rcases a with ⟨⟨a⟩⟩
  rcases b with ⟨⟨b⟩⟩
  simp at h
  subst h
  rfl
theorem toList_app (a b : ByteArray) : (a ++ b).data.toList = a.data.toList ++ b.data.toList := by simp
theorem toList_ext (a : ByteArray) (i j : Nat) : (a.extract i j).data.toList = (a.data.toList.take j).drop i := by
  rw [ByteArray.data_extract, Array.toList_extract, List.extract_eq_take_drop, List.drop_take]
theorem size_list (a : ByteArray) : a.data.toList.length = a.size := by rw [Array.length_toList]; rfl
theorem toList_eq (a : ByteArray) : a.toList = a.data.toList := by
  rw [Lib.toList_data]
theorem text_inj {a b : ByteArray} : a.toList = b.toList ↔ a = b := by
  rw [toList_eq, toList_eq]
  exact ⟨text_ext, fun h => by rw [h]⟩
end Go.Proofs.YtgjipjffpodjlaaDoor.U
namespace Go.Proofs.YtgjipjffpodjlaaDoor.E
open Go.RowKit Go.Proofs.YtgjipjffpodjlaaDoorW.PrintWords Go.Proofs.YtgjipjffpodjlaaDoorW.PrintLast Go.Proofs.YtgjipjffpodjlaaDoorW.PrintMore Go.Proofs.YtgjipjffpodjlaaDoor.U Go.Proofs.YtgjipjffpodjlaaDoor.K
theorem l1In_eq (a b c : Int) : spec_l1In.f a b c = some (decide (b ≤ a ∧ a ≤ c)) := by
  unfold spec_l1In.f
  by_cases h : b ≤ a
  · rw [if_pos h]; simp [h]
  · rw [if_neg h]; simp [h]
theorem in_eq (a b c : Int) : impl_in.f a b c = some (decide (b ≤ a ∧ a ≤ c)) := by
  unfold impl_in.f
  by_cases h : b ≤ a
  · rw [if_pos h]; simp [h]
  · rw [if_neg h]; simp [h]
def fnvStep (h b : Int) : Int := IntKind.u64.wrap ((Go.bits .xor .u64 h (IntKind.u64.wrap b)) * 1099511628211)
def fnv (s : ByteArray) : Int := (bytesOf s).foldl fnvStep 14695981039346656037
def bigEnd (v : Int) : Nat → List Int
  | 0 => []
  | n + 1 => bigEnd (v / 256) n ++ [v % 256]
def sumT (s : ByteArray) (w : Int) : ByteArray := if 1 ≤ w ∧ w ≤ 8 then strOfNums (bigEnd (fnv s) w.toNat) else ⟨#[]⟩
theorem bigEnd_len (v : Int) (n : Nat) : (bigEnd v n).length = n := by
  induction n generalizing v with
  | zero => rfl
  | succ n ih => simp [bigEnd, ih]
theorem strOfNums_size (l : List Int) : (strOfNums l).size = l.length := by
  show (strOfNums l).data.size = _
  simp [strOfNums]
theorem sumT_size (s : ByteArray) (w : Int) (h : 1 ≤ w ∧ w ≤ 8) : ((sumT s w).size : Int) = w := by
  unfold sumT
  rw [if_pos h, strOfNums_size, bigEnd_len]
  omega
theorem sumT_size_le (s : ByteArray) (w : Int) : (sumT s w).size ≤ 8 := by
  by_cases h : 1 ≤ w ∧ w ≤ 8
  · have := sumT_size s w h; omega
  · unfold sumT; rw [if_neg h]; exact Nat.zero_le _
theorem fnvStep_range (h b : Int) : 0 ≤ fnvStep h b ∧ fnvStep h b ≤ 18446744073709551615 := by
  unfold fnvStep
  rw [IntKind.wrap_u64]
  omega
theorem foldl_range (l : List Int) (v : Int) (hv : 0 ≤ v ∧ v ≤ 18446744073709551615) : 0 ≤ l.foldl fnvStep v ∧ l.foldl fnvStep v ≤ 18446744073709551615 := by
  induction l generalizing v with
  | nil => exact hv
  | cons x l ih => exact ih _ (fnvStep_range _ _)
theorem fnv_range (s : ByteArray) : 0 ≤ fnv s ∧ fnv s ≤ 18446744073709551615 := foldl_range _ _ (by decide)
theorem bytes_take_succ (s : ByteArray) (i : Nat) (h : i < s.size) : (bytesOf s).take (i + 1) = (bytesOf s).take i ++ [bt s i] := by
  have hl : i < (bytesOf s).length := by rw [bytesOf_length]; exact h
  rw [List.take_succ_eq_append_getElem hl]
  congr 2
  rw [← rd_bytesOf s i, rd]
  simp [List.getD, List.getElem?_eq_getElem hl]
theorem sum_out (w : Int) (hw : 1 ≤ w ∧ w ≤ 8) (d : Nat) :
    ∀ (x8 : Int) (x7 : ByteArray) (u : Int), (w - x8).toNat = d → 0 ≤ x8 → x8 ≤ w → 0 ≤ u → u ≤ 18446744073709551615 → x7.size = x8.toNat →
    Ev (fun k => spec_Sum.l1 k w u x7 x8) (strOfNums (bigEnd u d) ++ x7) := by
  induction d with
  | zero =>
    intro x8 x7 u hd h0 h1 hu0 hu1 hs
    refine Ev.step (f := fun _ => some x7) (fun k => ?_) ?_
    · simp only [spec_Sum.l1]; rw [if_neg (by omega)]
    · have : strOfNums (bigEnd u 0) ++ x7 = x7 := by
        apply text_ext; simp [bigEnd, strOfNums]
      rw [this]; exact Ev.now _
  | succ d ih =>
    intro x8 x7 u hd h0 h1 hu0 hu1 hs
    have e1 : Int.tmod u 256 % 256 = u % 256 := by rw [Int.tmod_eq_emod_of_nonneg hu0]; omega
    have e2 : IntKind.u64.wrap (Int.tdiv u 256) = u / 256 := by rw [Int.tdiv_eq_ediv_of_nonneg hu0, u64 (by omega)]
    have e3 : wrap64 (x8 + 1) = x8 + 1 := w64 (by omega)
    refine Ev.step (f := fun k => spec_Sum.l1 k w (u / 256) (strOfNums [u % 256] ++ x7) (x8 + 1)) (fun k => ?_) ?_
    · simp only [spec_Sum.l1]
      rw [if_pos (by omega), Option.bind_some, if_pos (by rw [strOfNums_size]; simp; omega), e1, e2, e3]
    · have h := ih (x8 + 1) (strOfNums [u % 256] ++ x7) (u / 256) (by omega) (by omega) (by omega) (by omega) (by omega) (by rw [size_app, strOfNums_size]; simp; omega)
      have : strOfNums (bigEnd (u / 256) d) ++ (strOfNums [u % 256] ++ x7) = strOfNums (bigEnd u (d + 1)) ++ x7 := by
        apply text_ext; simp [bigEnd, strOfNums]
      rw [this] at h; exact h
theorem sum_in (s : ByteArray) (w : Int) (hw : 1 ≤ w ∧ w ≤ 8) (hs : s.size ≤ 4611686018427387904) (d : Nat) :
    ∀ (i : Nat), s.size - i = d → i ≤ s.size →
    Ev (fun k => spec_Sum.l0 k s w (((bytesOf s).take i).foldl fnvStep 14695981039346656037) i) (sumT s w) := by
  induction d with
  | zero =>
    intro i hd hi
    have : i = s.size := by omega
    subst this
    refine Ev.step (f := fun k => spec_Sum.l1 k w (fnv s) ⟨#[]⟩ 0) (fun k => ?_) ?_
    · simp only [spec_Sum.l0]
      rw [if_neg (by omega), List.take_of_length_le (by rw [bytesOf_length]; exact Nat.le_refl _)]; rfl
    · have h := sum_out w hw w.toNat 0 ⟨#[]⟩ (fnv s) (by omega) (by omega) (by omega) (fnv_range s).1 (fnv_range s).2 rfl
      have e : strOfNums (bigEnd (fnv s) w.toNat) ++ (⟨#[]⟩ : ByteArray) = sumT s w := by
        unfold sumT; rw [if_pos hw]; apply text_ext; simp
      rw [e] at h; exact h
  | succ d ih =>
    intro i hd hi
    refine Ev.step (f := fun k => spec_Sum.l0 k s w (((bytesOf s).take (i + 1)).foldl fnvStep 14695981039346656037) ((i + 1 : Nat) : Int)) (fun k => ?_) (ih (i + 1) (by omega) (by omega))
    simp only [spec_Sum.l0]
    rw [if_pos (by omega), if_pos (by omega), w64 (by omega), bytes_take_succ s i (by omega), List.foldl_append]
    rfl
theorem spec_Sum_ev (s : ByteArray) (w : Int) (hs : s.size ≤ 4611686018427387904) : Ev (fun k => spec_Sum.f k s w) (sumT s w) := by
  unfold spec_Sum.f
  refine Ev.bindC (l1In_eq _ _ _) ?_
  by_cases h : 1 ≤ w ∧ w ≤ 8
  · rw [decide_eq_true h]; exact Ev.pos rfl (sum_in s w h hs s.size 0 (by omega) (by omega))
  · rw [decide_eq_false h]; refine Ev.neg (by decide) ?_
    unfold sumT; rw [if_neg h]; exact Ev.now _
theorem isum_out (w : Int) (hw : 1 ≤ w ∧ w ≤ 8) (v : Int) (_hv : 0 ≤ v) (d : Nat) :
    ∀ (x8 : Int) (x7 : List Int) (u : Int), x8 + 1 = d → d ≤ 8 → 0 ≤ u → x7.length = 8 → bigEnd u d ++ x7.drop d = bigEnd v 8 →
    Ev (fun k => impl_Sum.l1 k w u x7 x8) (strOfNums ((bigEnd v 8).drop (8 - w.toNat))) := by
  induction d with
  | zero =>
    intro x8 x7 u hd hd8 hu hl hx
    have : x7 = bigEnd v 8 := by simpa [bigEnd] using hx
    subst this
    refine Ev.step (f := fun _ => some (strOfNums ((bigEnd v 8).drop (8 - w.toNat)))) (fun k => ?_) (Ev.now _)
    simp only [impl_Sum.l1]
    rw [if_neg (by omega), w64 (by omega), if_pos (by omega), if_pos (by rw [bigEnd_len]; omega), show (8 - w).toNat = 8 - w.toNat by omega]
  | succ d ih =>
    intro x8 x7 u hd hd8 hu hl hx
    have hx8 : x8 = (d : Int) := by omega
    refine Ev.step (f := fun k => impl_Sum.l1 k w (u / 256) (x7.set d (u % 256)) (x8 - 1)) (fun k => ?_) ?_
    · simp only [impl_Sum.l1]
      rw [if_pos (by omega), if_pos (by omega), if_pos (by omega), w64 (by omega), show x8.toNat = d by omega]
    · refine ih (x8 - 1) _ (u / 256) (by omega) (by omega) (by omega) (by simpa using hl) ?_
      have e : (x7.set d (u % 256)).drop d = (u % 256) :: x7.drop (d + 1) := by
        rw [List.set_eq_take_append_cons_drop, if_pos (by omega), List.drop_left' (by simp; omega)]
      rw [← hx, e, bigEnd]; simp
theorem isum_in (s : ByteArray) (w : Int) (hw : 1 ≤ w ∧ w ≤ 8) (hs : s.size ≤ 4611686018427387904) (d : Nat) :
    ∀ (i : Nat), s.size - i = d → i ≤ s.size →
    Ev (fun k => impl_Sum.l0 k s w (((bytesOf s).take i).foldl fnvStep 14695981039346656037) i) (strOfNums ((bigEnd (fnv s) 8).drop (8 - w.toNat))) := by
  induction d with
  | zero =>
    intro i hd hi
    have : i = s.size := by omega
    subst this
    refine Ev.step (f := fun k => impl_Sum.l1 k w (fnv s) (List.replicate 8 0) 7) (fun k => ?_) ?_
    · simp only [impl_Sum.l0]
      rw [if_neg (by omega), if_pos (by decide), List.take_of_length_le (by rw [bytesOf_length]; exact Nat.le_refl _)]; rfl
    · exact isum_out w hw (fnv s) (fnv_range s).1 8 7 (List.replicate 8 0) (fnv s) rfl (by omega) (fnv_range s).1 (by simp) (by simp)
  | succ d ih =>
    intro i hd hi
    refine Ev.step (f := fun k => impl_Sum.l0 k s w (((bytesOf s).take (i + 1)).foldl fnvStep 14695981039346656037) ((i + 1 : Nat) : Int)) (fun k => ?_) (ih (i + 1) (by omega) (by omega))
    simp only [impl_Sum.l0]
    rw [if_pos (by omega), if_pos (by omega), w64 (by omega), bytes_take_succ s i (by omega), List.foldl_append]
    rfl
theorem bigEnd_drop (v : Int) (m n : Nat) : (bigEnd v (m + n)).drop m = bigEnd v n := by
  induction n generalizing v with
  | zero => rw [List.drop_eq_nil_of_le (by rw [bigEnd_len]; omega)]; rfl
  | succ n ih =>
    rw [← Nat.add_assoc, bigEnd, List.drop_append_of_le_length (by rw [bigEnd_len]; omega), ih]; rfl
theorem impl_Sum_ev (s : ByteArray) (w : Int) (hs : s.size ≤ 4611686018427387904) : Ev (fun k => impl_Sum.f k s w) (sumT s w) := by
  unfold impl_Sum.f
  refine Ev.bindC (in_eq _ _ _) ?_
  by_cases h : 1 ≤ w ∧ w ≤ 8
  · rw [decide_eq_true h]
    have e : strOfNums ((bigEnd (fnv s) 8).drop (8 - w.toNat)) = sumT s w := by
      unfold sumT
      rw [if_pos h]
      have := bigEnd_drop (fnv s) (8 - w.toNat) w.toNat
      rw [show 8 - w.toNat + w.toNat = 8 by omega] at this
      rw [this]
    rw [← e]
    exact Ev.pos rfl (isum_in s w h hs s.size 0 (by omega) (by omega))
  · rw [decide_eq_false h]; refine Ev.neg (by decide) ?_
    unfold sumT; rw [if_neg h]; exact Ev.now _
end Go.Proofs.YtgjipjffpodjlaaDoor.E
set_option linter.unusedSimpArgs false
namespace Go.Proofs.YtgjipjffpodjlaaDoor.E
open Go.RowKit Go.Proofs.YtgjipjffpodjlaaDoorW.PrintWords Go.Proofs.YtgjipjffpodjlaaDoorW.PrintLast Go.Proofs.YtgjipjffpodjlaaDoorW.PrintMore Go.Proofs.YtgjipjffpodjlaaDoor.U Go.Proofs.YtgjipjffpodjlaaDoor.K
def mkT (l : List UInt8) : ByteArray := ⟨l.toArray⟩
theorem mkT_list (l : List UInt8) : (mkT l).data.toList = l := rfl
theorem mkT_of (s : ByteArray) : mkT s.data.toList = s := text_ext rfl
theorem mkT_size (l : List UInt8) : (mkT l).size = l.length := by rw [← size_list]; rfl
def splA (c : UInt8) : List UInt8 → List UInt8 → List (List UInt8)
  | p, [] => [p]
  | p, x :: t => if x = c then p :: splA c [] t else splA c (p ++ [x]) t
def parts (c : UInt8) (s : ByteArray) : List ByteArray := (splA c [] s.data.toList).map mkT
theorem splA_free (c : UInt8) (a : List UInt8) (ha : c ∉ a) : ∀ p, splA c p a = [p ++ a] := by
  induction a with
  | nil => intro p; simp [splA]
  | cons x a ih =>
    intro p
    have hx : ¬ x = c := fun e => ha (by simp [e])
    rw [splA, if_neg hx, ih (fun h => ha (List.mem_cons_of_mem _ h))]
    simp
theorem splA_cut (c : UInt8) (a b : List UInt8) (ha : c ∉ a) : ∀ p, splA c p (a ++ c :: b) = (p ++ a) :: splA c [] b := by
  induction a with
  | nil => intro p; simp [splA]
  | cons x a ih =>
    intro p
    have hx : ¬ x = c := fun e => ha (by simp [e])
    rw [List.cons_append, splA, if_neg hx, ih (fun h => ha (List.mem_cons_of_mem _ h))]
    simp
theorem splA_ne (c : UInt8) (p a : List UInt8) : splA c p a ≠ [] := by
  induction a generalizing p with
  | nil => simp [splA]
  | cons x a ih => rw [splA]; split
                   · simp
                   · exact ih _
theorem splA_sizes (c : UInt8) (a : List UInt8) : ∀ p, ((splA c p a).map (fun q => q.length + 1)).sum = p.length + a.length + 1 := by
  induction a with
  | nil => intro p; simp [splA]
  | cons x a ih =>
    intro p
    rw [splA]
    split
    · rw [List.map_cons, List.sum_cons, ih]; simp; omega
    · rw [ih]; simp; omega
theorem splA_len (c : UInt8) (a : List UInt8) : ∀ p, (splA c p a).length ≤ a.length + 1 := by
  induction a with
  | nil => intro p; simp [splA]
  | cons x a ih =>
    intro p
    rw [splA]
    split
    · have := ih []; simp; omega
    · have := ih (p ++ [x]); simp; omega
theorem indexByte_out (l : List UInt8) (c : UInt8) : (Lib.indexByte l c = -1 ∧ c ∉ l) ∨ ∃ a b, l = a ++ c :: b ∧ c ∉ a ∧ Lib.indexByte l c = (a.length : Int) := by
  induction l with
  | nil => exact Or.inl ⟨rfl, by simp⟩
  | cons x l ih =>
    by_cases hx : x = c
    · subst hx
      exact Or.inr ⟨[], l, rfl, by simp, by simp [Lib.indexByte]⟩
    · rcases ih with ⟨h1, h2⟩ | ⟨a, b, h1, h2, h3⟩
      · refine Or.inl ⟨?_, ?_⟩
        · rw [Lib.indexByte]; simp [hx, h1]
        · simp [h2, Ne.symm hx]
      · refine Or.inr ⟨x :: a, b, by rw [h1]; rfl, by simp [h2, Ne.symm hx], ?_⟩
        rw [Lib.indexByte]
        simp [hx, h3]
theorem indexB_out (s : ByteArray) (c : UInt8) : (Lib.indexB s ⟨#[c]⟩ = -1 ∧ c ∉ s.data.toList) ∨ ∃ a b, s.data.toList = a ++ c :: b ∧ c ∉ a ∧ Lib.indexB s ⟨#[c]⟩ = (a.length : Int) := by
  rw [indexB_one]
  exact indexByte_out _ _
theorem countB_one (s : ByteArray) (c : UInt8) : Lib.countB s ⟨#[c]⟩ = s.data.toList.count c := by
  show Lib.count s.data.toList [c] = _
  exact Lib.count_one c _
theorem splitB_parts (c : UInt8) : ∀ (n : Nat) (s : ByteArray), s.data.toList.count c = n → Lib.splitB ⟨#[c]⟩ 0 n s = parts c s := by
  intro n
  induction n with
  | zero =>
    intro s hs
    rw [Lib.splitB_zero]
    unfold parts
    rw [splA_free c _ (List.count_eq_zero.1 hs)]
    simp [mkT_of]
  | succ n ih =>
    intro s hs
    rcases indexB_out s c with ⟨_, h2⟩ | ⟨a, b, h1, h2, h3⟩
    · rw [List.count_eq_zero.2 h2] at hs; omega
    · rw [Lib.splitB_hit _ _ _ _ _ h3]
      have hb : (s.extract (a.length + (⟨#[c]⟩ : ByteArray).size) s.size).data.toList = b := by
        rw [toList_ext, List.take_of_length_le (by rw [size_list]; exact Nat.le_refl _), h1]
        show List.drop (a.length + 1) _ = _
        simp
      have ha : s.extract 0 (a.length + 0) = mkT a := by
        apply text_ext
        rw [toList_ext, h1, mkT_list]
        simp
      rw [ih _ (by rw [hb]; rw [h1, List.count_append, List.count_cons_self, List.count_eq_zero.2 h2] at hs; omega), ha]
      unfold parts
      rw [hb, h1, splA_cut c a b h2]
      simp
theorem split_eq (s : ByteArray) (c : UInt8) (hs : s.size < 4294967281) : strings_Split.f s ⟨#[c]⟩ = some (parts c s) := by
  unfold strings_Split.f
  rw [if_pos ⟨rfl, hs⟩, splitB_parts c _ s (countB_one s c).symm]
theorem parts_len (c : UInt8) (s : ByteArray) : (parts c s).length ≤ s.size + 1 := by
  unfold parts
  rw [List.length_map, ← size_list]
  exact splA_len _ _ _
theorem bt_uint (s : ByteArray) (i : Nat) (h : i < s.size) (c : UInt8) : bt s i = (c.toNat : Int) ↔ s.data.toList[i]? = some c := by
  have hl : i < s.data.toList.length := by rw [size_list]; exact h
  rw [List.getElem?_eq_getElem hl]
  have e : bt s (i : Int) = ((s.data.toList[i]).toNat : Int) := by
    unfold bt
    rw [dif_pos (by simpa using h)]
    rfl
  rw [e]
  constructor
  · intro h
    have h2 : (s.data.toList[i]).toNat = c.toNat := by omega
    rw [UInt8.toNat_inj.1 h2]
  · intro h
    rw [Option.some.inj h]
theorem parts_loop (s : ByteArray) (hs : s.size < 8000000000000) (d : Nat) :
    ∀ (i from_ : Nat) (acc : List ByteArray), s.size - i = d → i ≤ s.size → from_ ≤ i → acc.length ≤ from_ →
    Ev (fun k => spec_l4Parts.l0 k s acc (from_ : Int) (i : Int)) (acc ++ (splA 47 ((s.data.toList.take i).drop from_) (s.data.toList.drop i)).map mkT) := by
  induction d with
  | zero =>
    intro i f acc hd hi hf ha
    have hi' : i = s.size := by omega
    subst hi'
    have e0 : s.data.toList.drop s.size = [] := List.drop_of_length_le (by rw [size_list]; exact Nat.le_refl _)
    rw [e0]
    simp only [splA]
    refine Ev.step (f := fun _ => some (acc ++ [s.extract f s.size])) (fun k => ?_) ?_
    · simp only [spec_l4Parts.l0]
      rw [if_neg (by omega), if_pos (by omega), if_pos (by omega), if_pos (by omega)]
      simp
    · have : mkT (List.drop f (List.take s.size s.data.toList)) = s.extract f s.size := by
        apply text_ext; rw [toList_ext, mkT_list]
      simp only [List.map_cons, List.map_nil, this]
      exact Ev.now _
  | succ d ih =>
    intro i f acc hd hi hf ha
    have hlt : i < s.size := by omega
    have hl : i < s.data.toList.length := by rw [size_list]; exact hlt
    rw [List.drop_eq_getElem_cons hl, splA]
    have hw : wrap64 ((i : Int) + 1) = ((i + 1 : Nat) : Int) := w64 (by omega)
    by_cases hc : s.data.toList[i] = 47
    · rw [if_pos hc]
      have hb : bt s (i : Int) = 47 := (bt_uint s i hlt 47).2 (by rw [List.getElem?_eq_getElem hl, hc])
      have e0 : List.drop (i + 1) (List.take (i + 1) s.data.toList) = [] := List.drop_of_length_le (by simp; omega)
      have e1 : mkT (List.drop f (List.take i s.data.toList)) = s.extract f i := by
        apply text_ext; rw [toList_ext, mkT_list]
      have e2 := ih (i + 1) (i + 1) (acc ++ [s.extract f i]) (by omega) (by omega) (Nat.le_refl _) (by simp; omega)
      rw [e0] at e2
      refine Ev.step (f := fun k => spec_l4Parts.l0 k s (acc ++ [s.extract f i]) ((i + 1 : Nat) : Int) ((i + 1 : Nat) : Int)) (fun k => ?_) ?_
      · simp only [spec_l4Parts.l0]
        rw [if_pos (by omega), if_pos (by omega), if_pos hb, if_pos (by omega), if_pos (by omega), if_pos (by omega), if_pos (by omega), hw]
        simp
      · rw [List.map_cons, e1]
        simpa using e2
    · rw [if_neg hc]
      have hb : ¬ bt s (i : Int) = 47 := fun h => hc (by have := (bt_uint s i hlt 47).1 h; rw [List.getElem?_eq_getElem hl] at this; exact Option.some.inj this)
      have e2 := ih (i + 1) f acc (by omega) (by omega) (by omega) ha
      rw [List.take_succ_eq_append_getElem hl, List.drop_append_of_le_length (by simp; omega)] at e2
      refine Ev.step (f := fun k => spec_l4Parts.l0 k s acc (f : Int) ((i + 1 : Nat) : Int)) (fun k => ?_) e2
      simp only [spec_l4Parts.l0]
      rw [if_pos (by omega), if_pos (by omega), if_neg hb, hw]
theorem l4Parts_ev (s : ByteArray) (hs : s.size < 8000000000000) : Ev (fun k => spec_l4Parts.f k s) (parts 47 s) := by
  have := parts_loop s hs s.size 0 0 [] (by omega) (by omega) (Nat.le_refl _) (Nat.le_refl _)
  simpa [spec_l4Parts.f, parts] using this
def okC (g : Bool) (b : Int) : Bool := !(decide (b < 33) || decide (b > 126) || decide (b = 34) || decide (b = 47) || (!g && (decide (b = 42) || decide (b = 63))))
def good (p : ByteArray) (g : Bool) : Bool := decide (1 ≤ p.size ∧ p.size ≤ 20) && !decide (p.data.toList = [46]) && !decide (p.data.toList = [46, 46]) && (bytesOf p).all (okC g)
theorem bytes_drop (s : ByteArray) (i : Nat) (h : i < s.size) : (bytesOf s).drop i = bt s i :: (bytesOf s).drop (i + 1) := by
  have hl : i < (bytesOf s).length := by rw [bytesOf_length]; exact h
  rw [List.drop_eq_getElem_cons hl]
  congr 1
  rw [← rd_bytesOf s i, rd]
  simp [List.getD, List.getElem?_eq_getElem hl]
theorem goodPart_loop (s : ByteArray) (g : Bool) (hs : s.size < 8000000000000) (d : Nat) :
    ∀ (i : Nat), s.size - i = d → i ≤ s.size → Ev (fun k => impl_goodPart.l0 k s g (i : Int)) (((bytesOf s).drop i).all (okC g)) := by
  induction d with
  | zero =>
    intro i hd hi
    rw [List.drop_of_length_le (by rw [bytesOf_length]; omega)]
    refine Ev.step (f := fun _ => some true) (fun k => ?_) (Ev.now _)
    simp only [impl_goodPart.l0]
    rw [if_neg (by omega)]
  | succ d ih =>
    intro i hd hi
    have hlt : i < s.size := by omega
    have hw : wrap64 ((i : Int) + 1) = ((i + 1 : Nat) : Int) := w64 (by omega)
    rw [bytes_drop s i hlt, List.all_cons]
    have e := ih (i + 1) (by omega) (by omega)
    refine Ev.step (f := fun k => if okC g (bt s i) = true then impl_goodPart.l0 k s g ((i + 1 : Nat) : Int) else some false) (fun k => ?_) ?_
    · simp only [impl_goodPart.l0, okC]
      rw [if_pos (by omega), if_pos (by omega), hw]
      by_cases h1 : bt s i < 33 <;> simp only [h1, decide_true, decide_false, Bool.true_or, Bool.false_or, Bool.not_true, if_true, if_false, Bool.false_eq_true]
      by_cases h2 : bt s i > 126 <;> simp only [h2, decide_true, decide_false, Bool.true_or, Bool.false_or, Bool.not_true, if_true, if_false, Bool.false_eq_true]
      by_cases h3 : bt s i = 34 <;> simp only [h3, decide_true, decide_false, Bool.true_or, Bool.false_or, Bool.not_true, if_true, if_false, Bool.false_eq_true]
      by_cases h4 : bt s i = 47 <;> simp only [h4, decide_true, decide_false, Bool.true_or, Bool.false_or, Bool.not_true, if_true, if_false, Bool.false_eq_true]
      cases g
      · by_cases h5 : bt s i = 42
        · simp [h5]
        · by_cases h6 : bt s i = 63
          · simp [h6]
          · simp [h5, h6]
      · simp
    · cases hk : okC g (bt s i)
      · simp only [Bool.false_eq_true, if_false, Bool.false_and]
        exact Ev.now _
      · simp only [if_true, Bool.true_and]
        exact e
theorem l4PartOk_loop (s : ByteArray) (g : Bool) (hs : s.size < 8000000000000) (d : Nat) :
    ∀ (i : Nat), s.size - i = d → i ≤ s.size → Ev (fun k => spec_l4PartOk.l0 k s g (i : Int)) (((bytesOf s).drop i).all (okC g)) := by
  induction d with
  | zero =>
    intro i hd hi
    rw [List.drop_of_length_le (by rw [bytesOf_length]; omega)]
    refine Ev.step (f := fun _ => some true) (fun k => ?_) (Ev.now _)
    simp only [spec_l4PartOk.l0]
    rw [if_neg (by omega)]
  | succ d ih =>
    intro i hd hi
    have hlt : i < s.size := by omega
    have hw : wrap64 ((i : Int) + 1) = ((i + 1 : Nat) : Int) := w64 (by omega)
    rw [bytes_drop s i hlt, List.all_cons]
    have e := ih (i + 1) (by omega) (by omega)
    refine Ev.step (f := fun k => if okC g (bt s i) = true then spec_l4PartOk.l0 k s g ((i + 1 : Nat) : Int) else some false) (fun k => ?_) ?_
    · simp only [spec_l4PartOk.l0, okC]
      rw [if_pos (by omega), if_pos (by omega), hw]
      by_cases h1 : bt s i < 33 <;> simp only [h1, decide_true, decide_false, Bool.true_or, Bool.false_or, Bool.not_true, if_true, if_false, Bool.false_eq_true]
      by_cases h2 : bt s i > 126 <;> simp only [h2, decide_true, decide_false, Bool.true_or, Bool.false_or, Bool.not_true, if_true, if_false, Bool.false_eq_true]
      by_cases h3 : bt s i = 34
      · have h4 : ¬ bt s i = 47 := by omega
        simp [h3]
      by_cases h4 : bt s i = 47
      · simp [h4]
      simp only [h3, h4, decide_true, decide_false, Bool.true_or, Bool.false_or, Bool.not_true, if_true, if_false, Bool.false_eq_true]
      cases g
      · by_cases h5 : bt s i = 42
        · simp [h5]
        · by_cases h6 : bt s i = 63
          · simp [h6]
          · simp [h5, h6]
      · simp
    · cases hk : okC g (bt s i)
      · simp only [Bool.false_eq_true, if_false, Bool.false_and]
        exact Ev.now _
      · simp only [if_true, Bool.true_and]
        exact e
theorem goodPart_ev (s : ByteArray) (g : Bool) (hs : s.size < 8000000000000) : Ev (fun k => impl_goodPart.f k s g) (good s g) := by
  have e := goodPart_loop s g hs s.size 0 (by omega) (by omega)
  have j0 : ∀ b : Bool, Ev (fun k => impl_goodPart.j0 k s g b) (!b && (bytesOf s).all (okC g)) := fun b => by
    refine Ev.step (f := fun k => if b = true then some false else impl_goodPart.l0 k s g 0) (fun k => by simp only [impl_goodPart.j0]) ?_
    cases b
    · simpa using e
    · exact Ev.now _
  unfold good
  simp only [impl_goodPart.f]
  refine Ev.bindC (in_eq _ _ _) ?_
  by_cases hz : 1 ≤ s.size ∧ s.size ≤ 20
  · refine Ev.pos (by simp; omega) ?_
    simp only [toList_eq]
    by_cases h1 : s.data.toList = [46]
    · refine Ev.pos h1 ?_
      simpa [h1] using j0 true
    · refine Ev.neg h1 ?_
      have := j0 (s.data.toList == ([46, 46] : List UInt8))
      by_cases h2 : s.data.toList = [46, 46]
      · simpa [h2] using this
      · have e2 : (s.data.toList == ([46, 46] : List UInt8)) = false := by simpa using h2
        rw [e2] at this ⊢
        simpa [hz, h1, h2] using this
  · refine Ev.neg (by simp; omega) ?_
    simpa [hz] using j0 true
theorem l4PartOk_ev (s : ByteArray) (g : Bool) (hs : s.size < 8000000000000) : Ev (fun k => spec_l4PartOk.f k s g) (good s g) := by
  have e := l4PartOk_loop s g hs s.size 0 (by omega) (by omega)
  have j0 : ∀ b : Bool, Ev (fun k => spec_l4PartOk.j0 k s g b) (!b && (bytesOf s).all (okC g)) := fun b => by
    refine Ev.step (f := fun k => if b = true then some false else spec_l4PartOk.l0 k s g 0) (fun k => by simp only [spec_l4PartOk.j0]) ?_
    cases b
    · simpa using e
    · exact Ev.now _
  unfold good
  simp only [spec_l4PartOk.f]
  refine Ev.bindC (l1In_eq _ _ _) ?_
  by_cases hz : 1 ≤ s.size ∧ s.size ≤ 20
  · refine Ev.pos (by simp; omega) ?_
    simp only [toList_eq]
    by_cases h1 : s.data.toList = [46]
    · refine Ev.pos h1 ?_
      simpa [h1] using j0 true
    · refine Ev.neg h1 ?_
      have := j0 (s.data.toList == ([46, 46] : List UInt8))
      by_cases h2 : s.data.toList = [46, 46]
      · simpa [h2] using this
      · have e2 : (s.data.toList == ([46, 46] : List UInt8)) = false := by simpa using h2
        rw [e2] at this ⊢
        simpa [hz, h1, h2] using this
  · refine Ev.neg (by simp; omega) ?_
    simpa [hz] using j0 true
def allGood (l : List ByteArray) (g : Bool) : Bool := decide (l.length ≤ 6) && l.all (fun p => good p g)
def validP (s : ByteArray) (g : Bool) : Bool := allGood (parts 47 s) g
theorem rdOf_drop (l : List ByteArray) (i : Nat) (h : i < l.length) : l.drop i = rdOf ByteArray.empty l (i : Int) :: l.drop (i + 1) := by
  rw [List.drop_eq_getElem_cons h]
  simp [rdOf, List.getD, List.getElem?_eq_getElem h]
theorem parts_all (l : List ByteArray) (g : Bool) (hl : l.length < 8000000000000) (hz : ∀ p ∈ l, p.size < 8000000000000) (d : Nat) :
    ∀ i : Nat, l.length - i = d → i ≤ l.length → Ev (fun k => impl_parts.l0 k g l (l.length : Int) (i : Int)) ((l.drop i).all (fun p => good p g)) := by
  induction d with
  | zero =>
    intro i hd hi
    rw [List.drop_of_length_le (by omega)]
    refine Ev.step (f := fun _ => some true) (fun k => ?_) (Ev.now _)
    simp only [impl_parts.l0]
    rw [if_neg (by omega)]
  | succ d ih =>
    intro i hd hi
    have hlt : i < l.length := by omega
    have hw : wrap64 ((i : Int) + 1) = ((i + 1 : Nat) : Int) := w64 (by omega)
    have hm : rdOf ByteArray.empty l (i : Int) ∈ l := by
      have : rdOf ByteArray.empty l (i : Int) ∈ l.drop i := by rw [rdOf_drop l i hlt]; exact List.mem_cons_self
      exact List.mem_of_mem_drop this
    have e := ih (i + 1) (by omega) (by omega)
    have eg := goodPart_ev (rdOf ByteArray.empty l (i : Int)) g (hz _ hm)
    rw [rdOf_drop l i hlt, List.all_cons]
    refine Ev.step (f := fun k => (impl_goodPart.f k (rdOf ByteArray.empty l (i : Int)) g).bind fun t => if t = true then impl_parts.l0 k g l (l.length : Int) ((i + 1 : Nat) : Int) else some false) (fun k => ?_) ?_
    · simp only [impl_parts.l0]
      rw [if_pos (by omega), if_pos (by omega), if_pos (by omega), hw]
    · refine Ev.bind eg ?_
      cases good (rdOf ByteArray.empty l (i : Int)) g
      · simp only [Bool.false_eq_true, if_false, Bool.false_and]; exact Ev.now _
      · simp only [if_true, Bool.true_and]; exact e
theorem l4Ok_all (l : List ByteArray) (g : Bool) (hl : l.length < 8000000000000) (hz : ∀ p ∈ l, p.size < 8000000000000) (d : Nat) :
    ∀ i : Nat, l.length - i = d → i ≤ l.length → Ev (fun k => spec_l4Ok.l0 k g l (i : Int)) ((l.drop i).all (fun p => good p g)) := by
  induction d with
  | zero =>
    intro i hd hi
    rw [List.drop_of_length_le (by omega)]
    refine Ev.step (f := fun _ => some true) (fun k => ?_) (Ev.now _)
    simp only [spec_l4Ok.l0]
    rw [if_neg (by omega)]
  | succ d ih =>
    intro i hd hi
    have hlt : i < l.length := by omega
    have hw : wrap64 ((i : Int) + 1) = ((i + 1 : Nat) : Int) := w64 (by omega)
    have hm : rdOf ByteArray.empty l (i : Int) ∈ l := by
      have : rdOf ByteArray.empty l (i : Int) ∈ l.drop i := by rw [rdOf_drop l i hlt]; exact List.mem_cons_self
      exact List.mem_of_mem_drop this
    have e := ih (i + 1) (by omega) (by omega)
    have eg := l4PartOk_ev (rdOf ByteArray.empty l (i : Int)) g (hz _ hm)
    rw [rdOf_drop l i hlt, List.all_cons]
    refine Ev.step (f := fun k => (spec_l4PartOk.f k (rdOf ByteArray.empty l (i : Int)) g).bind fun t => if t = true then spec_l4Ok.l0 k g l ((i + 1 : Nat) : Int) else some false) (fun k => ?_) ?_
    · simp only [spec_l4Ok.l0]
      rw [if_pos (by omega), if_pos (by omega), hw]
    · refine Ev.bind eg ?_
      cases good (rdOf ByteArray.empty l (i : Int)) g
      · simp only [Bool.false_eq_true, if_false, Bool.false_and]; exact Ev.now _
      · simp only [if_true, Bool.true_and]; exact e
theorem parts_sizes (c : UInt8) (s : ByteArray) : ((parts c s).map (fun q => q.size + 1)).sum = s.size + 1 := by
  have := splA_sizes c s.data.toList []
  unfold parts
  rw [List.map_map]
  have e : ((fun q : ByteArray => q.size + 1) ∘ mkT) = (fun q : List UInt8 => q.length + 1) := by funext q; simp [mkT_size]
  rw [e, this, size_list]
  simp
theorem sum_mem (l : List ByteArray) (p : ByteArray) (h : p ∈ l) : p.size + 1 ≤ (l.map (fun q => q.size + 1)).sum := by
  induction l with
  | nil => cases h
  | cons x l ih =>
    rw [List.map_cons, List.sum_cons]
    rcases List.mem_cons.1 h with rfl | h
    · omega
    · have := ih h; omega
theorem part_le (c : UInt8) (s : ByteArray) (p : ByteArray) (h : p ∈ parts c s) : p.size ≤ s.size := by
  have := sum_mem _ _ h
  rw [parts_sizes] at this
  omega
theorem sum_small (l : List ByteArray) (g : Bool) (h : l.all (fun p => good p g) = true) : (l.map (fun q => q.size + 1)).sum ≤ 21 * l.length := by
  induction l with
  | nil => simp
  | cons x l ih =>
    rw [List.all_cons, Bool.and_eq_true] at h
    have h1 : x.size ≤ 20 := by
      have := h.1
      simp only [good, Bool.and_eq_true, decide_eq_true_eq] at this
      exact this.1.1.1.2
    have := ih h.2
    rw [List.map_cons, List.sum_cons, List.length_cons]
    omega
theorem validP_size (s : ByteArray) (g : Bool) (h : validP s g = true) : s.size ≤ 125 := by
  unfold validP allGood at h
  rw [Bool.and_eq_true, decide_eq_true_eq] at h
  have := sum_small _ _ h.2
  rw [parts_sizes] at this
  omega
theorem parts_ev (s : ByteArray) (g : Bool) (hs : s.size < 4294967281) : Ev (fun k => impl_parts.f k s g) (validP s g) := by
  have hl := parts_len 47 s
  simp only [impl_parts.f]
  refine Ev.bindC (split_eq s 47 hs) ?_
  unfold validP allGood
  by_cases h6 : (parts 47 s).length ≤ 6
  · refine Ev.neg (by omega) ?_
    simp only [h6, decide_true, Bool.true_and]
    exact parts_all (parts 47 s) g (by omega) (fun p hp => by have := part_le _ _ _ hp; omega) _ 0 rfl (by omega)
  · refine Ev.pos (by omega) ?_
    simp only [h6, decide_false, Bool.false_and]
    exact Ev.now _
theorem l4Ok_ev (s : ByteArray) (g : Bool) : Ev (fun k => spec_l4Ok.f k s g) (validP s g) := by
  have hl := parts_len 47 s
  simp only [spec_l4Ok.f]
  by_cases hz : s.size ≤ 126
  · refine Ev.neg (by omega) ?_
    refine Ev.bind (l4Parts_ev s (by omega)) ?_
    unfold validP allGood
    by_cases h6 : (parts 47 s).length ≤ 6
    · refine Ev.neg (by omega) ?_
      simp only [h6, decide_true, Bool.true_and]
      exact l4Ok_all (parts 47 s) g (by omega) (fun p hp => by have := part_le _ _ _ hp; omega) _ 0 rfl (by omega)
    · refine Ev.pos (by omega) ?_
      simp only [h6, decide_false, Bool.false_and]
      exact Ev.now _
  · refine Ev.pos (by omega) ?_
    have : validP s g = false := by
      rcases h : validP s g with _ | _
      · rfl
      · have := validP_size s g h; omega
    rw [this]
    exact Ev.now _
theorem impl_ValidPath_ev (s : ByteArray) (hs : s.size < 4294967281) : Ev (fun k => impl_ValidPath.f k s) (validP s false) := by
  simp only [impl_ValidPath.f]
  exact Ev.bind (parts_ev s false hs) (Ev.now _)
theorem spec_ValidPath_ev (s : ByteArray) : Ev (fun k => spec_ValidPath.f k s) (validP s false) := by
  simp only [spec_ValidPath.f]
  exact Ev.bind (l4Ok_ev s false) (Ev.now _)
end Go.Proofs.YtgjipjffpodjlaaDoor.E
set_option linter.unusedSimpArgs false
namespace Go.Proofs.YtgjipjffpodjlaaDoor.E
open Go.RowKit Go.Proofs.YtgjipjffpodjlaaDoorW.PrintWords Go.Proofs.YtgjipjffpodjlaaDoorW.PrintLast Go.Proofs.YtgjipjffpodjlaaDoorW.PrintMore Go.Proofs.YtgjipjffpodjlaaDoor.U Go.Proofs.YtgjipjffpodjlaaDoor.K
open Go.Lib
def isHex (b : UInt8) : Bool := decide (48 ≤ b.toNat ∧ b.toNat ≤ 57) || decide (97 ≤ b.toNat ∧ b.toNat ≤ 102)
def digits : ByteArray := ⟨#[48, 49, 50, 51, 52, 53, 54, 55, 56, 57, 97, 98, 99, 100, 101, 102]⟩
def dig (n : Nat) : UInt8 := ([48, 49, 50, 51, 52, 53, 54, 55, 56, 57, 97, 98, 99, 100, 101, 102] : List UInt8).getD n 0
def hexL (l : List UInt8) : List UInt8 := l.flatMap fun b => [dig (b.toNat / 16), dig (b.toNat % 16)]
def hexT (s : ByteArray) : ByteArray := mkT (hexL s.data.toList)
theorem byte_all {p : UInt8 → Bool} (h : ∀ n : Fin 256, p (UInt8.ofNat n.1) = true) (c : UInt8) : p c = true := by
  have := h ⟨c.toNat, c.toNat_lt⟩
  simpa using this
theorem contains_hex (c : UInt8) : strings_Contains.f digits ⟨#[c]⟩ = some (isHex c) := by
  have h := byte_all (p := fun c => decide (0 ≤ Lib.indexByte [48, 49, 50, 51, 52, 53, 54, 55, 56, 57, 97, 98, 99, 100, 101, 102] c) == isHex c) (by decide +kernel) c
  unfold strings_Contains.f
  rw [if_pos (show (⟨#[c]⟩ : ByteArray).size = 1 from rfl), indexB_one]
  rw [show digits.data.toList = [48, 49, 50, 51, 52, 53, 54, 55, 56, 57, 97, 98, 99, 100, 101, 102] from rfl]
  exact congrArg some (eq_of_beq h)
theorem v_hex (c : UInt8) (h : isHex c = true) : Hx.v c ≤ 15 := by
  have h' := byte_all (p := fun c => !isHex c || decide (Hx.v c ≤ 15)) (by decide +kernel) c
  simpa [h] using h'
theorem dig_v (c : UInt8) (h : isHex c = true) : dig (Hx.v c) = c := by
  have h' := byte_all (p := fun c => !isHex c || decide (dig (Hx.v c) = c)) (by decide +kernel) c
  simpa [h] using h'
theorem v_dig (c : UInt8) : UInt8.ofNat (Hx.v (dig (c.toNat / 16)) * 16 + Hx.v (dig (c.toNat % 16))) = c ∧ ¬ 15 < Hx.v (dig (c.toNat / 16)) ∧ ¬ 15 < Hx.v (dig (c.toNat % 16)) := by
  have h' := byte_all (p := fun c => decide (UInt8.ofNat (Hx.v (dig (c.toNat / 16)) * 16 + Hx.v (dig (c.toNat % 16))) = c ∧ ¬ 15 < Hx.v (dig (c.toNat / 16)) ∧ ¬ 15 < Hx.v (dig (c.toNat % 16)))) (by decide +kernel) c
  simpa only [decide_eq_true_eq] using h'
theorem decode_hex : ∀ l : List UInt8, l.all isHex = true → l.length % 2 = 0 → (Hx.decode l).2 = .ok ∧ hexL (Hx.decode l).1 = l
  | [], _, _ => by rw [Hx.decode_nil]; exact ⟨rfl, rfl⟩
  | [c], _, h => by simp at h
  | p :: q :: t, h, hl => by
    simp only [List.all_cons, Bool.and_eq_true] at h
    obtain ⟨hp, hq, ht⟩ := h
    have vp := v_hex p hp
    have vq := v_hex q hq
    obtain ⟨i1, i2⟩ := decode_hex t ht (by simp at hl; omega)
    rw [Hx.decode_two, if_neg (by omega), if_neg (by omega)]
    refine ⟨i1, ?_⟩
    have hb : (UInt8.ofNat (Hx.v p * 16 + Hx.v q)).toNat = Hx.v p * 16 + Hx.v q := by
      rw [UInt8.toNat_ofNat']; omega
    show List.flatMap _ _ = _
    rw [List.flatMap_cons, hb, show (Hx.v p * 16 + Hx.v q) / 16 = Hx.v p by omega, show (Hx.v p * 16 + Hx.v q) % 16 = Hx.v q by omega, dig_v p hp, dig_v q hq]
    show p :: q :: hexL _ = _
    rw [i2]
theorem dec_hexL (l : List UInt8) : (Hx.decode (hexL l)).1 = l := by
  induction l with
  | nil => rw [show hexL [] = [] from rfl, Hx.decode_nil]
  | cons c l ih =>
    obtain ⟨h1, h2, h3⟩ := v_dig c
    rw [show hexL (c :: l) = dig (c.toNat / 16) :: dig (c.toNat % 16) :: hexL l from rfl, Hx.decode_two, if_neg h2, if_neg h3, h1, ih]
theorem hex_same (t : ByteArray) (h : List UInt8) (hh : h.all isHex = true) (hl : h.length % 2 = 0) : hexT t = mkT h ↔ t = mkT (Hx.decode h).1 := by
  constructor
  · intro e
    have e1 : hexL t.data.toList = h := by have := congrArg (fun x : ByteArray => x.data.toList) e; exact this
    apply text_ext
    rw [mkT_list, ← e1, dec_hexL]
  · intro e
    rw [e]
    show mkT (hexL (mkT _).data.toList) = _
    rw [mkT_list, (decode_hex h hh hl).2]
theorem strOfNums_bytes (l : List UInt8) : strOfNums (l.map fun b => (b.toNat : Int)) = mkT l := by
  apply text_ext
  rw [mkT_list, strOfNums_data, List.map_map]
  have e : ((fun n : Int => UInt8.ofNat n.toNat) ∘ fun b : UInt8 => (b.toNat : Int)) = id := by funext b; simp
  rw [e, List.map_id]
theorem decodeString_eq (h : List UInt8) (hh : h.all isHex = true) (hl : h.length % 2 = 0) (hz : h.length ≤ 100000) : hex_DecodeString.f (mkT h) = some ((Hx.decode h).1.map (fun b => (b.toNat : Int)), none) := by
  unfold hex_DecodeString.f
  rw [mkT_size, mkT_list, (decode_hex h hh hl).1, if_pos ⟨hl, by omega, rfl⟩]
theorem bt_get (s : ByteArray) (i : Nat) (h : i < s.data.toList.length) : bt s (i : Int) = ((s.data.toList[i]).toNat : Int) := by
  unfold bt
  rw [size_list] at h
  rw [dif_pos (by simpa using h)]
  rfl
theorem bt_digits (n : Nat) (h : n < 16) : bt digits (n : Int) = ((dig n).toNat : Int) := by
  have : ∀ n : Fin 16, bt digits (n.1 : Int) = ((dig n.1).toNat : Int) := by decide +kernel
  exact this ⟨n, h⟩
theorem l9Hex_loop (s : ByteArray) (hs : s.size ≤ 1000) (d : Nat) :
    ∀ i : Nat, s.size - i = d → i ≤ s.size → Ev (fun k => spec_l9Hex.l0 k s digits ((hexL (s.data.toList.take i)).map fun b => (b.toNat : Int)) (i : Int)) (hexT s) := by
  have hlen : ∀ l : List UInt8, (hexL l).length = 2 * l.length := fun l => by
    induction l with
    | nil => rfl
    | cons c l ih => rw [show hexL (c :: l) = dig (c.toNat / 16) :: dig (c.toNat % 16) :: hexL l from rfl]; simp [ih]; omega
  induction d with
  | zero =>
    intro i hd hi
    have hi' : i = s.size := by omega
    subst hi'
    rw [List.take_of_length_le (by rw [size_list]; exact Nat.le_refl _)]
    refine Ev.step (f := fun _ => some (hexT s)) (fun k => ?_) (Ev.now _)
    simp only [spec_l9Hex.l0]
    rw [if_neg (by omega), strOfNums_bytes]
    rfl
  | succ d ih =>
    intro i hd hi
    have hlt : i < s.size := by omega
    have hl : i < s.data.toList.length := by rw [size_list]; exact hlt
    have hw : wrap64 ((i : Int) + 1) = ((i + 1 : Nat) : Int) := w64 (by omega)
    have e := ih (i + 1) (by omega) (by omega)
    have hc := (s.data.toList[i]).toNat_lt
    have h1 : Int.tdiv (bt s i) 16 % 256 = (((s.data.toList[i]).toNat / 16 : Nat) : Int) := by
      rw [bt_get s i hl, Int.tdiv_eq_ediv_of_nonneg (by omega)]; omega
    have h2 : Int.tmod (bt s i) 16 = (((s.data.toList[i]).toNat % 16 : Nat) : Int) := by
      rw [bt_get s i hl, Int.tmod_eq_emod_of_nonneg (by omega)]; omega
    have hd16 : (digits.size : Int) = 16 := rfl
    have e3 : (hexL (s.data.toList.take (i + 1))) = hexL (s.data.toList.take i) ++ [dig ((s.data.toList[i]).toNat / 16), dig ((s.data.toList[i]).toNat % 16)] := by
      rw [List.take_succ_eq_append_getElem hl]
      simp [hexL]
    rw [e3] at e
    refine Ev.step (f := fun k => spec_l9Hex.l0 k s digits (((hexL (s.data.toList.take i) ++ [dig ((s.data.toList[i]).toNat / 16), dig ((s.data.toList[i]).toNat % 16)])).map fun b => (b.toNat : Int)) ((i + 1 : Nat) : Int)) (fun k => ?_) e
    simp only [spec_l9Hex.l0]
    rw [if_pos (by omega), if_pos (by omega), h1, h2, hd16, if_pos (by omega), if_pos (by omega), if_pos (by omega), if_pos (by omega), Option.bind_some, if_pos, hw, bt_digits _ (by omega), bt_digits _ (by omega)]
    · simp
    · rw [List.length_map, hlen, List.length_take, size_list]
      simp
      omega
theorem l9Hex_ev (s : ByteArray) (hs : s.size ≤ 1000) : Ev (fun k => spec_l9Hex.f k s) (hexT s) := by
  have := l9Hex_loop s hs s.size 0 (by omega) (by omega)
  simpa [spec_l9Hex.f, hexL, digits] using this
end Go.Proofs.YtgjipjffpodjlaaDoor.E
set_option linter.unusedSimpArgs false
set_option linter.unusedVariables false
namespace Go.Proofs.YtgjipjffpodjlaaDoor.E
open Go.RowKit Go.Proofs.YtgjipjffpodjlaaDoorW.PrintWords Go.Proofs.YtgjipjffpodjlaaDoorW.PrintLast Go.Proofs.YtgjipjffpodjlaaDoorW.PrintMore Go.Proofs.YtgjipjffpodjlaaDoor.U Go.Proofs.YtgjipjffpodjlaaDoor.K
open Go.Lib
structure Ln where
  k : UInt8
  n : ByteArray
  h : List UInt8
abbrev SI := S88
abbrev SS := S78
def toI (x : Ln) : SI := ⟨mkT [x.k], x.n, mkT (Hx.decode x.h).1⟩
def toS (x : Ln) : SS := ⟨(x.k.toNat : Int), x.n, mkT x.h⟩
def rdI := @rd_T88
def rdS := @rd_T78
def IsLine (w : Nat) (a : List UInt8) (x : UInt8) (q r : List UInt8) : Prop :=
  a = x :: 32 :: (q ++ 32 :: r) ∧ (x = 100 ∨ x = 102 ∨ x = 120) ∧ good (mkT q) false = true ∧ r.length = 2 * w ∧ r.all isHex = true
def ordOk (ls : List Ln) (n : ByteArray) : Bool := match ls.getLast? with
  | none => true
  | some y => Op.bytesLess y.n.data.toList n.data.toList
theorem good_no (q : List UInt8) (g : Bool) (h : good (mkT q) g = true) (c : UInt8) (hc : c.toNat < 33) : c ∉ q := by
  intro hm
  simp only [good, Bool.and_eq_true, List.all_eq_true] at h
  have := h.2 (c.toNat : Int) (by show (c.toNat : Int) ∈ (mkT q).data.toList.map _; rw [mkT_list]; exact List.mem_map.2 ⟨c, hm, rfl⟩)
  simp only [okC, Bool.not_eq_true', Bool.or_eq_false_iff, decide_eq_false_iff_not] at this
  omega
theorem hex_no (r : List UInt8) (h : r.all isHex = true) (c : UInt8) (hc : c.toNat < 48) : c ∉ r := by
  intro hm
  have := List.all_eq_true.1 h c hm
  simp only [isHex, Bool.or_eq_true, decide_eq_true_eq] at this
  omega
theorem line_parts {w : Nat} {a : List UInt8} {x : UInt8} {q r : List UInt8} (h : IsLine w a x q r) : parts 32 (mkT a) = [mkT [x], mkT q, mkT r] := by
  obtain ⟨rfl, hx, hq, hr, hh⟩ := h
  unfold parts
  rw [mkT_list]
  have h1 := splA_cut 32 [x] (q ++ 32 :: r) (by rcases hx with rfl | rfl | rfl <;> decide) []
  have h2 := splA_cut 32 q r (good_no q false hq 32 (by decide)) []
  have h3 := splA_free 32 r (hex_no r hh 32 (by decide)) []
  rw [show x :: 32 :: (q ++ 32 :: r) = [x] ++ 32 :: (q ++ 32 :: r) from rfl, h1, h2, h3]
  rfl
theorem splA_three (c : UInt8) : ∀ (a p : List UInt8) (l : List (List UInt8)), splA c p a = l → ∃ t, l = (p ++ (a.takeWhile (· ≠ c))) :: t ∧ (t = [] → p ++ a = p ++ a.takeWhile (· ≠ c)) ∧ (t ≠ [] → ∃ b, a = a.takeWhile (· ≠ c) ++ c :: b ∧ splA c [] b = t) := by
  intro a
  induction a with
  | nil => intro p l h; subst h; exact ⟨[], by simp [splA], by simp, fun h => absurd rfl h⟩
  | cons x a ih =>
    intro p l h
    rw [splA] at h
    by_cases hx : x = c
    · subst hx
      rw [if_pos rfl] at h
      subst h
      refine ⟨splA x [] a, by simp, fun h => absurd h (splA_ne _ _ _), fun _ => ⟨a, by simp, rfl⟩⟩
    · rw [if_neg hx] at h
      obtain ⟨t, h1, h2, h3⟩ := ih (p ++ [x]) l h
      refine ⟨t, by rw [h1]; simp [hx], fun ht => by simpa [hx] using h2 ht, fun ht => ?_⟩
      obtain ⟨b, hb, hs⟩ := h3 ht
      exact ⟨b, by rw [List.takeWhile_cons, if_pos (by simpa using hx)]; rw [List.cons_append, ← hb], hs⟩
theorem parts_three (a : List UInt8) (p q r : ByteArray) (h : parts 32 (mkT a) = [p, q, r]) : a = p.data.toList ++ 32 :: (q.data.toList ++ 32 :: r.data.toList) := by
  unfold parts at h
  rw [mkT_list] at h
  have e : splA 32 [] a = [p.data.toList, q.data.toList, r.data.toList] := by
    have := congrArg (List.map fun x : ByteArray => x.data.toList) h
    rw [List.map_map] at this
    have e2 : ((fun x : ByteArray => x.data.toList) ∘ mkT) = id := by funext x; rfl
    rw [e2, List.map_id] at this
    exact this
  obtain ⟨t, h1, h2, h3⟩ := splA_three 32 a [] _ e
  obtain ⟨e1, rfl⟩ := List.cons.inj h1
  obtain ⟨b, hb, hs⟩ := h3 (by simp)
  obtain ⟨t', g1, g2, g3⟩ := splA_three 32 b [] _ hs
  obtain ⟨e2, rfl⟩ := List.cons.inj g1
  obtain ⟨b', hb', hs'⟩ := g3 (by simp)
  obtain ⟨t'', k1, k2, k3⟩ := splA_three 32 b' [] _ hs'
  obtain ⟨e3, rfl⟩ := List.cons.inj k1
  have e4 := k2 rfl
  simp only [List.nil_append] at e1 e2 e3 e4
  rw [hb, hb', e4, ← e3, ← e2, ← e1]
theorem impl_hex_good (rest : ByteArray) (w : Int) (acc : List SI) (f : List ByteArray) (r : List UInt8) (hf : f.length = 3) (hr : rdOf ByteArray.empty f 2 = mkT r) (hz : r.length ≤ 100000) {R : List SI × Bool}
    (hR : Ev (fun k => impl_rows.l1 k rest w acc f (r.length : Int)) R) (d : Nat) : ∀ i : Nat, r.length - i = d → i ≤ r.length → (r.drop i).all isHex = true → Ev (fun k => impl_rows.l1 k rest w acc f (i : Int)) R := by
  induction d with
  | zero => intro i hd hi _; rw [show i = r.length by omega]; exact hR
  | succ d ih =>
    intro i hd hi hh
    have hlt : i < r.length := by omega
    rw [List.drop_eq_getElem_cons hlt, List.all_cons, Bool.and_eq_true] at hh
    have hw : wrap64 ((i : Int) + 1) = ((i + 1 : Nat) : Int) := w64 (by omega)
    have hx : (mkT r).extract i (i + 1) = ⟨#[r[i]]⟩ := by
      apply text_ext
      rw [toList_ext, mkT_list, List.take_succ_eq_append_getElem hlt, List.drop_append_of_le_length (by rw [List.length_take]; omega), List.drop_of_length_le (by rw [List.length_take]; omega)]
      rfl
    refine Ev.step (f := fun k => impl_rows.l1 k rest w acc f ((i + 1 : Nat) : Int)) (fun k => ?_) (ih (i + 1) (by omega) (by omega) hh.2)
    simp only [impl_rows.l1]
    rw [if_pos (by omega), hr, mkT_size, if_pos (by omega), if_pos (by omega), hw, if_pos (by omega), if_pos (by omega)]
    show (strings_Contains.f digits _).bind _ = _
    rw [show ((i : Int)).toNat = i by omega, show (((i + 1 : Nat) : Int)).toNat = i + 1 by omega, hx, contains_hex, Option.bind_some, if_pos hh.1]
theorem impl_hex_bad (rest : ByteArray) (w : Int) (acc : List SI) (f : List ByteArray) (r : List UInt8) (hf : f.length = 3) (hr : rdOf ByteArray.empty f 2 = mkT r) (hz : r.length ≤ 100000)
    (d : Nat) : ∀ i : Nat, r.length - i = d → i ≤ r.length → (r.drop i).all isHex = false → Ev (fun k => impl_rows.l1 k rest w acc f (i : Int)) ([], false) := by
  induction d with
  | zero => intro i hd hi hh; rw [List.drop_of_length_le (by omega)] at hh; cases hh
  | succ d ih =>
    intro i hd hi hh
    have hlt : i < r.length := by omega
    rw [List.drop_eq_getElem_cons hlt, List.all_cons] at hh
    have hw : wrap64 ((i : Int) + 1) = ((i + 1 : Nat) : Int) := w64 (by omega)
    have hx : (mkT r).extract i (i + 1) = ⟨#[r[i]]⟩ := by
      apply text_ext
      rw [toList_ext, mkT_list, List.take_succ_eq_append_getElem hlt, List.drop_append_of_le_length (by rw [List.length_take]; omega), List.drop_of_length_le (by rw [List.length_take]; omega)]
      rfl
    have st : ∀ k, impl_rows.l1 (k + 1) rest w acc f (i : Int) = if isHex r[i] = true then impl_rows.l1 k rest w acc f ((i + 1 : Nat) : Int) else some ([], false) := fun k => by
      simp only [impl_rows.l1]
      rw [if_pos (by omega), hr, mkT_size, if_pos (by omega), if_pos (by omega), hw, if_pos (by omega), if_pos (by omega)]
      show (strings_Contains.f digits _).bind _ = _
      rw [show ((i : Int)).toNat = i by omega, show (((i + 1 : Nat) : Int)).toNat = i + 1 by omega, hx, contains_hex, Option.bind_some]
    refine Ev.step st ?_
    by_cases h1 : isHex r[i] = true
    · rw [h1, Bool.true_and] at hh
      exact Ev.pos h1 (ih (i + 1) (by omega) (by omega) hh)
    · exact Ev.neg h1 (Ev.now _)
theorem last_rdI (ls : List Ln) (y : Ln) (h : ls.getLast? = some y) : rdI (ls.map toI) (((ls.map toI).length : Int) - 1) = toI y := by
  obtain ⟨l, rfl⟩ := List.getLast?_eq_some_iff.1 h
  show List.getD _ _ _ = _
  simp [List.getD]
theorem last_rdS (ls : List Ln) (y : Ln) (h : ls.getLast? = some y) : rdS (ls.map toS) (((ls.map toS).length : Int) - 1) = toS y := by
  obtain ⟨l, rfl⟩ := List.getLast?_eq_some_iff.1 h
  show List.getD _ _ _ = _
  simp [List.getD]
theorem impl_after (rest : ByteArray) (w : Int) (ls : List Ln) (x : UInt8) (q r : List UInt8) (hr : r.length % 2 = 0) (hh : r.all isHex = true) (hz : r.length ≤ 100000) (hl : ls.length < 2000000000000) :
    (ordOk ls (mkT q) = false → Ev (fun k => impl_rows.l1 k rest w (ls.map toI) [mkT [x], mkT q, mkT r] (r.length : Int)) ([], false)) ∧
    ∀ R, ordOk ls (mkT q) = true → Ev (fun k => impl_rows.l0 k rest w ((ls ++ [(⟨x, mkT q, r⟩ : Ln)]).map toI)) R → Ev (fun k => impl_rows.l1 k rest w (ls.map toI) [mkT [x], mkT q, mkT r] (r.length : Int)) R := by
  have h0 : rdOf ByteArray.empty [mkT [x], mkT q, mkT r] 0 = mkT [x] := rfl
  have h1 : rdOf ByteArray.empty [mkT [x], mkT q, mkT r] 1 = mkT q := rfl
  have h2 : rdOf ByteArray.empty [mkT [x], mkT q, mkT r] 2 = mkT r := rfl
  have hlen : (([mkT [x], mkT q, mkT r] : List ByteArray).length : Int) = 3 := rfl
  have hds := decodeString_eq r hh hr hz
  have st : ∀ k, impl_rows.l1 (k + 1) rest w (ls.map toI) [mkT [x], mkT q, mkT r] (r.length : Int) = if ordOk ls (mkT q) = true then impl_rows.l0 k rest w ((ls ++ [(⟨x, mkT q, r⟩ : Ln)]).map toI) else some ([], false) := fun k => by
    have hap : (ls ++ [(⟨x, mkT q, r⟩ : Ln)]).map toI = ls.map toI ++ [(⟨mkT [x], mkT q, strOfNums ((Hx.decode r).1.map (fun b => (b.toNat : Int)))⟩ : SI)] := by
      rw [strOfNums_bytes]; simp [toI]
    simp only [impl_rows.l1]
    rw [hlen, h2, mkT_size, if_pos (by omega), if_neg (by omega), hap]
    rcases hg : ls.getLast? with _ | y
    · obtain rfl := List.getLast?_eq_none_iff.1 hg
      rw [if_neg (by simp), hds, Option.bind_some, if_pos (by omega), if_pos (by omega), if_pos (by simp)]
      rw [if_pos (by simp [ordOk])]
      rfl
    · have hne : ls ≠ [] := fun e => by rw [e] at hg; cases hg
      have hpos : 0 < ls.length := List.length_pos_iff.2 hne
      have hw : wrap64 (((ls.map toI).length : Int) - 1) = ((ls.map toI).length : Int) - 1 := w64 (by rw [List.length_map]; omega)
      have hrd : rdI (ls.map toI) (((ls.map toI).length : Int) - 1) = toI y := last_rdI ls y hg
      unfold rdI at hrd
      have hlm : ((ls.map toI).length : Int) = (ls.length : Int) := by rw [List.length_map]
      rw [if_pos (by rw [hlm]; omega), hw, if_pos (by rw [hlm]; omega), if_pos (by omega), if_pos (by omega), hrd, h1]
      have ho : ordOk ls (mkT q) = Op.bytesLess y.n.data.toList q := by unfold ordOk; rw [hg]; rfl
      rw [ho]
      simp only [toI, toList_eq, mkT_list]
      by_cases hb : Op.bytesLess y.n.data.toList q = true
      · rw [if_pos hb, if_pos hb, hds, Option.bind_some, if_pos (by omega), if_pos (by simp; omega)]
        rfl
      · rw [if_neg hb, if_neg hb]
  constructor
  · intro ho
    exact Ev.step st (Ev.neg (by rw [ho]; decide) (Ev.now _))
  · intro R ho hR
    exact Ev.step st (Ev.pos ho hR)
end Go.Proofs.YtgjipjffpodjlaaDoor.E
set_option linter.unusedSimpArgs false
set_option linter.unusedVariables false
namespace Go.Proofs.YtgjipjffpodjlaaDoor.E
open Go.RowKit Go.Proofs.YtgjipjffpodjlaaDoorW.PrintWords Go.Proofs.YtgjipjffpodjlaaDoorW.PrintLast Go.Proofs.YtgjipjffpodjlaaDoorW.PrintMore Go.Proofs.YtgjipjffpodjlaaDoor.U Go.Proofs.YtgjipjffpodjlaaDoor.K
open Go.Lib
theorem indexByte_hit (a b : List UInt8) (c : UInt8) (ha : c ∉ a) : Lib.indexByte (a ++ c :: b) c = (a.length : Int) := by
  induction a with
  | nil => simp [Lib.indexByte]
  | cons x a ih =>
    have hx : ¬ x = c := fun e => ha (by simp [e])
    have := ih (fun h => ha (List.mem_cons_of_mem _ h))
    rw [List.cons_append, Lib.indexByte]
    simp [hx, this]
theorem indexByte_miss (a : List UInt8) (c : UInt8) (ha : c ∉ a) : Lib.indexByte a c = -1 := by
  induction a with
  | nil => rfl
  | cons x a ih =>
    have hx : ¬ x = c := fun e => ha (by simp [e])
    have := ih (fun h => ha (List.mem_cons_of_mem _ h))
    rw [Lib.indexByte]
    simp [hx, this]
theorem cut_hit (s : ByteArray) (a b : List UInt8) (c : UInt8) (hs : s.size < 4294967281) (h : s.data.toList = a ++ c :: b) (ha : c ∉ a) : strings_Cut.f s ⟨#[c]⟩ = some (mkT a, mkT b, true) := by
  unfold strings_Cut.f
  rw [if_pos ⟨rfl, hs⟩]
  have hi : Lib.index s.data.toList (⟨#[c]⟩ : ByteArray).data.toList = (a.length : Int) := by
    show Lib.index s.data.toList [c] = _
    rw [Lib.index_one, h, indexByte_hit a b c ha]
  unfold Lib.cut
  rw [hi, if_pos (by omega), h]
  show some (mkT _, mkT _, true) = _
  simp [mkT]
theorem cut_miss (s : ByteArray) (c : UInt8) (hs : s.size < 4294967281) (ha : c ∉ s.data.toList) : strings_Cut.f s ⟨#[c]⟩ = some (s, mkT [], false) := by
  unfold strings_Cut.f
  rw [if_pos ⟨rfl, hs⟩]
  have hi : Lib.index s.data.toList (⟨#[c]⟩ : ByteArray).data.toList = -1 := by
    show Lib.index s.data.toList [c] = _
    rw [Lib.index_one, indexByte_miss _ c ha]
  unfold Lib.cut
  rw [hi, if_neg (by omega)]
  rfl
theorem nonempty_of {s : ByteArray} {a b : List UInt8} {c : UInt8} (h : s.data.toList = a ++ c :: b) : ¬ s.toList = ([] : List UInt8) := by
  rw [toList_eq, h]; simp
theorem impl_j1_bad (k0 : Nat) (rest : ByteArray) (w : Int) (acc : List SI) (f : List ByteArray) : Ev (fun k => impl_rows.j1 k rest w acc f true) ([], false) :=
  Ev.step (f := fun _ => some ([], false)) (fun k => by simp only [impl_rows.j1]; rfl) (Ev.now _)
theorem impl_j1_go {R : List SI × Bool} (rest : ByteArray) (w : Int) (acc : List SI) (f : List ByteArray) (h : Ev (fun k => impl_rows.l1 k rest w acc f 0) R) : Ev (fun k => impl_rows.j1 k rest w acc f false) R :=
  Ev.step (f := fun k => impl_rows.l1 k rest w acc f 0) (fun k => by simp only [impl_rows.j1]; rfl) h
theorem len3 {α : Type} (l : List α) (h : l.length = 3) : ∃ p q r, l = [p, q, r] := by
  match l, h with
  | [p, q, r], _ => exact ⟨p, q, r, rfl⟩
theorem impl_line (s : ByteArray) (a b : List UInt8) (w : Nat) (hw : 1 ≤ w ∧ w ≤ 8) (ls : List Ln) (hs : s.size ≤ 2000000) (h : s.data.toList = a ++ 10 :: b) (ha : (10 : UInt8) ∉ a) (hl : ls.length < 2000000000000) :
    ((¬ ∃ x q r, IsLine w a x q r) → Ev (fun k => impl_rows.l0 k s (w : Int) (ls.map toI)) ([], false)) ∧
    ∀ x q r, IsLine w a x q r → (ordOk ls (mkT q) = false → Ev (fun k => impl_rows.l0 k s (w : Int) (ls.map toI)) ([], false)) ∧
      ∀ R, ordOk ls (mkT q) = true → Ev (fun k => impl_rows.l0 k (mkT b) (w : Int) ((ls ++ [(⟨x, mkT q, r⟩ : Ln)]).map toI)) R → Ev (fun k => impl_rows.l0 k s (w : Int) (ls.map toI)) R := by
  have hal : a.length ≤ 2000000 := by
    have := congrArg List.length h
    rw [size_list, List.length_append, List.length_cons] at this
    omega
  have hww : wrap64 (2 * (w : Int)) = 2 * (w : Int) := w64 (by omega)
  have hsp := split_eq (mkT a) 32 (by rw [mkT_size]; omega)
  have st : ∀ k, impl_rows.l0 (k + 1) s (w : Int) (ls.map toI) = if (parts 32 (mkT a)).length = 3 then (if (rdOf ByteArray.empty (parts 32 (mkT a)) 0).data.toList = [100] ∨ (rdOf ByteArray.empty (parts 32 (mkT a)) 0).data.toList = [102] ∨ (rdOf ByteArray.empty (parts 32 (mkT a)) 0).data.toList = [120] then
        (impl_goodPart.f k (rdOf ByteArray.empty (parts 32 (mkT a)) 1) false).bind fun t => (if t = true then impl_rows.j1 k (mkT b) (w : Int) (ls.map toI) (parts 32 (mkT a)) (((rdOf ByteArray.empty (parts 32 (mkT a)) 2).size : Int) != 2 * (w : Int)) else impl_rows.j1 k (mkT b) (w : Int) (ls.map toI) (parts 32 (mkT a)) true)
        else impl_rows.j1 k (mkT b) (w : Int) (ls.map toI) (parts 32 (mkT a)) true) else impl_rows.j1 k (mkT b) (w : Int) (ls.map toI) (parts 32 (mkT a)) true := fun k => by
    simp only [impl_rows.l0]
    rw [if_neg (nonempty_of h), cut_hit s a b 10 (by omega) h ha, Option.bind_some, if_pos rfl]
    show (strings_Split.f (mkT a) _).bind _ = _
    rw [hsp, Option.bind_some]
    by_cases h3 : (parts 32 (mkT a)).length = 3
    · rw [if_pos (by omega), if_pos h3, if_pos (by omega), hww]
      simp only [toList_eq]
      by_cases k1 : (rdOf ByteArray.empty (parts 32 (mkT a)) 0).data.toList = [100]
      · rw [if_pos k1, if_pos (Or.inl k1), if_pos (by omega)]
        congr 1
        funext t
        rw [if_pos (show (2 : Int) < ((parts 32 (mkT a)).length : Int) by omega)]
      · rw [if_neg k1]
        by_cases k2 : (rdOf ByteArray.empty (parts 32 (mkT a)) 0).data.toList = [102]
        · rw [if_pos k2, if_pos (Or.inr (Or.inl k2)), if_pos (by omega)]
          congr 1
          funext t
          rw [if_pos (show (2 : Int) < ((parts 32 (mkT a)).length : Int) by omega)]
        · rw [if_neg k2]
          by_cases k3 : (rdOf ByteArray.empty (parts 32 (mkT a)) 0).data.toList = [120]
          · rw [if_pos k3, if_pos (Or.inr (Or.inr k3)), if_pos (by omega)]
            congr 1
            funext t
            rw [if_pos (show (2 : Int) < ((parts 32 (mkT a)).length : Int) by omega)]
          · rw [if_neg k3, if_neg (fun h' => h'.elim k1 (fun h' => h'.elim k2 k3))]
    · rw [if_neg (show ¬ ((parts 32 (mkT a)).length : Int) = 3 by omega), if_neg h3]
  constructor
  · intro hno
    refine Ev.step st ?_
    by_cases h3 : (parts 32 (mkT a)).length = 3
    · refine Ev.pos h3 ?_
      obtain ⟨p, q, r, hp⟩ := len3 _ h3
      have hjoin := parts_three a p q r hp
      have hin : ∀ t ∈ ([p, q, r] : List ByteArray), t.size ≤ (mkT a).size := fun t ht => part_le 32 (mkT a) t (by rw [hp]; exact ht)
      have hq1 := hin q (by simp)
      have hr1 := hin r (by simp)
      rw [mkT_size] at hq1 hr1
      rw [hp]
      have r0 : rdOf ByteArray.empty [p, q, r] 0 = p := rfl
      have r1 : rdOf ByteArray.empty [p, q, r] 1 = q := rfl
      have r2 : rdOf ByteArray.empty [p, q, r] 2 = r := rfl
      rw [r0, r1, r2]
      by_cases hk : p.data.toList = [100] ∨ p.data.toList = [102] ∨ p.data.toList = [120]
      · refine Ev.pos hk ?_
        refine Ev.bind (goodPart_ev q false (by omega)) ?_
        rcases hg : good q false with _ | _
        · exact Ev.neg (by decide) (impl_j1_bad 0 _ _ _ _)
        · refine Ev.pos rfl ?_
          by_cases hz : (r.size : Int) = 2 * (w : Int)
          · rw [show ((r.size : Int) != 2 * (w : Int)) = false by simp [hz]]
            refine impl_j1_go _ _ _ _ ?_
            have hrl : r.data.toList.length = 2 * w := by rw [size_list]; omega
            have hmr : mkT r.data.toList = r := mkT_of r
            have := impl_hex_bad (mkT b) (w : Int) (ls.map toI) [p, q, r] r.data.toList rfl (by rw [hmr]; rfl) (by omega) _ 0 rfl (by omega) (by
              rw [List.drop_zero]
              rcases hh : r.data.toList.all isHex with _ | _
              · rfl
              · exfalso
                have hgq : good (mkT q.data.toList) false = true := by rw [mkT_of]; exact hg
                rcases hk with hk | hk | hk
                · exact hno ⟨100, q.data.toList, r.data.toList, by rw [hjoin, hk]; rfl, by simp, hgq, hrl, hh⟩
                · exact hno ⟨102, q.data.toList, r.data.toList, by rw [hjoin, hk]; rfl, by simp, hgq, hrl, hh⟩
                · exact hno ⟨120, q.data.toList, r.data.toList, by rw [hjoin, hk]; rfl, by simp, hgq, hrl, hh⟩)
            exact this
          · rw [show ((r.size : Int) != 2 * (w : Int)) = true by simpa using hz]
            exact impl_j1_bad 0 _ _ _ _
      · exact Ev.neg hk (impl_j1_bad 0 _ _ _ _)
    · exact Ev.neg h3 (impl_j1_bad 0 _ _ _ _)
  · intro x q r hI
    have hp := line_parts hI
    obtain ⟨hae, hx, hq, hr, hh⟩ := hI
    have hqr : q.length ≤ 2000000 ∧ r.length ≤ 2000000 := by
      have := congrArg List.length hae
      simp at this
      omega
    have go : ∀ R, Ev (fun k => impl_rows.l1 k (mkT b) (w : Int) (ls.map toI) [mkT [x], mkT q, mkT r] (r.length : Int)) R → Ev (fun k => impl_rows.l0 k s (w : Int) (ls.map toI)) R := fun R hR => by
      refine Ev.step st ?_
      rw [hp]
      refine Ev.pos rfl ?_
      have r0 : rdOf ByteArray.empty [mkT [x], mkT q, mkT r] 0 = mkT [x] := rfl
      have r1 : rdOf ByteArray.empty [mkT [x], mkT q, mkT r] 1 = mkT q := rfl
      have r2 : rdOf ByteArray.empty [mkT [x], mkT q, mkT r] 2 = mkT r := rfl
      rw [r0, r1, r2, mkT_list]
      refine Ev.pos (by rcases hx with rfl | rfl | rfl <;> simp) ?_
      refine Ev.bind (goodPart_ev (mkT q) false (by rw [mkT_size]; omega)) ?_
      rw [hq]
      refine Ev.pos rfl ?_
      rw [show (((mkT r).size : Int) != 2 * (w : Int)) = false by rw [mkT_size]; simp; omega]
      refine impl_j1_go _ _ _ _ ?_
      exact impl_hex_good (mkT b) (w : Int) (ls.map toI) [mkT [x], mkT q, mkT r] r rfl rfl (by omega) hR _ 0 rfl (by omega) (by rw [List.drop_zero]; exact hh)
    obtain ⟨a1, a2⟩ := impl_after (mkT b) (w : Int) ls x q r (by omega) hh (by omega) hl
    exact ⟨fun ho => go _ (a1 ho), fun R ho hR => go _ (a2 R ho hR)⟩
theorem spec_hex_good (s : ByteArray) (w : Int) (acc : List SS) (n : Int) (x : Int) (q : ByteArray) (r : List UInt8) (hz : r.length ≤ 100000) {R : List SS × Bool}
    (hR : Ev (fun k => spec_l9Read.l2 k s w acc n (r.length : Int) x q (mkT r)) R) (d : Nat) : ∀ i : Nat, r.length - i = d → i ≤ r.length → (r.drop i).all isHex = true → Ev (fun k => spec_l9Read.l2 k s w acc n (i : Int) x q (mkT r)) R := by
  induction d with
  | zero => intro i hd hi _; rw [show i = r.length by omega]; exact hR
  | succ d ih =>
    intro i hd hi hh
    have hlt : i < r.length := by omega
    rw [List.drop_eq_getElem_cons hlt, List.all_cons, Bool.and_eq_true] at hh
    have hw : wrap64 ((i : Int) + 1) = ((i + 1 : Nat) : Int) := w64 (by omega)
    have hb : bt (mkT r) (i : Int) = ((r[i]).toNat : Int) := bt_get (mkT r) i hlt
    have hx := hh.1
    simp only [isHex, Bool.or_eq_true, decide_eq_true_eq] at hx
    refine Ev.step (f := fun k => spec_l9Read.l2 k s w acc n ((i + 1 : Nat) : Int) x q (mkT r)) (fun k => ?_) (ih (i + 1) (by omega) (by omega) hh.2)
    simp only [spec_l9Read.l2]
    rw [mkT_size, if_pos (by omega), if_pos (by omega), hb, hw]
    by_cases h1 : ((r[i]).toNat : Int) < 48
    · omega
    · rw [if_neg h1]
      by_cases h2 : ((r[i]).toNat : Int) > 57
      · rw [if_pos h2, if_neg (by omega), if_neg (by omega)]
      · rw [if_neg h2]
theorem spec_hex_bad (s : ByteArray) (w : Int) (acc : List SS) (n : Int) (x : Int) (q : ByteArray) (r : List UInt8) (hz : r.length ≤ 100000)
    (d : Nat) : ∀ i : Nat, r.length - i = d → i ≤ r.length → (r.drop i).all isHex = false → Ev (fun k => spec_l9Read.l2 k s w acc n (i : Int) x q (mkT r)) (acc, false) := by
  induction d with
  | zero => intro i hd hi hh; rw [List.drop_of_length_le (by omega)] at hh; cases hh
  | succ d ih =>
    intro i hd hi hh
    have hlt : i < r.length := by omega
    rw [List.drop_eq_getElem_cons hlt, List.all_cons] at hh
    have hw : wrap64 ((i : Int) + 1) = ((i + 1 : Nat) : Int) := w64 (by omega)
    have hb : bt (mkT r) (i : Int) = ((r[i]).toNat : Int) := bt_get (mkT r) i hlt
    have st : ∀ k, spec_l9Read.l2 (k + 1) s w acc n (i : Int) x q (mkT r) = if isHex r[i] = true then spec_l9Read.l2 k s w acc n ((i + 1 : Nat) : Int) x q (mkT r) else some (acc, false) := fun k => by
      simp only [spec_l9Read.l2]
      rw [mkT_size, if_pos (by omega), if_pos (by omega), hb, hw]
      simp only [isHex, Bool.or_eq_true, decide_eq_true_eq]
      by_cases h1 : ((r[i]).toNat : Int) < 48
      · rw [if_pos h1, if_pos (by omega), if_neg (by omega)]
      · rw [if_neg h1]
        by_cases h2 : ((r[i]).toNat : Int) > 57
        · rw [if_pos h2]
          by_cases h3 : ((r[i]).toNat : Int) < 97
          · rw [if_pos h3, if_neg (by omega)]
          · rw [if_neg h3]
            by_cases h4 : ((r[i]).toNat : Int) > 102
            · rw [if_pos h4, if_neg (by omega)]
            · rw [if_neg h4, if_pos (by omega)]
        · rw [if_neg h2, if_pos (by omega)]
    refine Ev.step st ?_
    by_cases h1 : isHex r[i] = true
    · rw [h1, Bool.true_and] at hh
      exact Ev.pos h1 (ih (i + 1) (by omega) (by omega) hh)
    · exact Ev.neg h1 (Ev.now _)
theorem spec_find (s : ByteArray) (w : Int) (acc : List SS) (n : Nat) (hn : n ≤ s.size) (hs : s.size ≤ 2000000) (hend : n < s.size → bt s (n : Int) = 10) (hbef : ∀ j : Nat, j < n → bt s (j : Int) ≠ 10) {R : List SS × Bool}
    (hR : Ev (fun k => spec_l9Read.j2 k s w acc (n : Int)) R) (d : Nat) : ∀ i : Nat, n - i = d → i ≤ n → Ev (fun k => spec_l9Read.l1 k s w acc (i : Int)) R := by
  induction d with
  | zero =>
    intro i hd hi
    obtain rfl : i = n := by omega
    refine Ev.step (f := fun k => spec_l9Read.j2 k s w acc (i : Int)) (fun k => ?_) hR
    simp only [spec_l9Read.l1]
    by_cases h : i < s.size
    · rw [if_pos (by omega), if_pos (by omega), if_pos (hend h)]
    · rw [if_neg (by omega)]
  | succ d ih =>
    intro i hd hi
    have hw : wrap64 ((i : Int) + 1) = ((i + 1 : Nat) : Int) := w64 (by omega)
    refine Ev.step (f := fun k => spec_l9Read.l1 k s w acc ((i + 1 : Nat) : Int)) (fun k => ?_) (ih (i + 1) (by omega) (by omega))
    simp only [spec_l9Read.l1]
    rw [if_pos (by omega), if_pos (by omega), if_neg (hbef i (by omega)), hw]
theorem spec_j3_bad (s : ByteArray) (w : Int) (acc : List SS) (n m : Int) : Ev (fun k => spec_l9Read.j3 k s w acc n m true) (acc, false) :=
  Ev.step (f := fun _ => some (acc, false)) (fun k => by simp only [spec_l9Read.j3]; rfl) (Ev.now _)
theorem j2_step (s : ByteArray) (w : Int) (acc : List SS) (n : Nat) (m : Int) (hn : n < s.size) (hm : wrap64 (wrap64 ((n : Int) - wrap64 (2 * w)) - 1) = m) (hmn : m < n) (k : Nat) :
    spec_l9Read.j2 (k + 1) s w acc (n : Int) = spec_l9Read.j3 k s w acc (n : Int) m (decide (m < 3) || !(decide (bt s 0 = 100) || decide (bt s 0 = 102) || decide (bt s 0 = 120)) || decide (bt s 1 ≠ 32) || decide (bt s m ≠ 32)) := by
  simp only [spec_l9Read.j2]
  rw [if_neg (by omega), hm]
  by_cases h1 : m < 3
  · rw [if_pos h1]; simp [h1]
  · rw [if_neg h1, if_pos (by omega)]
    have hne : (bt s m != 32) = decide (bt s m ≠ 32) := by by_cases h : bt s m = 32 <;> simp [h]
    have e1 : (1 : Int) < (s.size : Int) := by omega
    have e2 : (0 : Int) ≤ m := by omega
    have e3 : m < (s.size : Int) := by omega
    by_cases k1 : bt s 0 = 100
    · rw [if_pos k1, if_pos e1]
      by_cases h2 : bt s 1 = 32
      · rw [if_pos h2, if_pos e2, if_pos e3, hne]; simp [h1, k1, h2]
      · rw [if_neg h2]; simp [h1, k1, h2]
    · rw [if_neg k1]
      by_cases k2 : bt s 0 = 102
      · rw [if_pos k2, if_pos e1]
        by_cases h2 : bt s 1 = 32
        · rw [if_pos h2, if_pos e2, if_pos e3, hne]; simp [h1, k2, h2]
        · rw [if_neg h2]; simp [h1, k2, h2]
      · rw [if_neg k2]
        by_cases k3 : bt s 0 = 120
        · rw [if_pos k3, if_pos e1]
          by_cases h2 : bt s 1 = 32
          · rw [if_pos h2, if_pos e2, if_pos e3, hne]; simp [h1, k3, h2]
          · rw [if_neg h2]; simp [h1, k3, h2]
        · rw [if_neg k3]; simp [h1, k1, k2, k3]
end Go.Proofs.YtgjipjffpodjlaaDoor.E
set_option linter.unusedSimpArgs false
set_option linter.unusedVariables false
namespace Go.Proofs.YtgjipjffpodjlaaDoor.E
open Go.RowKit Go.Proofs.YtgjipjffpodjlaaDoorW.PrintWords Go.Proofs.YtgjipjffpodjlaaDoorW.PrintLast Go.Proofs.YtgjipjffpodjlaaDoorW.PrintMore Go.Proofs.YtgjipjffpodjlaaDoor.U Go.Proofs.YtgjipjffpodjlaaDoor.K
open Go.Lib
def Shape (w : Nat) (a : List UInt8) (x : UInt8) (q r : List UInt8) : Prop :=
  a = x :: 32 :: (q ++ 32 :: r) ∧ (x = 100 ∨ x = 102 ∨ x = 120) ∧ r.length = 2 * w ∧ 1 ≤ q.length
theorem shape_of_line {w : Nat} {a : List UInt8} {x : UInt8} {q r : List UInt8} (h : IsLine w a x q r) : Shape w a x q r := by
  obtain ⟨h1, h2, h3, h4, _⟩ := h
  refine ⟨h1, h2, h4, ?_⟩
  simp only [good, Bool.and_eq_true, decide_eq_true_eq] at h3
  have := h3.1.1.1.1
  rwa [mkT_size] at this
theorem line_of_shape {w : Nat} {a : List UInt8} {x : UInt8} {q r : List UInt8} (h : Shape w a x q r) (hg : good (mkT q) false = true) (hh : r.all isHex = true) : IsLine w a x q r :=
  ⟨h.1, h.2.1, hg, h.2.2.1, hh⟩
theorem decomp (a : List UInt8) (m : Nat) (h2 : 2 ≤ m) (hm : m < a.length) : a = a[0] :: a[1] :: ((a.take m).drop 2 ++ a[m] :: a.drop (m + 1)) := by
  match a, m, h2, hm with
  | [], m, _, hm => exact absurd hm (Nat.not_lt_zero _)
  | [_], m, h2, hm => exact absurd hm (by simp; omega)
  | x :: y :: t, m + 2, _, hm =>
    have ht : m < t.length := by simpa using hm
    have e : t = t.take m ++ t[m] :: t.drop (m + 1) := by
      rw [← List.drop_eq_getElem_cons ht, List.take_append_drop]
    simp only [List.getElem_cons_zero, List.getElem_cons_succ, List.take_succ_cons, List.drop_succ_cons, List.drop_zero]
    rw [← e]
theorem not_lt3 {n : Nat} (h : 1 ≤ n) : ¬ ((n + 2 : Nat) : Int) < 3 := by omega
theorem byte_of {c d : UInt8} (h : (c.toNat : Int) = (d.toNat : Int)) : c = d := UInt8.toNat_inj.1 (by omega)
theorem bt_at' (s : ByteArray) (a b : List UInt8) (h : s.data.toList = a ++ b) (j : Nat) (hj : j < a.length) : bt s (j : Int) = ((a[j]).toNat : Int) := by
  have hl : j < s.data.toList.length := by rw [h, List.length_append]; omega
  rw [bt_get s j hl]
  simp [h, List.getElem_append_left hj]
theorem ext_of (s : ByteArray) (a b : List UInt8) (h : s.data.toList = a ++ b) (i j : Nat) (hj : j ≤ a.length) : s.extract i j = mkT ((a.take j).drop i) := by
  apply text_ext
  rw [toList_ext, h, mkT_list, List.take_append_of_le_length hj]
theorem spec_l0_step (s : ByteArray) (w : Int) (acc : List SS) (hne : ¬ s.toList = ([] : List UInt8)) {R : List SS × Bool} (h : Ev (fun k => spec_l9Read.l1 k s w acc 0) R) : Ev (fun k => spec_l9Read.l0 k s w acc) R :=
  Ev.step (f := fun k => spec_l9Read.l1 k s w acc 0) (fun k => by simp only [spec_l9Read.l0]; rw [if_neg hne]) h
theorem spec_j4_bad (s : ByteArray) (w : Int) (acc : List SS) (n x : Int) (q r : ByteArray) : Ev (fun k => spec_l9Read.j4 k s w acc n true x q r) (acc, false) :=
  Ev.step (f := fun _ => some (acc, false)) (fun k => by simp only [spec_l9Read.j4]; rfl) (Ev.now _)
theorem spec_j4_go (s : ByteArray) (w : Int) (acc : List SS) (n x : Int) (q r : ByteArray) {R : List SS × Bool} (h : Ev (fun k => spec_l9Read.l2 k s w acc n 0 x q r) R) : Ev (fun k => spec_l9Read.j4 k s w acc n false x q r) R :=
  Ev.step (f := fun k => spec_l9Read.l2 k s w acc n 0 x q r) (fun k => by simp only [spec_l9Read.j4]; rfl) h
theorem to_j2 (s : ByteArray) (a b : List UInt8) (w : Int) (acc : List SS) (hs : s.size ≤ 2000000) (h : s.data.toList = a ++ 10 :: b) (ha : (10 : UInt8) ∉ a) {R : List SS × Bool} (hR : Ev (fun k => spec_l9Read.j2 k s w acc (a.length : Int)) R) :
    Ev (fun k => spec_l9Read.l0 k s w acc) R := by
  have hl := congrArg List.length h
  rw [size_list, List.length_append, List.length_cons] at hl
  refine spec_l0_step s w acc (nonempty_of h) ?_
  refine spec_find s w acc a.length (by omega) hs (fun _ => ?_) (fun j hj => ?_) hR _ 0 rfl (by omega)
  · have := bt_at' s (a ++ [10]) b (by rw [h]; simp) a.length (by simp)
    rw [this]
    simp
  · rw [bt_at' s a (10 :: b) h j hj]
    intro e
    have : a[j] = 10 := byte_of e
    exact ha (this ▸ List.getElem_mem hj)
theorem spec_noshape (s : ByteArray) (a b : List UInt8) (w : Nat) (hw : 1 ≤ w ∧ w ≤ 8) (acc : List SS) (hs : s.size ≤ 2000000) (h : s.data.toList = a ++ 10 :: b) (ha : (10 : UInt8) ∉ a)
    (hno : ¬ ∃ x q r, Shape w a x q r) : Ev (fun k => spec_l9Read.l0 k s (w : Int) acc) (acc, false) := by
  have hl := congrArg List.length h
  rw [size_list, List.length_append, List.length_cons] at hl
  have hm : wrap64 (wrap64 ((a.length : Int) - wrap64 (2 * (w : Int))) - 1) = (a.length : Int) - 2 * w - 1 := by
    rw [w64 (n := 2 * (w : Int)) (by omega), w64 (n := (a.length : Int) - 2 * w) (by omega), w64 (by omega)]
  refine to_j2 s a b (w : Int) acc hs h ha ?_
  refine Ev.step (j2_step s (w : Int) acc a.length _ (by omega) hm (by omega)) ?_
  rcases hf : (decide ((a.length : Int) - 2 * w - 1 < 3) || !(decide (bt s 0 = 100) || decide (bt s 0 = 102) || decide (bt s 0 = 120)) || decide (bt s 1 ≠ 32) || decide (bt s ((a.length : Int) - 2 * w - 1) ≠ 32)) with _ | _
  · exfalso
    simp only [Bool.or_eq_false_iff, decide_eq_false_iff_not, Bool.not_eq_false', Bool.or_eq_true, decide_eq_true_eq, Decidable.not_not] at hf
    obtain ⟨⟨⟨f1, f2⟩, f3⟩, f4⟩ := hf
    obtain ⟨m, hmm⟩ : ∃ m : Nat, (m : Int) = (a.length : Int) - 2 * w - 1 := ⟨((a.length : Int) - 2 * w - 1).toNat, by omega⟩
    rw [← hmm] at f4
    have hml : m < a.length := by omega
    have hd := decomp a m (by omega) hml
    have b0 := bt_at' s a (10 :: b) h 0 (by omega)
    have b1 := bt_at' s a (10 :: b) h 1 (by omega)
    have bm := bt_at' s a (10 :: b) h m hml
    have g1 : a[1] = 32 := byte_of (b1.symm.trans f3)
    have gm : a[m] = 32 := byte_of (bm.symm.trans f4)
    have g0 : a[0] = 100 ∨ a[0] = 102 ∨ a[0] = 120 := by
      rcases f2 with (f2 | f2) | f2
      · exact Or.inl (byte_of (b0.symm.trans f2))
      · exact Or.inr (Or.inl (byte_of (b0.symm.trans f2)))
      · exact Or.inr (Or.inr (byte_of (b0.symm.trans f2)))
    rw [g1, gm] at hd
    exact hno ⟨a[0], (a.take m).drop 2, a.drop (m + 1), hd, g0, by rw [List.length_drop]; omega, by rw [List.length_drop, List.length_take]; omega⟩
  · exact spec_j3_bad _ _ _ _ _
theorem spec_shape (s : ByteArray) (a b : List UInt8) (w : Nat) (hw : 1 ≤ w ∧ w ≤ 8) (ls : List Ln) (hs : s.size ≤ 2000000) (h : s.data.toList = a ++ 10 :: b) (ha : (10 : UInt8) ∉ a) (hl : ls.length < 2000000000000)
    (x : UInt8) (q r : List UInt8) (hS : Shape w a x q r) :
    (good (mkT q) false = false → Ev (fun k => spec_l9Read.l0 k s (w : Int) (ls.map toS)) (ls.map toS, false)) ∧
    (good (mkT q) false = true → ordOk ls (mkT q) = false → Ev (fun k => spec_l9Read.l0 k s (w : Int) (ls.map toS)) (ls.map toS, false)) ∧
    (good (mkT q) false = true → ordOk ls (mkT q) = true → r.all isHex = false → Ev (fun k => spec_l9Read.l0 k s (w : Int) (ls.map toS)) (ls.map toS, false)) ∧
    (good (mkT q) false = true → ordOk ls (mkT q) = true → r.all isHex = true → ∀ R, Ev (fun k => spec_l9Read.l0 k (mkT b) (w : Int) ((ls ++ [(⟨x, mkT q, r⟩ : Ln)]).map toS)) R → Ev (fun k => spec_l9Read.l0 k s (w : Int) (ls.map toS)) R) := by
  obtain ⟨hae, hx, hr, hq1⟩ := hS
  have hla := congrArg List.length hae
  simp only [List.length_cons, List.length_append] at hla
  have hls := congrArg List.length h
  rw [size_list, List.length_append, List.length_cons] at hls
  have hm : wrap64 (wrap64 ((a.length : Int) - wrap64 (2 * (w : Int))) - 1) = ((q.length + 2 : Nat) : Int) := by
    rw [w64 (n := 2 * (w : Int)) (by omega), w64 (n := (a.length : Int) - 2 * w) (by omega), w64 (by omega)]
    omega
  have b0 : bt s 0 = (x.toNat : Int) := by
    have := bt_at' s a (10 :: b) h 0 (by omega)
    rw [show bt s 0 = bt s ((0 : Nat) : Int) from rfl, this]
    simp [hae]
  have b1 : bt s 1 = 32 := by
    have := bt_at' s a (10 :: b) h 1 (by omega)
    rw [show bt s 1 = bt s ((1 : Nat) : Int) from rfl, this]
    simp [hae]
  have bm : bt s ((q.length + 2 : Nat) : Int) = 32 := by
    rw [bt_at' s a (10 :: b) h (q.length + 2) (by omega)]
    simp [hae]
  have eq_ : s.extract 2 (q.length + 2) = mkT q := by
    rw [ext_of s a (10 :: b) h 2 (q.length + 2) (by omega), hae]
    simp
  have er_ : s.extract (q.length + 3) a.length = mkT r := by
    rw [ext_of s a (10 :: b) h (q.length + 3) a.length (Nat.le_refl _), List.take_length, hae]
    simp
  have eb_ : s.extract (a.length + 1) s.size = mkT b := by
    apply text_ext
    rw [toList_ext, List.take_of_length_le (by rw [size_list]; exact Nat.le_refl _), h, mkT_list]
    simp
  have hw1 : wrap64 (((q.length + 2 : Nat) : Int) + 1) = ((q.length + 3 : Nat) : Int) := w64 (by omega)
  have go : ∀ R, Ev (fun k => spec_l9Read.j3 k s (w : Int) (ls.map toS) (a.length : Int) ((q.length + 2 : Nat) : Int) false) R → Ev (fun k => spec_l9Read.l0 k s (w : Int) (ls.map toS)) R := fun R hR => by
    refine to_j2 s a b (w : Int) (ls.map toS) hs h ha ?_
    have hx1 : ((q.length + 2 : Nat) : Int) < (a.length : Int) := by omega
    have hx2 : a.length < s.size := by omega
    have hf : (decide (((q.length + 2 : Nat) : Int) < 3) || !(decide (bt s 0 = 100) || decide (bt s 0 = 102) || decide (bt s 0 = 120)) || decide (bt s 1 ≠ 32) || decide (bt s ((q.length + 2 : Nat) : Int) ≠ 32)) = false := by
      have h1 : ¬ ((q.length + 2 : Nat) : Int) < 3 := not_lt3 hq1
      have h2 : (decide (bt s 0 = 100) || decide (bt s 0 = 102) || decide (bt s 0 = 120)) = true := by
        rw [b0]
        rcases hx with e | e | e
        · rw [e]; rfl
        · rw [e]; rfl
        · rw [e]; rfl
      rw [h2, b1, bm, decide_eq_false h1]
      rfl
    refine Ev.step (f := fun k => spec_l9Read.j3 k s (w : Int) (ls.map toS) (a.length : Int) ((q.length + 2 : Nat) : Int) false) (fun k => ?_) hR
    rw [j2_step s (w : Int) (ls.map toS) a.length ((q.length + 2 : Nat) : Int) hx2 hm hx1 k, hf]
  clear hx hm bm b1
  have st : ∀ k, spec_l9Read.j3 (k + 1) s (w : Int) (ls.map toS) (a.length : Int) ((q.length + 2 : Nat) : Int) false = (spec_l4PartOk.f k (mkT q) false).bind fun t => if t = true then spec_l9Read.j4 k s (w : Int) (ls.map toS) (a.length : Int) (!(ordOk ls (mkT q))) (x.toNat : Int) (mkT q) (mkT r) else spec_l9Read.j4 k s (w : Int) (ls.map toS) (a.length : Int) true (x.toNat : Int) (mkT q) (mkT r) := fun k => by
    simp only [spec_l9Read.j3]
    rw [if_neg (by decide), if_pos (by omega), if_pos (by omega), if_pos (by omega), hw1, if_pos (by omega), if_pos (by omega), if_pos (by omega)]
    rw [show (((q.length + 2 : Nat) : Int)).toNat = q.length + 2 by omega, show (((q.length + 3 : Nat) : Int)).toNat = q.length + 3 by omega, show ((a.length : Int)).toNat = a.length by omega, eq_, er_, b0]
    congr 1
    funext t
    by_cases ht : t = true
    · rw [if_pos ht, if_pos ht]
      rcases hg : ls.getLast? with _ | y
      · obtain rfl := List.getLast?_eq_none_iff.1 hg
        rw [if_neg (by simp)]
        simp [ordOk]
      · have hne : ls ≠ [] := fun e => by rw [e] at hg; cases hg
        have hpos : 0 < ls.length := List.length_pos_iff.2 hne
        have hlm : ((ls.map toS).length : Int) = (ls.length : Int) := by rw [List.length_map]
        have hw2 : wrap64 (((ls.map toS).length : Int) - 1) = ((ls.map toS).length : Int) - 1 := w64 (by rw [hlm]; omega)
        have hrd : rdS (ls.map toS) (((ls.map toS).length : Int) - 1) = toS y := last_rdS ls y hg
        unfold rdS at hrd
        have ho : ordOk ls (mkT q) = Op.bytesLess y.n.data.toList q := by unfold ordOk; rw [hg]; rfl
        rw [if_pos (by rw [hlm]; omega), hw2, if_pos (by rw [hlm]; omega), if_pos (by omega), hrd, ho]
        simp only [toS, toList_eq, mkT_list]
    · rw [if_neg ht, if_neg ht]
  have gp := l4PartOk_ev (mkT q) false (by rw [mkT_size]; omega)
  refine ⟨fun hg => go _ ?_, fun hg ho => go _ ?_, fun hg ho hh => go _ ?_, fun hg ho hh R hR => go _ ?_⟩
  · refine Ev.step st (Ev.bind gp ?_)
    rw [hg]
    exact Ev.neg (by decide) (spec_j4_bad _ _ _ _ _ _ _)
  · refine Ev.step st (Ev.bind gp ?_)
    rw [hg, ho]
    exact Ev.pos rfl (spec_j4_bad _ _ _ _ _ _ _)
  · refine Ev.step st (Ev.bind gp ?_)
    rw [hg, ho]
    refine Ev.pos rfl (spec_j4_go _ _ _ _ _ _ _ ?_)
    exact spec_hex_bad s (w : Int) (ls.map toS) (a.length : Int) (x.toNat : Int) (mkT q) r (by omega) _ 0 rfl (by omega) (by rw [List.drop_zero]; exact hh)
  · refine Ev.step st (Ev.bind gp ?_)
    rw [hg, ho]
    refine Ev.pos rfl (spec_j4_go _ _ _ _ _ _ _ ?_)
    refine spec_hex_good s (w : Int) (ls.map toS) (a.length : Int) (x.toNat : Int) (mkT q) r (by omega) ?_ _ 0 rfl (by omega) (by rw [List.drop_zero]; exact hh)
    refine Ev.step (f := fun k => spec_l9Read.l0 k (mkT b) (w : Int) ((ls ++ [(⟨x, mkT q, r⟩ : Ln)]).map toS)) (fun k => ?_) hR
    have hw3 : wrap64 ((a.length : Int) + 1) = ((a.length + 1 : Nat) : Int) := w64 (by omega)
    have f1 : ¬ ((r.length : Int) < (r.length : Int)) := Int.lt_irrefl _
    have f2 : (ls.map toS).length < 3518437208883 := by rw [List.length_map]; omega
    have f3 : (0 : Int) ≤ ((a.length + 1 : Nat) : Int) := Int.natCast_nonneg _
    have f4 : ((a.length + 1 : Nat) : Int) ≤ (s.size : Int) := Int.ofNat_le.2 (by omega)
    have f5 : (((a.length + 1 : Nat) : Int)).toNat = a.length + 1 := Int.toNat_natCast _
    simp only [spec_l9Read.l2]
    rw [mkT_size, if_neg f1, if_pos f2, hw3, if_pos f3, if_pos f4, f5, eb_, List.map_append]
    rfl
end Go.Proofs.YtgjipjffpodjlaaDoor.E
set_option linter.unusedSimpArgs false
set_option linter.unusedVariables false
namespace Go.Proofs.YtgjipjffpodjlaaDoor.E
open Go.RowKit Go.Proofs.YtgjipjffpodjlaaDoorW.PrintWords Go.Proofs.YtgjipjffpodjlaaDoorW.PrintLast Go.Proofs.YtgjipjffpodjlaaDoorW.PrintMore Go.Proofs.YtgjipjffpodjlaaDoor.U Go.Proofs.YtgjipjffpodjlaaDoor.K
open Go.Lib
theorem less_irrefl (x : List UInt8) : Op.bytesLess x x = false := by
  induction x with
  | nil => rfl
  | cons a x ih => rw [Op.bytesLess]; simp [ih]
theorem less_trans : ∀ x y z : List UInt8, Op.bytesLess x y = true → Op.bytesLess y z = true → Op.bytesLess x z = true
  | x, [], z, h1, _ => by cases x <;> simp [Op.bytesLess] at h1
  | x, y, [], _, h2 => by cases y <;> simp [Op.bytesLess] at h2
  | [], _ :: _, _ :: _, _, _ => rfl
  | a :: x, b :: y, c :: z, h1, h2 => by
    simp only [Op.bytesLess, Bool.or_eq_true, Bool.and_eq_true, decide_eq_true_eq, beq_iff_eq] at h1 h2 ⊢
    rcases h1 with h1 | ⟨rfl, h1⟩
    · rcases h2 with h2 | ⟨rfl, h2⟩
      · exact Or.inl (by have := UInt8.lt_iff_toNat_lt.1 h1; have := UInt8.lt_iff_toNat_lt.1 h2; exact UInt8.lt_iff_toNat_lt.2 (by omega))
      · exact Or.inl h1
    · rcases h2 with h2 | ⟨rfl, h2⟩
      · exact Or.inl h2
      · exact Or.inr ⟨rfl, less_trans x y z h1 h2⟩
structure Inv (w : Nat) (ls : List Ln) : Prop where
  hex : ∀ y ∈ ls, y.h.all isHex = true ∧ y.h.length = 2 * w
  kind : ∀ y ∈ ls, y.k = 100 ∨ y.k = 102 ∨ y.k = 120
  asc : ls.Pairwise (fun a b => Op.bytesLess a.n.data.toList b.n.data.toList = true)
theorem Inv.add {w : Nat} {ls : List Ln} (h : Inv w ls) {x : Ln} (h1 : x.h.all isHex = true) (h2 : x.h.length = 2 * w) (h3 : x.k = 100 ∨ x.k = 102 ∨ x.k = 120) (ho : ordOk ls x.n = true) : Inv w (ls ++ [x]) := by
  refine ⟨fun y hy => ?_, fun y hy => ?_, ?_⟩
  · rcases List.mem_append.1 hy with hy | hy
    · exact h.hex y hy
    · obtain rfl := List.mem_singleton.1 hy; exact ⟨h1, h2⟩
  · rcases List.mem_append.1 hy with hy | hy
    · exact h.kind y hy
    · obtain rfl := List.mem_singleton.1 hy; exact h3
  · rw [List.pairwise_append]
    refine ⟨h.asc, List.pairwise_singleton _ _, fun y hy z hz => ?_⟩
    obtain rfl := List.mem_singleton.1 hz
    rcases hg : ls.getLast? with _ | t
    · rw [List.getLast?_eq_none_iff.1 hg] at hy; cases hy
    · have hlt : Op.bytesLess t.n.data.toList z.n.data.toList = true := by
        unfold ordOk at ho; rw [hg] at ho; exact ho
      obtain ⟨l, rfl⟩ := List.getLast?_eq_some_iff.1 hg
      rcases List.mem_append.1 hy with hy | hy
      · exact less_trans _ _ _ ((List.pairwise_append.1 h.asc).2.2 y hy t (by simp)) hlt
      · obtain rfl := List.mem_singleton.1 hy; exact hlt
def ansI : Option (List Ln) → List SI × Bool
  | some l => (l.map toI, true)
  | none => ([], false)
def AnsS (r : Option (List Ln)) (x : List SS × Bool) : Prop := match r with
  | some l => x = (l.map toS, true)
  | none => x.2 = false
theorem j2_end (s : ByteArray) (w : Int) (acc : List SS) : Ev (fun k => spec_l9Read.j2 k s w acc (s.size : Int)) (acc, false) :=
  Ev.step (f := fun k => spec_l9Read.j3 k s w acc (s.size : Int) (wrap64 (wrap64 ((s.size : Int) - wrap64 (2 * w)) - 1)) true) (fun k => by simp only [spec_l9Read.j2]; rw [if_pos trivial]) (spec_j3_bad _ _ _ _ _)
theorem rows_both (w : Nat) (hw : 1 ≤ w ∧ w ≤ 8) : ∀ (n : Nat) (s : ByteArray) (ls : List Ln), s.size ≤ n → s.size ≤ 2000000 → ls.length + s.size ≤ 3000000 → Inv w ls →
    ∃ res : Option (List Ln), Ev (fun k => impl_rows.l0 k s (w : Int) (ls.map toI)) (ansI res) ∧ (∃ x, Ev (fun k => spec_l9Read.l0 k s (w : Int) (ls.map toS)) x ∧ AnsS res x) ∧ ∀ l, res = some l → Inv w l ∧ l.length ≤ ls.length + s.size := by
  intro n
  induction n with
  | zero =>
    intro s ls hn hs hl hi
    have he : s.toList = ([] : List UInt8) := by
      rw [toList_eq]; exact List.length_eq_zero_iff.1 (by rw [size_list]; omega)
    refine ⟨some ls, ?_, ⟨(ls.map toS, true), ?_, rfl⟩, fun l h => by cases h; exact ⟨hi, by omega⟩⟩
    · exact Ev.step (f := fun _ => some (ls.map toI, true)) (fun k => by simp only [impl_rows.l0]; rw [if_pos he]) (Ev.now _)
    · exact Ev.step (f := fun _ => some (ls.map toS, true)) (fun k => by simp only [spec_l9Read.l0]; rw [if_pos he]) (Ev.now _)
  | succ n ih =>
    intro s ls hn hs hl hi
    by_cases hz : s.toList = ([] : List UInt8)
    · refine ⟨some ls, ?_, ⟨(ls.map toS, true), ?_, rfl⟩, fun l h => by cases h; exact ⟨hi, by omega⟩⟩
      · exact Ev.step (f := fun _ => some (ls.map toI, true)) (fun k => by simp only [impl_rows.l0]; rw [if_pos hz]) (Ev.now _)
      · exact Ev.step (f := fun _ => some (ls.map toS, true)) (fun k => by simp only [spec_l9Read.l0]; rw [if_pos hz]) (Ev.now _)
    · rcases indexByte_out s.data.toList 10 with ⟨_, hno⟩ | ⟨a, b, h, ha, _⟩
      · 
        refine ⟨none, ?_, ⟨(ls.map toS, false), ?_, rfl⟩, fun l h => by cases h⟩
        · refine Ev.step (f := fun _ => some ([], false)) (fun k => ?_) (Ev.now _)
          simp only [impl_rows.l0]
          rw [if_neg hz]
          show (strings_Cut.f s ⟨#[10]⟩).bind _ = _
          rw [cut_miss s 10 (by omega) hno, Option.bind_some, if_neg (show ¬ (false = true) by decide)]
        · refine spec_l0_step s (w : Int) (ls.map toS) hz ?_
          refine spec_find s (w : Int) (ls.map toS) s.size (Nat.le_refl _) hs (fun h => absurd h (Nat.lt_irrefl _)) (fun j hj => ?_) (j2_end _ _ _) _ 0 rfl (Nat.zero_le _)
          have hjl : j < s.data.toList.length := by rw [size_list]; exact hj
          rw [bt_get s j hjl]
          intro e
          have : s.data.toList[j] = 10 := byte_of e
          exact hno (this ▸ List.getElem_mem hjl)
      · have hlen := congrArg List.length h
        rw [size_list, List.length_append, List.length_cons] at hlen
        obtain ⟨i1, i2⟩ := impl_line s a b w hw ls hs h ha (by omega)
        by_cases hS : ∃ x q r, Shape w a x q r
        · obtain ⟨x, q, r, hS⟩ := hS
          obtain ⟨s1, s2, s3, s4⟩ := spec_shape s a b w hw ls hs h ha (by omega) x q r hS
          have uniq : ∀ x' q' r', IsLine w a x' q' r' → good (mkT q) false = true ∧ r.all isHex = true := fun x' q' r' hI => by
            obtain ⟨e1, _, hg, hr, hh⟩ := hI
            obtain ⟨e2, _, hr2, _⟩ := hS
            rw [e1] at e2
            obtain ⟨_, e3⟩ := List.cons.inj e2
            obtain ⟨_, e3⟩ := List.cons.inj e3
            have hql : q'.length = q.length := by
              have := congrArg List.length e3
              simp only [List.length_append, List.length_cons] at this
              omega
            obtain ⟨rfl, e4⟩ := List.append_inj e3 hql
            obtain ⟨_, rfl⟩ := List.cons.inj e4
            exact ⟨hg, hh⟩
          rcases hg : good (mkT q) false with _ | _
          · refine ⟨none, i1 ?_, ⟨_, s1 hg, rfl⟩, fun l h => by cases h⟩
            rintro ⟨x', q', r', hI⟩
            have := (uniq _ _ _ hI).1
            rw [hg] at this; cases this
          · rcases hh : r.all isHex with _ | _
            · have hne : ¬ ∃ x q r, IsLine w a x q r := by
                rintro ⟨x', q', r', hI⟩
                have := (uniq _ _ _ hI).2
                rw [hh] at this; cases this
              rcases ho : ordOk ls (mkT q) with _ | _
              · exact ⟨none, i1 hne, ⟨_, s2 hg ho, rfl⟩, fun l h => by cases h⟩
              · exact ⟨none, i1 hne, ⟨_, s3 hg ho hh, rfl⟩, fun l h => by cases h⟩
            · have hI := line_of_shape hS hg hh
              obtain ⟨k1, k2⟩ := i2 x q r hI
              rcases ho : ordOk ls (mkT q) with _ | _
              · exact ⟨none, k1 ho, ⟨_, s2 hg ho, rfl⟩, fun l h => by cases h⟩
              · have hi' : Inv w (ls ++ [(⟨x, mkT q, r⟩ : Ln)]) := hi.add hh hS.2.2.1 hS.2.1 ho
                obtain ⟨res, e1, ⟨y, e2, e3⟩, e4⟩ := ih (mkT b) (ls ++ [(⟨x, mkT q, r⟩ : Ln)]) (by rw [mkT_size]; omega) (by rw [mkT_size]; omega) (by rw [mkT_size, List.length_append, List.length_singleton]; omega) hi'
                exact ⟨res, k2 _ ho e1, ⟨y, s4 hg ho hh _ e2, e3⟩, fun l hl => ⟨(e4 l hl).1, by have := (e4 l hl).2; rw [mkT_size, List.length_append, List.length_singleton] at this; omega⟩⟩
        · refine ⟨none, i1 ?_, ⟨_, spec_noshape s a b w hw (ls.map toS) hs h ha hS, rfl⟩, fun l h => by cases h⟩
          rintro ⟨x, q, r, hI⟩
          exact hS ⟨x, q, r, shape_of_line hI⟩
theorem read_both (w : Nat) (hw : 1 ≤ w ∧ w ≤ 8) (s : ByteArray) (hs : s.size ≤ 2000000) :
    ∃ res : Option (List Ln), Ev (fun k => impl_rows.f k s (w : Int)) (ansI res) ∧ (∃ x, Ev (fun k => spec_l9Read.f k s (w : Int)) x ∧ AnsS res x) ∧ ∀ l, res = some l → Inv w l ∧ l.length ≤ s.size := by
  obtain ⟨res, h1, h2, h3⟩ := rows_both w hw s.size s [] (Nat.le_refl _) hs (by simp; omega) ⟨fun y hy => (by cases hy), fun y hy => (by cases hy), List.Pairwise.nil⟩
  exact ⟨res, h1, h2, fun l hl => ⟨(h3 l hl).1, by have := (h3 l hl).2; simpa using this⟩⟩
end Go.Proofs.YtgjipjffpodjlaaDoor.E
set_option linter.unusedSimpArgs false
set_option linter.unusedVariables false
namespace Go.Proofs.YtgjipjffpodjlaaDoor.E
open Go.RowKit Go.Proofs.YtgjipjffpodjlaaDoorW.PrintWords Go.Proofs.YtgjipjffpodjlaaDoorW.PrintLast Go.Proofs.YtgjipjffpodjlaaDoorW.PrintMore Go.Proofs.YtgjipjffpodjlaaDoor.U Go.Proofs.YtgjipjffpodjlaaDoor.K
open Go.Lib
abbrev Ans := Int × Bool × ByteArray × ByteArray × Bool
abbrev E0 : ByteArray := ⟨#[]⟩
def no : Ans := (2, false, E0, E0, false)
def bad : Ans := (1, false, E0, E0, false)
def fnd (l : List Ln) (n : ByteArray) : Option Ln := l.find? (fun y => decide (y.n.data.toList = n.data.toList))
def cI : Option Ln → SI
  | some y => toI y
  | none => ⟨E0, E0, E0⟩
def cS : Option Ln → SS
  | some y => toS y
  | none => ⟨0, E0, E0⟩
def orI (F : Option Ln) (c : SI) : SI := match F with
  | some y => toI y
  | none => c
theorem rd_get {α : Type} (f : Ln → α) (z : α) (l : List Ln) (j : Nat) (h : j < l.length) : (l.map f).getD j z = f l[j] := by
  simp [List.getD, h]
theorem spec_find_ev (l : List Ln) (n : ByteArray) (hl : l.length < 3000000000) (d : Nat) : ∀ j : Nat, l.length - j = d → j ≤ l.length →
    Ev (fun k => spec_l9Find.l0 k (l.map toS) n (j : Int)) ((cS (fnd (l.drop j) n)).f0, (cS (fnd (l.drop j) n)).f1, (cS (fnd (l.drop j) n)).f2) := by
  induction d with
  | zero =>
    intro j hd hj
    rw [List.drop_of_length_le (by omega)]
    refine Ev.step (f := fun _ => some (0, E0, E0)) (fun k => ?_) (Ev.now _)
    simp only [spec_l9Find.l0]
    rw [if_neg (by rw [List.length_map]; omega)]
  | succ d ih =>
    intro j hd hj
    have hlt : j < l.length := by omega
    have hw : wrap64 ((j : Int) + 1) = ((j + 1 : Nat) : Int) := w64 (by omega)
    have hr : rdS (l.map toS) (j : Int) = toS l[j] := rd_get toS _ l j hlt
    unfold rdS at hr
    rw [List.drop_eq_getElem_cons hlt]
    by_cases hm : l[j].n.data.toList = n.data.toList
    · have e : fnd (l[j] :: l.drop (j + 1)) n = some l[j] := by unfold fnd; rw [List.find?_cons_of_pos (by simpa using hm)]
      rw [e]
      refine Ev.step (f := fun _ => some ((toS l[j]).f0, (toS l[j]).f1, (toS l[j]).f2)) (fun k => ?_) (Ev.now _)
      simp only [spec_l9Find.l0]
      rw [if_pos (by rw [List.length_map]; omega), if_pos (by omega), hr]
      simp only [toList_eq]
      rw [if_pos (show (toS l[j]).f1.data.toList = n.data.toList from hm)]
    · have e : fnd (l[j] :: l.drop (j + 1)) n = fnd (l.drop (j + 1)) n := by unfold fnd; rw [List.find?_cons_of_neg (by simpa using hm)]
      rw [e]
      refine Ev.step (f := fun k => spec_l9Find.l0 k (l.map toS) n ((j + 1 : Nat) : Int)) (fun k => ?_) (ih (j + 1) (by omega) (by omega))
      simp only [spec_l9Find.l0]
      rw [if_pos (by rw [List.length_map]; omega), if_pos (by omega), hr, hw]
      simp only [toList_eq]
      rw [if_neg (show ¬ (toS l[j]).f1.data.toList = n.data.toList from hm)]
theorem fnd_none {l : List Ln} {n : ByteArray} (h : ∀ y ∈ l, ¬ y.n.data.toList = n.data.toList) : fnd l n = none := by
  unfold fnd
  rw [List.find?_eq_none]
  intro y hy
  simpa using h y hy
theorem impl_find_ev (p : ByteArray) (w : Int) (dirs : List (List SI)) (P : List ByteArray) (i : Nat) (hi : i < P.length) (l : List Ln) (hl : l.length < 3000000000) (D : List ByteArray) (th : Bool) (t : ByteArray)
    (hP : P.length < 3000000000) {R : Ans} (d : Nat) : ∀ (j : Nat) (c : SI), l.length - j = d → j ≤ l.length → (l.drop j).Pairwise (fun a b => Op.bytesLess a.n.data.toList b.n.data.toList = true) →
    Ev (fun k => impl_Show.l2 k p w dirs P (i : Int) (l.map toI) ((l.map toI).length : Int) (l.length : Int) D th t 2 false E0 E0 false
      (orI (fnd (l.drop j) (rdOf ByteArray.empty P (i : Int))) c).f0 (orI (fnd (l.drop j) (rdOf ByteArray.empty P (i : Int))) c).f1 (orI (fnd (l.drop j) (rdOf ByteArray.empty P (i : Int))) c).f2) R →
    Ev (fun k => impl_Show.l2 k p w dirs P (i : Int) (l.map toI) ((l.map toI).length : Int) (j : Int) D th t 2 false E0 E0 false c.f0 c.f1 c.f2) R := by
  induction d with
  | zero =>
    intro j c hd hj _ h
    obtain rfl : j = l.length := by omega
    rw [List.drop_of_length_le (Nat.le_refl _)] at h
    exact h
  | succ d ih =>
    intro j c hd hj ha h
    have hlt : j < l.length := by omega
    have hw : wrap64 ((j : Int) + 1) = ((j + 1 : Nat) : Int) := w64 (by omega)
    have hr : rdI (l.map toI) (j : Int) = toI l[j] := rd_get toI _ l j hlt
    unfold rdI at hr
    rw [List.drop_eq_getElem_cons hlt] at h ha
    obtain ⟨ha1, ha2⟩ := List.pairwise_cons.1 ha
    by_cases hm : l[j].n.data.toList = (rdOf ByteArray.empty P (i : Int)).data.toList
    · have e : fnd (l[j] :: l.drop (j + 1)) (rdOf ByteArray.empty P (i : Int)) = some l[j] := by unfold fnd; rw [List.find?_cons_of_pos (by simpa using hm)]
      have e2 : fnd (l.drop (j + 1)) (rdOf ByteArray.empty P (i : Int)) = none := fnd_none (fun y hy hy2 => by
        have := ha1 y hy
        rw [hm, hy2, less_irrefl] at this
        cases this)
      rw [e] at h
      have := ih (j + 1) (toI l[j]) (by omega) (by omega) ha2 (by rw [e2]; exact h)
      refine Ev.step (f := fun k => impl_Show.l2 k p w dirs P (i : Int) (l.map toI) ((l.map toI).length : Int) ((j + 1 : Nat) : Int) D th t 2 false E0 E0 false (toI l[j]).f0 (toI l[j]).f1 (toI l[j]).f2) (fun k => ?_) this
      simp only [impl_Show.l2]
      have g1 : (j : Int) < ((l.map toI).length : Int) := by rw [List.length_map]; omega
      rw [if_pos g1, if_pos (by omega), if_pos g1, if_pos (by omega), if_pos (by omega), hr, hw]
      simp only [toList_eq]
      rw [if_pos (show (toI l[j]).f1.data.toList = _ from hm)]
    · have e : fnd (l[j] :: l.drop (j + 1)) (rdOf ByteArray.empty P (i : Int)) = fnd (l.drop (j + 1)) (rdOf ByteArray.empty P (i : Int)) := by unfold fnd; rw [List.find?_cons_of_neg (by simpa using hm)]
      rw [e] at h
      have := ih (j + 1) c (by omega) (by omega) ha2 h
      refine Ev.step (f := fun k => impl_Show.l2 k p w dirs P (i : Int) (l.map toI) ((l.map toI).length : Int) ((j + 1 : Nat) : Int) D th t 2 false E0 E0 false c.f0 c.f1 c.f2) (fun k => ?_) this
      simp only [impl_Show.l2]
      have g1 : (j : Int) < ((l.map toI).length : Int) := by rw [List.length_map]; omega
      rw [if_pos g1, if_pos (by omega), if_pos g1, if_pos (by omega), if_pos (by omega), hr, hw]
      simp only [toList_eq]
      rw [if_neg (show ¬ (toI l[j]).f1.data.toList = _ from hm)]
end Go.Proofs.YtgjipjffpodjlaaDoor.E
set_option linter.unusedSimpArgs false
set_option linter.unusedVariables false
namespace Go.Proofs.YtgjipjffpodjlaaDoor.E
open Go.RowKit Go.Proofs.YtgjipjffpodjlaaDoorW.PrintWords Go.Proofs.YtgjipjffpodjlaaDoorW.PrintLast Go.Proofs.YtgjipjffpodjlaaDoorW.PrintMore Go.Proofs.YtgjipjffpodjlaaDoor.U Go.Proofs.YtgjipjffpodjlaaDoor.K
open Go.Lib
def kd : Option Ln → UInt8
  | some y => y.k
  | none => 0
def hx : Option Ln → List UInt8
  | some y => y.h
  | none => []
theorem cI_kind (F : Option Ln) (c : UInt8) (hc : c ≠ 0) : (cI F).f0.data.toList = [c] ↔ kd F = c := by
  cases F with
  | none => exact ⟨fun h => (by cases h), fun h => absurd (Eq.symm h) hc⟩
  | some y => show [y.k] = [c] ↔ y.k = c; simp
theorem cS_kind (F : Option Ln) : (cS F).f0 = ((kd F).toNat : Int) := by cases F <;> rfl
theorem cS_kind_is (F : Option Ln) (c : UInt8) : (cS F).f0 = (c.toNat : Int) ↔ kd F = c := by
  rw [cS_kind]; exact ⟨fun h => byte_of h, fun h => by rw [h]⟩
theorem cI_sum (F : Option Ln) : (cI F).f2 = mkT (Hx.decode (hx F)).1 := by
  cases F with
  | none => show E0 = mkT (Hx.decode []).1; rw [Hx.decode_nil]; rfl
  | some y => rfl
theorem cS_sum (F : Option Ln) : (cS F).f2 = mkT (hx F) := by cases F <;> rfl
theorem hx_ok {w : Nat} {l : List Ln} (h : Inv w l) (n : ByteArray) : (hx (fnd l n)).all isHex = true ∧ (hx (fnd l n)).length % 2 = 0 := by
  rcases hf : fnd l n with _ | y
  · exact ⟨rfl, rfl⟩
  · have hm : y ∈ l := List.mem_of_find?_eq_some hf
    obtain ⟨h1, h2⟩ := h.hex y hm
    exact ⟨h1, by show y.h.length % 2 = 0; omega⟩
theorem sums_same {w : Nat} {l : List Ln} (h : Inv w l) (n s : ByteArray) : (s.data.toList = (cI (fnd l n)).f2.data.toList) ↔ ((hexT s).data.toList = (cS (fnd l n)).f2.data.toList) := by
  obtain ⟨h1, h2⟩ := hx_ok h n
  have := hex_same s _ h1 h2
  rw [cI_sum, cS_sum]
  constructor
  · intro e; rw [this.2 (text_ext e)]
  · intro e; rw [this.1 (text_ext e)]
def fileT (t : ByteArray) : ByteArray := (⟨#[102, 105, 108, 101, 32]⟩ : ByteArray) ++ t
section
variable (p : ByteArray) (w : Nat) (hw : 1 ≤ w ∧ w ≤ 8) (D : List ByteArray) (th : Bool) (t : ByteArray) (Ls : List (List Ln)) (P : List ByteArray)
def tell (F : Option Ln) (last : Bool) : Ans :=
  if last = true ∧ (kd F = 102 ∨ kd F = 120) then (if th = true ∧ (sumT (fileT t) w).data.toList = (cI F).f2.data.toList then (0, true, p, t, decide (kd F = 120)) else no)
  else if th = true then no else (0, false, E0, E0, false)
theorem impl_j6 (F : Option Ln) (b : Bool) : Ev (fun k => impl_Show.j6 k p b D th t 2 false E0 E0 false (cI F).f0 (cI F).f1 (cI F).f2) (if b = true then no else (0, true, p, t, decide (kd F = 120))) := by
  refine Ev.step (f := fun _ => some (if b = true then no else (0, true, p, t, decide (kd F = 120)))) (fun k => ?_) (Ev.now _)
  simp only [impl_Show.j6, toList_eq]
  have e : ((cI F).f0.data.toList == ([120] : List UInt8)) = decide (kd F = 120) := by
    by_cases h : kd F = 120
    · simp [h, (cI_kind F 120 (by decide)).2 h]
    · simp [h, mt (cI_kind F 120 (by decide)).1 h]
  rw [e]
  cases b <;> rfl
theorem impl_j5 (ht : t.size ≤ 2000000) (F : Option Ln) (b : Bool) : Ev (fun k => impl_Show.j5 k p (w : Int) b D th t 2 false E0 E0 false (cI F).f0 (cI F).f1 (cI F).f2)
    (if b = true then (if th = true ∧ (sumT (fileT t) w).data.toList = (cI F).f2.data.toList then (0, true, p, t, decide (kd F = 120)) else no) else if th = true then no else (0, false, E0, E0, false)) := by
  cases b with
  | false =>
    refine Ev.step (f := fun _ => some (if th = true then no else (0, false, E0, E0, false))) (fun k => ?_) (Ev.now _)
    simp only [impl_Show.j5]
    cases th <;> rfl
  | true =>
    cases th with
    | false =>
      refine Ev.step (f := fun k => impl_Show.j6 k p true D false t 2 false E0 E0 false (cI F).f0 (cI F).f1 (cI F).f2) (fun k => ?_) ?_
      · simp only [impl_Show.j5]; rfl
      · simpa using impl_j6 p D false t F true
    | true =>
      have hsz : (fileT t).size = 5 + t.size := by unfold fileT; rw [size_app]; rfl
      have es := impl_Sum_ev (fileT t) (w : Int) (by omega)
      refine Ev.step (f := fun k => (impl_Sum.f k (fileT t) (w : Int)).bind fun t275 => impl_Show.j6 k p (t275.toList != (cI F).f2.toList) D true t 2 false E0 E0 false (cI F).f0 (cI F).f1 (cI F).f2) (fun k => ?_) ?_
      · simp only [impl_Show.j5]
        rw [if_pos trivial, if_pos trivial, if_pos (by omega)]
        rfl
      · refine Ev.bind es ?_
        have := impl_j6 p D true t F ((sumT (fileT t) (w : Int)).toList != (cI F).f2.toList)
        by_cases h : (sumT (fileT t) (w : Int)).data.toList = (cI F).f2.data.toList
        · have e : ((sumT (fileT t) (w : Int)).toList != (cI F).f2.toList) = false := by simp [toList_eq, h]
          rw [e] at this ⊢
          simpa [h] using this
        · have e : ((sumT (fileT t) (w : Int)).toList != (cI F).f2.toList) = true := by simp [toList_eq, h]
          rw [e] at this ⊢
          simpa [h] using this
theorem spec_j4 (ht : t.size ≤ 2000000) {l : List Ln} (hi : Inv w l) (n : ByteArray) (b : Bool) : Ev (fun k => spec_Show.j4 k p (w : Int) b D th t 2 false E0 E0 false (cS (fnd l n)).f0 (cS (fnd l n)).f1 (cS (fnd l n)).f2)
    (if b = false then (if th = true ∧ (sumT (fileT t) w).data.toList = (cI (fnd l n)).f2.data.toList then (0, true, p, t, decide (kd (fnd l n) = 120)) else no) else if th = true then no else (0, false, E0, E0, false)) := by
  cases b with
  | true =>
    refine Ev.step (f := fun _ => some (if th = true then no else (0, false, E0, E0, false))) (fun k => ?_) (Ev.now _)
    simp only [spec_Show.j4]
    cases th <;> rfl
  | false =>
    cases th with
    | false =>
      refine Ev.step (f := fun _ => some no) (fun k => ?_) (by simpa using Ev.now _)
      simp only [spec_Show.j4]; rfl
    | true =>
      have hsz : (fileT t).size = 5 + t.size := by unfold fileT; rw [size_app]; rfl
      have es := spec_Sum_ev (fileT t) (w : Int) (by omega)
      have eh := l9Hex_ev (sumT (fileT t) (w : Int)) (by have := sumT_size_le (fileT t) (w : Int); omega)
      refine Ev.step (f := fun k => (spec_Sum.f k (fileT t) (w : Int)).bind fun t177 => (spec_l9Hex.f k t177).bind fun t178 => if t178.toList = (cS (fnd l n)).f2.toList then some (0, true, p, t, (cS (fnd l n)).f0 == 120) else some no) (fun k => ?_) ?_
      · simp only [spec_Show.j4]
        rw [if_neg (by decide), if_pos trivial, if_pos (by omega)]
        rfl
      · refine Ev.bind es (Ev.bind eh ?_)
        have e120 : ((cS (fnd l n)).f0 == 120) = decide (kd (fnd l n) = 120) := by
          by_cases h : kd (fnd l n) = 120
          · simp [h, (cS_kind_is (fnd l n) 120).2 h]
          · have := mt (cS_kind_is (fnd l n) 120).1 h
            simp [h]
            exact this
        rw [e120]
        simp only [toList_eq]
        by_cases h : (sumT (fileT t) (w : Int)).data.toList = (cI (fnd l n)).f2.data.toList
        · refine Ev.pos ((sums_same hi n _).1 h) ?_
          simpa [h] using Ev.now _
        · refine Ev.neg (mt (sums_same hi n _).2 h) ?_
          simpa [h] using Ev.now _
end
end Go.Proofs.YtgjipjffpodjlaaDoor.E
set_option linter.unusedSimpArgs false
set_option linter.unusedVariables false
namespace Go.Proofs.YtgjipjffpodjlaaDoor.E
open Go.RowKit Go.Proofs.YtgjipjffpodjlaaDoorW.PrintWords Go.Proofs.YtgjipjffpodjlaaDoorW.PrintLast Go.Proofs.YtgjipjffpodjlaaDoorW.PrintMore Go.Proofs.YtgjipjffpodjlaaDoor.U Go.Proofs.YtgjipjffpodjlaaDoor.K
open Go.Lib
theorem rdOf_at (D : List ByteArray) (i : Nat) (h : i < D.length) : rdOf ByteArray.empty D (i : Int) = D[i] := by simp [rdOf, List.getD, h]
theorem rdLI (Ls : List (List Ln)) (i : Nat) (h : i < Ls.length) : rd_L8 (Ls.map (fun l => l.map toI)) (i : Int) = Ls[i].map toI := by
  show List.getD _ _ _ = _
  simp [List.getD, h]
theorem rdLS (Ls : List (List Ln)) (i : Nat) (h : i < Ls.length) : rd_L3 (Ls.map (fun l => l.map toS)) (i : Int) = Ls[i].map toS := by
  show List.getD _ _ _ = _
  simp [List.getD, h]
theorem cI_match (F : Option Ln) : orI F (⟨E0, E0, E0⟩ : SI) = cI F := by cases F <;> rfl
section
variable (p : ByteArray) (w : Nat) (hw : 1 ≤ w ∧ w ≤ 8) (D : List ByteArray) (th : Bool) (t : ByteArray) (Ls : List (List Ln)) (P : List ByteArray)
theorem impl_l1 (hL : ∀ l ∈ Ls, Inv w l ∧ l.length < 3000000000) (hP : P.length < 3000000000) (i : Nat) (hi : i < Ls.length) (hiP : i < P.length) {R : Ans}
    (h : Ev (fun k => impl_Show.j4 k p (w : Int) (Ls.map (fun l => l.map toI)) P (i : Int) (decide (i + 1 < P.length) && decide (kd (fnd Ls[i] (rdOf ByteArray.empty P (i : Int))) = 100)) D th t 2 false E0 E0 false
      (cI (fnd Ls[i] (rdOf ByteArray.empty P (i : Int)))).f0 (cI (fnd Ls[i] (rdOf ByteArray.empty P (i : Int)))).f1 (cI (fnd Ls[i] (rdOf ByteArray.empty P (i : Int)))).f2) R) :
    Ev (fun k => impl_Show.l1 k p (w : Int) (Ls.map (fun l => l.map toI)) P (i : Int) D th t 2 false E0 E0 false) R := by
  obtain ⟨hinv, hll⟩ := hL Ls[i] (List.getElem_mem hi)
  refine Ev.step (f := fun k => impl_Show.l2 k p (w : Int) (Ls.map (fun l => l.map toI)) P (i : Int) (Ls[i].map toI) ((Ls[i].map toI).length : Int) ((0 : Nat) : Int) D th t 2 false E0 E0 false E0 E0 E0) (fun k => ?_) ?_
  · simp only [impl_Show.l1]
    have g : (i : Int) < ((Ls.map (fun l => l.map toI)).length : Int) := by rw [List.length_map]; omega
    rw [if_pos (by omega), if_pos g, rdLI Ls i hi]
    rfl
  · refine impl_find_ev p (w : Int) (Ls.map (fun l => l.map toI)) P i hiP Ls[i] hll D th t hP _ 0 (⟨E0, E0, E0⟩ : SI) rfl (Nat.zero_le _) (by rw [List.drop_zero]; exact hinv.asc) ?_
    rw [List.drop_zero, cI_match]
    refine Ev.step (f := fun k => impl_Show.j4 k p (w : Int) (Ls.map (fun l => l.map toI)) P (i : Int) (decide (i + 1 < P.length) && decide (kd (fnd Ls[i] (rdOf ByteArray.empty P (i : Int))) = 100)) D th t 2 false E0 E0 false
      (cI (fnd Ls[i] (rdOf ByteArray.empty P (i : Int)))).f0 (cI (fnd Ls[i] (rdOf ByteArray.empty P (i : Int)))).f1 (cI (fnd Ls[i] (rdOf ByteArray.empty P (i : Int)))).f2) (fun k => ?_) h
    have hw1 : wrap64 ((P.length : Int) - 1) = (P.length : Int) - 1 := w64 (by omega)
    have g1 : ¬ ((Ls[i].length : Int) < ((Ls[i].map toI).length : Int)) := by rw [List.length_map]; exact Int.lt_irrefl _
    simp only [impl_Show.l2, toList_eq]
    rw [if_neg g1, hw1]
    generalize fnd Ls[i] (rdOf ByteArray.empty P (i : Int)) = F
    have e : ((cI F).f0.data.toList == ([100] : List UInt8)) = decide (kd F = 100) := by
      by_cases h : kd F = 100
      · simp [h, (cI_kind F 100 (by decide)).2 h]
      · simp [h, mt (cI_kind F 100 (by decide)).1 h]
    rw [e]
    by_cases hlt : i + 1 < P.length
    · rw [if_pos (by omega)]; simp [hlt]
    · rw [if_neg (by omega)]; simp [hlt]
theorem spec_l1 (hL : ∀ l ∈ Ls, Inv w l ∧ l.length < 3000000000) (hP : P.length < 3000000000) (i : Nat) (hi : i < Ls.length) (hiP : i < P.length) {R : Ans}
    (h : Ev (fun k => spec_Show.j3 k p (w : Int) (Ls.map (fun l => l.map toS)) P (i : Int) (decide (Ls.length > i + 1)) (decide (i + 1 < P.length) && decide (kd (fnd Ls[i] (rdOf ByteArray.empty P (i : Int))) = 100)) D th t 2 false E0 E0 false
      (cS (fnd Ls[i] (rdOf ByteArray.empty P (i : Int)))).f0 (cS (fnd Ls[i] (rdOf ByteArray.empty P (i : Int)))).f1 (cS (fnd Ls[i] (rdOf ByteArray.empty P (i : Int)))).f2) R) :
    Ev (fun k => spec_Show.l1 k p (w : Int) (Ls.map (fun l => l.map toS)) P (i : Int) D th t 2 false E0 E0 false) R := by
  obtain ⟨hinv, hll⟩ := hL Ls[i] (List.getElem_mem hi)
  have hw1 : wrap64 ((i : Int) + 1) = (i : Int) + 1 := w64 (by omega)
  have hf := spec_find_ev Ls[i] (rdOf ByteArray.empty P (i : Int)) hll _ 0 rfl (Nat.zero_le _)
  rw [List.drop_zero] at hf
  have hf' : Ev (fun k => spec_l9Find.f k (Ls[i].map toS) (rdOf ByteArray.empty P (i : Int))) _ := hf
  have hlm : ((Ls.map (fun l => l.map toS)).length : Int) = (Ls.length : Int) := by rw [List.length_map]
  have em : decide (((Ls.map (fun l => l.map toS)).length : Int) > (i : Int) + 1) = decide (Ls.length > i + 1) := by
    rw [hlm]
    by_cases h : Ls.length > i + 1
    · rw [decide_eq_true h, decide_eq_true (by omega)]
    · rw [decide_eq_false h, decide_eq_false (by omega)]
  refine Ev.step (f := fun k => (spec_l9Find.f k (Ls[i].map toS) (rdOf ByteArray.empty P (i : Int))).bind fun bt170 => spec_Show.j3 k p (w : Int) (Ls.map (fun l => l.map toS)) P (i : Int) (decide (Ls.length > i + 1)) (decide (i + 1 < P.length) && (bt170.1 == 100)) D th t 2 false E0 E0 false bt170.1 bt170.2.1 bt170.2.2) (fun k => ?_) ?_
  · simp only [spec_Show.l1]
    have g : (i : Int) < ((Ls.map (fun l => l.map toS)).length : Int) := by rw [hlm]; omega
    rw [if_pos (by omega), if_pos (by omega), if_pos g, rdLS Ls i hi, hw1, em]
    congr 1
    funext bt170
    by_cases hlt : i + 1 < P.length
    · rw [if_pos (by omega)]; simp [hlt]
    · rw [if_neg (by omega)]; simp [hlt]
  · refine Ev.bind hf' ?_
    revert h
    generalize fnd Ls[i] (rdOf ByteArray.empty P (i : Int)) = F
    intro h
    have e : ((cS F).f0 == 100) = decide (kd F = 100) := by
      by_cases h : kd F = 100
      · simp [h, (cS_kind_is F 100).2 h]
      · have := mt (cS_kind_is F 100).1 h
        simp [h]
        exact this
    show Ev (fun n => spec_Show.j3 n p (w : Int) (Ls.map (fun l => l.map toS)) P (i : Int) (decide (Ls.length > i + 1)) (decide (i + 1 < P.length) && ((cS F).f0 == 100)) D th t 2 false E0 E0 false (cS F).f0 (cS F).f1 (cS F).f2) R
    rw [e]
    exact h
theorem show_loop (hL : ∀ l ∈ Ls, Inv w l ∧ l.length < 3000000000) (hlen : Ls.length = D.length) (hD : D.length ≤ 7) (hDs : ∀ x ∈ D, x.size ≤ 2000000) (ht : t.size ≤ 2000000) (hP : P.length < 3000000000) (d : Nat) :
    ∀ i : Nat, P.length - i = d → i < P.length → i < Ls.length →
    ∃ R : Ans, Ev (fun k => impl_Show.l1 k p (w : Int) (Ls.map (fun l => l.map toI)) P (i : Int) D th t 2 false E0 E0 false) R ∧ Ev (fun k => spec_Show.l1 k p (w : Int) (Ls.map (fun l => l.map toS)) P (i : Int) D th t 2 false E0 E0 false) R := by
  induction d with
  | zero => intro i hd hi; omega
  | succ d ih =>
    intro i hd hi hiL
    obtain ⟨hinv, hll⟩ := hL Ls[i] (List.getElem_mem hiL)
    have hw1 : wrap64 ((i : Int) + 1) = ((i + 1 : Nat) : Int) := w64 (by omega)
    have hw2 : wrap64 ((P.length : Int) - 1) = (P.length : Int) - 1 := w64 (by omega)
    have hlI : ((Ls.map (fun l => l.map toI)).length : Int) = (Ls.length : Int) := by rw [List.length_map]
    have hsum := fun s => sums_same hinv (rdOf ByteArray.empty P (i : Int)) s
    have hj4 := fun b => spec_j4 p w D th t ht hinv (rdOf ByteArray.empty P (i : Int)) b
    have hI := fun R h => impl_l1 (R := R) p w D th t Ls P hL hP i hiL hi h
    have hS := fun R h => spec_l1 (R := R) p w D th t Ls P hL hP i hiL hi h
    revert hsum hj4 hI hS
    generalize fnd Ls[i] (rdOf ByteArray.empty P (i : Int)) = F
    intro hsum hj4 hI hS
    rcases hA : (decide (i + 1 < P.length) && decide (kd F = 100)) with _ | _
    · rw [hA] at hI hS
      by_cases hm : Ls.length > i + 1
      · refine ⟨no, hI _ ?_, hS _ ?_⟩
        · refine Ev.step (f := fun _ => some no) (fun k => ?_) (Ev.now _)
          simp only [impl_Show.j4]
          rw [if_neg (by decide), hw1, hlI, if_pos (by omega)]
          rfl
        · refine Ev.step (f := fun _ => some no) (fun k => ?_) (Ev.now _)
          simp only [spec_Show.j3]
          rw [if_neg (by decide), decide_eq_true hm, if_pos rfl]
          rfl
      · by_cases hlast : i + 1 < P.length
        · refine ⟨_, hI _ (Ev.step (f := fun k => impl_Show.j5 k p (w : Int) false D th t 2 false E0 E0 false (cI F).f0 (cI F).f1 (cI F).f2) (fun k => ?_) (impl_j5 p w D th t ht F false)),
            hS _ (Ev.step (f := fun k => spec_Show.j4 k p (w : Int) true D th t 2 false E0 E0 false (cS F).f0 (cS F).f1 (cS F).f2) (fun k => ?_) (hj4 true))⟩
          · simp only [impl_Show.j4]
            rw [if_neg (by decide), hw1, hlI, if_neg (by omega), hw2, if_neg (by omega)]
          · simp only [spec_Show.j3]
            rw [if_neg (by decide), decide_eq_false hm, if_neg (by decide), hw1, if_pos (by omega)]
        · by_cases h1 : kd F = 102
          · refine ⟨_, hI _ (Ev.step (f := fun k => impl_Show.j5 k p (w : Int) true D th t 2 false E0 E0 false (cI F).f0 (cI F).f1 (cI F).f2) (fun k => ?_) (impl_j5 p w D th t ht F true)),
              hS _ (Ev.step (f := fun k => spec_Show.j4 k p (w : Int) false D th t 2 false E0 E0 false (cS F).f0 (cS F).f1 (cS F).f2) (fun k => ?_) (hj4 false))⟩
            · simp only [impl_Show.j4, toList_eq]
              rw [if_neg (by decide), hw1, hlI, if_neg (by omega), hw2, if_pos (by omega), if_pos ((cI_kind F 102 (by decide)).2 h1)]
            · simp only [spec_Show.j3]
              rw [if_neg (by decide), decide_eq_false hm, if_neg (by decide), hw1, if_neg (by omega), if_pos (show (cS F).f0 = 102 from (cS_kind_is F 102).2 h1)]
          · have eI : ((cI F).f0.data.toList == ([120] : List UInt8)) = decide (kd F = 120) := by
              by_cases h : kd F = 120
              · simp [h, (cI_kind F 120 (by decide)).2 h]
              · simp [h, mt (cI_kind F 120 (by decide)).1 h]
            have eS : ((cS F).f0 != 120) = !decide (kd F = 120) := by
              by_cases h : kd F = 120
              · simp [h, (cS_kind_is F 120).2 h]
              · have := mt (cS_kind_is F 120).1 h
                simp [h]
                exact this
            have a1 : Ev (fun k => impl_Show.j4 k p (w : Int) (Ls.map (fun l => l.map toI)) P (i : Int) false D th t 2 false E0 E0 false (cI F).f0 (cI F).f1 (cI F).f2) _ :=
              Ev.step (f := fun k => impl_Show.j5 k p (w : Int) (decide (kd F = 120)) D th t 2 false E0 E0 false (cI F).f0 (cI F).f1 (cI F).f2) (fun k => by
                simp only [impl_Show.j4, toList_eq]
                rw [if_neg (by decide), hw1, hlI, if_neg (by omega), hw2, if_pos (by omega), if_neg (mt (cI_kind F 102 (by decide)).1 h1), eI]) (impl_j5 p w D th t ht F (decide (kd F = 120)))
            have a2 : Ev (fun k => spec_Show.j3 k p (w : Int) (Ls.map (fun l => l.map toS)) P (i : Int) (decide (Ls.length > i + 1)) false D th t 2 false E0 E0 false (cS F).f0 (cS F).f1 (cS F).f2) _ :=
              Ev.step (f := fun k => spec_Show.j4 k p (w : Int) (!decide (kd F = 120)) D th t 2 false E0 E0 false (cS F).f0 (cS F).f1 (cS F).f2) (fun k => by
                simp only [spec_Show.j3]
                rw [if_neg (by decide), decide_eq_false hm, if_neg (by decide), hw1, if_neg (by omega), if_neg (show ¬ (cS F).f0 = 102 from mt (cS_kind_is F 102).1 h1), eS]) (hj4 (!decide (kd F = 120)))
            refine ⟨_, hI _ a1, ?_⟩
            have a3 := hS _ a2
            by_cases hk : kd F = 120
            · simpa [hk] using a3
            · simpa [hk] using a3
    · have hA' := hA
      rw [Bool.and_eq_true, decide_eq_true_eq, decide_eq_true_eq] at hA'
      rw [hA] at hI hS
      by_cases hm : Ls.length > i + 1
      · have hiD : i + 1 < D.length := by omega
        have hDi : (rdOf ByteArray.empty D ((i + 1 : Nat) : Int)).size ≤ 2000000 := by rw [rdOf_at D (i + 1) hiD]; exact hDs _ (List.getElem_mem hiD)
        have es1 := impl_Sum_ev (rdOf ByteArray.empty D ((i + 1 : Nat) : Int)) (w : Int) (by omega)
        have es2 := spec_Sum_ev (rdOf ByteArray.empty D ((i + 1 : Nat) : Int)) (w : Int) (by omega)
        have eh := l9Hex_ev (sumT (rdOf ByteArray.empty D ((i + 1 : Nat) : Int)) (w : Int)) (by have := sumT_size_le (rdOf ByteArray.empty D ((i + 1 : Nat) : Int)) (w : Int); omega)
        have st1 : ∀ k, impl_Show.j4 (k + 1) p (w : Int) (Ls.map (fun l => l.map toI)) P (i : Int) true D th t 2 false E0 E0 false (cI F).f0 (cI F).f1 (cI F).f2 = (impl_Sum.f k (rdOf ByteArray.empty D ((i + 1 : Nat) : Int)) (w : Int)).bind fun t274 => if t274.data.toList = (cI F).f2.data.toList then impl_Show.l1 k p (w : Int) (Ls.map (fun l => l.map toI)) P ((i + 1 : Nat) : Int) D th t 2 false E0 E0 false else some no := fun k => by
          simp only [impl_Show.j4, toList_eq]
          rw [if_pos trivial, hw1, hlI, if_neg (by omega), if_pos (by omega), if_pos (by omega)]
          rfl
        have st2 : ∀ k, spec_Show.j3 (k + 1) p (w : Int) (Ls.map (fun l => l.map toS)) P (i : Int) (decide (Ls.length > i + 1)) true D th t 2 false E0 E0 false (cS F).f0 (cS F).f1 (cS F).f2 = (spec_Sum.f k (rdOf ByteArray.empty D ((i + 1 : Nat) : Int)) (w : Int)).bind fun t175 => (spec_l9Hex.f k t175).bind fun t176 => if t176.data.toList = (cS F).f2.data.toList then spec_Show.l1 k p (w : Int) (Ls.map (fun l => l.map toS)) P ((i + 1 : Nat) : Int) D th t 2 false E0 E0 false else some no := fun k => by
          simp only [spec_Show.j3, toList_eq]
          rw [if_pos trivial, decide_eq_true hm, if_pos rfl, hw1, if_pos (by omega), if_pos (by omega)]
          rfl
        by_cases he : (sumT (rdOf ByteArray.empty D ((i + 1 : Nat) : Int)) (w : Int)).data.toList = (cI F).f2.data.toList
        · obtain ⟨R, r1, r2⟩ := ih (i + 1) (by omega) hA'.1 hm
          exact ⟨R, hI _ (Ev.step st1 (Ev.bind es1 (Ev.pos he r1))), hS _ (Ev.step st2 (Ev.bind es2 (Ev.bind eh (Ev.pos ((hsum _).1 he) r2))))⟩
        · exact ⟨no, hI _ (Ev.step st1 (Ev.bind es1 (Ev.neg he (Ev.now _)))), hS _ (Ev.step st2 (Ev.bind es2 (Ev.bind eh (Ev.neg (mt (hsum _).2 he) (Ev.now _)))))⟩
      · refine ⟨no, hI _ ?_, hS _ ?_⟩
        · refine Ev.step (f := fun _ => some no) (fun k => ?_) (Ev.now _)
          simp only [impl_Show.j4]
          rw [if_pos trivial, hw1, hlI, if_pos (by omega)]
          rfl
        · refine Ev.step (f := fun _ => some no) (fun k => ?_) (Ev.now _)
          simp only [spec_Show.j3]
          rw [if_pos trivial, decide_eq_false hm, if_neg (by decide)]
          rfl
end
end Go.Proofs.YtgjipjffpodjlaaDoor.E
set_option linter.unusedSimpArgs false
set_option linter.unusedVariables false
set_option linter.unusedSectionVars false
namespace Go.Proofs.YtgjipjffpodjlaaDoor.E
open Go.RowKit Go.Proofs.YtgjipjffpodjlaaDoorW.PrintWords Go.Proofs.YtgjipjffpodjlaaDoorW.PrintLast Go.Proofs.YtgjipjffpodjlaaDoorW.PrintMore Go.Proofs.YtgjipjffpodjlaaDoor.U Go.Proofs.YtgjipjffpodjlaaDoor.K
open Go.Lib
theorem show_dirs (s p : ByteArray) (w : Nat) (hw : 1 ≤ w ∧ w ≤ 8) (D : List ByteArray) (th : Bool) (t : ByteArray) (hp : p.size ≤ 2000000) (hD : 1 ≤ D.length ∧ D.length ≤ 7) (hDs : ∀ x ∈ D, x.size ≤ 2000000) (ht : t.size ≤ 2000000) (d : Nat) :
    ∀ Ls : List (List Ln), D.length - Ls.length = d → Ls.length ≤ D.length → (∀ l ∈ Ls, Inv w l ∧ l.length < 3000000000) →
    ∃ R : Ans, Ev (fun k => impl_Show.l0 k s p (w : Int) (Ls.map (fun l => l.map toI)) D (D.length : Int) (Ls.length : Int) D th t) R ∧ Ev (fun k => spec_Show.l0 k s p (w : Int) (Ls.map (fun l => l.map toS)) (Ls.length : Int) D th t) R := by
  induction d with
  | zero =>
    intro Ls hd hle hL
    have hlen : Ls.length = D.length := by omega
    have hpl := parts_len 47 p
    have hP1 : 1 ≤ (parts 47 p).length := by
      unfold parts
      rw [List.length_map]
      exact List.length_pos_iff.2 (splA_ne _ _ _)
    have h0 : (rdOf ByteArray.empty D 0).size ≤ 2000000 := by
      have : rdOf ByteArray.empty D ((0 : Nat) : Int) = D[0] := rdOf_at D 0 (by omega)
      rw [show rdOf ByteArray.empty D 0 = rdOf ByteArray.empty D ((0 : Nat) : Int) from rfl, this]
      exact hDs _ (List.getElem_mem _)
    have e1 := impl_Sum_ev (rdOf ByteArray.empty D 0) (w : Int) (by omega)
    have e2 := spec_Sum_ev (rdOf ByteArray.empty D 0) (w : Int) (by omega)
    have st1 : ∀ k, impl_Show.l0 (k + 1) s p (w : Int) (Ls.map (fun l => l.map toI)) D (D.length : Int) (Ls.length : Int) D th t = (impl_Sum.f k (rdOf ByteArray.empty D 0) (w : Int)).bind fun t264 => if t264.data.toList = s.data.toList then impl_Show.l1 k p (w : Int) (Ls.map (fun l => l.map toI)) (parts 47 p) ((0 : Nat) : Int) D th t 2 false E0 E0 false else some no := fun k => by
      simp only [impl_Show.l0, toList_eq]
      rw [if_neg (by omega), if_pos (by omega)]
      congr 1
      funext t264
      rw [show strings_Split.f p (⟨#[47]⟩ : ByteArray) = some (parts 47 p) from split_eq p 47 (by omega)]
      rfl
    have st2 : ∀ k, spec_Show.l0 (k + 1) s p (w : Int) (Ls.map (fun l => l.map toS)) (Ls.length : Int) D th t = (spec_Sum.f k (rdOf ByteArray.empty D 0) (w : Int)).bind fun t164 => if t164.data.toList = s.data.toList then (spec_l4Parts.f k p).bind (fun t165 => spec_Show.l1 k p (w : Int) (Ls.map (fun l => l.map toS)) t165 ((0 : Nat) : Int) D th t 2 false E0 E0 false) else some no := fun k => by
      simp only [spec_Show.l0, toList_eq]
      rw [if_neg (by omega), if_pos (by omega)]
      rfl
    by_cases he : (sumT (rdOf ByteArray.empty D 0) (w : Int)).data.toList = s.data.toList
    · obtain ⟨R, r1, r2⟩ := show_loop p w D th t Ls (parts 47 p) hL hlen hD.2 hDs ht (by omega) _ 0 rfl hP1 (by omega)
      exact ⟨R, Ev.step st1 (Ev.bind e1 (Ev.pos he r1)), Ev.step st2 (Ev.bind e2 (Ev.pos he (Ev.bind (l4Parts_ev p (by omega)) r2)))⟩
    · exact ⟨no, Ev.step st1 (Ev.bind e1 (Ev.neg he (Ev.now _))), Ev.step st2 (Ev.bind e2 (Ev.neg he (Ev.now _)))⟩
  | succ d ih =>
    intro Ls hd hle hL
    have hi : Ls.length < D.length := by omega
    have hr := rdOf_at D Ls.length hi
    have hz : (D[Ls.length]).size ≤ 2000000 := hDs _ (List.getElem_mem hi)
    have hw1 : wrap64 ((Ls.length : Int) + 1) = ((Ls.length + 1 : Nat) : Int) := w64 (by omega)
    obtain ⟨res, r1, ⟨x, r2, r3⟩, r4⟩ := read_both w hw (D[Ls.length]) hz
    have st1 : ∀ k, impl_Show.l0 (k + 1) s p (w : Int) (Ls.map (fun l => l.map toI)) D (D.length : Int) (Ls.length : Int) D th t = (impl_rows.f k (D[Ls.length]) (w : Int)).bind fun bt255 => if ((D[Ls.length]).size : Int) > 8000 then some bad else if bt255.2 = true then impl_Show.l0 k s p (w : Int) (Ls.map (fun l => l.map toI) ++ [bt255.1]) D (D.length : Int) ((Ls.length + 1 : Nat) : Int) D th t else some bad := fun k => by
      simp only [impl_Show.l0]
      rw [if_pos (by omega), if_pos (by omega), if_pos (by omega), hr, hw1]
      congr 1
      funext bt255
      rw [if_pos (show (Ls.map (fun l => l.map toI)).length < 5864062014805 by rw [List.length_map]; omega)]
      rfl
    have st2 : ∀ k, spec_Show.l0 (k + 1) s p (w : Int) (Ls.map (fun l => l.map toS)) (Ls.length : Int) D th t = (spec_l9Read.f k (D[Ls.length]) (w : Int)).bind fun bt154 => if bt154.2 = true then (if ((D[Ls.length]).size : Int) > 8000 then some bad else spec_Show.l0 k s p (w : Int) (Ls.map (fun l => l.map toS) ++ [bt154.1]) ((Ls.length + 1 : Nat) : Int) D th t) else some bad := fun k => by
      simp only [spec_Show.l0]
      rw [if_pos (by omega), if_pos (by omega), hr, hw1]
      congr 1
      funext bt154
      rw [if_pos (show (Ls.map (fun l => l.map toS)).length < 5864062014805 by rw [List.length_map]; omega)]
      rfl
    by_cases hbig : ((D[Ls.length]).size : Int) > 8000
    · refine ⟨bad, Ev.step st1 (Ev.bind r1 (Ev.pos hbig (Ev.now _))), Ev.step st2 (Ev.bind r2 ?_)⟩
      by_cases hx : x.2 = true
      · exact Ev.pos hx (Ev.pos hbig (Ev.now _))
      · exact Ev.neg hx (Ev.now _)
    · cases res with
      | none =>
        have hx : ¬ x.2 = true := by
          have : x.2 = false := r3
          rw [this]; decide
        exact ⟨bad, Ev.step st1 (Ev.bind r1 (Ev.neg hbig (Ev.neg (show ¬ (false = true) by decide) (Ev.now _)))), Ev.step st2 (Ev.bind r2 (Ev.neg hx (Ev.now _)))⟩
      | some l =>
        have hx : x = (l.map toS, true) := r3
        subst hx
        obtain ⟨hinv, hll0⟩ := r4 l rfl
        have hll : l.length < 3000000000 := by omega
        obtain ⟨R, q1, q2⟩ := ih (Ls ++ [l]) (by rw [List.length_append, List.length_singleton]; omega) (by rw [List.length_append, List.length_singleton]; omega) (fun y hy => by
          rcases List.mem_append.1 hy with hy | hy
          · exact hL y hy
          · obtain rfl := List.mem_singleton.1 hy; exact ⟨hinv, hll⟩)
        rw [List.map_append, List.length_append, List.length_singleton] at q1 q2
        exact ⟨R, Ev.step st1 (Ev.bind r1 (Ev.neg hbig (Ev.pos rfl q1))), Ev.step st2 (Ev.bind r2 (Ev.pos rfl (Ev.neg hbig q2)))⟩
theorem show_both (s p : ByteArray) (w : Int) (D : List ByteArray) (th : Bool) (t : ByteArray) (hp : p.size ≤ 2000000) (hDs : ∀ x ∈ D, x.size ≤ 2000000) (ht : t.size ≤ 2000000) :
    ∃ R : Ans, Ev (fun k => impl_Show.f k s p D th t w) R ∧ Ev (fun k => spec_Show.f k s p D th t w) R := by
  have b1 : Ev (fun k => impl_Show.j0 k s p w true D th t) bad := Ev.step (f := fun _ => some bad) (fun k => by simp only [impl_Show.j0]; rfl) (Ev.now _)
  have b2 : Ev (fun k => spec_Show.j0 k s p w true D th t) bad := Ev.step (f := fun _ => some bad) (fun k => by simp only [spec_Show.j0]; rfl) (Ev.now _)
  have v1 := impl_ValidPath_ev p (by omega)
  have v2 := spec_ValidPath_ev p
  simp only [impl_Show.f, spec_Show.f]
  by_cases hv : validP p false = true
  · by_cases hw : 1 ≤ w ∧ w ≤ 8
    · by_cases hl : 1 ≤ (D.length : Int) ∧ (D.length : Int) ≤ 7
      · have go : ∀ R, Ev (fun k => if (t.size : Int) > 1500 then impl_Show.j0 k s p w true D th t else if th = true then impl_Show.j0 k s p w false D th t else impl_Show.j0 k s p w (t.toList != ([] : List UInt8)) D th t) R →
            Ev (fun k => if (t.size : Int) > 1500 then spec_Show.j0 k s p w true D th t else if th = true then spec_Show.j0 k s p w false D th t else spec_Show.j0 k s p w (t.toList != ([] : List UInt8)) D th t) R →
            ∃ R : Ans, Ev (fun k => (impl_ValidPath.f k p).bind fun t251 => if t251 = true then (impl_in.f w 1 8).bind fun t252 => if t252 = true then (impl_in.f (D.length : Int) 1 7).bind fun t253 => if t253 = true then (if (t.size : Int) > 1500 then impl_Show.j0 k s p w true D th t else if th = true then impl_Show.j0 k s p w false D th t else impl_Show.j0 k s p w (t.toList != ([] : List UInt8)) D th t) else impl_Show.j0 k s p w true D th t else impl_Show.j0 k s p w true D th t else impl_Show.j0 k s p w true D th t) R ∧
              Ev (fun k => (spec_ValidPath.f k p).bind fun t147 => if t147 = true then (spec_l1In.f w 1 8).bind fun t148 => if t148 = true then (spec_l1In.f (D.length : Int) 1 7).bind fun t149 => if t149 = true then (if (t.size : Int) > 1500 then spec_Show.j0 k s p w true D th t else if th = true then spec_Show.j0 k s p w false D th t else spec_Show.j0 k s p w (t.toList != ([] : List UInt8)) D th t) else spec_Show.j0 k s p w true D th t else spec_Show.j0 k s p w true D th t else spec_Show.j0 k s p w true D th t) R := fun R g1 g2 =>
          ⟨R, Ev.bind v1 (Ev.pos hv (Ev.bindC (in_eq _ _ _) (Ev.pos (by simpa using hw) (Ev.bindC (in_eq _ _ _) (Ev.pos (by simpa using hl) g1))))), Ev.bind v2 (Ev.pos hv (Ev.bindC (l1In_eq _ _ _) (Ev.pos (by simpa using hw) (Ev.bindC (l1In_eq _ _ _) (Ev.pos (by simpa using hl) g2)))))⟩
        obtain ⟨wn, rfl⟩ : ∃ wn : Nat, w = (wn : Int) := ⟨w.toNat, by omega⟩
        obtain ⟨R, q1, q2⟩ := show_dirs s p wn (by omega) D th t hp (by omega) hDs ht _ [] rfl (Nat.zero_le _) (fun l hl => by cases hl)
        have c1 : Ev (fun k => impl_Show.j0 k s p (wn : Int) false D th t) R := Ev.step (f := fun k => impl_Show.l0 k s p (wn : Int) ([] : List (List SI)) D (D.length : Int) 0 D th t) (fun k => by simp only [impl_Show.j0]; rfl) q1
        have c2 : Ev (fun k => spec_Show.j0 k s p (wn : Int) false D th t) R := Ev.step (f := fun k => spec_Show.l0 k s p (wn : Int) ([] : List (List SS)) 0 D th t) (fun k => by simp only [spec_Show.j0]; rfl) q2
        by_cases hts : (t.size : Int) > 1500
        · exact go bad (Ev.pos hts b1) (Ev.pos hts b2)
        · by_cases hth : th = true
          · exact go R (Ev.neg hts (Ev.pos hth c1)) (Ev.neg hts (Ev.pos hth c2))
          · by_cases hte : t.toList = ([] : List UInt8)
            · have e : (t.toList != ([] : List UInt8)) = false := by rw [hte]; rfl
              exact go R (Ev.neg hts (Ev.neg hth (by rw [e]; exact c1))) (Ev.neg hts (Ev.neg hth (by rw [e]; exact c2)))
            · have e : (t.toList != ([] : List UInt8)) = true := by simpa using hte
              exact go bad (Ev.neg hts (Ev.neg hth (by rw [e]; exact b1))) (Ev.neg hts (Ev.neg hth (by rw [e]; exact b2)))
      · exact ⟨bad, Ev.bind v1 (Ev.pos hv (Ev.bindC (in_eq _ _ _) (Ev.pos (by simpa using hw) (Ev.bindC (in_eq _ _ _) (Ev.neg (by simpa using hl) b1))))), Ev.bind v2 (Ev.pos hv (Ev.bindC (l1In_eq _ _ _) (Ev.pos (by simpa using hw) (Ev.bindC (l1In_eq _ _ _) (Ev.neg (by simpa using hl) b2)))))⟩
    · exact ⟨bad, Ev.bind v1 (Ev.pos hv (Ev.bindC (in_eq _ _ _) (Ev.neg (by simpa using hw) b1))), Ev.bind v2 (Ev.pos hv (Ev.bindC (l1In_eq _ _ _) (Ev.neg (by simpa using hw) b2)))⟩
  · exact ⟨bad, Ev.bind v1 (Ev.neg hv b1), Ev.bind v2 (Ev.neg hv b2)⟩
end Go.Proofs.YtgjipjffpodjlaaDoor.E
set_option linter.unusedSimpArgs false
set_option linter.unusedVariables false
namespace Go.Proofs.YtgjipjffpodjlaaDoor.E
open Go.RowKit Go.Proofs.YtgjipjffpodjlaaDoorW.PrintWords Go.Proofs.YtgjipjffpodjlaaDoorW.PrintLast Go.Proofs.YtgjipjffpodjlaaDoorW.PrintMore Go.Proofs.YtgjipjffpodjlaaDoor.U Go.Proofs.YtgjipjffpodjlaaDoor.K
theorem rdS_at (D : List ByteArray) (i : Nat) (h : i < D.length) : rdOf ByteArray.empty D (i : Int) = D[i] := by simp [rdOf, List.getD, h]
theorem sz_loop (l : List ByteArray) (hl : l.length ≤ 9223372036854775807) (hz : ∀ x ∈ l, x.size ≤ 9223372036854775807) (d : Nat) :
    ∀ (i : Nat) (left : Int), l.length - i = d → i ≤ l.length → 0 ≤ left → left ≤ 1048576 → ∃ r : Int, Ev (fun k => laws_szStringS.l0 k l left (i : Int)) r ∧ (r < 0 ∨ (r ≤ left ∧ ∀ x ∈ l.drop i, (x.size : Int) ≤ left)) := by
  induction d with
  | zero =>
    intro i left hd hi h0 h1
    refine ⟨left, Ev.step (f := fun _ => some left) (fun k => ?_) (Ev.now _), Or.inr ⟨Int.le_refl _, fun x hx => ?_⟩⟩
    · simp only [laws_szStringS.l0]; rw [if_neg (by omega)]
    · rw [List.drop_of_length_le (by omega)] at hx; cases hx
  | succ d ih =>
    intro i left hd hi h0 h1
    have hlt : i < l.length := by omega
    have hzi := hz _ (List.getElem_mem hlt)
    have hw : wrap64 ((i : Int) + 1) = ((i + 1 : Nat) : Int) := w64 (by omega)
    have hw2 : wrap64 (left - ((l[i]).size : Int)) = left - ((l[i]).size : Int) := w64 (by omega)
    have st : ∀ k, laws_szStringS.l0 (k + 1) l left (i : Int) = if left - ((l[i]).size : Int) < 0 then some (-1) else laws_szStringS.l0 k l (left - ((l[i]).size : Int)) ((i + 1 : Nat) : Int) := fun k => by
      simp only [laws_szStringS.l0]
      rw [if_pos (by omega), if_pos (by omega), rdS_at l i hlt, hw2, hw]
    by_cases hn : left - ((l[i]).size : Int) < 0
    · exact ⟨-1, Ev.step st (Ev.pos hn (Ev.now _)), Or.inl (by decide)⟩
    · obtain ⟨r, e, h⟩ := ih (i + 1) (left - ((l[i]).size : Int)) (by omega) (by omega) (by omega) (by omega)
      refine ⟨r, Ev.step st (Ev.neg hn e), ?_⟩
      rcases h with h | ⟨h2, h3⟩
      · exact Or.inl h
      · refine Or.inr ⟨by omega, fun x hx => ?_⟩
        rw [List.drop_eq_getElem_cons hlt] at hx
        rcases List.mem_cons.1 hx with rfl | hx
        · omega
        · have := h3 x hx; omega
theorem szStringS_ev (l : List ByteArray) (left : Int) (hl : l.length ≤ 9223372036854775807) (hz : ∀ x ∈ l, x.size ≤ 9223372036854775807) (h0 : 0 ≤ left) (h1 : left ≤ 1048576) :
    ∃ r : Int, Ev (fun k => laws_szStringS.f k l left) r ∧ (r < 0 ∨ (r ≤ left ∧ (l.length : Int) ≤ left ∧ ∀ x ∈ l, (x.size : Int) ≤ left)) := by
  have hw : wrap64 (left - (l.length : Int)) = left - (l.length : Int) := w64 (by omega)
  simp only [laws_szStringS.f]
  rw [hw]
  by_cases hn : left - (l.length : Int) < 0
  · exact ⟨-1, Ev.pos hn (Ev.now _), Or.inl (by decide)⟩
  · obtain ⟨r, e, h⟩ := sz_loop l hl hz _ 0 (left - (l.length : Int)) rfl (Nat.zero_le _) (by omega) (by omega)
    refine ⟨r, Ev.neg hn e, ?_⟩
    rcases h with h | ⟨h2, h3⟩
    · exact Or.inl h
    · refine Or.inr ⟨by omega, by omega, fun x hx => ?_⟩
      have := h3 x (by rw [List.drop_zero]; exact hx)
      omega
theorem to_loop (l : List ByteArray) (hl : l.length ≤ 17592186044416) (d : Nat) : ∀ (i : Nat) (m : List ByteArray), l.length - i = d → i ≤ l.length → m.length = l.length → m.take i = l.take i →
    Ev (fun k => laws_toStringS.l0 k l m (i : Int)) l := by
  induction d with
  | zero =>
    intro i m hd hi hm ht
    obtain rfl : i = l.length := by omega
    have e : m = l := by
      rw [List.take_of_length_le (by omega), List.take_of_length_le (Nat.le_refl _)] at ht
      exact ht
    rw [e]
    refine Ev.step (f := fun _ => some l) (fun k => ?_) (Ev.now _)
    simp only [laws_toStringS.l0]; rw [if_neg (by omega)]
  | succ d ih =>
    intro i m hd hi hm ht
    have hlt : i < l.length := by omega
    have hw : wrap64 ((i : Int) + 1) = ((i + 1 : Nat) : Int) := w64 (by omega)
    have e := ih (i + 1) (m.set i l[i]) (by omega) (by omega) (by rw [List.length_set]; exact hm) (by
      rw [List.take_succ_eq_append_getElem (by rw [List.length_set]; omega), List.take_succ_eq_append_getElem hlt, List.take_set_of_le (Nat.le_refl _), ht]
      simp)
    refine Ev.step (f := fun k => laws_toStringS.l0 k l (m.set i l[i]) ((i + 1 : Nat) : Int)) (fun k => ?_) e
    simp only [laws_toStringS.l0]
    rw [if_pos (by omega), if_pos (by omega), if_pos (by omega), rdS_at l i hlt, hw, show ((i : Int)).toNat = i by omega]
theorem toStringS_ev (l : List ByteArray) (hl : l.length ≤ 17592186044416) : Ev (fun k => laws_toStringS.f k l) l := by
  have e := to_loop l hl _ 0 (List.replicate l.length (⟨#[]⟩ : ByteArray)) rfl (Nat.zero_le _) (by simp) (by simp)
  simp only [laws_toStringS.f]
  refine Ev.pos (by omega) (Ev.pos (by omega) ?_)
  rw [show ((l.length : Int)).toNat = l.length by omega]
  exact e
theorem eq_loop (l : List ByteArray) (hl : l.length ≤ 17592186044416) (d : Nat) : ∀ i : Nat, l.length - i = d → i ≤ l.length → Ev (fun k => laws_eqStringS.l0 k l l (i : Int)) true := by
  induction d with
  | zero =>
    intro i hd hi
    refine Ev.step (f := fun _ => some true) (fun k => ?_) (Ev.now _)
    simp only [laws_eqStringS.l0]; rw [if_neg (by omega)]
  | succ d ih =>
    intro i hd hi
    have hw : wrap64 ((i : Int) + 1) = ((i + 1 : Nat) : Int) := w64 (by omega)
    refine Ev.step (f := fun k => laws_eqStringS.l0 k l l ((i + 1 : Nat) : Int)) (fun k => ?_) (ih (i + 1) (by omega) (by omega))
    simp only [laws_eqStringS.l0]
    rw [if_pos (by omega), if_pos (by omega), if_pos (by omega), if_pos trivial, hw]
theorem eqStringS_ev (l : List ByteArray) (hl : l.length ≤ 17592186044416) : Ev (fun k => laws_eqStringS.f k l l) true := by
  simp only [laws_eqStringS.f]
  exact Ev.pos trivial (eq_loop l hl _ 0 rfl (Nat.zero_le _))
end Go.Proofs.YtgjipjffpodjlaaDoor.E
set_option linter.unusedSimpArgs false
set_option linter.unusedVariables false
namespace Go.Proofs.YtgjipjffpodjlaaDoor.E
open Go.RowKit Go.Proofs.YtgjipjffpodjlaaDoorW.PrintWords Go.Proofs.YtgjipjffpodjlaaDoorW.PrintLast Go.Proofs.YtgjipjffpodjlaaDoorW.PrintMore Go.Proofs.YtgjipjffpodjlaaDoor.U Go.Proofs.YtgjipjffpodjlaaDoor.K
theorem eqShown_refl (R : Ans) : laws_eqShown.f R.1 R.2.1 R.2.2.1 R.2.2.2.1 R.2.2.2.2 R.1 R.2.1 R.2.2.1 R.2.2.2.1 R.2.2.2.2 = some true := by
  simp [laws_eqShown.f, laws_eqEntry.f]
theorem pure_show (s p : ByteArray) (D : List ByteArray) (th : Bool) (t : ByteArray) (w : Int) (hD : D.length ≤ 9223372036854775807) (hDs : ∀ x ∈ D, x.size ≤ 9223372036854775807) (ht : t.size ≤ 9223372036854775807) :
    Ev (fun k => laws_FnExactShow.f k s p D th t w) true := by
  simp only [laws_FnExactShow.f]
  by_cases h1 : (s.size : Int) > 1048576
  · exact Ev.pos h1 (Ev.now _)
  refine Ev.neg h1 ?_
  by_cases h2 : (p.size : Int) > 1048576
  · exact Ev.pos h2 (Ev.now _)
  refine Ev.neg h2 ?_
  obtain ⟨r, e, hr⟩ := szStringS_ev D 1048576 (by omega) hDs (by decide) (by decide)
  have hsz : ∃ q : Int, Ev (fun k => laws_szProof.f k D th t 1048576) q ∧ (q < 0 ∨ ((D.length : Int) ≤ 1048576 ∧ (∀ x ∈ D, (x.size : Int) ≤ 1048576) ∧ (t.size : Int) ≤ 1048576)) := by
    simp only [laws_szProof.f]
    rcases hr with hr | ⟨a1, a2, a3⟩
    · exact ⟨-1, Ev.bind e (Ev.pos hr (Ev.now _)), Or.inl (by decide)⟩
    · by_cases hr0 : r < 0
      · exact ⟨-1, Ev.bind e (Ev.pos hr0 (Ev.now _)), Or.inl (by decide)⟩
      · have hw : wrap64 (r - (t.size : Int)) = r - (t.size : Int) := w64 (by omega)
        by_cases hn : r - (t.size : Int) < 0
        · exact ⟨-1, Ev.bind e (Ev.neg hr0 (by rw [hw]; exact Ev.pos hn (Ev.now _))), Or.inl (by decide)⟩
        · exact ⟨r - (t.size : Int), Ev.bind e (Ev.neg hr0 (by rw [hw]; exact Ev.neg hn (Ev.now _))), Or.inr ⟨a2, a3, by omega⟩⟩
  obtain ⟨q, eq_, hq⟩ := hsz
  refine Ev.bind eq_ ?_
  by_cases hq0 : q < 0
  · exact Ev.pos hq0 (Ev.now _)
  refine Ev.neg hq0 ?_
  rcases hq with hq | ⟨b1, b2, b3⟩
  · exact absurd hq hq0
  have tp : Ev (fun k => laws_toProof.f k D th t) (D, th, t) := by
    simp only [laws_toProof.f]
    exact Ev.bind (toStringS_ev D (by omega)) (Ev.now _)
  obtain ⟨R, r1, r2⟩ := show_both s p w D th t (by omega) (fun x hx => by have := b2 x hx; omega) (by omega)
  refine Ev.bind tp (Ev.bind r2 (Ev.bind tp (Ev.bind r1 (Ev.bindC (eqShown_refl R) (Ev.pos rfl (Ev.bind tp ?_))))))
  have ep : Ev (fun k => laws_eqProof.f k D th t D th t) true := by
    simp only [laws_eqProof.f]
    refine Ev.bind (eqStringS_ev D (by omega)) (Ev.pos rfl (Ev.neg (by simp) (Ev.pos trivial (Ev.now _))))
  exact Ev.bind ep (Ev.pos rfl (Ev.now _))
end Go.Proofs.YtgjipjffpodjlaaDoor.E
