import Derived.Shelf.Strings.SplitCore
import Derived.Shelf.Strings.Split
import Derived.Shelf.Strings.Search3
import Derived.Shelf.Strings.Count
import Derived.Lib.CutLaws
import Derived.Laws.Strings3
import Derived.Shelf.Strings.Cut
import Derived.Test.YtgjipjffpodjlaaDoorProg
import Derived.Shelf.Hex.Decode
import Derived.Laws.Cover1
import Derived.Test.YtgjipjffpodjlaaDoorCFnExactShow1
namespace Go.Proofs.YtgjipjffpodjlaaDoor.K
open Go.RowKit Go.Proofs.YtgjipjffpodjlaaDoorW.PrintWords Go.Proofs.YtgjipjffpodjlaaDoorW.PrintLast Go.Proofs.YtgjipjffpodjlaaDoorW.PrintMore
attribute [local go_sem] max2_int min2_int max_two min_two max_three min_three max_four min_four   
set_option linter.unusedVariables false
set_option linter.unusedSimpArgs false
def laws_toStringS.l0 : Nat → List ByteArray → List ByteArray → Int → Option (List ByteArray)
 | 0, _, _, _ => none
 | k + 1, x0, x3, x4 => if x4 < (x0.length : Int) then (if 0 ≤ x4 then (if x4 < (x3.length : Int) then (laws_toStringS.l0 k x0 (x3.set (x4 : Int).toNat (rdOf ByteArray.empty x0 x4)) (wrap64 (x4 + 1))) else (none)) else (none)) else (some x3)
def laws_toStringS.f (k : Nat) (l0 : List ByteArray) : Option (List ByteArray) := if 0 ≤ (l0.length : Int) then (if ((l0.length : Int) : Int).toNat ≤ 17592186044416 then (laws_toStringS.l0 k l0 (List.replicate ((l0.length : Int) : Int).toNat (⟨#[]⟩ : ByteArray)) 0) else (none)) else (none)
theorem laws_toStringS.mono_l : ∀ k, (∀ y0 y1 y2, LeO (laws_toStringS.l0 k y0 y1 y2) (laws_toStringS.l0 (k + 1) y0 y1 y2))
 | 0 => fun _ _ _ r h => by simp [laws_toStringS.l0] at h
 | k + 1 => by
  have ih0 := laws_toStringS.mono_l k
  ·intro y0 y1 y2
   unfold laws_toStringS.l0
   repeat' first
   | (with_reducible exact ih0 _ _ _)
   | (with_reducible exact LeO.refl _)
   | (with_reducible exact LeO.none _)
   | (with_reducible refine LeO.ite ?_ ?_)
   | (with_reducible refine LeO.bind ?_ (fun _ => ?_))
   | exact ih0 _ _ _
   | exact LeO.none _
   | refine LeO.ite ?_ ?_
   | refine LeO.bind ?_ (fun _ => ?_)
theorem laws_toStringS.mono : ∀ a0 k, LeO (laws_toStringS.f k a0) (laws_toStringS.f (k + 1) a0) := by
 intro a0 k
 have ih0 := laws_toStringS.mono_l k
 unfold laws_toStringS.f
 repeat' first
   | (with_reducible exact ih0 _ _ _)
   | (with_reducible exact LeO.refl _)
   | (with_reducible exact LeO.none _)
   | (with_reducible refine LeO.ite ?_ ?_)
   | (with_reducible refine LeO.bind ?_ (fun _ => ?_))
   | exact ih0 _ _ _
   | exact LeO.none _
   | refine LeO.ite ?_ ?_
   | refine LeO.bind ?_ (fun _ => ?_)
set_option maxHeartbeats 2000000 in
set_option maxRecDepth 100000 in
theorem laws_toStringS.calls (k : Nat) (A0 : Option Addr) (c0 : Nat) (l0 : List ByteArray) (r : List ByteArray) (w : World) (hr0 : Kd.C Kd.string w A0 l0.length l0) (hc0 : l0.length ≤ c0) (h : laws_toStringS.f k l0 = some r) :
  Calls Tryd.prog 45 #[.slice A0 l0.length c0] w fun e w' => ∃ v0_ : Value, e = .returned (v0_) ∧ Kd.R Kd.string 9 w' w.heap.size (fun _ => True) v0_ r ∧ Below w.heap.size w w' := by
 have HR0 := AZ.mk hr0
 have HC0 := AZ.mk hc0
 clear hr0 hc0
 have HB := AZ.mk (Below.refl w.heap.size w)
 have H : (if 0 ≤ (l0.length : Int) then (if ((l0.length : Int) : Int).toNat ≤ 17592186044416 then (laws_toStringS.l0 k l0 (List.replicate ((l0.length : Int) : Int).toNat (⟨#[]⟩ : ByteArray)) 0) else (none)) else (none)) = some r := h
 clear h
 by_cases c2 : 0 ≤ (l0.length : Int)
 ·rw [if_pos c2] at H
  have c2b0 := eq_true c2
  have c2b1 : decide (0 ≤ (l0.length : Int)) = true := decide_eq_true c2
  clear c2
  by_cases c3 : ((l0.length : Int) : Int).toNat ≤ 17592186044416
  ·rw [if_pos c3] at H
   have c3b0 := eq_true c3
   have c3b1 : decide (((l0.length : Int) : Int).toNat ≤ 17592186044416) = true := decide_eq_true c3
   clear c3
   obtain ⟨y179, hy179⟩ : ∃ y_ : List ByteArray, y_ = (List.replicate ((l0.length : Int) : Int).toNat (⟨#[]⟩ : ByteArray)) := ⟨_, rfl⟩
   replace H : (laws_toStringS.l0 k l0 y179 0) = some r := by first | (rw [hy179]; with_reducible exact H) | (have H2_ := (Option.bind_some _ _).symm.trans H; rw [hy179]; with_reducible exact H2_) | (have H2_ := (Option.bind_some _ _).symm.trans H; with_reducible exact H2_) | with_reducible exact H | (rw [hy179]; exact H) | exact H
   have Ny179 := AZ.mk hy179
   clear hy179
   have H' := AZ.mk H
   clear H
   go_enter Tryd.func45, Tryd.ntmps45
   go_wp2_with (first | ((with_reducible refine gate_dst (N := 7) rfl ?_); refine Kd.R_make Kd.string _ 9 rfl (N := 7) rfl 29 _ _ rfl (l0.length : Int) rfl rfl Tryd.underlying29 (.string ⟨#[]⟩) 16 info9 rfl zq118 zq94 (⟨#[]⟩ : ByteArray) (ok := fun _ => True) (okp := fun _ => True) rfl (fun _ hk => hk) trivial (of_decide_eq_true zq1) (Nat.le_trans (Nat.mul_le_mul_right _ (of_decide_eq_true zq1 : (l0.length : Int).toNat ≤ 17592186044416)) zq94) (Below.refl _ _) (Nat.le_refl _) ?_; intro v180 w4 ho5 hb hg_ hnew_; clear hg_ hnew_; (first | rw [← Ny179.out] at ho5 | (simp only [Int.reduceToNat] at ho5; rw [← Ny179.out] at ho5)); have n0_ := AZ.mk (Kd.R_lower ho5 (below_size zq0)); have n1_ := AZ.mk (below_step zq0 hb); clear HB; have HO181 := n0_; have HB := n1_; clear n0_ n1_; clear hb ho5))
   go_loopg [4] k (fun kq v4 w' => ∃ (x3_1 : List ByteArray) (x4_1 : Int), v4 = .int .i64 x4_1 ∧ AZ (laws_toStringS.l0 kq l0 x3_1 x4_1 = some r) ∧ AZ (kq ≤ k) ∧ AZ (Kd.R Kd.string 9 w' w.heap.size (fun _ => True) v180 x3_1) ∧ AZ (Below w.heap.size w w'))
   case atStart => exact ⟨(y179), (0), zq8, H', ⟨Nat.le_refl _⟩, ⟨by (with_reducible repeat (first | apply Kd.R_alloc | apply Kd.R_drewN | apply Kd.R_drew)); exact HO181.out⟩, ⟨zq0⟩⟩
   case round =>
    clear H'
    try clear c2
    try clear c2b0
    try clear c2b1
    try clear p2
    try clear c3
    try clear c3b0
    try clear c3b1
    try clear c4
    obtain ⟨x3_1, x4_1, rfl, HA, HK1, HO_3, HB⟩ := hrel
    cases gk with
    | zero => exact absurd HA.out (by simp [laws_toStringS.l0])
    | succ k1 =>
     have H := HA.out
     clear HA
     simp only [laws_toStringS.l0] at H
     by_cases c6 : x4_1 < (l0.length : Int)
     ·rw [if_pos c6] at H
      have c6b0 : decide (x4_1 < (l0.length : Int)) = true := decide_eq_true c6
      clear c6
      by_cases c7 : 0 ≤ x4_1
      ·rw [if_pos c7] at H
       have c7b0 : decide (0 ≤ x4_1) = true := decide_eq_true c7
       clear c7
       by_cases c8 : x4_1 < (x3_1.length : Int)
       ·rw [if_pos c8] at H
        have c8b0 : decide (x4_1 < (x3_1.length : Int)) = true := decide_eq_true c8
        clear c8
        obtain ⟨y183, hy183⟩ : ∃ y_ : List ByteArray, y_ = (x3_1.set (x4_1 : Int).toNat (rdOf ByteArray.empty l0 x4_1)) := ⟨_, rfl⟩
        replace H : (laws_toStringS.l0 k1 l0 y183 (wrap64 (x4_1 + 1))) = some r := by first | (rw [hy183]; with_reducible exact H) | (have H2_ := (Option.bind_some _ _).symm.trans H; rw [hy183]; with_reducible exact H2_) | (have H2_ := (Option.bind_some _ _).symm.trans H; with_reducible exact H2_) | with_reducible exact H | (rw [hy183]; exact H) | exact H
        have Ny183 := AZ.mk hy183
        clear hy183
        have H' := AZ.mk H
        clear H
        have p182 : 0 ≤ (x4_1 : Int) := of_decide_eq_true zq1
        have q182 : x4_1 < (l0.length : Int) := of_decide_eq_true zq1
        obtain ⟨ad182, e182, hx182_0⟩ := Kd.at_string HR0.out x4_1 p182 q182
        cases e182
        replace hx182_0 := (HB.out.cell (World.block_lt_of_cell? w _ hx182_0)).trans hx182_0
        replace p182 := eq_true p182
        replace q182 := eq_true q182
        have p9 : 0 ≤ (x4_1 : Int) := of_decide_eq_true zq1
        have q9 : (x4_1 : Int) < ((x3_1.length : Int) : Int) := of_decide_eq_true zq1
        obtain ⟨go9, co9, eo9, gb9, gl9, cl9, HG9⟩ := Kd.R_form HO_3.out zq94
        (first | cases eo9 | (injection eo9 with ea_ en_ ec_; (first | subst ea_ | (injection ea_ with ea_; subst ea_)); subst ec_; clear en_))
        have GB9 := AZ.mk gb9
        have GG9 := AZ.mk HG9
        clear gb9 gl9 HG9
        obtain ⟨hx9_0, hf9_0⟩ := Kd.R_celln (⟨#[]⟩ : ByteArray) HO_3.out (x4_1 : Int) p9 q9
        replace p9 := eq_true p9
        replace q9 := eq_true q9
        have HP10 := Kd.R_putg HO_3.out (x4_1 : Int) (rdOf ByteArray.empty l0 x4_1)
        go_wp2_with (first | ((with_reducible refine gate_store (t := 9) (p := 20) rfl ?_); refine store_event (t := 9) (p := 20) (v := ?vo_w11) (w1 := (wr.setCell ⟨go9, (x4_1 : Int).toNat, none⟩ (.string (rdOf ByteArray.empty l0 x4_1)))) ?hg ?ho ?hn ?hr ?_; (case ho => rfl); (case hg => rfl); (case hn => rfl); (case hr => first | (go_simp; done) | (go_simp; rfl)); intro w11 hw; have hg : wr.grownBy w11 (some go9) := (by rw [hw]; exact HP10.2); have hp_ : Kd.R Kd.string 9 w11 w.heap.size (fun _ => True) (.slice (some ⟨go9, 0, none⟩) x3_1.length co9) y183 := (by rw [hw, Ny183.out]; exact HP10.1); clear HP10; have n0_ := AZ.mk (hp_); have n1_ := AZ.mk ((by rw [hw]; exact below_set (HB.out) GB9.out : Below w.heap.size w w11)); clear HO_3; clear HB; have HO_3 := n0_; have HB := n1_; clear n0_ n1_; clear hg hw hp_))
        go_roundg k1
        case measure => have := HK1.out; omega
        case rel => exact ⟨(y183), (wrap64 (x4_1 + 1)), zq8, H', ⟨zq121⟩, ⟨zq99⟩, ⟨zq0⟩⟩
       ·rw [if_neg c8] at H
        exact absurd H zq119
      ·rw [if_neg c7] at H
       exact absurd H zq119
     ·rw [if_neg c6] at H
      have c6b0 : decide (x4_1 < (l0.length : Int)) = false := decide_eq_false c6
      clear c6
      obtain rfl := Option.some.inj H
      go_wp2
      go_ret
      exact ⟨_, zq7, zq99, zq0⟩
  ·rw [if_neg c3] at H
   exact absurd H zq119
 ·rw [if_neg c2] at H
  exact absurd H zq119
end Go.Proofs.YtgjipjffpodjlaaDoor.K
namespace Go.Proofs.YtgjipjffpodjlaaDoor.K
open Go.RowKit Go.Proofs.YtgjipjffpodjlaaDoorW.PrintWords Go.Proofs.YtgjipjffpodjlaaDoorW.PrintLast Go.Proofs.YtgjipjffpodjlaaDoorW.PrintMore
attribute [local go_sem] max2_int min2_int max_two min_two max_three min_three max_four min_four   
set_option linter.unusedVariables false
set_option linter.unusedSimpArgs false
def laws_toProof.f (k : Nat) (l0_0 : List ByteArray) (a0_1 : Bool) (a0_2 : ByteArray) : Option (List ByteArray × Bool × ByteArray) := (laws_toStringS.f k l0_0).bind fun t187 => (some (t187, a0_1, a0_2))
theorem laws_toProof.mono : ∀ a0 a1 a2 k, LeO (laws_toProof.f k a0 a1 a2) (laws_toProof.f (k + 1) a0 a1 a2) := by
 intro a0 a1 a2 k
 unfold laws_toProof.f
 repeat' first
   | (with_reducible exact laws_toStringS.mono _ _)
   | (with_reducible exact LeO.refl _)
   | (with_reducible exact LeO.none _)
   | (with_reducible refine LeO.ite ?_ ?_)
   | (with_reducible refine LeO.bind ?_ (fun _ => ?_))
   | exact laws_toStringS.mono _ _
   | exact LeO.none _
   | refine LeO.ite ?_ ?_
   | refine LeO.bind ?_ (fun _ => ?_)
set_option maxHeartbeats 2000000 in
set_option maxRecDepth 100000 in
theorem laws_toProof.calls (k : Nat) (A0_0 : Option Addr) (c0_0 : Nat) (l0_0 : List ByteArray) (a0_1 : Bool) (a0_2 : ByteArray) (r1 : List ByteArray) (r2 : Bool) (r3 : ByteArray) (w : World) (hr0_0 : Kd.C Kd.string w A0_0 l0_0.length l0_0) (hc0_0 : l0_0.length ≤ c0_0) (h : laws_toProof.f k l0_0 a0_1 a0_2 = some (r1, r2, r3)) :
  Calls Tryd.prog 12 #[.agg #[.slice A0_0 l0_0.length c0_0, .bool a0_1, .string a0_2]] w fun e w' => ∃ v0_ : Value, e = .returned (.agg #[v0_, .bool r2, .string r3]) ∧ Kd.R Kd.string 9 w' w.heap.size (fun _ => True) v0_ r1 ∧ Below w.heap.size w w' := by
 have hu31 := Tryd.underlying31
 have hu38 := Tryd.underlying38
 have HR0_0 := AZ.mk hr0_0
 have HC0_0 := AZ.mk hc0_0
 clear hr0_0 hc0_0
 have HB := AZ.mk (Below.refl w.heap.size w)
 have H : ((laws_toStringS.f k l0_0).bind fun t187 => (some (t187, a0_1, a0_2))) = some (r1, r2, r3) := h
 clear h
 replace H := Option.bind_eq_some_iff.mp H
 obtain ⟨t187, A20, H⟩ := H
 try dsimp only at H
 have A2 := AZ.mk A20
 clear A20
 simp only [Option.some.injEq, Prod.mk.injEq] at H
 obtain ⟨rfl, rfl, rfl⟩ := H
 go_enter Tryd.func12, Tryd.ntmps12
 go_wp2_with (first | ((with_reducible refine gate_dst (N := 1) rfl ?_); refine box_event ?hg (N := 1) ?hd (cs := #[.slice A0_0 l0_0.length c0_0, .bool a0_1, .string a0_2]) (t := 31) ?hr ?_; (case hd => rfl); (case hg => rfl); (case hr => first | (go_simp; done) | (go_simp; rfl)); intro gb184 hg w3 hbox hb; have n0_ := AZ.mk (below_step zq0 hb); have n1_ := AZ.mk (hbox); have n2_ := AZ.mk ((by rw [hg]; exact (below_size zq0) : w.heap.size ≤ gb184)); have n3_ := AZ.mk ((by rw [hg]; exact (below_size zq0) : w.heap.size ≤ gb184)); clear HB; have HB := n0_; have BK184 := n1_; have GW184 := n2_; have GE184 := n3_; clear n0_ n1_ n2_ n3_; clear hb hbox hg) | ((with_reducible refine gate_dst (N := 2) rfl ?_); refine box_event ?hg (N := 2) ?hd (cs := #[.slice none 0 0, .bool false, .string (⟨#[]⟩ : ByteArray)]) (t := 38) ?hr ?_; (case hd => rfl); (case hg => rfl); (case hr => first | (go_simp; done) | (go_simp; rfl)); intro gb185 hg w4 hbox hb; have n0_ := AZ.mk (blk_below (g := gb184) (o := .cells #[.slice A0_0 l0_0.length c0_0, .bool a0_1, .string a0_2] 31 (0, 0)) zq74 hb); have n1_ := AZ.mk (below_step zq110 hb); have n2_ := AZ.mk (hbox); have n3_ := AZ.mk ((by rw [hg]; exact (below_size zq110) : w.heap.size ≤ gb185)); have n4_ := AZ.mk ((by rw [hg]; exact (below_size zq110) : w.heap.size ≤ gb185)); have n5_ := AZ.mk ((by rw [hg]; exact Nat.ne_of_lt (blk_lt (g := gb184) (o := .cells #[.slice A0_0 l0_0.length c0_0, .bool a0_1, .string a0_2] 31 (0, 0)) zq74) : gb184 ≠ gb185)); have n6_ := AZ.mk ((by rw [hg]; exact Nat.ne_of_gt (blk_lt (g := gb184) (o := .cells #[.slice A0_0 l0_0.length c0_0, .bool a0_1, .string a0_2] 31 (0, 0)) zq74) : gb185 ≠ gb184)); clear BK184; clear HB; have BK184 := n0_; have HB := n1_; have BK185 := n2_; have GW185 := n3_; have GE185 := n4_; have NB184_185 := n5_; have NB185_184 := n6_; clear n0_ n1_ n2_ n3_ n4_ n5_ n6_; clear hb hbox hg) | ((with_reducible refine gate_dst (N := 3) rfl ?_); refine box_event ?hg (N := 3) ?hd (cs := #[.slice none 0 0, .bool false, .string (⟨#[]⟩ : ByteArray)]) (t := 38) ?hr ?_; (case hd => rfl); (case hg => rfl); (case hr => first | (go_simp; done) | (go_simp; rfl)); intro gb186 hg w5 hbox hb; have n0_ := AZ.mk (blk_below (g := gb184) (o := .cells #[.slice A0_0 l0_0.length c0_0, .bool a0_1, .string a0_2] 31 (0, 0)) zq74 hb); have n1_ := AZ.mk (blk_below (g := gb185) (o := .cells #[.slice none 0 0, .bool false, .string (⟨#[]⟩ : ByteArray)] 38 (0, 0)) zq108 hb); have n2_ := AZ.mk (below_step zq104 hb); have n3_ := AZ.mk (hbox); have n4_ := AZ.mk ((by rw [hg]; exact (below_size zq104) : w.heap.size ≤ gb186)); have n5_ := AZ.mk ((by rw [hg]; exact (below_size zq104) : w.heap.size ≤ gb186)); have n6_ := AZ.mk ((by rw [hg]; exact Nat.ne_of_lt (blk_lt (g := gb184) (o := .cells #[.slice A0_0 l0_0.length c0_0, .bool a0_1, .string a0_2] 31 (0, 0)) zq74) : gb184 ≠ gb186)); have n7_ := AZ.mk ((by rw [hg]; exact Nat.ne_of_gt (blk_lt (g := gb184) (o := .cells #[.slice A0_0 l0_0.length c0_0, .bool a0_1, .string a0_2] 31 (0, 0)) zq74) : gb186 ≠ gb184)); have n8_ := AZ.mk ((by rw [hg]; exact Nat.ne_of_lt (blk_lt (g := gb185) (o := .cells #[.slice none 0 0, .bool false, .string (⟨#[]⟩ : ByteArray)] 38 (0, 0)) zq108) : gb185 ≠ gb186)); have n9_ := AZ.mk ((by rw [hg]; exact Nat.ne_of_gt (blk_lt (g := gb185) (o := .cells #[.slice none 0 0, .bool false, .string (⟨#[]⟩ : ByteArray)] 38 (0, 0)) zq108) : gb186 ≠ gb185)); clear BK184; clear BK185; clear HB; have BK184 := n0_; have BK185 := n1_; have HB := n2_; have BK186 := n3_; have GW186 := n4_; have GE186 := n5_; have NB184_186 := n6_; have NB186_184 := n7_; have NB185_186 := n8_; have NB186_185 := n9_; clear n0_ n1_ n2_ n3_ n4_ n5_ n6_ n7_ n8_ n9_; clear hb hbox hg; have hnb6 := NB184_185.out; have hnc6 := NB185_184.out; have hnb7 := NB184_186.out; have hnc7 := NB186_184.out; have hcz8_0 : w5.cell? ⟨gb184, 0, none⟩ = some (.slice A0_0 l0_0.length c0_0) := (blk_cell BK184.out 0).trans rfl; have hcz8_1 : w5.cell? ⟨gb184, 1, none⟩ = some (.bool a0_1) := (blk_cell BK184.out 1).trans rfl; have hcz8_2 : w5.cell? ⟨gb184, 2, none⟩ = some (.string a0_2) := (blk_cell BK184.out 2).trans rfl; have hfz8_0 := blk_frozen BK184.out 0; have hfz8_1 := blk_frozen BK184.out 1; have hfz8_2 := blk_frozen BK184.out 2) | ((with_reducible refine gate_callee (f := 45) rfl ?_); refine goesL_ (some 6) rfl rfl Tryd.func45 zq17 rfl #[.slice A0_0 l0_0.length c0_0] rfl zq2 ?_; (with_reducible refine (laws_toStringS.calls k _ _ l0_0 t187 _ ?side1 ?side2 A2.out).mono ?_); (case side1 => repeat (first | exact (Kd.C_below HR0_0.out HB.out) | (with_reducible refine Kd.C_alloc ?_ _) | (with_reducible refine Kd.C_drewN ?_ _) | (with_reducible refine Kd.C_drew ?_))); (case side2 => exact HC0_0.out); rintro e w9 ⟨v188, rfl, ho0, hb⟩; refine ⟨_, rfl, ?_⟩; have n0_ := AZ.mk (Kd.R_lower ho0 (below_size zq97)); have n1_ := AZ.mk (blk_below (g := gb184) (o := .cells #[.slice A0_0 l0_0.length c0_0, .bool a0_1, .string a0_2] 31 (0, 0)) zq74 hb); have n2_ := AZ.mk (blk_below (g := gb185) (o := .cells #[.slice none 0 0, .bool false, .string (⟨#[]⟩ : ByteArray)] 38 (0, 0)) zq108 hb); have n3_ := AZ.mk (blk_below (g := gb186) (o := .cells #[.slice none 0 0, .bool false, .string (⟨#[]⟩ : ByteArray)] 38 (0, 0)) (by (with_reducible repeat (first | refine blk_drewN ?_ _ | refine blk_drew ?_ | refine blk_alloc ?_ _)); exact BK186.out) hb); have n4_ := AZ.mk (below_step zq97 hb); clear BK184; clear BK185; clear BK186; clear HB; have HO189 := n0_; have BK184 := n1_; have BK185 := n2_; have BK186 := n3_; have HB := n4_; clear n0_ n1_ n2_ n3_ n4_; (try clear hb); (try clear hb2); (try clear hk); (try clear hi); (try clear ho0); obtain ⟨Ao10, co10, eo10⟩ := Kd.R_slice HO189.out; subst eo10; have hnb11 := NB186_185.out; have hnc11 := NB185_186.out; have hcz12_0 : w9.cell? ⟨gb186, 0, none⟩ = some (.slice none 0 0) := (blk_cell BK186.out 0).trans rfl; have hcz12_1 : w9.cell? ⟨gb186, 1, none⟩ = some (.bool false) := (blk_cell BK186.out 1).trans rfl; have hcz12_2 : w9.cell? ⟨gb186, 2, none⟩ = some (.string (⟨#[]⟩ : ByteArray)) := (blk_cell BK186.out 2).trans rfl; have hfz12_0 := blk_frozen BK186.out 0; have hfz12_1 := blk_frozen BK186.out 1; have hfz12_2 := blk_frozen BK186.out 2; have hcz13_0 : w9.cell? ⟨gb184, 0, none⟩ = some (.slice A0_0 l0_0.length c0_0) := (blk_cell BK184.out 0).trans rfl; have hcz13_1 : w9.cell? ⟨gb184, 1, none⟩ = some (.bool a0_1) := (blk_cell BK184.out 1).trans rfl; have hcz13_2 : w9.cell? ⟨gb184, 2, none⟩ = some (.string a0_2) := (blk_cell BK184.out 2).trans rfl; have hfz13_0 := blk_frozen BK184.out 0; have hfz13_1 := blk_frozen BK184.out 1; have hfz13_2 := blk_frozen BK184.out 2; have hcz14_0 : w9.cell? ⟨gb185, 0, none⟩ = some (.slice none 0 0) := (blk_cell BK185.out 0).trans rfl; have hcz14_1 : w9.cell? ⟨gb185, 1, none⟩ = some (.bool false) := (blk_cell BK185.out 1).trans rfl; have hcz14_2 : w9.cell? ⟨gb185, 2, none⟩ = some (.string (⟨#[]⟩ : ByteArray)) := (blk_cell BK185.out 2).trans rfl; have hfz14_0 := blk_frozen BK185.out 0; have hfz14_1 := blk_frozen BK185.out 1; have hfz14_2 := blk_frozen BK185.out 2))
 refine bodyPost_ret (results_cell_row rfl _ _ gb185 38 #[.slice Ao10 t187.length co10, .bool a0_1, .string a0_2] (0, 0) _ rfl (by (with_reducible repeat (first | refine blk_drewN ?_ _ | refine blk_drew ?_ | refine blk_alloc ?_ _)); refine blk_put (cs := #[.slice Ao10 t187.length co10, .bool a0_1, .string (⟨#[]⟩ : ByteArray)]) ?_ 2 _ rfl; (with_reducible repeat (first | refine blk_drewN ?_ _ | refine blk_drew ?_ | refine blk_alloc ?_ _)); refine blk_put (cs := #[.slice Ao10 t187.length co10, .bool false, .string (⟨#[]⟩ : ByteArray)]) ?_ 1 _ rfl; (with_reducible repeat (first | refine blk_drewN ?_ _ | refine blk_drew ?_ | refine blk_alloc ?_ _)); refine blk_put (cs := #[.slice none 0 0, .bool false, .string (⟨#[]⟩ : ByteArray)]) ?_ 0 _ rfl; (with_reducible repeat (first | refine blk_drewN ?_ _ | refine blk_drew ?_ | refine blk_alloc ?_ _)); refine blk_far ?_ NB185_186.out _; (with_reducible repeat (first | refine blk_drewN ?_ _ | refine blk_drew ?_ | refine blk_alloc ?_ _)); refine blk_far ?_ NB185_186.out _; (with_reducible repeat (first | refine blk_drewN ?_ _ | refine blk_drew ?_ | refine blk_alloc ?_ _)); refine blk_far ?_ NB185_186.out _; (with_reducible repeat (first | refine blk_drewN ?_ _ | refine blk_drew ?_ | refine blk_alloc ?_ _)); exact BK185.out) Tryd.underlying38 rfl zq17) rfl ?_
 exact ⟨_, zq7, by (with_reducible repeat (first | apply Kd.R_alloc | apply Kd.R_drewN | apply Kd.R_drew)); exact Kd.R_mono (Kd.R_far (p := ⟨gb185, 2, none⟩) (Kd.R_far (p := ⟨gb185, 1, none⟩) (Kd.R_far (p := ⟨gb185, 0, none⟩) (Kd.R_far (p := ⟨gb186, 2, none⟩) (Kd.R_far (p := ⟨gb186, 1, none⟩) (Kd.R_far (p := ⟨gb186, 0, none⟩) (Kd.R_types (Kd.R_types HO189.out BK186.out zq118) BK185.out zq118) (fun _ hk => hk.1.2) (.slice Ao10 t187.length co10)) (fun _ hk => hk.1.2) (.bool a0_1)) (fun _ hk => hk.1.2) (.string a0_2)) (fun _ hk => hk.2) (.slice Ao10 t187.length co10)) (fun _ hk => hk.2) (.bool a0_1)) (fun _ hk => hk.2) (.string a0_2)) (fun _ hk => trivial), zq97⟩
end Go.Proofs.YtgjipjffpodjlaaDoor.K
namespace Go.Proofs.YtgjipjffpodjlaaDoor.K
open Go.Shelf Go.RowKit Go.Lib
variable {P : Program} {ρ : Ren}
theorem indexB_one (x : ByteArray) (c : UInt8) : Lib.indexB x ⟨#[c]⟩ = Lib.indexByte x.data.toList c := by
  show Lib.index x.data.toList [c] = _
  exact Lib.index_one _ _
set_option maxHeartbeats 1000000 in
theorem any_Split_one (L : Lays.n146 P ρ) (hi9 : (P.info? (ρ.t 9)).map (fun i => (i.zero, i.size, i.bytes)) = some (some (.string ByteArray.empty), 1, 16)) (s : ByteArray) (c : UInt8) (w : World)
    (hs : s.size < 4294967281) :
    Calls P (ρ.f 146) #[.string s, .string ⟨#[c]⟩] w fun e w' =>
      e = .returned (.slice (some ⟨w.heap.size, 0, none⟩) (Lib.splitB ⟨#[c]⟩ 0 (Lib.countB s ⟨#[c]⟩) s).length (Lib.splitB ⟨#[c]⟩ 0 (Lib.countB s ⟨#[c]⟩) s).length) ∧ w' = w.alloc (.cells ((Lib.splitB ⟨#[c]⟩ 0 (Lib.countB s ⟨#[c]⟩) s).map Value.string).toArray (ρ.t 9)) := by
  have h1 : 1 ≤ (⟨#[c]⟩ : ByteArray).size := Nat.le_refl 1
  have hle := Lib.countB_le ⟨#[c]⟩ h1 s.size s (Nat.le_refl _)
  have hlen := Lib.splitB_all ⟨#[c]⟩ h1 0 _ s rfl
  have k := Any.strings_genSplit_core (L := { L with }) hi9 s ⟨#[c]⟩ 0 (-1) (Lib.countB s ⟨#[c]⟩ + 1) w hs h1 (Nat.zero_le _)
    (fun x cs _ => by rw [indexB_one]; exact Any.strings_Index_one { L with } x c _)
    ((Any.strings_Count_one { L with } s c w).mono fun e w' ⟨he, hw⟩ => ⟨by
      rw [he]
      show _ = Ending.returned (Value.int .i64 ((Lib.count s.data.toList [c] : Nat) : Int))
      rw [Lib.count_one]
      rfl, hw⟩)
    (by decide) (by decide) (by rw [if_pos (by decide)]; omega)
  rw [Nat.add_sub_cancel, hlen] at k
  have e2 : Lib.cellsOf (Lib.splitB ⟨#[c]⟩ 0 (Lib.countB s ⟨#[c]⟩) s) (Lib.countB s ⟨#[c]⟩ + 1) = ((Lib.splitB ⟨#[c]⟩ 0 (Lib.countB s ⟨#[c]⟩) s).map Value.string).toArray := by rw [← hlen]; exact Lib.cellsOf_full _
  rw [e2] at k
  rw [hlen]
  have t3 := L.t3; have t9 := L.t9; have t31 := L.t31
  have a3 := L.a3; have a9 := L.a9; have a31 := L.a31
  have z3 := L.z3; have v3 := L.v3; have z9 := L.z9; have v9 := L.v9; have z31 := L.z31; have v31 := L.v31
  have e221 : ∀ args w, (callFunc (ρ.f 221) args).run P w = .ok (.enter (ρ.f 221) args) w := enters_of L.f221 (by kernel_rfl) rfl
  go_enter L.f146, Body.n146_ntmps ρ
  go_wp2_with (go_at_fn (ρ.f 221); refine k.mono ?_; rintro e w' ⟨rfl, hw⟩; rw [hw])
  go_ret
  exact ⟨rfl, rfl⟩
set_option maxHeartbeats 2000000 in
set_option maxRecDepth 100000 in
theorem any_stringslite_Cut_one (L : Lays.n220 P ρ) (s : ByteArray) (c : UInt8) (w : World) (hs : s.size < 4294967281) :
    Calls P (ρ.f 220) #[.string s, .string ⟨#[c]⟩] w fun e w' => e = .returned (.tuple #[.string ⟨(Lib.cut s.data.toList [c]).1.toArray⟩, .string ⟨(Lib.cut s.data.toList [c]).2.1.toArray⟩, .bool (Lib.cut s.data.toList [c]).2.2]) ∧ ∃ n, w' = w.drewN n := by
  have hsz : (⟨#[c]⟩ : ByteArray).size = 1 := rfl
  rcases Lib.indexB_cases s ⟨#[c]⟩ with hix | ⟨i, hix, hroom⟩
  · obtain ⟨e1, e2, e3⟩ := Lib.cutB_miss s ⟨#[c]⟩ hix
    rw [show (Lib.cut s.data.toList [c]) = Lib.cut s.data.toList (⟨#[c]⟩ : ByteArray).data.toList from rfl, e1, e2, e3]
    have t3 := L.t3; have t4 := L.t4; have t9 := L.t9
    have a3 : ∀ w, (isAgg (ρ.t 3)).run P w = .ok false w := run_isAgg_plain L.t3 rfl; have a4 : ∀ w, (isAgg (ρ.t 4)).run P w = .ok false w := run_isAgg_plain L.t4 rfl; have a9 : ∀ w, (isAgg (ρ.t 9)).run P w = .ok false w := run_isAgg_plain L.t9 rfl
    have e219 : ∀ args w, (callFunc (ρ.f 219) args).run P w = .ok (.enter (ρ.f 219) args) w := enters_of L.f219 (by kernel_rfl) rfl
    have mixed := L.mixed; have z3 := L.z3; have v3 := L.v3; have z4 := L.z4; have v4 := L.v4; have z9 := L.z9; have v9 := L.v9
    go_enter L.f220, Body.n220_ntmps ρ
    go_wp2_with (go_at_fn (ρ.f 219); refine (Any.stringslite_Index_one { L with } _ _ _).mono ?_; rintro e w' ⟨rfl, rfl⟩; rw [← indexB_one, hix])
    go_ret3
    exact ⟨rfl, 0, rfl⟩
  · obtain ⟨e1, e2, e3⟩ := Lib.cutB_hit s ⟨#[c]⟩ i hix
    rw [show (Lib.cut s.data.toList [c]) = Lib.cut s.data.toList (⟨#[c]⟩ : ByteArray).data.toList from rfl, e1, e2, e3]
    have c1 : (0 : Int) ≤ ↑i := by omega
    have c2 : (↑i : Int) ≤ ↑s.size := by omega
    have c3 : (0 : Int) ≤ ↑i + 1 := by omega
    have c4 : (↑i + 1 : Int) ≤ ↑s.size := by omega
    have t3 := L.t3; have t4 := L.t4; have t9 := L.t9
    have a3 : ∀ w, (isAgg (ρ.t 3)).run P w = .ok false w := run_isAgg_plain L.t3 rfl; have a4 : ∀ w, (isAgg (ρ.t 4)).run P w = .ok false w := run_isAgg_plain L.t4 rfl; have a9 : ∀ w, (isAgg (ρ.t 9)).run P w = .ok false w := run_isAgg_plain L.t9 rfl
    have e219 : ∀ args w, (callFunc (ρ.f 219) args).run P w = .ok (.enter (ρ.f 219) args) w := enters_of L.f219 (by kernel_rfl) rfl
    have mixed := L.mixed; have z3 := L.z3; have v3 := L.v3; have z4 := L.z4; have v4 := L.v4; have z9 := L.z9; have v9 := L.v9
    go_enter L.f220, Body.n220_ntmps ρ
    go_wp2_with (go_at_fn (ρ.f 219); refine (Any.stringslite_Index_one { L with } _ _ _).mono ?_; rintro e w' ⟨rfl, rfl⟩; rw [← indexB_one, hix])
    go_region_o
    go_wp2
    go_ret3
    exact ⟨rfl, 1, rfl⟩
set_option maxHeartbeats 1000000 in
theorem any_Cut_one (L : Lays.n145 P ρ) (s : ByteArray) (c : UInt8) (w : World) (hs : s.size < 4294967281) :
    Calls P (ρ.f 145) #[.string s, .string ⟨#[c]⟩] w fun e w' => e = .returned (.tuple #[.string ⟨(Lib.cut s.data.toList [c]).1.toArray⟩, .string ⟨(Lib.cut s.data.toList [c]).2.1.toArray⟩, .bool (Lib.cut s.data.toList [c]).2.2]) ∧ ∃ n, w' = w.drewN n := by
  have t4 := L.t4; have t9 := L.t9; have t59 := L.t59
  have a4 : ∀ w, (isAgg (ρ.t 4)).run P w = .ok false w := run_isAgg_plain L.t4 rfl; have a9 : ∀ w, (isAgg (ρ.t 9)).run P w = .ok false w := run_isAgg_plain L.t9 rfl; have a59 : ∀ w, (isAgg (ρ.t 59)).run P w = .ok false w := run_isAgg_plain L.t59 rfl
  have e220 : ∀ args w, (callFunc (ρ.f 220) args).run P w = .ok (.enter (ρ.f 220) args) w := enters_of L.f220 (by kernel_rfl) rfl
  have mixed := L.mixed; have z4 := L.z4; have v4 := L.v4; have z9 := L.z9; have v9 := L.v9; have z59 := L.z59; have v59 := L.v59
  go_enter L.f145, Body.n145_ntmps ρ
  go_wp2_with (go_at_fn (ρ.f 220); refine (any_stringslite_Cut_one { L with } _ _ _ hs).mono ?_; rintro e w' ⟨rfl, n, rfl⟩)
  go_ret3
  exact ⟨rfl, n, rfl⟩
end Go.Proofs.YtgjipjffpodjlaaDoor.K
namespace Go.Proofs.YtgjipjffpodjlaaDoor.K
open Go.Shelf
def Tryd.lays146_ren : Go.Shelf.Ren := ⟨fun | 146 => 50 | 221 => 80 | 268 => 95 | 138 => 96 | 143 => 92 | 195 => 104 | 197 => 105 | 218 => 106 | 219 => 103 | 260 => 112 | 217 => 108 | 225 => 109 | 224 => 110 | 267 => 111 | 266 => 113 | 314 => 114 | n => n, fun | 9 => 9 | 31 => 29 | 3 => 3 | 4 => 4 | 0 => 0 | 105 => 139 | 21 => 21 | 5 => 5 | 46 => 120 | 119 => 145 | 139 => 148 | 138 => 147 | 146 => 143 | 51 => 142 | n => n, fun | 1 => 1 | 3 => 2 | 4 => 3 | n => n⟩
theorem Tryd.lays146 : Go.Proofs.Lays.n146 Tryd.prog Tryd.lays146_ren := {
  mixed := by kernel_rfl
  f138 := Tryd.func96.trans (congrArg some (by kernel_rfl))
  f143 := Tryd.func92.trans (congrArg some (by kernel_rfl))
  f146 := Tryd.func50.trans (congrArg some (by kernel_rfl))
  f195 := Tryd.func104.trans (congrArg some (by kernel_rfl))
  f197 := Tryd.func105.trans (congrArg some (by kernel_rfl))
  f217 := Tryd.func108.trans (congrArg some (by kernel_rfl))
  f218 := Tryd.func106.trans (congrArg some (by kernel_rfl))
  f219 := Tryd.func103.trans (congrArg some (by kernel_rfl))
  f221 := Tryd.func80.trans (congrArg some (by kernel_rfl))
  f224 := Tryd.func110.trans (congrArg some (by kernel_rfl))
  f225 := Tryd.func109.trans (congrArg some (by kernel_rfl))
  f260 := Tryd.func112.trans (congrArg some (by kernel_rfl))
  f266 := Tryd.func113.trans (congrArg some (by kernel_rfl))
  f267 := Tryd.func111.trans (congrArg some (by kernel_rfl))
  f268 := Tryd.func95.trans (congrArg some (by kernel_rfl))
  f314 := Tryd.func114.trans (congrArg some (by kernel_rfl))
  t0 := Tryd.underlying0
  a0 := Tryd.isAgg0
  z0 := Tryd.sizeOf0
  v0 := Tryd.zeroValue0
  t3 := Tryd.underlying3
  a3 := Tryd.isAgg3
  z3 := Tryd.sizeOf3
  v3 := Tryd.zeroValue3
  t4 := Tryd.underlying4
  a4 := Tryd.isAgg4
  z4 := Tryd.sizeOf4
  v4 := Tryd.zeroValue4
  t5 := Tryd.underlying5
  a5 := Tryd.isAgg5
  z5 := Tryd.sizeOf5
  v5 := Tryd.zeroValue5
  t9 := Tryd.underlying9
  a9 := Tryd.isAgg9
  z9 := Tryd.sizeOf9
  v9 := Tryd.zeroValue9
  t21 := Tryd.underlying21
  a21 := Tryd.isAgg21
  z21 := Tryd.sizeOf21
  v21 := Tryd.zeroValue21
  t31 := Tryd.underlying29
  a31 := Tryd.isAgg29
  z31 := Tryd.sizeOf29
  v31 := Tryd.zeroValue29
  t46 := Tryd.underlying120
  a46 := Tryd.isAgg120
  z46 := Tryd.sizeOf120
  v46 := Tryd.zeroValue120
  t51 := Tryd.underlying142
  a51 := Tryd.isAgg142
  z51 := Tryd.sizeOf142
  v51 := Tryd.zeroValue142
  t105 := Tryd.underlying139
  a105 := Tryd.isAgg139
  z105 := Tryd.sizeOf139
  v105 := Tryd.zeroValue139
  t119 := Tryd.underlying145
  a119 := Tryd.isAgg145
  z119 := Tryd.sizeOf145
  t138 := Tryd.underlying147
  a138 := Tryd.isAgg147
  z138 := Tryd.sizeOf147
  v138 := Tryd.zeroValue147
  t139 := Tryd.underlying148
  a139 := Tryd.isAgg148
  z139 := Tryd.sizeOf148
  v139 := Tryd.zeroValue148
  t146 := Tryd.underlying143
  a146 := Tryd.isAgg143
  z146 := Tryd.sizeOf143
  v146 := Tryd.zeroValue143
  g1 := by kernel_rfl
  g3 := by kernel_rfl
  g4 := by kernel_rfl }
def Tryd.lays145_ren : Go.Shelf.Ren := ⟨fun | 145 => 76 | 220 => 91 | 219 => 103 | 217 => 108 | 225 => 109 | 224 => 110 | 267 => 111 | 266 => 113 | 314 => 114 | n => n, fun | 9 => 9 | 4 => 4 | 59 => 116 | 3 => 3 | 5 => 5 | 46 => 120 | 146 => 143 | 51 => 142 | n => n, fun | 1 => 1 | n => n⟩
theorem Tryd.lays145 : Go.Proofs.Lays.n145 Tryd.prog Tryd.lays145_ren := {
  mixed := by kernel_rfl
  f145 := Tryd.func76.trans (congrArg some (by kernel_rfl))
  f217 := Tryd.func108.trans (congrArg some (by kernel_rfl))
  f219 := Tryd.func103.trans (congrArg some (by kernel_rfl))
  f220 := Tryd.func91.trans (congrArg some (by kernel_rfl))
  f224 := Tryd.func110.trans (congrArg some (by kernel_rfl))
  f225 := Tryd.func109.trans (congrArg some (by kernel_rfl))
  f266 := Tryd.func113.trans (congrArg some (by kernel_rfl))
  f267 := Tryd.func111.trans (congrArg some (by kernel_rfl))
  f314 := Tryd.func114.trans (congrArg some (by kernel_rfl))
  t3 := Tryd.underlying3
  a3 := Tryd.isAgg3
  z3 := Tryd.sizeOf3
  v3 := Tryd.zeroValue3
  t4 := Tryd.underlying4
  a4 := Tryd.isAgg4
  z4 := Tryd.sizeOf4
  v4 := Tryd.zeroValue4
  t5 := Tryd.underlying5
  a5 := Tryd.isAgg5
  z5 := Tryd.sizeOf5
  v5 := Tryd.zeroValue5
  t9 := Tryd.underlying9
  a9 := Tryd.isAgg9
  z9 := Tryd.sizeOf9
  v9 := Tryd.zeroValue9
  t46 := Tryd.underlying120
  a46 := Tryd.isAgg120
  z46 := Tryd.sizeOf120
  v46 := Tryd.zeroValue120
  t51 := Tryd.underlying142
  a51 := Tryd.isAgg142
  z51 := Tryd.sizeOf142
  v51 := Tryd.zeroValue142
  t59 := Tryd.underlying116
  a59 := Tryd.isAgg116
  z59 := Tryd.sizeOf116
  v59 := Tryd.zeroValue116
  t146 := Tryd.underlying143
  a146 := Tryd.isAgg143
  z146 := Tryd.sizeOf143
  v146 := Tryd.zeroValue143
  g1 := by kernel_rfl }
def Tryd.lays144_ren : Go.Shelf.Ren := ⟨fun | 144 => 78 | 143 => 92 | 219 => 103 | 217 => 108 | 225 => 109 | 224 => 110 | 267 => 111 | 266 => 113 | 314 => 114 | n => n, fun | 9 => 9 | 4 => 4 | 3 => 3 | 5 => 5 | 46 => 120 | 146 => 143 | 51 => 142 | n => n, fun | 1 => 1 | n => n⟩
theorem Tryd.lays144 : Go.Proofs.Lays.n144 Tryd.prog Tryd.lays144_ren := {
  mixed := by kernel_rfl
  f143 := Tryd.func92.trans (congrArg some (by kernel_rfl))
  f144 := Tryd.func78.trans (congrArg some (by kernel_rfl))
  f217 := Tryd.func108.trans (congrArg some (by kernel_rfl))
  f219 := Tryd.func103.trans (congrArg some (by kernel_rfl))
  f224 := Tryd.func110.trans (congrArg some (by kernel_rfl))
  f225 := Tryd.func109.trans (congrArg some (by kernel_rfl))
  f266 := Tryd.func113.trans (congrArg some (by kernel_rfl))
  f267 := Tryd.func111.trans (congrArg some (by kernel_rfl))
  f314 := Tryd.func114.trans (congrArg some (by kernel_rfl))
  t3 := Tryd.underlying3
  a3 := Tryd.isAgg3
  z3 := Tryd.sizeOf3
  v3 := Tryd.zeroValue3
  t4 := Tryd.underlying4
  a4 := Tryd.isAgg4
  z4 := Tryd.sizeOf4
  v4 := Tryd.zeroValue4
  t5 := Tryd.underlying5
  a5 := Tryd.isAgg5
  z5 := Tryd.sizeOf5
  v5 := Tryd.zeroValue5
  t9 := Tryd.underlying9
  a9 := Tryd.isAgg9
  z9 := Tryd.sizeOf9
  v9 := Tryd.zeroValue9
  t46 := Tryd.underlying120
  a46 := Tryd.isAgg120
  z46 := Tryd.sizeOf120
  v46 := Tryd.zeroValue120
  t51 := Tryd.underlying142
  a51 := Tryd.isAgg142
  z51 := Tryd.sizeOf142
  v51 := Tryd.zeroValue142
  t146 := Tryd.underlying143
  a146 := Tryd.isAgg143
  z146 := Tryd.sizeOf143
  v146 := Tryd.zeroValue143
  g1 := by kernel_rfl }
end Go.Proofs.YtgjipjffpodjlaaDoor.K
namespace Go.Proofs.YtgjipjffpodjlaaDoor.K
open Go.Shelf Go.RowKit Go.Proofs.YtgjipjffpodjlaaDoorW.PrintWords
theorem lit_strs (e : Nat) (w : World) (xs : List ByteArray) (hm : xs.length ≤ 9223372036854775807) :
    Kd.R Kd.string e (w.alloc (.cells (xs.map Value.string).toArray e)) w.heap.size (fun _ => True) (.slice (some ⟨w.heap.size, 0, none⟩) xs.length xs.length) xs := by
  have h := World.ownsRow_lit (base := w.heap.size) (e := e) (size := 1) w (xs.map Value.string).toArray xs.length (Nat.le_refl _) (by simpa [maxLen] using hm) (by simp)
  exact Kd.R_of_own (by simpa [encs] using h) (fun _ _ => trivial)
def strings_Split.f (a0 : ByteArray) (a1 : ByteArray) : Option (List ByteArray) := if a1.size = 1 ∧ a0.size < 4294967281 then some (Lib.splitB a1 0 (Lib.countB a0 a1) a0) else none
theorem strings_Split.calls (a0 : ByteArray) (a1 : ByteArray) (r : List ByteArray) (w : World) (h : strings_Split.f a0 a1 = some r) :
    Calls Tryd.prog 50 #[.string a0, .string a1] w fun e w' => ∃ v0_ : Value, e = .returned (v0_) ∧ Kd.R Kd.string 9 w' w.heap.size (fun _ => True) v0_ r ∧ Below w.heap.size w w' := by
  unfold strings_Split.f at h
  split at h
  case isFalse => cases h
  case isTrue hc =>
  obtain ⟨h1, hs⟩ := hc
  obtain rfl := Option.some.inj h
  obtain ⟨c, rfl⟩ := Lib.one_byte a1 h1
  have k := any_Split_one (ρ := Tryd.lays146_ren) Tryd.lays146 (by kernel_rfl) a0 c w hs
  have hl := Lib.splitB_length_le ⟨#[c]⟩ 0 (Lib.countB a0 ⟨#[c]⟩) a0
  have hle := Lib.countB_le ⟨#[c]⟩ (Nat.le_refl 1) a0.size a0 (Nat.le_refl _)
  refine Calls.mono k ?_
  rintro e w' ⟨rfl, rfl⟩
  exact ⟨_, rfl, lit_strs _ _ _ (by omega), below_alloc (Below.refl _ _) _⟩
end Go.Proofs.YtgjipjffpodjlaaDoor.K
namespace Go.Proofs.YtgjipjffpodjlaaDoor.K
open Go.RowKit Go.Proofs.YtgjipjffpodjlaaDoorW.PrintWords Go.Proofs.YtgjipjffpodjlaaDoorW.PrintLast Go.Proofs.YtgjipjffpodjlaaDoorW.PrintMore
attribute [local go_sem] max2_int min2_int max_two min_two max_three min_three max_four min_four   
set_option linter.unusedVariables false
set_option linter.unusedSimpArgs false
def impl_in.f (a0 : Int) (a1 : Int) (a2 : Int) : Option (Bool) := if a0 ≥ a1 then (some (decide (a0 ≤ a2))) else (some false)
set_option maxHeartbeats 2000000 in
set_option maxRecDepth 100000 in
theorem impl_in.calls (a0 : Int) (a1 : Int) (a2 : Int) (r : Bool) (w : World) (h : impl_in.f a0 a1 a2 = some r) :
  Calls Tryd.prog 47 #[.int .i64 a0, .int .i64 a1, .int .i64 a2] w fun e w' => e = .returned (.bool r) ∧ Drawn0 w w' := by
 have H : (if a0 ≥ a1 then (some (decide (a0 ≤ a2))) else (some false)) = some r := h
 clear h
 by_cases c4 : a0 ≥ a1
 ·rw [if_pos c4] at H
  have c4b0 : decide (a1 ≤ a0) = true := decide_eq_true c4
  clear c4
  obtain rfl := Option.some.inj H
  go_enter Tryd.func47, Tryd.ntmps47
  go_wp2
  go_ret
  exact ⟨zq8, zq31⟩
 ·rw [if_neg c4] at H
  have c4b0 : decide (a1 ≤ a0) = false := decide_eq_false c4
  clear c4
  obtain rfl := Option.some.inj H
  go_enter Tryd.func47, Tryd.ntmps47
  go_wp2
  go_ret
  exact ⟨zq8, zq31⟩
end Go.Proofs.YtgjipjffpodjlaaDoor.K
namespace Go.Proofs.YtgjipjffpodjlaaDoor.K
open Go.RowKit Go.Proofs.YtgjipjffpodjlaaDoorW.PrintWords Go.Proofs.YtgjipjffpodjlaaDoorW.PrintLast Go.Proofs.YtgjipjffpodjlaaDoorW.PrintMore
attribute [local go_sem] max2_int min2_int max_two min_two max_three min_three max_four min_four   
set_option linter.unusedVariables false
set_option linter.unusedSimpArgs false
mutual
def impl_goodPart.j0 : Nat → ByteArray → Bool → Bool → Option (Bool)
 | 0, _, _, _ => none
 | k + 1, x0, x1, x18 => if x18 = true then (some false) else (impl_goodPart.l0 k x0 x1 0)
def impl_goodPart.l0 : Nat → ByteArray → Bool → Int → Option (Bool)
 | 0, _, _, _ => none
 | k + 1, x0, x1, x5 => if x5 < (x0.size : Int) then (if 0 ≤ x5 then (if (bt x0 x5) < 33 then (some false) else (if (bt x0 x5) > 126 then (some false) else (if (bt x0 x5) = 34 then (some false) else (if (bt x0 x5) = 47 then (some false) else (if x1 = true then (impl_goodPart.l0 k x0 x1 (wrap64 (x5 + 1))) else (if (bt x0 x5) = 42 then (some false) else (if (bt x0 x5) = 63 then (some false) else (impl_goodPart.l0 k x0 x1 (wrap64 (x5 + 1)))))))))) else (none)) else (some true)
end
def impl_goodPart.f (k : Nat) (a0 : ByteArray) (a1 : Bool) : Option (Bool) := (impl_in.f (a0.size : Int) 1 20).bind fun t190 => (if t190 = true then (if a0.toList = ([46] : List UInt8) then (impl_goodPart.j0 k a0 a1 true) else (impl_goodPart.j0 k a0 a1 (a0.toList == ([46, 46] : List UInt8)))) else (impl_goodPart.j0 k a0 a1 true))
theorem impl_goodPart.mono_l : ∀ k, (∀ y0 y1 y2, LeO (impl_goodPart.j0 k y0 y1 y2) (impl_goodPart.j0 (k + 1) y0 y1 y2)) ∧ (∀ y0 y1 y2, LeO (impl_goodPart.l0 k y0 y1 y2) (impl_goodPart.l0 (k + 1) y0 y1 y2))
 | 0 => ⟨fun _ _ _ r h => by simp [impl_goodPart.j0] at h, fun _ _ _ r h => by simp [impl_goodPart.l0] at h⟩
 | k + 1 => by
  obtain ⟨ih0, ih1⟩ := impl_goodPart.mono_l k
  refine ⟨?_, ?_⟩
  ·intro y0 y1 y2
   unfold impl_goodPart.j0
   repeat' first
   | (with_reducible exact ih0 _ _ _)
   | (with_reducible exact ih1 _ _ _)
   | (with_reducible exact LeO.refl _)
   | (with_reducible exact LeO.none _)
   | (with_reducible refine LeO.ite ?_ ?_)
   | (with_reducible refine LeO.bind ?_ (fun _ => ?_))
   | exact ih0 _ _ _
   | exact ih1 _ _ _
   | exact LeO.none _
   | refine LeO.ite ?_ ?_
   | refine LeO.bind ?_ (fun _ => ?_)
  ·intro y0 y1 y2
   unfold impl_goodPart.l0
   repeat' first
   | (with_reducible exact ih0 _ _ _)
   | (with_reducible exact ih1 _ _ _)
   | (with_reducible exact LeO.refl _)
   | (with_reducible exact LeO.none _)
   | (with_reducible refine LeO.ite ?_ ?_)
   | (with_reducible refine LeO.bind ?_ (fun _ => ?_))
   | exact ih0 _ _ _
   | exact ih1 _ _ _
   | exact LeO.none _
   | refine LeO.ite ?_ ?_
   | refine LeO.bind ?_ (fun _ => ?_)
theorem impl_goodPart.mono : ∀ a0 a1 k, LeO (impl_goodPart.f k a0 a1) (impl_goodPart.f (k + 1) a0 a1) := by
 intro a0 a1 k
 obtain ⟨ih0, ih1⟩ := impl_goodPart.mono_l k
 unfold impl_goodPart.f
 repeat' first
   | (with_reducible exact ih0 _ _ _)
   | (with_reducible exact ih1 _ _ _)
   | (with_reducible exact LeO.refl _)
   | (with_reducible exact LeO.none _)
   | (with_reducible refine LeO.ite ?_ ?_)
   | (with_reducible refine LeO.bind ?_ (fun _ => ?_))
   | exact ih0 _ _ _
   | exact ih1 _ _ _
   | exact LeO.none _
   | refine LeO.ite ?_ ?_
   | refine LeO.bind ?_ (fun _ => ?_)
set_option maxHeartbeats 2000000 in
set_option maxRecDepth 100000 in
theorem impl_goodPart.calls (k : Nat) (a0 : ByteArray) (a1 : Bool) (r : Bool) (w : World) (h : impl_goodPart.f k a0 a1 = some r) :
  Calls Tryd.prog 77 #[.string a0, .bool a1] w fun e w' => e = .returned (.bool r) ∧ Drawn0 w w' := by
 have H : ((impl_in.f (a0.size : Int) 1 20).bind fun t190 => (if t190 = true then (if a0.toList = ([46] : List UInt8) then (impl_goodPart.j0 k a0 a1 true) else (impl_goodPart.j0 k a0 a1 (a0.toList == ([46, 46] : List UInt8)))) else (impl_goodPart.j0 k a0 a1 true))) = some r := h
 clear h
 have HC3 := AZ.mk H
 clear H
 go_enter Tryd.func77, Tryd.ntmps77
 go_upto_region 1 with (fail)
 go_cut [18] (fun v18 wc => ∃ (kq : Nat) (x18_2 : Bool), v18 = .bool x18_2 ∧ AZ (impl_goodPart.j0 kq a0 a1 x18_2 = some r) ∧ AZ (kq ≤ k) ∧ Drawn0 w wc)
 case first =>
  have H := HC3.out
  clear HC3
  replace H := Option.bind_eq_some_iff.mp H
  obtain ⟨t190, A40, H⟩ := H
  try dsimp only at H
  have A4 := AZ.mk A40
  clear A40
  by_cases c5 : t190 = true
  ·subst c5
   rw [if_pos rfl] at H
   by_cases c6 : a0.toList = ([46] : List UInt8)
   ·rw [if_pos c6] at H
    have c6b0 : (a0.toList == ([46] : List UInt8)) = true := beq_iff_eq.mpr c6
    have c6b1 : (a0.toList != ([46] : List UInt8)) = false := bne_eq_false_iff_eq.mpr c6
    clear c6
    (first | rw [c6b0] | (simp only [i64_w, i32_w]; rw [c6b0]) | skip)
    have H' := AZ.mk H
    clear H
    go_wp2_with (first | ((with_reducible refine gate_callee (f := 47) rfl ?_); refine goesL_ (some 9) rfl rfl Tryd.func47 zq17 rfl #[.int .i64 (a0.size : Int), .int .i64 1, .int .i64 20] rfl zq2 ?_; (with_reducible refine (impl_in.calls (a0.size : Int) 1 20 true _ A4.out).mono ?_); rintro e w' ⟨rfl, ⟨nd, rfl⟩⟩; refine ⟨_, rfl, ?_⟩))
    go_meet
    case rel => exact ⟨_, (true), zq8, H', ⟨zq82⟩, zq31⟩
   ·rw [if_neg c6] at H
    have c6b0 : (a0.toList == ([46] : List UInt8)) = false := beq_eq_false_iff_ne.mpr c6
    have c6b1 : (a0.toList != ([46] : List UInt8)) = true := bne_iff_ne.mpr c6
    (first | rw [c6b0] | (simp only [i64_w, i32_w]; rw [c6b0]) | skip)
    have H' := AZ.mk H
    clear H
    go_wp2_with (first | ((with_reducible refine gate_callee (f := 47) rfl ?_); refine goesL_ (some 9) rfl rfl Tryd.func47 zq17 rfl #[.int .i64 (a0.size : Int), .int .i64 1, .int .i64 20] rfl zq2 ?_; (with_reducible refine (impl_in.calls (a0.size : Int) 1 20 true _ A4.out).mono ?_); rintro e w' ⟨rfl, ⟨nd, rfl⟩⟩; refine ⟨_, rfl, ?_⟩))
    go_meet
    case rel => exact ⟨_, ((a0.toList == ([46, 46] : List UInt8))), zq8, H', ⟨zq82⟩, zq31⟩
  ·replace c5 := Bool.eq_false_iff.mpr c5
   subst c5
   rw [if_neg (show ¬ (false = true) by decide)] at H
   have H' := AZ.mk H
   clear H
   go_wp2_with (first | ((with_reducible refine gate_callee (f := 47) rfl ?_); refine goesL_ (some 9) rfl rfl Tryd.func47 zq17 rfl #[.int .i64 (a0.size : Int), .int .i64 1, .int .i64 20] rfl zq2 ?_; (with_reducible refine (impl_in.calls (a0.size : Int) 1 20 false _ A4.out).mono ?_); rintro e w' ⟨rfl, ⟨nd, rfl⟩⟩; refine ⟨_, rfl, ?_⟩))
   go_meet
   case rel => exact ⟨_, (true), zq8, H', ⟨zq82⟩, zq31⟩
 case rest =>
  clear HC3
  try clear p2
  try clear c4
  try clear c5
  try clear c6
  try clear c6b0
  try clear c6b1
  obtain ⟨kq, x18_2, rfl, HA, HJ2, ⟨mc2, rfl⟩⟩ := hcut
  cases kq with
  | zero => exact absurd HA.out (by simp [impl_goodPart.j0])
  | succ kj2 =>
   have H := HA.out
   clear HA
   simp only [impl_goodPart.j0] at H
   by_cases c7 : x18_2 = true
   ·subst c7
    rw [if_pos rfl] at H
    obtain rfl := Option.some.inj H
    go_wp2
    go_ret
    exact ⟨zq8, zq31⟩
   ·replace c7 := Bool.eq_false_iff.mpr c7
    subst c7
    rw [if_neg (show ¬ (false = true) by decide)] at H
    have H' := AZ.mk H
    clear H
    go_wp2
    go_loopg [5] kj2 (fun kq v5 w' => ∃ (x5_2 : Int), v5 = .int .i64 x5_2 ∧ AZ (impl_goodPart.l0 kq a0 a1 x5_2 = some r) ∧ AZ (kq ≤ kj2) ∧ Drawn0 w w')
    case atStart => exact ⟨(0), zq8, H', ⟨Nat.le_refl _⟩, zq31⟩
    case round =>
     clear H'
     try clear c2
     try clear p2
     try clear c4
     try clear c5
     try clear c6
     try clear c6b0
     try clear c6b1
     try clear c7
     try clear p2
     obtain ⟨x5_2, rfl, HA, HK2, ⟨m2, rfl⟩⟩ := hrel
     cases gk with
     | zero => exact absurd HA.out (by simp [impl_goodPart.l0])
     | succ k2 =>
      have H := HA.out
      clear HA
      simp only [impl_goodPart.l0] at H
      by_cases c8 : x5_2 < (a0.size : Int)
      ·rw [if_pos c8] at H
       have c8b0 : decide (x5_2 < (a0.size : Int)) = true := decide_eq_true c8
       clear c8
       by_cases c9 : 0 ≤ x5_2
       ·rw [if_pos c9] at H
        have c9b0 : decide (0 ≤ x5_2) = true := decide_eq_true c9
        clear c9
        by_cases c11 : (bt a0 x5_2) < 33
        ·rw [if_pos c11] at H
         have c11b0 : decide ((bt a0 x5_2) < 33) = true := decide_eq_true c11
         clear c11
         obtain rfl := Option.some.inj H
         have p10 : 0 ≤ (x5_2 : Int) := of_decide_eq_true zq1
         have q10 : x5_2 < (a0.size : Int) := of_decide_eq_true zq1
         have hx10 := bt_at a0 x5_2
         replace p10 := eq_true p10
         replace q10 := eq_true q10
         go_wp2
         go_ret
         exact ⟨zq8, zq31⟩
        ·rw [if_neg c11] at H
         have c11b0 : decide ((bt a0 x5_2) < 33) = false := decide_eq_false c11
         clear c11
         by_cases c12 : (bt a0 x5_2) > 126
         ·rw [if_pos c12] at H
          have c12b0 : decide (126 < (bt a0 x5_2)) = true := decide_eq_true c12
          clear c12
          obtain rfl := Option.some.inj H
          have p10 : 0 ≤ (x5_2 : Int) := of_decide_eq_true zq1
          have q10 : x5_2 < (a0.size : Int) := of_decide_eq_true zq1
          have hx10 := bt_at a0 x5_2
          replace p10 := eq_true p10
          replace q10 := eq_true q10
          go_wp2
          go_ret
          exact ⟨zq8, zq31⟩
         ·rw [if_neg c12] at H
          have c12b0 : decide (126 < (bt a0 x5_2)) = false := decide_eq_false c12
          clear c12
          by_cases c13 : (bt a0 x5_2) = 34
          ·rw [if_pos c13] at H
           have c13b0 : ((bt a0 x5_2) == 34) = true := beq_iff_eq.mpr c13
           have c13b1 : ((bt a0 x5_2) != 34) = false := bne_eq_false_iff_eq.mpr c13
           clear c13
           obtain rfl := Option.some.inj H
           have p10 : 0 ≤ (x5_2 : Int) := of_decide_eq_true zq1
           have q10 : x5_2 < (a0.size : Int) := of_decide_eq_true zq1
           have hx10 := bt_at a0 x5_2
           replace p10 := eq_true p10
           replace q10 := eq_true q10
           go_wp2
           go_ret
           exact ⟨zq8, zq31⟩
          ·rw [if_neg c13] at H
           have c13b0 : ((bt a0 x5_2) == 34) = false := beq_eq_false_iff_ne.mpr c13
           have c13b1 : ((bt a0 x5_2) != 34) = true := bne_iff_ne.mpr c13
           by_cases c14 : (bt a0 x5_2) = 47
           ·rw [if_pos c14] at H
            have c14b0 : ((bt a0 x5_2) == 47) = true := beq_iff_eq.mpr c14
            have c14b1 : ((bt a0 x5_2) != 47) = false := bne_eq_false_iff_eq.mpr c14
            clear c14
            obtain rfl := Option.some.inj H
            have p10 : 0 ≤ (x5_2 : Int) := of_decide_eq_true zq1
            have q10 : x5_2 < (a0.size : Int) := of_decide_eq_true zq1
            have hx10 := bt_at a0 x5_2
            replace p10 := eq_true p10
            replace q10 := eq_true q10
            go_wp2
            go_ret
            exact ⟨zq8, zq31⟩
           ·rw [if_neg c14] at H
            have c14b0 : ((bt a0 x5_2) == 47) = false := beq_eq_false_iff_ne.mpr c14
            have c14b1 : ((bt a0 x5_2) != 47) = true := bne_iff_ne.mpr c14
            by_cases c15 : a1 = true
            ·subst c15
             rw [if_pos rfl] at H
             have H' := AZ.mk H
             clear H
             have p10 : 0 ≤ (x5_2 : Int) := of_decide_eq_true zq1
             have q10 : x5_2 < (a0.size : Int) := of_decide_eq_true zq1
             have hx10 := bt_at a0 x5_2
             replace p10 := eq_true p10
             replace q10 := eq_true q10
             go_wp2
             go_roundg k2
             case measure => have := HJ2.out; have := HK2.out; omega
             case rel => exact ⟨(wrap64 (x5_2 + 1)), zq8, H', ⟨zq141⟩, zq31⟩
            ·replace c15 := Bool.eq_false_iff.mpr c15
             subst c15
             rw [if_neg (show ¬ (false = true) by decide)] at H
             by_cases c16 : (bt a0 x5_2) = 42
             ·rw [if_pos c16] at H
              have c16b0 : ((bt a0 x5_2) == 42) = true := beq_iff_eq.mpr c16
              have c16b1 : ((bt a0 x5_2) != 42) = false := bne_eq_false_iff_eq.mpr c16
              clear c16
              obtain rfl := Option.some.inj H
              have p10 : 0 ≤ (x5_2 : Int) := of_decide_eq_true zq1
              have q10 : x5_2 < (a0.size : Int) := of_decide_eq_true zq1
              have hx10 := bt_at a0 x5_2
              replace p10 := eq_true p10
              replace q10 := eq_true q10
              go_wp2
              go_ret
              exact ⟨zq8, zq31⟩
             ·rw [if_neg c16] at H
              have c16b0 : ((bt a0 x5_2) == 42) = false := beq_eq_false_iff_ne.mpr c16
              have c16b1 : ((bt a0 x5_2) != 42) = true := bne_iff_ne.mpr c16
              by_cases c17 : (bt a0 x5_2) = 63
              ·rw [if_pos c17] at H
               have c17b0 : ((bt a0 x5_2) == 63) = true := beq_iff_eq.mpr c17
               have c17b1 : ((bt a0 x5_2) != 63) = false := bne_eq_false_iff_eq.mpr c17
               clear c17
               obtain rfl := Option.some.inj H
               have p10 : 0 ≤ (x5_2 : Int) := of_decide_eq_true zq1
               have q10 : x5_2 < (a0.size : Int) := of_decide_eq_true zq1
               have hx10 := bt_at a0 x5_2
               replace p10 := eq_true p10
               replace q10 := eq_true q10
               go_wp2
               go_ret
               exact ⟨zq8, zq31⟩
              ·rw [if_neg c17] at H
               have c17b0 : ((bt a0 x5_2) == 63) = false := beq_eq_false_iff_ne.mpr c17
               have c17b1 : ((bt a0 x5_2) != 63) = true := bne_iff_ne.mpr c17
               have H' := AZ.mk H
               clear H
               have p10 : 0 ≤ (x5_2 : Int) := of_decide_eq_true zq1
               have q10 : x5_2 < (a0.size : Int) := of_decide_eq_true zq1
               have hx10 := bt_at a0 x5_2
               replace p10 := eq_true p10
               replace q10 := eq_true q10
               go_wp2
               go_roundg k2
               case measure => have := HJ2.out; have := HK2.out; omega
               case rel => exact ⟨(wrap64 (x5_2 + 1)), zq8, H', ⟨zq141⟩, zq31⟩
       ·rw [if_neg c9] at H
        exact absurd H zq119
      ·rw [if_neg c8] at H
       have c8b0 : decide (x5_2 < (a0.size : Int)) = false := decide_eq_false c8
       clear c8
       obtain rfl := Option.some.inj H
       go_wp2
       go_ret
       exact ⟨zq8, zq31⟩
end Go.Proofs.YtgjipjffpodjlaaDoor.K
namespace Go.Proofs.YtgjipjffpodjlaaDoor.K
open Go.RowKit Go.Proofs.YtgjipjffpodjlaaDoorW.PrintWords Go.Proofs.YtgjipjffpodjlaaDoorW.PrintLast Go.Proofs.YtgjipjffpodjlaaDoorW.PrintMore
attribute [local go_sem] max2_int min2_int max_two min_two max_three min_three max_four min_four   
set_option linter.unusedVariables false
set_option linter.unusedSimpArgs false
def impl_parts.l0 : Nat → Bool → List ByteArray → Int → Int → Option (Bool)
 | 0, _, _, _, _ => none
 | k + 1, x1, x13, x14, x15 => if x15 < x14 then (if 0 ≤ x15 then (if x15 < (x13.length : Int) then ((impl_goodPart.f k (rdOf ByteArray.empty x13 x15) x1).bind fun t195 => (if t195 = true then (impl_parts.l0 k x1 x13 x14 (wrap64 (x15 + 1))) else (some false))) else (none)) else (none)) else (some true)
def impl_parts.f (k : Nat) (a0 : ByteArray) (a1 : Bool) : Option (Bool) := (strings_Split.f a0 (⟨#[47]⟩ : ByteArray)).bind fun t191 => (if (t191.length : Int) > 6 then (some false) else (impl_parts.l0 k a1 t191 (t191.length : Int) 0))
theorem impl_parts.mono_l : ∀ k, (∀ y0 y1 y2 y3, LeO (impl_parts.l0 k y0 y1 y2 y3) (impl_parts.l0 (k + 1) y0 y1 y2 y3))
 | 0 => fun _ _ _ _ r h => by simp [impl_parts.l0] at h
 | k + 1 => by
  have ih0 := impl_parts.mono_l k
  ·intro y0 y1 y2 y3
   unfold impl_parts.l0
   repeat' first
   | (with_reducible exact ih0 _ _ _ _)
   | (with_reducible exact impl_goodPart.mono _ _ _)
   | (with_reducible exact LeO.refl _)
   | (with_reducible exact LeO.none _)
   | (with_reducible refine LeO.ite ?_ ?_)
   | (with_reducible refine LeO.bind ?_ (fun _ => ?_))
   | exact ih0 _ _ _ _
   | exact impl_goodPart.mono _ _ _
   | exact LeO.none _
   | refine LeO.ite ?_ ?_
   | refine LeO.bind ?_ (fun _ => ?_)
theorem impl_parts.mono : ∀ a0 a1 k, LeO (impl_parts.f k a0 a1) (impl_parts.f (k + 1) a0 a1) := by
 intro a0 a1 k
 have ih0 := impl_parts.mono_l k
 unfold impl_parts.f
 repeat' first
   | (with_reducible exact ih0 _ _ _ _)
   | (with_reducible exact impl_goodPart.mono _ _ _)
   | (with_reducible exact LeO.refl _)
   | (with_reducible exact LeO.none _)
   | (with_reducible refine LeO.ite ?_ ?_)
   | (with_reducible refine LeO.bind ?_ (fun _ => ?_))
   | exact ih0 _ _ _ _
   | exact impl_goodPart.mono _ _ _
   | exact LeO.none _
   | refine LeO.ite ?_ ?_
   | refine LeO.bind ?_ (fun _ => ?_)
set_option maxHeartbeats 2000000 in
set_option maxRecDepth 100000 in
theorem impl_parts.calls (k : Nat) (a0 : ByteArray) (a1 : Bool) (r : Bool) (w : World) (h : impl_parts.f k a0 a1 = some r) :
  Calls Tryd.prog 75 #[.string a0, .bool a1] w fun e w' => e = .returned (.bool r) ∧ Below w.heap.size w w' := by
 have HB := AZ.mk (Below.refl w.heap.size w)
 have H : ((strings_Split.f a0 (⟨#[47]⟩ : ByteArray)).bind fun t191 => (if (t191.length : Int) > 6 then (some false) else (impl_parts.l0 k a1 t191 (t191.length : Int) 0))) = some r := h
 clear h
 replace H := Option.bind_eq_some_iff.mp H
 obtain ⟨t191, A30, H⟩ := H
 try dsimp only at H
 have A3 := AZ.mk A30
 clear A30
 by_cases c4 : (t191.length : Int) > 6
 ·rw [if_pos c4] at H
  have c4b0 : decide (6 < (t191.length : Int)) = true := decide_eq_true c4
  have c4b1 : decide (6 < t191.length) = true := decide_eq_true zq94
  clear c4
  obtain rfl := Option.some.inj H
  go_enter Tryd.func75, Tryd.ntmps75
  go_wp2_with (first | ((with_reducible refine gate_callee (f := 50) rfl ?_); refine goesL_ (some 9) rfl rfl Tryd.func50 zq17 rfl #[.string a0, .string (⟨#[47]⟩ : ByteArray)] rfl zq2 ?_; (with_reducible refine (strings_Split.calls a0 (⟨#[47]⟩ : ByteArray) t191 _ A3.out).mono ?_); rintro e w5 ⟨v192, rfl, ho0, hb⟩; refine ⟨_, rfl, ?_⟩; have n0_ := AZ.mk (Kd.R_lower ho0 (below_size zq0)); have n1_ := AZ.mk (below_step zq0 hb); clear HB; have HO193 := n0_; have HB := n1_; clear n0_ n1_; (try clear hb); (try clear hb2); (try clear hk); (try clear hi); (try clear ho0); obtain ⟨Ao6, co6, eo6⟩ := Kd.R_slice HO193.out; subst eo6))
  go_ret
  exact ⟨zq7, zq0⟩
 ·rw [if_neg c4] at H
  have c4b0 : decide (6 < (t191.length : Int)) = false := decide_eq_false c4
  have c4b1 : decide (6 < t191.length) = false := decide_eq_false zq94
  clear c4
  have H' := AZ.mk H
  clear H
  go_enter Tryd.func75, Tryd.ntmps75
  go_wp2_with (first | ((with_reducible refine gate_callee (f := 50) rfl ?_); refine goesL_ (some 9) rfl rfl Tryd.func50 zq17 rfl #[.string a0, .string (⟨#[47]⟩ : ByteArray)] rfl zq2 ?_; (with_reducible refine (strings_Split.calls a0 (⟨#[47]⟩ : ByteArray) t191 _ A3.out).mono ?_); rintro e w7 ⟨v192, rfl, ho0, hb⟩; refine ⟨_, rfl, ?_⟩; have n0_ := AZ.mk (Kd.R_lower ho0 (below_size zq0)); have n1_ := AZ.mk (below_step zq0 hb); clear HB; have HO193 := n0_; have HB := n1_; clear n0_ n1_; (try clear hb); (try clear hb2); (try clear hk); (try clear hi); (try clear ho0); obtain ⟨Ao8, co8, eo8⟩ := Kd.R_slice HO193.out; subst eo8))
  go_loopg [15] k (fun kq v15 w' => ∃ (x15_1 : Int), v15 = .int .i64 x15_1 ∧ AZ (impl_parts.l0 kq a1 t191 (t191.length : Int) x15_1 = some r) ∧ AZ (kq ≤ k) ∧ AZ (Kd.R Kd.string 9 w' w.heap.size (fun _ => True) (.slice Ao8 t191.length co8) t191) ∧ AZ (Below w.heap.size w w'))
  case atStart => exact ⟨(0), zq8, H', ⟨Nat.le_refl _⟩, ⟨by (with_reducible repeat (first | apply Kd.R_alloc | apply Kd.R_drewN | apply Kd.R_drew)); exact HO193.out⟩, ⟨zq0⟩⟩
  case round =>
   clear H'
   try clear p2
   try clear c4
   try clear c4b0
   try clear c4b1
   try clear c5
   try clear c7
   obtain ⟨x15_1, rfl, HA, HK1, HO_13, HB⟩ := hrel
   cases gk with
   | zero => exact absurd HA.out (by simp [impl_parts.l0])
   | succ k1 =>
    have H := HA.out
    clear HA
    simp only [impl_parts.l0] at H
    by_cases c9 : x15_1 < (t191.length : Int)
    ·rw [if_pos c9] at H
     have c9b0 : decide (x15_1 < (t191.length : Int)) = true := decide_eq_true c9
     clear c9
     by_cases c10 : 0 ≤ x15_1
     ·rw [if_pos c10] at H
      have c10b0 : decide (0 ≤ x15_1) = true := decide_eq_true c10
      clear c10
      by_cases c11 : x15_1 < (t191.length : Int)
      ·rw [if_pos c11] at H
       have c11b0 : decide (x15_1 < (t191.length : Int)) = true := decide_eq_true c11
       clear c11
       replace H := Option.bind_eq_some_iff.mp H
       obtain ⟨t195, A120, H⟩ := H
       try dsimp only at H
       have A12 := AZ.mk A120
       clear A120
       by_cases c13 : t195 = true
       ·subst c13
        rw [if_pos rfl] at H
        have H' := AZ.mk H
        clear H
        have p194 : 0 ≤ (x15_1 : Int) := of_decide_eq_true zq1
        have q194 : x15_1 < (t191.length : Int) := of_decide_eq_true zq1
        obtain ⟨ad194, e194, hx194_0⟩ := Kd.at_string (Kd.R_reads' HO_13.out).2.2 x15_1 p194 q194
        cases e194
        replace p194 := eq_true p194
        replace q194 := eq_true q194
        go_wp2_with (first | ((with_reducible refine gate_callee (f := 77) rfl ?_); refine goesL_ (some 21) rfl rfl Tryd.func77 zq17 rfl #[.string (rdOf ByteArray.empty t191 x15_1), .bool a1] rfl zq2 ?_; (with_reducible refine (impl_goodPart.calls k1 (rdOf ByteArray.empty t191 x15_1) a1 true _ A12.out).mono ?_); rintro e w' ⟨rfl, ⟨nd, rfl⟩⟩; refine ⟨_, rfl, ?_⟩))
        go_roundg k1
        case measure => have := HK1.out; omega
        case rel => exact ⟨(wrap64 (x15_1 + 1)), zq8, H', ⟨zq121⟩, ⟨by (with_reducible repeat (first | apply Kd.R_alloc | apply Kd.R_drewN | apply Kd.R_drew)); exact HO_13.out⟩, ⟨zq0⟩⟩
       ·replace c13 := Bool.eq_false_iff.mpr c13
        subst c13
        rw [if_neg (show ¬ (false = true) by decide)] at H
        obtain rfl := Option.some.inj H
        have p194 : 0 ≤ (x15_1 : Int) := of_decide_eq_true zq1
        have q194 : x15_1 < (t191.length : Int) := of_decide_eq_true zq1
        obtain ⟨ad194, e194, hx194_0⟩ := Kd.at_string (Kd.R_reads' HO_13.out).2.2 x15_1 p194 q194
        cases e194
        replace p194 := eq_true p194
        replace q194 := eq_true q194
        go_wp2_with (first | ((with_reducible refine gate_callee (f := 77) rfl ?_); refine goesL_ (some 21) rfl rfl Tryd.func77 zq17 rfl #[.string (rdOf ByteArray.empty t191 x15_1), .bool a1] rfl zq2 ?_; (with_reducible refine (impl_goodPart.calls k1 (rdOf ByteArray.empty t191 x15_1) a1 false _ A12.out).mono ?_); rintro e w' ⟨rfl, ⟨nd, rfl⟩⟩; refine ⟨_, rfl, ?_⟩))
        go_ret
        exact ⟨zq7, zq0⟩
      ·rw [if_neg c11] at H
       exact absurd H zq119
     ·rw [if_neg c10] at H
      exact absurd H zq119
    ·rw [if_neg c9] at H
     have c9b0 : decide (x15_1 < (t191.length : Int)) = false := decide_eq_false c9
     clear c9
     obtain rfl := Option.some.inj H
     go_wp2
     go_ret
     exact ⟨zq7, zq0⟩
end Go.Proofs.YtgjipjffpodjlaaDoor.K
namespace Go.Proofs.YtgjipjffpodjlaaDoor.K
open Go.RowKit Go.Proofs.YtgjipjffpodjlaaDoorW.PrintWords Go.Proofs.YtgjipjffpodjlaaDoorW.PrintLast Go.Proofs.YtgjipjffpodjlaaDoorW.PrintMore
attribute [local go_sem] max2_int min2_int max_two min_two max_three min_three max_four min_four   
set_option linter.unusedVariables false
set_option linter.unusedSimpArgs false
def impl_ValidPath.f (k : Nat) (a0 : ByteArray) : Option (Bool) := (impl_parts.f k a0 false).bind fun t196 => (some t196)
theorem impl_ValidPath.mono : ∀ a0 k, LeO (impl_ValidPath.f k a0) (impl_ValidPath.f (k + 1) a0) := by
 intro a0 k
 unfold impl_ValidPath.f
 repeat' first
   | (with_reducible exact impl_parts.mono _ _ _)
   | (with_reducible exact LeO.refl _)
   | (with_reducible exact LeO.none _)
   | (with_reducible refine LeO.ite ?_ ?_)
   | (with_reducible refine LeO.bind ?_ (fun _ => ?_))
   | exact impl_parts.mono _ _ _
   | exact LeO.none _
   | refine LeO.ite ?_ ?_
   | refine LeO.bind ?_ (fun _ => ?_)
set_option maxHeartbeats 2000000 in
set_option maxRecDepth 100000 in
theorem impl_ValidPath.calls (k : Nat) (a0 : ByteArray) (r : Bool) (w : World) (h : impl_ValidPath.f k a0 = some r) :
  Calls Tryd.prog 46 #[.string a0] w fun e w' => e = .returned (.bool r) ∧ Below w.heap.size w w' := by
 have HB := AZ.mk (Below.refl w.heap.size w)
 have H : ((impl_parts.f k a0 false).bind fun t196 => (some t196)) = some r := h
 clear h
 replace H := Option.bind_eq_some_iff.mp H
 obtain ⟨t196, A20, H⟩ := H
 try dsimp only at H
 have A2 := AZ.mk A20
 clear A20
 obtain rfl := Option.some.inj H
 go_enter Tryd.func46, Tryd.ntmps46
 go_wp2_with (first | ((with_reducible refine gate_callee (f := 75) rfl ?_); refine goesL_ (some 4) rfl rfl Tryd.func75 zq17 rfl #[.string a0, .bool false] rfl zq2 ?_; (with_reducible refine (impl_parts.calls k a0 false t196 _ A2.out).mono ?_); rintro e w3 ⟨rfl, hb⟩; refine ⟨_, rfl, ?_⟩; have n0_ := AZ.mk (below_step zq0 hb); clear HB; have HB := n0_; clear n0_; (try clear hb); (try clear hb2); (try clear hk); (try clear hi)))
 go_ret
 exact ⟨zq7, zq0⟩
end Go.Proofs.YtgjipjffpodjlaaDoor.K
namespace Go.Proofs.YtgjipjffpodjlaaDoor.K
open Go.Shelf Go.RowKit Go.Proofs.YtgjipjffpodjlaaDoorW.PrintWords
def strings_Contains.f (a0 : ByteArray) (a1 : ByteArray) : Option (Bool) := if a1.size = 1 then some (decide (0 ≤ Lib.indexB a0 a1)) else none
theorem strings_Contains.calls (a0 : ByteArray) (a1 : ByteArray) (r : Bool) (w : World) (h : strings_Contains.f a0 a1 = some r) :
    Calls Tryd.prog 78 #[.string a0, .string a1] w fun e w' => e = .returned (.bool r) ∧ Below w.heap.size w w' := by
  unfold strings_Contains.f at h
  split at h
  case isFalse => cases h
  case isTrue h1 =>
  obtain ⟨c, rfl⟩ := Lib.one_byte a1 h1
  obtain rfl := Option.some.inj h
  have k := Any.strings_Contains_one (ρ := Tryd.lays144_ren) Tryd.lays144 a0 c w
  refine Calls.mono k ?_
  rintro e w' ⟨rfl, rfl⟩
  exact ⟨by rw [indexB_one], Below.refl _ _⟩
end Go.Proofs.YtgjipjffpodjlaaDoor.K
namespace Go.Proofs.YtgjipjffpodjlaaDoor.K
open Go.Shelf Go.RowKit Go.Proofs.YtgjipjffpodjlaaDoorW.PrintWords
def strings_Cut.f (a0 : ByteArray) (a1 : ByteArray) : Option (ByteArray × ByteArray × Bool) := if a1.size = 1 ∧ a0.size < 4294967281 then some (⟨(Lib.cut a0.data.toList a1.data.toList).1.toArray⟩, ⟨(Lib.cut a0.data.toList a1.data.toList).2.1.toArray⟩, (Lib.cut a0.data.toList a1.data.toList).2.2) else none
theorem strings_Cut.calls (a0 : ByteArray) (a1 : ByteArray) (r1 : ByteArray) (r2 : ByteArray) (r3 : Bool) (w : World) (h : strings_Cut.f a0 a1 = some (r1, r2, r3)) :
    Calls Tryd.prog 76 #[.string a0, .string a1] w fun e w' => e = .returned (.tuple #[.string r1, .string r2, .bool r3]) ∧ Below w.heap.size w w' := by
  unfold strings_Cut.f at h
  split at h
  case isFalse => cases h
  case isTrue hc =>
  obtain ⟨h1, hs⟩ := hc
  obtain ⟨c, rfl⟩ := Lib.one_byte a1 h1
  have e1 := Option.some.inj h
  obtain ⟨rfl, e2⟩ := Prod.mk.inj e1
  obtain ⟨rfl, rfl⟩ := Prod.mk.inj e2
  have k := any_Cut_one (ρ := Tryd.lays145_ren) Tryd.lays145 a0 c w hs
  refine Calls.mono k ?_
  rintro e w' ⟨rfl, n, rfl⟩
  exact ⟨rfl, pw_below_drewN (Below.refl _ _) n⟩
end Go.Proofs.YtgjipjffpodjlaaDoor.K
namespace Go.Proofs.YtgjipjffpodjlaaDoor.K
open Go.Shelf
def Tryd.lays43_ren : Go.Shelf.Ren := ⟨fun | 43 => 79 | 42 => 93 | 44 => 94 | n => n, fun | 9 => 9 | 30 => 25 | 35 => 108 | 3 => 3 | 38 => 109 | 4 => 4 | 0 => 0 | 5 => 5 | 47 => 137 | 46 => 120 | 45 => 111 | n => n, fun | 0 => 0 | n => n⟩
theorem Tryd.lays43 : Go.Proofs.Lays.ph43 Tryd.prog Tryd.lays43_ren := {
  mixed := by kernel_rfl
  f42 := Tryd.func93.trans (congrArg some (by kernel_rfl))
  f43 := Tryd.func79.trans (congrArg some (by kernel_rfl))
  f44 := Tryd.func94.trans (congrArg some (by kernel_rfl))
  t0 := Tryd.underlying0
  a0 := Tryd.isAgg0
  z0 := Tryd.sizeOf0
  v0 := Tryd.zeroValue0
  t3 := Tryd.underlying3
  a3 := Tryd.isAgg3
  z3 := Tryd.sizeOf3
  v3 := Tryd.zeroValue3
  t4 := Tryd.underlying4
  a4 := Tryd.isAgg4
  z4 := Tryd.sizeOf4
  v4 := Tryd.zeroValue4
  t5 := Tryd.underlying5
  a5 := Tryd.isAgg5
  z5 := Tryd.sizeOf5
  v5 := Tryd.zeroValue5
  t9 := Tryd.underlying9
  a9 := Tryd.isAgg9
  z9 := Tryd.sizeOf9
  v9 := Tryd.zeroValue9
  t30 := Tryd.underlying25
  a30 := Tryd.isAgg25
  z30 := Tryd.sizeOf25
  v30 := Tryd.zeroValue25
  t35 := Tryd.underlying108
  a35 := Tryd.isAgg108
  z35 := Tryd.sizeOf108
  v35 := Tryd.zeroValue108
  t38 := Tryd.underlying109
  a38 := Tryd.isAgg109
  z38 := Tryd.sizeOf109
  v38 := Tryd.zeroValue109
  t45 := Tryd.underlying111
  a45 := Tryd.isAgg111
  z45 := Tryd.sizeOf111
  v45 := Tryd.zeroValue111
  t46 := Tryd.underlying120
  a46 := Tryd.isAgg120
  z46 := Tryd.sizeOf120
  v46 := Tryd.zeroValue120
  t47 := Tryd.underlying137
  a47 := Tryd.isAgg137
  z47 := Tryd.sizeOf137
  v47 := Tryd.zeroValue137
  g0 := by kernel_rfl
  info5 := by kernel_rfl }
end Go.Proofs.YtgjipjffpodjlaaDoor.K
namespace Go.Proofs.YtgjipjffpodjlaaDoor.K
open Go.Shelf Go.RowKit Go.Lib
section
variable {P : Program} {ρ : Ren}
set_option maxHeartbeats 4000000 in
set_option maxRecDepth 100000 in
theorem any_hex_Decode_even (L : Lays.p44 P ρ) (bd od nd cd N : Nat) (f : Nat → Value) (bs os n cs : Nat) (xs : List Int) (w : World)
    (hx : xs.length = n) (hr : ∀ i, i < n → 0 ≤ xs.getD i 0 ∧ xs.getD i 0 < 256) (hsrc : ∀ i, i < n → w.cell? ⟨bs, os + i, none⟩ = some (.int .u8 (xs.getD i 0)))
    (hrow : w.rowIs bd (ρ.t 5) N f) (hfit : od + nd ≤ N) (hlen : n / 2 ≤ nd) (hne : bd ≠ bs) (hbig : n ≤ 4611686018427387903) (hev : n % 2 = 0) :
    Calls P (ρ.f 44) #[.slice (some ⟨bd, od, none⟩) nd cd, .slice (some ⟨bs, os, none⟩) n cs] w fun e w' =>
      e = .returned (.tuple #[.int .i64 ((Hx.decode (Lib.bytesOf xs)).1.length : Int), Hx.errVal (ρ.t 47) .nilIface (Hx.decode (Lib.bytesOf xs)).2]) ∧ w'.rowIs bd (ρ.t 5) N (Hx.rowP f od (Hx.decode (Lib.bytesOf xs)).1) ∧ w.grownBy w' (some bd) := by
  generalize hD0 : Hx.decode (Lib.bytesOf xs) = D
  obtain ⟨D1, D2⟩ := D
  have hD : Hid (Hx.decode (Lib.bytesOf xs) = (D1, D2)) := hD0
  clear hD0
  have t0 := L.t0; have t3 := L.t3; have t4 := L.t4; have t5 := L.t5; have t9 := L.t9; have t30 := L.t30; have t35 := L.t35; have t45 := L.t45; have t46 := L.t46; have t47 := L.t47
  have a0 := L.a0; have a3 := L.a3; have a4 := L.a4; have a5 := L.a5; have a9 := L.a9; have a30 := L.a30; have a35 := L.a35; have a45 := L.a45; have a46 := L.a46; have a47 := L.a47
  have mixed := L.mixed; have z0 := L.z0; have v0 := L.v0; have z3 := L.z3; have v3 := L.v3; have z4 := L.z4; have v4 := L.v4; have z5 := L.z5; have v5 := L.v5; have z9 := L.z9; have v9 := L.v9; have z30 := L.z30; have v30 := L.v30; have z35 := L.z35; have v35 := L.v35; have z45 := L.z45; have v45 := L.v45; have z46 := L.z46; have v46 := L.v46; have z47 := L.z47; have v47 := L.v47
  have HS : Hid (∀ i, i < n → w.cell? ⟨bs, os + i, none⟩ = some (.int .u8 (xs.getD i 0))) := hsrc
  have HR : Hid (∀ i, i < n → 0 ≤ xs.getD i 0 ∧ xs.getD i 0 < 256) := hr
  have HX0 : Hid (xs.length = n) := hx
  clear hsrc hr hx
  go_enter L.f44, Body.p44_ntmps ρ
  go_wp2
  go_loopw [6, 7] (fun vi vj wr => ∃ (k : Nat) (pre : List UInt8), 2 * k ≤ n ∧ vi = .int .i64 k ∧ vj = .int .i64 ((2 * k : Nat) : Int) ∧ Hid (Hx.Mid (Lib.bytesOf xs) k pre) ∧ Hid (wr.rowIs bd (ρ.t 5) N (Hx.rowP f od pre)) ∧ Hid (w.grownBy wr (some bd))) (fun _ vj _ => n - (RowKit.intOf vj).toNat)
  case atStart => exact ⟨0, [], Nat.zero_le _, rfl, rfl, Hx.mid_zero _, hrow.congr (fun j _ => Hx.rowP_nil f od j), Hx.grownBy_refl _ _⟩
  case round =>
    obtain ⟨k, pre, hk, rfl, rfl, hmid, hrw, hgr⟩ := hrel
    by_cases hlt : 2 * k + 1 < n
    · obtain ⟨x, hxk⟩ : ∃ x, x = xs.getD (2 * k) 0 := ⟨_, rfl⟩
      obtain ⟨y, hyk⟩ : ∃ y, y = xs.getD (2 * k + 1) 0 := ⟨_, rfl⟩
      have hcx : wr.cell? ⟨bs, os + 2 * k, none⟩ = some (.int .u8 x) := by rw [hxk]; exact hgr.out.cell (HS.out _ (by omega)) (by simp; omega)
      have hcy : wr.cell? ⟨bs, os + (2 * k + 1), none⟩ = some (.int .u8 y) := by rw [hyk]; exact hgr.out.cell (HS.out _ hlt) (by simp; omega)
      have hx0 : 0 ≤ x := by rw [hxk]; exact (HR.out _ (by omega)).1
      have hx1 : x < 256 := by rw [hxk]; exact (HR.out _ (by omega)).2
      have hy0 : 0 ≤ y := by rw [hyk]; exact (HR.out _ hlt).1
      have hy1 : y < 256 := by rw [hyk]; exact (HR.out _ hlt).2
      have HP : Hid ((Lib.bytesOf xs)[2 * k]? = some (UInt8.ofNat x.toNat)) := by rw [hxk]; exact Hx.bytes_at xs _ (by rw [HX0.out]; omega)
      have HQ : Hid ((Lib.bytesOf xs)[2 * k + 1]? = some (UInt8.ofNat y.toNat)) := by rw [hyk]; exact Hx.bytes_at xs _ (by rw [HX0.out]; omega)
      clear hxk hyk
      have hf1 : wr.frozen? ⟨bd, od + k, none⟩ = false := hrw.out.frozen _
      have hc1 : wr.cell? ⟨bd, od + k, none⟩ = some (Hx.rowP f od pre (od + k)) := hrw.out.cell (by omega)
      have hT : 2 * (k : Int) < (n : Int) - 1 := by omega
      have sx : x.toNat < Hx.rev.size := by rw [Hx.rev_size]; omega
      have sy : y.toNat < Hx.rev.size := by rw [Hx.rev_size]; omega
      go_wp2
      · have hv : (15 : Int) < ((Hx.rev[x.toNat]'sx).toNat : Int) := by assumption
        rw [Hx.rev_at x hx0 hx1] at hv
        have e := Hx.mid_bad1 hmid.out _ _ HP.out HQ.out (by omega)
        go_ret2
        obtain ⟨rfl, rfl⟩ := Prod.mk.inj (hD.out.symm.trans e)
        exact ⟨by rw [hmid.out.1, Hx.errVal_bad _ _ x hx0 hx1]; rfl, hrw.out, hgr.out⟩
      · have hv1 : ((Hx.rev[x.toNat]'sx).toNat : Int) ≤ 15 := by assumption
        have hv : (15 : Int) < ((Hx.rev[y.toNat]'sy).toNat : Int) := by assumption
        rw [Hx.rev_at x hx0 hx1] at hv1
        rw [Hx.rev_at y hy0 hy1] at hv
        have e := Hx.mid_bad2 hmid.out _ _ HP.out HQ.out (by omega) (by omega)
        go_ret2
        obtain ⟨rfl, rfl⟩ := Prod.mk.inj (hD.out.symm.trans e)
        exact ⟨by rw [hmid.out.1, Hx.errVal_bad _ _ y hy0 hy1]; rfl, hrw.out, hgr.out⟩
      · have hv1 : ((Hx.rev[x.toNat]'sx).toNat : Int) ≤ 15 := by assumption
        have hv2 : ((Hx.rev[y.toNat]'sy).toNat : Int) ≤ 15 := by assumption
        have ex := Hx.rev_at x hx0 hx1 sx
        have ey := Hx.rev_at y hy0 hy1 sy
        rw [ex] at hv1
        rw [ey] at hv2
        go_roundw
        case rel =>
          refine ⟨k + 1, pre ++ [UInt8.ofNat (Hx.v (UInt8.ofNat x.toNat) * 16 + Hx.v (UInt8.ofNat y.toNat))], by omega, by go_num, by first | go_num | (congr 1; omega), Hx.mid_step hmid.out _ _ HP.out HQ.out (by omega) (by omega), (hrw.out.set _ _).congr (fun j _ => ?_), Hx.grownBy_set hgr.out _ rfl _⟩
          have e3 := Hx.rowP_step f od pre (UInt8.ofNat (Hx.v (UInt8.ofNat x.toNat) * 16 + Hx.v (UInt8.ofNat y.toNat))) j
          rw [hmid.out.1, ← Hx.or_digits _ _ (by omega) (by omega), ← ex, ← ey] at e3
          exact e3
        case measure => simp [RowKit.intOf]; omega
    · have hT : (n : Int) - 1 ≤ 2 * (k : Int) := by omega
      have hO : ((n : Int) % 2 == 1) = false := by simp; omega
      have hl : (Lib.bytesOf xs).length = 2 * k := by rw [Lib.bytesOf_length, HX0.out]; omega
      have e := Hx.mid_end hmid.out hl
      go_wp2
      go_ret2
      obtain ⟨rfl, rfl⟩ := Prod.mk.inj (hD.out.symm.trans e)
      exact ⟨by rw [hmid.out.1]; rfl, hrw.out, hgr.out⟩
set_option maxHeartbeats 4000000 in
set_option maxRecDepth 100000 in
theorem any_hex_DecodeString_even (L : Lays.ph43 P ρ) (s : ByteArray) (w : World) (hev : s.size % 2 = 0) (hbig : s.size ≤ 281474976710656) :
    Calls P (ρ.f 43) #[.string s] w fun e w' =>
      e = .returned (.tuple #[.slice (some ⟨w.heap.size, 0, none⟩) (Hx.decode s.data.toList).1.length (s.size / 2), Hx.errVal (ρ.t 47) .nilIface (Hx.decode s.data.toList).2]) ∧
      w'.rowIs w.heap.size (ρ.t 5) (s.size / 2) (Hx.rowP (fun _ => .int .u8 0) 0 (Hx.decode s.data.toList).1) ∧ Below w.heap.size w w' := by
  have hdl0 := Hx.decode_len s.data.toList
  rw [← Lib.size_eq] at hdl0
  generalize hD0 : Hx.decode s.data.toList = D at hdl0 ⊢
  obtain ⟨D1, D2⟩ := D
  have hD : Hid (Hx.decode s.data.toList = (D1, D2)) := hD0
  have hdl : D1.length ≤ s.size / 2 := hdl0
  clear hD0 hdl0
  have t0 := L.t0; have t3 := L.t3; have t4 := L.t4; have t5 := L.t5; have t9 := L.t9; have t30 := L.t30; have t35 := L.t35; have t38 := L.t38; have t45 := L.t45; have t46 := L.t46; have t47 := L.t47
  have a0 := L.a0; have a3 := L.a3; have a4 := L.a4; have a5 := L.a5; have a9 := L.a9; have a30 := L.a30; have a35 := L.a35; have a38 := L.a38; have a45 := L.a45; have a46 := L.a46; have a47 := L.a47
  have mixed := L.mixed; have z0 := L.z0; have v0 := L.v0; have z3 := L.z3; have v3 := L.v3; have z4 := L.z4; have v4 := L.v4; have z5 := L.z5; have v5 := L.v5; have z9 := L.z9; have v9 := L.v9; have z30 := L.z30; have v30 := L.v30; have z35 := L.z35; have v35 := L.v35; have z38 := L.z38; have v38 := L.v38; have z45 := L.z45; have v45 := L.v45; have z46 := L.z46; have v46 := L.v46; have z47 := L.z47; have v47 := L.v47
  have e42 : ∀ args w, (callFunc (ρ.f 42) args).run P w = .ok (.enter (ρ.f 42) args) w := enters_of L.f42 (by kernel_rfl) rfl
  have e44 : ∀ args w, (callFunc (ρ.f 44) args).run P w = .ok (.enter (ρ.f 44) args) w := enters_of L.f44 (by kernel_rfl) rfl
  have hmk : ∀ w : World, (Instr.makeSlice (ρ.t 30) (.int .i64 ((s.size : Int) / 2)) (.int .i64 ((s.size : Int) / 2))).run P w = .ok (.slice (some ⟨w.heap.size, 0, none⟩) (s.size / 2) (s.size / 2)) (w.alloc (.cells (madeCells #[.int .u8 0] (s.size / 2)) (ρ.t 5))) := fun w => by
    have h := run_make_row' (P := P) (ρ.t 30) (ρ.t 5) (.int .u8 0) 1 L.t30 L.info5 rfl .i64 .i64 (s.size / 2) (by omega) (by omega) w
    rwa [show ((s.size / 2 : Nat) : Int) = (s.size : Int) / 2 by omega] at h
  have hcv := fun w => run_bytes_of_string (P := P) w (ρ.t 9) (ρ.t 30) (ρ.t 5) s L.t9 L.t30 L.t5
  go_enter L.f43, Body.p43_ntmps ρ
  go_wp2_with fail
  refine (Any.hex_DecodedLen { L with } s.size (by omega) (by omega) _).mono ?_
  rintro e w1 ⟨rfl, rfl⟩
  go_wp2_with fail
  have hsz : (w1.alloc (.cells (madeCells #[.int .u8 0] (s.size / 2)) (ρ.t 5))).heap.size = w1.heap.size + 1 := by simp
  have hB2 : ∀ o, Below w1.heap.size w1 ((w1.alloc (.cells (madeCells #[.int .u8 0] (s.size / 2)) (ρ.t 5))).alloc o).drew := fun o => (((Below.refl _ w1).alloc (Nat.le_refl _) _).alloc (by simp) o).drew
  generalize grownCap (w1.alloc (.cells (madeCells #[.int .u8 0] (s.size / 2)) (ρ.t 5))) s.size 0 (ρ.t 5) = cap
  have hc := any_hex_Decode_even (P := P) (ρ := ρ) { L with } w1.heap.size 0 (s.size / 2) (s.size / 2) (s.size / 2) (fun _ => .int .u8 0) (w1.heap.size + 1) 0 s.size cap (Hx.numsOf s) ((w1.alloc (.cells (madeCells #[.int .u8 0] (s.size / 2)) (ρ.t 5))).alloc (.cells (bytesRow s cap) (ρ.t 5) ((bytesRow s cap).size, (bytesRow s cap).size + 1))).drew (Hx.numsOf_length s) (fun i _ => Hx.numsOf_range s i)
    (fun i hi => by
      show ((w1.alloc (.cells (madeCells #[.int .u8 0] (s.size / 2)) (ρ.t 5))).alloc _).cell? _ = _
      rw [← hsz, Nat.zero_add, World.cell?_alloc_mark, bytesRow_at s _ i hi, Hx.numsOf_at s i hi])
    (((World.rowIs_made w1 (.int .u8 0) (s.size / 2) (ρ.t 5)).alloc _).drew) (by omega) (Nat.le_refl _) (by omega) (by omega) hev
  rw [Hx.bytesOf_numsOf, hD.out] at hc
  refine hc.mono ?_
  rintro e w2 ⟨rfl, hrow', hgrow⟩
  have HRW : Hid (w2.rowIs w1.heap.size (ρ.t 5) (s.size / 2) (Hx.rowP (fun _ => .int .u8 0) 0 D1)) := hrow'
  have HB : Hid (Below w1.heap.size w1 w2) := (hB2 _).grown hgrow (by simp; omega) (fun k hk => by cases hk; exact Nat.le_refl _)
  clear hrow' hgrow hc
  have c1 : (0 : Int) ≤ (D1.length : Int) := by omega
  have c2 : (D1.length : Int) ≤ ((s.size / 2 : Nat) : Int) := by omega
  go_wp2
  go_ret2
  exact ⟨rfl, HRW.out, HB.out⟩
end
open Go.Proofs.YtgjipjffpodjlaaDoorW.PrintWords
theorem rowP_own {w : World} {G : Nat} {t : TypeId} {cap : Nat} {f : Nat → Value} {D : List UInt8} (h : w.rowIs G t cap (Hx.rowP f 0 D)) (hD : D.length ≤ cap) (hcap : cap ≤ maxLen) (base : Nat) (hb : base ≤ G) :
    w.ownsRow base t 1 (.slice (some ⟨G, 0, none⟩) D.length cap) D.length (D.map fun b => Value.int .u8 (b.toNat : Int)) := by
  obtain ⟨c, hh, hs, hc⟩ := h
  refine ⟨by simp, .inr ⟨G, cap, c, rfl, hb, hh, hD, hcap, by omega, ?_⟩⟩
  rw [Nat.mul_one]
  apply List.ext_getElem?
  intro i
  by_cases hi : i < D.length
  · rw [List.getElem?_take, if_pos hi, Array.getElem?_toList, hc i (by omega), List.getElem?_map, List.getElem?_eq_getElem hi]
    unfold Hx.rowP
    rw [if_pos (by omega), Nat.sub_zero, List.getElem?_eq_getElem hi]
    rfl
  · rw [List.getElem?_take, if_neg hi, List.getElem?_map, List.getElem?_eq_none (by omega)]
    rfl
def hxOk : Hx.Out → Bool
  | .ok => true
  | .bad _ => false
  | .odd => false
theorem hxOk_ok {o : Hx.Out} (h : hxOk o = true) : o = .ok := by
  cases o <;> simp [hxOk] at h ⊢
def hex_DecodeString.f (a0 : ByteArray) : Option (List Int × Option Int) := if a0.size % 2 = 0 ∧ a0.size ≤ 281474976710656 ∧ hxOk (Hx.decode a0.data.toList).2 = true then some ((Hx.decode a0.data.toList).1.map (fun b => (b.toNat : Int)), none) else none
theorem hex_DecodeString.calls (a0 : ByteArray) (r1 : List Int) (r2 : Option Int) (w : World) (h : hex_DecodeString.f a0 = some (r1, r2)) :
    Calls Tryd.prog 79 #[.string a0] w fun e w' => ∃ v0_ : Value, e = .returned (.tuple #[v0_, errW r2]) ∧ Kd.R (Kd.int .u8) 5 w' w.heap.size (fun _ => True) v0_ r1 ∧ Below w.heap.size w w' := by
  unfold hex_DecodeString.f at h
  split at h
  case isFalse => cases h
  case isTrue hc =>
  obtain ⟨h1, h2, h3⟩ := hc
  obtain ⟨rfl, rfl⟩ := Prod.mk.inj (Option.some.inj h)
  have hl := Hx.decode_len a0.data.toList
  rw [← Lib.size_eq] at hl
  have k := any_hex_DecodeString_even (ρ := Tryd.lays43_ren) Tryd.lays43 a0 w h1 h2
  refine Calls.mono k ?_
  rintro e w' ⟨rfl, hrow, hbel⟩
  refine ⟨_, by rw [hxOk_ok h3]; rfl, ?_, hbel⟩
  have ho := rowP_own hrow hl (by unfold maxLen; omega) w.heap.size (Nat.le_refl _)
  refine Kd.R_of_own ?_ (fun _ _ => trivial)
  rw [List.length_map]
  unfold encs
  rw [List.map_map]
  exact ho
end Go.Proofs.YtgjipjffpodjlaaDoor.K
namespace Go.Proofs.YtgjipjffpodjlaaDoor.K
open Go.RowKit Go.Proofs.YtgjipjffpodjlaaDoorW.PrintWords Go.Proofs.YtgjipjffpodjlaaDoorW.PrintLast Go.Proofs.YtgjipjffpodjlaaDoorW.PrintMore
attribute [local go_sem] max2_int min2_int max_two min_two max_three min_three max_four min_four   
set_option linter.unusedVariables false
set_option linter.unusedSimpArgs false
mutual
def impl_rows.l0 : Nat → ByteArray → Int → List (S88) → Option ((List (S88)) × Bool)
 | 0, _, _, _ => none
 | k + 1, x0, x1, x6 => if x0.toList = ([] : List UInt8) then (some (x6, true)) else ((strings_Cut.f x0 (⟨#[10]⟩ : ByteArray)).bind fun bt197 => (if bt197.2.2 = true then ((strings_Split.f bt197.1 (⟨#[32]⟩ : ByteArray)).bind fun t200 => (if (t200.length : Int) = 3 then (if 0 < (t200.length : Int) then (if (rdOf ByteArray.empty t200 0).toList = ([100] : List UInt8) then (if 1 < (t200.length : Int) then ((impl_goodPart.f k (rdOf ByteArray.empty t200 1) false).bind fun t205 => (if t205 = true then (if 2 < (t200.length : Int) then (impl_rows.j1 k bt197.2.1 x1 x6 t200 (((rdOf ByteArray.empty t200 2).size : Int) != (wrap64 (2 * x1)))) else (none)) else (impl_rows.j1 k bt197.2.1 x1 x6 t200 true))) else (none)) else (if (rdOf ByteArray.empty t200 0).toList = ([102] : List UInt8) then (if 1 < (t200.length : Int) then ((impl_goodPart.f k (rdOf ByteArray.empty t200 1) false).bind fun t209 => (if t209 = true then (if 2 < (t200.length : Int) then (impl_rows.j1 k bt197.2.1 x1 x6 t200 (((rdOf ByteArray.empty t200 2).size : Int) != (wrap64 (2 * x1)))) else (none)) else (impl_rows.j1 k bt197.2.1 x1 x6 t200 true))) else (none)) else (if (rdOf ByteArray.empty t200 0).toList = ([120] : List UInt8) then (if 1 < (t200.length : Int) then ((impl_goodPart.f k (rdOf ByteArray.empty t200 1) false).bind fun t213 => (if t213 = true then (if 2 < (t200.length : Int) then (impl_rows.j1 k bt197.2.1 x1 x6 t200 (((rdOf ByteArray.empty t200 2).size : Int) != (wrap64 (2 * x1)))) else (none)) else (impl_rows.j1 k bt197.2.1 x1 x6 t200 true))) else (none)) else (impl_rows.j1 k bt197.2.1 x1 x6 t200 true)))) else (none)) else (impl_rows.j1 k bt197.2.1 x1 x6 t200 true))) else (some (([] : List (S88)), false))))
def impl_rows.j1 : Nat → ByteArray → Int → List (S88) → List ByteArray → Bool → Option ((List (S88)) × Bool)
 | 0, _, _, _, _, _ => none
 | k + 1, x0, x1, x6, x10, x63 => if x63 = true then (some (([] : List (S88)), false)) else (impl_rows.l1 k x0 x1 x6 x10 0)
def impl_rows.l1 : Nat → ByteArray → Int → List (S88) → List ByteArray → Int → Option ((List (S88)) × Bool)
 | 0, _, _, _, _, _ => none
 | k + 1, x0, x1, x6, x10, x11 => if 2 < (x10.length : Int) then (if x11 < ((rdOf ByteArray.empty x10 2).size : Int) then (if 0 ≤ x11 then (if x11 ≤ (wrap64 (x11 + 1)) then (if (wrap64 (x11 + 1)) ≤ ((rdOf ByteArray.empty x10 2).size : Int) then ((strings_Contains.f (⟨#[48, 49, 50, 51, 52, 53, 54, 55, 56, 57, 97, 98, 99, 100, 101, 102]⟩ : ByteArray) ((rdOf ByteArray.empty x10 2).extract (x11 : Int).toNat ((wrap64 (x11 + 1)) : Int).toNat)).bind fun t217 => (if t217 = true then (impl_rows.l1 k x0 x1 x6 x10 (wrap64 (x11 + 1))) else (some (([] : List (S88)), false)))) else (none)) else (none)) else (none)) else (if (x6.length : Int) > 0 then (if 0 ≤ (wrap64 ((x6.length : Int) - 1)) then (if (wrap64 ((x6.length : Int) - 1)) < (x6.length : Int) then (if 1 < (x10.length : Int) then (if ((Op.bytesLess (((rd_T88 x6 (wrap64 ((x6.length : Int) - 1))).f1).toList) ((rdOf ByteArray.empty x10 1).toList)) = true) then ((hex_DecodeString.f (rdOf ByteArray.empty x10 2)).bind fun bt221 => (if 0 < (x10.length : Int) then (if x6.length < 2932031007402 then (impl_rows.l0 k x0 x1 (x6 ++ [(⟨rdOf ByteArray.empty x10 0, rdOf ByteArray.empty x10 1, strOfNums bt221.1⟩ : S88)])) else (none)) else (none))) else (some (([] : List (S88)), false))) else (none)) else (none)) else (none)) else ((hex_DecodeString.f (rdOf ByteArray.empty x10 2)).bind fun bt231 => (if 0 < (x10.length : Int) then (if 1 < (x10.length : Int) then (if x6.length < 2932031007402 then (impl_rows.l0 k x0 x1 (x6 ++ [(⟨rdOf ByteArray.empty x10 0, rdOf ByteArray.empty x10 1, strOfNums bt231.1⟩ : S88)])) else (none)) else (none)) else (none))))) else (none)
end
def impl_rows.f (k : Nat) (a0 : ByteArray) (a1 : Int) : Option ((List (S88)) × Bool) := impl_rows.l0 k a0 a1 ([] : List (S88))
theorem impl_rows.mono_l : ∀ k, (∀ y0 y1 y2, LeO (impl_rows.l0 k y0 y1 y2) (impl_rows.l0 (k + 1) y0 y1 y2)) ∧ (∀ y0 y1 y2 y3 y4, LeO (impl_rows.j1 k y0 y1 y2 y3 y4) (impl_rows.j1 (k + 1) y0 y1 y2 y3 y4)) ∧ (∀ y0 y1 y2 y3 y4, LeO (impl_rows.l1 k y0 y1 y2 y3 y4) (impl_rows.l1 (k + 1) y0 y1 y2 y3 y4))
 | 0 => ⟨fun _ _ _ r h => by simp [impl_rows.l0] at h, fun _ _ _ _ _ r h => by simp [impl_rows.j1] at h, fun _ _ _ _ _ r h => by simp [impl_rows.l1] at h⟩
 | k + 1 => by
  obtain ⟨ih0, ih1, ih2⟩ := impl_rows.mono_l k
  refine ⟨?_, ?_, ?_⟩
  ·intro y0 y1 y2
   unfold impl_rows.l0
   repeat' first
   | (with_reducible exact ih0 _ _ _)
   | (with_reducible exact ih1 _ _ _ _ _)
   | (with_reducible exact ih2 _ _ _ _ _)
   | (with_reducible exact impl_goodPart.mono _ _ _)
   | (with_reducible exact LeO.refl _)
   | (with_reducible exact LeO.none _)
   | (with_reducible refine LeO.ite ?_ ?_)
   | (with_reducible refine LeO.bind ?_ (fun _ => ?_))
   | exact ih0 _ _ _
   | exact ih1 _ _ _ _ _
   | exact ih2 _ _ _ _ _
   | exact impl_goodPart.mono _ _ _
   | exact LeO.none _
   | refine LeO.ite ?_ ?_
   | refine LeO.bind ?_ (fun _ => ?_)
  ·intro y0 y1 y2 y3 y4
   unfold impl_rows.j1
   repeat' first
   | (with_reducible exact ih0 _ _ _)
   | (with_reducible exact ih1 _ _ _ _ _)
   | (with_reducible exact ih2 _ _ _ _ _)
   | (with_reducible exact impl_goodPart.mono _ _ _)
   | (with_reducible exact LeO.refl _)
   | (with_reducible exact LeO.none _)
   | (with_reducible refine LeO.ite ?_ ?_)
   | (with_reducible refine LeO.bind ?_ (fun _ => ?_))
   | exact ih0 _ _ _
   | exact ih1 _ _ _ _ _
   | exact ih2 _ _ _ _ _
   | exact impl_goodPart.mono _ _ _
   | exact LeO.none _
   | refine LeO.ite ?_ ?_
   | refine LeO.bind ?_ (fun _ => ?_)
  ·intro y0 y1 y2 y3 y4
   unfold impl_rows.l1
   repeat' first
   | (with_reducible exact ih0 _ _ _)
   | (with_reducible exact ih1 _ _ _ _ _)
   | (with_reducible exact ih2 _ _ _ _ _)
   | (with_reducible exact impl_goodPart.mono _ _ _)
   | (with_reducible exact LeO.refl _)
   | (with_reducible exact LeO.none _)
   | (with_reducible refine LeO.ite ?_ ?_)
   | (with_reducible refine LeO.bind ?_ (fun _ => ?_))
   | exact ih0 _ _ _
   | exact ih1 _ _ _ _ _
   | exact ih2 _ _ _ _ _
   | exact impl_goodPart.mono _ _ _
   | exact LeO.none _
   | refine LeO.ite ?_ ?_
   | refine LeO.bind ?_ (fun _ => ?_)
theorem impl_rows.mono : ∀ a0 a1 k, LeO (impl_rows.f k a0 a1) (impl_rows.f (k + 1) a0 a1) := by
 intro a0 a1 k
 obtain ⟨ih0, ih1, ih2⟩ := impl_rows.mono_l k
 unfold impl_rows.f
 repeat' first
   | (with_reducible exact ih0 _ _ _)
   | (with_reducible exact ih1 _ _ _ _ _)
   | (with_reducible exact ih2 _ _ _ _ _)
   | (with_reducible exact impl_goodPart.mono _ _ _)
   | (with_reducible exact LeO.refl _)
   | (with_reducible exact LeO.none _)
   | (with_reducible refine LeO.ite ?_ ?_)
   | (with_reducible refine LeO.bind ?_ (fun _ => ?_))
   | exact ih0 _ _ _
   | exact ih1 _ _ _ _ _
   | exact ih2 _ _ _ _ _
   | exact impl_goodPart.mono _ _ _
   | exact LeO.none _
   | refine LeO.ite ?_ ?_
   | refine LeO.bind ?_ (fun _ => ?_)
def impl_rows.T15 : Bool × List (List Nat × List Nat) := (true, [([], []), ([0], [0]), ([1], [1]), ([2], [2]), ([3], [3]), ([3], [3]), ([5, 3], [3, 5]), ([6, 3], [3, 6]), ([4, 7, 3], [3, 4, 7]), ([8, 3], [3, 8]), ([9, 3], [3, 9]), ([3], [3]), ([11, 3], [3, 11]), ([12, 3], [3, 12]), ([10, 13, 3], [3, 10, 13]), ([3, 14], [3, 14])])
def impl_rows.B15 : List Nat := [0, 1, 3, 7, 15, 15, 47, 111, 255, 511, 1023, 15, 2063, 6159, 16383, 32767]
theorem impl_rows.tab15 : rtab .any (opsOf Tryd.f48 15) = impl_rows.T15 := by kernel_rfl
theorem impl_rows.bits15 : waitsOk impl_rows.T15.2 impl_rows.B15 = true := by kernel_rfl
def impl_rows.T18 : Bool × List (List Nat × List Nat) := (true, [([], []), ([], []), ([1], [1]), ([2], [2]), ([], []), ([4], [4]), ([5], [5]), ([], []), ([7], [7]), ([3, 6, 8], [3, 6, 8]), ([9], [9]), ([0, 10], [0, 10]), ([11, 11, 0, 1, 2, 3, 4, 5, 6, 7, 8, 9, 10, 11], [0, 11])])
def impl_rows.B18 : List Nat := [0, 0, 2, 6, 0, 16, 48, 0, 128, 510, 1022, 2047, 4095]
theorem impl_rows.tab18 : rtab .any (opsOf Tryd.f48 18) = impl_rows.T18 := by kernel_rfl
theorem impl_rows.bits18 : waitsOk impl_rows.T18.2 impl_rows.B18 = true := by kernel_rfl
set_option maxHeartbeats 2000000 in
set_option maxRecDepth 100000 in
theorem impl_rows.calls (k : Nat) (a0 : ByteArray) (a1 : Int) (r1 : List (S88)) (r2 : Bool) (w : World) (h : impl_rows.f k a0 a1 = some (r1, r2)) :
  Calls Tryd.prog 48 #[.string a0, .int .i64 a1] w fun e w' => ∃ v0_ : Value, e = .returned (.tuple #[v0_, .bool r2]) ∧ Kd.R k88 88 w' w.heap.size (fun _ => True) v0_ r1 ∧ Below w.heap.size w w' := by
 have hu88 := Tryd.underlying88
 have HB := AZ.mk (Below.refl w.heap.size w)
 have H : (impl_rows.l0 k a0 a1 ([] : List (S88))) = some (r1, r2) := h
 clear h
 have H' := AZ.mk H
 clear H
 go_enter Tryd.func48, Tryd.ntmps48
 go_wp2
 go_loopg [0, 6] k (fun kq v0 v6 w' => ∃ (x0_1 : ByteArray) (x6_1 : List (S88)), v0 = .string x0_1 ∧ AZ (impl_rows.l0 kq x0_1 a1 x6_1 = some (r1, r2)) ∧ AZ (kq ≤ k) ∧ AZ (Kd.R k88 88 w' w.heap.size (fun _ => True) v6 x6_1) ∧ AZ (Below w.heap.size w w'))
 case atStart => exact ⟨(a0), (([] : List (S88))), zq8, H', ⟨Nat.le_refl _⟩, ⟨zq83⟩, ⟨zq0⟩⟩
 case round =>
  clear H'
  try clear p2
  obtain ⟨x0_1, x6_1, rfl, HA, HK1, HO_6, HB⟩ := hrel
  cases gk with
  | zero => exact absurd HA.out (by simp [impl_rows.l0])
  | succ k1 =>
   have H := HA.out
   clear HA
   simp only [impl_rows.l0] at H
   by_cases c3 : x0_1.toList = ([] : List UInt8)
   ·rw [if_pos c3] at H
    have c3b0 : (x0_1.toList == ([] : List UInt8)) = true := beq_iff_eq.mpr c3
    have c3b1 : (x0_1.toList != ([] : List UInt8)) = false := bne_eq_false_iff_eq.mpr c3
    clear c3
    simp only [Option.some.injEq, Prod.mk.injEq] at H
    obtain ⟨rfl, rfl⟩ := H
    go_wp2
    go_ret2
    exact ⟨_, zq7, zq15, zq0⟩
   ·rw [if_neg c3] at H
    have c3b0 : (x0_1.toList == ([] : List UInt8)) = false := beq_eq_false_iff_ne.mpr c3
    have c3b1 : (x0_1.toList != ([] : List UInt8)) = true := bne_iff_ne.mpr c3
    replace H := Option.bind_eq_some_iff.mp H
    obtain ⟨⟨t197, t198, t199⟩, A40, H⟩ := H
    try dsimp only at H
    have A4 := AZ.mk A40
    clear A40
    by_cases c5 : t199 = true
    ·subst c5
     rw [if_pos rfl] at H
     replace H := Option.bind_eq_some_iff.mp H
     obtain ⟨t200, A60, H⟩ := H
     try dsimp only at H
     have A6 := AZ.mk A60
     clear A60
     have HC7 := AZ.mk H
     clear H
     go_upto_region 8 with (first | ((with_reducible refine gate_callee (f := 76) rfl ?_); refine goesL_ (some 18) rfl rfl Tryd.func76 zq17 rfl #[.string x0_1, .string (⟨#[10]⟩ : ByteArray)] rfl zq2 ?_; (with_reducible refine (strings_Cut.calls x0_1 (⟨#[10]⟩ : ByteArray) t197 t198 true _ A4.out).mono ?_); rintro e w8 ⟨rfl, hb⟩; refine ⟨_, rfl, ?_⟩; have n0_ := AZ.mk (Kd.R_below zq15 hb); have n1_ := AZ.mk (below_step zq0 hb); clear HO_6; clear HB; have HO_6 := n0_; have HB := n1_; clear n0_ n1_; (try clear hb); (try clear hb2); (try clear hk); (try clear hi)) | ((with_reducible refine gate_callee (f := 50) rfl ?_); refine goesL_ (some 26) rfl rfl Tryd.func50 zq17 rfl #[.string t197, .string (⟨#[32]⟩ : ByteArray)] rfl zq2 ?_; (with_reducible refine (strings_Split.calls t197 (⟨#[32]⟩ : ByteArray) t200 _ A6.out).mono ?_); rintro e w9 ⟨v201, rfl, ho0, hb⟩; refine ⟨_, rfl, ?_⟩; have n0_ := AZ.mk (Kd.R_below zq15 hb); have n1_ := AZ.mk (Kd.R_lower ho0 (below_size zq0)); have n2_ := AZ.mk (below_step zq0 hb); clear HO_6; clear HB; have HO_6 := n0_; have HO202 := n1_; have HB := n2_; clear n0_ n1_ n2_; (try clear hb); (try clear hb2); (try clear hk); (try clear hi); (try clear ho0)))
     (try simp only [Act.put, List.setIfInBounds_toArray, List.set_cons_zero, List.set_cons_succ])
     go_cut [63] (fun v63 wc => ∃ (kq : Nat) (x63_6 : Bool), v63 = .bool x63_6 ∧ AZ (impl_rows.j1 kq t198 a1 x6_1 t200 x63_6 = some (r1, r2)) ∧ AZ (kq ≤ k1) ∧ AZ (Kd.R k88 88 wc w.heap.size (fun _ => True) u6 x6_1) ∧ AZ (Kd.R Kd.string 9 wc w.heap.size (fun _ => True) v201 t200) ∧ AZ (Below w.heap.size w wc))
     case first =>
      have H := HC7.out
      clear HC7
      by_cases c10 : (t200.length : Int) = 3
      ·rw [if_pos c10] at H
       have c10b0 : ((t200.length : Int) == 3) = true := beq_iff_eq.mpr c10
       have c10b1 : ((t200.length : Int) != 3) = false := bne_eq_false_iff_eq.mpr c10
       clear c10
       (first | rw [c10b0] | (simp only [i64_w, i32_w]; rw [c10b0]) | skip)
       by_cases c11 : 0 < (t200.length : Int)
       ·rw [if_pos c11] at H
        have c11b0 : decide (0 < (t200.length : Int)) = true := decide_eq_true c11
        have c11b1 : decide (0 < t200.length) = true := decide_eq_true zq94
        clear c11
        by_cases c12 : (rdOf ByteArray.empty t200 0).toList = ([100] : List UInt8)
        ·rw [if_pos c12] at H
         have c12b0 : ((rdOf ByteArray.empty t200 0).toList == ([100] : List UInt8)) = true := beq_iff_eq.mpr c12
         have c12b1 : ((rdOf ByteArray.empty t200 0).toList != ([100] : List UInt8)) = false := bne_eq_false_iff_eq.mpr c12
         clear c12
         by_cases c13 : 1 < (t200.length : Int)
         ·rw [if_pos c13] at H
          have c13b0 : decide (1 < (t200.length : Int)) = true := decide_eq_true c13
          have c13b1 : decide (1 < t200.length) = true := decide_eq_true zq94
          clear c13
          replace H := Option.bind_eq_some_iff.mp H
          obtain ⟨t205, A140, H⟩ := H
          try dsimp only at H
          have A14 := AZ.mk A140
          clear A140
          by_cases c15 : t205 = true
          ·subst c15
           rw [if_pos rfl] at H
           by_cases c16 : 2 < (t200.length : Int)
           ·rw [if_pos c16] at H
            have c16b0 : decide (2 < (t200.length : Int)) = true := decide_eq_true c16
            have c16b1 : decide (2 < t200.length) = true := decide_eq_true zq94
            clear c16
            have H' := AZ.mk H
            clear H
            obtain ⟨Ao17, co17, eo17⟩ := Kd.R_slice HO202.out
            subst eo17
            have p203 : 0 ≤ (0 : Int) := zq94
            have q203 : 0 < (t200.length : Int) := of_decide_eq_true zq1
            obtain ⟨ad203, e203, hx203_0⟩ := Kd.at_string (Kd.R_reads' HO202.out).2.2 0 p203 q203
            cases e203
            have qi203 : (0 < t200.length) = True := eq_true zq94
            (try rw [show ((0 : Int)).toNat = 0 from rfl] at hx203_0)
            (try rw [Addr.add_zero'] at hx203_0)
            replace p203 := eq_true p203
            replace q203 := eq_true q203
            have p204 : 0 ≤ (1 : Int) := zq94
            have q204 : 1 < (t200.length : Int) := of_decide_eq_true zq1
            obtain ⟨ad204, e204, hx204_0⟩ := Kd.at_string (Kd.R_reads' HO202.out).2.2 1 p204 q204
            obtain rfl : ad203 = ad204 := (by injection e204)
            (try simp only [show (1 : Int).toNat = 1 from rfl, Nat.reduceMul, Nat.reduceEqDiff, Go.Addr.add, ↓reduceIte] at hx204_0)
            have qi204 : (1 < t200.length) = True := eq_true zq94
            (try rw [show ((1 : Int)).toNat = 1 from rfl] at hx204_0)
            replace p204 := eq_true p204
            replace q204 := eq_true q204
            go_wp2_with (first | (go_at_call 77; (with_reducible refine (impl_goodPart.calls k1 (rdOf ByteArray.empty t200 1) false true _ A14.out).mono ?_); rintro e w' ⟨rfl, ⟨nd, rfl⟩⟩; have p206 : 0 ≤ (2 : Int) := zq94; have q206 : 2 < (t200.length : Int) := of_decide_eq_true zq1; obtain ⟨ad206, e206, hx206_0⟩ := Kd.at_string (Kd.R_reads' HO202.out).2.2 2 p206 q206; obtain rfl : ad203 = ad206 := (by injection e206); (try simp only [show (2 : Int).toNat = 2 from rfl, Nat.reduceMul, Nat.reduceEqDiff, Go.Addr.add, ↓reduceIte] at hx206_0); have qi206 : (2 < t200.length) = True := eq_true zq94; (try rw [show ((2 : Int)).toNat = 2 from rfl] at hx206_0); replace p206 := eq_true p206; replace q206 := eq_true q206))
            go_meet
            case rel => exact ⟨_, ((((rdOf ByteArray.empty t200 2).size : Int) != (wrap64 (2 * a1)))), zq8, H', ⟨zq106⟩, ⟨zq15⟩, ⟨zq73⟩, ⟨zq0⟩⟩
           ·rw [if_neg c16] at H
            exact absurd H zq119
          ·replace c15 := Bool.eq_false_iff.mpr c15
           subst c15
           rw [if_neg (show ¬ (false = true) by decide)] at H
           have H' := AZ.mk H
           clear H
           obtain ⟨Ao18, co18, eo18⟩ := Kd.R_slice HO202.out
           subst eo18
           have p203 : 0 ≤ (0 : Int) := zq94
           have q203 : 0 < (t200.length : Int) := of_decide_eq_true zq1
           obtain ⟨ad203, e203, hx203_0⟩ := Kd.at_string (Kd.R_reads' HO202.out).2.2 0 p203 q203
           cases e203
           have qi203 : (0 < t200.length) = True := eq_true zq94
           (try rw [show ((0 : Int)).toNat = 0 from rfl] at hx203_0)
           (try rw [Addr.add_zero'] at hx203_0)
           replace p203 := eq_true p203
           replace q203 := eq_true q203
           have p204 : 0 ≤ (1 : Int) := zq94
           have q204 : 1 < (t200.length : Int) := of_decide_eq_true zq1
           obtain ⟨ad204, e204, hx204_0⟩ := Kd.at_string (Kd.R_reads' HO202.out).2.2 1 p204 q204
           obtain rfl : ad203 = ad204 := (by injection e204)
           (try simp only [show (1 : Int).toNat = 1 from rfl, Nat.reduceMul, Nat.reduceEqDiff, Go.Addr.add, ↓reduceIte] at hx204_0)
           have qi204 : (1 < t200.length) = True := eq_true zq94
           (try rw [show ((1 : Int)).toNat = 1 from rfl] at hx204_0)
           replace p204 := eq_true p204
           replace q204 := eq_true q204
           go_wp2_with (first | (go_at_call 77; (with_reducible refine (impl_goodPart.calls k1 (rdOf ByteArray.empty t200 1) false false _ A14.out).mono ?_); rintro e w' ⟨rfl, ⟨nd, rfl⟩⟩))
           go_meet
           case rel => exact ⟨_, (true), zq8, H', ⟨zq106⟩, ⟨zq15⟩, ⟨zq73⟩, ⟨zq0⟩⟩
         ·rw [if_neg c13] at H
          exact absurd H zq119
        ·rw [if_neg c12] at H
         have c12b0 : ((rdOf ByteArray.empty t200 0).toList == ([100] : List UInt8)) = false := beq_eq_false_iff_ne.mpr c12
         have c12b1 : ((rdOf ByteArray.empty t200 0).toList != ([100] : List UInt8)) = true := bne_iff_ne.mpr c12
         by_cases c19 : (rdOf ByteArray.empty t200 0).toList = ([102] : List UInt8)
         ·rw [if_pos c19] at H
          have c19b0 : ((rdOf ByteArray.empty t200 0).toList == ([102] : List UInt8)) = true := beq_iff_eq.mpr c19
          have c19b1 : ((rdOf ByteArray.empty t200 0).toList != ([102] : List UInt8)) = false := bne_eq_false_iff_eq.mpr c19
          clear c19
          by_cases c20 : 1 < (t200.length : Int)
          ·rw [if_pos c20] at H
           have c20b0 : decide (1 < (t200.length : Int)) = true := decide_eq_true c20
           have c20b1 : decide (1 < t200.length) = true := decide_eq_true zq94
           clear c20
           replace H := Option.bind_eq_some_iff.mp H
           obtain ⟨t209, A210, H⟩ := H
           try dsimp only at H
           have A21 := AZ.mk A210
           clear A210
           by_cases c22 : t209 = true
           ·subst c22
            rw [if_pos rfl] at H
            by_cases c23 : 2 < (t200.length : Int)
            ·rw [if_pos c23] at H
             have c23b0 : decide (2 < (t200.length : Int)) = true := decide_eq_true c23
             have c23b1 : decide (2 < t200.length) = true := decide_eq_true zq94
             clear c23
             have H' := AZ.mk H
             clear H
             obtain ⟨Ao24, co24, eo24⟩ := Kd.R_slice HO202.out
             subst eo24
             have p203 : 0 ≤ (0 : Int) := zq94
             have q203 : 0 < (t200.length : Int) := of_decide_eq_true zq1
             obtain ⟨ad203, e203, hx203_0⟩ := Kd.at_string (Kd.R_reads' HO202.out).2.2 0 p203 q203
             cases e203
             have qi203 : (0 < t200.length) = True := eq_true zq94
             (try rw [show ((0 : Int)).toNat = 0 from rfl] at hx203_0)
             (try rw [Addr.add_zero'] at hx203_0)
             replace p203 := eq_true p203
             replace q203 := eq_true q203
             have p207 : 0 ≤ (0 : Int) := zq94
             have q207 : 0 < (t200.length : Int) := of_decide_eq_true zq1
             obtain ⟨ad207, e207, hx207_0⟩ := Kd.at_string (Kd.R_reads' HO202.out).2.2 0 p207 q207
             obtain rfl : ad203 = ad207 := (by injection e207)
             have qi207 : (0 < t200.length) = True := eq_true zq94
             (try rw [show ((0 : Int)).toNat = 0 from rfl] at hx207_0)
             (try rw [Addr.add_zero'] at hx207_0)
             replace p207 := eq_true p207
             replace q207 := eq_true q207
             have p208 : 0 ≤ (1 : Int) := zq94
             have q208 : 1 < (t200.length : Int) := of_decide_eq_true zq1
             obtain ⟨ad208, e208, hx208_0⟩ := Kd.at_string (Kd.R_reads' HO202.out).2.2 1 p208 q208
             obtain rfl : ad203 = ad208 := (by injection e208)
             (try simp only [show (1 : Int).toNat = 1 from rfl, Nat.reduceMul, Nat.reduceEqDiff, Go.Addr.add, ↓reduceIte] at hx208_0)
             have qi208 : (1 < t200.length) = True := eq_true zq94
             (try rw [show ((1 : Int)).toNat = 1 from rfl] at hx208_0)
             replace p208 := eq_true p208
             replace q208 := eq_true q208
             go_wp2_with (first | (go_at_call 77; (with_reducible refine (impl_goodPart.calls k1 (rdOf ByteArray.empty t200 1) false true _ A21.out).mono ?_); rintro e w' ⟨rfl, ⟨nd, rfl⟩⟩; have p210 : 0 ≤ (2 : Int) := zq94; have q210 : 2 < (t200.length : Int) := of_decide_eq_true zq1; obtain ⟨ad210, e210, hx210_0⟩ := Kd.at_string (Kd.R_reads' HO202.out).2.2 2 p210 q210; obtain rfl : ad203 = ad210 := (by injection e210); (try simp only [show (2 : Int).toNat = 2 from rfl, Nat.reduceMul, Nat.reduceEqDiff, Go.Addr.add, ↓reduceIte] at hx210_0); have qi210 : (2 < t200.length) = True := eq_true zq94; (try rw [show ((2 : Int)).toNat = 2 from rfl] at hx210_0); replace p210 := eq_true p210; replace q210 := eq_true q210))
             go_meet
             case rel => exact ⟨_, ((((rdOf ByteArray.empty t200 2).size : Int) != (wrap64 (2 * a1)))), zq8, H', ⟨zq106⟩, ⟨zq15⟩, ⟨zq73⟩, ⟨zq0⟩⟩
            ·rw [if_neg c23] at H
             exact absurd H zq119
           ·replace c22 := Bool.eq_false_iff.mpr c22
            subst c22
            rw [if_neg (show ¬ (false = true) by decide)] at H
            have H' := AZ.mk H
            clear H
            obtain ⟨Ao25, co25, eo25⟩ := Kd.R_slice HO202.out
            subst eo25
            have p203 : 0 ≤ (0 : Int) := zq94
            have q203 : 0 < (t200.length : Int) := of_decide_eq_true zq1
            obtain ⟨ad203, e203, hx203_0⟩ := Kd.at_string (Kd.R_reads' HO202.out).2.2 0 p203 q203
            cases e203
            have qi203 : (0 < t200.length) = True := eq_true zq94
            (try rw [show ((0 : Int)).toNat = 0 from rfl] at hx203_0)
            (try rw [Addr.add_zero'] at hx203_0)
            replace p203 := eq_true p203
            replace q203 := eq_true q203
            have p207 : 0 ≤ (0 : Int) := zq94
            have q207 : 0 < (t200.length : Int) := of_decide_eq_true zq1
            obtain ⟨ad207, e207, hx207_0⟩ := Kd.at_string (Kd.R_reads' HO202.out).2.2 0 p207 q207
            obtain rfl : ad203 = ad207 := (by injection e207)
            have qi207 : (0 < t200.length) = True := eq_true zq94
            (try rw [show ((0 : Int)).toNat = 0 from rfl] at hx207_0)
            (try rw [Addr.add_zero'] at hx207_0)
            replace p207 := eq_true p207
            replace q207 := eq_true q207
            have p208 : 0 ≤ (1 : Int) := zq94
            have q208 : 1 < (t200.length : Int) := of_decide_eq_true zq1
            obtain ⟨ad208, e208, hx208_0⟩ := Kd.at_string (Kd.R_reads' HO202.out).2.2 1 p208 q208
            obtain rfl : ad203 = ad208 := (by injection e208)
            (try simp only [show (1 : Int).toNat = 1 from rfl, Nat.reduceMul, Nat.reduceEqDiff, Go.Addr.add, ↓reduceIte] at hx208_0)
            have qi208 : (1 < t200.length) = True := eq_true zq94
            (try rw [show ((1 : Int)).toNat = 1 from rfl] at hx208_0)
            replace p208 := eq_true p208
            replace q208 := eq_true q208
            go_wp2_with (first | (go_at_call 77; (with_reducible refine (impl_goodPart.calls k1 (rdOf ByteArray.empty t200 1) false false _ A21.out).mono ?_); rintro e w' ⟨rfl, ⟨nd, rfl⟩⟩))
            go_meet
            case rel => exact ⟨_, (true), zq8, H', ⟨zq106⟩, ⟨zq15⟩, ⟨zq73⟩, ⟨zq0⟩⟩
          ·rw [if_neg c20] at H
           exact absurd H zq119
         ·rw [if_neg c19] at H
          have c19b0 : ((rdOf ByteArray.empty t200 0).toList == ([102] : List UInt8)) = false := beq_eq_false_iff_ne.mpr c19
          have c19b1 : ((rdOf ByteArray.empty t200 0).toList != ([102] : List UInt8)) = true := bne_iff_ne.mpr c19
          by_cases c26 : (rdOf ByteArray.empty t200 0).toList = ([120] : List UInt8)
          ·rw [if_pos c26] at H
           have c26b0 : ((rdOf ByteArray.empty t200 0).toList == ([120] : List UInt8)) = true := beq_iff_eq.mpr c26
           have c26b1 : ((rdOf ByteArray.empty t200 0).toList != ([120] : List UInt8)) = false := bne_eq_false_iff_eq.mpr c26
           clear c26
           by_cases c27 : 1 < (t200.length : Int)
           ·rw [if_pos c27] at H
            have c27b0 : decide (1 < (t200.length : Int)) = true := decide_eq_true c27
            have c27b1 : decide (1 < t200.length) = true := decide_eq_true zq94
            clear c27
            replace H := Option.bind_eq_some_iff.mp H
            obtain ⟨t213, A280, H⟩ := H
            try dsimp only at H
            have A28 := AZ.mk A280
            clear A280
            by_cases c29 : t213 = true
            ·subst c29
             rw [if_pos rfl] at H
             by_cases c30 : 2 < (t200.length : Int)
             ·rw [if_pos c30] at H
              have c30b0 : decide (2 < (t200.length : Int)) = true := decide_eq_true c30
              have c30b1 : decide (2 < t200.length) = true := decide_eq_true zq94
              clear c30
              have H' := AZ.mk H
              clear H
              obtain ⟨Ao31, co31, eo31⟩ := Kd.R_slice HO202.out
              subst eo31
              have p203 : 0 ≤ (0 : Int) := zq94
              have q203 : 0 < (t200.length : Int) := of_decide_eq_true zq1
              obtain ⟨ad203, e203, hx203_0⟩ := Kd.at_string (Kd.R_reads' HO202.out).2.2 0 p203 q203
              cases e203
              have qi203 : (0 < t200.length) = True := eq_true zq94
              (try rw [show ((0 : Int)).toNat = 0 from rfl] at hx203_0)
              (try rw [Addr.add_zero'] at hx203_0)
              replace p203 := eq_true p203
              replace q203 := eq_true q203
              have p207 : 0 ≤ (0 : Int) := zq94
              have q207 : 0 < (t200.length : Int) := of_decide_eq_true zq1
              obtain ⟨ad207, e207, hx207_0⟩ := Kd.at_string (Kd.R_reads' HO202.out).2.2 0 p207 q207
              obtain rfl : ad203 = ad207 := (by injection e207)
              have qi207 : (0 < t200.length) = True := eq_true zq94
              (try rw [show ((0 : Int)).toNat = 0 from rfl] at hx207_0)
              (try rw [Addr.add_zero'] at hx207_0)
              replace p207 := eq_true p207
              replace q207 := eq_true q207
              have p211 : 0 ≤ (0 : Int) := zq94
              have q211 : 0 < (t200.length : Int) := of_decide_eq_true zq1
              obtain ⟨ad211, e211, hx211_0⟩ := Kd.at_string (Kd.R_reads' HO202.out).2.2 0 p211 q211
              obtain rfl : ad203 = ad211 := (by injection e211)
              have qi211 : (0 < t200.length) = True := eq_true zq94
              (try rw [show ((0 : Int)).toNat = 0 from rfl] at hx211_0)
              (try rw [Addr.add_zero'] at hx211_0)
              replace p211 := eq_true p211
              replace q211 := eq_true q211
              have p212 : 0 ≤ (1 : Int) := zq94
              have q212 : 1 < (t200.length : Int) := of_decide_eq_true zq1
              obtain ⟨ad212, e212, hx212_0⟩ := Kd.at_string (Kd.R_reads' HO202.out).2.2 1 p212 q212
              obtain rfl : ad203 = ad212 := (by injection e212)
              (try simp only [show (1 : Int).toNat = 1 from rfl, Nat.reduceMul, Nat.reduceEqDiff, Go.Addr.add, ↓reduceIte] at hx212_0)
              have qi212 : (1 < t200.length) = True := eq_true zq94
              (try rw [show ((1 : Int)).toNat = 1 from rfl] at hx212_0)
              replace p212 := eq_true p212
              replace q212 := eq_true q212
              go_wp2_with (first | (go_at_call 77; (with_reducible refine (impl_goodPart.calls k1 (rdOf ByteArray.empty t200 1) false true _ A28.out).mono ?_); rintro e w' ⟨rfl, ⟨nd, rfl⟩⟩; have p214 : 0 ≤ (2 : Int) := zq94; have q214 : 2 < (t200.length : Int) := of_decide_eq_true zq1; obtain ⟨ad214, e214, hx214_0⟩ := Kd.at_string (Kd.R_reads' HO202.out).2.2 2 p214 q214; obtain rfl : ad203 = ad214 := (by injection e214); (try simp only [show (2 : Int).toNat = 2 from rfl, Nat.reduceMul, Nat.reduceEqDiff, Go.Addr.add, ↓reduceIte] at hx214_0); have qi214 : (2 < t200.length) = True := eq_true zq94; (try rw [show ((2 : Int)).toNat = 2 from rfl] at hx214_0); replace p214 := eq_true p214; replace q214 := eq_true q214))
              go_meet
              case rel => exact ⟨_, ((((rdOf ByteArray.empty t200 2).size : Int) != (wrap64 (2 * a1)))), zq8, H', ⟨zq106⟩, ⟨zq15⟩, ⟨zq73⟩, ⟨zq0⟩⟩
             ·rw [if_neg c30] at H
              exact absurd H zq119
            ·replace c29 := Bool.eq_false_iff.mpr c29
             subst c29
             rw [if_neg (show ¬ (false = true) by decide)] at H
             have H' := AZ.mk H
             clear H
             obtain ⟨Ao32, co32, eo32⟩ := Kd.R_slice HO202.out
             subst eo32
             have p203 : 0 ≤ (0 : Int) := zq94
             have q203 : 0 < (t200.length : Int) := of_decide_eq_true zq1
             obtain ⟨ad203, e203, hx203_0⟩ := Kd.at_string (Kd.R_reads' HO202.out).2.2 0 p203 q203
             cases e203
             have qi203 : (0 < t200.length) = True := eq_true zq94
             (try rw [show ((0 : Int)).toNat = 0 from rfl] at hx203_0)
             (try rw [Addr.add_zero'] at hx203_0)
             replace p203 := eq_true p203
             replace q203 := eq_true q203
             have p207 : 0 ≤ (0 : Int) := zq94
             have q207 : 0 < (t200.length : Int) := of_decide_eq_true zq1
             obtain ⟨ad207, e207, hx207_0⟩ := Kd.at_string (Kd.R_reads' HO202.out).2.2 0 p207 q207
             obtain rfl : ad203 = ad207 := (by injection e207)
             have qi207 : (0 < t200.length) = True := eq_true zq94
             (try rw [show ((0 : Int)).toNat = 0 from rfl] at hx207_0)
             (try rw [Addr.add_zero'] at hx207_0)
             replace p207 := eq_true p207
             replace q207 := eq_true q207
             have p211 : 0 ≤ (0 : Int) := zq94
             have q211 : 0 < (t200.length : Int) := of_decide_eq_true zq1
             obtain ⟨ad211, e211, hx211_0⟩ := Kd.at_string (Kd.R_reads' HO202.out).2.2 0 p211 q211
             obtain rfl : ad203 = ad211 := (by injection e211)
             have qi211 : (0 < t200.length) = True := eq_true zq94
             (try rw [show ((0 : Int)).toNat = 0 from rfl] at hx211_0)
             (try rw [Addr.add_zero'] at hx211_0)
             replace p211 := eq_true p211
             replace q211 := eq_true q211
             have p212 : 0 ≤ (1 : Int) := zq94
             have q212 : 1 < (t200.length : Int) := of_decide_eq_true zq1
             obtain ⟨ad212, e212, hx212_0⟩ := Kd.at_string (Kd.R_reads' HO202.out).2.2 1 p212 q212
             obtain rfl : ad203 = ad212 := (by injection e212)
             (try simp only [show (1 : Int).toNat = 1 from rfl, Nat.reduceMul, Nat.reduceEqDiff, Go.Addr.add, ↓reduceIte] at hx212_0)
             have qi212 : (1 < t200.length) = True := eq_true zq94
             (try rw [show ((1 : Int)).toNat = 1 from rfl] at hx212_0)
             replace p212 := eq_true p212
             replace q212 := eq_true q212
             go_wp2_with (first | (go_at_call 77; (with_reducible refine (impl_goodPart.calls k1 (rdOf ByteArray.empty t200 1) false false _ A28.out).mono ?_); rintro e w' ⟨rfl, ⟨nd, rfl⟩⟩))
             go_meet
             case rel => exact ⟨_, (true), zq8, H', ⟨zq106⟩, ⟨zq15⟩, ⟨zq73⟩, ⟨zq0⟩⟩
           ·rw [if_neg c27] at H
            exact absurd H zq119
          ·rw [if_neg c26] at H
           have c26b0 : ((rdOf ByteArray.empty t200 0).toList == ([120] : List UInt8)) = false := beq_eq_false_iff_ne.mpr c26
           have c26b1 : ((rdOf ByteArray.empty t200 0).toList != ([120] : List UInt8)) = true := bne_iff_ne.mpr c26
           have H' := AZ.mk H
           clear H
           obtain ⟨Ao33, co33, eo33⟩ := Kd.R_slice HO202.out
           subst eo33
           have p203 : 0 ≤ (0 : Int) := zq94
           have q203 : 0 < (t200.length : Int) := of_decide_eq_true zq1
           obtain ⟨ad203, e203, hx203_0⟩ := Kd.at_string (Kd.R_reads' HO202.out).2.2 0 p203 q203
           cases e203
           have qi203 : (0 < t200.length) = True := eq_true zq94
           (try rw [show ((0 : Int)).toNat = 0 from rfl] at hx203_0)
           (try rw [Addr.add_zero'] at hx203_0)
           replace p203 := eq_true p203
           replace q203 := eq_true q203
           have p207 : 0 ≤ (0 : Int) := zq94
           have q207 : 0 < (t200.length : Int) := of_decide_eq_true zq1
           obtain ⟨ad207, e207, hx207_0⟩ := Kd.at_string (Kd.R_reads' HO202.out).2.2 0 p207 q207
           obtain rfl : ad203 = ad207 := (by injection e207)
           have qi207 : (0 < t200.length) = True := eq_true zq94
           (try rw [show ((0 : Int)).toNat = 0 from rfl] at hx207_0)
           (try rw [Addr.add_zero'] at hx207_0)
           replace p207 := eq_true p207
           replace q207 := eq_true q207
           have p211 : 0 ≤ (0 : Int) := zq94
           have q211 : 0 < (t200.length : Int) := of_decide_eq_true zq1
           obtain ⟨ad211, e211, hx211_0⟩ := Kd.at_string (Kd.R_reads' HO202.out).2.2 0 p211 q211
           obtain rfl : ad203 = ad211 := (by injection e211)
           have qi211 : (0 < t200.length) = True := eq_true zq94
           (try rw [show ((0 : Int)).toNat = 0 from rfl] at hx211_0)
           (try rw [Addr.add_zero'] at hx211_0)
           replace p211 := eq_true p211
           replace q211 := eq_true q211
           go_wp2
           go_meet
           case rel => exact ⟨_, (true), zq8, H', ⟨zq106⟩, ⟨zq15⟩, ⟨zq73⟩, ⟨zq0⟩⟩
       ·rw [if_neg c11] at H
        exact absurd H zq119
      ·rw [if_neg c10] at H
       have c10b0 : ((t200.length : Int) == 3) = false := beq_eq_false_iff_ne.mpr c10
       have c10b1 : ((t200.length : Int) != 3) = true := bne_iff_ne.mpr c10
       (first | rw [c10b0] | (simp only [i64_w, i32_w]; rw [c10b0]) | skip)
       have H' := AZ.mk H
       clear H
       obtain ⟨Ao34, co34, eo34⟩ := Kd.R_slice HO202.out
       subst eo34
       go_wp2
       go_meet
       case rel => exact ⟨_, (true), zq8, H', ⟨zq106⟩, ⟨zq15⟩, ⟨zq73⟩, ⟨zq0⟩⟩
     case rest =>
      clear HC7
      try clear c1
      try clear c2
      try clear p2
      try clear q2
      try clear hx2
      try clear qi2
      try clear c3
      try clear c3b0
      try clear c3b1
      try clear c4
      try clear c5
      try clear p6
      try clear c7
      try clear c10
      try clear c10b0
      try clear c10b1
      try clear c11
      try clear c11b0
      try clear c11b1
      try clear c12
      try clear c12b0
      try clear c12b1
      try clear c13
      try clear c13b0
      try clear c13b1
      try clear c15
      try clear c16
      try clear c16b0
      try clear c16b1
      try clear c19
      try clear c19b0
      try clear c19b1
      try clear c20
      try clear c20b0
      try clear c20b1
      try clear p20
      try clear q20
      try clear hx20
      try clear qi20
      try clear p21
      try clear q21
      try clear hx21
      try clear qi21
      try clear c22
      try clear c23
      try clear c23b0
      try clear c23b1
      try clear c26
      try clear c26b0
      try clear c26b1
      try clear c27
      try clear c27b0
      try clear c27b1
      try clear c29
      try clear c30
      try clear c30b0
      try clear c30b1
      try clear hx203_0
      try clear hx204_0
      try clear hx206_0
      try clear hx207_0
      try clear hx208_0
      try clear hx210_0
      try clear hx211_0
      try clear hx212_0
      try clear hx214_0
      try clear p2
      try clear p203
      try clear p204
      try clear p206
      try clear p207
      try clear p208
      try clear p210
      try clear p211
      try clear p212
      try clear p214
      try clear q203
      try clear q204
      try clear q206
      try clear q207
      try clear q208
      try clear q210
      try clear q211
      try clear q212
      try clear q214
      obtain ⟨kq, x63_6, rfl, HA, HJ6, HO_6, HO_10, HB⟩ := hcut
      cases kq with
      | zero => exact absurd HA.out (by simp [impl_rows.j1])
      | succ kj6 =>
       have H := HA.out
       clear HA
       simp only [impl_rows.j1] at H
       by_cases c35 : x63_6 = true
       ·subst c35
        rw [if_pos rfl] at H
        simp only [Option.some.injEq, Prod.mk.injEq] at H
        obtain ⟨rfl, rfl⟩ := H
        go_wp2
        go_ret2
        exact ⟨_, zq7, zq83, zq0⟩
       ·replace c35 := Bool.eq_false_iff.mpr c35
        subst c35
        rw [if_neg (show ¬ (false = true) by decide)] at H
        have H' := AZ.mk H
        clear H
        go_wp2
        go_loopg [11] kj6 (fun kq v11 w' => ∃ (x11_3 : Int), v11 = .int .i64 x11_3 ∧ AZ (impl_rows.l1 kq t198 a1 x6_1 t200 x11_3 = some (r1, r2)) ∧ AZ (kq ≤ kj6) ∧ AZ (Kd.R k88 88 w' w.heap.size (fun _ => True) u6 x6_1) ∧ AZ (Kd.R Kd.string 9 w' w.heap.size (fun _ => True) v201 t200) ∧ AZ (Below w.heap.size w w'))
        case atStart => exact ⟨(0), zq8, H', ⟨Nat.le_refl _⟩, ⟨zq15⟩, ⟨zq72⟩, ⟨zq0⟩⟩
        case round =>
         clear H'
         try clear c1
         try clear c2
         try clear p2
         try clear q2
         try clear hx2
         try clear qi2
         try clear c3
         try clear c3b0
         try clear c3b1
         try clear c4
         try clear c5
         try clear p6
         try clear c7
         try clear c10
         try clear c10b0
         try clear c10b1
         try clear c11
         try clear c11b0
         try clear c11b1
         try clear c12
         try clear c12b0
         try clear c12b1
         try clear c13
         try clear c13b0
         try clear c13b1
         try clear c15
         try clear c16
         try clear c16b0
         try clear c16b1
         try clear c19
         try clear c19b0
         try clear c19b1
         try clear c20
         try clear c20b0
         try clear c20b1
         try clear p20
         try clear q20
         try clear hx20
         try clear qi20
         try clear p21
         try clear q21
         try clear hx21
         try clear qi21
         try clear c22
         try clear c23
         try clear c23b0
         try clear c23b1
         try clear c26
         try clear c26b0
         try clear c26b1
         try clear c27
         try clear c27b0
         try clear c27b1
         try clear c29
         try clear c30
         try clear c30b0
         try clear c30b1
         try clear c35
         try clear hx203_0
         try clear hx204_0
         try clear hx206_0
         try clear hx207_0
         try clear hx208_0
         try clear hx210_0
         try clear hx211_0
         try clear hx212_0
         try clear hx214_0
         try clear p2
         try clear p20
         try clear p203
         try clear p204
         try clear p206
         try clear p207
         try clear p208
         try clear p21
         try clear p210
         try clear p211
         try clear p212
         try clear p214
         try clear p6
         try clear q2
         try clear q20
         try clear q203
         try clear q204
         try clear q206
         try clear q207
         try clear q208
         try clear q21
         try clear q210
         try clear q211
         try clear q212
         try clear q214
         obtain ⟨x11_3, rfl, HA, HK3, HO_6, HO_10, HB⟩ := hrel
         cases gk with
         | zero => exact absurd HA.out (by simp [impl_rows.l1])
         | succ k3 =>
          have H := HA.out
          clear HA
          simp only [impl_rows.l1] at H
          by_cases c36 : 2 < (t200.length : Int)
          ·rw [if_pos c36] at H
           have c36b0 : decide (2 < (t200.length : Int)) = true := decide_eq_true c36
           have c36b1 : decide (2 < t200.length) = true := decide_eq_true zq94
           clear c36
           by_cases c37 : x11_3 < ((rdOf ByteArray.empty t200 2).size : Int)
           ·rw [if_pos c37] at H
            have c37b0 : decide (x11_3 < ((rdOf ByteArray.empty t200 2).size : Int)) = true := decide_eq_true c37
            clear c37
            by_cases c38 : 0 ≤ x11_3
            ·rw [if_pos c38] at H
             have c38b0 := eq_true c38
             have c38b1 : decide (0 ≤ x11_3) = true := decide_eq_true c38
             clear c38
             by_cases c39 : x11_3 ≤ (wrap64 (x11_3 + 1))
             ·rw [if_pos c39] at H
              have c39b0 := eq_true c39
              have c39b1 : decide (x11_3 ≤ (wrap64 (x11_3 + 1))) = true := decide_eq_true c39
              by_cases c40 : (wrap64 (x11_3 + 1)) ≤ ((rdOf ByteArray.empty t200 2).size : Int)
              ·rw [if_pos c40] at H
               have c40b0 := eq_true c40
               have c40b1 : decide ((wrap64 (x11_3 + 1)) ≤ ((rdOf ByteArray.empty t200 2).size : Int)) = true := decide_eq_true c40
               replace H := Option.bind_eq_some_iff.mp H
               obtain ⟨t217, A410, H⟩ := H
               try dsimp only at H
               have A41 := AZ.mk A410
               clear A410
               by_cases c42 : t217 = true
               ·subst c42
                rw [if_pos rfl] at H
                have H' := AZ.mk H
                clear H
                obtain ⟨Ao43, co43, eo43⟩ := Kd.R_slice HO_10.out
                subst eo43
                have p215 : 0 ≤ (2 : Int) := zq94
                have q215 : 2 < (t200.length : Int) := of_decide_eq_true zq1
                obtain ⟨ad215, e215, hx215_0⟩ := Kd.at_string (Kd.R_reads' HO_10.out).2.2 2 p215 q215
                cases e215
                (try simp only [show (2 : Int).toNat = 2 from rfl, Nat.reduceMul, Nat.reduceEqDiff, Go.Addr.add, ↓reduceIte] at hx215_0)
                have qi215 : (2 < t200.length) = True := eq_true zq94
                (try rw [show ((2 : Int)).toNat = 2 from rfl] at hx215_0)
                replace p215 := eq_true p215
                replace q215 := eq_true q215
                have p216 : 0 ≤ (2 : Int) := zq94
                have q216 : 2 < (t200.length : Int) := of_decide_eq_true zq1
                obtain ⟨ad216, e216, hx216_0⟩ := Kd.at_string (Kd.R_reads' HO_10.out).2.2 2 p216 q216
                obtain rfl : ad215 = ad216 := (by injection e216)
                (try simp only [show (2 : Int).toNat = 2 from rfl, Nat.reduceMul, Nat.reduceEqDiff, Go.Addr.add, ↓reduceIte] at hx216_0)
                have qi216 : (2 < t200.length) = True := eq_true zq94
                (try rw [show ((2 : Int)).toNat = 2 from rfl] at hx216_0)
                replace p216 := eq_true p216
                replace q216 := eq_true q216
                go_wp2_with (first | ((with_reducible refine gate_callee (f := 78) rfl ?_); refine goesL_ (some 79) rfl rfl Tryd.func78 zq17 rfl #[.string (⟨#[48, 49, 50, 51, 52, 53, 54, 55, 56, 57, 97, 98, 99, 100, 101, 102]⟩ : ByteArray), .string ((rdOf ByteArray.empty t200 2).extract (x11_3 : Int).toNat ((wrap64 (x11_3 + 1)) : Int).toNat)] rfl zq2 ?_; (with_reducible refine (strings_Contains.calls (⟨#[48, 49, 50, 51, 52, 53, 54, 55, 56, 57, 97, 98, 99, 100, 101, 102]⟩ : ByteArray) ((rdOf ByteArray.empty t200 2).extract (x11_3 : Int).toNat ((wrap64 (x11_3 + 1)) : Int).toNat) true _ A41.out).mono ?_); rintro e w44 ⟨rfl, hb⟩; refine ⟨_, rfl, ?_⟩; have n0_ := AZ.mk (Kd.R_below zq15 hb); have n1_ := AZ.mk (Kd.R_below zq72 hb); have n2_ := AZ.mk (below_step zq0 hb); clear HO_6; clear HO_10; clear HB; have HO_6 := n0_; have HO_10 := n1_; have HB := n2_; clear n0_ n1_ n2_; (try clear hb); (try clear hb2); (try clear hk); (try clear hi)))
                go_roundg k3
                case measure => have := HK1.out; have := HJ6.out; have := HK3.out; omega
                case rel => exact ⟨(wrap64 (x11_3 + 1)), zq8, H', ⟨zq143⟩, ⟨zq15⟩, ⟨zq72⟩, ⟨zq0⟩⟩
               ·replace c42 := Bool.eq_false_iff.mpr c42
                subst c42
                rw [if_neg (show ¬ (false = true) by decide)] at H
                simp only [Option.some.injEq, Prod.mk.injEq] at H
                obtain ⟨rfl, rfl⟩ := H
                obtain ⟨Ao45, co45, eo45⟩ := Kd.R_slice HO_10.out
                subst eo45
                have p215 : 0 ≤ (2 : Int) := zq94
                have q215 : 2 < (t200.length : Int) := of_decide_eq_true zq1
                obtain ⟨ad215, e215, hx215_0⟩ := Kd.at_string (Kd.R_reads' HO_10.out).2.2 2 p215 q215
                cases e215
                (try simp only [show (2 : Int).toNat = 2 from rfl, Nat.reduceMul, Nat.reduceEqDiff, Go.Addr.add, ↓reduceIte] at hx215_0)
                have qi215 : (2 < t200.length) = True := eq_true zq94
                (try rw [show ((2 : Int)).toNat = 2 from rfl] at hx215_0)
                replace p215 := eq_true p215
                replace q215 := eq_true q215
                have p216 : 0 ≤ (2 : Int) := zq94
                have q216 : 2 < (t200.length : Int) := of_decide_eq_true zq1
                obtain ⟨ad216, e216, hx216_0⟩ := Kd.at_string (Kd.R_reads' HO_10.out).2.2 2 p216 q216
                obtain rfl : ad215 = ad216 := (by injection e216)
                (try simp only [show (2 : Int).toNat = 2 from rfl, Nat.reduceMul, Nat.reduceEqDiff, Go.Addr.add, ↓reduceIte] at hx216_0)
                have qi216 : (2 < t200.length) = True := eq_true zq94
                (try rw [show ((2 : Int)).toNat = 2 from rfl] at hx216_0)
                replace p216 := eq_true p216
                replace q216 := eq_true q216
                go_wp2_with (first | ((with_reducible refine gate_callee (f := 78) rfl ?_); refine goesL_ (some 79) rfl rfl Tryd.func78 zq17 rfl #[.string (⟨#[48, 49, 50, 51, 52, 53, 54, 55, 56, 57, 97, 98, 99, 100, 101, 102]⟩ : ByteArray), .string ((rdOf ByteArray.empty t200 2).extract (x11_3 : Int).toNat ((wrap64 (x11_3 + 1)) : Int).toNat)] rfl zq2 ?_; (with_reducible refine (strings_Contains.calls (⟨#[48, 49, 50, 51, 52, 53, 54, 55, 56, 57, 97, 98, 99, 100, 101, 102]⟩ : ByteArray) ((rdOf ByteArray.empty t200 2).extract (x11_3 : Int).toNat ((wrap64 (x11_3 + 1)) : Int).toNat) false _ A41.out).mono ?_); rintro e w46 ⟨rfl, hb⟩; refine ⟨_, rfl, ?_⟩; have n0_ := AZ.mk (Kd.R_below zq15 hb); have n1_ := AZ.mk (Kd.R_below zq72 hb); have n2_ := AZ.mk (below_step zq0 hb); clear HO_6; clear HO_10; clear HB; have HO_6 := n0_; have HO_10 := n1_; have HB := n2_; clear n0_ n1_ n2_; (try clear hb); (try clear hb2); (try clear hk); (try clear hi)))
                go_ret2
                exact ⟨_, zq7, zq83, zq0⟩
              ·rw [if_neg c40] at H
               exact absurd H zq119
             ·rw [if_neg c39] at H
              exact absurd H zq119
            ·rw [if_neg c38] at H
             exact absurd H zq119
           ·rw [if_neg c37] at H
            have c37b0 : decide (x11_3 < ((rdOf ByteArray.empty t200 2).size : Int)) = false := decide_eq_false c37
            clear c37
            by_cases c47 : (x6_1.length : Int) > 0
            ·rw [if_pos c47] at H
             have c47b0 : decide (0 < (x6_1.length : Int)) = true := decide_eq_true c47
             have c47b1 : decide (0 < x6_1.length) = true := decide_eq_true zq94
             clear c47
             obtain ⟨ji48, hji48⟩ : ∃ j_ : Int, (wrap64 ((x6_1.length : Int) - 1)) = j_ := ⟨_, rfl⟩
             replace H : (if 0 ≤ (ji48) then (if (ji48) < (x6_1.length : Int) then (if 1 < (t200.length : Int) then (if ((Op.bytesLess (((rd_T88 x6_1 (ji48)).f1).toList) ((rdOf ByteArray.empty t200 1).toList)) = true) then ((hex_DecodeString.f (rdOf ByteArray.empty t200 2)).bind fun bt221 => (if 0 < (t200.length : Int) then (if x6_1.length < 2932031007402 then (impl_rows.l0 k3 t198 a1 (x6_1 ++ [(⟨rdOf ByteArray.empty t200 0, rdOf ByteArray.empty t200 1, strOfNums bt221.1⟩ : S88)])) else (none)) else (none))) else (some (([] : List (S88)), false))) else (none)) else (none)) else (none)) = some (r1, r2) := by first | (rw [hji48] at H; exact H) | (simp only [hji48] at H ⊢; exact H)
             have hji48w : (IntKind.i64.wrap ((x6_1.length : Int) - 1)) = ji48 := (i64_w _).trans hji48
             by_cases c49 : 0 ≤ (ji48)
             ·rw [if_pos c49] at H
              have c49b0 : decide (0 ≤ (ji48)) = true := decide_eq_true c49
              clear c49
              by_cases c50 : (ji48) < (x6_1.length : Int)
              ·rw [if_pos c50] at H
               have c50b0 : decide ((ji48) < (x6_1.length : Int)) = true := decide_eq_true c50
               clear c50
               by_cases c51 : 1 < (t200.length : Int)
               ·rw [if_pos c51] at H
                have c51b0 : decide (1 < (t200.length : Int)) = true := decide_eq_true c51
                have c51b1 : decide (1 < t200.length) = true := decide_eq_true zq94
                clear c51
                by_cases c52 : ((Op.bytesLess (((rd_T88 x6_1 (ji48)).f1).toList) ((rdOf ByteArray.empty t200 1).toList)) = true)
                ·rw [if_pos c52] at H
                 have c52b0 : (Op.bytesLess (((rd_T88 x6_1 (ji48)).f1).toList) ((rdOf ByteArray.empty t200 1).toList)) = true := c52
                 clear c52
                 replace H := Option.bind_eq_some_iff.mp H
                 obtain ⟨⟨t221, t222⟩, A530, H⟩ := H
                 try dsimp only at H
                 have A53 := AZ.mk A530
                 clear A530
                 by_cases c54 : 0 < (t200.length : Int)
                 ·rw [if_pos c54] at H
                  have c54b0 : decide (0 < (t200.length : Int)) = true := decide_eq_true c54
                  have c54b1 : decide (0 < t200.length) = true := decide_eq_true zq94
                  clear c54
                  by_cases c55 : x6_1.length < 2932031007402
                  ·rw [if_pos c55] at H
                   have LMc55 := AZ.mk c55
                   clear c55
                   obtain ⟨y227, hy227⟩ : ∃ y_ : List (S88), y_ = (x6_1 ++ [(⟨rdOf ByteArray.empty t200 0, rdOf ByteArray.empty t200 1, strOfNums t221⟩ : S88)]) := ⟨_, rfl⟩
                   replace H : (impl_rows.l0 k3 t198 a1 y227) = some (r1, r2) := by first | (rw [hy227]; with_reducible exact H) | (have H2_ := (Option.bind_some _ _).symm.trans H; rw [hy227]; with_reducible exact H2_) | (have H2_ := (Option.bind_some _ _).symm.trans H; with_reducible exact H2_) | with_reducible exact H | (rw [hy227]; exact H) | exact H
                   have Ny227 := AZ.mk hy227
                   clear hy227
                   have H' := AZ.mk H
                   clear H
                   obtain ⟨Ao56, co56, eo56⟩ := Kd.R_slice HO_10.out
                   subst eo56
                   have p215 : 0 ≤ (2 : Int) := zq94
                   have q215 : 2 < (t200.length : Int) := of_decide_eq_true zq1
                   obtain ⟨ad215, e215, hx215_0⟩ := Kd.at_string (Kd.R_reads' HO_10.out).2.2 2 p215 q215
                   cases e215
                   (try simp only [show (2 : Int).toNat = 2 from rfl, Nat.reduceMul, Nat.reduceEqDiff, Go.Addr.add, ↓reduceIte] at hx215_0)
                   have qi215 : (2 < t200.length) = True := eq_true zq94
                   (try rw [show ((2 : Int)).toNat = 2 from rfl] at hx215_0)
                   replace p215 := eq_true p215
                   replace q215 := eq_true q215
                   try go_wp2
                   have n0_ := AZ.mk (Kd.R_drew HO_6.out)
                   have n1_ := AZ.mk (Kd.R_drew HO_10.out)
                   have n2_ := AZ.mk (below_drew1 HB.out)
                   clear HO_6
                   clear HO_10
                   clear HB
                   have HO_6 := n0_
                   have HO_10 := n1_
                   have HB := n2_
                   clear n0_ n1_ n2_
                   obtain ⟨Ao58, co58, eo58⟩ := Kd.R_slice HO_6.out
                   (first | subst eo58 | (injection eo58 with f1_ f2_ f3_; have f4_ := f1_.symm; have f5_ := f3_.symm; clear f1_ f2_ f3_; subst f4_; subst f5_))
                   have p218 : 0 ≤ ((ji48) : Int) := of_decide_eq_true zq1
                   have q218 : (ji48) < (x6_1.length : Int) := of_decide_eq_true zq1
                   obtain ⟨ad218, e218, hx218_0, hx218_1, hx218_2⟩ := at_T88 (Kd.R_reads' HO_6.out).2.2 (ji48) p218 q218
                   cases e218
                   replace p218 := eq_true p218
                   replace q218 := eq_true q218
                   have p219 : 0 ≤ (1 : Int) := zq94
                   have q219 : 1 < (t200.length : Int) := of_decide_eq_true zq1
                   obtain ⟨ad219, e219, hx219_0⟩ := Kd.at_string (Kd.R_reads' HO_10.out).2.2 1 p219 q219
                   obtain rfl : ad215 = ad219 := (by injection e219)
                   (try simp only [show (1 : Int).toNat = 1 from rfl, Nat.reduceMul, Nat.reduceEqDiff, Go.Addr.add, ↓reduceIte] at hx219_0)
                   have qi219 : (1 < t200.length) = True := eq_true zq94
                   (try rw [show ((1 : Int)).toNat = 1 from rfl] at hx219_0)
                   replace p219 := eq_true p219
                   replace q219 := eq_true q219
                   refine start_ (n := 16) (S := fun w' => w'.cell? (ad218.add (((ji48)).toNat * 3)) = some (.string ((rd_T88 x6_1 (ji48)).f0)) ∧ w'.cell? ⟨(ad218.add (((ji48)).toNat * 3)).block, (ad218.add (((ji48)).toNat * 3)).off + 1, none⟩ = some (.string ((rd_T88 x6_1 (ji48)).f1)) ∧ w'.cell? ⟨(ad218.add (((ji48)).toNat * 3)).block, (ad218.add (((ji48)).toNat * 3)).off + 2, none⟩ = some (.string ((rd_T88 x6_1 (ji48)).f2)) ∧ w'.cell? ⟨ad215.block, ad215.off + 1, none⟩ = some (.string (rdOf ByteArray.empty t200 1))) (ds := []) #[false, false, false, false, false, false, false, false, false, false, false, false, false, false, false, false] zq17 rfl rfl ⟨hx218_0, hx218_1, hx218_2, hx219_0⟩ (fun hH => ?_); refine tbW impl_rows.tab15 impl_rows.bits15 (fun HT_ HW_ => ?_)
                   generalize wr.drew = w57 at HO_6 HO_10 HB hx218_0 hx218_1 hx218_2 hx219_0 hH ⊢
                   refine pure_ (i := 0) (N := some 81) (v := ?_) (a' := ?_) #[true, false, false, false, false, false, false, false, false, false, false, false, false, false, false, false] rfl rfl (any_of HT_.out zq17) (fun _ _ _ h => h) (Or.inl ⟨zq105, ?_⟩) ?_ ?_
                   rotate_left
                   ·intro w'
                    go_simp
                    with_reducible rfl
                   rotate_left
                   ·simp only [Act.put, List.setIfInBounds_toArray, List.set_cons_zero, List.set_cons_succ, i64_w, i32_w]
                    rfl
                   refine pure_ (i := 1) (N := some 82) (v := ?_) (a' := ?_) #[true, true, false, false, false, false, false, false, false, false, false, false, false, false, false, false] rfl rfl (any_of HT_.out zq17) (fun _ _ _ h => h) (Or.inl ⟨zq105, ?_⟩) ?_ ?_
                   rotate_left
                   ·intro w'
                    go_simp
                    with_reducible rfl
                   rotate_left
                   ·simp only [Act.put, List.setIfInBounds_toArray, List.set_cons_zero, List.set_cons_succ, i64_w, i32_w]
                    rfl
                   refine pure_ (i := 2) (N := some 83) (v := ?_) (a' := ?_) #[true, true, true, false, false, false, false, false, false, false, false, false, false, false, false, false] rfl rfl (any_of HT_.out zq17) (fun _ _ _ h => h) (Or.inl ⟨zq105, ?_⟩) ?_ ?_
                   rotate_left
                   ·intro w'
                    go_simp
                    with_reducible rfl
                   rotate_left
                   ·simp only [Act.put, List.setIfInBounds_toArray, List.set_cons_zero, List.set_cons_succ, i64_w, i32_w]
                    rfl
                   refine pure_ (i := 3) (N := some 84) (v := ?_) (a' := ?_) #[true, true, true, true, false, false, false, false, false, false, false, false, false, false, false, false] rfl rfl (any_of HT_.out zq17) (fun _ _ _ h => h) (Or.inl ⟨zq105, ?_⟩) ?_ ?_
                   rotate_left
                   ·intro w'
                    go_simp
                    with_reducible rfl
                   rotate_left
                   ·simp only [Act.put, List.setIfInBounds_toArray, List.set_cons_zero, List.set_cons_succ, i64_w, i32_w]
                    rfl
                   refine pure_ (i := 4) (N := some 85) (v := ?_) (a' := ?_) #[true, true, true, true, true, false, false, false, false, false, false, false, false, false, false, false] rfl rfl (any_of HT_.out zq17) (fun _ _ _ h => h) (Or.inl ⟨zq105, ?_⟩) ?_ ?_
                   rotate_left
                   ·intro w'
                    go_simp
                    with_reducible rfl
                   rotate_left
                   ·simp only [Act.put, List.setIfInBounds_toArray, List.set_cons_zero, List.set_cons_succ, i64_w, i32_w]
                    rfl
                   refine pure_ (i := 5) (N := some 86) (v := ?_) (a' := ?_) #[true, true, true, true, true, true, false, false, false, false, false, false, false, false, false, false] rfl rfl (any_of HT_.out zq17) (fun _ _ _ h => h) (Or.inl ⟨zq105, ?_⟩) ?_ ?_
                   rotate_left
                   ·intro w'
                    go_simp
                    with_reducible rfl
                   rotate_left
                   ·simp only [Act.put, List.setIfInBounds_toArray, List.set_cons_zero, List.set_cons_succ, i64_w, i32_w]
                    rfl
                   refine pure_ (i := 6) (N := some 87) (v := ?_) (a' := ?_) #[true, true, true, true, true, true, true, false, false, false, false, false, false, false, false, false] rfl rfl (any_of HT_.out zq17) (fun _ _ _ h => h) (Or.inl ⟨zq105, ?_⟩) ?_ ?_
                   rotate_left
                   ·intro w'
                    go_simp
                    with_reducible rfl
                   rotate_left
                   ·simp only [Act.put, List.setIfInBounds_toArray, List.set_cons_zero, List.set_cons_succ, i64_w, i32_w]
                    rfl
                   refine pure_ (i := 7) (N := some 88) (v := ?_) (a' := ?_) #[true, true, true, true, true, true, true, true, false, false, false, false, false, false, false, false] rfl rfl (any_of HT_.out zq17) (fun _ _ _ h => h) (Or.inl ⟨zq105, ?_⟩) ?_ ?_
                   rotate_left
                   ·intro w'
                    go_simp
                    with_reducible rfl
                   rotate_left
                   ·simp only [Act.put, List.setIfInBounds_toArray, List.set_cons_zero, List.set_cons_succ, i64_w, i32_w]
                    rfl
                   refine pure_ (i := 8) (N := some 89) (v := ?_) (a' := ?_) #[true, true, true, true, true, true, true, true, true, false, false, false, false, false, false, false] rfl rfl (any_of HT_.out zq17) (fun _ _ _ h => h) (Or.inl ⟨zq105, ?_⟩) ?_ ?_
                   rotate_left
                   ·intro w'
                    go_simp
                    with_reducible rfl
                   rotate_left
                   ·simp only [Act.put, List.setIfInBounds_toArray, List.set_cons_zero, List.set_cons_succ, i64_w, i32_w]
                    rfl
                   refine pure_ (i := 9) (N := some 90) (v := ?_) (a' := ?_) #[true, true, true, true, true, true, true, true, true, true, false, false, false, false, false, false] rfl rfl (any_of HT_.out zq17) (fun _ _ _ h => h) (Or.inl ⟨zq105, ?_⟩) ?_ ?_
                   rotate_left
                   ·intro w'
                    go_simp
                    with_reducible rfl
                   rotate_left
                   ·simp only [Act.put, List.setIfInBounds_toArray, List.set_cons_zero, List.set_cons_succ, i64_w, i32_w]
                    rfl
                   refine pure_ (i := 11) (N := some 92) (v := ?_) (a' := ?_) #[true, true, true, true, true, true, true, true, true, true, false, true, false, false, false, false] rfl rfl (any_of HT_.out zq17) (fun _ _ _ h => h) (Or.inl ⟨zq105, ?_⟩) ?_ ?_
                   rotate_left
                   ·intro w'
                    go_simp
                    with_reducible rfl
                   rotate_left
                   ·simp only [Act.put, List.setIfInBounds_toArray, List.set_cons_zero, List.set_cons_succ, i64_w, i32_w]
                    rfl
                   refine pure_ (i := 12) (N := some 93) (v := ?_) (a' := ?_) #[true, true, true, true, true, true, true, true, true, true, false, true, true, false, false, false] rfl rfl (any_of HT_.out zq17) (fun _ _ _ h => h) (Or.inl ⟨zq105, ?_⟩) ?_ ?_
                   rotate_left
                   ·intro w'
                    go_simp
                    with_reducible rfl
                   rotate_left
                   ·simp only [Act.put, List.setIfInBounds_toArray, List.set_cons_zero, List.set_cons_succ, i64_w, i32_w]
                    rfl
                   refine take_ (i := 10) (N := some 91) (v := ?_) (a' := ?_) #[true, true, true, true, true, true, true, true, true, true, true, true, true, false, false, false] rfl rfl (take_ofW HT_.out HW_.out zq17) (fun _ _ _ h => h) (Or.inl ⟨zq105, ?_⟩) hH ?_ ?_
                   rotate_left
                   ·rintro w' ⟨s0, s1, s2, s3⟩
                    go_simp
                    with_reducible rfl
                   rotate_left
                   ·simp only [Act.put, List.setIfInBounds_toArray, List.set_cons_zero, List.set_cons_succ, i64_w, i32_w]
                    rfl
                   refine take_ (i := 13) (N := some 94) (v := ?_) (a' := ?_) #[true, true, true, true, true, true, true, true, true, true, true, true, true, true, false, false] rfl rfl (take_ofW HT_.out HW_.out zq17) (fun _ _ _ h => h) (Or.inl ⟨zq105, ?_⟩) hH ?_ ?_
                   rotate_left
                   ·rintro w' ⟨s0, s1, s2, s3⟩
                    go_simp
                    with_reducible rfl
                   rotate_left
                   ·simp only [Act.put, List.setIfInBounds_toArray, List.set_cons_zero, List.set_cons_succ, i64_w, i32_w]
                    rfl
                   refine pure_ (i := 14) (N := some 95) (v := ?_) (a' := ?_) #[true, true, true, true, true, true, true, true, true, true, true, true, true, true, true, false] rfl rfl (any_of HT_.out zq17) (fun _ _ _ h => h) (Or.inl ⟨zq105, ?_⟩) ?_ ?_
                   rotate_left
                   ·intro w'
                    go_simp
                    with_reducible rfl
                   rotate_left
                   ·simp only [Act.put, List.setIfInBounds_toArray, List.set_cons_zero, List.set_cons_succ, i64_w, i32_w]
                    rfl
                   refine pure_ (i := 15) (N := some 96) (v := ?_) (a' := ?_) #[true, true, true, true, true, true, true, true, true, true, true, true, true, true, true, true] rfl rfl (any_of HT_.out zq17) (fun _ _ _ h => h) (Or.inl ⟨zq105, ?_⟩) ?_ ?_
                   rotate_left
                   ·intro w'
                    go_simp
                    with_reducible rfl
                   rotate_left
                   ·simp only [Act.put, List.setIfInBounds_toArray, List.set_cons_zero, List.set_cons_succ, i64_w, i32_w]
                    rfl
                   refine done_ (done_of HT_.out zq17) ?_
                   have p220 : 0 ≤ (2 : Int) := zq94
                   have q220 : 2 < (t200.length : Int) := of_decide_eq_true zq1
                   obtain ⟨ad220, e220, hx220_0⟩ := Kd.at_string (Kd.R_reads' HO_10.out).2.2 2 p220 q220
                   obtain rfl : ad215 = ad220 := (by injection e220)
                   (try simp only [show (2 : Int).toNat = 2 from rfl, Nat.reduceMul, Nat.reduceEqDiff, Go.Addr.add, ↓reduceIte] at hx220_0)
                   have qi220 : (2 < t200.length) = True := eq_true zq94
                   (try rw [show ((2 : Int)).toNat = 2 from rfl] at hx220_0)
                   replace p220 := eq_true p220
                   replace q220 := eq_true q220
                   try go_wp2_with (first | ((with_reducible refine gate_callee (f := 79) rfl ?_); refine goesL_ (some 101) rfl rfl Tryd.func79 zq17 rfl #[.string (rdOf ByteArray.empty t200 2)] rfl zq2 ?_; (with_reducible refine (hex_DecodeString.calls (rdOf ByteArray.empty t200 2) t221 t222 _ A53.out).mono ?_); rintro e w59 ⟨v223, rfl, ho0, hb⟩; refine ⟨_, rfl, ?_⟩; have n0_ := AZ.mk (Kd.R_below zq15 hb); have n1_ := AZ.mk (Kd.R_below zq72 hb); have n2_ := AZ.mk (Kd.R_lower ho0 (below_size zq0)); have n3_ := AZ.mk (below_step zq0 hb); clear HO_6; clear HO_10; clear HB; have HO_6 := n0_; have HO_10 := n1_; have HO224 := n2_; have HB := n3_; clear n0_ n1_ n2_ n3_; (try clear hb); (try clear hb2); (try clear hk); (try clear hi); (try clear ho0); (try simp only [errW_none, errW_some])))
                   have n0_ := AZ.mk (Kd.R_drew HO_6.out)
                   have n1_ := AZ.mk (Kd.R_drew HO_10.out)
                   have n2_ := AZ.mk (Kd.R_drew HO224.out)
                   have n3_ := AZ.mk (below_drew1 HB.out)
                   clear HO_6
                   clear HO_10
                   clear HO224
                   clear HB
                   have HO_6 := n0_
                   have HO_10 := n1_
                   have HO224 := n2_
                   have HB := n3_
                   clear n0_ n1_ n2_ n3_
                   have p225 : 0 ≤ (0 : Int) := zq94
                   have q225 : 0 < (t200.length : Int) := of_decide_eq_true zq1
                   obtain ⟨ad225, e225, hx225_0⟩ := Kd.at_string (Kd.R_reads' HO_10.out).2.2 0 p225 q225
                   obtain rfl : ad215 = ad225 := (by injection e225)
                   have qi225 : (0 < t200.length) = True := eq_true zq94
                   (try rw [show ((0 : Int)).toNat = 0 from rfl] at hx225_0)
                   (try rw [Addr.add_zero'] at hx225_0)
                   replace p225 := eq_true p225
                   replace q225 := eq_true q225
                   have p226 : 0 ≤ (1 : Int) := zq94
                   have q226 : 1 < (t200.length : Int) := of_decide_eq_true zq1
                   obtain ⟨ad226, e226, hx226_0⟩ := Kd.at_string (Kd.R_reads' HO_10.out).2.2 1 p226 q226
                   obtain rfl : ad215 = ad226 := (by injection e226)
                   (try simp only [show (1 : Int).toNat = 1 from rfl, Nat.reduceMul, Nat.reduceEqDiff, Go.Addr.add, ↓reduceIte] at hx226_0)
                   have qi226 : (1 < t200.length) = True := eq_true zq94
                   (try rw [show ((1 : Int)).toNat = 1 from rfl] at hx226_0)
                   replace p226 := eq_true p226
                   replace q226 := eq_true q226
                   have hcv61 := own_string (P := Tryd.prog) Tryd.underlying25 Tryd.underlying5 Tryd.underlying9 (Kd.own_of_R HO224.out)
                   refine start_ (n := 13) (S := fun w' => w'.cell? ad215 = some (.string (rdOf ByteArray.empty t200 0)) ∧ w'.cell? ⟨ad215.block, ad215.off + 1, none⟩ = some (.string (rdOf ByteArray.empty t200 1)) ∧ (convert 25 9 v223).run Tryd.prog w' = .ok (.string (strOfNums t221)) w') (ds := [10, 11]) #[false, false, false, false, false, false, false, false, false, false, false, false, false] zq17 rfl rfl ⟨hx225_0, hx226_0, hcv61⟩ (fun hH => ?_); refine tbW impl_rows.tab18 impl_rows.bits18 (fun HT_ HW_ => ?_)
                   generalize w59.drew = w60 at HO_6 HO_10 HO224 HB hx225_0 hx226_0 hH ⊢
                   refine pure_ (i := 0) (N := some 104) (v := ?_) (a' := ?_) #[true, false, false, false, false, false, false, false, false, false, false, false, false] rfl rfl (any_of HT_.out zq17) (fun _ _ _ h => h) (Or.inl ⟨zq105, ?_⟩) ?_ ?_
                   rotate_left
                   ·intro w'
                    go_simp
                    with_reducible rfl
                   rotate_left
                   ·simp only [Act.put, List.setIfInBounds_toArray, List.set_cons_zero, List.set_cons_succ, i64_w, i32_w]
                    rfl
                   refine pure_ (i := 1) (N := some 105) (v := ?_) (a' := ?_) #[true, true, false, false, false, false, false, false, false, false, false, false, false] rfl rfl (any_of HT_.out zq17) (fun _ _ _ h => h) (Or.inl ⟨zq105, ?_⟩) ?_ ?_
                   rotate_left
                   ·intro w'
                    go_simp
                    with_reducible rfl
                   rotate_left
                   ·simp only [Act.put, List.setIfInBounds_toArray, List.set_cons_zero, List.set_cons_succ, i64_w, i32_w]
                    rfl
                   refine pure_ (i := 2) (N := some 106) (v := ?_) (a' := ?_) #[true, true, true, false, false, false, false, false, false, false, false, false, false] rfl rfl (any_of HT_.out zq17) (fun _ _ _ h => h) (Or.inl ⟨zq105, ?_⟩) ?_ ?_
                   rotate_left
                   ·intro w'
                    go_simp
                    with_reducible rfl
                   rotate_left
                   ·simp only [Act.put, List.setIfInBounds_toArray, List.set_cons_zero, List.set_cons_succ, i64_w, i32_w]
                    rfl
                   refine pure_ (i := 4) (N := some 108) (v := ?_) (a' := ?_) #[true, true, true, false, true, false, false, false, false, false, false, false, false] rfl rfl (any_of HT_.out zq17) (fun _ _ _ h => h) (Or.inl ⟨zq105, ?_⟩) ?_ ?_
                   rotate_left
                   ·intro w'
                    go_simp
                    with_reducible rfl
                   rotate_left
                   ·simp only [Act.put, List.setIfInBounds_toArray, List.set_cons_zero, List.set_cons_succ, i64_w, i32_w]
                    rfl
                   refine pure_ (i := 5) (N := some 109) (v := ?_) (a' := ?_) #[true, true, true, false, true, true, false, false, false, false, false, false, false] rfl rfl (any_of HT_.out zq17) (fun _ _ _ h => h) (Or.inl ⟨zq105, ?_⟩) ?_ ?_
                   rotate_left
                   ·intro w'
                    go_simp
                    with_reducible rfl
                   rotate_left
                   ·simp only [Act.put, List.setIfInBounds_toArray, List.set_cons_zero, List.set_cons_succ, i64_w, i32_w]
                    rfl
                   refine pure_ (i := 7) (N := some 111) (v := ?_) (a' := ?_) #[true, true, true, false, true, true, false, true, false, false, false, false, false] rfl rfl (any_of HT_.out zq17) (fun _ _ _ h => h) (Or.inl ⟨zq105, ?_⟩) ?_ ?_
                   rotate_left
                   ·intro w'
                    go_simp
                    with_reducible rfl
                   rotate_left
                   ·simp only [Act.put, List.setIfInBounds_toArray, List.set_cons_zero, List.set_cons_succ, i64_w, i32_w]
                    rfl
                   refine take_ (i := 8) (N := some 112) (v := ?_) (a' := ?_) #[true, true, true, false, true, true, false, true, true, false, false, false, false] rfl rfl (take_ofW HT_.out HW_.out zq17) (fun _ _ _ h => h) (Or.inl ⟨zq105, ?_⟩) hH ?_ ?_
                   rotate_left
                   ·rintro w' ⟨s0, s1, s2⟩
                    go_simp
                    with_reducible rfl
                   rotate_left
                   ·simp only [Act.put, List.setIfInBounds_toArray, List.set_cons_zero, List.set_cons_succ, i64_w, i32_w]
                    rfl
                   refine take_ (i := 3) (N := some 107) (v := ?_) (a' := ?_) #[true, true, true, true, true, true, false, true, true, false, false, false, false] rfl rfl (take_ofW HT_.out HW_.out zq17) (fun _ _ _ h => h) (Or.inl ⟨zq105, ?_⟩) hH ?_ ?_
                   rotate_left
                   ·rintro w' ⟨s0, s1⟩
                    go_simp
                    with_reducible rfl
                   rotate_left
                   ·simp only [Act.put, List.setIfInBounds_toArray, List.set_cons_zero, List.set_cons_succ, i64_w, i32_w]
                    rfl
                   refine take_ (i := 6) (N := some 110) (v := ?_) (a' := ?_) #[true, true, true, true, true, true, true, true, true, false, false, false, false] rfl rfl (take_ofW HT_.out HW_.out zq17) (fun _ _ _ h => h) (Or.inl ⟨zq105, ?_⟩) hH ?_ ?_
                   rotate_left
                   ·rintro w' ⟨s0, s1⟩
                    go_simp
                    with_reducible rfl
                   rotate_left
                   ·simp only [Act.put, List.setIfInBounds_toArray, List.set_cons_zero, List.set_cons_succ, i64_w, i32_w]
                    rfl
                   refine pure_ (i := 9) (N := some 113) (v := ?_) (a' := ?_) #[true, true, true, true, true, true, true, true, true, true, false, false, false] rfl rfl (any_of HT_.out zq17) (fun _ _ _ h => h) (Or.inl ⟨zq105, ?_⟩) ?_ ?_
                   rotate_left
                   ·intro w'
                    go_simp
                    with_reducible rfl
                   rotate_left
                   ·simp only [Act.put, List.setIfInBounds_toArray, List.set_cons_zero, List.set_cons_succ, i64_w, i32_w]
                    rfl
                   refine last_ (i := 10) (N := some 114) #[true, true, true, true, true, true, true, true, true, true, true, false, false] rfl rfl (one_of HT_.out zq17) zq118 (fun K hK => ?_)
                   refine value_ (w1 := ?_) (v := ?_) zq105 rfl ?_ ?_
                   rotate_left 2
                   ·go_simp
                    constructor
                    ·rfl
                    ·rfl
                   refine hK.out _ _ ?_
                   clear hK K
                   refine norm_ (a' := ?_) ?_ ?_
                   rotate_left
                   ·show Act.put _ (some 114) _ = _
                    simp only [Act.put, List.setIfInBounds_toArray, List.set_cons_zero, List.set_cons_succ, i64_w, i32_w]
                    rfl
                   refine last_ (i := 11) (N := some 115) #[true, true, true, true, true, true, true, true, true, true, true, true, false] rfl rfl (one_of HT_.out zq17) zq118 (fun K hK => ?_)
                   refine Kd.R_append_step k88 (w0 := w) w.heap.size zq105 (.tmp 104) (.tmp 114) 83 88 (.agg #[(.string ⟨#[]⟩), (.string ⟨#[]⟩), (.string ⟨#[]⟩)]) 48 rfl Tryd.underlying83 info88 rfl zq118 zq94 (.slice (some ad218) x6_1.length co58) x6_1 (⟨rdOf ByteArray.empty t200 0, rdOf ByteArray.empty t200 1, strOfNums t221⟩ : S88) [.string (rdOf ByteArray.empty t200 0), .string (rdOf ByteArray.empty t200 1), .string (strOfNums t221)] (fun _ => True) (fun _ => False) rfl rfl ?aP (fun _ hk => hk.elim) ?aF ?aO ?aB ?aS ?aL ?_
                   (case aP => exact k88_mkM _ _ _ (⟨rdOf ByteArray.empty t200 0, rdOf ByteArray.empty t200 1, strOfNums t221⟩ : S88))
                   (case aB => exact zq0)
                   (case aF => exact (fun _ _ => trivial))
                   (case aO => exact zq15)
                   (case aS => exact (below_size zq0))
                   (case aL => have := LMc55.out; omega)
                   intro v228 w62 ho hb hg hat
                   rw [← Ny227.out] at ho
                   have n0_ := AZ.mk (Kd.R_over' zq72 (Kd.R_typed zq15) zq118 hg)
                   have n1_ := AZ.mk (Kd.R_over' (by (with_reducible repeat (first | apply Kd.R_alloc | apply Kd.R_drewN | apply Kd.R_drew)); exact HO224.out) (Kd.R_typed zq15) zq118 hg)
                   have n2_ := AZ.mk (hb)
                   have n3_ := AZ.mk (ho)
                   clear HO_10
                   clear HO224
                   clear HB
                   clear HO_6
                   have HO_10 := n0_
                   have HO224 := n1_
                   have HB := n2_
                   have HO229 := n3_
                   clear n0_ n1_ n2_ n3_
                   clear ho hb hg hat
                   refine hK.out _ _ ?_
                   clear hK K
                   refine norm_ (a' := ?_) ?_ ?_
                   rotate_left
                   ·show Act.put _ (some 115) _ = _
                    simp only [Act.put, List.setIfInBounds_toArray, List.set_cons_zero, List.set_cons_succ, i64_w, i32_w]
                    rfl
                   refine pure_ (i := 12) (N := some 6) (v := ?_) (a' := ?_) #[true, true, true, true, true, true, true, true, true, true, true, true, true] rfl rfl (any_of HT_.out zq17) (fun _ _ _ h => h) (Or.inl ⟨zq105, ?_⟩) ?_ ?_
                   rotate_left
                   ·intro w'
                    go_simp
                    with_reducible rfl
                   rotate_left
                   ·simp only [Act.put, List.setIfInBounds_toArray, List.set_cons_zero, List.set_cons_succ, i64_w, i32_w]
                    rfl
                   refine done_ (done_of HT_.out zq17) ?_
                   try go_wp2
                   go_roundg k3
                   case measure => have := HK1.out; have := HJ6.out; have := HK3.out; omega
                   case rel => exact ⟨(t198), (y227), zq8, H', ⟨zq143⟩, ⟨by (with_reducible repeat (first | apply Kd.R_alloc | apply Kd.R_drewN | apply Kd.R_drew)); exact HO229.out⟩, ⟨zq0⟩⟩
                  ·rw [if_neg c55] at H
                   exact absurd H zq119
                 ·rw [if_neg c54] at H
                  exact absurd H zq119
                ·rw [if_neg c52] at H
                 have c52b0 : (Op.bytesLess (((rd_T88 x6_1 (ji48)).f1).toList) ((rdOf ByteArray.empty t200 1).toList)) = false := by simpa using c52
                 clear c52
                 simp only [Option.some.injEq, Prod.mk.injEq] at H
                 obtain ⟨rfl, rfl⟩ := H
                 obtain ⟨Ao63, co63, eo63⟩ := Kd.R_slice HO_10.out
                 subst eo63
                 have p215 : 0 ≤ (2 : Int) := zq94
                 have q215 : 2 < (t200.length : Int) := of_decide_eq_true zq1
                 obtain ⟨ad215, e215, hx215_0⟩ := Kd.at_string (Kd.R_reads' HO_10.out).2.2 2 p215 q215
                 cases e215
                 (try simp only [show (2 : Int).toNat = 2 from rfl, Nat.reduceMul, Nat.reduceEqDiff, Go.Addr.add, ↓reduceIte] at hx215_0)
                 have qi215 : (2 < t200.length) = True := eq_true zq94
                 (try rw [show ((2 : Int)).toNat = 2 from rfl] at hx215_0)
                 replace p215 := eq_true p215
                 replace q215 := eq_true q215
                 try go_wp2
                 have n0_ := AZ.mk (Kd.R_drew HO_6.out)
                 have n1_ := AZ.mk (Kd.R_drew HO_10.out)
                 have n2_ := AZ.mk (below_drew1 HB.out)
                 clear HO_6
                 clear HO_10
                 clear HB
                 have HO_6 := n0_
                 have HO_10 := n1_
                 have HB := n2_
                 clear n0_ n1_ n2_
                 obtain ⟨Ao65, co65, eo65⟩ := Kd.R_slice HO_6.out
                 (first | subst eo65 | (injection eo65 with f1_ f2_ f3_; have f4_ := f1_.symm; have f5_ := f3_.symm; clear f1_ f2_ f3_; subst f4_; subst f5_))
                 have p218 : 0 ≤ ((ji48) : Int) := of_decide_eq_true zq1
                 have q218 : (ji48) < (x6_1.length : Int) := of_decide_eq_true zq1
                 obtain ⟨ad218, e218, hx218_0, hx218_1, hx218_2⟩ := at_T88 (Kd.R_reads' HO_6.out).2.2 (ji48) p218 q218
                 cases e218
                 replace p218 := eq_true p218
                 replace q218 := eq_true q218
                 have p219 : 0 ≤ (1 : Int) := zq94
                 have q219 : 1 < (t200.length : Int) := of_decide_eq_true zq1
                 obtain ⟨ad219, e219, hx219_0⟩ := Kd.at_string (Kd.R_reads' HO_10.out).2.2 1 p219 q219
                 obtain rfl : ad215 = ad219 := (by injection e219)
                 (try simp only [show (1 : Int).toNat = 1 from rfl, Nat.reduceMul, Nat.reduceEqDiff, Go.Addr.add, ↓reduceIte] at hx219_0)
                 have qi219 : (1 < t200.length) = True := eq_true zq94
                 (try rw [show ((1 : Int)).toNat = 1 from rfl] at hx219_0)
                 replace p219 := eq_true p219
                 replace q219 := eq_true q219
                 refine start_ (n := 16) (S := fun w' => w'.cell? (ad218.add (((ji48)).toNat * 3)) = some (.string ((rd_T88 x6_1 (ji48)).f0)) ∧ w'.cell? ⟨(ad218.add (((ji48)).toNat * 3)).block, (ad218.add (((ji48)).toNat * 3)).off + 1, none⟩ = some (.string ((rd_T88 x6_1 (ji48)).f1)) ∧ w'.cell? ⟨(ad218.add (((ji48)).toNat * 3)).block, (ad218.add (((ji48)).toNat * 3)).off + 2, none⟩ = some (.string ((rd_T88 x6_1 (ji48)).f2)) ∧ w'.cell? ⟨ad215.block, ad215.off + 1, none⟩ = some (.string (rdOf ByteArray.empty t200 1))) (ds := []) #[false, false, false, false, false, false, false, false, false, false, false, false, false, false, false, false] zq17 rfl rfl ⟨hx218_0, hx218_1, hx218_2, hx219_0⟩ (fun hH => ?_); refine tbW impl_rows.tab15 impl_rows.bits15 (fun HT_ HW_ => ?_)
                 generalize wr.drew = w64 at HO_6 HO_10 HB hx218_0 hx218_1 hx218_2 hx219_0 hH ⊢
                 refine pure_ (i := 0) (N := some 81) (v := ?_) (a' := ?_) #[true, false, false, false, false, false, false, false, false, false, false, false, false, false, false, false] rfl rfl (any_of HT_.out zq17) (fun _ _ _ h => h) (Or.inl ⟨zq105, ?_⟩) ?_ ?_
                 rotate_left
                 ·intro w'
                  go_simp
                  with_reducible rfl
                 rotate_left
                 ·simp only [Act.put, List.setIfInBounds_toArray, List.set_cons_zero, List.set_cons_succ, i64_w, i32_w]
                  rfl
                 refine pure_ (i := 1) (N := some 82) (v := ?_) (a' := ?_) #[true, true, false, false, false, false, false, false, false, false, false, false, false, false, false, false] rfl rfl (any_of HT_.out zq17) (fun _ _ _ h => h) (Or.inl ⟨zq105, ?_⟩) ?_ ?_
                 rotate_left
                 ·intro w'
                  go_simp
                  with_reducible rfl
                 rotate_left
                 ·simp only [Act.put, List.setIfInBounds_toArray, List.set_cons_zero, List.set_cons_succ, i64_w, i32_w]
                  rfl
                 refine pure_ (i := 2) (N := some 83) (v := ?_) (a' := ?_) #[true, true, true, false, false, false, false, false, false, false, false, false, false, false, false, false] rfl rfl (any_of HT_.out zq17) (fun _ _ _ h => h) (Or.inl ⟨zq105, ?_⟩) ?_ ?_
                 rotate_left
                 ·intro w'
                  go_simp
                  with_reducible rfl
                 rotate_left
                 ·simp only [Act.put, List.setIfInBounds_toArray, List.set_cons_zero, List.set_cons_succ, i64_w, i32_w]
                  rfl
                 refine pure_ (i := 3) (N := some 84) (v := ?_) (a' := ?_) #[true, true, true, true, false, false, false, false, false, false, false, false, false, false, false, false] rfl rfl (any_of HT_.out zq17) (fun _ _ _ h => h) (Or.inl ⟨zq105, ?_⟩) ?_ ?_
                 rotate_left
                 ·intro w'
                  go_simp
                  with_reducible rfl
                 rotate_left
                 ·simp only [Act.put, List.setIfInBounds_toArray, List.set_cons_zero, List.set_cons_succ, i64_w, i32_w]
                  rfl
                 refine pure_ (i := 4) (N := some 85) (v := ?_) (a' := ?_) #[true, true, true, true, true, false, false, false, false, false, false, false, false, false, false, false] rfl rfl (any_of HT_.out zq17) (fun _ _ _ h => h) (Or.inl ⟨zq105, ?_⟩) ?_ ?_
                 rotate_left
                 ·intro w'
                  go_simp
                  with_reducible rfl
                 rotate_left
                 ·simp only [Act.put, List.setIfInBounds_toArray, List.set_cons_zero, List.set_cons_succ, i64_w, i32_w]
                  rfl
                 refine pure_ (i := 5) (N := some 86) (v := ?_) (a' := ?_) #[true, true, true, true, true, true, false, false, false, false, false, false, false, false, false, false] rfl rfl (any_of HT_.out zq17) (fun _ _ _ h => h) (Or.inl ⟨zq105, ?_⟩) ?_ ?_
                 rotate_left
                 ·intro w'
                  go_simp
                  with_reducible rfl
                 rotate_left
                 ·simp only [Act.put, List.setIfInBounds_toArray, List.set_cons_zero, List.set_cons_succ, i64_w, i32_w]
                  rfl
                 refine pure_ (i := 6) (N := some 87) (v := ?_) (a' := ?_) #[true, true, true, true, true, true, true, false, false, false, false, false, false, false, false, false] rfl rfl (any_of HT_.out zq17) (fun _ _ _ h => h) (Or.inl ⟨zq105, ?_⟩) ?_ ?_
                 rotate_left
                 ·intro w'
                  go_simp
                  with_reducible rfl
                 rotate_left
                 ·simp only [Act.put, List.setIfInBounds_toArray, List.set_cons_zero, List.set_cons_succ, i64_w, i32_w]
                  rfl
                 refine pure_ (i := 7) (N := some 88) (v := ?_) (a' := ?_) #[true, true, true, true, true, true, true, true, false, false, false, false, false, false, false, false] rfl rfl (any_of HT_.out zq17) (fun _ _ _ h => h) (Or.inl ⟨zq105, ?_⟩) ?_ ?_
                 rotate_left
                 ·intro w'
                  go_simp
                  with_reducible rfl
                 rotate_left
                 ·simp only [Act.put, List.setIfInBounds_toArray, List.set_cons_zero, List.set_cons_succ, i64_w, i32_w]
                  rfl
                 refine pure_ (i := 8) (N := some 89) (v := ?_) (a' := ?_) #[true, true, true, true, true, true, true, true, true, false, false, false, false, false, false, false] rfl rfl (any_of HT_.out zq17) (fun _ _ _ h => h) (Or.inl ⟨zq105, ?_⟩) ?_ ?_
                 rotate_left
                 ·intro w'
                  go_simp
                  with_reducible rfl
                 rotate_left
                 ·simp only [Act.put, List.setIfInBounds_toArray, List.set_cons_zero, List.set_cons_succ, i64_w, i32_w]
                  rfl
                 refine pure_ (i := 9) (N := some 90) (v := ?_) (a' := ?_) #[true, true, true, true, true, true, true, true, true, true, false, false, false, false, false, false] rfl rfl (any_of HT_.out zq17) (fun _ _ _ h => h) (Or.inl ⟨zq105, ?_⟩) ?_ ?_
                 rotate_left
                 ·intro w'
                  go_simp
                  with_reducible rfl
                 rotate_left
                 ·simp only [Act.put, List.setIfInBounds_toArray, List.set_cons_zero, List.set_cons_succ, i64_w, i32_w]
                  rfl
                 refine pure_ (i := 11) (N := some 92) (v := ?_) (a' := ?_) #[true, true, true, true, true, true, true, true, true, true, false, true, false, false, false, false] rfl rfl (any_of HT_.out zq17) (fun _ _ _ h => h) (Or.inl ⟨zq105, ?_⟩) ?_ ?_
                 rotate_left
                 ·intro w'
                  go_simp
                  with_reducible rfl
                 rotate_left
                 ·simp only [Act.put, List.setIfInBounds_toArray, List.set_cons_zero, List.set_cons_succ, i64_w, i32_w]
                  rfl
                 refine pure_ (i := 12) (N := some 93) (v := ?_) (a' := ?_) #[true, true, true, true, true, true, true, true, true, true, false, true, true, false, false, false] rfl rfl (any_of HT_.out zq17) (fun _ _ _ h => h) (Or.inl ⟨zq105, ?_⟩) ?_ ?_
                 rotate_left
                 ·intro w'
                  go_simp
                  with_reducible rfl
                 rotate_left
                 ·simp only [Act.put, List.setIfInBounds_toArray, List.set_cons_zero, List.set_cons_succ, i64_w, i32_w]
                  rfl
                 refine take_ (i := 10) (N := some 91) (v := ?_) (a' := ?_) #[true, true, true, true, true, true, true, true, true, true, true, true, true, false, false, false] rfl rfl (take_ofW HT_.out HW_.out zq17) (fun _ _ _ h => h) (Or.inl ⟨zq105, ?_⟩) hH ?_ ?_
                 rotate_left
                 ·rintro w' ⟨s0, s1, s2, s3⟩
                  go_simp
                  with_reducible rfl
                 rotate_left
                 ·simp only [Act.put, List.setIfInBounds_toArray, List.set_cons_zero, List.set_cons_succ, i64_w, i32_w]
                  rfl
                 refine take_ (i := 13) (N := some 94) (v := ?_) (a' := ?_) #[true, true, true, true, true, true, true, true, true, true, true, true, true, true, false, false] rfl rfl (take_ofW HT_.out HW_.out zq17) (fun _ _ _ h => h) (Or.inl ⟨zq105, ?_⟩) hH ?_ ?_
                 rotate_left
                 ·rintro w' ⟨s0, s1, s2, s3⟩
                  go_simp
                  with_reducible rfl
                 rotate_left
                 ·simp only [Act.put, List.setIfInBounds_toArray, List.set_cons_zero, List.set_cons_succ, i64_w, i32_w]
                  rfl
                 refine pure_ (i := 14) (N := some 95) (v := ?_) (a' := ?_) #[true, true, true, true, true, true, true, true, true, true, true, true, true, true, true, false] rfl rfl (any_of HT_.out zq17) (fun _ _ _ h => h) (Or.inl ⟨zq105, ?_⟩) ?_ ?_
                 rotate_left
                 ·intro w'
                  go_simp
                  with_reducible rfl
                 rotate_left
                 ·simp only [Act.put, List.setIfInBounds_toArray, List.set_cons_zero, List.set_cons_succ, i64_w, i32_w]
                  rfl
                 refine pure_ (i := 15) (N := some 96) (v := ?_) (a' := ?_) #[true, true, true, true, true, true, true, true, true, true, true, true, true, true, true, true] rfl rfl (any_of HT_.out zq17) (fun _ _ _ h => h) (Or.inl ⟨zq105, ?_⟩) ?_ ?_
                 rotate_left
                 ·intro w'
                  go_simp
                  with_reducible rfl
                 rotate_left
                 ·simp only [Act.put, List.setIfInBounds_toArray, List.set_cons_zero, List.set_cons_succ, i64_w, i32_w]
                  rfl
                 refine done_ (done_of HT_.out zq17) ?_
                 try go_wp2
                 go_ret2
                 exact ⟨_, by first | rfl | (simp [errW_none, errW_some] <;> rfl) | (simp only [← hji48]; first | rfl | (simp [errW_none, errW_some] <;> rfl)) | (simp [*, errW_none, errW_some] <;> rfl), zq83, zq0⟩
               ·rw [if_neg c51] at H
                exact absurd H zq119
              ·rw [if_neg c50] at H
               exact absurd H zq119
             ·rw [if_neg c49] at H
              exact absurd H zq119
            ·rw [if_neg c47] at H
             have c47b0 : decide (0 < (x6_1.length : Int)) = false := decide_eq_false c47
             have c47b1 : decide (0 < x6_1.length) = false := decide_eq_false zq94
             clear c47
             replace H := Option.bind_eq_some_iff.mp H
             obtain ⟨⟨t231, t232⟩, A660, H⟩ := H
             try dsimp only at H
             have A66 := AZ.mk A660
             clear A660
             by_cases c67 : 0 < (t200.length : Int)
             ·rw [if_pos c67] at H
              have c67b0 : decide (0 < (t200.length : Int)) = true := decide_eq_true c67
              have c67b1 : decide (0 < t200.length) = true := decide_eq_true zq94
              clear c67
              by_cases c68 : 1 < (t200.length : Int)
              ·rw [if_pos c68] at H
               have c68b0 : decide (1 < (t200.length : Int)) = true := decide_eq_true c68
               have c68b1 : decide (1 < t200.length) = true := decide_eq_true zq94
               clear c68
               by_cases c69 : x6_1.length < 2932031007402
               ·rw [if_pos c69] at H
                have LMc69 := AZ.mk c69
                clear c69
                obtain ⟨y237, hy237⟩ : ∃ y_ : List (S88), y_ = (x6_1 ++ [(⟨rdOf ByteArray.empty t200 0, rdOf ByteArray.empty t200 1, strOfNums t231⟩ : S88)]) := ⟨_, rfl⟩
                replace H : (impl_rows.l0 k3 t198 a1 y237) = some (r1, r2) := by first | (rw [hy237]; with_reducible exact H) | (have H2_ := (Option.bind_some _ _).symm.trans H; rw [hy237]; with_reducible exact H2_) | (have H2_ := (Option.bind_some _ _).symm.trans H; with_reducible exact H2_) | with_reducible exact H | (rw [hy237]; exact H) | exact H
                have Ny237 := AZ.mk hy237
                clear hy237
                have H' := AZ.mk H
                clear H
                obtain ⟨Ao70, co70, eo70⟩ := Kd.R_slice HO_10.out
                subst eo70
                have p215 : 0 ≤ (2 : Int) := zq94
                have q215 : 2 < (t200.length : Int) := of_decide_eq_true zq1
                obtain ⟨ad215, e215, hx215_0⟩ := Kd.at_string (Kd.R_reads' HO_10.out).2.2 2 p215 q215
                cases e215
                (try simp only [show (2 : Int).toNat = 2 from rfl, Nat.reduceMul, Nat.reduceEqDiff, Go.Addr.add, ↓reduceIte] at hx215_0)
                have qi215 : (2 < t200.length) = True := eq_true zq94
                (try rw [show ((2 : Int)).toNat = 2 from rfl] at hx215_0)
                replace p215 := eq_true p215
                replace q215 := eq_true q215
                try go_wp2
                have n0_ := AZ.mk (Kd.R_drew HO_6.out)
                have n1_ := AZ.mk (Kd.R_drew HO_10.out)
                have n2_ := AZ.mk (below_drew1 HB.out)
                clear HO_6
                clear HO_10
                clear HB
                have HO_6 := n0_
                have HO_10 := n1_
                have HB := n2_
                clear n0_ n1_ n2_
                obtain ⟨Ao72, co72, eo72⟩ := Kd.R_slice HO_6.out
                (first | subst eo72 | (injection eo72 with f1_ f2_ f3_; have f4_ := f1_.symm; have f5_ := f3_.symm; clear f1_ f2_ f3_; subst f4_; subst f5_))
                refine start_ (n := 16) (S := fun w' => True) (ds := []) #[false, false, false, false, false, false, false, false, false, false, false, false, false, false, false, false] zq17 rfl rfl trivial (fun hH => ?_); refine tbW impl_rows.tab15 impl_rows.bits15 (fun HT_ HW_ => ?_)
                generalize wr.drew = w71 at HO_6 HO_10 HB hH ⊢
                refine pure_ (i := 0) (N := some 81) (v := ?_) (a' := ?_) #[true, false, false, false, false, false, false, false, false, false, false, false, false, false, false, false] rfl rfl (any_of HT_.out zq17) (fun _ _ _ h => h) (Or.inl ⟨zq105, ?_⟩) ?_ ?_
                rotate_left
                ·intro w'
                 go_simp
                 with_reducible rfl
                rotate_left
                ·simp only [Act.put, List.setIfInBounds_toArray, List.set_cons_zero, List.set_cons_succ, i64_w, i32_w]
                 rfl
                refine pure_ (i := 1) (N := some 82) (v := ?_) (a' := ?_) #[true, true, false, false, false, false, false, false, false, false, false, false, false, false, false, false] rfl rfl (any_of HT_.out zq17) (fun _ _ _ h => h) (Or.inl ⟨zq105, ?_⟩) ?_ ?_
                rotate_left
                ·intro w'
                 go_simp
                 with_reducible rfl
                rotate_left
                ·simp only [Act.put, List.setIfInBounds_toArray, List.set_cons_zero, List.set_cons_succ, i64_w, i32_w]
                 rfl
                refine pure_ (i := 2) (N := some 83) (v := ?_) (a' := ?_) #[true, true, true, false, false, false, false, false, false, false, false, false, false, false, false, false] rfl rfl (any_of HT_.out zq17) (fun _ _ _ h => h) (Or.inl ⟨zq105, ?_⟩) ?_ ?_
                rotate_left
                ·intro w'
                 go_simp
                 with_reducible rfl
                rotate_left
                ·simp only [Act.put, List.setIfInBounds_toArray, List.set_cons_zero, List.set_cons_succ, i64_w, i32_w]
                 rfl
                refine pure_ (i := 3) (N := some 84) (v := ?_) (a' := ?_) #[true, true, true, true, false, false, false, false, false, false, false, false, false, false, false, false] rfl rfl (any_of HT_.out zq17) (fun _ _ _ h => h) (Or.inl ⟨zq105, ?_⟩) ?_ ?_
                rotate_left
                ·intro w'
                 go_simp
                 with_reducible rfl
                rotate_left
                ·simp only [Act.put, List.setIfInBounds_toArray, List.set_cons_zero, List.set_cons_succ, i64_w, i32_w]
                 rfl
                refine pure_ (i := 4) (N := some 85) (v := undef) (a' := ?_) #[true, true, true, true, true, false, false, false, false, false, false, false, false, false, false, false] rfl rfl (any_of HT_.out zq17) (fun _ _ _ h => h) (Or.inr ⟨zq105, rfl⟩) ?_ ?_
                rotate_left
                ·simp only [Act.put, List.setIfInBounds_toArray, List.set_cons_zero, List.set_cons_succ, i64_w, i32_w]
                 rfl
                refine pure_ (i := 5) (N := some 86) (v := undef) (a' := ?_) #[true, true, true, true, true, true, false, false, false, false, false, false, false, false, false, false] rfl rfl (any_of HT_.out zq17) (fun _ _ _ h => h) (Or.inr ⟨zq105, rfl⟩) ?_ ?_
                rotate_left
                ·simp only [Act.put, List.setIfInBounds_toArray, List.set_cons_zero, List.set_cons_succ, i64_w, i32_w]
                 rfl
                refine pure_ (i := 6) (N := some 87) (v := undef) (a' := ?_) #[true, true, true, true, true, true, true, false, false, false, false, false, false, false, false, false] rfl rfl (any_of HT_.out zq17) (fun _ _ _ h => h) (Or.inr ⟨zq105, rfl⟩) ?_ ?_
                rotate_left
                ·simp only [Act.put, List.setIfInBounds_toArray, List.set_cons_zero, List.set_cons_succ, i64_w, i32_w]
                 rfl
                refine pure_ (i := 7) (N := some 88) (v := undef) (a' := ?_) #[true, true, true, true, true, true, true, true, false, false, false, false, false, false, false, false] rfl rfl (any_of HT_.out zq17) (fun _ _ _ h => h) (Or.inr ⟨zq105, rfl⟩) ?_ ?_
                rotate_left
                ·simp only [Act.put, List.setIfInBounds_toArray, List.set_cons_zero, List.set_cons_succ, i64_w, i32_w]
                 rfl
                refine pure_ (i := 8) (N := some 89) (v := undef) (a' := ?_) #[true, true, true, true, true, true, true, true, true, false, false, false, false, false, false, false] rfl rfl (any_of HT_.out zq17) (fun _ _ _ h => h) (Or.inr ⟨zq105, rfl⟩) ?_ ?_
                rotate_left
                ·simp only [Act.put, List.setIfInBounds_toArray, List.set_cons_zero, List.set_cons_succ, i64_w, i32_w]
                 rfl
                refine pure_ (i := 9) (N := some 90) (v := undef) (a' := ?_) #[true, true, true, true, true, true, true, true, true, true, false, false, false, false, false, false] rfl rfl (any_of HT_.out zq17) (fun _ _ _ h => h) (Or.inr ⟨zq105, rfl⟩) ?_ ?_
                rotate_left
                ·simp only [Act.put, List.setIfInBounds_toArray, List.set_cons_zero, List.set_cons_succ, i64_w, i32_w]
                 rfl
                refine pure_ (i := 10) (N := some 91) (v := undef) (a' := ?_) #[true, true, true, true, true, true, true, true, true, true, true, false, false, false, false, false] rfl rfl (any_of HT_.out zq17) (fun _ _ _ h => h) (Or.inr ⟨zq105, rfl⟩) ?_ ?_
                rotate_left
                ·simp only [Act.put, List.setIfInBounds_toArray, List.set_cons_zero, List.set_cons_succ, i64_w, i32_w]
                 rfl
                refine pure_ (i := 11) (N := some 92) (v := undef) (a' := ?_) #[true, true, true, true, true, true, true, true, true, true, true, true, false, false, false, false] rfl rfl (any_of HT_.out zq17) (fun _ _ _ h => h) (Or.inr ⟨zq105, rfl⟩) ?_ ?_
                rotate_left
                ·simp only [Act.put, List.setIfInBounds_toArray, List.set_cons_zero, List.set_cons_succ, i64_w, i32_w]
                 rfl
                refine pure_ (i := 12) (N := some 93) (v := undef) (a' := ?_) #[true, true, true, true, true, true, true, true, true, true, true, true, true, false, false, false] rfl rfl (any_of HT_.out zq17) (fun _ _ _ h => h) (Or.inr ⟨zq105, rfl⟩) ?_ ?_
                rotate_left
                ·simp only [Act.put, List.setIfInBounds_toArray, List.set_cons_zero, List.set_cons_succ, i64_w, i32_w]
                 rfl
                refine pure_ (i := 13) (N := some 94) (v := undef) (a' := ?_) #[true, true, true, true, true, true, true, true, true, true, true, true, true, true, false, false] rfl rfl (any_of HT_.out zq17) (fun _ _ _ h => h) (Or.inr ⟨zq105, rfl⟩) ?_ ?_
                rotate_left
                ·simp only [Act.put, List.setIfInBounds_toArray, List.set_cons_zero, List.set_cons_succ, i64_w, i32_w]
                 rfl
                refine pure_ (i := 14) (N := some 95) (v := undef) (a' := ?_) #[true, true, true, true, true, true, true, true, true, true, true, true, true, true, true, false] rfl rfl (any_of HT_.out zq17) (fun _ _ _ h => h) (Or.inr ⟨zq105, rfl⟩) ?_ ?_
                rotate_left
                ·simp only [Act.put, List.setIfInBounds_toArray, List.set_cons_zero, List.set_cons_succ, i64_w, i32_w]
                 rfl
                refine pure_ (i := 15) (N := some 96) (v := ?_) (a' := ?_) #[true, true, true, true, true, true, true, true, true, true, true, true, true, true, true, true] rfl rfl (any_of HT_.out zq17) (fun _ _ _ h => h) (Or.inl ⟨zq105, ?_⟩) ?_ ?_
                rotate_left
                ·intro w'
                 go_simp
                 with_reducible rfl
                rotate_left
                ·simp only [Act.put, List.setIfInBounds_toArray, List.set_cons_zero, List.set_cons_succ, i64_w, i32_w]
                 rfl
                refine done_ (done_of HT_.out zq17) ?_
                have p230 : 0 ≤ (2 : Int) := zq94
                have q230 : 2 < (t200.length : Int) := of_decide_eq_true zq1
                obtain ⟨ad230, e230, hx230_0⟩ := Kd.at_string (Kd.R_reads' HO_10.out).2.2 2 p230 q230
                obtain rfl : ad215 = ad230 := (by injection e230)
                (try simp only [show (2 : Int).toNat = 2 from rfl, Nat.reduceMul, Nat.reduceEqDiff, Go.Addr.add, ↓reduceIte] at hx230_0)
                have qi230 : (2 < t200.length) = True := eq_true zq94
                (try rw [show ((2 : Int)).toNat = 2 from rfl] at hx230_0)
                replace p230 := eq_true p230
                replace q230 := eq_true q230
                try go_wp2_with (first | ((with_reducible refine gate_callee (f := 79) rfl ?_); refine goesL_ (some 101) rfl rfl Tryd.func79 zq17 rfl #[.string (rdOf ByteArray.empty t200 2)] rfl zq2 ?_; (with_reducible refine (hex_DecodeString.calls (rdOf ByteArray.empty t200 2) t231 t232 _ A66.out).mono ?_); rintro e w73 ⟨v233, rfl, ho0, hb⟩; refine ⟨_, rfl, ?_⟩; have n0_ := AZ.mk (Kd.R_below zq15 hb); have n1_ := AZ.mk (Kd.R_below zq72 hb); have n2_ := AZ.mk (Kd.R_lower ho0 (below_size zq0)); have n3_ := AZ.mk (below_step zq0 hb); clear HO_6; clear HO_10; clear HB; have HO_6 := n0_; have HO_10 := n1_; have HO234 := n2_; have HB := n3_; clear n0_ n1_ n2_ n3_; (try clear hb); (try clear hb2); (try clear hk); (try clear hi); (try clear ho0); (try simp only [errW_none, errW_some])))
                have n0_ := AZ.mk (Kd.R_drew HO_6.out)
                have n1_ := AZ.mk (Kd.R_drew HO_10.out)
                have n2_ := AZ.mk (Kd.R_drew HO234.out)
                have n3_ := AZ.mk (below_drew1 HB.out)
                clear HO_6
                clear HO_10
                clear HO234
                clear HB
                have HO_6 := n0_
                have HO_10 := n1_
                have HO234 := n2_
                have HB := n3_
                clear n0_ n1_ n2_ n3_
                have p235 : 0 ≤ (0 : Int) := zq94
                have q235 : 0 < (t200.length : Int) := of_decide_eq_true zq1
                obtain ⟨ad235, e235, hx235_0⟩ := Kd.at_string (Kd.R_reads' HO_10.out).2.2 0 p235 q235
                obtain rfl : ad215 = ad235 := (by injection e235)
                have qi235 : (0 < t200.length) = True := eq_true zq94
                (try rw [show ((0 : Int)).toNat = 0 from rfl] at hx235_0)
                (try rw [Addr.add_zero'] at hx235_0)
                replace p235 := eq_true p235
                replace q235 := eq_true q235
                have p236 : 0 ≤ (1 : Int) := zq94
                have q236 : 1 < (t200.length : Int) := of_decide_eq_true zq1
                obtain ⟨ad236, e236, hx236_0⟩ := Kd.at_string (Kd.R_reads' HO_10.out).2.2 1 p236 q236
                obtain rfl : ad215 = ad236 := (by injection e236)
                (try simp only [show (1 : Int).toNat = 1 from rfl, Nat.reduceMul, Nat.reduceEqDiff, Go.Addr.add, ↓reduceIte] at hx236_0)
                have qi236 : (1 < t200.length) = True := eq_true zq94
                (try rw [show ((1 : Int)).toNat = 1 from rfl] at hx236_0)
                replace p236 := eq_true p236
                replace q236 := eq_true q236
                have hcv75 := own_string (P := Tryd.prog) Tryd.underlying25 Tryd.underlying5 Tryd.underlying9 (Kd.own_of_R HO234.out)
                refine start_ (n := 13) (S := fun w' => w'.cell? ad215 = some (.string (rdOf ByteArray.empty t200 0)) ∧ w'.cell? ⟨ad215.block, ad215.off + 1, none⟩ = some (.string (rdOf ByteArray.empty t200 1)) ∧ (convert 25 9 v233).run Tryd.prog w' = .ok (.string (strOfNums t231)) w') (ds := [10, 11]) #[false, false, false, false, false, false, false, false, false, false, false, false, false] zq17 rfl rfl ⟨hx235_0, hx236_0, hcv75⟩ (fun hH => ?_); refine tbW impl_rows.tab18 impl_rows.bits18 (fun HT_ HW_ => ?_)
                generalize w73.drew = w74 at HO_6 HO_10 HO234 HB hx235_0 hx236_0 hH ⊢
                refine pure_ (i := 0) (N := some 104) (v := ?_) (a' := ?_) #[true, false, false, false, false, false, false, false, false, false, false, false, false] rfl rfl (any_of HT_.out zq17) (fun _ _ _ h => h) (Or.inl ⟨zq105, ?_⟩) ?_ ?_
                rotate_left
                ·intro w'
                 go_simp
                 with_reducible rfl
                rotate_left
                ·simp only [Act.put, List.setIfInBounds_toArray, List.set_cons_zero, List.set_cons_succ, i64_w, i32_w]
                 rfl
                refine pure_ (i := 1) (N := some 105) (v := ?_) (a' := ?_) #[true, true, false, false, false, false, false, false, false, false, false, false, false] rfl rfl (any_of HT_.out zq17) (fun _ _ _ h => h) (Or.inl ⟨zq105, ?_⟩) ?_ ?_
                rotate_left
                ·intro w'
                 go_simp
                 with_reducible rfl
                rotate_left
                ·simp only [Act.put, List.setIfInBounds_toArray, List.set_cons_zero, List.set_cons_succ, i64_w, i32_w]
                 rfl
                refine pure_ (i := 2) (N := some 106) (v := ?_) (a' := ?_) #[true, true, true, false, false, false, false, false, false, false, false, false, false] rfl rfl (any_of HT_.out zq17) (fun _ _ _ h => h) (Or.inl ⟨zq105, ?_⟩) ?_ ?_
                rotate_left
                ·intro w'
                 go_simp
                 with_reducible rfl
                rotate_left
                ·simp only [Act.put, List.setIfInBounds_toArray, List.set_cons_zero, List.set_cons_succ, i64_w, i32_w]
                 rfl
                refine pure_ (i := 4) (N := some 108) (v := ?_) (a' := ?_) #[true, true, true, false, true, false, false, false, false, false, false, false, false] rfl rfl (any_of HT_.out zq17) (fun _ _ _ h => h) (Or.inl ⟨zq105, ?_⟩) ?_ ?_
                rotate_left
                ·intro w'
                 go_simp
                 with_reducible rfl
                rotate_left
                ·simp only [Act.put, List.setIfInBounds_toArray, List.set_cons_zero, List.set_cons_succ, i64_w, i32_w]
                 rfl
                refine pure_ (i := 5) (N := some 109) (v := ?_) (a' := ?_) #[true, true, true, false, true, true, false, false, false, false, false, false, false] rfl rfl (any_of HT_.out zq17) (fun _ _ _ h => h) (Or.inl ⟨zq105, ?_⟩) ?_ ?_
                rotate_left
                ·intro w'
                 go_simp
                 with_reducible rfl
                rotate_left
                ·simp only [Act.put, List.setIfInBounds_toArray, List.set_cons_zero, List.set_cons_succ, i64_w, i32_w]
                 rfl
                refine pure_ (i := 7) (N := some 111) (v := ?_) (a' := ?_) #[true, true, true, false, true, true, false, true, false, false, false, false, false] rfl rfl (any_of HT_.out zq17) (fun _ _ _ h => h) (Or.inl ⟨zq105, ?_⟩) ?_ ?_
                rotate_left
                ·intro w'
                 go_simp
                 with_reducible rfl
                rotate_left
                ·simp only [Act.put, List.setIfInBounds_toArray, List.set_cons_zero, List.set_cons_succ, i64_w, i32_w]
                 rfl
                refine take_ (i := 8) (N := some 112) (v := ?_) (a' := ?_) #[true, true, true, false, true, true, false, true, true, false, false, false, false] rfl rfl (take_ofW HT_.out HW_.out zq17) (fun _ _ _ h => h) (Or.inl ⟨zq105, ?_⟩) hH ?_ ?_
                rotate_left
                ·rintro w' ⟨s0, s1, s2⟩
                 go_simp
                 with_reducible rfl
                rotate_left
                ·simp only [Act.put, List.setIfInBounds_toArray, List.set_cons_zero, List.set_cons_succ, i64_w, i32_w]
                 rfl
                refine take_ (i := 3) (N := some 107) (v := ?_) (a' := ?_) #[true, true, true, true, true, true, false, true, true, false, false, false, false] rfl rfl (take_ofW HT_.out HW_.out zq17) (fun _ _ _ h => h) (Or.inl ⟨zq105, ?_⟩) hH ?_ ?_
                rotate_left
                ·rintro w' ⟨s0, s1⟩
                 go_simp
                 with_reducible rfl
                rotate_left
                ·simp only [Act.put, List.setIfInBounds_toArray, List.set_cons_zero, List.set_cons_succ, i64_w, i32_w]
                 rfl
                refine take_ (i := 6) (N := some 110) (v := ?_) (a' := ?_) #[true, true, true, true, true, true, true, true, true, false, false, false, false] rfl rfl (take_ofW HT_.out HW_.out zq17) (fun _ _ _ h => h) (Or.inl ⟨zq105, ?_⟩) hH ?_ ?_
                rotate_left
                ·rintro w' ⟨s0, s1⟩
                 go_simp
                 with_reducible rfl
                rotate_left
                ·simp only [Act.put, List.setIfInBounds_toArray, List.set_cons_zero, List.set_cons_succ, i64_w, i32_w]
                 rfl
                refine pure_ (i := 9) (N := some 113) (v := ?_) (a' := ?_) #[true, true, true, true, true, true, true, true, true, true, false, false, false] rfl rfl (any_of HT_.out zq17) (fun _ _ _ h => h) (Or.inl ⟨zq105, ?_⟩) ?_ ?_
                rotate_left
                ·intro w'
                 go_simp
                 with_reducible rfl
                rotate_left
                ·simp only [Act.put, List.setIfInBounds_toArray, List.set_cons_zero, List.set_cons_succ, i64_w, i32_w]
                 rfl
                refine last_ (i := 10) (N := some 114) #[true, true, true, true, true, true, true, true, true, true, true, false, false] rfl rfl (one_of HT_.out zq17) zq118 (fun K hK => ?_)
                refine value_ (w1 := ?_) (v := ?_) zq105 rfl ?_ ?_
                rotate_left 2
                ·go_simp
                 constructor
                 ·rfl
                 ·rfl
                refine hK.out _ _ ?_
                clear hK K
                refine norm_ (a' := ?_) ?_ ?_
                rotate_left
                ·show Act.put _ (some 114) _ = _
                 simp only [Act.put, List.setIfInBounds_toArray, List.set_cons_zero, List.set_cons_succ, i64_w, i32_w]
                 rfl
                refine last_ (i := 11) (N := some 115) #[true, true, true, true, true, true, true, true, true, true, true, true, false] rfl rfl (one_of HT_.out zq17) zq118 (fun K hK => ?_)
                refine Kd.R_append_step k88 (w0 := w) w.heap.size zq105 (.tmp 104) (.tmp 114) 83 88 (.agg #[(.string ⟨#[]⟩), (.string ⟨#[]⟩), (.string ⟨#[]⟩)]) 48 rfl Tryd.underlying83 info88 rfl zq118 zq94 (.slice Ao72 x6_1.length co72) x6_1 (⟨rdOf ByteArray.empty t200 0, rdOf ByteArray.empty t200 1, strOfNums t231⟩ : S88) [.string (rdOf ByteArray.empty t200 0), .string (rdOf ByteArray.empty t200 1), .string (strOfNums t231)] (fun _ => True) (fun _ => False) rfl rfl ?aP (fun _ hk => hk.elim) ?aF ?aO ?aB ?aS ?aL ?_
                (case aP => exact k88_mkM _ _ _ (⟨rdOf ByteArray.empty t200 0, rdOf ByteArray.empty t200 1, strOfNums t231⟩ : S88))
                (case aB => exact zq0)
                (case aF => exact (fun _ _ => trivial))
                (case aO => exact zq15)
                (case aS => exact (below_size zq0))
                (case aL => have := LMc69.out; omega)
                intro v238 w76 ho hb hg hat
                rw [← Ny237.out] at ho
                have n0_ := AZ.mk (Kd.R_over' zq72 (Kd.R_typed zq15) zq118 hg)
                have n1_ := AZ.mk (Kd.R_over' (by (with_reducible repeat (first | apply Kd.R_alloc | apply Kd.R_drewN | apply Kd.R_drew)); exact HO234.out) (Kd.R_typed zq15) zq118 hg)
                have n2_ := AZ.mk (hb)
                have n3_ := AZ.mk (ho)
                clear HO_10
                clear HO234
                clear HB
                clear HO_6
                have HO_10 := n0_
                have HO234 := n1_
                have HB := n2_
                have HO239 := n3_
                clear n0_ n1_ n2_ n3_
                clear ho hb hg hat
                refine hK.out _ _ ?_
                clear hK K
                refine norm_ (a' := ?_) ?_ ?_
                rotate_left
                ·show Act.put _ (some 115) _ = _
                 simp only [Act.put, List.setIfInBounds_toArray, List.set_cons_zero, List.set_cons_succ, i64_w, i32_w]
                 rfl
                refine pure_ (i := 12) (N := some 6) (v := ?_) (a' := ?_) #[true, true, true, true, true, true, true, true, true, true, true, true, true] rfl rfl (any_of HT_.out zq17) (fun _ _ _ h => h) (Or.inl ⟨zq105, ?_⟩) ?_ ?_
                rotate_left
                ·intro w'
                 go_simp
                 with_reducible rfl
                rotate_left
                ·simp only [Act.put, List.setIfInBounds_toArray, List.set_cons_zero, List.set_cons_succ, i64_w, i32_w]
                 rfl
                refine done_ (done_of HT_.out zq17) ?_
                try go_wp2
                go_roundg k3
                case measure => have := HK1.out; have := HJ6.out; have := HK3.out; omega
                case rel => exact ⟨(t198), (y237), zq8, H', ⟨zq143⟩, ⟨by (with_reducible repeat (first | apply Kd.R_alloc | apply Kd.R_drewN | apply Kd.R_drew)); exact HO239.out⟩, ⟨zq0⟩⟩
               ·rw [if_neg c69] at H
                exact absurd H zq119
              ·rw [if_neg c68] at H
               exact absurd H zq119
             ·rw [if_neg c67] at H
              exact absurd H zq119
          ·rw [if_neg c36] at H
           exact absurd H zq119
    ·replace c5 := Bool.eq_false_iff.mpr c5
     subst c5
     rw [if_neg (show ¬ (false = true) by decide)] at H
     simp only [Option.some.injEq, Prod.mk.injEq] at H
     obtain ⟨rfl, rfl⟩ := H
     go_wp2_with (first | ((with_reducible refine gate_callee (f := 76) rfl ?_); refine goesL_ (some 18) rfl rfl Tryd.func76 zq17 rfl #[.string x0_1, .string (⟨#[10]⟩ : ByteArray)] rfl zq2 ?_; (with_reducible refine (strings_Cut.calls x0_1 (⟨#[10]⟩ : ByteArray) t197 t198 false _ A4.out).mono ?_); rintro e w77 ⟨rfl, hb⟩; refine ⟨_, rfl, ?_⟩; have n0_ := AZ.mk (Kd.R_below zq15 hb); have n1_ := AZ.mk (below_step zq0 hb); clear HO_6; clear HB; have HO_6 := n0_; have HB := n1_; clear n0_ n1_; (try clear hb); (try clear hb2); (try clear hk); (try clear hi)))
     go_ret2
     exact ⟨_, zq7, zq83, zq0⟩
end Go.Proofs.YtgjipjffpodjlaaDoor.K
namespace Go.Proofs.YtgjipjffpodjlaaDoor.K
open Go.RowKit Go.Proofs.YtgjipjffpodjlaaDoorW.PrintWords Go.Proofs.YtgjipjffpodjlaaDoorW.PrintLast Go.Proofs.YtgjipjffpodjlaaDoorW.PrintMore
attribute [local go_sem] max2_int min2_int max_two min_two max_three min_three max_four min_four   
set_option linter.unusedVariables false
set_option linter.unusedSimpArgs false
mutual
def impl_Sum.l0 : Nat → ByteArray → Int → Int → Int → Option (ByteArray)
 | 0, _, _, _, _ => none
 | k + 1, x0, x1, x5, x6 => if x6 < (x0.size : Int) then (if 0 ≤ x6 then (impl_Sum.l0 k x0 x1 (IntKind.u64.wrap ((Go.bits .xor .u64 x5 (IntKind.u64.wrap (bt x0 x6))) * 1099511628211)) (wrap64 (x6 + 1))) else (none)) else (if 8 ≤ 281474976710656 then (impl_Sum.l1 k x1 x5 (List.replicate 8 0) 7) else (none))
def impl_Sum.l1 : Nat → Int → Int → List Int → Int → Option (ByteArray)
 | 0, _, _, _, _ => none
 | k + 1, x1, x5, x7, x8 => if x8 ≥ 0 then (if 0 ≤ x8 then (if x8 < (x7.length : Int) then (impl_Sum.l1 k x1 (x5 / 256) (x7.set (x8 : Int).toNat ((x5) % 256)) (wrap64 (x8 - 1))) else (none)) else (none)) else (if 0 ≤ (wrap64 (8 - x1)) then (if (wrap64 (8 - x1)) ≤ (x7.length : Int) then (some (strOfNums (x7.drop ((wrap64 (8 - x1)) : Int).toNat))) else (none)) else (none))
end
def impl_Sum.f (k : Nat) (a0 : ByteArray) (a1 : Int) : Option (ByteArray) := (impl_in.f a1 1 8).bind fun t240 => (if t240 = true then (impl_Sum.l0 k a0 a1 14695981039346656037 0) else (some (⟨#[]⟩ : ByteArray)))
theorem impl_Sum.mono_l : ∀ k, (∀ y0 y1 y2 y3, LeO (impl_Sum.l0 k y0 y1 y2 y3) (impl_Sum.l0 (k + 1) y0 y1 y2 y3)) ∧ (∀ y0 y1 y2 y3, LeO (impl_Sum.l1 k y0 y1 y2 y3) (impl_Sum.l1 (k + 1) y0 y1 y2 y3))
 | 0 => ⟨fun _ _ _ _ r h => by simp [impl_Sum.l0] at h, fun _ _ _ _ r h => by simp [impl_Sum.l1] at h⟩
 | k + 1 => by
  obtain ⟨ih0, ih1⟩ := impl_Sum.mono_l k
  refine ⟨?_, ?_⟩
  ·intro y0 y1 y2 y3
   unfold impl_Sum.l0
   repeat' first
   | (with_reducible exact ih0 _ _ _ _)
   | (with_reducible exact ih1 _ _ _ _)
   | (with_reducible exact LeO.refl _)
   | (with_reducible exact LeO.none _)
   | (with_reducible refine LeO.ite ?_ ?_)
   | (with_reducible refine LeO.bind ?_ (fun _ => ?_))
   | exact ih0 _ _ _ _
   | exact ih1 _ _ _ _
   | exact LeO.none _
   | refine LeO.ite ?_ ?_
   | refine LeO.bind ?_ (fun _ => ?_)
  ·intro y0 y1 y2 y3
   unfold impl_Sum.l1
   repeat' first
   | (with_reducible exact ih0 _ _ _ _)
   | (with_reducible exact ih1 _ _ _ _)
   | (with_reducible exact LeO.refl _)
   | (with_reducible exact LeO.none _)
   | (with_reducible refine LeO.ite ?_ ?_)
   | (with_reducible refine LeO.bind ?_ (fun _ => ?_))
   | exact ih0 _ _ _ _
   | exact ih1 _ _ _ _
   | exact LeO.none _
   | refine LeO.ite ?_ ?_
   | refine LeO.bind ?_ (fun _ => ?_)
theorem impl_Sum.mono : ∀ a0 a1 k, LeO (impl_Sum.f k a0 a1) (impl_Sum.f (k + 1) a0 a1) := by
 intro a0 a1 k
 obtain ⟨ih0, ih1⟩ := impl_Sum.mono_l k
 unfold impl_Sum.f
 repeat' first
   | (with_reducible exact ih0 _ _ _ _)
   | (with_reducible exact ih1 _ _ _ _)
   | (with_reducible exact LeO.refl _)
   | (with_reducible exact LeO.none _)
   | (with_reducible refine LeO.ite ?_ ?_)
   | (with_reducible refine LeO.bind ?_ (fun _ => ?_))
   | exact ih0 _ _ _ _
   | exact ih1 _ _ _ _
   | exact LeO.none _
   | refine LeO.ite ?_ ?_
   | refine LeO.bind ?_ (fun _ => ?_)
set_option maxHeartbeats 2000000 in
set_option maxRecDepth 100000 in
theorem impl_Sum.calls (k : Nat) (a0 : ByteArray) (a1 : Int) (r : ByteArray) (w : World) (h : impl_Sum.f k a0 a1 = some r) :
  Calls Tryd.prog 49 #[.string a0, .int .i64 a1] w fun e w' => e = .returned (.string r) ∧ Below w.heap.size w w' := by
 have HB := AZ.mk (Below.refl w.heap.size w)
 have H : ((impl_in.f a1 1 8).bind fun t240 => (if t240 = true then (impl_Sum.l0 k a0 a1 14695981039346656037 0) else (some (⟨#[]⟩ : ByteArray)))) = some r := h
 clear h
 replace H := Option.bind_eq_some_iff.mp H
 obtain ⟨t240, A30, H⟩ := H
 try dsimp only at H
 have A3 := AZ.mk A30
 clear A30
 by_cases c4 : t240 = true
 ·subst c4
  rw [if_pos rfl] at H
  have H' := AZ.mk H
  clear H
  go_enter Tryd.func49, Tryd.ntmps49
  go_wp2_with (first | ((with_reducible refine gate_callee (f := 47) rfl ?_); refine goesL_ (some 10) rfl rfl Tryd.func47 zq17 rfl #[.int .i64 a1, .int .i64 1, .int .i64 8] rfl zq2 ?_; (with_reducible refine (impl_in.calls a1 1 8 true _ A3.out).mono ?_); rintro e w' ⟨rfl, ⟨nd, rfl⟩⟩; refine ⟨_, rfl, ?_⟩))
  go_loopg [5, 6] k (fun kq v5 v6 w' => ∃ (x5_1 : Int) (x6_1 : Int), v5 = .int .u64 x5_1 ∧ v6 = .int .i64 x6_1 ∧ AZ (impl_Sum.l0 kq a0 a1 x5_1 x6_1 = some r) ∧ AZ (kq ≤ k) ∧ AZ (Below w.heap.size w w'))
  case atStart => exact ⟨(14695981039346656037), (0), zq8, zq8, H', ⟨Nat.le_refl _⟩, ⟨zq0⟩⟩
  case round =>
   clear H'
   try clear p2
   try clear c4
   obtain ⟨x5_1, x6_1, rfl, rfl, HA, HK1, HB⟩ := hrel
   cases gk with
   | zero => exact absurd HA.out (by simp [impl_Sum.l0])
   | succ k1 =>
    have H := HA.out
    clear HA
    simp only [impl_Sum.l0] at H
    by_cases c5 : x6_1 < (a0.size : Int)
    ·rw [if_pos c5] at H
     have c5b0 : decide (x6_1 < (a0.size : Int)) = true := decide_eq_true c5
     clear c5
     by_cases c6 : 0 ≤ x6_1
     ·rw [if_pos c6] at H
      have c6b0 : decide (0 ≤ x6_1) = true := decide_eq_true c6
      clear c6
      have H' := AZ.mk H
      clear H
      have p7 : 0 ≤ (x6_1 : Int) := of_decide_eq_true zq1
      have q7 : x6_1 < (a0.size : Int) := of_decide_eq_true zq1
      have hx7 := bt_at a0 x6_1
      replace p7 := eq_true p7
      replace q7 := eq_true q7
      go_wp2
      go_roundg k1
      case measure => have := HK1.out; omega
      case rel => exact ⟨(IntKind.u64.wrap ((Go.bits .xor .u64 x5_1 (IntKind.u64.wrap (bt a0 x6_1))) * 1099511628211)), (wrap64 (x6_1 + 1)), zq8, zq8, H', ⟨zq121⟩, ⟨zq0⟩⟩
     ·rw [if_neg c6] at H
      exact absurd H zq119
    ·rw [if_neg c5] at H
     have c5b0 : decide (x6_1 < (a0.size : Int)) = false := decide_eq_false c5
     clear c5
     by_cases c8 : 8 ≤ 281474976710656
     ·rw [if_pos c8] at H
      have c8b0 := eq_true c8
      have c8b1 : decide (8 ≤ 281474976710656) = true := decide_eq_true c8
      clear c8
      obtain ⟨y241, hy241⟩ : ∃ y_ : List Int, y_ = (List.replicate 8 0) := ⟨_, rfl⟩
      replace H : (impl_Sum.l1 k1 a1 x5_1 y241 7) = some r := by first | (rw [hy241]; with_reducible exact H) | (have H2_ := (Option.bind_some _ _).symm.trans H; rw [hy241]; with_reducible exact H2_) | (have H2_ := (Option.bind_some _ _).symm.trans H; with_reducible exact H2_) | with_reducible exact H | (rw [hy241]; exact H) | exact H
      have Ny241 := AZ.mk hy241
      clear hy241
      have H' := AZ.mk H
      clear H
      go_wp2_with (first | ((with_reducible refine gate_dst (N := 25) rfl ?_); refine Kd.R_make (Kd.int .u8) _ 5 rfl (N := 25) rfl 25 _ _ rfl 8 rfl rfl Tryd.underlying25 (.int .u8 0) 1 info5 rfl zq118 zq94 0 (ok := fun _ => True) (okp := fun _ => True) rfl (fun _ hk => hk) trivial zq94 zq94 (Below.refl _ _) (Nat.le_refl _) ?_; intro v242 w9 ho10 hb hg_ hnew_; clear hg_ hnew_; (first | rw [← Ny241.out] at ho10 | (simp only [Int.reduceToNat] at ho10; rw [← Ny241.out] at ho10)); have n0_ := AZ.mk (Kd.R_lower ho10 (below_size zq0)); have n1_ := AZ.mk (below_step zq0 hb); clear HB; have HO243 := n0_; have HB := n1_; clear n0_ n1_; clear hb ho10))
      go_loopg [5, 8] k1 (fun kq v5 v8 w' => ∃ (x5_2 : Int) (x7_2 : List Int) (x8_2 : Int), v5 = .int .u64 x5_2 ∧ v8 = .int .i64 x8_2 ∧ AZ (impl_Sum.l1 kq a1 x5_2 x7_2 x8_2 = some r) ∧ AZ (kq ≤ k1) ∧ AZ (Kd.R (Kd.int .u8) 5 w' w.heap.size (fun _ => True) v242 x7_2) ∧ AZ (Below w.heap.size w w'))
      case atStart => exact ⟨(x5_1), (y241), (7), zq8, zq8, H', ⟨Nat.le_refl _⟩, ⟨by (with_reducible repeat (first | apply Kd.R_alloc | apply Kd.R_drewN | apply Kd.R_drew)); exact HO243.out⟩, ⟨zq0⟩⟩
      case round =>
       clear H'
       try clear p2
       try clear c4
       try clear c5
       try clear c5b0
       try clear c6
       try clear c6b0
       try clear p6
       try clear p7
       try clear q7
       try clear hx7
       try clear c8
       try clear c8b0
       try clear c8b1
       try clear p2
       try clear p7
       try clear q7
       obtain ⟨x5_2, x7_2, x8_2, rfl, rfl, HA, HK2, HO_7, HB⟩ := hrel
       cases gk with
       | zero => exact absurd HA.out (by simp [impl_Sum.l1])
       | succ k2 =>
        have H := HA.out
        clear HA
        simp only [impl_Sum.l1] at H
        by_cases c11 : x8_2 ≥ 0
        ·rw [if_pos c11] at H
         have c11b0 : decide (0 ≤ x8_2) = true := decide_eq_true c11
         clear c11
         by_cases c12 : 0 ≤ x8_2
         ·rw [if_pos c12] at H
          have c12b0 : decide (0 ≤ x8_2) = true := decide_eq_true c12
          clear c12
          by_cases c13 : x8_2 < (x7_2.length : Int)
          ·rw [if_pos c13] at H
           have c13b0 : decide (x8_2 < (x7_2.length : Int)) = true := decide_eq_true c13
           clear c13
           obtain ⟨y244, hy244⟩ : ∃ y_ : List Int, y_ = (x7_2.set (x8_2 : Int).toNat ((x5_2) % 256)) := ⟨_, rfl⟩
           replace H : (impl_Sum.l1 k2 a1 (x5_2 / 256) y244 (wrap64 (x8_2 - 1))) = some r := by first | (rw [hy244]; with_reducible exact H) | (have H2_ := (Option.bind_some _ _).symm.trans H; rw [hy244]; with_reducible exact H2_) | (have H2_ := (Option.bind_some _ _).symm.trans H; with_reducible exact H2_) | with_reducible exact H | (rw [hy244]; exact H) | exact H
           have Ny244 := AZ.mk hy244
           clear hy244
           have H' := AZ.mk H
           clear H
           have p14 : 0 ≤ (x8_2 : Int) := of_decide_eq_true zq1
           have q14 : (x8_2 : Int) < ((x7_2.length : Int) : Int) := of_decide_eq_true zq1
           obtain ⟨go14, co14, eo14, gb14, gl14, cl14, HG14⟩ := Kd.R_form HO_7.out zq94
           (first | cases eo14 | (injection eo14 with ea_ en_ ec_; (first | subst ea_ | (injection ea_ with ea_; subst ea_)); subst ec_; clear en_))
           have GB14 := AZ.mk gb14
           have GG14 := AZ.mk HG14
           clear gb14 gl14 HG14
           obtain ⟨hx14_0, hf14_0⟩ := Kd.R_celln 0 HO_7.out (x8_2 : Int) p14 q14
           replace p14 := eq_true p14
           replace q14 := eq_true q14
           have HP15 := Kd.R_putg HO_7.out (x8_2 : Int) ((x5_2) % 256)
           go_wp2_with (first | ((with_reducible refine gate_store (t := 5) (p := 34) rfl ?_); refine store_event (t := 5) (p := 34) (v := ?vo_w16) (w1 := (wr.setCell ⟨go14, (x8_2 : Int).toNat, none⟩ (.int .u8 ((x5_2) % 256)))) ?hg ?ho ?hn ?hr ?_; (case ho => rfl); (case hg => rfl); (case hn => rfl); (case hr => first | (go_simp; done) | (go_simp; rfl)); intro w16 hw; have hg : wr.grownBy w16 (some go14) := (by rw [hw]; exact HP15.2); have hp_ : Kd.R (Kd.int .u8) 5 w16 w.heap.size (fun _ => True) (.slice (some ⟨go14, 0, none⟩) x7_2.length co14) y244 := (by rw [hw, Ny244.out]; exact HP15.1); clear HP15; have n0_ := AZ.mk (hp_); have n1_ := AZ.mk ((by rw [hw]; exact below_set (HB.out) GB14.out : Below w.heap.size w w16)); clear HO_7; clear HB; have HO_7 := n0_; have HB := n1_; clear n0_ n1_; clear hg hw hp_))
           go_roundg k2
           case measure => have := HK1.out; have := HK2.out; omega
           case rel => exact ⟨(x5_2 / 256), (y244), (wrap64 (x8_2 - 1)), zq8, zq8, H', ⟨by have := HK1.out; have := HK2.out; omega⟩, ⟨by (with_reducible repeat (first | apply Kd.R_alloc | apply Kd.R_drewN | apply Kd.R_drew)); exact HO_7.out⟩, ⟨zq0⟩⟩
          ·rw [if_neg c13] at H
           exact absurd H zq119
         ·rw [if_neg c12] at H
          exact absurd H zq119
        ·rw [if_neg c11] at H
         have c11b0 : decide (0 ≤ x8_2) = false := decide_eq_false c11
         clear c11
         obtain ⟨ji17, hji17⟩ : ∃ j_ : Int, (wrap64 (8 - a1)) = j_ := ⟨_, rfl⟩
         replace H : (if 0 ≤ (ji17) then (if (ji17) ≤ (x7_2.length : Int) then (some (strOfNums (x7_2.drop ((ji17) : Int).toNat))) else (none)) else (none)) = some r := by first | (rw [hji17] at H; exact H) | (simp only [hji17] at H ⊢; exact H)
         have hji17w : (IntKind.i64.wrap (8 - a1)) = ji17 := (i64_w _).trans hji17
         by_cases c18 : 0 ≤ (ji17)
         ·rw [if_pos c18] at H
          have c18b0 := eq_true c18
          have c18b1 : decide (0 ≤ (ji17)) = true := decide_eq_true c18
          clear c18
          by_cases c19 : (ji17) ≤ (x7_2.length : Int)
          ·rw [if_pos c19] at H
           have c19b0 := eq_true c19
           have c19b1 : decide ((ji17) ≤ (x7_2.length : Int)) = true := decide_eq_true c19
           clear c19
           obtain ⟨y245, hy245⟩ : ∃ y_ : List Int, y_ = (x7_2.drop ((ji17) : Int).toNat) := ⟨_, rfl⟩
           replace H : (some (strOfNums y245)) = some r := by first | (rw [hy245]; with_reducible exact H) | (have H2_ := (Option.bind_some _ _).symm.trans H; rw [hy245]; with_reducible exact H2_) | (have H2_ := (Option.bind_some _ _).symm.trans H; with_reducible exact H2_) | with_reducible exact H | (rw [hy245]; exact H) | exact H
           have Ny245 := AZ.mk hy245
           clear hy245
           obtain rfl := Option.some.inj H
           obtain ⟨Ao21, co21, eo21⟩ := Kd.R_slice HO_7.out
           subst eo21
           have q20 : ((ji17) : Int) ≤ ((x7_2.length : Int) : Int) := of_decide_eq_true zq1
           obtain ⟨i020, hi020, _, hsz20, _⟩ := info_parts info5
           have hroom20 : x7_2.length ≤ co21 := (Kd.R_reads' HO_7.out).2.1
           have hC20 : Kd.C (Kd.int .u8) _ Ao21 x7_2.length x7_2 := (Kd.R_reads' HO_7.out).2.2
           have q020 : (0 : Int) ≤ ((ji17) : Int) := of_decide_eq_true zq1
           have hcut20 := cut_from (P := Tryd.prog) 25 5 .i64 Tryd.underlying25 hi020 1 hsz20 Ao21 x7_2.length co21 (ji17) q020 q20
           have hr20 := Kd.C_drop (m := ((ji17) : Int).toNat) (c := co21) hC20 zq94 hroom20
           obtain ⟨A20, hA20⟩ : ∃ A1, A1 = (if co21 = ((ji17) : Int).toNat then Ao21 else (Ao21 : Option Addr).map (·.add (((ji17) : Int).toNat * 1))) := ⟨_, rfl⟩
           obtain ⟨c20, hc20⟩ : ∃ c1, c1 = co21 - ((ji17) : Int).toNat := ⟨_, rfl⟩
           have hy20 : y245.length = x7_2.length - ((ji17) : Int).toNat := (by rw [Ny245.out, List.length_drop] <;> omega)
           rw [show (x7_2).drop ((ji17) : Int).toNat = y245 from Ny245.out.symm] at hr20
           replace hr20 : Kd.C (Kd.int .u8) _ A20 y245.length y245 := (by rw [hA20]; exact hr20)
           rw [← hy20, ← hA20, ← hc20] at hcut20
           have HR248 := AZ.mk hr20
           have HC248 := AZ.mk (show y245.length ≤ c20 from by rw [hy20, hc20]; exact Nat.sub_le_sub_right hroom20 _)
           clear hr20 hC20 hroom20 hi020 hsz20 hc20
           have KY20 := AZ.mk hy20
           have KA20 := AZ.mk hA20
           clear hy20 hA20
           have KL20 := AZ.mk (show ((ji17) : Int).toNat ≤ x7_2.length from zq94)
           replace q20 := eq_true q20
           have hcv22 := Kd.C_string (P := Tryd.prog) (A := A20) (c := c20) Tryd.underlying25 Tryd.underlying5 Tryd.underlying9 (by repeat (first | (with_reducible exact HR248.out) | (with_reducible refine Kd.C_alloc ?_ _) | (with_reducible refine Kd.C_drewN ?_ _) | (with_reducible refine Kd.C_drew ?_) | exact HR248.out))
           go_wp2
           go_ret
           exact ⟨by first | rfl | (simp [errW_none, errW_some] <;> rfl) | (simp only [← hji17]; first | rfl | (simp [errW_none, errW_some] <;> rfl)) | (simp [*, errW_none, errW_some] <;> rfl), zq0⟩
          ·rw [if_neg c19] at H
           exact absurd H zq119
         ·rw [if_neg c18] at H
          exact absurd H zq119
     ·rw [if_neg c8] at H
      exact absurd H zq119
 ·replace c4 := Bool.eq_false_iff.mpr c4
  subst c4
  rw [if_neg (show ¬ (false = true) by decide)] at H
  obtain rfl := Option.some.inj H
  go_enter Tryd.func49, Tryd.ntmps49
  go_wp2_with (first | ((with_reducible refine gate_callee (f := 47) rfl ?_); refine goesL_ (some 10) rfl rfl Tryd.func47 zq17 rfl #[.int .i64 a1, .int .i64 1, .int .i64 8] rfl zq2 ?_; (with_reducible refine (impl_in.calls a1 1 8 false _ A3.out).mono ?_); rintro e w' ⟨rfl, ⟨nd, rfl⟩⟩; refine ⟨_, rfl, ?_⟩))
  go_ret
  exact ⟨zq7, zq0⟩
end Go.Proofs.YtgjipjffpodjlaaDoor.K
