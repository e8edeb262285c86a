import Derived.Test.YtgjipjffpodjlaaDoorCFnExactShow1
namespace Go.Proofs.YtgjipjffpodjlaaDoor.K
open Go.RowKit Go.Proofs.YtgjipjffpodjlaaDoorW.PrintWords Go.Proofs.YtgjipjffpodjlaaDoorW.PrintLast Go.Proofs.YtgjipjffpodjlaaDoorW.PrintMore
attribute [local go_sem] max2_int min2_int max_two min_two max_three min_three max_four min_four   
set_option linter.unusedVariables false
set_option linter.unusedSimpArgs false
def spec_l9Hex.l0 : Nat → ByteArray → ByteArray → List Int → Int → Option (ByteArray)
 | 0, _, _, _, _ => none
 | k + 1, x0, x3, x4, x5 => if x5 < (x0.size : Int) then (if 0 ≤ x5 then (if 0 ≤ ((Int.tdiv (bt x0 x5) 16) % 256) then (if ((Int.tdiv (bt x0 x5) 16) % 256) < (x3.size : Int) then (if 0 ≤ (Int.tmod (bt x0 x5) 16) then (if (Int.tmod (bt x0 x5) 16) < (x3.size : Int) then ((some (([bt x3 ((Int.tdiv (bt x0 x5) 16) % 256), bt x3 (Int.tmod (bt x0 x5) 16)] : List Int) : List Int)).bind fun y139 => (if x4.length + y139.length < 140737488355328 then (spec_l9Hex.l0 k x0 x3 (x4 ++ y139) (wrap64 (x5 + 1))) else (none))) else (none)) else (none)) else (none)) else (none)) else (none)) else (some (strOfNums x4))
def spec_l9Hex.f (k : Nat) (a0 : ByteArray) : Option (ByteArray) := spec_l9Hex.l0 k a0 (⟨#[48, 49, 50, 51, 52, 53, 54, 55, 56, 57, 97, 98, 99, 100, 101, 102]⟩ : ByteArray) (([] : List Int)) 0
theorem spec_l9Hex.mono_l : ∀ k, (∀ y0 y1 y2 y3, LeO (spec_l9Hex.l0 k y0 y1 y2 y3) (spec_l9Hex.l0 (k + 1) y0 y1 y2 y3))
 | 0 => fun _ _ _ _ r h => by simp [spec_l9Hex.l0] at h
 | k + 1 => by
  have ih0 := spec_l9Hex.mono_l k
  ·intro y0 y1 y2 y3
   unfold spec_l9Hex.l0
   repeat' first
   | (with_reducible exact ih0 _ _ _ _)
   | (with_reducible exact LeO.refl _)
   | (with_reducible exact LeO.none _)
   | (with_reducible refine LeO.ite ?_ ?_)
   | (with_reducible refine LeO.bind ?_ (fun _ => ?_))
   | exact ih0 _ _ _ _
   | exact LeO.none _
   | refine LeO.ite ?_ ?_
   | refine LeO.bind ?_ (fun _ => ?_)
theorem spec_l9Hex.mono : ∀ a0 k, LeO (spec_l9Hex.f k a0) (spec_l9Hex.f (k + 1) a0) := by
 intro a0 k
 have ih0 := spec_l9Hex.mono_l k
 unfold spec_l9Hex.f
 repeat' first
   | (with_reducible exact ih0 _ _ _ _)
   | (with_reducible exact LeO.refl _)
   | (with_reducible exact LeO.none _)
   | (with_reducible refine LeO.ite ?_ ?_)
   | (with_reducible refine LeO.bind ?_ (fun _ => ?_))
   | exact ih0 _ _ _ _
   | exact LeO.none _
   | refine LeO.ite ?_ ?_
   | refine LeO.bind ?_ (fun _ => ?_)
def spec_l9Hex.T6 : Bool × List (List Nat × List Nat) := (true, [([], []), ([], []), ([], []), ([], []), ([2, 3], [2, 3]), ([4], [4]), ([1, 5], [1, 5]), ([], []), ([], []), ([], []), ([8, 9], [8, 9]), ([10], [10]), ([7, 11], [7, 11]), ([6, 12], [6, 12]), ([0, 13], [0, 13]), ([14, 14, 0, 1, 2, 3, 4, 5, 6, 7, 8, 9, 10, 11, 12, 13, 14], [0, 14])])
def spec_l9Hex.B6 : List Nat := [0, 0, 0, 0, 12, 28, 62, 0, 0, 0, 768, 1792, 3968, 8190, 16383, 32767]
theorem spec_l9Hex.tab6 : rtab .any (opsOf Tryd.f44 6) = spec_l9Hex.T6 := by kernel_rfl
theorem spec_l9Hex.bits6 : waitsOk spec_l9Hex.T6.2 spec_l9Hex.B6 = true := by kernel_rfl
set_option maxHeartbeats 2000000 in
set_option maxRecDepth 100000 in
theorem spec_l9Hex.calls (k : Nat) (a0 : ByteArray) (r : ByteArray) (w : World) (h : spec_l9Hex.f k a0 = some r) :
  Calls Tryd.prog 44 #[.string a0] w fun e w' => e = .returned (.string r) ∧ Below w.heap.size w w' := by
 have HB := AZ.mk (Below.refl w.heap.size w)
 have H : (spec_l9Hex.l0 k a0 (⟨#[48, 49, 50, 51, 52, 53, 54, 55, 56, 57, 97, 98, 99, 100, 101, 102]⟩ : ByteArray) (([] : List Int)) 0) = some r := h
 clear h
 obtain ⟨y136, hy136⟩ : ∃ y_ : List Int, y_ = (([] : List Int)) := ⟨_, rfl⟩
 replace H : (spec_l9Hex.l0 k a0 (⟨#[48, 49, 50, 51, 52, 53, 54, 55, 56, 57, 97, 98, 99, 100, 101, 102]⟩ : ByteArray) y136 0) = some r := by first | (rw [hy136]; with_reducible exact H) | (have H2_ := (Option.bind_some _ _).symm.trans H; rw [hy136]; with_reducible exact H2_) | (have H2_ := (Option.bind_some _ _).symm.trans H; with_reducible exact H2_) | with_reducible exact H | (rw [hy136]; exact H) | exact H
 have Ny136 := AZ.mk hy136
 clear hy136
 have H' := AZ.mk H
 clear H
 go_enter Tryd.func44, Tryd.ntmps44
 go_wp2_with (first | ((with_reducible refine gate_dst (N := 6) rfl ?_); refine Kd.R_lit (Kd.int .u8) _ 5 ?hg (N := 6) ?hd (xs := ([] : List Int)) (inner := []) (ok := fun _ => True) (okp := fun _ => True) ?hr ?hp (fun _ hk => hk) trivial (Below.refl _ _) (Nat.le_refl _) zq119 ?_; (case hd => rfl); (case hg => rfl); (case hr => first | (go_simp; done) | (go_simp; rfl)); (case hp => exact (Reps.none _ _)); intro v137 w2 ho3 hb hg_ hnew_; clear hg_ hnew_; (first | rw [← Ny136.out] at ho3 | (simp only [Int.reduceToNat] at ho3; rw [← Ny136.out] at ho3)); have n0_ := AZ.mk (Kd.R_lower ho3 (below_size zq0)); have n1_ := AZ.mk (below_step zq0 hb); clear HB; have HO138 := n0_; have HB := n1_; clear n0_ n1_; clear hb ho3))
 go_loopg [4, 5] k (fun kq v4 v5 w' => ∃ (x4_1 : List Int) (x5_1 : Int), v5 = .int .i64 x5_1 ∧ AZ (spec_l9Hex.l0 kq a0 (⟨#[48, 49, 50, 51, 52, 53, 54, 55, 56, 57, 97, 98, 99, 100, 101, 102]⟩ : ByteArray) x4_1 x5_1 = some r) ∧ AZ (kq ≤ k) ∧ AZ (Kd.R (Kd.int .u8) 5 w' w.heap.size (fun _ => True) v4 x4_1) ∧ AZ (Below w.heap.size w w'))
 case atStart => exact ⟨(y136), (0), zq8, H', ⟨Nat.le_refl _⟩, ⟨by (with_reducible repeat (first | apply Kd.R_alloc | apply Kd.R_drewN | apply Kd.R_drew)); exact HO138.out⟩, ⟨zq0⟩⟩
 case round =>
  clear H'
  try clear p2
  obtain ⟨x4_1, x5_1, rfl, HA, HK1, HO_4, HB⟩ := hrel
  cases gk with
  | zero => exact absurd HA.out (by simp [spec_l9Hex.l0])
  | succ k1 =>
   have H := HA.out
   clear HA
   simp only [spec_l9Hex.l0] at H
   by_cases c4 : x5_1 < (a0.size : Int)
   ·rw [if_pos c4] at H
    have c4b0 : decide (x5_1 < (a0.size : Int)) = true := decide_eq_true c4
    clear c4
    by_cases c5 : 0 ≤ x5_1
    ·rw [if_pos c5] at H
     have c5b0 : decide (0 ≤ x5_1) = true := decide_eq_true c5
     clear c5
     obtain ⟨ji7, hji7⟩ : ∃ j_ : Int, ((Int.tdiv (bt a0 x5_1) 16) % 256) = j_ := ⟨_, rfl⟩
     replace H : (if 0 ≤ (ji7) then (if (ji7) < ((⟨#[48, 49, 50, 51, 52, 53, 54, 55, 56, 57, 97, 98, 99, 100, 101, 102]⟩ : ByteArray).size : Int) then (if 0 ≤ (Int.tmod (bt a0 x5_1) 16) then (if (Int.tmod (bt a0 x5_1) 16) < ((⟨#[48, 49, 50, 51, 52, 53, 54, 55, 56, 57, 97, 98, 99, 100, 101, 102]⟩ : ByteArray).size : Int) then ((some (([bt (⟨#[48, 49, 50, 51, 52, 53, 54, 55, 56, 57, 97, 98, 99, 100, 101, 102]⟩ : ByteArray) (ji7), bt (⟨#[48, 49, 50, 51, 52, 53, 54, 55, 56, 57, 97, 98, 99, 100, 101, 102]⟩ : ByteArray) (Int.tmod (bt a0 x5_1) 16)] : List Int) : List Int)).bind fun y139 => (if x4_1.length + y139.length < 140737488355328 then (spec_l9Hex.l0 k1 a0 (⟨#[48, 49, 50, 51, 52, 53, 54, 55, 56, 57, 97, 98, 99, 100, 101, 102]⟩ : ByteArray) (x4_1 ++ y139) (wrap64 (x5_1 + 1))) else (none))) else (none)) else (none)) else (none)) else (none)) = some r := by first | (rw [hji7] at H; exact H) | (simp only [hji7] at H ⊢; exact H)
     by_cases c8 : 0 ≤ (ji7)
     ·rw [if_pos c8] at H
      have c8b0 : decide (0 ≤ (ji7)) = true := decide_eq_true c8
      clear c8
      by_cases c9 : (ji7) < ((⟨#[48, 49, 50, 51, 52, 53, 54, 55, 56, 57, 97, 98, 99, 100, 101, 102]⟩ : ByteArray).size : Int)
      ·rw [if_pos c9] at H
       have c9b0 : decide ((ji7) < ((⟨#[48, 49, 50, 51, 52, 53, 54, 55, 56, 57, 97, 98, 99, 100, 101, 102]⟩ : ByteArray).size : Int)) = true := decide_eq_true c9
       clear c9
       obtain ⟨ji12, hji12⟩ : ∃ j_ : Int, (Int.tmod (bt a0 x5_1) 16) = j_ := ⟨_, rfl⟩
       replace H : (if 0 ≤ (ji12) then (if (ji12) < ((⟨#[48, 49, 50, 51, 52, 53, 54, 55, 56, 57, 97, 98, 99, 100, 101, 102]⟩ : ByteArray).size : Int) then ((some (([bt (⟨#[48, 49, 50, 51, 52, 53, 54, 55, 56, 57, 97, 98, 99, 100, 101, 102]⟩ : ByteArray) (ji7), bt (⟨#[48, 49, 50, 51, 52, 53, 54, 55, 56, 57, 97, 98, 99, 100, 101, 102]⟩ : ByteArray) (ji12)] : List Int) : List Int)).bind fun y139 => (if x4_1.length + y139.length < 140737488355328 then (spec_l9Hex.l0 k1 a0 (⟨#[48, 49, 50, 51, 52, 53, 54, 55, 56, 57, 97, 98, 99, 100, 101, 102]⟩ : ByteArray) (x4_1 ++ y139) (wrap64 (x5_1 + 1))) else (none))) else (none)) else (none)) = some r := by first | (rw [hji12] at H; exact H) | (simp only [hji12] at H ⊢; exact H)
       by_cases c13 : 0 ≤ (ji12)
       ·rw [if_pos c13] at H
        have c13b0 : decide (0 ≤ (ji12)) = true := decide_eq_true c13
        clear c13
        by_cases c14 : (ji12) < ((⟨#[48, 49, 50, 51, 52, 53, 54, 55, 56, 57, 97, 98, 99, 100, 101, 102]⟩ : ByteArray).size : Int)
        ·rw [if_pos c14] at H
         have c14b0 : decide ((ji12) < ((⟨#[48, 49, 50, 51, 52, 53, 54, 55, 56, 57, 97, 98, 99, 100, 101, 102]⟩ : ByteArray).size : Int)) = true := decide_eq_true c14
         clear c14
         obtain ⟨y139, hy139⟩ : ∃ y_ : List Int, y_ = (([bt (⟨#[48, 49, 50, 51, 52, 53, 54, 55, 56, 57, 97, 98, 99, 100, 101, 102]⟩ : ByteArray) (ji7), bt (⟨#[48, 49, 50, 51, 52, 53, 54, 55, 56, 57, 97, 98, 99, 100, 101, 102]⟩ : ByteArray) (ji12)] : List Int)) := ⟨_, rfl⟩
         replace H : (if x4_1.length + y139.length < 140737488355328 then (spec_l9Hex.l0 k1 a0 (⟨#[48, 49, 50, 51, 52, 53, 54, 55, 56, 57, 97, 98, 99, 100, 101, 102]⟩ : ByteArray) (x4_1 ++ y139) (wrap64 (x5_1 + 1))) else (none)) = some r := by first | (rw [hy139]; with_reducible exact H) | (have H2_ := (Option.bind_some _ _).symm.trans H; rw [hy139]; with_reducible exact H2_) | (have H2_ := (Option.bind_some _ _).symm.trans H; with_reducible exact H2_) | with_reducible exact H | (rw [hy139]; exact H) | exact H
         have Ny139 := AZ.mk hy139
         clear hy139
         by_cases c16 : x4_1.length + y139.length < 140737488355328
         ·rw [if_pos c16] at H
          have LMc16 := AZ.mk c16
          clear c16
          obtain ⟨y142, hy142⟩ : ∃ y_ : List Int, y_ = (x4_1 ++ y139) := ⟨_, rfl⟩
          replace H : (spec_l9Hex.l0 k1 a0 (⟨#[48, 49, 50, 51, 52, 53, 54, 55, 56, 57, 97, 98, 99, 100, 101, 102]⟩ : ByteArray) y142 (wrap64 (x5_1 + 1))) = some r := by first | (rw [hy142]; with_reducible exact H) | (have H2_ := (Option.bind_some _ _).symm.trans H; rw [hy142]; with_reducible exact H2_) | (have H2_ := (Option.bind_some _ _).symm.trans H; with_reducible exact H2_) | with_reducible exact H | (rw [hy142]; exact H) | exact H
          have Ny142 := AZ.mk hy142
          clear hy142
          have H' := AZ.mk H
          clear H
          try go_wp2
          have n0_ := AZ.mk (Kd.R_drew HO_4.out)
          have n1_ := AZ.mk (below_drew1 HB.out)
          clear HO_4
          clear HB
          have HO_4 := n0_
          have HB := n1_
          clear n0_ n1_
          have p6 : 0 ≤ (x5_1 : Int) := of_decide_eq_true zq1
          have q6 : x5_1 < (a0.size : Int) := of_decide_eq_true zq1
          have hx6 := bt_at a0 x5_1
          replace p6 := eq_true p6
          replace q6 := eq_true q6
          have p10 : 0 ≤ ((ji7) : Int) := of_decide_eq_true zq1
          have q10 : (ji7) < (16 : Int) := of_decide_eq_true zq1
          have hx10 := bt_at (⟨#[48, 49, 50, 51, 52, 53, 54, 55, 56, 57, 97, 98, 99, 100, 101, 102]⟩ : ByteArray) (ji7)
          replace p10 := eq_true p10
          replace q10 := eq_true q10
          have p11 : 0 ≤ (x5_1 : Int) := of_decide_eq_true zq1
          have q11 : x5_1 < (a0.size : Int) := of_decide_eq_true zq1
          have hx11 := bt_at a0 x5_1
          replace p11 := eq_true p11
          replace q11 := eq_true q11
          have p15 : 0 ≤ ((ji12) : Int) := of_decide_eq_true zq1
          have q15 : (ji12) < (16 : Int) := of_decide_eq_true zq1
          have hx15 := bt_at (⟨#[48, 49, 50, 51, 52, 53, 54, 55, 56, 57, 97, 98, 99, 100, 101, 102]⟩ : ByteArray) (ji12)
          replace p15 := eq_true p15
          replace q15 := eq_true q15
          have hb_ := bt_range a0 x5_1
          have hq1_ : IntKind.u8.wrap ((bt a0 x5_1).tdiv 16) = ji7 := by rw [← hji7, Int.tdiv_eq_ediv_of_nonneg hb_.1, IntWalk.u8_in _ zq94]; omega
          refine start_ (n := 16) (S := fun w' => True) (ds := []) #[false, false, false, false, false, false, false, false, false, false, false, false, false, false, false, false] zq17 rfl rfl trivial (fun hH => ?_); refine tbW spec_l9Hex.tab6 spec_l9Hex.bits6 (fun HT_ HW_ => ?_)
          generalize wr.drew = w17 at HO_4 HB hH ⊢
          refine pure_ (i := 0) (N := some 13) (v := ?_) (a' := ?_) #[true, false, false, false, false, false, false, false, false, false, false, false, false, false, false, false] rfl rfl (any_of HT_.out zq17) (fun _ _ _ h => h) (Or.inl ⟨zq105, ?_⟩) ?_ ?_
          rotate_left
          ·intro w'
           go_simp
           with_reducible rfl
          rotate_left
          ·simp only [Act.put, List.setIfInBounds_toArray, List.set_cons_zero, List.set_cons_succ, i64_w, i32_w]
           rfl
          refine pure_ (i := 1) (N := some 14) (v := ?_) (a' := ?_) #[true, true, false, false, false, false, false, false, false, false, false, false, false, false, false, false] rfl rfl (any_of HT_.out zq17) (fun _ _ _ h => h) (Or.inl ⟨zq105, ?_⟩) ?_ ?_
          rotate_left
          ·intro w'
           go_simp
           with_reducible rfl
          rotate_left
          ·simp only [Act.put, List.setIfInBounds_toArray, List.set_cons_zero, List.set_cons_succ, i64_w, i32_w]
           rfl
          refine pure_ (i := 2) (N := some 15) (v := ?_) (a' := ?_) #[true, true, true, false, false, false, false, false, false, false, false, false, false, false, false, false] rfl rfl (any_of HT_.out zq17) (fun _ _ _ h => h) (Or.inl ⟨zq105, ?_⟩) ?_ ?_
          rotate_left
          ·intro w'
           go_simp
           with_reducible rfl
          rotate_left
          ·simp only [Act.put, List.setIfInBounds_toArray, List.set_cons_zero, List.set_cons_succ, i64_w, i32_w]
           rfl
          refine pure_ (i := 3) (N := some 16) (v := ?_) (a' := ?_) #[true, true, true, true, false, false, false, false, false, false, false, false, false, false, false, false] rfl rfl (any_of HT_.out zq17) (fun _ _ _ h => h) (Or.inl ⟨zq105, ?_⟩) ?_ ?_
          rotate_left
          ·intro w'
           go_simp
           with_reducible rfl
          rotate_left
          ·simp only [Act.put, List.setIfInBounds_toArray, List.set_cons_zero, List.set_cons_succ, i64_w, i32_w]
           rfl
          refine pure_ (i := 7) (N := some 20) (v := ?_) (a' := ?_) #[true, true, true, true, false, false, false, true, false, false, false, false, false, false, false, false] rfl rfl (any_of HT_.out zq17) (fun _ _ _ h => h) (Or.inl ⟨zq105, ?_⟩) ?_ ?_
          rotate_left
          ·intro w'
           go_simp
           with_reducible rfl
          rotate_left
          ·simp only [Act.put, List.setIfInBounds_toArray, List.set_cons_zero, List.set_cons_succ, i64_w, i32_w]
           rfl
          refine pure_ (i := 8) (N := some 21) (v := ?_) (a' := ?_) #[true, true, true, true, false, false, false, true, true, false, false, false, false, false, false, false] rfl rfl (any_of HT_.out zq17) (fun _ _ _ h => h) (Or.inl ⟨zq105, ?_⟩) ?_ ?_
          rotate_left
          ·intro w'
           go_simp
           with_reducible rfl
          rotate_left
          ·simp only [Act.put, List.setIfInBounds_toArray, List.set_cons_zero, List.set_cons_succ, i64_w, i32_w]
           rfl
          refine pure_ (i := 9) (N := some 22) (v := ?_) (a' := ?_) #[true, true, true, true, false, false, false, true, true, true, false, false, false, false, false, false] rfl rfl (any_of HT_.out zq17) (fun _ _ _ h => h) (Or.inl ⟨zq105, ?_⟩) ?_ ?_
          rotate_left
          ·intro w'
           go_simp
           with_reducible rfl
          rotate_left
          ·simp only [Act.put, List.setIfInBounds_toArray, List.set_cons_zero, List.set_cons_succ, i64_w, i32_w]
           rfl
          refine take_ (i := 4) (N := some 17) (v := ?_) (a' := ?_) #[true, true, true, true, true, false, false, true, true, true, false, false, false, false, false, false] rfl rfl (take_ofW HT_.out HW_.out zq17) (fun _ _ _ h => h) (Or.inl ⟨zq105, ?_⟩) hH ?_ ?_
          rotate_left
          ·intro w' _
           go_simp
           with_reducible rfl
          rotate_left
          ·simp only [Act.put, List.setIfInBounds_toArray, List.set_cons_zero, List.set_cons_succ, i64_w, i32_w]
           rfl
          refine pure_ (i := 5) (N := some 18) (v := ?_) (a' := ?_) #[true, true, true, true, true, true, false, true, true, true, false, false, false, false, false, false] rfl rfl (any_of HT_.out zq17) (fun _ _ _ h => h) (Or.inl ⟨zq105, ?_⟩) ?_ ?_
          rotate_left
          ·intro w'
           go_simp
           with_reducible rfl
          rotate_left
          ·simp only [Act.put, List.setIfInBounds_toArray, List.set_cons_zero, List.set_cons_succ, i64_w, i32_w]
           rfl
          refine take_ (i := 6) (N := some 19) (v := ?_) (a' := ?_) #[true, true, true, true, true, true, true, true, true, true, false, false, false, false, false, false] rfl rfl (take_ofW HT_.out HW_.out zq17) (fun _ _ _ h => h) (Or.inl ⟨zq105, ?_⟩) hH ?_ ?_
          rotate_left
          ·intro w' _
           go_simp
           with_reducible rfl
          rotate_left
          ·simp only [Act.put, List.setIfInBounds_toArray, List.set_cons_zero, List.set_cons_succ, i64_w, i32_w]
           rfl
          refine take_ (i := 10) (N := some 23) (v := ?_) (a' := ?_) #[true, true, true, true, true, true, true, true, true, true, true, false, false, false, false, false] rfl rfl (take_ofW HT_.out HW_.out zq17) (fun _ _ _ h => h) (Or.inl ⟨zq105, ?_⟩) hH ?_ ?_
          rotate_left
          ·intro w' _
           go_simp
           with_reducible rfl
          rotate_left
          ·simp only [Act.put, List.setIfInBounds_toArray, List.set_cons_zero, List.set_cons_succ, i64_w, i32_w]
           rfl
          refine pure_ (i := 11) (N := some 24) (v := ?_) (a' := ?_) #[true, true, true, true, true, true, true, true, true, true, true, true, false, false, false, false] rfl rfl (any_of HT_.out zq17) (fun _ _ _ h => h) (Or.inl ⟨zq105, ?_⟩) ?_ ?_
          rotate_left
          ·intro w'
           go_simp
           with_reducible rfl
          rotate_left
          ·simp only [Act.put, List.setIfInBounds_toArray, List.set_cons_zero, List.set_cons_succ, i64_w, i32_w]
           rfl
          refine take_ (i := 12) (N := some 25) (v := ?_) (a' := ?_) #[true, true, true, true, true, true, true, true, true, true, true, true, true, false, false, false] rfl rfl (take_ofW HT_.out HW_.out zq17) (fun _ _ _ h => h) (Or.inl ⟨zq105, ?_⟩) hH ?_ ?_
          rotate_left
          ·intro w' _
           go_simp
           with_reducible rfl
          rotate_left
          ·simp only [Act.put, List.setIfInBounds_toArray, List.set_cons_zero, List.set_cons_succ, i64_w, i32_w]
           rfl
          refine one_ (i := 13) (N := some 26) #[true, true, true, true, true, true, true, true, true, true, true, true, true, true, false, false] rfl rfl (one_of HT_.out zq17) zq118 (fun K hK => ?_)
          refine Kd.R_lit_step (Kd.int .u8) _ 5 ?hg (N := 26) ?hd (xs := ([bt (⟨#[48, 49, 50, 51, 52, 53, 54, 55, 56, 57, 97, 98, 99, 100, 101, 102]⟩ : ByteArray) (ji7), bt (⟨#[48, 49, 50, 51, 52, 53, 54, 55, 56, 57, 97, 98, 99, 100, 101, 102]⟩ : ByteArray) (ji12)] : List Int)) (inner := [.int .u8 (bt (⟨#[48, 49, 50, 51, 52, 53, 54, 55, 56, 57, 97, 98, 99, 100, 101, 102]⟩ : ByteArray) (ji7)), .int .u8 (bt (⟨#[48, 49, 50, 51, 52, 53, 54, 55, 56, 57, 97, 98, 99, 100, 101, 102]⟩ : ByteArray) (ji12))]) (ok := fun _ => True) (okp := fun _ => True) ?hr ?hp (fun _ hk => hk) trivial (Below.refl _ _) (Nat.le_refl _) zq119 ?_; (case hd => rfl); (case hg => rfl); (case hr => first | (go_simp; done) | (go_simp; rfl)); (case hp => exact (Reps.one (show Kd.M (Kd.int .u8) _ _ _ (bt (⟨#[48, 49, 50, 51, 52, 53, 54, 55, 56, 57, 97, 98, 99, 100, 101, 102]⟩ : ByteArray) (ji7)) [.int .u8 (bt (⟨#[48, 49, 50, 51, 52, 53, 54, 55, 56, 57, 97, 98, 99, 100, 101, 102]⟩ : ByteArray) (ji7))] from rfl) (Reps.one (show Kd.M (Kd.int .u8) _ _ _ (bt (⟨#[48, 49, 50, 51, 52, 53, 54, 55, 56, 57, 97, 98, 99, 100, 101, 102]⟩ : ByteArray) (ji12)) [.int .u8 (bt (⟨#[48, 49, 50, 51, 52, 53, 54, 55, 56, 57, 97, 98, 99, 100, 101, 102]⟩ : ByteArray) (ji12))] from rfl) (Reps.none _ _))))
          intro v140 w18 ho19 hb hg_ hnew_
          clear hg_ hnew_
          (first | rw [← Ny139.out] at ho19 | (simp only [Int.reduceToNat] at ho19; rw [← Ny139.out] at ho19))
          have n0_ := AZ.mk (Kd.R_elder' (by (with_reducible repeat (first | apply Kd.R_alloc | apply Kd.R_drewN | apply Kd.R_drew)); exact HO_4.out) (Kd.R_base ho19) hb)
          have n1_ := AZ.mk (Kd.R_lower (Kd.R_new' ho19 (Kd.R_lt (by (with_reducible repeat (first | apply Kd.R_alloc | apply Kd.R_drewN | apply Kd.R_drew)); exact HO_4.out))) (below_size zq0))
          have n2_ := AZ.mk (below_step zq0 hb)
          clear HO_4
          clear HB
          have HO_4 := n0_
          have HO141 := n1_
          have HB := n2_
          clear n0_ n1_ n2_
          clear hb ho19
          obtain ⟨Ao21, co21, eo21⟩ := Kd.R_slice HO141.out
          (first | subst eo21 | (injection eo21 with f1_ f2_ f3_; have f4_ := f1_.symm; have f5_ := f3_.symm; clear f1_ f2_ f3_; subst f4_; subst f5_))
          refine hK.out _ _ trivial (fun hH => ?_)
          clear hK K
          refine norm_ (a' := ?_) ?_ ?_
          rotate_left
          ·show Act.put _ (some 26) _ = _
           simp only [Act.put, List.setIfInBounds_toArray, List.set_cons_zero, List.set_cons_succ, i64_w, i32_w]
           rfl
          refine one_ (i := 14) (N := some 27) #[true, true, true, true, true, true, true, true, true, true, true, true, true, true, true, false] rfl rfl (one_of HT_.out zq17) zq118 (fun K hK => ?_)
          refine Kd.R_append_rows_step (Kd.int .u8) (w0 := w) w.heap.size zq105 (.tmp 13) (.tmp 26) 25 5 (.int .u8 0) 1 rfl Tryd.underlying25 info5 rfl zq118 zq94 u4 x4_1 y139 _ _ _ (fun k_ => some k_ ≠ (.slice Ao21 y139.length co21 : Value).ownBlock) (fun _ => False) rfl rfl ?aO ?aR (fun _ _ h => h) (fun _ h => h.elim) ?aF ?aB ?aS ?aL ?_
          (case aR => repeat (first | exact (Kd.R_reads' HO141.out).2.2 | (with_reducible refine Kd.C_alloc ?_ _) | (with_reducible refine Kd.C_drewN ?_ _) | (with_reducible refine Kd.C_drew ?_)))
          (case aB => exact zq0)
          (case aF => exact (fun k_ hk => Kd.fresh' (Kd.R_lt (by (with_reducible repeat (first | apply Kd.R_alloc | apply Kd.R_drewN | apply Kd.R_drew)); exact HO141.out)) k_ hk))
          (case aO => exact (by (with_reducible repeat (first | apply Kd.R_alloc | apply Kd.R_drewN | apply Kd.R_drew)); exact Kd.R_mono HO_4.out (fun _ hk => hk.2)))
          (case aS => exact (below_size zq0))
          (case aL => have := LMc16.out; omega)
          intro v143 w20 ho hb hg hat
          rw [← Ny142.out] at ho
          have n0_ := AZ.mk (Kd.R_after (ok := (fun _ => True)) (by (with_reducible repeat (first | apply Kd.R_alloc | apply Kd.R_drewN | apply Kd.R_drew)); exact HO141.out) hg hat)
          have n1_ := AZ.mk (hb)
          have n2_ := AZ.mk (ho)
          clear HO141
          clear HB
          clear HO_4
          have HO141 := n0_
          have HB := n1_
          have HO144 := n2_
          clear n0_ n1_ n2_
          clear ho hb hg hat
          refine hK.out _ _ trivial (fun hH => ?_)
          clear hK K
          refine norm_ (a' := ?_) ?_ ?_
          rotate_left
          ·show Act.put _ (some 27) _ = _
           simp only [Act.put, List.setIfInBounds_toArray, List.set_cons_zero, List.set_cons_succ, i64_w, i32_w]
           rfl
          refine pure_ (i := 15) (N := some 4) (v := ?_) (a' := ?_) #[true, true, true, true, true, true, true, true, true, true, true, true, true, true, true, true] rfl rfl (any_of HT_.out zq17) (fun _ _ _ h => h) (Or.inl ⟨zq105, ?_⟩) ?_ ?_
          rotate_left
          ·intro w'
           go_simp
           with_reducible rfl
          rotate_left
          ·simp only [Act.put, List.setIfInBounds_toArray, List.set_cons_zero, List.set_cons_succ, i64_w, i32_w]
           rfl
          refine done_ (done_of HT_.out zq17) ?_
          try go_wp2
          go_roundg k1
          case measure => have := HK1.out; omega
          case rel => exact ⟨(y142), (wrap64 (x5_1 + 1)), zq8, H', ⟨zq121⟩, ⟨by (with_reducible repeat (first | apply Kd.R_alloc | apply Kd.R_drewN | apply Kd.R_drew)); exact Kd.R_mono HO144.out (fun _ hk => trivial)⟩, ⟨zq0⟩⟩
         ·rw [if_neg c16] at H
          exact absurd H zq119
        ·rw [if_neg c14] at H
         exact absurd H zq119
       ·rw [if_neg c13] at H
        exact absurd H zq119
      ·rw [if_neg c9] at H
       exact absurd H zq119
     ·rw [if_neg c8] at H
      exact absurd H zq119
    ·rw [if_neg c5] at H
     exact absurd H zq119
   ·rw [if_neg c4] at H
    have c4b0 : decide (x5_1 < (a0.size : Int)) = false := decide_eq_false c4
    clear c4
    obtain rfl := Option.some.inj H
    have hcv22 := own_string (P := Tryd.prog) Tryd.underlying25 Tryd.underlying5 Tryd.underlying9 (Kd.own_of_R HO_4.out)
    go_wp2
    go_ret
    exact ⟨zq7, zq0⟩
end Go.Proofs.YtgjipjffpodjlaaDoor.K
namespace Go.Proofs.YtgjipjffpodjlaaDoor.K
open Go.RowKit Go.Proofs.YtgjipjffpodjlaaDoorW.PrintWords Go.Proofs.YtgjipjffpodjlaaDoorW.PrintLast Go.Proofs.YtgjipjffpodjlaaDoorW.PrintMore
attribute [local go_sem] max2_int min2_int max_two min_two max_three min_three max_four min_four   
set_option linter.unusedVariables false
set_option linter.unusedSimpArgs false
mutual
def spec_Show.j0 : Nat → ByteArray → ByteArray → Int → Bool → List ByteArray → Bool → ByteArray → Option (Int × Bool × ByteArray × ByteArray × Bool)
 | 0, _, _, _, _, _, _, _ => none
 | k + 1, x0, x1, x3, x48, x146000, x146001, x146002 => if x48 = true then (some (1, false, (⟨#[]⟩ : ByteArray), (⟨#[]⟩ : ByteArray), false)) else (spec_Show.l0 k x0 x1 x3 (([] : List (List (S78)))) 0 x146000 x146001 x146002)
def spec_Show.l0 : Nat → ByteArray → ByteArray → Int → List (List (S78)) → Int → List ByteArray → Bool → ByteArray → Option (Int × Bool × ByteArray × ByteArray × Bool)
 | 0, _, _, _, _, _, _, _, _ => none
 | k + 1, x0, x1, x3, x9, x10, x146000, x146001, x146002 => if x10 < (x146000.length : Int) then (if 0 ≤ x10 then ((spec_l9Read.f k (rdOf ByteArray.empty x146000 x10) x3).bind fun bt154 => (if bt154.2 = true then (if ((rdOf ByteArray.empty x146000 x10).size : Int) > 8000 then (some (1, false, (⟨#[]⟩ : ByteArray), (⟨#[]⟩ : ByteArray), false)) else (if x9.length < 5864062014805 then (spec_Show.l0 k x0 x1 x3 (x9 ++ [bt154.1]) (wrap64 (x10 + 1)) x146000 x146001 x146002) else (none))) else (some (1, false, (⟨#[]⟩ : ByteArray), (⟨#[]⟩ : ByteArray), false)))) else (none)) else (if 0 < (x146000.length : Int) then ((spec_Sum.f k (rdOf ByteArray.empty x146000 0) x3).bind fun t164 => (if t164.toList = x0.toList then ((spec_l4Parts.f k x1).bind fun t165 => (spec_Show.l1 k x1 x3 x9 t165 0 x146000 x146001 x146002 2 false (⟨#[]⟩ : ByteArray) (⟨#[]⟩ : ByteArray) false)) else (some (2, false, (⟨#[]⟩ : ByteArray), (⟨#[]⟩ : ByteArray), false)))) else (none))
def spec_Show.l1 : Nat → ByteArray → Int → List (List (S78)) → List ByteArray → Int → List ByteArray → Bool → ByteArray → Int → Bool → ByteArray → ByteArray → Bool → Option (Int × Bool × ByteArray × ByteArray × Bool)
 | 0, _, _, _, _, _, _, _, _, _, _, _, _, _ => none
 | k + 1, x1, x3, x9, x14, x15, x146000, x146001, x146002, x163000, x163001, x163002, x163003, x163004 => if x15 < (x14.length : Int) then (if 0 ≤ x15 then (if x15 < (x9.length : Int) then ((spec_l9Find.f k (rd_L3 x9 x15) (rdOf ByteArray.empty x14 x15)).bind fun bt170 => (if (wrap64 (x15 + 1)) < (x14.length : Int) then (spec_Show.j3 k x1 x3 x9 x14 x15 (decide ((x9.length : Int) > (wrap64 (x15 + 1)))) (bt170.1 == 100) x146000 x146001 x146002 x163000 x163001 x163002 x163003 x163004 bt170.1 bt170.2.1 bt170.2.2) else (spec_Show.j3 k x1 x3 x9 x14 x15 (decide ((x9.length : Int) > (wrap64 (x15 + 1)))) false x146000 x146001 x146002 x163000 x163001 x163002 x163003 x163004 bt170.1 bt170.2.1 bt170.2.2))) else (none)) else (none)) else (some (x163000, x163001, x163002, x163003, x163004))
def spec_Show.j3 : Nat → ByteArray → Int → List (List (S78)) → List ByteArray → Int → Bool → Bool → List ByteArray → Bool → ByteArray → Int → Bool → ByteArray → ByteArray → Bool → Int → ByteArray → ByteArray → Option (Int × Bool × ByteArray × ByteArray × Bool)
 | 0, _, _, _, _, _, _, _, _, _, _, _, _, _, _, _, _, _, _ => none
 | k + 1, x1, x3, x9, x14, x15, x17, x125, x146000, x146001, x146002, x163000, x163001, x163002, x163003, x163004, x174000, x174001, x174002 => if x125 = true then (if x17 = true then (if 0 ≤ (wrap64 (x15 + 1)) then (if (wrap64 (x15 + 1)) < (x146000.length : Int) then ((spec_Sum.f k (rdOf ByteArray.empty x146000 (wrap64 (x15 + 1))) x3).bind fun t175 => ((spec_l9Hex.f k t175).bind fun t176 => (if t176.toList = x174002.toList then (spec_Show.l1 k x1 x3 x9 x14 (wrap64 (x15 + 1)) x146000 x146001 x146002 x163000 x163001 x163002 x163003 x163004) else (some (x163000, x163001, x163002, x163003, x163004))))) else (none)) else (none)) else (some (x163000, x163001, x163002, x163003, x163004))) else (if x17 = true then (some (x163000, x163001, x163002, x163003, x163004)) else (if (wrap64 (x15 + 1)) < (x14.length : Int) then (spec_Show.j4 k x1 x3 true x146000 x146001 x146002 x163000 x163001 x163002 x163003 x163004 x174000 x174001 x174002) else (if x174000 = 102 then (spec_Show.j4 k x1 x3 false x146000 x146001 x146002 x163000 x163001 x163002 x163003 x163004 x174000 x174001 x174002) else (spec_Show.j4 k x1 x3 (x174000 != 120) x146000 x146001 x146002 x163000 x163001 x163002 x163003 x163004 x174000 x174001 x174002))))
def spec_Show.j4 : Nat → ByteArray → Int → Bool → List ByteArray → Bool → ByteArray → Int → Bool → ByteArray → ByteArray → Bool → Int → ByteArray → ByteArray → Option (Int × Bool × ByteArray × ByteArray × Bool)
 | 0, _, _, _, _, _, _, _, _, _, _, _, _, _, _ => none
 | k + 1, x1, x3, x159, x146000, x146001, x146002, x163000, x163001, x163002, x163003, x163004, x174000, x174001, x174002 => if x159 = true then (if x146001 = true then (some (x163000, x163001, x163002, x163003, x163004)) else (some (0, false, (⟨#[]⟩ : ByteArray), (⟨#[]⟩ : ByteArray), false))) else (if x146001 = true then (if 5 + x146002.size ≤ 9223372036854775807 then ((spec_Sum.f k ((⟨#[102, 105, 108, 101, 32]⟩ : ByteArray) ++ x146002) x3).bind fun t177 => ((spec_l9Hex.f k t177).bind fun t178 => (if t178.toList = x174002.toList then (some (0, true, x1, x146002, (x174000 == 120))) else (some (x163000, x163001, x163002, x163003, x163004))))) else (none)) else (some (x163000, x163001, x163002, x163003, x163004)))
end
def spec_Show.f (k : Nat) (a0 : ByteArray) (a1 : ByteArray) (l2_0 : List ByteArray) (a2_1 : Bool) (a2_2 : ByteArray) (a3 : Int) : Option (Int × Bool × ByteArray × ByteArray × Bool) := (spec_ValidPath.f k a1).bind fun t147 => (if t147 = true then ((spec_l1In.f a3 1 8).bind fun t148 => (if t148 = true then ((spec_l1In.f (l2_0.length : Int) 1 7).bind fun t149 => (if t149 = true then (if (a2_2.size : Int) > 1500 then (spec_Show.j0 k a0 a1 a3 true l2_0 a2_1 a2_2) else (if a2_1 = true then (spec_Show.j0 k a0 a1 a3 false l2_0 a2_1 a2_2) else (spec_Show.j0 k a0 a1 a3 (a2_2.toList != ([] : List UInt8)) l2_0 a2_1 a2_2))) else (spec_Show.j0 k a0 a1 a3 true l2_0 a2_1 a2_2))) else (spec_Show.j0 k a0 a1 a3 true l2_0 a2_1 a2_2))) else (spec_Show.j0 k a0 a1 a3 true l2_0 a2_1 a2_2))
theorem spec_Show.mono_l : ∀ k, (∀ y0 y1 y2 y3 y4 y5 y6, LeO (spec_Show.j0 k y0 y1 y2 y3 y4 y5 y6) (spec_Show.j0 (k + 1) y0 y1 y2 y3 y4 y5 y6)) ∧ (∀ y0 y1 y2 y3 y4 y5 y6 y7, LeO (spec_Show.l0 k y0 y1 y2 y3 y4 y5 y6 y7) (spec_Show.l0 (k + 1) y0 y1 y2 y3 y4 y5 y6 y7)) ∧ (∀ y0 y1 y2 y3 y4 y5 y6 y7 y8 y9 y10 y11 y12, LeO (spec_Show.l1 k y0 y1 y2 y3 y4 y5 y6 y7 y8 y9 y10 y11 y12) (spec_Show.l1 (k + 1) y0 y1 y2 y3 y4 y5 y6 y7 y8 y9 y10 y11 y12)) ∧ (∀ y0 y1 y2 y3 y4 y5 y6 y7 y8 y9 y10 y11 y12 y13 y14 y15 y16 y17, LeO (spec_Show.j3 k y0 y1 y2 y3 y4 y5 y6 y7 y8 y9 y10 y11 y12 y13 y14 y15 y16 y17) (spec_Show.j3 (k + 1) y0 y1 y2 y3 y4 y5 y6 y7 y8 y9 y10 y11 y12 y13 y14 y15 y16 y17)) ∧ (∀ y0 y1 y2 y3 y4 y5 y6 y7 y8 y9 y10 y11 y12 y13, LeO (spec_Show.j4 k y0 y1 y2 y3 y4 y5 y6 y7 y8 y9 y10 y11 y12 y13) (spec_Show.j4 (k + 1) y0 y1 y2 y3 y4 y5 y6 y7 y8 y9 y10 y11 y12 y13))
 | 0 => ⟨fun _ _ _ _ _ _ _ r h => by simp [spec_Show.j0] at h, fun _ _ _ _ _ _ _ _ r h => by simp [spec_Show.l0] at h, fun _ _ _ _ _ _ _ _ _ _ _ _ _ r h => by simp [spec_Show.l1] at h, fun _ _ _ _ _ _ _ _ _ _ _ _ _ _ _ _ _ _ r h => by simp [spec_Show.j3] at h, fun _ _ _ _ _ _ _ _ _ _ _ _ _ _ r h => by simp [spec_Show.j4] at h⟩
 | k + 1 => by
  obtain ⟨ih0, ih1, ih2, ih3, ih4⟩ := spec_Show.mono_l k
  refine ⟨?_, ?_, ?_, ?_, ?_⟩
  ·intro y0 y1 y2 y3 y4 y5 y6
   unfold spec_Show.j0
   repeat' first
   | (with_reducible exact ih0 _ _ _ _ _ _ _)
   | (with_reducible exact ih1 _ _ _ _ _ _ _ _)
   | (with_reducible exact ih2 _ _ _ _ _ _ _ _ _ _ _ _ _)
   | (with_reducible exact ih3 _ _ _ _ _ _ _ _ _ _ _ _ _ _ _ _ _ _)
   | (with_reducible exact ih4 _ _ _ _ _ _ _ _ _ _ _ _ _ _)
   | (with_reducible exact spec_Sum.mono _ _ _)
   | (with_reducible exact spec_ValidPath.mono _ _)
   | (with_reducible exact spec_l4Parts.mono _ _)
   | (with_reducible exact spec_l9Find.mono _ _ _)
   | (with_reducible exact spec_l9Hex.mono _ _)
   | (with_reducible exact spec_l9Read.mono _ _ _)
   | (with_reducible exact LeO.refl _)
   | (with_reducible exact LeO.none _)
   | (with_reducible refine LeO.ite ?_ ?_)
   | (with_reducible refine LeO.bind ?_ (fun _ => ?_))
   | exact ih0 _ _ _ _ _ _ _
   | exact ih1 _ _ _ _ _ _ _ _
   | exact ih2 _ _ _ _ _ _ _ _ _ _ _ _ _
   | exact ih3 _ _ _ _ _ _ _ _ _ _ _ _ _ _ _ _ _ _
   | exact ih4 _ _ _ _ _ _ _ _ _ _ _ _ _ _
   | exact spec_Sum.mono _ _ _
   | exact spec_ValidPath.mono _ _
   | exact spec_l4Parts.mono _ _
   | exact spec_l9Find.mono _ _ _
   | exact spec_l9Hex.mono _ _
   | exact spec_l9Read.mono _ _ _
   | exact LeO.none _
   | refine LeO.ite ?_ ?_
   | refine LeO.bind ?_ (fun _ => ?_)
  ·intro y0 y1 y2 y3 y4 y5 y6 y7
   unfold spec_Show.l0
   repeat' first
   | (with_reducible exact ih0 _ _ _ _ _ _ _)
   | (with_reducible exact ih1 _ _ _ _ _ _ _ _)
   | (with_reducible exact ih2 _ _ _ _ _ _ _ _ _ _ _ _ _)
   | (with_reducible exact ih3 _ _ _ _ _ _ _ _ _ _ _ _ _ _ _ _ _ _)
   | (with_reducible exact ih4 _ _ _ _ _ _ _ _ _ _ _ _ _ _)
   | (with_reducible exact spec_Sum.mono _ _ _)
   | (with_reducible exact spec_ValidPath.mono _ _)
   | (with_reducible exact spec_l4Parts.mono _ _)
   | (with_reducible exact spec_l9Find.mono _ _ _)
   | (with_reducible exact spec_l9Hex.mono _ _)
   | (with_reducible exact spec_l9Read.mono _ _ _)
   | (with_reducible exact LeO.refl _)
   | (with_reducible exact LeO.none _)
   | (with_reducible refine LeO.ite ?_ ?_)
   | (with_reducible refine LeO.bind ?_ (fun _ => ?_))
   | exact ih0 _ _ _ _ _ _ _
   | exact ih1 _ _ _ _ _ _ _ _
   | exact ih2 _ _ _ _ _ _ _ _ _ _ _ _ _
   | exact ih3 _ _ _ _ _ _ _ _ _ _ _ _ _ _ _ _ _ _
   | exact ih4 _ _ _ _ _ _ _ _ _ _ _ _ _ _
   | exact spec_Sum.mono _ _ _
   | exact spec_ValidPath.mono _ _
   | exact spec_l4Parts.mono _ _
   | exact spec_l9Find.mono _ _ _
   | exact spec_l9Hex.mono _ _
   | exact spec_l9Read.mono _ _ _
   | exact LeO.none _
   | refine LeO.ite ?_ ?_
   | refine LeO.bind ?_ (fun _ => ?_)
  ·intro y0 y1 y2 y3 y4 y5 y6 y7 y8 y9 y10 y11 y12
   unfold spec_Show.l1
   repeat' first
   | (with_reducible exact ih0 _ _ _ _ _ _ _)
   | (with_reducible exact ih1 _ _ _ _ _ _ _ _)
   | (with_reducible exact ih2 _ _ _ _ _ _ _ _ _ _ _ _ _)
   | (with_reducible exact ih3 _ _ _ _ _ _ _ _ _ _ _ _ _ _ _ _ _ _)
   | (with_reducible exact ih4 _ _ _ _ _ _ _ _ _ _ _ _ _ _)
   | (with_reducible exact spec_Sum.mono _ _ _)
   | (with_reducible exact spec_ValidPath.mono _ _)
   | (with_reducible exact spec_l4Parts.mono _ _)
   | (with_reducible exact spec_l9Find.mono _ _ _)
   | (with_reducible exact spec_l9Hex.mono _ _)
   | (with_reducible exact spec_l9Read.mono _ _ _)
   | (with_reducible exact LeO.refl _)
   | (with_reducible exact LeO.none _)
   | (with_reducible refine LeO.ite ?_ ?_)
   | (with_reducible refine LeO.bind ?_ (fun _ => ?_))
   | exact ih0 _ _ _ _ _ _ _
   | exact ih1 _ _ _ _ _ _ _ _
   | exact ih2 _ _ _ _ _ _ _ _ _ _ _ _ _
   | exact ih3 _ _ _ _ _ _ _ _ _ _ _ _ _ _ _ _ _ _
   | exact ih4 _ _ _ _ _ _ _ _ _ _ _ _ _ _
   | exact spec_Sum.mono _ _ _
   | exact spec_ValidPath.mono _ _
   | exact spec_l4Parts.mono _ _
   | exact spec_l9Find.mono _ _ _
   | exact spec_l9Hex.mono _ _
   | exact spec_l9Read.mono _ _ _
   | exact LeO.none _
   | refine LeO.ite ?_ ?_
   | refine LeO.bind ?_ (fun _ => ?_)
  ·intro y0 y1 y2 y3 y4 y5 y6 y7 y8 y9 y10 y11 y12 y13 y14 y15 y16 y17
   unfold spec_Show.j3
   repeat' first
   | (with_reducible exact ih0 _ _ _ _ _ _ _)
   | (with_reducible exact ih1 _ _ _ _ _ _ _ _)
   | (with_reducible exact ih2 _ _ _ _ _ _ _ _ _ _ _ _ _)
   | (with_reducible exact ih3 _ _ _ _ _ _ _ _ _ _ _ _ _ _ _ _ _ _)
   | (with_reducible exact ih4 _ _ _ _ _ _ _ _ _ _ _ _ _ _)
   | (with_reducible exact spec_Sum.mono _ _ _)
   | (with_reducible exact spec_ValidPath.mono _ _)
   | (with_reducible exact spec_l4Parts.mono _ _)
   | (with_reducible exact spec_l9Find.mono _ _ _)
   | (with_reducible exact spec_l9Hex.mono _ _)
   | (with_reducible exact spec_l9Read.mono _ _ _)
   | (with_reducible exact LeO.refl _)
   | (with_reducible exact LeO.none _)
   | (with_reducible refine LeO.ite ?_ ?_)
   | (with_reducible refine LeO.bind ?_ (fun _ => ?_))
   | exact ih0 _ _ _ _ _ _ _
   | exact ih1 _ _ _ _ _ _ _ _
   | exact ih2 _ _ _ _ _ _ _ _ _ _ _ _ _
   | exact ih3 _ _ _ _ _ _ _ _ _ _ _ _ _ _ _ _ _ _
   | exact ih4 _ _ _ _ _ _ _ _ _ _ _ _ _ _
   | exact spec_Sum.mono _ _ _
   | exact spec_ValidPath.mono _ _
   | exact spec_l4Parts.mono _ _
   | exact spec_l9Find.mono _ _ _
   | exact spec_l9Hex.mono _ _
   | exact spec_l9Read.mono _ _ _
   | exact LeO.none _
   | refine LeO.ite ?_ ?_
   | refine LeO.bind ?_ (fun _ => ?_)
  ·intro y0 y1 y2 y3 y4 y5 y6 y7 y8 y9 y10 y11 y12 y13
   unfold spec_Show.j4
   repeat' first
   | (with_reducible exact ih0 _ _ _ _ _ _ _)
   | (with_reducible exact ih1 _ _ _ _ _ _ _ _)
   | (with_reducible exact ih2 _ _ _ _ _ _ _ _ _ _ _ _ _)
   | (with_reducible exact ih3 _ _ _ _ _ _ _ _ _ _ _ _ _ _ _ _ _ _)
   | (with_reducible exact ih4 _ _ _ _ _ _ _ _ _ _ _ _ _ _)
   | (with_reducible exact spec_Sum.mono _ _ _)
   | (with_reducible exact spec_ValidPath.mono _ _)
   | (with_reducible exact spec_l4Parts.mono _ _)
   | (with_reducible exact spec_l9Find.mono _ _ _)
   | (with_reducible exact spec_l9Hex.mono _ _)
   | (with_reducible exact spec_l9Read.mono _ _ _)
   | (with_reducible exact LeO.refl _)
   | (with_reducible exact LeO.none _)
   | (with_reducible refine LeO.ite ?_ ?_)
   | (with_reducible refine LeO.bind ?_ (fun _ => ?_))
   | exact ih0 _ _ _ _ _ _ _
   | exact ih1 _ _ _ _ _ _ _ _
   | exact ih2 _ _ _ _ _ _ _ _ _ _ _ _ _
   | exact ih3 _ _ _ _ _ _ _ _ _ _ _ _ _ _ _ _ _ _
   | exact ih4 _ _ _ _ _ _ _ _ _ _ _ _ _ _
   | exact spec_Sum.mono _ _ _
   | exact spec_ValidPath.mono _ _
   | exact spec_l4Parts.mono _ _
   | exact spec_l9Find.mono _ _ _
   | exact spec_l9Hex.mono _ _
   | exact spec_l9Read.mono _ _ _
   | exact LeO.none _
   | refine LeO.ite ?_ ?_
   | refine LeO.bind ?_ (fun _ => ?_)
theorem spec_Show.mono : ∀ a0 a1 a2 a3 a4 a5 k, LeO (spec_Show.f k a0 a1 a2 a3 a4 a5) (spec_Show.f (k + 1) a0 a1 a2 a3 a4 a5) := by
 intro a0 a1 a2 a3 a4 a5 k
 obtain ⟨ih0, ih1, ih2, ih3, ih4⟩ := spec_Show.mono_l k
 unfold spec_Show.f
 repeat' first
   | (with_reducible exact ih0 _ _ _ _ _ _ _)
   | (with_reducible exact ih1 _ _ _ _ _ _ _ _)
   | (with_reducible exact ih2 _ _ _ _ _ _ _ _ _ _ _ _ _)
   | (with_reducible exact ih3 _ _ _ _ _ _ _ _ _ _ _ _ _ _ _ _ _ _)
   | (with_reducible exact ih4 _ _ _ _ _ _ _ _ _ _ _ _ _ _)
   | (with_reducible exact spec_Sum.mono _ _ _)
   | (with_reducible exact spec_ValidPath.mono _ _)
   | (with_reducible exact spec_l4Parts.mono _ _)
   | (with_reducible exact spec_l9Find.mono _ _ _)
   | (with_reducible exact spec_l9Hex.mono _ _)
   | (with_reducible exact spec_l9Read.mono _ _ _)
   | (with_reducible exact LeO.refl _)
   | (with_reducible exact LeO.none _)
   | (with_reducible refine LeO.ite ?_ ?_)
   | (with_reducible refine LeO.bind ?_ (fun _ => ?_))
   | exact ih0 _ _ _ _ _ _ _
   | exact ih1 _ _ _ _ _ _ _ _
   | exact ih2 _ _ _ _ _ _ _ _ _ _ _ _ _
   | exact ih3 _ _ _ _ _ _ _ _ _ _ _ _ _ _ _ _ _ _
   | exact ih4 _ _ _ _ _ _ _ _ _ _ _ _ _ _
   | exact spec_Sum.mono _ _ _
   | exact spec_ValidPath.mono _ _
   | exact spec_l4Parts.mono _ _
   | exact spec_l9Find.mono _ _ _
   | exact spec_l9Hex.mono _ _
   | exact spec_l9Read.mono _ _ _
   | exact LeO.none _
   | refine LeO.ite ?_ ?_
   | refine LeO.bind ?_ (fun _ => ?_)
def spec_Show.T18 : Bool × List (List Nat × List Nat) := (true, [([], []), ([], []), ([0, 1], [0, 1]), ([2], [2]), ([], []), ([], []), ([4, 5], [4, 5]), ([6], [6]), ([3, 7], [3, 7]), ([], []), ([9, 8, 8, 0, 1, 2, 3, 4, 5, 6, 7, 8, 9], [8, 9])])
def spec_Show.B18 : List Nat := [0, 0, 3, 7, 0, 0, 48, 112, 255, 0, 1023]
theorem spec_Show.tab18 : rtab .any (opsOf Tryd.f11 18) = spec_Show.T18 := by kernel_rfl
theorem spec_Show.bits18 : waitsOk spec_Show.T18.2 spec_Show.B18 = true := by kernel_rfl
def spec_Show.T21 : Bool × List (List Nat × List Nat) := (true, [([], []), ([0], [0]), ([1], [1]), ([2], [2]), ([3, 2], [2, 3]), ([2], [2]), ([5, 2], [2, 5]), ([4, 6, 2], [2, 4, 6]), ([7, 2], [2, 7]), ([2], [2]), ([8, 9, 2, 2], [2, 8, 9]), ([10, 10, 2], [2, 10]), ([2], [2]), ([12, 2], [2, 12]), ([11, 13, 2], [2, 11, 13]), ([2, 14], [2, 14])])
def spec_Show.B21 : List Nat := [0, 1, 3, 7, 15, 7, 39, 127, 255, 7, 1023, 2047, 7, 4103, 16383, 32767]
theorem spec_Show.tab21 : rtab .any (opsOf Tryd.f11 21) = spec_Show.T21 := by kernel_rfl
theorem spec_Show.bits21 : waitsOk spec_Show.T21.2 spec_Show.B21 = true := by kernel_rfl
def spec_Show.T29 : Bool × List (List Nat × List Nat) := (true, [([], []), ([0], [0]), ([1], [1]), ([2], [2]), ([3], [3]), ([4, 3], [3, 4]), ([5, 3], [3, 5]), ([3], [3]), ([6, 7, 3, 3], [3, 6, 7]), ([8, 8, 3], [3, 8]), ([3], [3]), ([10, 3], [3, 10]), ([9, 11, 3], [3, 9, 11]), ([3, 12], [3, 12])])
def spec_Show.B29 : List Nat := [0, 1, 3, 7, 15, 31, 63, 15, 255, 511, 15, 1039, 4095, 8191]
theorem spec_Show.tab29 : rtab .any (opsOf Tryd.f11 29) = spec_Show.T29 := by kernel_rfl
theorem spec_Show.bits29 : waitsOk spec_Show.T29.2 spec_Show.B29 = true := by kernel_rfl
set_option maxHeartbeats 2000000 in
set_option maxRecDepth 100000 in
theorem spec_Show.calls (k : Nat) (a0 : ByteArray) (a1 : ByteArray) (A2_0 : Option Addr) (c2_0 : Nat) (l2_0 : List ByteArray) (a2_1 : Bool) (a2_2 : ByteArray) (a3 : Int) (r1 : Int) (r2 : Bool) (r3 : ByteArray) (r4 : ByteArray) (r5 : Bool) (w : World) (hr2_0 : Kd.C Kd.string w A2_0 l2_0.length l2_0) (hc2_0 : l2_0.length ≤ c2_0) (h : spec_Show.f k a0 a1 l2_0 a2_1 a2_2 a3 = some (r1, r2, r3, r4, r5)) :
  Calls Tryd.prog 11 #[.string a0, .string a1, .agg #[.slice A2_0 l2_0.length c2_0, .bool a2_1, .string a2_2], .int .i64 a3] w fun e w' => e = .returned (.agg #[.int .i64 r1, .bool r2, .string r3, .string r4, .bool r5]) ∧ Below w.heap.size w w' := by
 have hu38 := Tryd.underlying38
 have hu36 := Tryd.underlying36
 have hu78 := Tryd.underlying78
 have hu34 := Tryd.underlying34
 have HR2_0 := AZ.mk hr2_0
 have HC2_0 := AZ.mk hc2_0
 clear hr2_0 hc2_0
 have HB := AZ.mk (Below.refl w.heap.size w)
 have H : ((spec_ValidPath.f k a1).bind fun t147 => (if t147 = true then ((spec_l1In.f a3 1 8).bind fun t148 => (if t148 = true then ((spec_l1In.f (l2_0.length : Int) 1 7).bind fun t149 => (if t149 = true then (if (a2_2.size : Int) > 1500 then (spec_Show.j0 k a0 a1 a3 true l2_0 a2_1 a2_2) else (if a2_1 = true then (spec_Show.j0 k a0 a1 a3 false l2_0 a2_1 a2_2) else (spec_Show.j0 k a0 a1 a3 (a2_2.toList != ([] : List UInt8)) l2_0 a2_1 a2_2))) else (spec_Show.j0 k a0 a1 a3 true l2_0 a2_1 a2_2))) else (spec_Show.j0 k a0 a1 a3 true l2_0 a2_1 a2_2))) else (spec_Show.j0 k a0 a1 a3 true l2_0 a2_1 a2_2))) = some (r1, r2, r3, r4, r5) := h
 clear h
 have HC5 := AZ.mk H
 clear H
 go_enter Tryd.func11, Tryd.ntmps11
 go_upto_region 1 with (first | ((with_reducible refine gate_dst (N := 6) rfl ?_); (try (refine gate_guard zq105 ?_; dsimp only)); refine box_event ?hg (N := 6) ?hd (cs := #[.slice A2_0 l2_0.length c2_0, .bool a2_1, .string a2_2]) (t := 38) ?hr ?_; (case hd => rfl); (case hg => rfl); (case hr => first | (go_simp; done) | (go_simp; rfl)); intro gb145 hg w6 hbox hb; have n0_ := AZ.mk (below_step zq0 hb); have n1_ := AZ.mk (hbox); have n2_ := AZ.mk ((by rw [hg]; exact (below_size zq0) : w.heap.size ≤ gb145)); have n3_ := AZ.mk ((by rw [hg]; exact (below_size zq0) : w.heap.size ≤ gb145)); clear HB; have HB := n0_; have BK145 := n1_; have GW145 := n2_; have GE145 := n3_; clear n0_ n1_ n2_ n3_; clear hb hbox hg) | ((with_reducible refine gate_dst (N := 8) rfl ?_); (try (refine gate_guard zq105 ?_; dsimp only)); refine box_event ?hg (N := 8) ?hd (cs := #[.int .i64 0, .bool false, .string (⟨#[]⟩ : ByteArray), .string (⟨#[]⟩ : ByteArray), .bool false]) (t := 36) ?hr ?_; (case hd => rfl); (case hg => rfl); (case hr => first | (go_simp; done) | (go_simp; rfl)); intro gb146 hg w7 hbox hb; have n0_ := AZ.mk (blk_below (g := gb145) (o := .cells #[.slice A2_0 l2_0.length c2_0, .bool a2_1, .string a2_2] 38 (0, 0)) zq9 hb); have n1_ := AZ.mk (below_step zq111 hb); have n2_ := AZ.mk (hbox); have n3_ := AZ.mk ((by rw [hg]; exact (below_size zq111) : w.heap.size ≤ gb146)); have n4_ := AZ.mk ((by rw [hg]; exact (below_size zq111) : w.heap.size ≤ gb146)); have n5_ := AZ.mk ((by rw [hg]; exact Nat.ne_of_lt (blk_lt (g := gb145) (o := .cells #[.slice A2_0 l2_0.length c2_0, .bool a2_1, .string a2_2] 38 (0, 0)) zq9) : gb145 ≠ gb146)); have n6_ := AZ.mk ((by rw [hg]; exact Nat.ne_of_gt (blk_lt (g := gb145) (o := .cells #[.slice A2_0 l2_0.length c2_0, .bool a2_1, .string a2_2] 38 (0, 0)) zq9) : gb146 ≠ gb145)); clear BK145; clear HB; have BK145 := n0_; have HB := n1_; have BK146 := n2_; have GW146 := n3_; have GE146 := n4_; have NB145_146 := n5_; have NB146_145 := n6_; clear n0_ n1_ n2_ n3_ n4_ n5_ n6_; clear hb hbox hg))
 (try simp only [Act.put, List.setIfInBounds_toArray, List.set_cons_zero, List.set_cons_succ])
 go_cut [48] (fun v48 wc => ∃ (kq : Nat) (x48_4 : Bool), v48 = .bool x48_4 ∧ AZ (spec_Show.j0 kq a0 a1 a3 x48_4 l2_0 a2_1 a2_2 = some (r1, r2, r3, r4, r5)) ∧ AZ (kq ≤ k) ∧ AZ (wc.heap[gb145]? = some (.cells #[(.slice A2_0 l2_0.length c2_0), .bool a2_1, .string a2_2] 38 (0, 0))) ∧ AZ (wc.heap[gb146]? = some (.cells #[.int .i64 0, .bool false, .string (⟨#[]⟩ : ByteArray), .string (⟨#[]⟩ : ByteArray), .bool false] 36 (0, 0))) ∧ AZ (Below w.heap.size w wc))
 case first =>
  have H := HC5.out
  clear HC5
  replace H := Option.bind_eq_some_iff.mp H
  obtain ⟨t147, A80, H⟩ := H
  try dsimp only at H
  have A8 := AZ.mk A80
  clear A80
  by_cases c9 : t147 = true
  ·subst c9
   rw [if_pos rfl] at H
   replace H := Option.bind_eq_some_iff.mp H
   obtain ⟨t148, A100, H⟩ := H
   try dsimp only at H
   have A10 := AZ.mk A100
   clear A100
   by_cases c11 : t148 = true
   ·subst c11
    rw [if_pos rfl] at H
    replace H := Option.bind_eq_some_iff.mp H
    obtain ⟨t149, A120, H⟩ := H
    try dsimp only at H
    have A12 := AZ.mk A120
    clear A120
    by_cases c13 : t149 = true
    ·subst c13
     rw [if_pos rfl] at H
     by_cases c14 : (a2_2.size : Int) > 1500
     ·rw [if_pos c14] at H
      have c14b0 : decide (1500 < (a2_2.size : Int)) = true := decide_eq_true c14
      have c14b1 : decide (1500 < a2_2.size) = true := decide_eq_true zq94
      clear c14
      (first | rw [c14b0] | (simp only [i64_w, i32_w]; rw [c14b0]) | skip)
      have H' := AZ.mk H
      clear H
      go_wp2_with (first | ((with_reducible refine gate_callee (f := 19) rfl ?_); refine goesL_ (some 19) rfl rfl Tryd.func19 zq17 rfl #[.string a1] rfl zq2 ?_; (with_reducible refine (spec_ValidPath.calls k a1 true _ A8.out).mono ?_); rintro e w15 ⟨rfl, hb⟩; refine ⟨_, rfl, ?_⟩; have n0_ := AZ.mk (blk_below (g := gb145) (o := .cells #[.slice A2_0 l2_0.length c2_0, .bool a2_1, .string a2_2] 38 (0, 0)) zq9 hb); have n1_ := AZ.mk (blk_below (g := gb146) (o := .cells #[.int .i64 0, .bool false, .string (⟨#[]⟩ : ByteArray), .string (⟨#[]⟩ : ByteArray), .bool false] 36 (0, 0)) zq12 hb); have n2_ := AZ.mk (below_step zq4 hb); clear BK145; clear BK146; clear HB; have BK145 := n0_; have BK146 := n1_; have HB := n2_; clear n0_ n1_ n2_; (try clear hb); (try clear hb2); (try clear hk); (try clear hi)) | (go_at_call 39; (with_reducible refine (spec_l1In.calls a3 1 8 true _ A10.out).mono ?_); rintro e w' ⟨rfl, ⟨nd, rfl⟩⟩; have hnb16 := NB145_146.out; have hnc16 := NB146_145.out; have hcz17_0 : w15.cell? ⟨gb145, 0, none⟩ = some (.slice A2_0 l2_0.length c2_0) := (blk_cell BK145.out 0).trans rfl; have hcz17_1 : w15.cell? ⟨gb145, 1, none⟩ = some (.bool a2_1) := (blk_cell BK145.out 1).trans rfl; have hcz17_2 : w15.cell? ⟨gb145, 2, none⟩ = some (.string a2_2) := (blk_cell BK145.out 2).trans rfl; have hfz17_0 := blk_frozen BK145.out 0; have hfz17_1 := blk_frozen BK145.out 1; have hfz17_2 := blk_frozen BK145.out 2) | (go_at_call 39; (with_reducible refine (spec_l1In.calls (l2_0.length : Int) 1 7 true _ A12.out).mono ?_); rintro e w' ⟨rfl, ⟨nd, rfl⟩⟩))
      go_meet
      case rel => exact ⟨_, (true), zq8, H', ⟨zq82⟩, ⟨zq9⟩, ⟨zq12⟩, ⟨zq4⟩⟩
     ·rw [if_neg c14] at H
      have c14b0 : decide (1500 < (a2_2.size : Int)) = false := decide_eq_false c14
      have c14b1 : decide (1500 < a2_2.size) = false := decide_eq_false zq94
      clear c14
      (first | rw [c14b0] | (simp only [i64_w, i32_w]; rw [c14b0]) | skip)
      by_cases c18 : a2_1 = true
      ·subst c18
       rw [if_pos rfl] at H
       have H' := AZ.mk H
       clear H
       go_wp2_with (first | ((with_reducible refine gate_callee (f := 19) rfl ?_); refine goesL_ (some 19) rfl rfl Tryd.func19 zq17 rfl #[.string a1] rfl zq2 ?_; (with_reducible refine (spec_ValidPath.calls k a1 true _ A8.out).mono ?_); rintro e w19 ⟨rfl, hb⟩; refine ⟨_, rfl, ?_⟩; have n0_ := AZ.mk (blk_below (g := gb145) (o := .cells #[.slice A2_0 l2_0.length c2_0, .bool true, .string a2_2] 38 (0, 0)) zq9 hb); have n1_ := AZ.mk (blk_below (g := gb146) (o := .cells #[.int .i64 0, .bool false, .string (⟨#[]⟩ : ByteArray), .string (⟨#[]⟩ : ByteArray), .bool false] 36 (0, 0)) zq12 hb); have n2_ := AZ.mk (below_step zq4 hb); clear BK145; clear BK146; clear HB; have BK145 := n0_; have BK146 := n1_; have HB := n2_; clear n0_ n1_ n2_; (try clear hb); (try clear hb2); (try clear hk); (try clear hi)) | (go_at_call 39; (with_reducible refine (spec_l1In.calls a3 1 8 true _ A10.out).mono ?_); rintro e w' ⟨rfl, ⟨nd, rfl⟩⟩; have hnb20 := NB145_146.out; have hnc20 := NB146_145.out; have hcz21_0 : w19.cell? ⟨gb145, 0, none⟩ = some (.slice A2_0 l2_0.length c2_0) := (blk_cell BK145.out 0).trans rfl; have hcz21_1 : w19.cell? ⟨gb145, 1, none⟩ = some (.bool true) := (blk_cell BK145.out 1).trans rfl; have hcz21_2 : w19.cell? ⟨gb145, 2, none⟩ = some (.string a2_2) := (blk_cell BK145.out 2).trans rfl; have hfz21_0 := blk_frozen BK145.out 0; have hfz21_1 := blk_frozen BK145.out 1; have hfz21_2 := blk_frozen BK145.out 2) | (go_at_call 39; (with_reducible refine (spec_l1In.calls (l2_0.length : Int) 1 7 true _ A12.out).mono ?_); rintro e w' ⟨rfl, ⟨nd, rfl⟩⟩))
       go_meet
       case rel => exact ⟨_, (false), zq8, H', ⟨zq82⟩, ⟨zq9⟩, ⟨zq12⟩, ⟨zq4⟩⟩
      ·replace c18 := Bool.eq_false_iff.mpr c18
       subst c18
       rw [if_neg (show ¬ (false = true) by decide)] at H
       have H' := AZ.mk H
       clear H
       go_wp2_with (first | ((with_reducible refine gate_callee (f := 19) rfl ?_); refine goesL_ (some 19) rfl rfl Tryd.func19 zq17 rfl #[.string a1] rfl zq2 ?_; (with_reducible refine (spec_ValidPath.calls k a1 true _ A8.out).mono ?_); rintro e w22 ⟨rfl, hb⟩; refine ⟨_, rfl, ?_⟩; have n0_ := AZ.mk (blk_below (g := gb145) (o := .cells #[.slice A2_0 l2_0.length c2_0, .bool false, .string a2_2] 38 (0, 0)) zq9 hb); have n1_ := AZ.mk (blk_below (g := gb146) (o := .cells #[.int .i64 0, .bool false, .string (⟨#[]⟩ : ByteArray), .string (⟨#[]⟩ : ByteArray), .bool false] 36 (0, 0)) zq12 hb); have n2_ := AZ.mk (below_step zq4 hb); clear BK145; clear BK146; clear HB; have BK145 := n0_; have BK146 := n1_; have HB := n2_; clear n0_ n1_ n2_; (try clear hb); (try clear hb2); (try clear hk); (try clear hi)) | (go_at_call 39; (with_reducible refine (spec_l1In.calls a3 1 8 true _ A10.out).mono ?_); rintro e w' ⟨rfl, ⟨nd, rfl⟩⟩; have hnb23 := NB145_146.out; have hnc23 := NB146_145.out; have hcz24_0 : w22.cell? ⟨gb145, 0, none⟩ = some (.slice A2_0 l2_0.length c2_0) := (blk_cell BK145.out 0).trans rfl; have hcz24_1 : w22.cell? ⟨gb145, 1, none⟩ = some (.bool false) := (blk_cell BK145.out 1).trans rfl; have hcz24_2 : w22.cell? ⟨gb145, 2, none⟩ = some (.string a2_2) := (blk_cell BK145.out 2).trans rfl; have hfz24_0 := blk_frozen BK145.out 0; have hfz24_1 := blk_frozen BK145.out 1; have hfz24_2 := blk_frozen BK145.out 2) | (go_at_call 39; (with_reducible refine (spec_l1In.calls (l2_0.length : Int) 1 7 true _ A12.out).mono ?_); rintro e w' ⟨rfl, ⟨nd, rfl⟩⟩))
       go_meet
       case rel => exact ⟨_, ((a2_2.toList != ([] : List UInt8))), (by first | rfl | (simp; done) | (simp [*]; done) | (simp; cases a2_2.toList <;> rfl)), H', ⟨zq82⟩, ⟨zq9⟩, ⟨zq12⟩, ⟨zq4⟩⟩
    ·replace c13 := Bool.eq_false_iff.mpr c13
     subst c13
     rw [if_neg (show ¬ (false = true) by decide)] at H
     have H' := AZ.mk H
     clear H
     go_wp2_with (first | ((with_reducible refine gate_callee (f := 19) rfl ?_); refine goesL_ (some 19) rfl rfl Tryd.func19 zq17 rfl #[.string a1] rfl zq2 ?_; (with_reducible refine (spec_ValidPath.calls k a1 true _ A8.out).mono ?_); rintro e w25 ⟨rfl, hb⟩; refine ⟨_, rfl, ?_⟩; have n0_ := AZ.mk (blk_below (g := gb145) (o := .cells #[.slice A2_0 l2_0.length c2_0, .bool a2_1, .string a2_2] 38 (0, 0)) zq9 hb); have n1_ := AZ.mk (blk_below (g := gb146) (o := .cells #[.int .i64 0, .bool false, .string (⟨#[]⟩ : ByteArray), .string (⟨#[]⟩ : ByteArray), .bool false] 36 (0, 0)) zq12 hb); have n2_ := AZ.mk (below_step zq4 hb); clear BK145; clear BK146; clear HB; have BK145 := n0_; have BK146 := n1_; have HB := n2_; clear n0_ n1_ n2_; (try clear hb); (try clear hb2); (try clear hk); (try clear hi)) | (go_at_call 39; (with_reducible refine (spec_l1In.calls a3 1 8 true _ A10.out).mono ?_); rintro e w' ⟨rfl, ⟨nd, rfl⟩⟩; have hnb26 := NB145_146.out; have hnc26 := NB146_145.out; have hcz27_0 : w25.cell? ⟨gb145, 0, none⟩ = some (.slice A2_0 l2_0.length c2_0) := (blk_cell BK145.out 0).trans rfl; have hcz27_1 : w25.cell? ⟨gb145, 1, none⟩ = some (.bool a2_1) := (blk_cell BK145.out 1).trans rfl; have hcz27_2 : w25.cell? ⟨gb145, 2, none⟩ = some (.string a2_2) := (blk_cell BK145.out 2).trans rfl; have hfz27_0 := blk_frozen BK145.out 0; have hfz27_1 := blk_frozen BK145.out 1; have hfz27_2 := blk_frozen BK145.out 2) | (go_at_call 39; (with_reducible refine (spec_l1In.calls (l2_0.length : Int) 1 7 false _ A12.out).mono ?_); rintro e w' ⟨rfl, ⟨nd, rfl⟩⟩))
     go_meet
     case rel => exact ⟨_, (true), zq8, H', ⟨zq82⟩, ⟨zq9⟩, ⟨zq12⟩, ⟨zq4⟩⟩
   ·replace c11 := Bool.eq_false_iff.mpr c11
    subst c11
    rw [if_neg (show ¬ (false = true) by decide)] at H
    have H' := AZ.mk H
    clear H
    go_wp2_with (first | ((with_reducible refine gate_callee (f := 19) rfl ?_); refine goesL_ (some 19) rfl rfl Tryd.func19 zq17 rfl #[.string a1] rfl zq2 ?_; (with_reducible refine (spec_ValidPath.calls k a1 true _ A8.out).mono ?_); rintro e w28 ⟨rfl, hb⟩; refine ⟨_, rfl, ?_⟩; have n0_ := AZ.mk (blk_below (g := gb145) (o := .cells #[.slice A2_0 l2_0.length c2_0, .bool a2_1, .string a2_2] 38 (0, 0)) zq9 hb); have n1_ := AZ.mk (blk_below (g := gb146) (o := .cells #[.int .i64 0, .bool false, .string (⟨#[]⟩ : ByteArray), .string (⟨#[]⟩ : ByteArray), .bool false] 36 (0, 0)) zq12 hb); have n2_ := AZ.mk (below_step zq4 hb); clear BK145; clear BK146; clear HB; have BK145 := n0_; have BK146 := n1_; have HB := n2_; clear n0_ n1_ n2_; (try clear hb); (try clear hb2); (try clear hk); (try clear hi)) | (go_at_call 39; (with_reducible refine (spec_l1In.calls a3 1 8 false _ A10.out).mono ?_); rintro e w' ⟨rfl, ⟨nd, rfl⟩⟩))
    go_meet
    case rel => exact ⟨_, (true), zq8, H', ⟨zq82⟩, ⟨zq9⟩, ⟨zq12⟩, ⟨zq4⟩⟩
  ·replace c9 := Bool.eq_false_iff.mpr c9
   subst c9
   rw [if_neg (show ¬ (false = true) by decide)] at H
   have H' := AZ.mk H
   clear H
   go_wp2_with (first | ((with_reducible refine gate_callee (f := 19) rfl ?_); refine goesL_ (some 19) rfl rfl Tryd.func19 zq17 rfl #[.string a1] rfl zq2 ?_; (with_reducible refine (spec_ValidPath.calls k a1 false _ A8.out).mono ?_); rintro e w29 ⟨rfl, hb⟩; refine ⟨_, rfl, ?_⟩; have n0_ := AZ.mk (blk_below (g := gb145) (o := .cells #[.slice A2_0 l2_0.length c2_0, .bool a2_1, .string a2_2] 38 (0, 0)) zq9 hb); have n1_ := AZ.mk (blk_below (g := gb146) (o := .cells #[.int .i64 0, .bool false, .string (⟨#[]⟩ : ByteArray), .string (⟨#[]⟩ : ByteArray), .bool false] 36 (0, 0)) zq12 hb); have n2_ := AZ.mk (below_step zq4 hb); clear BK145; clear BK146; clear HB; have BK145 := n0_; have BK146 := n1_; have HB := n2_; clear n0_ n1_ n2_; (try clear hb); (try clear hb2); (try clear hk); (try clear hi)))
   go_meet
   case rel => exact ⟨_, (true), zq8, H', ⟨zq82⟩, ⟨zq9⟩, ⟨zq12⟩, ⟨zq4⟩⟩
 case rest =>
  clear HC5
  try clear c1
  try clear c2
  try clear p2
  try clear c9
  try clear c11
  try clear c13
  try clear c14
  try clear c14b0
  try clear c14b1
  try clear c16
  try clear c18
  try clear c19
  try clear c20
  try clear c23
  try clear c26
  try clear hcz17_0
  try clear hcz17_1
  try clear hcz17_2
  try clear hcz21_0
  try clear hcz21_1
  try clear hcz21_2
  try clear hcz24_0
  try clear hcz24_1
  try clear hcz24_2
  try clear hcz27_0
  try clear hcz27_1
  try clear hcz27_2
  try clear hfz17_0
  try clear hfz17_1
  try clear hfz17_2
  try clear hfz21_0
  try clear hfz21_1
  try clear hfz21_2
  try clear hfz24_0
  try clear hfz24_1
  try clear hfz24_2
  try clear hfz27_0
  try clear hfz27_1
  try clear hfz27_2
  obtain ⟨kq, x48_4, rfl, HA, HJ4, BK145, BK146, HB⟩ := hcut
  cases kq with
  | zero => exact absurd HA.out (by simp [spec_Show.j0])
  | succ kj4 =>
   have H := HA.out
   clear HA
   simp only [spec_Show.j0] at H
   by_cases c30 : x48_4 = true
   ·subst c30
    rw [if_pos rfl] at H
    simp only [Option.some.injEq, Prod.mk.injEq] at H
    obtain ⟨rfl, rfl, rfl, rfl, rfl⟩ := H
    have hnb31 := NB146_145.out
    have hnc31 := NB145_146.out
    have hcz32_0 : wc.cell? ⟨gb146, 0, none⟩ = some (.int .i64 0) := (blk_cell BK146.out 0).trans rfl
    have hcz32_1 : wc.cell? ⟨gb146, 1, none⟩ = some (.bool false) := (blk_cell BK146.out 1).trans rfl
    have hcz32_2 : wc.cell? ⟨gb146, 2, none⟩ = some (.string (⟨#[]⟩ : ByteArray)) := (blk_cell BK146.out 2).trans rfl
    have hcz32_3 : wc.cell? ⟨gb146, 3, none⟩ = some (.string (⟨#[]⟩ : ByteArray)) := (blk_cell BK146.out 3).trans rfl
    have hcz32_4 : wc.cell? ⟨gb146, 4, none⟩ = some (.bool false) := (blk_cell BK146.out 4).trans rfl
    have hfz32_0 := blk_frozen BK146.out 0
    have hfz32_1 := blk_frozen BK146.out 1
    have hfz32_2 := blk_frozen BK146.out 2
    have hfz32_3 := blk_frozen BK146.out 3
    have hfz32_4 := blk_frozen BK146.out 4
    go_wp2
    refine bodyPost_ret (results_cell_row rfl _ _ gb146 36 #[.int .i64 1, .bool false, .string (⟨#[]⟩ : ByteArray), .string (⟨#[]⟩ : ByteArray), .bool false] (0, 0) _ rfl (by (with_reducible repeat (first | refine blk_drewN ?_ _ | refine blk_drew ?_ | refine blk_alloc ?_ _)); refine blk_put (cs := #[.int .i64 1, .bool false, .string (⟨#[]⟩ : ByteArray), .string (⟨#[]⟩ : ByteArray), .bool false]) ?_ 4 _ rfl; (with_reducible repeat (first | refine blk_drewN ?_ _ | refine blk_drew ?_ | refine blk_alloc ?_ _)); refine blk_put (cs := #[.int .i64 1, .bool false, .string (⟨#[]⟩ : ByteArray), .string (⟨#[]⟩ : ByteArray), .bool false]) ?_ 3 _ rfl; (with_reducible repeat (first | refine blk_drewN ?_ _ | refine blk_drew ?_ | refine blk_alloc ?_ _)); refine blk_put (cs := #[.int .i64 1, .bool false, .string (⟨#[]⟩ : ByteArray), .string (⟨#[]⟩ : ByteArray), .bool false]) ?_ 2 _ rfl; (with_reducible repeat (first | refine blk_drewN ?_ _ | refine blk_drew ?_ | refine blk_alloc ?_ _)); refine blk_put (cs := #[.int .i64 1, .bool false, .string (⟨#[]⟩ : ByteArray), .string (⟨#[]⟩ : ByteArray), .bool false]) ?_ 1 _ rfl; (with_reducible repeat (first | refine blk_drewN ?_ _ | refine blk_drew ?_ | refine blk_alloc ?_ _)); refine blk_put (cs := #[.int .i64 0, .bool false, .string (⟨#[]⟩ : ByteArray), .string (⟨#[]⟩ : ByteArray), .bool false]) ?_ 0 _ rfl; (with_reducible repeat (first | refine blk_drewN ?_ _ | refine blk_drew ?_ | refine blk_alloc ?_ _)); exact BK146.out) Tryd.underlying36 rfl zq17) rfl ?_
    exact ⟨zq7, zq4⟩
   ·replace c30 := Bool.eq_false_iff.mpr c30
    subst c30
    rw [if_neg (show ¬ (false = true) by decide)] at H
    obtain ⟨y150, hy150⟩ : ∃ y_ : List (List (S78)), y_ = (([] : List (List (S78)))) := ⟨_, rfl⟩
    replace H : (spec_Show.l0 kj4 a0 a1 a3 y150 0 l2_0 a2_1 a2_2) = some (r1, r2, r3, r4, r5) := by first | (rw [hy150]; with_reducible exact H) | (have H2_ := (Option.bind_some _ _).symm.trans H; rw [hy150]; with_reducible exact H2_) | (have H2_ := (Option.bind_some _ _).symm.trans H; with_reducible exact H2_) | with_reducible exact H | (rw [hy150]; exact H) | exact H
    have Ny150 := AZ.mk hy150
    clear hy150
    have H' := AZ.mk H
    clear H
    go_wp2_with (first | ((with_reducible refine gate_dst (N := 50) rfl ?_); (try (refine gate_guard zq105 ?_; dsimp only)); refine Kd.S_lit (Kd.slice 78 k78) _ 74 ?hg (N := 50) ?hd (xs := ([] : List (List (S78)))) (inner := []) (ok := fun _ => True) (okp := fun _ => True) ?hr ?hp (fun _ hk => hk) trivial (Below.refl _ _) (Nat.le_refl _) zq119 ?_; (case hd => rfl); (case hg => rfl); (case hr => first | (go_simp; done) | (go_simp; rfl)); (case hp => exact (Reps.none _ _)); intro v151 w33 ho34 hb hg_ hnew_; clear hg_ hnew_; (first | rw [← Ny150.out] at ho34 | (simp only [Int.reduceToNat] at ho34; rw [← Ny150.out] at ho34)); have n0_ := AZ.mk (Kd.S_lower ho34 (below_size zq4)); have n1_ := AZ.mk (blk_below (g := gb145) (o := .cells #[.slice A2_0 l2_0.length c2_0, .bool a2_1, .string a2_2] 38 (0, 0)) zq9 hb); have n2_ := AZ.mk (blk_below (g := gb146) (o := .cells #[.int .i64 0, .bool false, .string (⟨#[]⟩ : ByteArray), .string (⟨#[]⟩ : ByteArray), .bool false] 36 (0, 0)) zq12 hb); have n3_ := AZ.mk (below_step zq4 hb); clear BK145; clear BK146; clear HB; have HO152 := n0_; have BK145 := n1_; have BK146 := n2_; have HB := n3_; clear n0_ n1_ n2_ n3_; clear hb ho34))
    go_loopg [9, 10] kj4 (fun kq v9 v10 w' => ∃ (x9_2 : List (List (S78))) (x10_2 : Int) (x147000_2 : Int) (x147001_2 : Bool) (x147002_2 : ByteArray) (x147003_2 : ByteArray) (x147004_2 : Bool), v10 = .int .i64 x10_2 ∧ AZ (spec_Show.l0 kq a0 a1 a3 x9_2 x10_2 l2_0 a2_1 a2_2 = some (r1, r2, r3, r4, r5)) ∧ AZ (kq ≤ kj4) ∧ AZ (Kd.S (Kd.slice 78 k78) 74 w' w.heap.size (fun _ => True) v9 x9_2) ∧ AZ (w'.heap[gb145]? = some (.cells #[(.slice A2_0 l2_0.length c2_0), .bool a2_1, .string a2_2] 38 (0, 0))) ∧ AZ (w'.heap[gb146]? = some (.cells #[.int .i64 x147000_2, .bool x147001_2, .string x147002_2, .string x147003_2, .bool x147004_2] 36 (0, 0))) ∧ AZ (Below w.heap.size w w'))
    case atStart => exact ⟨(y150), (0), (0), (false), ((⟨#[]⟩ : ByteArray)), ((⟨#[]⟩ : ByteArray)), (false), zq8, H', ⟨Nat.le_refl _⟩, ⟨by (with_reducible repeat (first | apply Kd.S_alloc | apply Kd.S_drewN | apply Kd.S_drew)); exact HO152.out⟩, ⟨zq9⟩, ⟨zq12⟩, ⟨zq4⟩⟩
    case round =>
     clear H'
     try clear c1
     try clear c2
     try clear p2
     try clear c3
     try clear c9
     try clear c11
     try clear c13
     try clear c14
     try clear c14b0
     try clear c14b1
     try clear c16
     try clear c18
     try clear c19
     try clear c20
     try clear c23
     try clear c26
     try clear c30
     try clear c31
     try clear hcz17_0
     try clear hcz17_1
     try clear hcz17_2
     try clear hcz21_0
     try clear hcz21_1
     try clear hcz21_2
     try clear hcz24_0
     try clear hcz24_1
     try clear hcz24_2
     try clear hcz27_0
     try clear hcz27_1
     try clear hcz27_2
     try clear hcz32_0
     try clear hcz32_1
     try clear hcz32_2
     try clear hcz32_3
     try clear hcz32_4
     try clear hfz17_0
     try clear hfz17_1
     try clear hfz17_2
     try clear hfz21_0
     try clear hfz21_1
     try clear hfz21_2
     try clear hfz24_0
     try clear hfz24_1
     try clear hfz24_2
     try clear hfz27_0
     try clear hfz27_1
     try clear hfz27_2
     try clear hfz32_0
     try clear hfz32_1
     try clear hfz32_2
     try clear hfz32_3
     try clear hfz32_4
     try clear p2
     obtain ⟨x9_2, x10_2, x147000_2, x147001_2, x147002_2, x147003_2, x147004_2, rfl, HA, HK2, HO_9, BK145, BK146, HB⟩ := hrel
     cases gk with
     | zero => exact absurd HA.out (by simp [spec_Show.l0])
     | succ k2 =>
      have H := HA.out
      clear HA
      simp only [spec_Show.l0] at H
      by_cases c35 : x10_2 < (l2_0.length : Int)
      ·rw [if_pos c35] at H
       have c35b0 : decide (x10_2 < (l2_0.length : Int)) = true := decide_eq_true c35
       clear c35
       by_cases c36 : 0 ≤ x10_2
       ·rw [if_pos c36] at H
        have c36b0 : decide (0 ≤ x10_2) = true := decide_eq_true c36
        clear c36
        replace H := Option.bind_eq_some_iff.mp H
        obtain ⟨⟨t154, t155⟩, A370, H⟩ := H
        try dsimp only at H
        have A37 := AZ.mk A370
        clear A370
        by_cases c38 : t155 = true
        ·subst c38
         rw [if_pos rfl] at H
         by_cases c39 : ((rdOf ByteArray.empty l2_0 x10_2).size : Int) > 8000
         ·rw [if_pos c39] at H
          have c39b0 : decide (8000 < ((rdOf ByteArray.empty l2_0 x10_2).size : Int)) = true := decide_eq_true c39
          have c39b1 : decide (8000 < (rdOf ByteArray.empty l2_0 x10_2).size) = true := decide_eq_true zq94
          clear c39
          simp only [Option.some.injEq, Prod.mk.injEq] at H
          obtain ⟨rfl, rfl, rfl, rfl, rfl⟩ := H
          have hnb40 := NB145_146.out
          have hnc40 := NB146_145.out
          have hcz41_0 : wr.cell? ⟨gb145, 0, none⟩ = some (.slice A2_0 l2_0.length c2_0) := (blk_cell BK145.out 0).trans rfl
          have hcz41_1 : wr.cell? ⟨gb145, 1, none⟩ = some (.bool a2_1) := (blk_cell BK145.out 1).trans rfl
          have hcz41_2 : wr.cell? ⟨gb145, 2, none⟩ = some (.string a2_2) := (blk_cell BK145.out 2).trans rfl
          have hfz41_0 := blk_frozen BK145.out 0
          have hfz41_1 := blk_frozen BK145.out 1
          have hfz41_2 := blk_frozen BK145.out 2
          have p153 : 0 ≤ (x10_2 : Int) := of_decide_eq_true zq1
          have q153 : x10_2 < (l2_0.length : Int) := of_decide_eq_true zq1
          obtain ⟨ad153, e153, hx153_0⟩ := Kd.at_string HR2_0.out x10_2 p153 q153
          cases e153
          replace hx153_0 := (HB.out.cell (World.block_lt_of_cell? w _ hx153_0)).trans hx153_0
          replace p153 := eq_true p153
          replace q153 := eq_true q153
          go_wp2_with (first | ((with_reducible refine gate_callee (f := 40) rfl ?_); refine goesL_ (some 65) rfl rfl Tryd.func40 zq17 rfl #[.string (rdOf ByteArray.empty l2_0 x10_2), .int .i64 a3] rfl zq2 ?_; (with_reducible refine (spec_l9Read.calls k2 (rdOf ByteArray.empty l2_0 x10_2) a3 t154 true _ A37.out).mono ?_); rintro e w42 ⟨v156, rfl, ho0, hb⟩; refine ⟨_, rfl, ?_⟩; have n0_ := AZ.mk (Kd.S_elder' zq22 (Kd.R_base ho0) hb); have n1_ := AZ.mk (Kd.R_lower ho0 (below_size zq4)); have n2_ := AZ.mk (blk_below (g := gb145) (o := .cells #[.slice (some ad153) l2_0.length c2_0, .bool a2_1, .string a2_2] 38 (0, 0)) zq9 hb); have n3_ := AZ.mk (blk_below (g := gb146) (o := .cells #[.int .i64 x147000_2, .bool x147001_2, .string x147002_2, .string x147003_2, .bool x147004_2] 36 (0, 0)) zq12 hb); have n4_ := AZ.mk (below_step zq4 hb); clear HO_9; clear BK145; clear BK146; clear HB; have HO_9 := n0_; have HO157 := n1_; have BK145 := n2_; have BK146 := n3_; have HB := n4_; clear n0_ n1_ n2_ n3_ n4_; (try clear hb); (try clear hb2); (try clear hk); (try clear hi); (try clear ho0); have hcz43_0 : w42.cell? ⟨gb145, 0, none⟩ = some (.slice (some ad153) l2_0.length c2_0) := (blk_cell BK145.out 0).trans rfl; have hcz43_1 : w42.cell? ⟨gb145, 1, none⟩ = some (.bool a2_1) := (blk_cell BK145.out 1).trans rfl; have hcz43_2 : w42.cell? ⟨gb145, 2, none⟩ = some (.string a2_2) := (blk_cell BK145.out 2).trans rfl; have hfz43_0 := blk_frozen BK145.out 0; have hfz43_1 := blk_frozen BK145.out 1; have hfz43_2 := blk_frozen BK145.out 2; have p158 : 0 ≤ (x10_2 : Int) := of_decide_eq_true zq1; have q158 : x10_2 < (l2_0.length : Int) := of_decide_eq_true zq1; obtain ⟨ad158, e158, hx158_0⟩ := Kd.at_string HR2_0.out x10_2 p158 q158; obtain rfl : ad153 = ad158 := (by injection e158); replace hx158_0 := (HB.out.cell (World.block_lt_of_cell? w _ hx158_0)).trans hx158_0; replace p158 := eq_true p158; replace q158 := eq_true q158; have hcz44_0 : w42.cell? ⟨gb146, 0, none⟩ = some (.int .i64 x147000_2) := (blk_cell BK146.out 0).trans rfl; have hcz44_1 : w42.cell? ⟨gb146, 1, none⟩ = some (.bool x147001_2) := (blk_cell BK146.out 1).trans rfl; have hcz44_2 : w42.cell? ⟨gb146, 2, none⟩ = some (.string x147002_2) := (blk_cell BK146.out 2).trans rfl; have hcz44_3 : w42.cell? ⟨gb146, 3, none⟩ = some (.string x147003_2) := (blk_cell BK146.out 3).trans rfl; have hcz44_4 : w42.cell? ⟨gb146, 4, none⟩ = some (.bool x147004_2) := (blk_cell BK146.out 4).trans rfl; have hfz44_0 := blk_frozen BK146.out 0; have hfz44_1 := blk_frozen BK146.out 1; have hfz44_2 := blk_frozen BK146.out 2; have hfz44_3 := blk_frozen BK146.out 3; have hfz44_4 := blk_frozen BK146.out 4))
          refine bodyPost_ret (results_cell_row rfl _ _ gb146 36 #[.int .i64 1, .bool false, .string (⟨#[]⟩ : ByteArray), .string (⟨#[]⟩ : ByteArray), .bool false] (0, 0) _ rfl zq49 Tryd.underlying36 rfl zq17) rfl ?_
          exact ⟨zq7, zq4⟩
         ·rw [if_neg c39] at H
          have c39b0 : decide (8000 < ((rdOf ByteArray.empty l2_0 x10_2).size : Int)) = false := decide_eq_false c39
          have c39b1 : decide (8000 < (rdOf ByteArray.empty l2_0 x10_2).size) = false := decide_eq_false zq94
          clear c39
          by_cases c45 : x9_2.length < 5864062014805
          ·rw [if_pos c45] at H
           have LMc45 := AZ.mk c45
           clear c45
           obtain ⟨y159, hy159⟩ : ∃ y_ : List (List (S78)), y_ = (x9_2 ++ [t154]) := ⟨_, rfl⟩
           replace H : (spec_Show.l0 k2 a0 a1 a3 y159 (wrap64 (x10_2 + 1)) l2_0 a2_1 a2_2) = some (r1, r2, r3, r4, r5) := by first | (rw [hy159]; with_reducible exact H) | (have H2_ := (Option.bind_some _ _).symm.trans H; rw [hy159]; with_reducible exact H2_) | (have H2_ := (Option.bind_some _ _).symm.trans H; with_reducible exact H2_) | with_reducible exact H | (rw [hy159]; exact H) | exact H
           have Ny159 := AZ.mk hy159
           clear hy159
           have H' := AZ.mk H
           clear H
           have hnb46 := NB145_146.out
           have hnc46 := NB146_145.out
           have hcz47_0 : wr.cell? ⟨gb145, 0, none⟩ = some (.slice A2_0 l2_0.length c2_0) := (blk_cell BK145.out 0).trans rfl
           have hcz47_1 : wr.cell? ⟨gb145, 1, none⟩ = some (.bool a2_1) := (blk_cell BK145.out 1).trans rfl
           have hcz47_2 : wr.cell? ⟨gb145, 2, none⟩ = some (.string a2_2) := (blk_cell BK145.out 2).trans rfl
           have hfz47_0 := blk_frozen BK145.out 0
           have hfz47_1 := blk_frozen BK145.out 1
           have hfz47_2 := blk_frozen BK145.out 2
           have p153 : 0 ≤ (x10_2 : Int) := of_decide_eq_true zq1
           have q153 : x10_2 < (l2_0.length : Int) := of_decide_eq_true zq1
           obtain ⟨ad153, e153, hx153_0⟩ := Kd.at_string HR2_0.out x10_2 p153 q153
           cases e153
           replace hx153_0 := (HB.out.cell (World.block_lt_of_cell? w _ hx153_0)).trans hx153_0
           replace p153 := eq_true p153
           replace q153 := eq_true q153
           go_wp2_with (first | ((with_reducible refine gate_callee (f := 40) rfl ?_); refine goesL_ (some 65) rfl rfl Tryd.func40 zq17 rfl #[.string (rdOf ByteArray.empty l2_0 x10_2), .int .i64 a3] rfl zq2 ?_; (with_reducible refine (spec_l9Read.calls k2 (rdOf ByteArray.empty l2_0 x10_2) a3 t154 true _ A37.out).mono ?_); rintro e w48 ⟨v156, rfl, ho0, hb⟩; refine ⟨_, rfl, ?_⟩; have n0_ := AZ.mk (Kd.S_elder' zq22 (Kd.R_base ho0) hb); have n1_ := AZ.mk (Kd.R_lower ho0 (below_size zq4)); have n2_ := AZ.mk (blk_below (g := gb145) (o := .cells #[.slice (some ad153) l2_0.length c2_0, .bool a2_1, .string a2_2] 38 (0, 0)) zq9 hb); have n3_ := AZ.mk (blk_below (g := gb146) (o := .cells #[.int .i64 x147000_2, .bool x147001_2, .string x147002_2, .string x147003_2, .bool x147004_2] 36 (0, 0)) zq12 hb); have n4_ := AZ.mk (below_step zq4 hb); clear HO_9; clear BK145; clear BK146; clear HB; have HO_9 := n0_; have HO157 := n1_; have BK145 := n2_; have BK146 := n3_; have HB := n4_; clear n0_ n1_ n2_ n3_ n4_; (try clear hb); (try clear hb2); (try clear hk); (try clear hi); (try clear ho0); have hcz49_0 : w48.cell? ⟨gb145, 0, none⟩ = some (.slice (some ad153) l2_0.length c2_0) := (blk_cell BK145.out 0).trans rfl; have hcz49_1 : w48.cell? ⟨gb145, 1, none⟩ = some (.bool a2_1) := (blk_cell BK145.out 1).trans rfl; have hcz49_2 : w48.cell? ⟨gb145, 2, none⟩ = some (.string a2_2) := (blk_cell BK145.out 2).trans rfl; have hfz49_0 := blk_frozen BK145.out 0; have hfz49_1 := blk_frozen BK145.out 1; have hfz49_2 := blk_frozen BK145.out 2; have p158 : 0 ≤ (x10_2 : Int) := of_decide_eq_true zq1; have q158 : x10_2 < (l2_0.length : Int) := of_decide_eq_true zq1; obtain ⟨ad158, e158, hx158_0⟩ := Kd.at_string HR2_0.out x10_2 p158 q158; obtain rfl : ad153 = ad158 := (by injection e158); replace hx158_0 := (HB.out.cell (World.block_lt_of_cell? w _ hx158_0)).trans hx158_0; replace p158 := eq_true p158; replace q158 := eq_true q158; obtain ⟨Ao51, co51, eo51⟩ := Kd.R_slice HO157.out; subst eo51) | ((with_reducible refine gate_builtin (b := .append) (xs := #[.tmp 80, .tmp 82]) rfl ?_); (try (refine gate_guard zq105 ?_; dsimp only)); at_builtin; refine Kd.S_append (Kd.slice 78 k78) (w0 := w) w.heap.size rfl (.tmp 80) (.tmp 82) 73 74 (.slice none 0 0) 24 rfl Tryd.underlying73 info74 rfl zq118 zq94 u9 x9_2 t154 [.slice Ao51 t154.length co51] (fun _ => True) (fun k_ => some k_ = (.slice Ao51 t154.length co51 : Value).ownBlock) rfl rfl ?aP (fun k_ hk_ => ((Kd.R_mono (ok' := fun k_ => ((fun _ => True)) k_ ∧ some k_ ≠ (u9 : Value).ownBlock) (Kd.R_apart' (HO157.out) (Kd.S_typed HO_9.out) zq118) (fun k_ hk => ⟨trivial, hk.2⟩))).1 k_ hk_.symm) ?aF ?aO ?aB ?aS ?aL ?_; (case aP => exact Kd.M_row (Kd.R_mono (Kd.R_tight rfl (Kd.R_mono (ok' := fun k_ => ((fun _ => True)) k_ ∧ some k_ ≠ (u9 : Value).ownBlock) (Kd.R_apart' (HO157.out) (Kd.S_typed HO_9.out) zq118) (fun k_ hk => ⟨trivial, hk.2⟩))) (fun _ h_ => h_))); (case aB => exact zq4); (case aF => exact (fun _ _ => trivial)); (case aO => exact zq125); (case aS => exact (below_size zq4)); (case aL => have := LMc45.out; omega); intro v160 w50 ho hb hg hat; rw [← Ny159.out] at ho; have n0_ := AZ.mk (blk_grown (g := gb145) (o := .cells #[.slice (some ad153) l2_0.length c2_0, .bool a2_1, .string a2_2] 38 (0, 0)) zq9 hg (Kd.S_ne HO_9.out BK145.out zq118)); have n1_ := AZ.mk (blk_grown (g := gb146) (o := .cells #[.int .i64 x147000_2, .bool x147001_2, .string x147002_2, .string x147003_2, .bool x147004_2] 36 (0, 0)) zq12 hg (Kd.S_ne HO_9.out BK146.out zq118)); have n2_ := AZ.mk (hb); have n3_ := AZ.mk (ho); clear BK145; clear BK146; clear HB; clear HO_9; clear HO157; have BK145 := n0_; have BK146 := n1_; have HB := n2_; have HO161 := n3_; clear n0_ n1_ n2_ n3_; clear ho hb hg hat))
           go_roundg k2
           case measure => have := HJ4.out; have := HK2.out; omega
           case rel => exact ⟨(y159), (wrap64 (x10_2 + 1)), (x147000_2), (x147001_2), (x147002_2), (x147003_2), (x147004_2), zq8, H', ⟨by have := HJ4.out; have := HK2.out; omega⟩, ⟨by (with_reducible repeat (first | apply Kd.S_alloc | apply Kd.S_drewN | apply Kd.S_drew)); exact HO161.out⟩, ⟨zq9⟩, ⟨zq12⟩, ⟨zq4⟩⟩
          ·rw [if_neg c45] at H
           exact absurd H zq119
        ·replace c38 := Bool.eq_false_iff.mpr c38
         subst c38
         rw [if_neg (show ¬ (false = true) by decide)] at H
         simp only [Option.some.injEq, Prod.mk.injEq] at H
         obtain ⟨rfl, rfl, rfl, rfl, rfl⟩ := H
         have hnb52 := NB145_146.out
         have hnc52 := NB146_145.out
         have hcz53_0 : wr.cell? ⟨gb145, 0, none⟩ = some (.slice A2_0 l2_0.length c2_0) := (blk_cell BK145.out 0).trans rfl
         have hcz53_1 : wr.cell? ⟨gb145, 1, none⟩ = some (.bool a2_1) := (blk_cell BK145.out 1).trans rfl
         have hcz53_2 : wr.cell? ⟨gb145, 2, none⟩ = some (.string a2_2) := (blk_cell BK145.out 2).trans rfl
         have hfz53_0 := blk_frozen BK145.out 0
         have hfz53_1 := blk_frozen BK145.out 1
         have hfz53_2 := blk_frozen BK145.out 2
         have p153 : 0 ≤ (x10_2 : Int) := of_decide_eq_true zq1
         have q153 : x10_2 < (l2_0.length : Int) := of_decide_eq_true zq1
         obtain ⟨ad153, e153, hx153_0⟩ := Kd.at_string HR2_0.out x10_2 p153 q153
         cases e153
         replace hx153_0 := (HB.out.cell (World.block_lt_of_cell? w _ hx153_0)).trans hx153_0
         replace p153 := eq_true p153
         replace q153 := eq_true q153
         go_wp2_with (first | ((with_reducible refine gate_callee (f := 40) rfl ?_); refine goesL_ (some 65) rfl rfl Tryd.func40 zq17 rfl #[.string (rdOf ByteArray.empty l2_0 x10_2), .int .i64 a3] rfl zq2 ?_; (with_reducible refine (spec_l9Read.calls k2 (rdOf ByteArray.empty l2_0 x10_2) a3 t154 false _ A37.out).mono ?_); rintro e w54 ⟨v156, rfl, ho0, hb⟩; refine ⟨_, rfl, ?_⟩; have n0_ := AZ.mk (Kd.S_elder' zq22 (Kd.R_base ho0) hb); have n1_ := AZ.mk (Kd.R_lower ho0 (below_size zq4)); have n2_ := AZ.mk (blk_below (g := gb145) (o := .cells #[.slice (some ad153) l2_0.length c2_0, .bool a2_1, .string a2_2] 38 (0, 0)) zq9 hb); have n3_ := AZ.mk (blk_below (g := gb146) (o := .cells #[.int .i64 x147000_2, .bool x147001_2, .string x147002_2, .string x147003_2, .bool x147004_2] 36 (0, 0)) zq12 hb); have n4_ := AZ.mk (below_step zq4 hb); clear HO_9; clear BK145; clear BK146; clear HB; have HO_9 := n0_; have HO157 := n1_; have BK145 := n2_; have BK146 := n3_; have HB := n4_; clear n0_ n1_ n2_ n3_ n4_; (try clear hb); (try clear hb2); (try clear hk); (try clear hi); (try clear ho0); have hcz55_0 : w54.cell? ⟨gb146, 0, none⟩ = some (.int .i64 x147000_2) := (blk_cell BK146.out 0).trans rfl; have hcz55_1 : w54.cell? ⟨gb146, 1, none⟩ = some (.bool x147001_2) := (blk_cell BK146.out 1).trans rfl; have hcz55_2 : w54.cell? ⟨gb146, 2, none⟩ = some (.string x147002_2) := (blk_cell BK146.out 2).trans rfl; have hcz55_3 : w54.cell? ⟨gb146, 3, none⟩ = some (.string x147003_2) := (blk_cell BK146.out 3).trans rfl; have hcz55_4 : w54.cell? ⟨gb146, 4, none⟩ = some (.bool x147004_2) := (blk_cell BK146.out 4).trans rfl; have hfz55_0 := blk_frozen BK146.out 0; have hfz55_1 := blk_frozen BK146.out 1; have hfz55_2 := blk_frozen BK146.out 2; have hfz55_3 := blk_frozen BK146.out 3; have hfz55_4 := blk_frozen BK146.out 4))
         refine bodyPost_ret (results_cell_row rfl _ _ gb146 36 #[.int .i64 1, .bool false, .string (⟨#[]⟩ : ByteArray), .string (⟨#[]⟩ : ByteArray), .bool false] (0, 0) _ rfl zq49 Tryd.underlying36 rfl zq17) rfl ?_
         exact ⟨zq7, zq4⟩
       ·rw [if_neg c36] at H
        exact absurd H zq119
      ·rw [if_neg c35] at H
       have c35b0 : decide (x10_2 < (l2_0.length : Int)) = false := decide_eq_false c35
       clear c35
       by_cases c56 : 0 < (l2_0.length : Int)
       ·rw [if_pos c56] at H
        have c56b0 : decide (0 < (l2_0.length : Int)) = true := decide_eq_true c56
        have c56b1 : decide (0 < l2_0.length) = true := decide_eq_true zq94
        clear c56
        replace H := Option.bind_eq_some_iff.mp H
        obtain ⟨t164, A570, H⟩ := H
        try dsimp only at H
        have A57 := AZ.mk A570
        clear A570
        by_cases c58 : t164.toList = a0.toList
        ·rw [if_pos c58] at H
         have c58b0 : (t164.toList == a0.toList) = true := beq_iff_eq.mpr c58
         have c58b1 : (t164.toList != a0.toList) = false := bne_eq_false_iff_eq.mpr c58
         clear c58
         replace H := Option.bind_eq_some_iff.mp H
         obtain ⟨t165, A590, H⟩ := H
         try dsimp only at H
         have A59 := AZ.mk A590
         clear A590
         have H' := AZ.mk H
         clear H
         have hnb60 := NB145_146.out
         have hnc60 := NB146_145.out
         have hcz61_0 : wr.cell? ⟨gb145, 0, none⟩ = some (.slice A2_0 l2_0.length c2_0) := (blk_cell BK145.out 0).trans rfl
         have hcz61_1 : wr.cell? ⟨gb145, 1, none⟩ = some (.bool a2_1) := (blk_cell BK145.out 1).trans rfl
         have hcz61_2 : wr.cell? ⟨gb145, 2, none⟩ = some (.string a2_2) := (blk_cell BK145.out 2).trans rfl
         have hfz61_0 := blk_frozen BK145.out 0
         have hfz61_1 := blk_frozen BK145.out 1
         have hfz61_2 := blk_frozen BK145.out 2
         go_wp2_with (first | ((with_reducible refine gate_dst (N := 13) rfl ?_); (try (refine gate_guard zq105 ?_; dsimp only)); refine box_event ?hg (N := 13) ?hd (cs := #[.int .i64 0, .bool false, .string (⟨#[]⟩ : ByteArray), .string (⟨#[]⟩ : ByteArray), .bool false]) (t := 36) ?hr ?_; (case hd => rfl); (case hg => rfl); (case hr => first | (go_simp; done) | (go_simp; rfl)); intro gb162 hg w62 hbox hb; have n0_ := AZ.mk (Kd.S_below zq22 hb); have n1_ := AZ.mk (blk_below (g := gb145) (o := .cells #[.slice A2_0 l2_0.length c2_0, .bool a2_1, .string a2_2] 38 (0, 0)) zq9 hb); have n2_ := AZ.mk (blk_below (g := gb146) (o := .cells #[.int .i64 x147000_2, .bool x147001_2, .string x147002_2, .string x147003_2, .bool x147004_2] 36 (0, 0)) zq12 hb); have n3_ := AZ.mk (below_step zq4 hb); have n4_ := AZ.mk (hbox); have n5_ := AZ.mk ((by rw [hg]; exact (below_size zq4) : w.heap.size ≤ gb162)); have n6_ := AZ.mk ((by rw [hg]; exact (below_size zq4) : w.heap.size ≤ gb162)); have n7_ := AZ.mk ((by rw [hg]; exact Nat.ne_of_lt (blk_lt (g := gb145) (o := .cells #[.slice A2_0 l2_0.length c2_0, .bool a2_1, .string a2_2] 38 (0, 0)) zq9) : gb145 ≠ gb162)); have n8_ := AZ.mk ((by rw [hg]; exact Nat.ne_of_gt (blk_lt (g := gb145) (o := .cells #[.slice A2_0 l2_0.length c2_0, .bool a2_1, .string a2_2] 38 (0, 0)) zq9) : gb162 ≠ gb145)); have n9_ := AZ.mk ((by rw [hg]; exact Nat.ne_of_lt (blk_lt (g := gb146) (o := .cells #[.int .i64 x147000_2, .bool x147001_2, .string x147002_2, .string x147003_2, .bool x147004_2] 36 (0, 0)) zq12) : gb146 ≠ gb162)); have n10_ := AZ.mk ((by rw [hg]; exact Nat.ne_of_gt (blk_lt (g := gb146) (o := .cells #[.int .i64 x147000_2, .bool x147001_2, .string x147002_2, .string x147003_2, .bool x147004_2] 36 (0, 0)) zq12) : gb162 ≠ gb146)); clear HO_9; clear BK145; clear BK146; clear HB; have HO_9 := n0_; have BK145 := n1_; have BK146 := n2_; have HB := n3_; have BK162 := n4_; have GW162 := n5_; have GE162 := n6_; have NB145_162 := n7_; have NB162_145 := n8_; have NB146_162 := n9_; have NB162_146 := n10_; clear n0_ n1_ n2_ n3_ n4_ n5_ n6_ n7_ n8_ n9_ n10_; clear hb hbox hg; have hnb63 := NB162_145.out; have hnc63 := NB145_162.out; have hnb64 := NB162_146.out; have hnc64 := NB146_162.out; have hcz65_0 : w62.cell? ⟨gb162, 0, none⟩ = some (.int .i64 0) := (blk_cell BK162.out 0).trans rfl; have hcz65_1 : w62.cell? ⟨gb162, 1, none⟩ = some (.bool false) := (blk_cell BK162.out 1).trans rfl; have hcz65_2 : w62.cell? ⟨gb162, 2, none⟩ = some (.string (⟨#[]⟩ : ByteArray)) := (blk_cell BK162.out 2).trans rfl; have hcz65_3 : w62.cell? ⟨gb162, 3, none⟩ = some (.string (⟨#[]⟩ : ByteArray)) := (blk_cell BK162.out 3).trans rfl; have hcz65_4 : w62.cell? ⟨gb162, 4, none⟩ = some (.bool false) := (blk_cell BK162.out 4).trans rfl; have hfz65_0 := blk_frozen BK162.out 0; have hfz65_1 := blk_frozen BK162.out 1; have hfz65_2 := blk_frozen BK162.out 2; have hfz65_3 := blk_frozen BK162.out 3; have hfz65_4 := blk_frozen BK162.out 4; have hcz66_0 : w62.cell? ⟨gb145, 0, none⟩ = some (.slice A2_0 l2_0.length c2_0) := (blk_cell BK145.out 0).trans rfl; have hcz66_1 : w62.cell? ⟨gb145, 1, none⟩ = some (.bool a2_1) := (blk_cell BK145.out 1).trans rfl; have hcz66_2 : w62.cell? ⟨gb145, 2, none⟩ = some (.string a2_2) := (blk_cell BK145.out 2).trans rfl; have hfz66_0 := blk_frozen BK145.out 0; have hfz66_1 := blk_frozen BK145.out 1; have hfz66_2 := blk_frozen BK145.out 2; have p163 : 0 ≤ (0 : Int) := zq94; have q163 : 0 < (l2_0.length : Int) := of_decide_eq_true zq1; obtain ⟨ad163, e163, hx163_0⟩ := Kd.at_string HR2_0.out 0 p163 q163; cases e163; have qi163 : (0 < l2_0.length) = True := eq_true zq94; (try rw [show ((0 : Int)).toNat = 0 from rfl] at hx163_0); (try rw [Addr.add_zero'] at hx163_0); have hn163_0 : ad163.block ≠ gb162 := Nat.ne_of_lt (Nat.lt_of_lt_of_le zq70 GW162.out); have hn163_1 : ad163.block ≠ gb162 := Nat.ne_of_lt (Nat.lt_of_lt_of_le zq70 GW162.out); have hn163_2 : ad163.block ≠ gb162 := Nat.ne_of_lt (Nat.lt_of_lt_of_le zq70 GW162.out); have hn163_3 : ad163.block ≠ gb162 := Nat.ne_of_lt (Nat.lt_of_lt_of_le zq70 GW162.out); have hn163_4 : ad163.block ≠ gb162 := Nat.ne_of_lt (Nat.lt_of_lt_of_le zq70 GW162.out); replace hx163_0 := (HB.out.cell (World.block_lt_of_cell? w _ hx163_0)).trans hx163_0; replace hx163_0 := (cell_far (p := ⟨gb162, 0, none⟩) zq138 (.int .i64 2)).trans hx163_0; replace hx163_0 := (cell_far (p := ⟨gb162, 1, none⟩) zq137 (.bool false)).trans hx163_0; replace hx163_0 := (cell_far (p := ⟨gb162, 2, none⟩) zq136 (.string (⟨#[]⟩ : ByteArray))).trans hx163_0; replace hx163_0 := (cell_far (p := ⟨gb162, 3, none⟩) zq135 (.string (⟨#[]⟩ : ByteArray))).trans hx163_0; replace hx163_0 := (cell_far (p := ⟨gb162, 4, none⟩) zq134 (.bool false)).trans hx163_0; clear hn163_0; clear hn163_1; clear hn163_2; clear hn163_3; clear hn163_4; replace p163 := eq_true p163; replace q163 := eq_true q163) | ((with_reducible refine gate_callee (f := 41) rfl ?_); refine goesL_ (some 90) rfl rfl Tryd.func41 zq17 rfl #[.string (rdOf ByteArray.empty l2_0 0), .int .i64 a3] rfl zq2 ?_; (with_reducible refine (spec_Sum.calls k2 (rdOf ByteArray.empty l2_0 0) a3 t164 _ A57.out).mono ?_); rintro e w67 ⟨rfl, hb⟩; refine ⟨_, rfl, ?_⟩; have n0_ := AZ.mk (Kd.S_below zq81 hb); have n1_ := AZ.mk (blk_below (g := gb145) (o := .cells #[.slice (some ad163) l2_0.length c2_0, .bool a2_1, .string a2_2] 38 (0, 0)) zq68 hb); have n2_ := AZ.mk (blk_below (g := gb146) (o := .cells #[.int .i64 x147000_2, .bool x147001_2, .string x147002_2, .string x147003_2, .bool x147004_2] 36 (0, 0)) zq67 hb); have n3_ := AZ.mk (blk_below (g := gb162) (o := .cells #[.int .i64 2, .bool false, .string (⟨#[]⟩ : ByteArray), .string (⟨#[]⟩ : ByteArray), .bool false] 36 (0, 0)) zq47 hb); have n4_ := AZ.mk (below_step zq20 hb); clear HO_9; clear BK145; clear BK146; clear BK162; clear HB; have HO_9 := n0_; have BK145 := n1_; have BK146 := n2_; have BK162 := n3_; have HB := n4_; clear n0_ n1_ n2_ n3_ n4_; (try clear hb); (try clear hb2); (try clear hk); (try clear hi)) | ((with_reducible refine gate_callee (f := 42) rfl ?_); refine goesL_ (some 95) rfl rfl Tryd.func42 zq17 rfl #[.string a1] rfl zq2 ?_; (with_reducible refine (spec_l4Parts.calls k2 a1 t165 _ A59.out).mono ?_); rintro e w68 ⟨v166, rfl, ho0, hb⟩; refine ⟨_, rfl, ?_⟩; have n0_ := AZ.mk (Kd.S_below zq22 hb); have n1_ := AZ.mk (Kd.R_lower ho0 (below_size zq20)); have n2_ := AZ.mk (blk_below (g := gb145) (o := .cells #[.slice (some ad163) l2_0.length c2_0, .bool a2_1, .string a2_2] 38 (0, 0)) zq9 hb); have n3_ := AZ.mk (blk_below (g := gb146) (o := .cells #[.int .i64 x147000_2, .bool x147001_2, .string x147002_2, .string x147003_2, .bool x147004_2] 36 (0, 0)) zq12 hb); have n4_ := AZ.mk (blk_below (g := gb162) (o := .cells #[.int .i64 2, .bool false, .string (⟨#[]⟩ : ByteArray), .string (⟨#[]⟩ : ByteArray), .bool false] 36 (0, 0)) zq26 hb); have n5_ := AZ.mk (below_step zq20 hb); clear HO_9; clear BK145; clear BK146; clear BK162; clear HB; have HO_9 := n0_; have HO167 := n1_; have BK145 := n2_; have BK146 := n3_; have BK162 := n4_; have HB := n5_; clear n0_ n1_ n2_ n3_ n4_ n5_; (try clear hb); (try clear hb2); (try clear hk); (try clear hi); (try clear ho0)))
         go_loopg [15] k2 (fun kq v15 w' => ∃ (x15_3 : Int) (x147000_3 : Int) (x147001_3 : Bool) (x147002_3 : ByteArray) (x147003_3 : ByteArray) (x147004_3 : Bool), v15 = .int .i64 x15_3 ∧ AZ (spec_Show.l1 kq a1 a3 x9_2 t165 x15_3 l2_0 a2_1 a2_2 2 false (⟨#[]⟩ : ByteArray) (⟨#[]⟩ : ByteArray) false = some (r1, r2, r3, r4, r5)) ∧ AZ (kq ≤ k2) ∧ AZ (Kd.S (Kd.slice 78 k78) 74 w' w.heap.size (fun _ => True) u9 x9_2) ∧ AZ (Kd.R Kd.string 9 w' w.heap.size (fun _ => True) v166 t165) ∧ AZ (w'.heap[gb145]? = some (.cells #[(.slice (some ad163) l2_0.length c2_0), .bool a2_1, .string a2_2] 38 (0, 0))) ∧ AZ (w'.heap[gb146]? = some (.cells #[.int .i64 x147000_3, .bool x147001_3, .string x147002_3, .string x147003_3, .bool x147004_3] 36 (0, 0))) ∧ AZ (w'.heap[gb162]? = some (.cells #[.int .i64 2, .bool false, .string (⟨#[]⟩ : ByteArray), .string (⟨#[]⟩ : ByteArray), .bool false] 36 (0, 0))) ∧ AZ (Below w.heap.size w w'))
         case atStart => exact ⟨(0), (x147000_2), (x147001_2), (x147002_2), (x147003_2), (x147004_2), zq8, H', ⟨Nat.le_refl _⟩, ⟨zq22⟩, ⟨by (with_reducible repeat (first | apply Kd.R_alloc | apply Kd.R_drewN | apply Kd.R_drew)); exact HO167.out⟩, ⟨zq9⟩, ⟨zq12⟩, ⟨zq26⟩, ⟨zq20⟩⟩
         case round =>
          clear H'
          try clear c1
          try clear p1
          try clear q1
          try clear hx1
          try clear qi1
          try clear c2
          try clear p2
          try clear c3
          try clear c4
          try clear c5
          try clear c6
          try clear p6
          try clear c9
          try clear c11
          try clear c13
          try clear c14
          try clear c14b0
          try clear c14b1
          try clear p15
          try clear q15
          try clear hx15
          try clear c16
          try clear p16
          try clear q16
          try clear hx16
          try clear qi16
          try clear c18
          try clear c19
          try clear c20
          try clear c23
          try clear c26
          try clear c30
          try clear c31
          try clear c35
          try clear c35b0
          try clear c36
          try clear c36b0
          try clear c38
          try clear c39
          try clear c39b0
          try clear c39b1
          try clear c40
          try clear c41
          try clear c42
          try clear c45
          try clear c46
          try clear c52
          try clear c56
          try clear c56b0
          try clear c56b1
          try clear c58
          try clear c58b0
          try clear c58b1
          try clear c60
          try clear c63
          try clear c64
          try clear p64
          try clear hcz17_0
          try clear hcz17_1
          try clear hcz17_2
          try clear hcz21_0
          try clear hcz21_1
          try clear hcz21_2
          try clear hcz24_0
          try clear hcz24_1
          try clear hcz24_2
          try clear hcz27_0
          try clear hcz27_1
          try clear hcz27_2
          try clear hcz32_0
          try clear hcz32_1
          try clear hcz32_2
          try clear hcz32_3
          try clear hcz32_4
          try clear hcz41_0
          try clear hcz41_1
          try clear hcz41_2
          try clear hcz43_0
          try clear hcz43_1
          try clear hcz43_2
          try clear hcz44_0
          try clear hcz44_1
          try clear hcz44_2
          try clear hcz44_3
          try clear hcz44_4
          try clear hcz47_0
          try clear hcz47_1
          try clear hcz47_2
          try clear hcz49_0
          try clear hcz49_1
          try clear hcz49_2
          try clear hcz53_0
          try clear hcz53_1
          try clear hcz53_2
          try clear hcz55_0
          try clear hcz55_1
          try clear hcz55_2
          try clear hcz55_3
          try clear hcz55_4
          try clear hcz61_0
          try clear hcz61_1
          try clear hcz61_2
          try clear hcz65_0
          try clear hcz65_1
          try clear hcz65_2
          try clear hcz65_3
          try clear hcz65_4
          try clear hcz66_0
          try clear hcz66_1
          try clear hcz66_2
          try clear hfz17_0
          try clear hfz17_1
          try clear hfz17_2
          try clear hfz21_0
          try clear hfz21_1
          try clear hfz21_2
          try clear hfz24_0
          try clear hfz24_1
          try clear hfz24_2
          try clear hfz27_0
          try clear hfz27_1
          try clear hfz27_2
          try clear hfz32_0
          try clear hfz32_1
          try clear hfz32_2
          try clear hfz32_3
          try clear hfz32_4
          try clear hfz41_0
          try clear hfz41_1
          try clear hfz41_2
          try clear hfz43_0
          try clear hfz43_1
          try clear hfz43_2
          try clear hfz44_0
          try clear hfz44_1
          try clear hfz44_2
          try clear hfz44_3
          try clear hfz44_4
          try clear hfz47_0
          try clear hfz47_1
          try clear hfz47_2
          try clear hfz49_0
          try clear hfz49_1
          try clear hfz49_2
          try clear hfz53_0
          try clear hfz53_1
          try clear hfz53_2
          try clear hfz55_0
          try clear hfz55_1
          try clear hfz55_2
          try clear hfz55_3
          try clear hfz55_4
          try clear hfz61_0
          try clear hfz61_1
          try clear hfz61_2
          try clear hfz65_0
          try clear hfz65_1
          try clear hfz65_2
          try clear hfz65_3
          try clear hfz65_4
          try clear hfz66_0
          try clear hfz66_1
          try clear hfz66_2
          try clear hx153_0
          try clear hx158_0
          try clear hx163_0
          try clear p153
          try clear p158
          try clear p163
          try clear p2
          try clear q153
          try clear q158
          try clear q163
          obtain ⟨x15_3, x147000_3, x147001_3, x147002_3, x147003_3, x147004_3, rfl, HA, HK3, HO_9, HO_14, BK145, BK146, BK162, HB⟩ := hrel
          cases gk with
          | zero => exact absurd HA.out (by simp [spec_Show.l1])
          | succ k3 =>
           have H := HA.out
           clear HA
           simp only [spec_Show.l1] at H
           by_cases c69 : x15_3 < (t165.length : Int)
           ·rw [if_pos c69] at H
            have c69b0 : decide (x15_3 < (t165.length : Int)) = true := decide_eq_true c69
            clear c69
            by_cases c70 : 0 ≤ x15_3
            ·rw [if_pos c70] at H
             have c70b0 : decide (0 ≤ x15_3) = true := decide_eq_true c70
             clear c70
             by_cases c71 : x15_3 < (x9_2.length : Int)
             ·rw [if_pos c71] at H
              have c71b0 : decide (x15_3 < (x9_2.length : Int)) = true := decide_eq_true c71
              clear c71
              replace H := Option.bind_eq_some_iff.mp H
              obtain ⟨⟨t170, t171, t172⟩, A720, H⟩ := H
              try dsimp only at H
              have A72 := AZ.mk A720
              clear A720
              have HC73 := AZ.mk H
              clear H
              obtain ⟨Ao74, co74, eo74⟩ := Kd.R_slice HO_14.out
              subst eo74
              try go_wp2
              have n0_ := AZ.mk (Kd.S_drew HO_9.out)
              have n1_ := AZ.mk (Kd.R_drew HO_14.out)
              have n2_ := AZ.mk (blk_drew BK145.out)
              have n3_ := AZ.mk (blk_drew BK146.out)
              have n4_ := AZ.mk (blk_drew BK162.out)
              have n5_ := AZ.mk (below_drew1 HB.out)
              clear HO_9
              clear HO_14
              clear BK145
              clear BK146
              clear BK162
              clear HB
              have HO_9 := n0_
              have HO_14 := n1_
              have BK145 := n2_
              have BK146 := n3_
              have BK162 := n4_
              have HB := n5_
              clear n0_ n1_ n2_ n3_ n4_ n5_
              obtain ⟨Ao76, co76, eo76⟩ := Kd.S_slice HO_9.out
              (first | subst eo76 | (injection eo76 with f1_ f2_ f3_; have f4_ := f1_.symm; have f5_ := f3_.symm; clear f1_ f2_ f3_; subst f4_; subst f5_))
              have p168 : 0 ≤ (x15_3 : Int) := of_decide_eq_true zq1
              have q168 : x15_3 < (x9_2.length : Int) := of_decide_eq_true zq1
              obtain ⟨ad168, A168_0, c168_0, e168, hx168_0, hl168_0, hi168_0⟩ := at_L3 (Kd.S_reads' HO_9.out).2.2 x15_3 p168 q168
              cases e168
              obtain ⟨ce168, hce168, hMe168, hcc168⟩ := Kd.S_get HO_9.out [] x15_3 p168 (by first | exact q168 | exact of_decide_eq_true zq1 | (have e_ := (Kd.S_reads' HO_9.out).1; omega))
              obtain ⟨ve168_0, rfl, ge168_0⟩ := hMe168
              have hv168_0 := hcc168 0 _ rfl
              rw [Nat.add_zero, show ((Kd.slice 78 k78)).sz = 1 from rfl, Nat.mul_one] at hv168_0
              replace hv168_0 := Option.some.inj (hv168_0.symm.trans hx168_0)
              rw [hv168_0] at ge168_0
              have HL168_0 := AZ.mk (show Kd.R k78 78 _ _ _ _ (rd_L3 x9_2 x15_3) from ge168_0)
              clear hv168_0 ge168_0
              clear hcc168 hce168
              have HR168_0 := AZ.mk hi168_0
              have HC168_0 := AZ.mk hl168_0
              clear hi168_0 hl168_0
              replace p168 := eq_true p168
              replace q168 := eq_true q168
              have p169 : 0 ≤ (x15_3 : Int) := of_decide_eq_true zq1
              have q169 : x15_3 < (t165.length : Int) := of_decide_eq_true zq1
              obtain ⟨ad169, e169, hx169_0⟩ := Kd.at_string (Kd.R_reads' HO_14.out).2.2 x15_3 p169 q169
              cases e169
              replace p169 := eq_true p169
              replace q169 := eq_true q169
              refine start_ (n := 11) (S := fun w' => w'.cell? (ad168.add (x15_3).toNat) = some (.slice A168_0 (rd_L3 x9_2 x15_3).length c168_0) ∧ w'.cell? (ad169.add (x15_3).toNat) = some (.string (rdOf ByteArray.empty t165 x15_3))) (ds := []) #[false, false, false, false, false, false, false, false, false, false, false] zq17 rfl rfl ⟨hx168_0, hx169_0⟩ (fun hH => ?_); refine tbW spec_Show.tab18 spec_Show.bits18 (fun HT_ HW_ => ?_)
              generalize wr.drew = w75 at HO_9 HO_14 BK145 BK146 BK162 HB HL168_0 HR168_0 hx168_0 hx169_0 hH ⊢
              refine pure_ (i := 0) (N := some 102) (v := ?_) (a' := ?_) #[true, false, false, false, false, false, false, false, false, false, false] rfl rfl (any_of HT_.out zq17) (fun _ _ _ h => h) (Or.inl ⟨zq105, ?_⟩) ?_ ?_
              rotate_left
              ·intro w'
               go_simp
               with_reducible rfl
              rotate_left
              ·simp only [Act.put, List.setIfInBounds_toArray, List.set_cons_zero, List.set_cons_succ, i64_w, i32_w]
               rfl
              refine pure_ (i := 1) (N := some 103) (v := ?_) (a' := ?_) #[true, true, false, false, false, false, false, false, false, false, false] rfl rfl (any_of HT_.out zq17) (fun _ _ _ h => h) (Or.inl ⟨zq105, ?_⟩) ?_ ?_
              rotate_left
              ·intro w'
               go_simp
               with_reducible rfl
              rotate_left
              ·simp only [Act.put, List.setIfInBounds_toArray, List.set_cons_zero, List.set_cons_succ, i64_w, i32_w]
               rfl
              refine pure_ (i := 2) (N := some 104) (v := ?_) (a' := ?_) #[true, true, true, false, false, false, false, false, false, false, false] rfl rfl (any_of HT_.out zq17) (fun _ _ _ h => h) (Or.inl ⟨zq105, ?_⟩) ?_ ?_
              rotate_left
              ·intro w'
               go_simp
               with_reducible rfl
              rotate_left
              ·simp only [Act.put, List.setIfInBounds_toArray, List.set_cons_zero, List.set_cons_succ, i64_w, i32_w]
               rfl
              refine pure_ (i := 4) (N := some 106) (v := ?_) (a' := ?_) #[true, true, true, false, true, false, false, false, false, false, false] rfl rfl (any_of HT_.out zq17) (fun _ _ _ h => h) (Or.inl ⟨zq105, ?_⟩) ?_ ?_
              rotate_left
              ·intro w'
               go_simp
               with_reducible rfl
              rotate_left
              ·simp only [Act.put, List.setIfInBounds_toArray, List.set_cons_zero, List.set_cons_succ, i64_w, i32_w]
               rfl
              refine pure_ (i := 5) (N := some 107) (v := ?_) (a' := ?_) #[true, true, true, false, true, true, false, false, false, false, false] rfl rfl (any_of HT_.out zq17) (fun _ _ _ h => h) (Or.inl ⟨zq105, ?_⟩) ?_ ?_
              rotate_left
              ·intro w'
               go_simp
               with_reducible rfl
              rotate_left
              ·simp only [Act.put, List.setIfInBounds_toArray, List.set_cons_zero, List.set_cons_succ, i64_w, i32_w]
               rfl
              refine pure_ (i := 6) (N := some 108) (v := ?_) (a' := ?_) #[true, true, true, false, true, true, true, false, false, false, false] rfl rfl (any_of HT_.out zq17) (fun _ _ _ h => h) (Or.inl ⟨zq105, ?_⟩) ?_ ?_
              rotate_left
              ·intro w'
               go_simp
               with_reducible rfl
              rotate_left
              ·simp only [Act.put, List.setIfInBounds_toArray, List.set_cons_zero, List.set_cons_succ, i64_w, i32_w]
               rfl
              refine take_ (i := 3) (N := some 105) (v := ?_) (a' := ?_) #[true, true, true, true, true, true, true, false, false, false, false] rfl rfl (take_ofW HT_.out HW_.out zq17) (fun _ _ _ h => h) (Or.inl ⟨zq105, ?_⟩) hH ?_ ?_
              rotate_left
              ·rintro w' ⟨s0, s1⟩
               go_simp
               with_reducible rfl
              rotate_left
              ·simp only [Act.put, List.setIfInBounds_toArray, List.set_cons_zero, List.set_cons_succ, i64_w, i32_w]
               rfl
              refine take_ (i := 7) (N := some 109) (v := ?_) (a' := ?_) #[true, true, true, true, true, true, true, true, false, false, false] rfl rfl (take_ofW HT_.out HW_.out zq17) (fun _ _ _ h => h) (Or.inl ⟨zq105, ?_⟩) hH ?_ ?_
              rotate_left
              ·rintro w' ⟨s0, s1⟩
               go_simp
               with_reducible rfl
              rotate_left
              ·simp only [Act.put, List.setIfInBounds_toArray, List.set_cons_zero, List.set_cons_succ, i64_w, i32_w]
               rfl
              refine join_ (σ := Nat) 1 #[true, true, true, true, true, true, true, true, true, true, false] (fun s_ => [(110, .agg #[.int .u8 t170, .string t171, .string t172]), (16, .pointer (some ⟨s_, 0, none⟩))]) (fun s_ w' => (w'.cell? (ad168.add (x15_3).toNat) = some (.slice A168_0 (rd_L3 x9_2 x15_3).length c168_0) ∧ w'.cell? (ad169.add (x15_3).toNat) = some (.string (rdOf ByteArray.empty t165 x15_3))) ∧ (Kd.R k78 78 w' w.heap.size (fun k_ => some k_ ≠ (.slice (some ad168) x9_2.length co76 : Value).ownBlock ∧ k_ ≠ s_) (.slice A168_0 (rd_L3 x9_2 x15_3).length c168_0) (rd_L3 x9_2 x15_3)) ∧ (Kd.R Kd.string 9 w' w.heap.size (fun _ => True) (.slice (some ad169) t165.length co74) t165) ∧ (Kd.S (Kd.slice 78 k78) 74 w' w.heap.size (fun k_ => k_ ≠ s_) (.slice (some ad168) x9_2.length co76) x9_2) ∧ (w'.heap[gb145]? = some (.cells #[.slice (some ad163) l2_0.length c2_0, .bool a2_1, .string a2_2] 38 (0, 0))) ∧ (w'.heap[gb146]? = some (.cells #[.int .i64 x147000_3, .bool x147001_3, .string x147002_3, .string x147003_3, .bool x147004_3] 36 (0, 0))) ∧ (w'.heap[gb162]? = some (.cells #[.int .i64 2, .bool false, .string (⟨#[]⟩ : ByteArray), .string (⟨#[]⟩ : ByteArray), .bool false] 36 (0, 0))) ∧ (w'.heap[s_]? = some (.cells #[.int .u8 0, .string (⟨#[]⟩ : ByteArray), .string (⟨#[]⟩ : ByteArray)] 78 (0, 0))) ∧ (w.heap.size ≤ s_) ∧ (w.heap.size ≤ s_) ∧ (gb145 ≠ s_) ∧ (s_ ≠ gb145) ∧ (gb146 ≠ s_) ∧ (s_ ≠ gb146) ∧ (gb162 ≠ s_) ∧ (s_ ≠ gb162) ∧ (Below w.heap.size w w')) ?_ ?_
              rotate_left
              ·intro hCont
               refine two_ (i := 8) (j := 9) (Ni := some 110) (Nj := some 16) #[true, true, true, true, true, true, true, true, true, false, false] #[true, true, true, true, true, true, true, true, false, true, false] rfl rfl rfl rfl (two_of HT_.out zq17) zq118 zq118 (fun K hK => ?_) (fun K hK => ?_)
               ·skip
                refine goes_ Tryd.func43 zq17 rfl #[.slice A168_0 (rd_L3 x9_2 x15_3).length c168_0, .string (rdOf ByteArray.empty t165 x15_3)] zq105 rfl rfl zq2 ?_
                with_reducible refine (spec_l9Find.calls k3 _ _ (rd_L3 x9_2 x15_3) (rdOf ByteArray.empty t165 x15_3) t170 t171 t172 _ ?side1 ?side2 A72.out).mono ?_
                (case side1 => repeat (first | exact zq60 | (with_reducible refine Kd.C_alloc ?_ _) | (with_reducible refine Kd.C_drewN ?_ _) | (with_reducible refine Kd.C_drew ?_)))
                (case side2 => exact HC168_0.out)
                rintro e w77 ⟨rfl, hb⟩
                have HS0_ := (hb.cell (World.block_lt_of_cell? _ _ (hH.1))).trans (hH.1)
                have HS1_ := (hb.cell (World.block_lt_of_cell? _ _ (hH.2))).trans (hH.2)
                refine ⟨_, rfl, ?_⟩
                have n0_ := AZ.mk (Kd.S_below zq22 hb)
                have n1_ := AZ.mk (Kd.R_below zq58 hb)
                have n2_ := AZ.mk (Kd.R_below zq113 hb)
                have n3_ := AZ.mk (blk_below (g := gb145) (o := .cells #[.slice (some ad163) l2_0.length c2_0, .bool a2_1, .string a2_2] 38 (0, 0)) zq9 hb)
                have n4_ := AZ.mk (blk_below (g := gb146) (o := .cells #[.int .i64 x147000_3, .bool x147001_3, .string x147002_3, .string x147003_3, .bool x147004_3] 36 (0, 0)) zq12 hb)
                have n5_ := AZ.mk (blk_below (g := gb162) (o := .cells #[.int .i64 2, .bool false, .string (⟨#[]⟩ : ByteArray), .string (⟨#[]⟩ : ByteArray), .bool false] 36 (0, 0)) zq26 hb)
                have n6_ := AZ.mk (Kd.C_below zq60 hb)
                have n7_ := AZ.mk (below_step zq20 hb)
                clear HO_9
                clear HO_14
                clear HL168_0
                clear BK145
                clear BK146
                clear BK162
                clear HR168_0
                clear HB
                have HO_9 := n0_
                have HO_14 := n1_
                have HL168_0 := n2_
                have BK145 := n3_
                have BK146 := n4_
                have BK162 := n5_
                have HR168_0 := n6_
                have HB := n7_
                clear n0_ n1_ n2_ n3_ n4_ n5_ n6_ n7_
                (try clear hb)
                (try clear hb2)
                (try clear hk)
                (try clear hi)
                refine hK.out _ _ ⟨HS0_, HS1_⟩ (fun hH => ?_)
                clear hK K
                refine norm_ (a' := ?_) ?_ ?_
                rotate_left
                ·show Act.put _ (some 110) _ = _
                 simp only [Act.put, List.setIfInBounds_toArray, List.set_cons_zero, List.set_cons_succ, i64_w, i32_w]
                 rfl
                refine one_ (i := 9) (N := some 16) #[true, true, true, true, true, true, true, true, true, true, false] rfl rfl (one_of HT_.out zq17) zq118 (fun K hK => ?_)
                refine box_step ?hg (N := 16) ?hd (cs := #[.int .u8 0, .string (⟨#[]⟩ : ByteArray), .string (⟨#[]⟩ : ByteArray)]) (t := 78) ?hr ?_; (case hd => rfl); (case hg => rfl); (case hr => first | (go_simp; done) | (go_simp; rfl))
                intro gb173 hg w78 hbox hb
                have HS0_ := (hb.cell (World.block_lt_of_cell? _ _ (hH.1))).trans (hH.1)
                have HS1_ := (hb.cell (World.block_lt_of_cell? _ _ (hH.2))).trans (hH.2)
                have n0_ := AZ.mk (Kd.S_below (Kd.S_elderB zq22 gb173 (Nat.le_of_eq hg.symm)) hb)
                have n1_ := AZ.mk (Kd.R_below zq58 hb)
                have n2_ := AZ.mk (Kd.R_below (Kd.R_elderB zq113 gb173 (Nat.le_of_eq hg.symm)) hb)
                have n3_ := AZ.mk (blk_below (g := gb145) (o := .cells #[.slice (some ad163) l2_0.length c2_0, .bool a2_1, .string a2_2] 38 (0, 0)) zq9 hb)
                have n4_ := AZ.mk (blk_below (g := gb146) (o := .cells #[.int .i64 x147000_3, .bool x147001_3, .string x147002_3, .string x147003_3, .bool x147004_3] 36 (0, 0)) zq12 hb)
                have n5_ := AZ.mk (blk_below (g := gb162) (o := .cells #[.int .i64 2, .bool false, .string (⟨#[]⟩ : ByteArray), .string (⟨#[]⟩ : ByteArray), .bool false] 36 (0, 0)) zq26 hb)
                have n6_ := AZ.mk (Kd.C_below zq60 hb)
                have n7_ := AZ.mk (below_step zq20 hb)
                have n8_ := AZ.mk (hbox)
                have n9_ := AZ.mk ((by rw [hg]; exact (below_size zq20) : w.heap.size ≤ gb173))
                have n10_ := AZ.mk ((by rw [hg]; exact (below_size zq20) : w.heap.size ≤ gb173))
                have n11_ := AZ.mk ((by rw [hg]; exact Nat.ne_of_lt (blk_lt (g := gb145) (o := .cells #[.slice (some ad163) l2_0.length c2_0, .bool a2_1, .string a2_2] 38 (0, 0)) zq9) : gb145 ≠ gb173))
                have n12_ := AZ.mk ((by rw [hg]; exact Nat.ne_of_gt (blk_lt (g := gb145) (o := .cells #[.slice (some ad163) l2_0.length c2_0, .bool a2_1, .string a2_2] 38 (0, 0)) zq9) : gb173 ≠ gb145))
                have n13_ := AZ.mk ((by rw [hg]; exact Nat.ne_of_lt (blk_lt (g := gb146) (o := .cells #[.int .i64 x147000_3, .bool x147001_3, .string x147002_3, .string x147003_3, .bool x147004_3] 36 (0, 0)) zq12) : gb146 ≠ gb173))
                have n14_ := AZ.mk ((by rw [hg]; exact Nat.ne_of_gt (blk_lt (g := gb146) (o := .cells #[.int .i64 x147000_3, .bool x147001_3, .string x147002_3, .string x147003_3, .bool x147004_3] 36 (0, 0)) zq12) : gb173 ≠ gb146))
                have n15_ := AZ.mk ((by rw [hg]; exact Nat.ne_of_lt (blk_lt (g := gb162) (o := .cells #[.int .i64 2, .bool false, .string (⟨#[]⟩ : ByteArray), .string (⟨#[]⟩ : ByteArray), .bool false] 36 (0, 0)) zq26) : gb162 ≠ gb173))
                have n16_ := AZ.mk ((by rw [hg]; exact Nat.ne_of_gt (blk_lt (g := gb162) (o := .cells #[.int .i64 2, .bool false, .string (⟨#[]⟩ : ByteArray), .string (⟨#[]⟩ : ByteArray), .bool false] 36 (0, 0)) zq26) : gb173 ≠ gb162))
                clear HO_9
                clear HO_14
                clear HL168_0
                clear BK145
                clear BK146
                clear BK162
                clear HR168_0
                clear HB
                have HO_9 := n0_
                have HO_14 := n1_
                have HL168_0 := n2_
                have BK145 := n3_
                have BK146 := n4_
                have BK162 := n5_
                have HR168_0 := n6_
                have HB := n7_
                have BK173 := n8_
                have GW173 := n9_
                have GE173 := n10_
                have NB145_173 := n11_
                have NB173_145 := n12_
                have NB146_173 := n13_
                have NB173_146 := n14_
                have NB162_173 := n15_
                have NB173_162 := n16_
                clear n0_ n1_ n2_ n3_ n4_ n5_ n6_ n7_ n8_ n9_ n10_ n11_ n12_ n13_ n14_ n15_ n16_
                clear hb hbox hg
                refine hK.out _ _ ⟨HS0_, HS1_⟩ (fun hH => ?_)
                clear hK K
                refine norm_ (a' := ?_) ?_ ?_
                rotate_left
                ·show Act.put _ (some 16) _ = _
                 simp only [Act.put, List.setIfInBounds_toArray, List.set_cons_zero, List.set_cons_succ, i64_w, i32_w]
                 rfl
                exact norm_ (by simp only [putAll, Act.put, List.setIfInBounds_toArray, List.set_cons_zero, List.set_cons_succ]) (hCont (gb173) _ ⟨hH, zq126, zq58, zq115, zq9, zq12, zq26, zq44, GW173.out, GE173.out, NB145_173.out, NB173_145.out, NB146_173.out, NB173_146.out, NB162_173.out, NB173_162.out, zq6⟩)
               ·skip
                refine box_step ?hg (N := 16) ?hd (cs := #[.int .u8 0, .string (⟨#[]⟩ : ByteArray), .string (⟨#[]⟩ : ByteArray)]) (t := 78) ?hr ?_; (case hd => rfl); (case hg => rfl); (case hr => first | (go_simp; done) | (go_simp; rfl))
                intro gb173 hg w77 hbox hb
                have HS0_ := (hb.cell (World.block_lt_of_cell? _ _ (hH.1))).trans (hH.1)
                have HS1_ := (hb.cell (World.block_lt_of_cell? _ _ (hH.2))).trans (hH.2)
                have n0_ := AZ.mk (Kd.S_below (Kd.S_elderB zq22 gb173 (Nat.le_of_eq hg.symm)) hb)
                have n1_ := AZ.mk (Kd.R_below zq58 hb)
                have n2_ := AZ.mk (Kd.R_below (Kd.R_elderB zq113 gb173 (Nat.le_of_eq hg.symm)) hb)
                have n3_ := AZ.mk (blk_below (g := gb145) (o := .cells #[.slice (some ad163) l2_0.length c2_0, .bool a2_1, .string a2_2] 38 (0, 0)) zq9 hb)
                have n4_ := AZ.mk (blk_below (g := gb146) (o := .cells #[.int .i64 x147000_3, .bool x147001_3, .string x147002_3, .string x147003_3, .bool x147004_3] 36 (0, 0)) zq12 hb)
                have n5_ := AZ.mk (blk_below (g := gb162) (o := .cells #[.int .i64 2, .bool false, .string (⟨#[]⟩ : ByteArray), .string (⟨#[]⟩ : ByteArray), .bool false] 36 (0, 0)) zq26 hb)
                have n6_ := AZ.mk (Kd.C_below zq60 hb)
                have n7_ := AZ.mk (below_step zq20 hb)
                have n8_ := AZ.mk (hbox)
                have n9_ := AZ.mk ((by rw [hg]; exact (below_size zq20) : w.heap.size ≤ gb173))
                have n10_ := AZ.mk ((by rw [hg]; exact (below_size zq20) : w.heap.size ≤ gb173))
                have n11_ := AZ.mk ((by rw [hg]; exact Nat.ne_of_lt (blk_lt (g := gb145) (o := .cells #[.slice (some ad163) l2_0.length c2_0, .bool a2_1, .string a2_2] 38 (0, 0)) zq9) : gb145 ≠ gb173))
                have n12_ := AZ.mk ((by rw [hg]; exact Nat.ne_of_gt (blk_lt (g := gb145) (o := .cells #[.slice (some ad163) l2_0.length c2_0, .bool a2_1, .string a2_2] 38 (0, 0)) zq9) : gb173 ≠ gb145))
                have n13_ := AZ.mk ((by rw [hg]; exact Nat.ne_of_lt (blk_lt (g := gb146) (o := .cells #[.int .i64 x147000_3, .bool x147001_3, .string x147002_3, .string x147003_3, .bool x147004_3] 36 (0, 0)) zq12) : gb146 ≠ gb173))
                have n14_ := AZ.mk ((by rw [hg]; exact Nat.ne_of_gt (blk_lt (g := gb146) (o := .cells #[.int .i64 x147000_3, .bool x147001_3, .string x147002_3, .string x147003_3, .bool x147004_3] 36 (0, 0)) zq12) : gb173 ≠ gb146))
                have n15_ := AZ.mk ((by rw [hg]; exact Nat.ne_of_lt (blk_lt (g := gb162) (o := .cells #[.int .i64 2, .bool false, .string (⟨#[]⟩ : ByteArray), .string (⟨#[]⟩ : ByteArray), .bool false] 36 (0, 0)) zq26) : gb162 ≠ gb173))
                have n16_ := AZ.mk ((by rw [hg]; exact Nat.ne_of_gt (blk_lt (g := gb162) (o := .cells #[.int .i64 2, .bool false, .string (⟨#[]⟩ : ByteArray), .string (⟨#[]⟩ : ByteArray), .bool false] 36 (0, 0)) zq26) : gb173 ≠ gb162))
                clear HO_9
                clear HO_14
                clear HL168_0
                clear BK145
                clear BK146
                clear BK162
                clear HR168_0
                clear HB
                have HO_9 := n0_
                have HO_14 := n1_
                have HL168_0 := n2_
                have BK145 := n3_
                have BK146 := n4_
                have BK162 := n5_
                have HR168_0 := n6_
                have HB := n7_
                have BK173 := n8_
                have GW173 := n9_
                have GE173 := n10_
                have NB145_173 := n11_
                have NB173_145 := n12_
                have NB146_173 := n13_
                have NB173_146 := n14_
                have NB162_173 := n15_
                have NB173_162 := n16_
                clear n0_ n1_ n2_ n3_ n4_ n5_ n6_ n7_ n8_ n9_ n10_ n11_ n12_ n13_ n14_ n15_ n16_
                clear hb hbox hg
                refine hK.out _ _ ⟨HS0_, HS1_⟩ (fun hH => ?_)
                clear hK K
                refine norm_ (a' := ?_) ?_ ?_
                rotate_left
                ·show Act.put _ (some 16) _ = _
                 simp only [Act.put, List.setIfInBounds_toArray, List.set_cons_zero, List.set_cons_succ, i64_w, i32_w]
                 rfl
                refine one_ (i := 8) (N := some 110) #[true, true, true, true, true, true, true, true, true, true, false] rfl rfl (one_of HT_.out zq17) zq118 (fun K hK => ?_)
                refine goes_ Tryd.func43 zq17 rfl #[.slice A168_0 (rd_L3 x9_2 x15_3).length c168_0, .string (rdOf ByteArray.empty t165 x15_3)] zq105 rfl rfl zq2 ?_
                with_reducible refine (spec_l9Find.calls k3 _ _ (rd_L3 x9_2 x15_3) (rdOf ByteArray.empty t165 x15_3) t170 t171 t172 _ ?side1 ?side2 A72.out).mono ?_
                (case side1 => repeat (first | exact zq60 | (with_reducible refine Kd.C_alloc ?_ _) | (with_reducible refine Kd.C_drewN ?_ _) | (with_reducible refine Kd.C_drew ?_)))
                (case side2 => exact HC168_0.out)
                rintro e w78 ⟨rfl, hb⟩
                have HS0_ := (hb.cell (World.block_lt_of_cell? _ _ (hH.1))).trans (hH.1)
                have HS1_ := (hb.cell (World.block_lt_of_cell? _ _ (hH.2))).trans (hH.2)
                refine ⟨_, rfl, ?_⟩
                have n0_ := AZ.mk (Kd.S_below zq22 hb)
                have n1_ := AZ.mk (Kd.R_below zq58 hb)
                have n2_ := AZ.mk (Kd.R_below zq113 hb)
                have n3_ := AZ.mk (blk_below (g := gb145) (o := .cells #[.slice (some ad163) l2_0.length c2_0, .bool a2_1, .string a2_2] 38 (0, 0)) zq9 hb)
                have n4_ := AZ.mk (blk_below (g := gb146) (o := .cells #[.int .i64 x147000_3, .bool x147001_3, .string x147002_3, .string x147003_3, .bool x147004_3] 36 (0, 0)) zq12 hb)
                have n5_ := AZ.mk (blk_below (g := gb162) (o := .cells #[.int .i64 2, .bool false, .string (⟨#[]⟩ : ByteArray), .string (⟨#[]⟩ : ByteArray), .bool false] 36 (0, 0)) zq26 hb)
                have n6_ := AZ.mk (Kd.C_below zq60 hb)
                have n7_ := AZ.mk (blk_below (g := gb173) (o := .cells #[.int .u8 0, .string (⟨#[]⟩ : ByteArray), .string (⟨#[]⟩ : ByteArray)] 78 (0, 0)) zq44 hb)
                have n8_ := AZ.mk (below_step zq6 hb)
                clear HO_9
                clear HO_14
                clear HL168_0
                clear BK145
                clear BK146
                clear BK162
                clear HR168_0
                clear BK173
                clear HB
                have HO_9 := n0_
                have HO_14 := n1_
                have HL168_0 := n2_
                have BK145 := n3_
                have BK146 := n4_
                have BK162 := n5_
                have HR168_0 := n6_
                have BK173 := n7_
                have HB := n8_
                clear n0_ n1_ n2_ n3_ n4_ n5_ n6_ n7_ n8_
                (try clear hb)
                (try clear hb2)
                (try clear hk)
                (try clear hi)
                refine hK.out _ _ ⟨HS0_, HS1_⟩ (fun hH => ?_)
                clear hK K
                refine norm_ (a' := ?_) ?_ ?_
                rotate_left
                ·show Act.put _ (some 110) _ = _
                 simp only [Act.put, List.setIfInBounds_toArray, List.set_cons_zero, List.set_cons_succ, i64_w, i32_w]
                 rfl
                exact norm_ (by simp only [putAll, Act.put, List.setIfInBounds_toArray, List.set_cons_zero, List.set_cons_succ]) (hCont (gb173) _ ⟨hH, zq126, zq58, zq115, zq9, zq12, zq26, zq44, GW173.out, GE173.out, NB145_173.out, NB173_145.out, NB146_173.out, NB173_146.out, NB162_173.out, NB173_162.out, zq6⟩)
              rintro gb173 w79 ⟨hS_, h0_, h1_, h2_, h3_, h4_, h5_, h6_, h7_, h8_, h9_, h10_, h11_, h12_, h13_, h14_, h15_⟩
              have n0_ : AZ (Kd.R k78 78 w79 w.heap.size (fun k_ => some k_ ≠ (.slice (some ad168) x9_2.length co76 : Value).ownBlock ∧ k_ ≠ gb173) (.slice A168_0 (rd_L3 x9_2 x15_3).length c168_0) (rd_L3 x9_2 x15_3)) := ⟨h0_⟩
              have n1_ : AZ (Kd.R Kd.string 9 w79 w.heap.size (fun _ => True) (.slice (some ad169) t165.length co74) t165) := ⟨h1_⟩
              have n2_ : AZ (Kd.S (Kd.slice 78 k78) 74 w79 w.heap.size (fun k_ => k_ ≠ gb173) (.slice (some ad168) x9_2.length co76) x9_2) := ⟨h2_⟩
              have n3_ : AZ (w79.heap[gb145]? = some (.cells #[.slice (some ad163) l2_0.length c2_0, .bool a2_1, .string a2_2] 38 (0, 0))) := ⟨h3_⟩
              have n4_ : AZ (w79.heap[gb146]? = some (.cells #[.int .i64 x147000_3, .bool x147001_3, .string x147002_3, .string x147003_3, .bool x147004_3] 36 (0, 0))) := ⟨h4_⟩
              have n5_ : AZ (w79.heap[gb162]? = some (.cells #[.int .i64 2, .bool false, .string (⟨#[]⟩ : ByteArray), .string (⟨#[]⟩ : ByteArray), .bool false] 36 (0, 0))) := ⟨h5_⟩
              have n6_ : AZ (w79.heap[gb173]? = some (.cells #[.int .u8 0, .string (⟨#[]⟩ : ByteArray), .string (⟨#[]⟩ : ByteArray)] 78 (0, 0))) := ⟨h6_⟩
              have n7_ : AZ (w.heap.size ≤ gb173) := ⟨h7_⟩
              have n8_ : AZ (w.heap.size ≤ gb173) := ⟨h8_⟩
              have n9_ : AZ (gb145 ≠ gb173) := ⟨h9_⟩
              have n10_ : AZ (gb173 ≠ gb145) := ⟨h10_⟩
              have n11_ : AZ (gb146 ≠ gb173) := ⟨h11_⟩
              have n12_ : AZ (gb173 ≠ gb146) := ⟨h12_⟩
              have n13_ : AZ (gb162 ≠ gb173) := ⟨h13_⟩
              have n14_ : AZ (gb173 ≠ gb162) := ⟨h14_⟩
              have n15_ : AZ (Below w.heap.size w w79) := ⟨h15_⟩
              clear HO_9
              clear HO_14
              clear BK145
              clear BK146
              clear BK162
              clear HB
              clear h0_ h1_ h2_ h3_ h4_ h5_ h6_ h7_ h8_ h9_ h10_ h11_ h12_ h13_ h14_ h15_
              have HL168_0 := n0_
              have HO_14 := n1_
              have HO_9 := n2_
              have BK145 := n3_
              have BK146 := n4_
              have BK162 := n5_
              have BK173 := n6_
              have GW173 := n7_
              have GE173 := n8_
              have NB145_173 := n9_
              have NB173_145 := n10_
              have NB146_173 := n11_
              have NB173_146 := n12_
              have NB162_173 := n13_
              have NB173_162 := n14_
              have HB := n15_
              clear n0_ n1_ n2_ n3_ n4_ n5_ n6_ n7_ n8_ n9_ n10_ n11_ n12_ n13_ n14_ n15_
              have hH : w79.cell? (ad168.add (x15_3).toNat) = some (.slice A168_0 (rd_L3 x9_2 x15_3).length c168_0) ∧ w79.cell? (ad169.add (x15_3).toNat) = some (.string (rdOf ByteArray.empty t165 x15_3)) := hS_
              refine norm_ (a' := ?_) ?_ ?_
              rotate_left
              ·simp only [putAll, Act.put, List.setIfInBounds_toArray, List.set_cons_zero, List.set_cons_succ]
               rfl
              refine one_ (i := 10) (N := none) #[true, true, true, true, true, true, true, true, true, true, true] rfl rfl (one_of HT_.out zq17) zq118 (fun K hK => ?_)
              have hs80 : w79.cell? ⟨gb173, 0, none⟩ = some (.int .u8 0) := (blk_cell BK173.out 0).trans rfl
              have hfs80 := blk_frozen BK173.out 0
              have hns80_0 := NB145_173.out
              have hns80_1 := NB146_173.out
              have hns80_2 := NB162_173.out
              have hms80_0 := NB173_145.out
              have hms80_1 := NB173_146.out
              have hms80_2 := NB173_162.out
              have hs81 : w79.cell? ⟨gb173, 1, none⟩ = some (.string (⟨#[]⟩ : ByteArray)) := (blk_cell BK173.out 1).trans rfl
              have hfs81 := blk_frozen BK173.out 1
              have hns81_0 := NB145_173.out
              have hns81_1 := NB146_173.out
              have hns81_2 := NB162_173.out
              have hms81_0 := NB173_145.out
              have hms81_1 := NB173_146.out
              have hms81_2 := NB173_162.out
              have hs82 : w79.cell? ⟨gb173, 2, none⟩ = some (.string (⟨#[]⟩ : ByteArray)) := (blk_cell BK173.out 2).trans rfl
              have hfs82 := blk_frozen BK173.out 2
              have hns82_0 := NB145_173.out
              have hns82_1 := NB146_173.out
              have hns82_2 := NB162_173.out
              have hms82_0 := NB173_145.out
              have hms82_1 := NB173_146.out
              have hms82_2 := NB173_162.out
              refine skip_ (w1 := ?_) zq105 rfl ?_ ?_
              rotate_left
              ·go_simp
               rfl
              refine hK.out _ _ ⟨((cell_far (p := ⟨gb173, _, none⟩) zq77 _).trans (((cell_far (p := ⟨gb173, _, none⟩) zq77 _).trans (((cell_far (p := ⟨gb173, _, none⟩) zq77 _).trans (hH.1)))))), ((cell_far (p := ⟨gb173, _, none⟩) zq76 _).trans (((cell_far (p := ⟨gb173, _, none⟩) zq76 _).trans (((cell_far (p := ⟨gb173, _, none⟩) zq76 _).trans (hH.2))))))⟩ (fun hH => ?_)
              clear hK K
              refine done_ (done_of HT_.out zq17) ?_
              go_upto_region 20 with (fail)
              go_cut [125] (fun v125 wc => ∃ (kq : Nat) (x125_72 : Bool), v125 = .bool x125_72 ∧ AZ (spec_Show.j3 kq a1 a3 x9_2 t165 x15_3 (decide ((x9_2.length : Int) > (wrap64 (x15_3 + 1)))) x125_72 l2_0 a2_1 a2_2 2 false (⟨#[]⟩ : ByteArray) (⟨#[]⟩ : ByteArray) false t170 t171 t172 = some (r1, r2, r3, r4, r5)) ∧ AZ (kq ≤ k3) ∧ AZ (Kd.S (Kd.slice 78 k78) 74 wc w.heap.size (fun k_ => k_ ≠ gb173) (.slice (some ad168) x9_2.length co76) x9_2) ∧ AZ (Kd.R Kd.string 9 wc w.heap.size (fun _ => True) (.slice (some ad169) t165.length co74) t165) ∧ AZ (wc.heap[gb145]? = some (.cells #[(.slice (some ad163) l2_0.length c2_0), .bool a2_1, .string a2_2] 38 (0, 0))) ∧ AZ (wc.heap[gb146]? = some (.cells #[.int .i64 x147000_3, .bool x147001_3, .string x147002_3, .string x147003_3, .bool x147004_3] 36 (0, 0))) ∧ AZ (wc.heap[gb162]? = some (.cells #[.int .i64 2, .bool false, .string (⟨#[]⟩ : ByteArray), .string (⟨#[]⟩ : ByteArray), .bool false] 36 (0, 0))) ∧ AZ (wc.heap[gb173]? = some (.cells #[.int .u8 t170, .string t171, .string t172] 78 (0, 0))) ∧ AZ (Below w.heap.size w wc))
              case first =>
               have H := HC73.out
               clear HC73
               by_cases c83 : (wrap64 (x15_3 + 1)) < (t165.length : Int)
               ·rw [if_pos c83] at H
                have c83b0 : decide ((wrap64 (x15_3 + 1)) < (t165.length : Int)) = true := decide_eq_true c83
                clear c83
                (first | rw [c83b0] | (simp only [i64_w, i32_w]; rw [c83b0]) | skip)
                have H' := AZ.mk H
                clear H
                have hnb84 := NB173_145.out
                have hnc84 := NB145_173.out
                have hnb85 := NB173_146.out
                have hnc85 := NB146_173.out
                have hnb86 := NB173_162.out
                have hnc86 := NB162_173.out
                have hcz87_0 : w79.cell? ⟨gb173, 0, none⟩ = some (.int .u8 0) := (blk_cell BK173.out 0).trans rfl
                have hcz87_1 : w79.cell? ⟨gb173, 1, none⟩ = some (.string (⟨#[]⟩ : ByteArray)) := (blk_cell BK173.out 1).trans rfl
                have hcz87_2 : w79.cell? ⟨gb173, 2, none⟩ = some (.string (⟨#[]⟩ : ByteArray)) := (blk_cell BK173.out 2).trans rfl
                have hfz87_0 := blk_frozen BK173.out 0
                have hfz87_1 := blk_frozen BK173.out 1
                have hfz87_2 := blk_frozen BK173.out 2
                go_wp2
                go_meet
                case rel => exact ⟨_, ((t170 == 100)), zq8, H', ⟨by have := HJ4.out; have := HK2.out; have := HK3.out; first | omega | exact Nat.le_refl _⟩, ⟨zq98⟩, ⟨zq103⟩, ⟨zq93⟩, ⟨zq92⟩, ⟨zq91⟩, ⟨zq71⟩, ⟨zq6⟩⟩
               ·rw [if_neg c83] at H
                have c83b0 : decide ((wrap64 (x15_3 + 1)) < (t165.length : Int)) = false := decide_eq_false c83
                clear c83
                (first | rw [c83b0] | (simp only [i64_w, i32_w]; rw [c83b0]) | skip)
                have H' := AZ.mk H
                clear H
                go_wp2
                go_meet
                case rel => exact ⟨_, (false), zq8, H', ⟨by have := HJ4.out; have := HK2.out; have := HK3.out; first | omega | exact Nat.le_refl _⟩, ⟨zq98⟩, ⟨zq103⟩, ⟨zq93⟩, ⟨zq92⟩, ⟨zq91⟩, ⟨zq71⟩, ⟨zq6⟩⟩
              case rest =>
               clear HC73
               try clear c1
               try clear p1
               try clear q1
               try clear hx1
               try clear c2
               try clear p2
               try clear c3
               try clear c4
               try clear c5
               try clear c6
               try clear p6
               try clear c7
               try clear c8
               try clear p15
               try clear q15
               try clear hx15
               try clear c16
               try clear p16
               try clear q16
               try clear hx16
               try clear c39
               try clear c39b1
               try clear c40
               try clear c41
               try clear c42
               try clear c43
               try clear c45
               try clear c46
               try clear c52
               try clear c56
               try clear c56b0
               try clear c56b1
               try clear c58
               try clear c58b0
               try clear c58b1
               try clear c60
               try clear c63
               try clear c64
               try clear p64
               try clear c69
               try clear c69b0
               try clear c70
               try clear c70b0
               try clear c71
               try clear c71b0
               try clear c83
               try clear c83b0
               try clear c84
               try clear c85
               try clear c86
               try clear hcz17_0
               try clear hcz17_1
               try clear hcz17_2
               try clear hcz21_0
               try clear hcz21_1
               try clear hcz21_2
               try clear hcz24_0
               try clear hcz24_1
               try clear hcz24_2
               try clear hcz27_0
               try clear hcz27_1
               try clear hcz27_2
               try clear hcz32_0
               try clear hcz32_1
               try clear hcz32_2
               try clear hcz32_3
               try clear hcz32_4
               try clear hcz41_0
               try clear hcz41_1
               try clear hcz41_2
               try clear hcz43_0
               try clear hcz43_1
               try clear hcz43_2
               try clear hcz44_0
               try clear hcz44_1
               try clear hcz44_2
               try clear hcz44_3
               try clear hcz44_4
               try clear hcz47_0
               try clear hcz47_1
               try clear hcz47_2
               try clear hcz49_0
               try clear hcz49_1
               try clear hcz49_2
               try clear hcz53_0
               try clear hcz53_1
               try clear hcz53_2
               try clear hcz55_0
               try clear hcz55_1
               try clear hcz55_2
               try clear hcz55_3
               try clear hcz55_4
               try clear hcz61_0
               try clear hcz61_1
               try clear hcz61_2
               try clear hcz65_0
               try clear hcz65_1
               try clear hcz65_2
               try clear hcz65_3
               try clear hcz65_4
               try clear hcz66_0
               try clear hcz66_1
               try clear hcz66_2
               try clear hcz87_0
               try clear hcz87_1
               try clear hcz87_2
               try clear hfz17_0
               try clear hfz17_1
               try clear hfz17_2
               try clear hfz21_0
               try clear hfz21_1
               try clear hfz21_2
               try clear hfz24_0
               try clear hfz24_1
               try clear hfz24_2
               try clear hfz27_0
               try clear hfz27_1
               try clear hfz27_2
               try clear hfz32_0
               try clear hfz32_1
               try clear hfz32_2
               try clear hfz32_3
               try clear hfz32_4
               try clear hfz41_0
               try clear hfz41_1
               try clear hfz41_2
               try clear hfz43_0
               try clear hfz43_1
               try clear hfz43_2
               try clear hfz44_0
               try clear hfz44_1
               try clear hfz44_2
               try clear hfz44_3
               try clear hfz44_4
               try clear hfz47_0
               try clear hfz47_1
               try clear hfz47_2
               try clear hfz49_0
               try clear hfz49_1
               try clear hfz49_2
               try clear hfz53_0
               try clear hfz53_1
               try clear hfz53_2
               try clear hfz55_0
               try clear hfz55_1
               try clear hfz55_2
               try clear hfz55_3
               try clear hfz55_4
               try clear hfz61_0
               try clear hfz61_1
               try clear hfz61_2
               try clear hfz65_0
               try clear hfz65_1
               try clear hfz65_2
               try clear hfz65_3
               try clear hfz65_4
               try clear hfz66_0
               try clear hfz66_1
               try clear hfz66_2
               try clear hfz87_0
               try clear hfz87_1
               try clear hfz87_2
               try clear hx153_0
               try clear hx158_0
               try clear hx163_0
               try clear hx168_0
               try clear hx169_0
               try clear p153
               try clear p158
               try clear p163
               try clear p168
               try clear p169
               try clear p2
               try clear p64
               try clear q153
               try clear q158
               try clear q163
               try clear q168
               try clear q169
               obtain ⟨kq, x125_72, rfl, HA, HJ72, HO_9, HO_14, BK145, BK146, BK162, BK173, HB⟩ := hcut
               cases kq with
               | zero => exact absurd HA.out (by simp [spec_Show.j3])
               | succ kj72 =>
                have H := HA.out
                clear HA
                simp only [spec_Show.j3] at H
                by_cases c88 : x125_72 = true
                ·subst c88
                 rw [if_pos rfl] at H
                 by_cases c89 : (decide ((x9_2.length : Int) > (wrap64 (x15_3 + 1)))) = true
                 ·rw [if_pos c89] at H
                  have c89b0 : (decide ((x9_2.length : Int) > (wrap64 (x15_3 + 1)))) = true := c89
                  have c89b1 : (decide ((wrap64 (x15_3 + 1)) < (x9_2.length : Int))) = true := c89b0
                  (first | rw [c89b0] | rw [c89b1] | (simp only [i64_w, i32_w]; rw [c89b0]) | (simp only [i64_w, i32_w, gt_iff_lt]; rw [c89b1]) | skip)
                  clear c89
                  obtain ⟨ji90, hji90⟩ : ∃ j_ : Int, (wrap64 (x15_3 + 1)) = j_ := ⟨_, rfl⟩
                  replace H : (if 0 ≤ (ji90) then (if (ji90) < (l2_0.length : Int) then ((spec_Sum.f kj72 (rdOf ByteArray.empty l2_0 (ji90)) a3).bind fun t175 => ((spec_l9Hex.f kj72 t175).bind fun t176 => (if t176.toList = t172.toList then (spec_Show.l1 kj72 a1 a3 x9_2 t165 ji90 l2_0 a2_1 a2_2 2 false (⟨#[]⟩ : ByteArray) (⟨#[]⟩ : ByteArray) false) else (some (2, false, (⟨#[]⟩ : ByteArray), (⟨#[]⟩ : ByteArray), false))))) else (none)) else (none)) = some (r1, r2, r3, r4, r5) := by first | (rw [hji90] at H; exact H) | (simp only [hji90] at H ⊢; exact H)
                  (try rw [hji90] at c89b0)
                  have hji90w : (IntKind.i64.wrap (x15_3 + 1)) = ji90 := (i64_w _).trans hji90
                  by_cases c91 : 0 ≤ (ji90)
                  ·rw [if_pos c91] at H
                   have c91b0 : decide (0 ≤ (ji90)) = true := decide_eq_true c91
                   clear c91
                   by_cases c92 : (ji90) < (l2_0.length : Int)
                   ·rw [if_pos c92] at H
                    have c92b0 : decide ((ji90) < (l2_0.length : Int)) = true := decide_eq_true c92
                    clear c92
                    replace H := Option.bind_eq_some_iff.mp H
                    obtain ⟨t175, A930, H⟩ := H
                    try dsimp only at H
                    have A93 := AZ.mk A930
                    clear A930
                    replace H := Option.bind_eq_some_iff.mp H
                    obtain ⟨t176, A940, H⟩ := H
                    try dsimp only at H
                    have A94 := AZ.mk A940
                    clear A940
                    by_cases c95 : t176.toList = t172.toList
                    ·rw [if_pos c95] at H
                     have c95b0 : (t176.toList == t172.toList) = true := beq_iff_eq.mpr c95
                     have c95b1 : (t176.toList != t172.toList) = false := bne_eq_false_iff_eq.mpr c95
                     clear c95
                     have H' := AZ.mk H
                     clear H
                     try go_wp2
                     have n0_ := AZ.mk (Kd.S_drew HO_9.out)
                     have n1_ := AZ.mk (Kd.R_drew HO_14.out)
                     have n2_ := AZ.mk (blk_drew BK145.out)
                     have n3_ := AZ.mk (blk_drew BK146.out)
                     have n4_ := AZ.mk (blk_drew BK162.out)
                     have n5_ := AZ.mk (blk_drew BK173.out)
                     have n6_ := AZ.mk (below_drew1 HB.out)
                     clear HO_9
                     clear HO_14
                     clear BK145
                     clear BK146
                     clear BK162
                     clear BK173
                     clear HB
                     have HO_9 := n0_
                     have HO_14 := n1_
                     have BK145 := n2_
                     have BK146 := n3_
                     have BK162 := n4_
                     have BK173 := n5_
                     have HB := n6_
                     clear n0_ n1_ n2_ n3_ n4_ n5_ n6_
                     have p174 : 0 ≤ ((ji90) : Int) := of_decide_eq_true zq1
                     have q174 : (ji90) < (l2_0.length : Int) := of_decide_eq_true zq1
                     obtain ⟨ad174, e174, hx174_0⟩ := Kd.at_string HR2_0.out (ji90) p174 q174
                     have hw174_0 := hx174_0
                     obtain rfl : ad163 = ad174 := (by injection e174)
                     replace hx174_0 := (HB.out.cell (World.block_lt_of_cell? w _ hx174_0)).trans hx174_0
                     replace p174 := eq_true p174
                     replace q174 := eq_true q174
                     refine start_ (n := 16) (S := fun w' => w'.cell? ⟨gb145, 0, none⟩ = some (.slice (some ad163) l2_0.length c2_0) ∧ w'.cell? ⟨gb145, 1, none⟩ = some (.bool a2_1) ∧ w'.cell? ⟨gb145, 2, none⟩ = some (.string a2_2) ∧ w'.cell? ⟨gb173, 0, none⟩ = some (.int .u8 t170) ∧ w'.cell? ⟨gb173, 1, none⟩ = some (.string t171) ∧ w'.cell? ⟨gb173, 2, none⟩ = some (.string t172) ∧ w'.cell? (ad163.add ((ji90)).toNat) = some (.string (rdOf ByteArray.empty l2_0 (ji90)))) (ds := []) #[false, false, false, false, false, false, false, false, false, false, false, false, false, false, false, false] zq17 rfl rfl ⟨(blk_cell BK145.out 0).trans rfl, (blk_cell BK145.out 1).trans rfl, (blk_cell BK145.out 2).trans rfl, (blk_cell BK173.out 0).trans rfl, (blk_cell BK173.out 1).trans rfl, (blk_cell BK173.out 2).trans rfl, ((HB.out.cell (World.block_lt_of_cell? w _ hw174_0)).trans hw174_0)⟩ (fun hH => ?_); refine tbW spec_Show.tab21 spec_Show.bits21 (fun HT_ HW_ => ?_)
                     generalize wc.drew = w96 at HO_9 HO_14 BK145 BK146 BK162 BK173 HB hx174_0 hH ⊢
                     refine pure_ (i := 0) (N := some 126) (v := ?_) (a' := ?_) #[true, false, false, false, false, false, false, false, false, false, false, false, false, false, false, false] rfl rfl (any_of HT_.out zq17) (fun _ _ _ h => h) (Or.inl ⟨zq105, ?_⟩) ?_ ?_
                     rotate_left
                     ·intro w'
                      go_simp
                      with_reducible rfl
                     rotate_left
                     ·simp only [Act.put, List.setIfInBounds_toArray, List.set_cons_zero, List.set_cons_succ, i64_w, i32_w]
                      rfl
                     refine pure_ (i := 1) (N := some 127) (v := ?_) (a' := ?_) #[true, true, false, false, false, false, false, false, false, false, false, false, false, false, false, false] rfl rfl (any_of HT_.out zq17) (fun _ _ _ h => h) (Or.inl ⟨zq105, ?_⟩) ?_ ?_
                     rotate_left
                     ·intro w'
                      go_simp
                      with_reducible rfl
                     rotate_left
                     ·simp only [Act.put, List.setIfInBounds_toArray, List.set_cons_zero, List.set_cons_succ, i64_w, i32_w]
                      rfl
                     refine pure_ (i := 2) (N := some 128) (v := ?_) (a' := ?_) #[true, true, true, false, false, false, false, false, false, false, false, false, false, false, false, false] rfl rfl (any_of HT_.out zq17) (fun _ _ _ h => h) (Or.inl ⟨zq105, ?_⟩) ?_ ?_
                     rotate_left
                     ·intro w'
                      go_simp
                      with_reducible rfl
                     rotate_left
                     ·simp only [Act.put, List.setIfInBounds_toArray, List.set_cons_zero, List.set_cons_succ, i64_w, i32_w]
                      rfl
                     refine pure_ (i := 3) (N := some 129) (v := ?_) (a' := ?_) #[true, true, true, true, false, false, false, false, false, false, false, false, false, false, false, false] rfl rfl (any_of HT_.out zq17) (fun _ _ _ h => h) (Or.inl ⟨zq105, ?_⟩) ?_ ?_
                     rotate_left
                     ·intro w'
                      go_simp
                      with_reducible rfl
                     rotate_left
                     ·simp only [Act.put, List.setIfInBounds_toArray, List.set_cons_zero, List.set_cons_succ, i64_w, i32_w]
                      rfl
                     refine pure_ (i := 5) (N := some 131) (v := ?_) (a' := ?_) #[true, true, true, true, false, true, false, false, false, false, false, false, false, false, false, false] rfl rfl (any_of HT_.out zq17) (fun _ _ _ h => h) (Or.inl ⟨zq105, ?_⟩) ?_ ?_
                     rotate_left
                     ·intro w'
                      go_simp
                      with_reducible rfl
                     rotate_left
                     ·simp only [Act.put, List.setIfInBounds_toArray, List.set_cons_zero, List.set_cons_succ, i64_w, i32_w]
                      rfl
                     refine pure_ (i := 6) (N := some 132) (v := ?_) (a' := ?_) #[true, true, true, true, false, true, true, false, false, false, false, false, false, false, false, false] rfl rfl (any_of HT_.out zq17) (fun _ _ _ h => h) (Or.inl ⟨zq105, ?_⟩) ?_ ?_
                     rotate_left
                     ·intro w'
                      go_simp
                      with_reducible rfl
                     rotate_left
                     ·simp only [Act.put, List.setIfInBounds_toArray, List.set_cons_zero, List.set_cons_succ, i64_w, i32_w]
                      rfl
                     refine pure_ (i := 9) (N := some 135) (v := ?_) (a' := ?_) #[true, true, true, true, false, true, true, false, false, true, false, false, false, false, false, false] rfl rfl (any_of HT_.out zq17) (fun _ _ _ h => h) (Or.inl ⟨zq105, ?_⟩) ?_ ?_
                     rotate_left
                     ·intro w'
                      go_simp
                      with_reducible rfl
                     rotate_left
                     ·simp only [Act.put, List.setIfInBounds_toArray, List.set_cons_zero, List.set_cons_succ, i64_w, i32_w]
                      rfl
                     refine pure_ (i := 12) (N := some 138) (v := ?_) (a' := ?_) #[true, true, true, true, false, true, true, false, false, true, false, false, true, false, false, false] rfl rfl (any_of HT_.out zq17) (fun _ _ _ h => h) (Or.inl ⟨zq105, ?_⟩) ?_ ?_
                     rotate_left
                     ·intro w'
                      go_simp
                      with_reducible rfl
                     rotate_left
                     ·simp only [Act.put, List.setIfInBounds_toArray, List.set_cons_zero, List.set_cons_succ, i64_w, i32_w]
                      rfl
                     refine take_ (i := 4) (N := some 130) (v := ?_) (a' := ?_) #[true, true, true, true, true, true, true, false, false, true, false, false, true, false, false, false] rfl rfl (take_ofW HT_.out HW_.out zq17) (fun _ _ _ h => h) (Or.inl ⟨zq105, ?_⟩) hH ?_ ?_
                     rotate_left
                     ·rintro w' ⟨s0, s1, s2, s3, s4, s5, s6⟩
                      go_simp
                      with_reducible rfl
                     rotate_left
                     ·simp only [Act.put, List.setIfInBounds_toArray, List.set_cons_zero, List.set_cons_succ, i64_w, i32_w]
                      rfl
                     refine pure_ (i := 7) (N := some 133) (v := ?_) (a' := ?_) #[true, true, true, true, true, true, true, true, false, true, false, false, true, false, false, false] rfl rfl (any_of HT_.out zq17) (fun _ _ _ h => h) (Or.inl ⟨zq105, ?_⟩) ?_ ?_
                     rotate_left
                     ·intro w'
                      go_simp
                      with_reducible rfl
                     rotate_left
                     ·simp only [Act.put, List.setIfInBounds_toArray, List.set_cons_zero, List.set_cons_succ, i64_w, i32_w]
                      rfl
                     refine take_ (i := 8) (N := some 134) (v := ?_) (a' := ?_) #[true, true, true, true, true, true, true, true, true, true, false, false, true, false, false, false] rfl rfl (take_ofW HT_.out HW_.out zq17) (fun _ _ _ h => h) (Or.inl ⟨zq105, ?_⟩) hH ?_ ?_
                     rotate_left
                     ·rintro w' ⟨s0, s1, s2, s3, s4, s5, s6⟩
                      go_simp
                      with_reducible rfl
                     rotate_left
                     ·simp only [Act.put, List.setIfInBounds_toArray, List.set_cons_zero, List.set_cons_succ, i64_w, i32_w]
                      rfl
                     refine take_ (i := 13) (N := some 139) (v := ?_) (a' := ?_) #[true, true, true, true, true, true, true, true, true, true, false, false, true, true, false, false] rfl rfl (take_ofW HT_.out HW_.out zq17) (fun _ _ _ h => h) (Or.inl ⟨zq105, ?_⟩) hH ?_ ?_
                     rotate_left
                     ·rintro w' ⟨s0, s1, s2, s3, s4, s5, s6⟩
                      go_simp
                      with_reducible rfl
                     rotate_left
                     ·simp only [Act.put, List.setIfInBounds_toArray, List.set_cons_zero, List.set_cons_succ, i64_w, i32_w]
                      rfl
                     refine one_ (i := 10) (N := some 136) #[true, true, true, true, true, true, true, true, true, true, true, false, true, true, false, false] rfl rfl (one_of HT_.out zq17) zq118 (fun K hK => ?_)
                     refine goes_ Tryd.func41 zq17 rfl #[.string (rdOf ByteArray.empty l2_0 (ji90)), .int .i64 a3] zq105 rfl rfl zq124 ?_
                     with_reducible refine (spec_Sum.calls kj72 (rdOf ByteArray.empty l2_0 (ji90)) a3 t175 _ A93.out).mono ?_
                     rintro e w97 ⟨rfl, hb⟩
                     refine ⟨_, rfl, ?_⟩
                     have n0_ := AZ.mk (Kd.S_below zq22 hb)
                     have n1_ := AZ.mk (Kd.R_below zq58 hb)
                     have n2_ := AZ.mk (blk_below (g := gb145) (o := .cells #[.slice (some ad163) l2_0.length c2_0, .bool a2_1, .string a2_2] 38 (0, 0)) zq9 hb)
                     have n3_ := AZ.mk (blk_below (g := gb146) (o := .cells #[.int .i64 x147000_3, .bool x147001_3, .string x147002_3, .string x147003_3, .bool x147004_3] 36 (0, 0)) zq12 hb)
                     have n4_ := AZ.mk (blk_below (g := gb162) (o := .cells #[.int .i64 2, .bool false, .string (⟨#[]⟩ : ByteArray), .string (⟨#[]⟩ : ByteArray), .bool false] 36 (0, 0)) zq26 hb)
                     have n5_ := AZ.mk (blk_below (g := gb173) (o := .cells #[.int .u8 t170, .string t171, .string t172] 78 (0, 0)) zq44 hb)
                     have n6_ := AZ.mk (below_step zq6 hb)
                     clear HO_9
                     clear HO_14
                     clear BK145
                     clear BK146
                     clear BK162
                     clear BK173
                     clear HB
                     have HO_9 := n0_
                     have HO_14 := n1_
                     have BK145 := n2_
                     have BK146 := n3_
                     have BK162 := n4_
                     have BK173 := n5_
                     have HB := n6_
                     clear n0_ n1_ n2_ n3_ n4_ n5_ n6_
                     (try clear hb)
                     (try clear hb2)
                     (try clear hk)
                     (try clear hi)
                     refine hK.out _ _ ⟨(blk_cell BK145.out 0).trans rfl, (blk_cell BK145.out 1).trans rfl, (blk_cell BK145.out 2).trans rfl, (blk_cell BK173.out 0).trans rfl, (blk_cell BK173.out 1).trans rfl, (blk_cell BK173.out 2).trans rfl, ((HB.out.cell (World.block_lt_of_cell? w _ hw174_0)).trans hw174_0)⟩ (fun hH => ?_)
                     clear hK K
                     refine norm_ (a' := ?_) ?_ ?_
                     rotate_left
                     ·show Act.put _ (some 136) _ = _
                      simp only [Act.put, List.setIfInBounds_toArray, List.set_cons_zero, List.set_cons_succ, i64_w, i32_w]
                      rfl
                     refine one_ (i := 11) (N := some 137) #[true, true, true, true, true, true, true, true, true, true, true, true, true, true, false, false] rfl rfl (one_of HT_.out zq17) zq118 (fun K hK => ?_)
                     refine goes_ Tryd.func44 zq17 rfl #[.string t175] zq105 rfl rfl zq2 ?_
                     with_reducible refine (spec_l9Hex.calls kj72 t175 t176 _ A94.out).mono ?_
                     rintro e w98 ⟨rfl, hb⟩
                     refine ⟨_, rfl, ?_⟩
                     have n0_ := AZ.mk (Kd.S_below zq22 hb)
                     have n1_ := AZ.mk (Kd.R_below zq58 hb)
                     have n2_ := AZ.mk (blk_below (g := gb145) (o := .cells #[.slice (some ad163) l2_0.length c2_0, .bool a2_1, .string a2_2] 38 (0, 0)) zq9 hb)
                     have n3_ := AZ.mk (blk_below (g := gb146) (o := .cells #[.int .i64 x147000_3, .bool x147001_3, .string x147002_3, .string x147003_3, .bool x147004_3] 36 (0, 0)) zq12 hb)
                     have n4_ := AZ.mk (blk_below (g := gb162) (o := .cells #[.int .i64 2, .bool false, .string (⟨#[]⟩ : ByteArray), .string (⟨#[]⟩ : ByteArray), .bool false] 36 (0, 0)) zq26 hb)
                     have n5_ := AZ.mk (blk_below (g := gb173) (o := .cells #[.int .u8 t170, .string t171, .string t172] 78 (0, 0)) zq44 hb)
                     have n6_ := AZ.mk (below_step zq6 hb)
                     clear HO_9
                     clear HO_14
                     clear BK145
                     clear BK146
                     clear BK162
                     clear BK173
                     clear HB
                     have HO_9 := n0_
                     have HO_14 := n1_
                     have BK145 := n2_
                     have BK146 := n3_
                     have BK162 := n4_
                     have BK173 := n5_
                     have HB := n6_
                     clear n0_ n1_ n2_ n3_ n4_ n5_ n6_
                     (try clear hb)
                     (try clear hb2)
                     (try clear hk)
                     (try clear hi)
                     refine hK.out _ _ ⟨(blk_cell BK145.out 0).trans rfl, (blk_cell BK145.out 1).trans rfl, (blk_cell BK145.out 2).trans rfl, (blk_cell BK173.out 0).trans rfl, (blk_cell BK173.out 1).trans rfl, (blk_cell BK173.out 2).trans rfl, ((HB.out.cell (World.block_lt_of_cell? w _ hw174_0)).trans hw174_0)⟩ (fun hH => ?_)
                     clear hK K
                     refine norm_ (a' := ?_) ?_ ?_
                     rotate_left
                     ·show Act.put _ (some 137) _ = _
                      simp only [Act.put, List.setIfInBounds_toArray, List.set_cons_zero, List.set_cons_succ, i64_w, i32_w]
                      rfl
                     refine pure_ (i := 14) (N := some 140) (v := ?_) (a' := ?_) #[true, true, true, true, true, true, true, true, true, true, true, true, true, true, true, false] rfl rfl (any_of HT_.out zq17) (fun _ _ _ h => h) (Or.inl ⟨zq105, ?_⟩) ?_ ?_
                     rotate_left
                     ·intro w'
                      go_simp
                      with_reducible rfl
                     rotate_left
                     ·simp only [Act.put, List.setIfInBounds_toArray, List.set_cons_zero, List.set_cons_succ, i64_w, i32_w]
                      rfl
                     refine pure_ (i := 15) (N := some 141) (v := ?_) (a' := ?_) #[true, true, true, true, true, true, true, true, true, true, true, true, true, true, true, true] rfl rfl (any_of HT_.out zq17) (fun _ _ _ h => h) (Or.inl ⟨zq105, ?_⟩) ?_ ?_
                     rotate_left
                     ·intro w'
                      go_simp
                      with_reducible rfl
                     rotate_left
                     ·simp only [Act.put, List.setIfInBounds_toArray, List.set_cons_zero, List.set_cons_succ, i64_w, i32_w]
                      rfl
                     refine done_ (done_of HT_.out zq17) ?_
                     try go_wp2
                     go_roundg kj72
                     case measure => have := HJ4.out; have := HK2.out; have := HK3.out; have := HJ72.out; omega
                     case rel => exact ⟨(ji90), (x147000_3), (x147001_3), (x147002_3), (x147003_3), (x147004_3), (by first | rfl | (simp; done) | (simp only [← hji90] <;> (first | rfl | simp)) | (simp [*]; done)), H', ⟨by have := HJ4.out; have := HK2.out; have := HK3.out; have := HJ72.out; omega⟩, ⟨zq128⟩, ⟨zq58⟩, ⟨zq9⟩, ⟨zq12⟩, ⟨zq26⟩, ⟨zq6⟩⟩
                    ·rw [if_neg c95] at H
                     have c95b0 : (t176.toList == t172.toList) = false := beq_eq_false_iff_ne.mpr c95
                     have c95b1 : (t176.toList != t172.toList) = true := bne_iff_ne.mpr c95
                     simp only [Option.some.injEq, Prod.mk.injEq] at H
                     obtain ⟨rfl, rfl, rfl, rfl, rfl⟩ := H
                     try go_wp2
                     have n0_ := AZ.mk (Kd.S_drew HO_9.out)
                     have n1_ := AZ.mk (Kd.R_drew HO_14.out)
                     have n2_ := AZ.mk (blk_drew BK145.out)
                     have n3_ := AZ.mk (blk_drew BK146.out)
                     have n4_ := AZ.mk (blk_drew BK162.out)
                     have n5_ := AZ.mk (blk_drew BK173.out)
                     have n6_ := AZ.mk (below_drew1 HB.out)
                     clear HO_9
                     clear HO_14
                     clear BK145
                     clear BK146
                     clear BK162
                     clear BK173
                     clear HB
                     have HO_9 := n0_
                     have HO_14 := n1_
                     have BK145 := n2_
                     have BK146 := n3_
                     have BK162 := n4_
                     have BK173 := n5_
                     have HB := n6_
                     clear n0_ n1_ n2_ n3_ n4_ n5_ n6_
                     have p174 : 0 ≤ ((ji90) : Int) := of_decide_eq_true zq1
                     have q174 : (ji90) < (l2_0.length : Int) := of_decide_eq_true zq1
                     obtain ⟨ad174, e174, hx174_0⟩ := Kd.at_string HR2_0.out (ji90) p174 q174
                     have hw174_0 := hx174_0
                     obtain rfl : ad163 = ad174 := (by injection e174)
                     replace hx174_0 := (HB.out.cell (World.block_lt_of_cell? w _ hx174_0)).trans hx174_0
                     replace p174 := eq_true p174
                     replace q174 := eq_true q174
                     refine start_ (n := 16) (S := fun w' => w'.cell? ⟨gb145, 0, none⟩ = some (.slice (some ad163) l2_0.length c2_0) ∧ w'.cell? ⟨gb145, 1, none⟩ = some (.bool a2_1) ∧ w'.cell? ⟨gb145, 2, none⟩ = some (.string a2_2) ∧ w'.cell? ⟨gb173, 0, none⟩ = some (.int .u8 t170) ∧ w'.cell? ⟨gb173, 1, none⟩ = some (.string t171) ∧ w'.cell? ⟨gb173, 2, none⟩ = some (.string t172) ∧ w'.cell? (ad163.add ((ji90)).toNat) = some (.string (rdOf ByteArray.empty l2_0 (ji90)))) (ds := []) #[false, false, false, false, false, false, false, false, false, false, false, false, false, false, false, false] zq17 rfl rfl ⟨(blk_cell BK145.out 0).trans rfl, (blk_cell BK145.out 1).trans rfl, (blk_cell BK145.out 2).trans rfl, (blk_cell BK173.out 0).trans rfl, (blk_cell BK173.out 1).trans rfl, (blk_cell BK173.out 2).trans rfl, ((HB.out.cell (World.block_lt_of_cell? w _ hw174_0)).trans hw174_0)⟩ (fun hH => ?_); refine tbW spec_Show.tab21 spec_Show.bits21 (fun HT_ HW_ => ?_)
                     generalize wc.drew = w99 at HO_9 HO_14 BK145 BK146 BK162 BK173 HB hx174_0 hH ⊢
                     refine pure_ (i := 0) (N := some 126) (v := ?_) (a' := ?_) #[true, false, false, false, false, false, false, false, false, false, false, false, false, false, false, false] rfl rfl (any_of HT_.out zq17) (fun _ _ _ h => h) (Or.inl ⟨zq105, ?_⟩) ?_ ?_
                     rotate_left
                     ·intro w'
                      go_simp
                      with_reducible rfl
                     rotate_left
                     ·simp only [Act.put, List.setIfInBounds_toArray, List.set_cons_zero, List.set_cons_succ, i64_w, i32_w]
                      rfl
                     refine pure_ (i := 1) (N := some 127) (v := ?_) (a' := ?_) #[true, true, false, false, false, false, false, false, false, false, false, false, false, false, false, false] rfl rfl (any_of HT_.out zq17) (fun _ _ _ h => h) (Or.inl ⟨zq105, ?_⟩) ?_ ?_
                     rotate_left
                     ·intro w'
                      go_simp
                      with_reducible rfl
                     rotate_left
                     ·simp only [Act.put, List.setIfInBounds_toArray, List.set_cons_zero, List.set_cons_succ, i64_w, i32_w]
                      rfl
                     refine pure_ (i := 2) (N := some 128) (v := ?_) (a' := ?_) #[true, true, true, false, false, false, false, false, false, false, false, false, false, false, false, false] rfl rfl (any_of HT_.out zq17) (fun _ _ _ h => h) (Or.inl ⟨zq105, ?_⟩) ?_ ?_
                     rotate_left
                     ·intro w'
                      go_simp
                      with_reducible rfl
                     rotate_left
                     ·simp only [Act.put, List.setIfInBounds_toArray, List.set_cons_zero, List.set_cons_succ, i64_w, i32_w]
                      rfl
                     refine pure_ (i := 3) (N := some 129) (v := ?_) (a' := ?_) #[true, true, true, true, false, false, false, false, false, false, false, false, false, false, false, false] rfl rfl (any_of HT_.out zq17) (fun _ _ _ h => h) (Or.inl ⟨zq105, ?_⟩) ?_ ?_
                     rotate_left
                     ·intro w'
                      go_simp
                      with_reducible rfl
                     rotate_left
                     ·simp only [Act.put, List.setIfInBounds_toArray, List.set_cons_zero, List.set_cons_succ, i64_w, i32_w]
                      rfl
                     refine pure_ (i := 5) (N := some 131) (v := ?_) (a' := ?_) #[true, true, true, true, false, true, false, false, false, false, false, false, false, false, false, false] rfl rfl (any_of HT_.out zq17) (fun _ _ _ h => h) (Or.inl ⟨zq105, ?_⟩) ?_ ?_
                     rotate_left
                     ·intro w'
                      go_simp
                      with_reducible rfl
                     rotate_left
                     ·simp only [Act.put, List.setIfInBounds_toArray, List.set_cons_zero, List.set_cons_succ, i64_w, i32_w]
                      rfl
                     refine pure_ (i := 6) (N := some 132) (v := ?_) (a' := ?_) #[true, true, true, true, false, true, true, false, false, false, false, false, false, false, false, false] rfl rfl (any_of HT_.out zq17) (fun _ _ _ h => h) (Or.inl ⟨zq105, ?_⟩) ?_ ?_
                     rotate_left
                     ·intro w'
                      go_simp
                      with_reducible rfl
                     rotate_left
                     ·simp only [Act.put, List.setIfInBounds_toArray, List.set_cons_zero, List.set_cons_succ, i64_w, i32_w]
                      rfl
                     refine pure_ (i := 9) (N := some 135) (v := ?_) (a' := ?_) #[true, true, true, true, false, true, true, false, false, true, false, false, false, false, false, false] rfl rfl (any_of HT_.out zq17) (fun _ _ _ h => h) (Or.inl ⟨zq105, ?_⟩) ?_ ?_
                     rotate_left
                     ·intro w'
                      go_simp
                      with_reducible rfl
                     rotate_left
                     ·simp only [Act.put, List.setIfInBounds_toArray, List.set_cons_zero, List.set_cons_succ, i64_w, i32_w]
                      rfl
                     refine pure_ (i := 12) (N := some 138) (v := ?_) (a' := ?_) #[true, true, true, true, false, true, true, false, false, true, false, false, true, false, false, false] rfl rfl (any_of HT_.out zq17) (fun _ _ _ h => h) (Or.inl ⟨zq105, ?_⟩) ?_ ?_
                     rotate_left
                     ·intro w'
                      go_simp
                      with_reducible rfl
                     rotate_left
                     ·simp only [Act.put, List.setIfInBounds_toArray, List.set_cons_zero, List.set_cons_succ, i64_w, i32_w]
                      rfl
                     refine take_ (i := 4) (N := some 130) (v := ?_) (a' := ?_) #[true, true, true, true, true, true, true, false, false, true, false, false, true, false, false, false] rfl rfl (take_ofW HT_.out HW_.out zq17) (fun _ _ _ h => h) (Or.inl ⟨zq105, ?_⟩) hH ?_ ?_
                     rotate_left
                     ·rintro w' ⟨s0, s1, s2, s3, s4, s5, s6⟩
                      go_simp
                      with_reducible rfl
                     rotate_left
                     ·simp only [Act.put, List.setIfInBounds_toArray, List.set_cons_zero, List.set_cons_succ, i64_w, i32_w]
                      rfl
                     refine pure_ (i := 7) (N := some 133) (v := ?_) (a' := ?_) #[true, true, true, true, true, true, true, true, false, true, false, false, true, false, false, false] rfl rfl (any_of HT_.out zq17) (fun _ _ _ h => h) (Or.inl ⟨zq105, ?_⟩) ?_ ?_
                     rotate_left
                     ·intro w'
                      go_simp
                      with_reducible rfl
                     rotate_left
                     ·simp only [Act.put, List.setIfInBounds_toArray, List.set_cons_zero, List.set_cons_succ, i64_w, i32_w]
                      rfl
                     refine take_ (i := 8) (N := some 134) (v := ?_) (a' := ?_) #[true, true, true, true, true, true, true, true, true, true, false, false, true, false, false, false] rfl rfl (take_ofW HT_.out HW_.out zq17) (fun _ _ _ h => h) (Or.inl ⟨zq105, ?_⟩) hH ?_ ?_
                     rotate_left
                     ·rintro w' ⟨s0, s1, s2, s3, s4, s5, s6⟩
                      go_simp
                      with_reducible rfl
                     rotate_left
                     ·simp only [Act.put, List.setIfInBounds_toArray, List.set_cons_zero, List.set_cons_succ, i64_w, i32_w]
                      rfl
                     refine take_ (i := 13) (N := some 139) (v := ?_) (a' := ?_) #[true, true, true, true, true, true, true, true, true, true, false, false, true, true, false, false] rfl rfl (take_ofW HT_.out HW_.out zq17) (fun _ _ _ h => h) (Or.inl ⟨zq105, ?_⟩) hH ?_ ?_
                     rotate_left
                     ·rintro w' ⟨s0, s1, s2, s3, s4, s5, s6⟩
                      go_simp
                      with_reducible rfl
                     rotate_left
                     ·simp only [Act.put, List.setIfInBounds_toArray, List.set_cons_zero, List.set_cons_succ, i64_w, i32_w]
                      rfl
                     refine one_ (i := 10) (N := some 136) #[true, true, true, true, true, true, true, true, true, true, true, false, true, true, false, false] rfl rfl (one_of HT_.out zq17) zq118 (fun K hK => ?_)
                     refine goes_ Tryd.func41 zq17 rfl #[.string (rdOf ByteArray.empty l2_0 (ji90)), .int .i64 a3] zq105 rfl rfl zq124 ?_
                     with_reducible refine (spec_Sum.calls kj72 (rdOf ByteArray.empty l2_0 (ji90)) a3 t175 _ A93.out).mono ?_
                     rintro e w100 ⟨rfl, hb⟩
                     refine ⟨_, rfl, ?_⟩
                     have n0_ := AZ.mk (Kd.S_below zq22 hb)
                     have n1_ := AZ.mk (Kd.R_below zq58 hb)
                     have n2_ := AZ.mk (blk_below (g := gb145) (o := .cells #[.slice (some ad163) l2_0.length c2_0, .bool a2_1, .string a2_2] 38 (0, 0)) zq9 hb)
                     have n3_ := AZ.mk (blk_below (g := gb146) (o := .cells #[.int .i64 x147000_3, .bool x147001_3, .string x147002_3, .string x147003_3, .bool x147004_3] 36 (0, 0)) zq12 hb)
                     have n4_ := AZ.mk (blk_below (g := gb162) (o := .cells #[.int .i64 2, .bool false, .string (⟨#[]⟩ : ByteArray), .string (⟨#[]⟩ : ByteArray), .bool false] 36 (0, 0)) zq26 hb)
                     have n5_ := AZ.mk (blk_below (g := gb173) (o := .cells #[.int .u8 t170, .string t171, .string t172] 78 (0, 0)) zq44 hb)
                     have n6_ := AZ.mk (below_step zq6 hb)
                     clear HO_9
                     clear HO_14
                     clear BK145
                     clear BK146
                     clear BK162
                     clear BK173
                     clear HB
                     have HO_9 := n0_
                     have HO_14 := n1_
                     have BK145 := n2_
                     have BK146 := n3_
                     have BK162 := n4_
                     have BK173 := n5_
                     have HB := n6_
                     clear n0_ n1_ n2_ n3_ n4_ n5_ n6_
                     (try clear hb)
                     (try clear hb2)
                     (try clear hk)
                     (try clear hi)
                     refine hK.out _ _ ⟨(blk_cell BK145.out 0).trans rfl, (blk_cell BK145.out 1).trans rfl, (blk_cell BK145.out 2).trans rfl, (blk_cell BK173.out 0).trans rfl, (blk_cell BK173.out 1).trans rfl, (blk_cell BK173.out 2).trans rfl, ((HB.out.cell (World.block_lt_of_cell? w _ hw174_0)).trans hw174_0)⟩ (fun hH => ?_)
                     clear hK K
                     refine norm_ (a' := ?_) ?_ ?_
                     rotate_left
                     ·show Act.put _ (some 136) _ = _
                      simp only [Act.put, List.setIfInBounds_toArray, List.set_cons_zero, List.set_cons_succ, i64_w, i32_w]
                      rfl
                     refine one_ (i := 11) (N := some 137) #[true, true, true, true, true, true, true, true, true, true, true, true, true, true, false, false] rfl rfl (one_of HT_.out zq17) zq118 (fun K hK => ?_)
                     refine goes_ Tryd.func44 zq17 rfl #[.string t175] zq105 rfl rfl zq2 ?_
                     with_reducible refine (spec_l9Hex.calls kj72 t175 t176 _ A94.out).mono ?_
                     rintro e w101 ⟨rfl, hb⟩
                     refine ⟨_, rfl, ?_⟩
                     have n0_ := AZ.mk (Kd.S_below zq22 hb)
                     have n1_ := AZ.mk (Kd.R_below zq58 hb)
                     have n2_ := AZ.mk (blk_below (g := gb145) (o := .cells #[.slice (some ad163) l2_0.length c2_0, .bool a2_1, .string a2_2] 38 (0, 0)) zq9 hb)
                     have n3_ := AZ.mk (blk_below (g := gb146) (o := .cells #[.int .i64 x147000_3, .bool x147001_3, .string x147002_3, .string x147003_3, .bool x147004_3] 36 (0, 0)) zq12 hb)
                     have n4_ := AZ.mk (blk_below (g := gb162) (o := .cells #[.int .i64 2, .bool false, .string (⟨#[]⟩ : ByteArray), .string (⟨#[]⟩ : ByteArray), .bool false] 36 (0, 0)) zq26 hb)
                     have n5_ := AZ.mk (blk_below (g := gb173) (o := .cells #[.int .u8 t170, .string t171, .string t172] 78 (0, 0)) zq44 hb)
                     have n6_ := AZ.mk (below_step zq6 hb)
                     clear HO_9
                     clear HO_14
                     clear BK145
                     clear BK146
                     clear BK162
                     clear BK173
                     clear HB
                     have HO_9 := n0_
                     have HO_14 := n1_
                     have BK145 := n2_
                     have BK146 := n3_
                     have BK162 := n4_
                     have BK173 := n5_
                     have HB := n6_
                     clear n0_ n1_ n2_ n3_ n4_ n5_ n6_
                     (try clear hb)
                     (try clear hb2)
                     (try clear hk)
                     (try clear hi)
                     refine hK.out _ _ ⟨(blk_cell BK145.out 0).trans rfl, (blk_cell BK145.out 1).trans rfl, (blk_cell BK145.out 2).trans rfl, (blk_cell BK173.out 0).trans rfl, (blk_cell BK173.out 1).trans rfl, (blk_cell BK173.out 2).trans rfl, ((HB.out.cell (World.block_lt_of_cell? w _ hw174_0)).trans hw174_0)⟩ (fun hH => ?_)
                     clear hK K
                     refine norm_ (a' := ?_) ?_ ?_
                     rotate_left
                     ·show Act.put _ (some 137) _ = _
                      simp only [Act.put, List.setIfInBounds_toArray, List.set_cons_zero, List.set_cons_succ, i64_w, i32_w]
                      rfl
                     refine pure_ (i := 14) (N := some 140) (v := ?_) (a' := ?_) #[true, true, true, true, true, true, true, true, true, true, true, true, true, true, true, false] rfl rfl (any_of HT_.out zq17) (fun _ _ _ h => h) (Or.inl ⟨zq105, ?_⟩) ?_ ?_
                     rotate_left
                     ·intro w'
                      go_simp
                      with_reducible rfl
                     rotate_left
                     ·simp only [Act.put, List.setIfInBounds_toArray, List.set_cons_zero, List.set_cons_succ, i64_w, i32_w]
                      rfl
                     refine pure_ (i := 15) (N := some 141) (v := ?_) (a' := ?_) #[true, true, true, true, true, true, true, true, true, true, true, true, true, true, true, true] rfl rfl (any_of HT_.out zq17) (fun _ _ _ h => h) (Or.inl ⟨zq105, ?_⟩) ?_ ?_
                     rotate_left
                     ·intro w'
                      go_simp
                      with_reducible rfl
                     rotate_left
                     ·simp only [Act.put, List.setIfInBounds_toArray, List.set_cons_zero, List.set_cons_succ, i64_w, i32_w]
                      rfl
                     refine done_ (done_of HT_.out zq17) ?_
                     have hnb102 := NB162_145.out
                     have hnc102 := NB145_162.out
                     have hnb103 := NB162_146.out
                     have hnc103 := NB146_162.out
                     have hnb104 := NB162_173.out
                     have hnc104 := NB173_162.out
                     have hcz105_0 : w101.cell? ⟨gb162, 0, none⟩ = some (.int .i64 2) := (blk_cell BK162.out 0).trans rfl
                     have hcz105_1 : w101.cell? ⟨gb162, 1, none⟩ = some (.bool false) := (blk_cell BK162.out 1).trans rfl
                     have hcz105_2 : w101.cell? ⟨gb162, 2, none⟩ = some (.string (⟨#[]⟩ : ByteArray)) := (blk_cell BK162.out 2).trans rfl
                     have hcz105_3 : w101.cell? ⟨gb162, 3, none⟩ = some (.string (⟨#[]⟩ : ByteArray)) := (blk_cell BK162.out 3).trans rfl
                     have hcz105_4 : w101.cell? ⟨gb162, 4, none⟩ = some (.bool false) := (blk_cell BK162.out 4).trans rfl
                     have hfz105_0 := blk_frozen BK162.out 0
                     have hfz105_1 := blk_frozen BK162.out 1
                     have hfz105_2 := blk_frozen BK162.out 2
                     have hfz105_3 := blk_frozen BK162.out 3
                     have hfz105_4 := blk_frozen BK162.out 4
                     have hnb106 := NB146_145.out
                     have hnc106 := NB145_146.out
                     have hnb107 := NB146_173.out
                     have hnc107 := NB173_146.out
                     have hcz108_0 : w101.cell? ⟨gb146, 0, none⟩ = some (.int .i64 x147000_3) := (blk_cell BK146.out 0).trans rfl
                     have hcz108_1 : w101.cell? ⟨gb146, 1, none⟩ = some (.bool x147001_3) := (blk_cell BK146.out 1).trans rfl
                     have hcz108_2 : w101.cell? ⟨gb146, 2, none⟩ = some (.string x147002_3) := (blk_cell BK146.out 2).trans rfl
                     have hcz108_3 : w101.cell? ⟨gb146, 3, none⟩ = some (.string x147003_3) := (blk_cell BK146.out 3).trans rfl
                     have hcz108_4 : w101.cell? ⟨gb146, 4, none⟩ = some (.bool x147004_3) := (blk_cell BK146.out 4).trans rfl
                     have hfz108_0 := blk_frozen BK146.out 0
                     have hfz108_1 := blk_frozen BK146.out 1
                     have hfz108_2 := blk_frozen BK146.out 2
                     have hfz108_3 := blk_frozen BK146.out 3
                     have hfz108_4 := blk_frozen BK146.out 4
                     try go_wp2
                     refine bodyPost_ret (results_cell_row rfl _ _ gb146 36 #[.int .i64 2, .bool false, .string (⟨#[]⟩ : ByteArray), .string (⟨#[]⟩ : ByteArray), .bool false] (0, 0) _ rfl zq3 Tryd.underlying36 rfl zq17) rfl ?_
                     exact ⟨by first | rfl | (simp [errW_none, errW_some] <;> rfl) | (simp only [← hji90]; first | rfl | (simp [errW_none, errW_some] <;> rfl)) | (simp [*, errW_none, errW_some] <;> rfl), zq6⟩
                   ·rw [if_neg c92] at H
                    exact absurd H zq119
                  ·rw [if_neg c91] at H
                   exact absurd H zq119
                 ·rw [if_neg c89] at H
                  have c89b0 : (decide ((x9_2.length : Int) > (wrap64 (x15_3 + 1)))) = false := by simpa using c89
                  have c89b1 : (decide ((wrap64 (x15_3 + 1)) < (x9_2.length : Int))) = false := c89b0
                  (first | rw [c89b0] | rw [c89b1] | (simp only [i64_w, i32_w]; rw [c89b0]) | (simp only [i64_w, i32_w, gt_iff_lt]; rw [c89b1]) | skip)
                  clear c89
                  simp only [Option.some.injEq, Prod.mk.injEq] at H
                  obtain ⟨rfl, rfl, rfl, rfl, rfl⟩ := H
                  try go_wp2
                  have n0_ := AZ.mk (Kd.S_drew HO_9.out)
                  have n1_ := AZ.mk (Kd.R_drew HO_14.out)
                  have n2_ := AZ.mk (blk_drew BK145.out)
                  have n3_ := AZ.mk (blk_drew BK146.out)
                  have n4_ := AZ.mk (blk_drew BK162.out)
                  have n5_ := AZ.mk (blk_drew BK173.out)
                  have n6_ := AZ.mk (below_drew1 HB.out)
                  clear HO_9
                  clear HO_14
                  clear BK145
                  clear BK146
                  clear BK162
                  clear BK173
                  clear HB
                  have HO_9 := n0_
                  have HO_14 := n1_
                  have BK145 := n2_
                  have BK146 := n3_
                  have BK162 := n4_
                  have BK173 := n5_
                  have HB := n6_
                  clear n0_ n1_ n2_ n3_ n4_ n5_ n6_
                  refine start_ (n := 16) (S := fun w' => True) (ds := []) #[false, false, false, false, false, false, false, false, false, false, false, false, false, false, false, false] zq17 rfl rfl trivial (fun hH => ?_); refine tbW spec_Show.tab21 spec_Show.bits21 (fun HT_ HW_ => ?_)
                  generalize wc.drew = w109 at HO_9 HO_14 BK145 BK146 BK162 BK173 HB hH ⊢
                  refine pure_ (i := 0) (N := some 126) (v := ?_) (a' := ?_) #[true, false, false, false, false, false, false, false, false, false, false, false, false, false, false, false] rfl rfl (any_of HT_.out zq17) (fun _ _ _ h => h) (Or.inl ⟨zq105, ?_⟩) ?_ ?_
                  rotate_left
                  ·intro w'
                   go_simp
                   with_reducible rfl
                  rotate_left
                  ·simp only [Act.put, List.setIfInBounds_toArray, List.set_cons_zero, List.set_cons_succ, i64_w, i32_w]
                   rfl
                  refine pure_ (i := 1) (N := some 127) (v := ?_) (a' := ?_) #[true, true, false, false, false, false, false, false, false, false, false, false, false, false, false, false] rfl rfl (any_of HT_.out zq17) (fun _ _ _ h => h) (Or.inl ⟨zq105, ?_⟩) ?_ ?_
                  rotate_left
                  ·intro w'
                   go_simp
                   with_reducible rfl
                  rotate_left
                  ·simp only [Act.put, List.setIfInBounds_toArray, List.set_cons_zero, List.set_cons_succ, i64_w, i32_w]
                   rfl
                  refine pure_ (i := 2) (N := some 128) (v := ?_) (a' := ?_) #[true, true, true, false, false, false, false, false, false, false, false, false, false, false, false, false] rfl rfl (any_of HT_.out zq17) (fun _ _ _ h => h) (Or.inl ⟨zq105, ?_⟩) ?_ ?_
                  rotate_left
                  ·intro w'
                   go_simp
                   with_reducible rfl
                  rotate_left
                  ·simp only [Act.put, List.setIfInBounds_toArray, List.set_cons_zero, List.set_cons_succ, i64_w, i32_w]
                   rfl
                  refine pure_ (i := 3) (N := some 129) (v := undef) (a' := ?_) #[true, true, true, true, false, false, false, false, false, false, false, false, false, false, false, false] rfl rfl (any_of HT_.out zq17) (fun _ _ _ h => h) (Or.inr ⟨zq105, rfl⟩) ?_ ?_
                  rotate_left
                  ·simp only [Act.put, List.setIfInBounds_toArray, List.set_cons_zero, List.set_cons_succ, i64_w, i32_w]
                   rfl
                  refine pure_ (i := 4) (N := some 130) (v := undef) (a' := ?_) #[true, true, true, true, true, false, false, false, false, false, false, false, false, false, false, false] rfl rfl (any_of HT_.out zq17) (fun _ _ _ h => h) (Or.inr ⟨zq105, rfl⟩) ?_ ?_
                  rotate_left
                  ·simp only [Act.put, List.setIfInBounds_toArray, List.set_cons_zero, List.set_cons_succ, i64_w, i32_w]
                   rfl
                  refine pure_ (i := 5) (N := some 131) (v := undef) (a' := ?_) #[true, true, true, true, true, true, false, false, false, false, false, false, false, false, false, false] rfl rfl (any_of HT_.out zq17) (fun _ _ _ h => h) (Or.inr ⟨zq105, rfl⟩) ?_ ?_
                  rotate_left
                  ·simp only [Act.put, List.setIfInBounds_toArray, List.set_cons_zero, List.set_cons_succ, i64_w, i32_w]
                   rfl
                  refine pure_ (i := 6) (N := some 132) (v := undef) (a' := ?_) #[true, true, true, true, true, true, true, false, false, false, false, false, false, false, false, false] rfl rfl (any_of HT_.out zq17) (fun _ _ _ h => h) (Or.inr ⟨zq105, rfl⟩) ?_ ?_
                  rotate_left
                  ·simp only [Act.put, List.setIfInBounds_toArray, List.set_cons_zero, List.set_cons_succ, i64_w, i32_w]
                   rfl
                  refine pure_ (i := 7) (N := some 133) (v := undef) (a' := ?_) #[true, true, true, true, true, true, true, true, false, false, false, false, false, false, false, false] rfl rfl (any_of HT_.out zq17) (fun _ _ _ h => h) (Or.inr ⟨zq105, rfl⟩) ?_ ?_
                  rotate_left
                  ·simp only [Act.put, List.setIfInBounds_toArray, List.set_cons_zero, List.set_cons_succ, i64_w, i32_w]
                   rfl
                  refine pure_ (i := 8) (N := some 134) (v := undef) (a' := ?_) #[true, true, true, true, true, true, true, true, true, false, false, false, false, false, false, false] rfl rfl (any_of HT_.out zq17) (fun _ _ _ h => h) (Or.inr ⟨zq105, rfl⟩) ?_ ?_
                  rotate_left
                  ·simp only [Act.put, List.setIfInBounds_toArray, List.set_cons_zero, List.set_cons_succ, i64_w, i32_w]
                   rfl
                  refine pure_ (i := 9) (N := some 135) (v := undef) (a' := ?_) #[true, true, true, true, true, true, true, true, true, true, false, false, false, false, false, false] rfl rfl (any_of HT_.out zq17) (fun _ _ _ h => h) (Or.inr ⟨zq105, rfl⟩) ?_ ?_
                  rotate_left
                  ·simp only [Act.put, List.setIfInBounds_toArray, List.set_cons_zero, List.set_cons_succ, i64_w, i32_w]
                   rfl
                  refine pure_ (i := 10) (N := some 136) (v := undef) (a' := ?_) #[true, true, true, true, true, true, true, true, true, true, true, false, false, false, false, false] rfl rfl (any_of HT_.out zq17) (fun _ _ _ h => h) (Or.inr ⟨zq105, rfl⟩) ?_ ?_
                  rotate_left
                  ·simp only [Act.put, List.setIfInBounds_toArray, List.set_cons_zero, List.set_cons_succ, i64_w, i32_w]
                   rfl
                  refine pure_ (i := 11) (N := some 137) (v := undef) (a' := ?_) #[true, true, true, true, true, true, true, true, true, true, true, true, false, false, false, false] rfl rfl (any_of HT_.out zq17) (fun _ _ _ h => h) (Or.inr ⟨zq105, rfl⟩) ?_ ?_
                  rotate_left
                  ·simp only [Act.put, List.setIfInBounds_toArray, List.set_cons_zero, List.set_cons_succ, i64_w, i32_w]
                   rfl
                  refine pure_ (i := 12) (N := some 138) (v := undef) (a' := ?_) #[true, true, true, true, true, true, true, true, true, true, true, true, true, false, false, false] rfl rfl (any_of HT_.out zq17) (fun _ _ _ h => h) (Or.inr ⟨zq105, rfl⟩) ?_ ?_
                  rotate_left
                  ·simp only [Act.put, List.setIfInBounds_toArray, List.set_cons_zero, List.set_cons_succ, i64_w, i32_w]
                   rfl
                  refine pure_ (i := 13) (N := some 139) (v := undef) (a' := ?_) #[true, true, true, true, true, true, true, true, true, true, true, true, true, true, false, false] rfl rfl (any_of HT_.out zq17) (fun _ _ _ h => h) (Or.inr ⟨zq105, rfl⟩) ?_ ?_
                  rotate_left
                  ·simp only [Act.put, List.setIfInBounds_toArray, List.set_cons_zero, List.set_cons_succ, i64_w, i32_w]
                   rfl
                  refine pure_ (i := 14) (N := some 140) (v := undef) (a' := ?_) #[true, true, true, true, true, true, true, true, true, true, true, true, true, true, true, false] rfl rfl (any_of HT_.out zq17) (fun _ _ _ h => h) (Or.inr ⟨zq105, rfl⟩) ?_ ?_
                  rotate_left
                  ·simp only [Act.put, List.setIfInBounds_toArray, List.set_cons_zero, List.set_cons_succ, i64_w, i32_w]
                   rfl
                  refine pure_ (i := 15) (N := some 141) (v := ?_) (a' := ?_) #[true, true, true, true, true, true, true, true, true, true, true, true, true, true, true, true] rfl rfl (any_of HT_.out zq17) (fun _ _ _ h => h) (Or.inl ⟨zq105, ?_⟩) ?_ ?_
                  rotate_left
                  ·intro w'
                   go_simp
                   with_reducible rfl
                  rotate_left
                  ·simp only [Act.put, List.setIfInBounds_toArray, List.set_cons_zero, List.set_cons_succ, i64_w, i32_w]
                   rfl
                  refine done_ (done_of HT_.out zq17) ?_
                  have hnb110 := NB162_145.out
                  have hnc110 := NB145_162.out
                  have hnb111 := NB162_146.out
                  have hnc111 := NB146_162.out
                  have hnb112 := NB162_173.out
                  have hnc112 := NB173_162.out
                  have hcz113_0 : w109.cell? ⟨gb162, 0, none⟩ = some (.int .i64 2) := (blk_cell BK162.out 0).trans rfl
                  have hcz113_1 : w109.cell? ⟨gb162, 1, none⟩ = some (.bool false) := (blk_cell BK162.out 1).trans rfl
                  have hcz113_2 : w109.cell? ⟨gb162, 2, none⟩ = some (.string (⟨#[]⟩ : ByteArray)) := (blk_cell BK162.out 2).trans rfl
                  have hcz113_3 : w109.cell? ⟨gb162, 3, none⟩ = some (.string (⟨#[]⟩ : ByteArray)) := (blk_cell BK162.out 3).trans rfl
                  have hcz113_4 : w109.cell? ⟨gb162, 4, none⟩ = some (.bool false) := (blk_cell BK162.out 4).trans rfl
                  have hfz113_0 := blk_frozen BK162.out 0
                  have hfz113_1 := blk_frozen BK162.out 1
                  have hfz113_2 := blk_frozen BK162.out 2
                  have hfz113_3 := blk_frozen BK162.out 3
                  have hfz113_4 := blk_frozen BK162.out 4
                  have hnb114 := NB146_145.out
                  have hnc114 := NB145_146.out
                  have hnb115 := NB146_173.out
                  have hnc115 := NB173_146.out
                  have hcz116_0 : w109.cell? ⟨gb146, 0, none⟩ = some (.int .i64 x147000_3) := (blk_cell BK146.out 0).trans rfl
                  have hcz116_1 : w109.cell? ⟨gb146, 1, none⟩ = some (.bool x147001_3) := (blk_cell BK146.out 1).trans rfl
                  have hcz116_2 : w109.cell? ⟨gb146, 2, none⟩ = some (.string x147002_3) := (blk_cell BK146.out 2).trans rfl
                  have hcz116_3 : w109.cell? ⟨gb146, 3, none⟩ = some (.string x147003_3) := (blk_cell BK146.out 3).trans rfl
                  have hcz116_4 : w109.cell? ⟨gb146, 4, none⟩ = some (.bool x147004_3) := (blk_cell BK146.out 4).trans rfl
                  have hfz116_0 := blk_frozen BK146.out 0
                  have hfz116_1 := blk_frozen BK146.out 1
                  have hfz116_2 := blk_frozen BK146.out 2
                  have hfz116_3 := blk_frozen BK146.out 3
                  have hfz116_4 := blk_frozen BK146.out 4
                  try go_wp2
                  refine bodyPost_ret (results_cell_row rfl _ _ gb146 36 #[.int .i64 2, .bool false, .string (⟨#[]⟩ : ByteArray), .string (⟨#[]⟩ : ByteArray), .bool false] (0, 0) _ rfl zq3 Tryd.underlying36 rfl zq17) rfl ?_
                  exact ⟨zq7, zq6⟩
                ·replace c88 := Bool.eq_false_iff.mpr c88
                 subst c88
                 rw [if_neg (show ¬ (false = true) by decide)] at H
                 by_cases c117 : (decide ((x9_2.length : Int) > (wrap64 (x15_3 + 1)))) = true
                 ·rw [if_pos c117] at H
                  have c117b0 : (decide ((x9_2.length : Int) > (wrap64 (x15_3 + 1)))) = true := c117
                  have c117b1 : (decide ((wrap64 (x15_3 + 1)) < (x9_2.length : Int))) = true := c117b0
                  (first | rw [c117b0] | rw [c117b1] | (simp only [i64_w, i32_w]; rw [c117b0]) | (simp only [i64_w, i32_w, gt_iff_lt]; rw [c117b1]) | skip)
                  clear c117
                  simp only [Option.some.injEq, Prod.mk.injEq] at H
                  obtain ⟨rfl, rfl, rfl, rfl, rfl⟩ := H
                  have hnb118 := NB162_145.out
                  have hnc118 := NB145_162.out
                  have hnb119 := NB162_146.out
                  have hnc119 := NB146_162.out
                  have hnb120 := NB162_173.out
                  have hnc120 := NB173_162.out
                  have hcz121_0 : wc.cell? ⟨gb162, 0, none⟩ = some (.int .i64 2) := (blk_cell BK162.out 0).trans rfl
                  have hcz121_1 : wc.cell? ⟨gb162, 1, none⟩ = some (.bool false) := (blk_cell BK162.out 1).trans rfl
                  have hcz121_2 : wc.cell? ⟨gb162, 2, none⟩ = some (.string (⟨#[]⟩ : ByteArray)) := (blk_cell BK162.out 2).trans rfl
                  have hcz121_3 : wc.cell? ⟨gb162, 3, none⟩ = some (.string (⟨#[]⟩ : ByteArray)) := (blk_cell BK162.out 3).trans rfl
                  have hcz121_4 : wc.cell? ⟨gb162, 4, none⟩ = some (.bool false) := (blk_cell BK162.out 4).trans rfl
                  have hfz121_0 := blk_frozen BK162.out 0
                  have hfz121_1 := blk_frozen BK162.out 1
                  have hfz121_2 := blk_frozen BK162.out 2
                  have hfz121_3 := blk_frozen BK162.out 3
                  have hfz121_4 := blk_frozen BK162.out 4
                  have hnb122 := NB146_145.out
                  have hnc122 := NB145_146.out
                  have hnb123 := NB146_173.out
                  have hnc123 := NB173_146.out
                  have hcz124_0 : wc.cell? ⟨gb146, 0, none⟩ = some (.int .i64 x147000_3) := (blk_cell BK146.out 0).trans rfl
                  have hcz124_1 : wc.cell? ⟨gb146, 1, none⟩ = some (.bool x147001_3) := (blk_cell BK146.out 1).trans rfl
                  have hcz124_2 : wc.cell? ⟨gb146, 2, none⟩ = some (.string x147002_3) := (blk_cell BK146.out 2).trans rfl
                  have hcz124_3 : wc.cell? ⟨gb146, 3, none⟩ = some (.string x147003_3) := (blk_cell BK146.out 3).trans rfl
                  have hcz124_4 : wc.cell? ⟨gb146, 4, none⟩ = some (.bool x147004_3) := (blk_cell BK146.out 4).trans rfl
                  have hfz124_0 := blk_frozen BK146.out 0
                  have hfz124_1 := blk_frozen BK146.out 1
                  have hfz124_2 := blk_frozen BK146.out 2
                  have hfz124_3 := blk_frozen BK146.out 3
                  have hfz124_4 := blk_frozen BK146.out 4
                  go_wp2
                  refine bodyPost_ret (results_cell_row rfl _ _ gb146 36 #[.int .i64 2, .bool false, .string (⟨#[]⟩ : ByteArray), .string (⟨#[]⟩ : ByteArray), .bool false] (0, 0) _ rfl zq3 Tryd.underlying36 rfl zq17) rfl ?_
                  exact ⟨zq7, zq6⟩
                 ·rw [if_neg c117] at H
                  have c117b0 : (decide ((x9_2.length : Int) > (wrap64 (x15_3 + 1)))) = false := by simpa using c117
                  have c117b1 : (decide ((wrap64 (x15_3 + 1)) < (x9_2.length : Int))) = false := c117b0
                  (first | rw [c117b0] | rw [c117b1] | (simp only [i64_w, i32_w]; rw [c117b0]) | (simp only [i64_w, i32_w, gt_iff_lt]; rw [c117b1]) | skip)
                  clear c117
                  have HC125 := AZ.mk H
                  clear H
                  go_upto_region 25 with (fail)
                  go_cut [159] (fun v159 wc => ∃ (kq : Nat) (x159_124 : Bool), v159 = .bool x159_124 ∧ AZ (spec_Show.j4 kq a1 a3 x159_124 l2_0 a2_1 a2_2 2 false (⟨#[]⟩ : ByteArray) (⟨#[]⟩ : ByteArray) false t170 t171 t172 = some (r1, r2, r3, r4, r5)) ∧ AZ (kq ≤ kj72) ∧ AZ (wc.heap[gb145]? = some (.cells #[(.slice (some ad163) l2_0.length c2_0), .bool a2_1, .string a2_2] 38 (0, 0))) ∧ AZ (wc.heap[gb146]? = some (.cells #[.int .i64 x147000_3, .bool x147001_3, .string x147002_3, .string x147003_3, .bool x147004_3] 36 (0, 0))) ∧ AZ (wc.heap[gb162]? = some (.cells #[.int .i64 2, .bool false, .string (⟨#[]⟩ : ByteArray), .string (⟨#[]⟩ : ByteArray), .bool false] 36 (0, 0))) ∧ AZ (wc.heap[gb173]? = some (.cells #[.int .u8 t170, .string t171, .string t172] 78 (0, 0))) ∧ AZ (Below w.heap.size w wc))
                  case first =>
                   have H := HC125.out
                   clear HC125
                   by_cases c126 : (wrap64 (x15_3 + 1)) < (t165.length : Int)
                   ·rw [if_pos c126] at H
                    have c126b0 : decide ((wrap64 (x15_3 + 1)) < (t165.length : Int)) = true := decide_eq_true c126
                    clear c126
                    (first | rw [c126b0] | (simp only [i64_w, i32_w]; rw [c126b0]) | skip)
                    have H' := AZ.mk H
                    clear H
                    go_wp2
                    go_meet
                    case rel => exact ⟨_, (true), zq8, H', ⟨zq120⟩, ⟨zq9⟩, ⟨zq12⟩, ⟨zq26⟩, ⟨zq44⟩, ⟨zq6⟩⟩
                   ·rw [if_neg c126] at H
                    have c126b0 : decide ((wrap64 (x15_3 + 1)) < (t165.length : Int)) = false := decide_eq_false c126
                    clear c126
                    (first | rw [c126b0] | (simp only [i64_w, i32_w]; rw [c126b0]) | skip)
                    by_cases c127 : t170 = 102
                    ·rw [if_pos c127] at H
                     have c127b0 : (t170 == 102) = true := beq_iff_eq.mpr c127
                     have c127b1 : (t170 != 102) = false := bne_eq_false_iff_eq.mpr c127
                     clear c127
                     have H' := AZ.mk H
                     clear H
                     have hnb128 := NB173_145.out
                     have hnc128 := NB145_173.out
                     have hnb129 := NB173_146.out
                     have hnc129 := NB146_173.out
                     have hnb130 := NB173_162.out
                     have hnc130 := NB162_173.out
                     have hcz131_0 : wc.cell? ⟨gb173, 0, none⟩ = some (.int .u8 t170) := (blk_cell BK173.out 0).trans rfl
                     have hcz131_1 : wc.cell? ⟨gb173, 1, none⟩ = some (.string t171) := (blk_cell BK173.out 1).trans rfl
                     have hcz131_2 : wc.cell? ⟨gb173, 2, none⟩ = some (.string t172) := (blk_cell BK173.out 2).trans rfl
                     have hfz131_0 := blk_frozen BK173.out 0
                     have hfz131_1 := blk_frozen BK173.out 1
                     have hfz131_2 := blk_frozen BK173.out 2
                     go_wp2
                     go_meet
                     case rel => exact ⟨_, (false), zq8, H', ⟨zq120⟩, ⟨zq9⟩, ⟨zq12⟩, ⟨zq26⟩, ⟨zq44⟩, ⟨zq6⟩⟩
                    ·rw [if_neg c127] at H
                     have c127b0 : (t170 == 102) = false := beq_eq_false_iff_ne.mpr c127
                     have c127b1 : (t170 != 102) = true := bne_iff_ne.mpr c127
                     have H' := AZ.mk H
                     clear H
                     have hnb132 := NB173_145.out
                     have hnc132 := NB145_173.out
                     have hnb133 := NB173_146.out
                     have hnc133 := NB146_173.out
                     have hnb134 := NB173_162.out
                     have hnc134 := NB162_173.out
                     have hcz135_0 : wc.cell? ⟨gb173, 0, none⟩ = some (.int .u8 t170) := (blk_cell BK173.out 0).trans rfl
                     have hcz135_1 : wc.cell? ⟨gb173, 1, none⟩ = some (.string t171) := (blk_cell BK173.out 1).trans rfl
                     have hcz135_2 : wc.cell? ⟨gb173, 2, none⟩ = some (.string t172) := (blk_cell BK173.out 2).trans rfl
                     have hfz135_0 := blk_frozen BK173.out 0
                     have hfz135_1 := blk_frozen BK173.out 1
                     have hfz135_2 := blk_frozen BK173.out 2
                     go_wp2
                     go_meet
                     case rel => exact ⟨_, ((t170 != 120)), zq8, H', ⟨zq120⟩, ⟨zq9⟩, ⟨zq12⟩, ⟨zq26⟩, ⟨zq44⟩, ⟨zq6⟩⟩
                  case rest =>
                   clear HC125
                   try clear c1
                   try clear p1
                   try clear q1
                   try clear hx1
                   try clear c2
                   try clear p2
                   try clear c4
                   try clear p6
                   try clear c8
                   try clear c9
                   try clear c10
                   try clear c11
                   try clear c12
                   try clear c13
                   try clear p17
                   try clear q17
                   try clear hx17
                   try clear c41
                   try clear c44
                   try clear p64
                   try clear c88
                   try clear c89
                   try clear c89b0
                   try clear c91
                   try clear c92
                   try clear c95
                   try clear c95b0
                   try clear c95b1
                   try clear c102
                   try clear c103
                   try clear c104
                   try clear c106
                   try clear c107
                   try clear c110
                   try clear c111
                   try clear c112
                   try clear c114
                   try clear c115
                   try clear c117
                   try clear c117b0
                   try clear c118
                   try clear c119
                   try clear c120
                   try clear c122
                   try clear c123
                   try clear c126
                   try clear c126b0
                   try clear c127
                   try clear c127b0
                   try clear c127b1
                   try clear c128
                   try clear c129
                   try clear c130
                   try clear c132
                   try clear c133
                   try clear c134
                   try clear hcz105_0
                   try clear hcz105_1
                   try clear hcz105_2
                   try clear hcz105_3
                   try clear hcz105_4
                   try clear hcz108_0
                   try clear hcz108_1
                   try clear hcz108_2
                   try clear hcz108_3
                   try clear hcz108_4
                   try clear hcz113_0
                   try clear hcz113_1
                   try clear hcz113_2
                   try clear hcz113_3
                   try clear hcz113_4
                   try clear hcz116_0
                   try clear hcz116_1
                   try clear hcz116_2
                   try clear hcz116_3
                   try clear hcz116_4
                   try clear hcz121_0
                   try clear hcz121_1
                   try clear hcz121_2
                   try clear hcz121_3
                   try clear hcz121_4
                   try clear hcz124_0
                   try clear hcz124_1
                   try clear hcz124_2
                   try clear hcz124_3
                   try clear hcz124_4
                   try clear hcz131_0
                   try clear hcz131_1
                   try clear hcz131_2
                   try clear hcz135_0
                   try clear hcz135_1
                   try clear hcz135_2
                   try clear hfz105_0
                   try clear hfz105_1
                   try clear hfz105_2
                   try clear hfz105_3
                   try clear hfz105_4
                   try clear hfz108_0
                   try clear hfz108_1
                   try clear hfz108_2
                   try clear hfz108_3
                   try clear hfz108_4
                   try clear hfz113_0
                   try clear hfz113_1
                   try clear hfz113_2
                   try clear hfz113_3
                   try clear hfz113_4
                   try clear hfz116_0
                   try clear hfz116_1
                   try clear hfz116_2
                   try clear hfz116_3
                   try clear hfz116_4
                   try clear hfz121_0
                   try clear hfz121_1
                   try clear hfz121_2
                   try clear hfz121_3
                   try clear hfz121_4
                   try clear hfz124_0
                   try clear hfz124_1
                   try clear hfz124_2
                   try clear hfz124_3
                   try clear hfz124_4
                   try clear hfz131_0
                   try clear hfz131_1
                   try clear hfz131_2
                   try clear hfz135_0
                   try clear hfz135_1
                   try clear hfz135_2
                   try clear hx174_0
                   try clear p174
                   try clear q174
                   obtain ⟨kq, x159_124, rfl, HA, HJ124, BK145, BK146, BK162, BK173, HB⟩ := hcut
                   cases kq with
                   | zero => exact absurd HA.out (by simp [spec_Show.j4])
                   | succ kj124 =>
                    have H := HA.out
                    clear HA
                    simp only [spec_Show.j4] at H
                    by_cases c136 : x159_124 = true
                    ·subst c136
                     rw [if_pos rfl] at H
                     by_cases c137 : a2_1 = true
                     ·subst c137
                      rw [if_pos rfl] at H
                      simp only [Option.some.injEq, Prod.mk.injEq] at H
                      obtain ⟨rfl, rfl, rfl, rfl, rfl⟩ := H
                      have hnb138 := NB145_146.out
                      have hnc138 := NB146_145.out
                      have hnb139 := NB145_162.out
                      have hnc139 := NB162_145.out
                      have hnb140 := NB145_173.out
                      have hnc140 := NB173_145.out
                      have hcz141_0 : wc.cell? ⟨gb145, 0, none⟩ = some (.slice (some ad163) l2_0.length c2_0) := (blk_cell BK145.out 0).trans rfl
                      have hcz141_1 : wc.cell? ⟨gb145, 1, none⟩ = some (.bool true) := (blk_cell BK145.out 1).trans rfl
                      have hcz141_2 : wc.cell? ⟨gb145, 2, none⟩ = some (.string a2_2) := (blk_cell BK145.out 2).trans rfl
                      have hfz141_0 := blk_frozen BK145.out 0
                      have hfz141_1 := blk_frozen BK145.out 1
                      have hfz141_2 := blk_frozen BK145.out 2
                      have hnb142 := NB162_146.out
                      have hnc142 := NB146_162.out
                      have hnb143 := NB162_173.out
                      have hnc143 := NB173_162.out
                      have hcz144_0 : wc.cell? ⟨gb162, 0, none⟩ = some (.int .i64 2) := (blk_cell BK162.out 0).trans rfl
                      have hcz144_1 : wc.cell? ⟨gb162, 1, none⟩ = some (.bool false) := (blk_cell BK162.out 1).trans rfl
                      have hcz144_2 : wc.cell? ⟨gb162, 2, none⟩ = some (.string (⟨#[]⟩ : ByteArray)) := (blk_cell BK162.out 2).trans rfl
                      have hcz144_3 : wc.cell? ⟨gb162, 3, none⟩ = some (.string (⟨#[]⟩ : ByteArray)) := (blk_cell BK162.out 3).trans rfl
                      have hcz144_4 : wc.cell? ⟨gb162, 4, none⟩ = some (.bool false) := (blk_cell BK162.out 4).trans rfl
                      have hfz144_0 := blk_frozen BK162.out 0
                      have hfz144_1 := blk_frozen BK162.out 1
                      have hfz144_2 := blk_frozen BK162.out 2
                      have hfz144_3 := blk_frozen BK162.out 3
                      have hfz144_4 := blk_frozen BK162.out 4
                      have hnb145 := NB146_173.out
                      have hnc145 := NB173_146.out
                      have hcz146_0 : wc.cell? ⟨gb146, 0, none⟩ = some (.int .i64 x147000_3) := (blk_cell BK146.out 0).trans rfl
                      have hcz146_1 : wc.cell? ⟨gb146, 1, none⟩ = some (.bool x147001_3) := (blk_cell BK146.out 1).trans rfl
                      have hcz146_2 : wc.cell? ⟨gb146, 2, none⟩ = some (.string x147002_3) := (blk_cell BK146.out 2).trans rfl
                      have hcz146_3 : wc.cell? ⟨gb146, 3, none⟩ = some (.string x147003_3) := (blk_cell BK146.out 3).trans rfl
                      have hcz146_4 : wc.cell? ⟨gb146, 4, none⟩ = some (.bool x147004_3) := (blk_cell BK146.out 4).trans rfl
                      have hfz146_0 := blk_frozen BK146.out 0
                      have hfz146_1 := blk_frozen BK146.out 1
                      have hfz146_2 := blk_frozen BK146.out 2
                      have hfz146_3 := blk_frozen BK146.out 3
                      have hfz146_4 := blk_frozen BK146.out 4
                      go_wp2
                      refine bodyPost_ret (results_cell_row rfl _ _ gb146 36 #[.int .i64 2, .bool false, .string (⟨#[]⟩ : ByteArray), .string (⟨#[]⟩ : ByteArray), .bool false] (0, 0) _ rfl zq3 Tryd.underlying36 rfl zq17) rfl ?_
                      exact ⟨zq7, zq6⟩
                     ·replace c137 := Bool.eq_false_iff.mpr c137
                      subst c137
                      rw [if_neg (show ¬ (false = true) by decide)] at H
                      simp only [Option.some.injEq, Prod.mk.injEq] at H
                      obtain ⟨rfl, rfl, rfl, rfl, rfl⟩ := H
                      have hnb147 := NB145_146.out
                      have hnc147 := NB146_145.out
                      have hnb148 := NB145_162.out
                      have hnc148 := NB162_145.out
                      have hnb149 := NB145_173.out
                      have hnc149 := NB173_145.out
                      have hcz150_0 : wc.cell? ⟨gb145, 0, none⟩ = some (.slice (some ad163) l2_0.length c2_0) := (blk_cell BK145.out 0).trans rfl
                      have hcz150_1 : wc.cell? ⟨gb145, 1, none⟩ = some (.bool false) := (blk_cell BK145.out 1).trans rfl
                      have hcz150_2 : wc.cell? ⟨gb145, 2, none⟩ = some (.string a2_2) := (blk_cell BK145.out 2).trans rfl
                      have hfz150_0 := blk_frozen BK145.out 0
                      have hfz150_1 := blk_frozen BK145.out 1
                      have hfz150_2 := blk_frozen BK145.out 2
                      have hnb151 := NB146_162.out
                      have hnc151 := NB162_146.out
                      have hnb152 := NB146_173.out
                      have hnc152 := NB173_146.out
                      have hcz153_0 : wc.cell? ⟨gb146, 0, none⟩ = some (.int .i64 x147000_3) := (blk_cell BK146.out 0).trans rfl
                      have hcz153_1 : wc.cell? ⟨gb146, 1, none⟩ = some (.bool x147001_3) := (blk_cell BK146.out 1).trans rfl
                      have hcz153_2 : wc.cell? ⟨gb146, 2, none⟩ = some (.string x147002_3) := (blk_cell BK146.out 2).trans rfl
                      have hcz153_3 : wc.cell? ⟨gb146, 3, none⟩ = some (.string x147003_3) := (blk_cell BK146.out 3).trans rfl
                      have hcz153_4 : wc.cell? ⟨gb146, 4, none⟩ = some (.bool x147004_3) := (blk_cell BK146.out 4).trans rfl
                      have hfz153_0 := blk_frozen BK146.out 0
                      have hfz153_1 := blk_frozen BK146.out 1
                      have hfz153_2 := blk_frozen BK146.out 2
                      have hfz153_3 := blk_frozen BK146.out 3
                      have hfz153_4 := blk_frozen BK146.out 4
                      go_wp2
                      refine bodyPost_ret (results_cell_row rfl _ _ gb146 36 #[.int .i64 0, .bool false, .string (⟨#[]⟩ : ByteArray), .string (⟨#[]⟩ : ByteArray), .bool false] (0, 0) _ rfl (by (with_reducible repeat (first | refine blk_drewN ?_ _ | refine blk_drew ?_ | refine blk_alloc ?_ _)); refine blk_put (cs := #[.int .i64 0, .bool false, .string (⟨#[]⟩ : ByteArray), .string (⟨#[]⟩ : ByteArray), .bool x147004_3]) ?_ 4 _ rfl; (with_reducible repeat (first | refine blk_drewN ?_ _ | refine blk_drew ?_ | refine blk_alloc ?_ _)); refine blk_put (cs := #[.int .i64 0, .bool false, .string (⟨#[]⟩ : ByteArray), .string x147003_3, .bool x147004_3]) ?_ 3 _ rfl; (with_reducible repeat (first | refine blk_drewN ?_ _ | refine blk_drew ?_ | refine blk_alloc ?_ _)); refine blk_put (cs := #[.int .i64 0, .bool false, .string x147002_3, .string x147003_3, .bool x147004_3]) ?_ 2 _ rfl; (with_reducible repeat (first | refine blk_drewN ?_ _ | refine blk_drew ?_ | refine blk_alloc ?_ _)); refine blk_put (cs := #[.int .i64 0, .bool x147001_3, .string x147002_3, .string x147003_3, .bool x147004_3]) ?_ 1 _ rfl; (with_reducible repeat (first | refine blk_drewN ?_ _ | refine blk_drew ?_ | refine blk_alloc ?_ _)); refine blk_put (cs := #[.int .i64 x147000_3, .bool x147001_3, .string x147002_3, .string x147003_3, .bool x147004_3]) ?_ 0 _ rfl; (with_reducible repeat (first | refine blk_drewN ?_ _ | refine blk_drew ?_ | refine blk_alloc ?_ _)); exact BK146.out) Tryd.underlying36 rfl zq17) rfl ?_
                      exact ⟨zq7, zq6⟩
                    ·replace c136 := Bool.eq_false_iff.mpr c136
                     subst c136
                     rw [if_neg (show ¬ (false = true) by decide)] at H
                     by_cases c154 : a2_1 = true
                     ·subst c154
                      rw [if_pos rfl] at H
                      by_cases c155 : 5 + a2_2.size ≤ 9223372036854775807
                      ·rw [if_pos c155] at H
                       have c155b0 := eq_true c155
                       have c155b1 : decide (5 + a2_2.size ≤ 9223372036854775807) = true := decide_eq_true c155
                       try have c155b2 : (9223372036854775807 < 5 + a2_2.size) = False := eq_false (Nat.not_lt.2 c155)
                       replace H := Option.bind_eq_some_iff.mp H
                       obtain ⟨t177, A1560, H⟩ := H
                       try dsimp only at H
                       have A156 := AZ.mk A1560
                       clear A1560
                       replace H := Option.bind_eq_some_iff.mp H
                       obtain ⟨t178, A1570, H⟩ := H
                       try dsimp only at H
                       have A157 := AZ.mk A1570
                       clear A1570
                       by_cases c158 : t178.toList = t172.toList
                       ·rw [if_pos c158] at H
                        have c158b0 : (t178.toList == t172.toList) = true := beq_iff_eq.mpr c158
                        have c158b1 : (t178.toList != t172.toList) = false := bne_eq_false_iff_eq.mpr c158
                        clear c158
                        simp only [Option.some.injEq, Prod.mk.injEq] at H
                        obtain ⟨rfl, rfl, rfl, rfl, rfl⟩ := H
                        try go_wp2
                        have n0_ := AZ.mk (blk_drew BK145.out)
                        have n1_ := AZ.mk (blk_drew BK146.out)
                        have n2_ := AZ.mk (blk_drew BK162.out)
                        have n3_ := AZ.mk (blk_drew BK173.out)
                        have n4_ := AZ.mk (below_drew1 HB.out)
                        clear BK145
                        clear BK146
                        clear BK162
                        clear BK173
                        clear HB
                        have BK145 := n0_
                        have BK146 := n1_
                        have BK162 := n2_
                        have BK173 := n3_
                        have HB := n4_
                        clear n0_ n1_ n2_ n3_ n4_
                        refine start_ (n := 14) (S := fun w' => w'.cell? ⟨gb145, 0, none⟩ = some (.slice (some ad163) l2_0.length c2_0) ∧ w'.cell? ⟨gb145, 1, none⟩ = some (.bool true) ∧ w'.cell? ⟨gb145, 2, none⟩ = some (.string a2_2) ∧ w'.cell? ⟨gb173, 0, none⟩ = some (.int .u8 t170) ∧ w'.cell? ⟨gb173, 1, none⟩ = some (.string t171) ∧ w'.cell? ⟨gb173, 2, none⟩ = some (.string t172)) (ds := []) #[false, false, false, false, false, false, false, false, false, false, false, false, false, false] zq17 rfl rfl ⟨(blk_cell BK145.out 0).trans rfl, (blk_cell BK145.out 1).trans rfl, (blk_cell BK145.out 2).trans rfl, (blk_cell BK173.out 0).trans rfl, (blk_cell BK173.out 1).trans rfl, (blk_cell BK173.out 2).trans rfl⟩ (fun hH => ?_); refine tbW spec_Show.tab29 spec_Show.bits29 (fun HT_ HW_ => ?_)
                        generalize wc.drew = w159 at BK145 BK146 BK162 BK173 HB hH ⊢
                        refine pure_ (i := 0) (N := some 164) (v := ?_) (a' := ?_) #[true, false, false, false, false, false, false, false, false, false, false, false, false, false] rfl rfl (any_of HT_.out zq17) (fun _ _ _ h => h) (Or.inl ⟨zq105, ?_⟩) ?_ ?_
                        rotate_left
                        ·intro w'
                         go_simp
                         with_reducible rfl
                        rotate_left
                        ·simp only [Act.put, List.setIfInBounds_toArray, List.set_cons_zero, List.set_cons_succ, i64_w, i32_w]
                         rfl
                        refine take_ (i := 1) (N := some 165) (v := ?_) (a' := ?_) #[true, true, false, false, false, false, false, false, false, false, false, false, false, false] rfl rfl (take_ofW HT_.out HW_.out zq17) (fun _ _ _ h => h) (Or.inl ⟨zq105, ?_⟩) hH ?_ ?_
                        rotate_left
                        ·rintro w' ⟨s0, s1, s2, s3, s4, s5⟩
                         go_simp
                         with_reducible rfl
                        rotate_left
                        ·simp only [Act.put, List.setIfInBounds_toArray, List.set_cons_zero, List.set_cons_succ, i64_w, i32_w]
                         rfl
                        refine pure_ (i := 2) (N := some 166) (v := ?_) (a' := ?_) #[true, true, true, false, false, false, false, false, false, false, false, false, false, false] rfl rfl (any_of HT_.out zq17) (fun _ _ _ h => h) (Or.inl ⟨zq105, ?_⟩) ?_ ?_
                        rotate_left
                        ·intro w'
                         go_simp
                         with_reducible rfl
                        rotate_left
                        ·simp only [Act.put, List.setIfInBounds_toArray, List.set_cons_zero, List.set_cons_succ, i64_w, i32_w]
                         rfl
                        refine pure_ (i := 3) (N := some 167) (v := ?_) (a' := ?_) #[true, true, true, true, false, false, false, false, false, false, false, false, false, false] rfl rfl (any_of HT_.out zq17) (fun _ _ _ h => h) (Or.inl ⟨zq105, ?_⟩) ?_ ?_
                        rotate_left
                        ·intro w'
                         go_simp
                         with_reducible rfl
                        rotate_left
                        ·simp only [Act.put, List.setIfInBounds_toArray, List.set_cons_zero, List.set_cons_succ, i64_w, i32_w]
                         rfl
                        refine pure_ (i := 4) (N := some 168) (v := ?_) (a' := ?_) #[true, true, true, true, true, false, false, false, false, false, false, false, false, false] rfl rfl (any_of HT_.out zq17) (fun _ _ _ h => h) (Or.inl ⟨zq105, ?_⟩) ?_ ?_
                        rotate_left
                        ·intro w'
                         go_simp
                         with_reducible rfl
                        rotate_left
                        ·simp only [Act.put, List.setIfInBounds_toArray, List.set_cons_zero, List.set_cons_succ, i64_w, i32_w]
                         rfl
                        refine pure_ (i := 7) (N := some 171) (v := ?_) (a' := ?_) #[true, true, true, true, true, false, false, true, false, false, false, false, false, false] rfl rfl (any_of HT_.out zq17) (fun _ _ _ h => h) (Or.inl ⟨zq105, ?_⟩) ?_ ?_
                        rotate_left
                        ·intro w'
                         go_simp
                         with_reducible rfl
                        rotate_left
                        ·simp only [Act.put, List.setIfInBounds_toArray, List.set_cons_zero, List.set_cons_succ, i64_w, i32_w]
                         rfl
                        refine pure_ (i := 10) (N := some 174) (v := ?_) (a' := ?_) #[true, true, true, true, true, false, false, true, false, false, true, false, false, false] rfl rfl (any_of HT_.out zq17) (fun _ _ _ h => h) (Or.inl ⟨zq105, ?_⟩) ?_ ?_
                        rotate_left
                        ·intro w'
                         go_simp
                         with_reducible rfl
                        rotate_left
                        ·simp only [Act.put, List.setIfInBounds_toArray, List.set_cons_zero, List.set_cons_succ, i64_w, i32_w]
                         rfl
                        refine take_ (i := 5) (N := some 169) (v := ?_) (a' := ?_) #[true, true, true, true, true, true, false, true, false, false, true, false, false, false] rfl rfl (take_ofW HT_.out HW_.out zq17) (fun _ _ _ h => h) (Or.inl ⟨zq105, ?_⟩) hH ?_ ?_
                        rotate_left
                        ·rintro w' ⟨s0, s1, s2, s3, s4, s5⟩
                         go_simp
                         with_reducible rfl
                        rotate_left
                        ·simp only [Act.put, List.setIfInBounds_toArray, List.set_cons_zero, List.set_cons_succ, i64_w, i32_w]
                         rfl
                        refine pure_ (i := 6) (N := some 170) (v := ?_) (a' := ?_) #[true, true, true, true, true, true, true, true, false, false, true, false, false, false] rfl rfl (any_of HT_.out zq17) (fun _ _ _ h => h) (Or.inl ⟨zq105, ?_⟩) ?_ ?_
                        rotate_left
                        ·intro w'
                         go_simp
                         with_reducible rfl
                        rotate_left
                        ·simp only [Act.put, List.setIfInBounds_toArray, List.set_cons_zero, List.set_cons_succ, i64_w, i32_w]
                         rfl
                        refine take_ (i := 11) (N := some 175) (v := ?_) (a' := ?_) #[true, true, true, true, true, true, true, true, false, false, true, true, false, false] rfl rfl (take_ofW HT_.out HW_.out zq17) (fun _ _ _ h => h) (Or.inl ⟨zq105, ?_⟩) hH ?_ ?_
                        rotate_left
                        ·rintro w' ⟨s0, s1, s2, s3, s4, s5⟩
                         go_simp
                         with_reducible rfl
                        rotate_left
                        ·simp only [Act.put, List.setIfInBounds_toArray, List.set_cons_zero, List.set_cons_succ, i64_w, i32_w]
                         rfl
                        refine one_ (i := 8) (N := some 172) #[true, true, true, true, true, true, true, true, true, false, true, true, false, false] rfl rfl (one_of HT_.out zq17) zq118 (fun K hK => ?_)
                        refine goes_ Tryd.func41 zq17 rfl #[.string ((⟨#[102, 105, 108, 101, 32]⟩ : ByteArray) ++ a2_2), .int .i64 a3] zq105 rfl rfl zq2 ?_
                        with_reducible refine (spec_Sum.calls kj124 ((⟨#[102, 105, 108, 101, 32]⟩ : ByteArray) ++ a2_2) a3 t177 _ A156.out).mono ?_
                        rintro e w160 ⟨rfl, hb⟩
                        refine ⟨_, rfl, ?_⟩
                        have n0_ := AZ.mk (blk_below (g := gb145) (o := .cells #[.slice (some ad163) l2_0.length c2_0, .bool true, .string a2_2] 38 (0, 0)) zq9 hb)
                        have n1_ := AZ.mk (blk_below (g := gb146) (o := .cells #[.int .i64 x147000_3, .bool x147001_3, .string x147002_3, .string x147003_3, .bool x147004_3] 36 (0, 0)) zq12 hb)
                        have n2_ := AZ.mk (blk_below (g := gb162) (o := .cells #[.int .i64 2, .bool false, .string (⟨#[]⟩ : ByteArray), .string (⟨#[]⟩ : ByteArray), .bool false] 36 (0, 0)) zq26 hb)
                        have n3_ := AZ.mk (blk_below (g := gb173) (o := .cells #[.int .u8 t170, .string t171, .string t172] 78 (0, 0)) zq44 hb)
                        have n4_ := AZ.mk (below_step zq6 hb)
                        clear BK145
                        clear BK146
                        clear BK162
                        clear BK173
                        clear HB
                        have BK145 := n0_
                        have BK146 := n1_
                        have BK162 := n2_
                        have BK173 := n3_
                        have HB := n4_
                        clear n0_ n1_ n2_ n3_ n4_
                        (try clear hb)
                        (try clear hb2)
                        (try clear hk)
                        (try clear hi)
                        refine hK.out _ _ ⟨(blk_cell BK145.out 0).trans rfl, (blk_cell BK145.out 1).trans rfl, (blk_cell BK145.out 2).trans rfl, (blk_cell BK173.out 0).trans rfl, (blk_cell BK173.out 1).trans rfl, (blk_cell BK173.out 2).trans rfl⟩ (fun hH => ?_)
                        clear hK K
                        refine norm_ (a' := ?_) ?_ ?_
                        rotate_left
                        ·show Act.put _ (some 172) _ = _
                         simp only [Act.put, List.setIfInBounds_toArray, List.set_cons_zero, List.set_cons_succ, i64_w, i32_w]
                         rfl
                        refine one_ (i := 9) (N := some 173) #[true, true, true, true, true, true, true, true, true, true, true, true, false, false] rfl rfl (one_of HT_.out zq17) zq118 (fun K hK => ?_)
                        refine goes_ Tryd.func44 zq17 rfl #[.string t177] zq105 rfl rfl zq2 ?_
                        with_reducible refine (spec_l9Hex.calls kj124 t177 t178 _ A157.out).mono ?_
                        rintro e w161 ⟨rfl, hb⟩
                        refine ⟨_, rfl, ?_⟩
                        have n0_ := AZ.mk (blk_below (g := gb145) (o := .cells #[.slice (some ad163) l2_0.length c2_0, .bool true, .string a2_2] 38 (0, 0)) zq9 hb)
                        have n1_ := AZ.mk (blk_below (g := gb146) (o := .cells #[.int .i64 x147000_3, .bool x147001_3, .string x147002_3, .string x147003_3, .bool x147004_3] 36 (0, 0)) zq12 hb)
                        have n2_ := AZ.mk (blk_below (g := gb162) (o := .cells #[.int .i64 2, .bool false, .string (⟨#[]⟩ : ByteArray), .string (⟨#[]⟩ : ByteArray), .bool false] 36 (0, 0)) zq26 hb)
                        have n3_ := AZ.mk (blk_below (g := gb173) (o := .cells #[.int .u8 t170, .string t171, .string t172] 78 (0, 0)) zq44 hb)
                        have n4_ := AZ.mk (below_step zq6 hb)
                        clear BK145
                        clear BK146
                        clear BK162
                        clear BK173
                        clear HB
                        have BK145 := n0_
                        have BK146 := n1_
                        have BK162 := n2_
                        have BK173 := n3_
                        have HB := n4_
                        clear n0_ n1_ n2_ n3_ n4_
                        (try clear hb)
                        (try clear hb2)
                        (try clear hk)
                        (try clear hi)
                        refine hK.out _ _ ⟨(blk_cell BK145.out 0).trans rfl, (blk_cell BK145.out 1).trans rfl, (blk_cell BK145.out 2).trans rfl, (blk_cell BK173.out 0).trans rfl, (blk_cell BK173.out 1).trans rfl, (blk_cell BK173.out 2).trans rfl⟩ (fun hH => ?_)
                        clear hK K
                        refine norm_ (a' := ?_) ?_ ?_
                        rotate_left
                        ·show Act.put _ (some 173) _ = _
                         simp only [Act.put, List.setIfInBounds_toArray, List.set_cons_zero, List.set_cons_succ, i64_w, i32_w]
                         rfl
                        refine pure_ (i := 12) (N := some 176) (v := ?_) (a' := ?_) #[true, true, true, true, true, true, true, true, true, true, true, true, true, false] rfl rfl (any_of HT_.out zq17) (fun _ _ _ h => h) (Or.inl ⟨zq105, ?_⟩) ?_ ?_
                        rotate_left
                        ·intro w'
                         go_simp
                         with_reducible rfl
                        rotate_left
                        ·simp only [Act.put, List.setIfInBounds_toArray, List.set_cons_zero, List.set_cons_succ, i64_w, i32_w]
                         rfl
                        refine pure_ (i := 13) (N := some 177) (v := ?_) (a' := ?_) #[true, true, true, true, true, true, true, true, true, true, true, true, true, true] rfl rfl (any_of HT_.out zq17) (fun _ _ _ h => h) (Or.inl ⟨zq105, ?_⟩) ?_ ?_
                        rotate_left
                        ·intro w'
                         go_simp
                         with_reducible rfl
                        rotate_left
                        ·simp only [Act.put, List.setIfInBounds_toArray, List.set_cons_zero, List.set_cons_succ, i64_w, i32_w]
                         rfl
                        refine done_ (done_of HT_.out zq17) ?_
                        have hnb162 := NB145_146.out
                        have hnc162 := NB146_145.out
                        have hnb163 := NB145_162.out
                        have hnc163 := NB162_145.out
                        have hnb164 := NB145_173.out
                        have hnc164 := NB173_145.out
                        have hcz165_0 : w161.cell? ⟨gb145, 0, none⟩ = some (.slice (some ad163) l2_0.length c2_0) := (blk_cell BK145.out 0).trans rfl
                        have hcz165_1 : w161.cell? ⟨gb145, 1, none⟩ = some (.bool true) := (blk_cell BK145.out 1).trans rfl
                        have hcz165_2 : w161.cell? ⟨gb145, 2, none⟩ = some (.string a2_2) := (blk_cell BK145.out 2).trans rfl
                        have hfz165_0 := blk_frozen BK145.out 0
                        have hfz165_1 := blk_frozen BK145.out 1
                        have hfz165_2 := blk_frozen BK145.out 2
                        have hnb166 := NB173_146.out
                        have hnc166 := NB146_173.out
                        have hnb167 := NB173_162.out
                        have hnc167 := NB162_173.out
                        have hcz168_0 : w161.cell? ⟨gb173, 0, none⟩ = some (.int .u8 t170) := (blk_cell BK173.out 0).trans rfl
                        have hcz168_1 : w161.cell? ⟨gb173, 1, none⟩ = some (.string t171) := (blk_cell BK173.out 1).trans rfl
                        have hcz168_2 : w161.cell? ⟨gb173, 2, none⟩ = some (.string t172) := (blk_cell BK173.out 2).trans rfl
                        have hfz168_0 := blk_frozen BK173.out 0
                        have hfz168_1 := blk_frozen BK173.out 1
                        have hfz168_2 := blk_frozen BK173.out 2
                        have hnb169 := NB146_162.out
                        have hnc169 := NB162_146.out
                        have hcz170_0 : w161.cell? ⟨gb146, 0, none⟩ = some (.int .i64 x147000_3) := (blk_cell BK146.out 0).trans rfl
                        have hcz170_1 : w161.cell? ⟨gb146, 1, none⟩ = some (.bool x147001_3) := (blk_cell BK146.out 1).trans rfl
                        have hcz170_2 : w161.cell? ⟨gb146, 2, none⟩ = some (.string x147002_3) := (blk_cell BK146.out 2).trans rfl
                        have hcz170_3 : w161.cell? ⟨gb146, 3, none⟩ = some (.string x147003_3) := (blk_cell BK146.out 3).trans rfl
                        have hcz170_4 : w161.cell? ⟨gb146, 4, none⟩ = some (.bool x147004_3) := (blk_cell BK146.out 4).trans rfl
                        have hfz170_0 := blk_frozen BK146.out 0
                        have hfz170_1 := blk_frozen BK146.out 1
                        have hfz170_2 := blk_frozen BK146.out 2
                        have hfz170_3 := blk_frozen BK146.out 3
                        have hfz170_4 := blk_frozen BK146.out 4
                        try go_wp2
                        refine bodyPost_ret (results_cell_row rfl _ _ gb146 36 #[.int .i64 0, .bool true, .string a1, .string a2_2, .bool (t170 == 120)] (0, 0) _ rfl (by (with_reducible repeat (first | refine blk_drewN ?_ _ | refine blk_drew ?_ | refine blk_alloc ?_ _)); refine blk_put (cs := #[.int .i64 0, .bool true, .string a1, .string a2_2, .bool x147004_3]) ?_ 4 _ rfl; (with_reducible repeat (first | refine blk_drewN ?_ _ | refine blk_drew ?_ | refine blk_alloc ?_ _)); refine blk_put (cs := #[.int .i64 0, .bool true, .string a1, .string x147003_3, .bool x147004_3]) ?_ 3 _ rfl; (with_reducible repeat (first | refine blk_drewN ?_ _ | refine blk_drew ?_ | refine blk_alloc ?_ _)); refine blk_put (cs := #[.int .i64 0, .bool true, .string x147002_3, .string x147003_3, .bool x147004_3]) ?_ 2 _ rfl; (with_reducible repeat (first | refine blk_drewN ?_ _ | refine blk_drew ?_ | refine blk_alloc ?_ _)); refine blk_put (cs := #[.int .i64 0, .bool x147001_3, .string x147002_3, .string x147003_3, .bool x147004_3]) ?_ 1 _ rfl; (with_reducible repeat (first | refine blk_drewN ?_ _ | refine blk_drew ?_ | refine blk_alloc ?_ _)); refine blk_put (cs := #[.int .i64 x147000_3, .bool x147001_3, .string x147002_3, .string x147003_3, .bool x147004_3]) ?_ 0 _ rfl; (with_reducible repeat (first | refine blk_drewN ?_ _ | refine blk_drew ?_ | refine blk_alloc ?_ _)); exact BK146.out) Tryd.underlying36 rfl zq17) rfl ?_
                        exact ⟨zq7, zq6⟩
                       ·rw [if_neg c158] at H
                        have c158b0 : (t178.toList == t172.toList) = false := beq_eq_false_iff_ne.mpr c158
                        have c158b1 : (t178.toList != t172.toList) = true := bne_iff_ne.mpr c158
                        simp only [Option.some.injEq, Prod.mk.injEq] at H
                        obtain ⟨rfl, rfl, rfl, rfl, rfl⟩ := H
                        try go_wp2
                        have n0_ := AZ.mk (blk_drew BK145.out)
                        have n1_ := AZ.mk (blk_drew BK146.out)
                        have n2_ := AZ.mk (blk_drew BK162.out)
                        have n3_ := AZ.mk (blk_drew BK173.out)
                        have n4_ := AZ.mk (below_drew1 HB.out)
                        clear BK145
                        clear BK146
                        clear BK162
                        clear BK173
                        clear HB
                        have BK145 := n0_
                        have BK146 := n1_
                        have BK162 := n2_
                        have BK173 := n3_
                        have HB := n4_
                        clear n0_ n1_ n2_ n3_ n4_
                        refine start_ (n := 14) (S := fun w' => w'.cell? ⟨gb145, 0, none⟩ = some (.slice (some ad163) l2_0.length c2_0) ∧ w'.cell? ⟨gb145, 1, none⟩ = some (.bool true) ∧ w'.cell? ⟨gb145, 2, none⟩ = some (.string a2_2) ∧ w'.cell? ⟨gb173, 0, none⟩ = some (.int .u8 t170) ∧ w'.cell? ⟨gb173, 1, none⟩ = some (.string t171) ∧ w'.cell? ⟨gb173, 2, none⟩ = some (.string t172)) (ds := []) #[false, false, false, false, false, false, false, false, false, false, false, false, false, false] zq17 rfl rfl ⟨(blk_cell BK145.out 0).trans rfl, (blk_cell BK145.out 1).trans rfl, (blk_cell BK145.out 2).trans rfl, (blk_cell BK173.out 0).trans rfl, (blk_cell BK173.out 1).trans rfl, (blk_cell BK173.out 2).trans rfl⟩ (fun hH => ?_); refine tbW spec_Show.tab29 spec_Show.bits29 (fun HT_ HW_ => ?_)
                        generalize wc.drew = w171 at BK145 BK146 BK162 BK173 HB hH ⊢
                        refine pure_ (i := 0) (N := some 164) (v := ?_) (a' := ?_) #[true, false, false, false, false, false, false, false, false, false, false, false, false, false] rfl rfl (any_of HT_.out zq17) (fun _ _ _ h => h) (Or.inl ⟨zq105, ?_⟩) ?_ ?_
                        rotate_left
                        ·intro w'
                         go_simp
                         with_reducible rfl
                        rotate_left
                        ·simp only [Act.put, List.setIfInBounds_toArray, List.set_cons_zero, List.set_cons_succ, i64_w, i32_w]
                         rfl
                        refine take_ (i := 1) (N := some 165) (v := ?_) (a' := ?_) #[true, true, false, false, false, false, false, false, false, false, false, false, false, false] rfl rfl (take_ofW HT_.out HW_.out zq17) (fun _ _ _ h => h) (Or.inl ⟨zq105, ?_⟩) hH ?_ ?_
                        rotate_left
                        ·rintro w' ⟨s0, s1, s2, s3, s4, s5⟩
                         go_simp
                         with_reducible rfl
                        rotate_left
                        ·simp only [Act.put, List.setIfInBounds_toArray, List.set_cons_zero, List.set_cons_succ, i64_w, i32_w]
                         rfl
                        refine pure_ (i := 2) (N := some 166) (v := ?_) (a' := ?_) #[true, true, true, false, false, false, false, false, false, false, false, false, false, false] rfl rfl (any_of HT_.out zq17) (fun _ _ _ h => h) (Or.inl ⟨zq105, ?_⟩) ?_ ?_
                        rotate_left
                        ·intro w'
                         go_simp
                         with_reducible rfl
                        rotate_left
                        ·simp only [Act.put, List.setIfInBounds_toArray, List.set_cons_zero, List.set_cons_succ, i64_w, i32_w]
                         rfl
                        refine pure_ (i := 3) (N := some 167) (v := ?_) (a' := ?_) #[true, true, true, true, false, false, false, false, false, false, false, false, false, false] rfl rfl (any_of HT_.out zq17) (fun _ _ _ h => h) (Or.inl ⟨zq105, ?_⟩) ?_ ?_
                        rotate_left
                        ·intro w'
                         go_simp
                         with_reducible rfl
                        rotate_left
                        ·simp only [Act.put, List.setIfInBounds_toArray, List.set_cons_zero, List.set_cons_succ, i64_w, i32_w]
                         rfl
                        refine pure_ (i := 4) (N := some 168) (v := ?_) (a' := ?_) #[true, true, true, true, true, false, false, false, false, false, false, false, false, false] rfl rfl (any_of HT_.out zq17) (fun _ _ _ h => h) (Or.inl ⟨zq105, ?_⟩) ?_ ?_
                        rotate_left
                        ·intro w'
                         go_simp
                         with_reducible rfl
                        rotate_left
                        ·simp only [Act.put, List.setIfInBounds_toArray, List.set_cons_zero, List.set_cons_succ, i64_w, i32_w]
                         rfl
                        refine pure_ (i := 7) (N := some 171) (v := ?_) (a' := ?_) #[true, true, true, true, true, false, false, true, false, false, false, false, false, false] rfl rfl (any_of HT_.out zq17) (fun _ _ _ h => h) (Or.inl ⟨zq105, ?_⟩) ?_ ?_
                        rotate_left
                        ·intro w'
                         go_simp
                         with_reducible rfl
                        rotate_left
                        ·simp only [Act.put, List.setIfInBounds_toArray, List.set_cons_zero, List.set_cons_succ, i64_w, i32_w]
                         rfl
                        refine pure_ (i := 10) (N := some 174) (v := ?_) (a' := ?_) #[true, true, true, true, true, false, false, true, false, false, true, false, false, false] rfl rfl (any_of HT_.out zq17) (fun _ _ _ h => h) (Or.inl ⟨zq105, ?_⟩) ?_ ?_
                        rotate_left
                        ·intro w'
                         go_simp
                         with_reducible rfl
                        rotate_left
                        ·simp only [Act.put, List.setIfInBounds_toArray, List.set_cons_zero, List.set_cons_succ, i64_w, i32_w]
                         rfl
                        refine take_ (i := 5) (N := some 169) (v := ?_) (a' := ?_) #[true, true, true, true, true, true, false, true, false, false, true, false, false, false] rfl rfl (take_ofW HT_.out HW_.out zq17) (fun _ _ _ h => h) (Or.inl ⟨zq105, ?_⟩) hH ?_ ?_
                        rotate_left
                        ·rintro w' ⟨s0, s1, s2, s3, s4, s5⟩
                         go_simp
                         with_reducible rfl
                        rotate_left
                        ·simp only [Act.put, List.setIfInBounds_toArray, List.set_cons_zero, List.set_cons_succ, i64_w, i32_w]
                         rfl
                        refine pure_ (i := 6) (N := some 170) (v := ?_) (a' := ?_) #[true, true, true, true, true, true, true, true, false, false, true, false, false, false] rfl rfl (any_of HT_.out zq17) (fun _ _ _ h => h) (Or.inl ⟨zq105, ?_⟩) ?_ ?_
                        rotate_left
                        ·intro w'
                         go_simp
                         with_reducible rfl
                        rotate_left
                        ·simp only [Act.put, List.setIfInBounds_toArray, List.set_cons_zero, List.set_cons_succ, i64_w, i32_w]
                         rfl
                        refine take_ (i := 11) (N := some 175) (v := ?_) (a' := ?_) #[true, true, true, true, true, true, true, true, false, false, true, true, false, false] rfl rfl (take_ofW HT_.out HW_.out zq17) (fun _ _ _ h => h) (Or.inl ⟨zq105, ?_⟩) hH ?_ ?_
                        rotate_left
                        ·rintro w' ⟨s0, s1, s2, s3, s4, s5⟩
                         go_simp
                         with_reducible rfl
                        rotate_left
                        ·simp only [Act.put, List.setIfInBounds_toArray, List.set_cons_zero, List.set_cons_succ, i64_w, i32_w]
                         rfl
                        refine one_ (i := 8) (N := some 172) #[true, true, true, true, true, true, true, true, true, false, true, true, false, false] rfl rfl (one_of HT_.out zq17) zq118 (fun K hK => ?_)
                        refine goes_ Tryd.func41 zq17 rfl #[.string ((⟨#[102, 105, 108, 101, 32]⟩ : ByteArray) ++ a2_2), .int .i64 a3] zq105 rfl rfl zq2 ?_
                        with_reducible refine (spec_Sum.calls kj124 ((⟨#[102, 105, 108, 101, 32]⟩ : ByteArray) ++ a2_2) a3 t177 _ A156.out).mono ?_
                        rintro e w172 ⟨rfl, hb⟩
                        refine ⟨_, rfl, ?_⟩
                        have n0_ := AZ.mk (blk_below (g := gb145) (o := .cells #[.slice (some ad163) l2_0.length c2_0, .bool true, .string a2_2] 38 (0, 0)) zq9 hb)
                        have n1_ := AZ.mk (blk_below (g := gb146) (o := .cells #[.int .i64 x147000_3, .bool x147001_3, .string x147002_3, .string x147003_3, .bool x147004_3] 36 (0, 0)) zq12 hb)
                        have n2_ := AZ.mk (blk_below (g := gb162) (o := .cells #[.int .i64 2, .bool false, .string (⟨#[]⟩ : ByteArray), .string (⟨#[]⟩ : ByteArray), .bool false] 36 (0, 0)) zq26 hb)
                        have n3_ := AZ.mk (blk_below (g := gb173) (o := .cells #[.int .u8 t170, .string t171, .string t172] 78 (0, 0)) zq44 hb)
                        have n4_ := AZ.mk (below_step zq6 hb)
                        clear BK145
                        clear BK146
                        clear BK162
                        clear BK173
                        clear HB
                        have BK145 := n0_
                        have BK146 := n1_
                        have BK162 := n2_
                        have BK173 := n3_
                        have HB := n4_
                        clear n0_ n1_ n2_ n3_ n4_
                        (try clear hb)
                        (try clear hb2)
                        (try clear hk)
                        (try clear hi)
                        refine hK.out _ _ ⟨(blk_cell BK145.out 0).trans rfl, (blk_cell BK145.out 1).trans rfl, (blk_cell BK145.out 2).trans rfl, (blk_cell BK173.out 0).trans rfl, (blk_cell BK173.out 1).trans rfl, (blk_cell BK173.out 2).trans rfl⟩ (fun hH => ?_)
                        clear hK K
                        refine norm_ (a' := ?_) ?_ ?_
                        rotate_left
                        ·show Act.put _ (some 172) _ = _
                         simp only [Act.put, List.setIfInBounds_toArray, List.set_cons_zero, List.set_cons_succ, i64_w, i32_w]
                         rfl
                        refine one_ (i := 9) (N := some 173) #[true, true, true, true, true, true, true, true, true, true, true, true, false, false] rfl rfl (one_of HT_.out zq17) zq118 (fun K hK => ?_)
                        refine goes_ Tryd.func44 zq17 rfl #[.string t177] zq105 rfl rfl zq2 ?_
                        with_reducible refine (spec_l9Hex.calls kj124 t177 t178 _ A157.out).mono ?_
                        rintro e w173 ⟨rfl, hb⟩
                        refine ⟨_, rfl, ?_⟩
                        have n0_ := AZ.mk (blk_below (g := gb145) (o := .cells #[.slice (some ad163) l2_0.length c2_0, .bool true, .string a2_2] 38 (0, 0)) zq9 hb)
                        have n1_ := AZ.mk (blk_below (g := gb146) (o := .cells #[.int .i64 x147000_3, .bool x147001_3, .string x147002_3, .string x147003_3, .bool x147004_3] 36 (0, 0)) zq12 hb)
                        have n2_ := AZ.mk (blk_below (g := gb162) (o := .cells #[.int .i64 2, .bool false, .string (⟨#[]⟩ : ByteArray), .string (⟨#[]⟩ : ByteArray), .bool false] 36 (0, 0)) zq26 hb)
                        have n3_ := AZ.mk (blk_below (g := gb173) (o := .cells #[.int .u8 t170, .string t171, .string t172] 78 (0, 0)) zq44 hb)
                        have n4_ := AZ.mk (below_step zq6 hb)
                        clear BK145
                        clear BK146
                        clear BK162
                        clear BK173
                        clear HB
                        have BK145 := n0_
                        have BK146 := n1_
                        have BK162 := n2_
                        have BK173 := n3_
                        have HB := n4_
                        clear n0_ n1_ n2_ n3_ n4_
                        (try clear hb)
                        (try clear hb2)
                        (try clear hk)
                        (try clear hi)
                        refine hK.out _ _ ⟨(blk_cell BK145.out 0).trans rfl, (blk_cell BK145.out 1).trans rfl, (blk_cell BK145.out 2).trans rfl, (blk_cell BK173.out 0).trans rfl, (blk_cell BK173.out 1).trans rfl, (blk_cell BK173.out 2).trans rfl⟩ (fun hH => ?_)
                        clear hK K
                        refine norm_ (a' := ?_) ?_ ?_
                        rotate_left
                        ·show Act.put _ (some 173) _ = _
                         simp only [Act.put, List.setIfInBounds_toArray, List.set_cons_zero, List.set_cons_succ, i64_w, i32_w]
                         rfl
                        refine pure_ (i := 12) (N := some 176) (v := ?_) (a' := ?_) #[true, true, true, true, true, true, true, true, true, true, true, true, true, false] rfl rfl (any_of HT_.out zq17) (fun _ _ _ h => h) (Or.inl ⟨zq105, ?_⟩) ?_ ?_
                        rotate_left
                        ·intro w'
                         go_simp
                         with_reducible rfl
                        rotate_left
                        ·simp only [Act.put, List.setIfInBounds_toArray, List.set_cons_zero, List.set_cons_succ, i64_w, i32_w]
                         rfl
                        refine pure_ (i := 13) (N := some 177) (v := ?_) (a' := ?_) #[true, true, true, true, true, true, true, true, true, true, true, true, true, true] rfl rfl (any_of HT_.out zq17) (fun _ _ _ h => h) (Or.inl ⟨zq105, ?_⟩) ?_ ?_
                        rotate_left
                        ·intro w'
                         go_simp
                         with_reducible rfl
                        rotate_left
                        ·simp only [Act.put, List.setIfInBounds_toArray, List.set_cons_zero, List.set_cons_succ, i64_w, i32_w]
                         rfl
                        refine done_ (done_of HT_.out zq17) ?_
                        have hnb174 := NB162_145.out
                        have hnc174 := NB145_162.out
                        have hnb175 := NB162_146.out
                        have hnc175 := NB146_162.out
                        have hnb176 := NB162_173.out
                        have hnc176 := NB173_162.out
                        have hcz177_0 : w173.cell? ⟨gb162, 0, none⟩ = some (.int .i64 2) := (blk_cell BK162.out 0).trans rfl
                        have hcz177_1 : w173.cell? ⟨gb162, 1, none⟩ = some (.bool false) := (blk_cell BK162.out 1).trans rfl
                        have hcz177_2 : w173.cell? ⟨gb162, 2, none⟩ = some (.string (⟨#[]⟩ : ByteArray)) := (blk_cell BK162.out 2).trans rfl
                        have hcz177_3 : w173.cell? ⟨gb162, 3, none⟩ = some (.string (⟨#[]⟩ : ByteArray)) := (blk_cell BK162.out 3).trans rfl
                        have hcz177_4 : w173.cell? ⟨gb162, 4, none⟩ = some (.bool false) := (blk_cell BK162.out 4).trans rfl
                        have hfz177_0 := blk_frozen BK162.out 0
                        have hfz177_1 := blk_frozen BK162.out 1
                        have hfz177_2 := blk_frozen BK162.out 2
                        have hfz177_3 := blk_frozen BK162.out 3
                        have hfz177_4 := blk_frozen BK162.out 4
                        have hnb178 := NB146_145.out
                        have hnc178 := NB145_146.out
                        have hnb179 := NB146_173.out
                        have hnc179 := NB173_146.out
                        have hcz180_0 : w173.cell? ⟨gb146, 0, none⟩ = some (.int .i64 x147000_3) := (blk_cell BK146.out 0).trans rfl
                        have hcz180_1 : w173.cell? ⟨gb146, 1, none⟩ = some (.bool x147001_3) := (blk_cell BK146.out 1).trans rfl
                        have hcz180_2 : w173.cell? ⟨gb146, 2, none⟩ = some (.string x147002_3) := (blk_cell BK146.out 2).trans rfl
                        have hcz180_3 : w173.cell? ⟨gb146, 3, none⟩ = some (.string x147003_3) := (blk_cell BK146.out 3).trans rfl
                        have hcz180_4 : w173.cell? ⟨gb146, 4, none⟩ = some (.bool x147004_3) := (blk_cell BK146.out 4).trans rfl
                        have hfz180_0 := blk_frozen BK146.out 0
                        have hfz180_1 := blk_frozen BK146.out 1
                        have hfz180_2 := blk_frozen BK146.out 2
                        have hfz180_3 := blk_frozen BK146.out 3
                        have hfz180_4 := blk_frozen BK146.out 4
                        try go_wp2
                        refine bodyPost_ret (results_cell_row rfl _ _ gb146 36 #[.int .i64 2, .bool false, .string (⟨#[]⟩ : ByteArray), .string (⟨#[]⟩ : ByteArray), .bool false] (0, 0) _ rfl zq3 Tryd.underlying36 rfl zq17) rfl ?_
                        exact ⟨zq7, zq6⟩
                      ·rw [if_neg c155] at H
                       exact absurd H zq119
                     ·replace c154 := Bool.eq_false_iff.mpr c154
                      subst c154
                      rw [if_neg (show ¬ (false = true) by decide)] at H
                      simp only [Option.some.injEq, Prod.mk.injEq] at H
                      obtain ⟨rfl, rfl, rfl, rfl, rfl⟩ := H
                      try go_wp2
                      have n0_ := AZ.mk (blk_drew BK145.out)
                      have n1_ := AZ.mk (blk_drew BK146.out)
                      have n2_ := AZ.mk (blk_drew BK162.out)
                      have n3_ := AZ.mk (blk_drew BK173.out)
                      have n4_ := AZ.mk (below_drew1 HB.out)
                      clear BK145
                      clear BK146
                      clear BK162
                      clear BK173
                      clear HB
                      have BK145 := n0_
                      have BK146 := n1_
                      have BK162 := n2_
                      have BK173 := n3_
                      have HB := n4_
                      clear n0_ n1_ n2_ n3_ n4_
                      refine start_ (n := 14) (S := fun w' => w'.cell? ⟨gb145, 0, none⟩ = some (.slice (some ad163) l2_0.length c2_0) ∧ w'.cell? ⟨gb145, 1, none⟩ = some (.bool false) ∧ w'.cell? ⟨gb145, 2, none⟩ = some (.string a2_2)) (ds := []) #[false, false, false, false, false, false, false, false, false, false, false, false, false, false] zq17 rfl rfl ⟨(blk_cell BK145.out 0).trans rfl, (blk_cell BK145.out 1).trans rfl, (blk_cell BK145.out 2).trans rfl⟩ (fun hH => ?_); refine tbW spec_Show.tab29 spec_Show.bits29 (fun HT_ HW_ => ?_)
                      generalize wc.drew = w181 at BK145 BK146 BK162 BK173 HB hH ⊢
                      refine pure_ (i := 0) (N := some 164) (v := ?_) (a' := ?_) #[true, false, false, false, false, false, false, false, false, false, false, false, false, false] rfl rfl (any_of HT_.out zq17) (fun _ _ _ h => h) (Or.inl ⟨zq105, ?_⟩) ?_ ?_
                      rotate_left
                      ·intro w'
                       go_simp
                       with_reducible rfl
                      rotate_left
                      ·simp only [Act.put, List.setIfInBounds_toArray, List.set_cons_zero, List.set_cons_succ, i64_w, i32_w]
                       rfl
                      refine take_ (i := 1) (N := some 165) (v := ?_) (a' := ?_) #[true, true, false, false, false, false, false, false, false, false, false, false, false, false] rfl rfl (take_ofW HT_.out HW_.out zq17) (fun _ _ _ h => h) (Or.inl ⟨zq105, ?_⟩) hH ?_ ?_
                      rotate_left
                      ·rintro w' ⟨s0, s1, s2⟩
                       go_simp
                       with_reducible rfl
                      rotate_left
                      ·simp only [Act.put, List.setIfInBounds_toArray, List.set_cons_zero, List.set_cons_succ, i64_w, i32_w]
                       rfl
                      refine pure_ (i := 2) (N := some 166) (v := ?_) (a' := ?_) #[true, true, true, false, false, false, false, false, false, false, false, false, false, false] rfl rfl (any_of HT_.out zq17) (fun _ _ _ h => h) (Or.inl ⟨zq105, ?_⟩) ?_ ?_
                      rotate_left
                      ·intro w'
                       go_simp
                       with_reducible rfl
                      rotate_left
                      ·simp only [Act.put, List.setIfInBounds_toArray, List.set_cons_zero, List.set_cons_succ, i64_w, i32_w]
                       rfl
                      refine pure_ (i := 3) (N := some 167) (v := ?_) (a' := ?_) #[true, true, true, true, false, false, false, false, false, false, false, false, false, false] rfl rfl (any_of HT_.out zq17) (fun _ _ _ h => h) (Or.inl ⟨zq105, ?_⟩) ?_ ?_
                      rotate_left
                      ·intro w'
                       go_simp
                       with_reducible rfl
                      rotate_left
                      ·simp only [Act.put, List.setIfInBounds_toArray, List.set_cons_zero, List.set_cons_succ, i64_w, i32_w]
                       rfl
                      refine pure_ (i := 4) (N := some 168) (v := undef) (a' := ?_) #[true, true, true, true, true, false, false, false, false, false, false, false, false, false] rfl rfl (any_of HT_.out zq17) (fun _ _ _ h => h) (Or.inr ⟨zq105, rfl⟩) ?_ ?_
                      rotate_left
                      ·simp only [Act.put, List.setIfInBounds_toArray, List.set_cons_zero, List.set_cons_succ, i64_w, i32_w]
                       rfl
                      refine pure_ (i := 5) (N := some 169) (v := undef) (a' := ?_) #[true, true, true, true, true, true, false, false, false, false, false, false, false, false] rfl rfl (any_of HT_.out zq17) (fun _ _ _ h => h) (Or.inr ⟨zq105, rfl⟩) ?_ ?_
                      rotate_left
                      ·simp only [Act.put, List.setIfInBounds_toArray, List.set_cons_zero, List.set_cons_succ, i64_w, i32_w]
                       rfl
                      refine pure_ (i := 6) (N := some 170) (v := undef) (a' := ?_) #[true, true, true, true, true, true, true, false, false, false, false, false, false, false] rfl rfl (any_of HT_.out zq17) (fun _ _ _ h => h) (Or.inr ⟨zq105, rfl⟩) ?_ ?_
                      rotate_left
                      ·simp only [Act.put, List.setIfInBounds_toArray, List.set_cons_zero, List.set_cons_succ, i64_w, i32_w]
                       rfl
                      refine pure_ (i := 7) (N := some 171) (v := undef) (a' := ?_) #[true, true, true, true, true, true, true, true, false, false, false, false, false, false] rfl rfl (any_of HT_.out zq17) (fun _ _ _ h => h) (Or.inr ⟨zq105, rfl⟩) ?_ ?_
                      rotate_left
                      ·simp only [Act.put, List.setIfInBounds_toArray, List.set_cons_zero, List.set_cons_succ, i64_w, i32_w]
                       rfl
                      refine pure_ (i := 8) (N := some 172) (v := undef) (a' := ?_) #[true, true, true, true, true, true, true, true, true, false, false, false, false, false] rfl rfl (any_of HT_.out zq17) (fun _ _ _ h => h) (Or.inr ⟨zq105, rfl⟩) ?_ ?_
                      rotate_left
                      ·simp only [Act.put, List.setIfInBounds_toArray, List.set_cons_zero, List.set_cons_succ, i64_w, i32_w]
                       rfl
                      refine pure_ (i := 9) (N := some 173) (v := undef) (a' := ?_) #[true, true, true, true, true, true, true, true, true, true, false, false, false, false] rfl rfl (any_of HT_.out zq17) (fun _ _ _ h => h) (Or.inr ⟨zq105, rfl⟩) ?_ ?_
                      rotate_left
                      ·simp only [Act.put, List.setIfInBounds_toArray, List.set_cons_zero, List.set_cons_succ, i64_w, i32_w]
                       rfl
                      refine pure_ (i := 10) (N := some 174) (v := undef) (a' := ?_) #[true, true, true, true, true, true, true, true, true, true, true, false, false, false] rfl rfl (any_of HT_.out zq17) (fun _ _ _ h => h) (Or.inr ⟨zq105, rfl⟩) ?_ ?_
                      rotate_left
                      ·simp only [Act.put, List.setIfInBounds_toArray, List.set_cons_zero, List.set_cons_succ, i64_w, i32_w]
                       rfl
                      refine pure_ (i := 11) (N := some 175) (v := undef) (a' := ?_) #[true, true, true, true, true, true, true, true, true, true, true, true, false, false] rfl rfl (any_of HT_.out zq17) (fun _ _ _ h => h) (Or.inr ⟨zq105, rfl⟩) ?_ ?_
                      rotate_left
                      ·simp only [Act.put, List.setIfInBounds_toArray, List.set_cons_zero, List.set_cons_succ, i64_w, i32_w]
                       rfl
                      refine pure_ (i := 12) (N := some 176) (v := undef) (a' := ?_) #[true, true, true, true, true, true, true, true, true, true, true, true, true, false] rfl rfl (any_of HT_.out zq17) (fun _ _ _ h => h) (Or.inr ⟨zq105, rfl⟩) ?_ ?_
                      rotate_left
                      ·simp only [Act.put, List.setIfInBounds_toArray, List.set_cons_zero, List.set_cons_succ, i64_w, i32_w]
                       rfl
                      refine pure_ (i := 13) (N := some 177) (v := ?_) (a' := ?_) #[true, true, true, true, true, true, true, true, true, true, true, true, true, true] rfl rfl (any_of HT_.out zq17) (fun _ _ _ h => h) (Or.inl ⟨zq105, ?_⟩) ?_ ?_
                      rotate_left
                      ·intro w'
                       go_simp
                       with_reducible rfl
                      rotate_left
                      ·simp only [Act.put, List.setIfInBounds_toArray, List.set_cons_zero, List.set_cons_succ, i64_w, i32_w]
                       rfl
                      refine done_ (done_of HT_.out zq17) ?_
                      have hnb182 := NB162_145.out
                      have hnc182 := NB145_162.out
                      have hnb183 := NB162_146.out
                      have hnc183 := NB146_162.out
                      have hnb184 := NB162_173.out
                      have hnc184 := NB173_162.out
                      have hcz185_0 : w181.cell? ⟨gb162, 0, none⟩ = some (.int .i64 2) := (blk_cell BK162.out 0).trans rfl
                      have hcz185_1 : w181.cell? ⟨gb162, 1, none⟩ = some (.bool false) := (blk_cell BK162.out 1).trans rfl
                      have hcz185_2 : w181.cell? ⟨gb162, 2, none⟩ = some (.string (⟨#[]⟩ : ByteArray)) := (blk_cell BK162.out 2).trans rfl
                      have hcz185_3 : w181.cell? ⟨gb162, 3, none⟩ = some (.string (⟨#[]⟩ : ByteArray)) := (blk_cell BK162.out 3).trans rfl
                      have hcz185_4 : w181.cell? ⟨gb162, 4, none⟩ = some (.bool false) := (blk_cell BK162.out 4).trans rfl
                      have hfz185_0 := blk_frozen BK162.out 0
                      have hfz185_1 := blk_frozen BK162.out 1
                      have hfz185_2 := blk_frozen BK162.out 2
                      have hfz185_3 := blk_frozen BK162.out 3
                      have hfz185_4 := blk_frozen BK162.out 4
                      have hnb186 := NB146_145.out
                      have hnc186 := NB145_146.out
                      have hnb187 := NB146_173.out
                      have hnc187 := NB173_146.out
                      have hcz188_0 : w181.cell? ⟨gb146, 0, none⟩ = some (.int .i64 x147000_3) := (blk_cell BK146.out 0).trans rfl
                      have hcz188_1 : w181.cell? ⟨gb146, 1, none⟩ = some (.bool x147001_3) := (blk_cell BK146.out 1).trans rfl
                      have hcz188_2 : w181.cell? ⟨gb146, 2, none⟩ = some (.string x147002_3) := (blk_cell BK146.out 2).trans rfl
                      have hcz188_3 : w181.cell? ⟨gb146, 3, none⟩ = some (.string x147003_3) := (blk_cell BK146.out 3).trans rfl
                      have hcz188_4 : w181.cell? ⟨gb146, 4, none⟩ = some (.bool x147004_3) := (blk_cell BK146.out 4).trans rfl
                      have hfz188_0 := blk_frozen BK146.out 0
                      have hfz188_1 := blk_frozen BK146.out 1
                      have hfz188_2 := blk_frozen BK146.out 2
                      have hfz188_3 := blk_frozen BK146.out 3
                      have hfz188_4 := blk_frozen BK146.out 4
                      try go_wp2
                      refine bodyPost_ret (results_cell_row rfl _ _ gb146 36 #[.int .i64 2, .bool false, .string (⟨#[]⟩ : ByteArray), .string (⟨#[]⟩ : ByteArray), .bool false] (0, 0) _ rfl zq3 Tryd.underlying36 rfl zq17) rfl ?_
                      exact ⟨zq7, zq6⟩
             ·rw [if_neg c71] at H
              exact absurd H zq119
            ·rw [if_neg c70] at H
             exact absurd H zq119
           ·rw [if_neg c69] at H
            have c69b0 : decide (x15_3 < (t165.length : Int)) = false := decide_eq_false c69
            clear c69
            simp only [Option.some.injEq, Prod.mk.injEq] at H
            obtain ⟨rfl, rfl, rfl, rfl, rfl⟩ := H
            obtain ⟨Ao189, co189, eo189⟩ := Kd.R_slice HO_14.out
            subst eo189
            have hnb190 := NB162_145.out
            have hnc190 := NB145_162.out
            have hnb191 := NB162_146.out
            have hnc191 := NB146_162.out
            have hcz192_0 : wr.cell? ⟨gb162, 0, none⟩ = some (.int .i64 2) := (blk_cell BK162.out 0).trans rfl
            have hcz192_1 : wr.cell? ⟨gb162, 1, none⟩ = some (.bool false) := (blk_cell BK162.out 1).trans rfl
            have hcz192_2 : wr.cell? ⟨gb162, 2, none⟩ = some (.string (⟨#[]⟩ : ByteArray)) := (blk_cell BK162.out 2).trans rfl
            have hcz192_3 : wr.cell? ⟨gb162, 3, none⟩ = some (.string (⟨#[]⟩ : ByteArray)) := (blk_cell BK162.out 3).trans rfl
            have hcz192_4 : wr.cell? ⟨gb162, 4, none⟩ = some (.bool false) := (blk_cell BK162.out 4).trans rfl
            have hfz192_0 := blk_frozen BK162.out 0
            have hfz192_1 := blk_frozen BK162.out 1
            have hfz192_2 := blk_frozen BK162.out 2
            have hfz192_3 := blk_frozen BK162.out 3
            have hfz192_4 := blk_frozen BK162.out 4
            have hnb193 := NB146_145.out
            have hnc193 := NB145_146.out
            have hcz194_0 : wr.cell? ⟨gb146, 0, none⟩ = some (.int .i64 x147000_3) := (blk_cell BK146.out 0).trans rfl
            have hcz194_1 : wr.cell? ⟨gb146, 1, none⟩ = some (.bool x147001_3) := (blk_cell BK146.out 1).trans rfl
            have hcz194_2 : wr.cell? ⟨gb146, 2, none⟩ = some (.string x147002_3) := (blk_cell BK146.out 2).trans rfl
            have hcz194_3 : wr.cell? ⟨gb146, 3, none⟩ = some (.string x147003_3) := (blk_cell BK146.out 3).trans rfl
            have hcz194_4 : wr.cell? ⟨gb146, 4, none⟩ = some (.bool x147004_3) := (blk_cell BK146.out 4).trans rfl
            have hfz194_0 := blk_frozen BK146.out 0
            have hfz194_1 := blk_frozen BK146.out 1
            have hfz194_2 := blk_frozen BK146.out 2
            have hfz194_3 := blk_frozen BK146.out 3
            have hfz194_4 := blk_frozen BK146.out 4
            go_wp2
            refine bodyPost_ret (results_cell_row rfl _ _ gb146 36 #[.int .i64 2, .bool false, .string (⟨#[]⟩ : ByteArray), .string (⟨#[]⟩ : ByteArray), .bool false] (0, 0) _ rfl zq3 Tryd.underlying36 rfl zq17) rfl ?_
            exact ⟨zq7, zq20⟩
        ·rw [if_neg c58] at H
         have c58b0 : (t164.toList == a0.toList) = false := beq_eq_false_iff_ne.mpr c58
         have c58b1 : (t164.toList != a0.toList) = true := bne_iff_ne.mpr c58
         simp only [Option.some.injEq, Prod.mk.injEq] at H
         obtain ⟨rfl, rfl, rfl, rfl, rfl⟩ := H
         have hnb195 := NB145_146.out
         have hnc195 := NB146_145.out
         have hcz196_0 : wr.cell? ⟨gb145, 0, none⟩ = some (.slice A2_0 l2_0.length c2_0) := (blk_cell BK145.out 0).trans rfl
         have hcz196_1 : wr.cell? ⟨gb145, 1, none⟩ = some (.bool a2_1) := (blk_cell BK145.out 1).trans rfl
         have hcz196_2 : wr.cell? ⟨gb145, 2, none⟩ = some (.string a2_2) := (blk_cell BK145.out 2).trans rfl
         have hfz196_0 := blk_frozen BK145.out 0
         have hfz196_1 := blk_frozen BK145.out 1
         have hfz196_2 := blk_frozen BK145.out 2
         go_wp2_with (first | ((with_reducible refine gate_dst (N := 13) rfl ?_); (try (refine gate_guard zq105 ?_; dsimp only)); refine box_event ?hg (N := 13) ?hd (cs := #[.int .i64 0, .bool false, .string (⟨#[]⟩ : ByteArray), .string (⟨#[]⟩ : ByteArray), .bool false]) (t := 36) ?hr ?_; (case hd => rfl); (case hg => rfl); (case hr => first | (go_simp; done) | (go_simp; rfl)); intro gb162 hg w197 hbox hb; have n0_ := AZ.mk (Kd.S_below zq22 hb); have n1_ := AZ.mk (blk_below (g := gb145) (o := .cells #[.slice A2_0 l2_0.length c2_0, .bool a2_1, .string a2_2] 38 (0, 0)) zq9 hb); have n2_ := AZ.mk (blk_below (g := gb146) (o := .cells #[.int .i64 x147000_2, .bool x147001_2, .string x147002_2, .string x147003_2, .bool x147004_2] 36 (0, 0)) zq12 hb); have n3_ := AZ.mk (below_step zq4 hb); have n4_ := AZ.mk (hbox); have n5_ := AZ.mk ((by rw [hg]; exact (below_size zq4) : w.heap.size ≤ gb162)); have n6_ := AZ.mk ((by rw [hg]; exact (below_size zq4) : w.heap.size ≤ gb162)); have n7_ := AZ.mk ((by rw [hg]; exact Nat.ne_of_lt (blk_lt (g := gb145) (o := .cells #[.slice A2_0 l2_0.length c2_0, .bool a2_1, .string a2_2] 38 (0, 0)) zq9) : gb145 ≠ gb162)); have n8_ := AZ.mk ((by rw [hg]; exact Nat.ne_of_gt (blk_lt (g := gb145) (o := .cells #[.slice A2_0 l2_0.length c2_0, .bool a2_1, .string a2_2] 38 (0, 0)) zq9) : gb162 ≠ gb145)); have n9_ := AZ.mk ((by rw [hg]; exact Nat.ne_of_lt (blk_lt (g := gb146) (o := .cells #[.int .i64 x147000_2, .bool x147001_2, .string x147002_2, .string x147003_2, .bool x147004_2] 36 (0, 0)) zq12) : gb146 ≠ gb162)); have n10_ := AZ.mk ((by rw [hg]; exact Nat.ne_of_gt (blk_lt (g := gb146) (o := .cells #[.int .i64 x147000_2, .bool x147001_2, .string x147002_2, .string x147003_2, .bool x147004_2] 36 (0, 0)) zq12) : gb162 ≠ gb146)); clear HO_9; clear BK145; clear BK146; clear HB; have HO_9 := n0_; have BK145 := n1_; have BK146 := n2_; have HB := n3_; have BK162 := n4_; have GW162 := n5_; have GE162 := n6_; have NB145_162 := n7_; have NB162_145 := n8_; have NB146_162 := n9_; have NB162_146 := n10_; clear n0_ n1_ n2_ n3_ n4_ n5_ n6_ n7_ n8_ n9_ n10_; clear hb hbox hg; have hnb198 := NB162_145.out; have hnc198 := NB145_162.out; have hnb199 := NB162_146.out; have hnc199 := NB146_162.out; have hcz200_0 : w197.cell? ⟨gb162, 0, none⟩ = some (.int .i64 0) := (blk_cell BK162.out 0).trans rfl; have hcz200_1 : w197.cell? ⟨gb162, 1, none⟩ = some (.bool false) := (blk_cell BK162.out 1).trans rfl; have hcz200_2 : w197.cell? ⟨gb162, 2, none⟩ = some (.string (⟨#[]⟩ : ByteArray)) := (blk_cell BK162.out 2).trans rfl; have hcz200_3 : w197.cell? ⟨gb162, 3, none⟩ = some (.string (⟨#[]⟩ : ByteArray)) := (blk_cell BK162.out 3).trans rfl; have hcz200_4 : w197.cell? ⟨gb162, 4, none⟩ = some (.bool false) := (blk_cell BK162.out 4).trans rfl; have hfz200_0 := blk_frozen BK162.out 0; have hfz200_1 := blk_frozen BK162.out 1; have hfz200_2 := blk_frozen BK162.out 2; have hfz200_3 := blk_frozen BK162.out 3; have hfz200_4 := blk_frozen BK162.out 4; have hcz201_0 : w197.cell? ⟨gb145, 0, none⟩ = some (.slice A2_0 l2_0.length c2_0) := (blk_cell BK145.out 0).trans rfl; have hcz201_1 : w197.cell? ⟨gb145, 1, none⟩ = some (.bool a2_1) := (blk_cell BK145.out 1).trans rfl; have hcz201_2 : w197.cell? ⟨gb145, 2, none⟩ = some (.string a2_2) := (blk_cell BK145.out 2).trans rfl; have hfz201_0 := blk_frozen BK145.out 0; have hfz201_1 := blk_frozen BK145.out 1; have hfz201_2 := blk_frozen BK145.out 2; have p163 : 0 ≤ (0 : Int) := zq94; have q163 : 0 < (l2_0.length : Int) := of_decide_eq_true zq1; obtain ⟨ad163, e163, hx163_0⟩ := Kd.at_string HR2_0.out 0 p163 q163; cases e163; have qi163 : (0 < l2_0.length) = True := eq_true zq94; (try rw [show ((0 : Int)).toNat = 0 from rfl] at hx163_0); (try rw [Addr.add_zero'] at hx163_0); have hn163_0 : ad163.block ≠ gb162 := Nat.ne_of_lt (Nat.lt_of_lt_of_le zq70 GW162.out); have hn163_1 : ad163.block ≠ gb162 := Nat.ne_of_lt (Nat.lt_of_lt_of_le zq70 GW162.out); have hn163_2 : ad163.block ≠ gb162 := Nat.ne_of_lt (Nat.lt_of_lt_of_le zq70 GW162.out); have hn163_3 : ad163.block ≠ gb162 := Nat.ne_of_lt (Nat.lt_of_lt_of_le zq70 GW162.out); have hn163_4 : ad163.block ≠ gb162 := Nat.ne_of_lt (Nat.lt_of_lt_of_le zq70 GW162.out); replace hx163_0 := (HB.out.cell (World.block_lt_of_cell? w _ hx163_0)).trans hx163_0; replace hx163_0 := (cell_far (p := ⟨gb162, 0, none⟩) zq138 (.int .i64 2)).trans hx163_0; replace hx163_0 := (cell_far (p := ⟨gb162, 1, none⟩) zq137 (.bool false)).trans hx163_0; replace hx163_0 := (cell_far (p := ⟨gb162, 2, none⟩) zq136 (.string (⟨#[]⟩ : ByteArray))).trans hx163_0; replace hx163_0 := (cell_far (p := ⟨gb162, 3, none⟩) zq135 (.string (⟨#[]⟩ : ByteArray))).trans hx163_0; replace hx163_0 := (cell_far (p := ⟨gb162, 4, none⟩) zq134 (.bool false)).trans hx163_0; clear hn163_0; clear hn163_1; clear hn163_2; clear hn163_3; clear hn163_4; replace p163 := eq_true p163; replace q163 := eq_true q163) | ((with_reducible refine gate_callee (f := 41) rfl ?_); refine goesL_ (some 90) rfl rfl Tryd.func41 zq17 rfl #[.string (rdOf ByteArray.empty l2_0 0), .int .i64 a3] rfl zq2 ?_; (with_reducible refine (spec_Sum.calls k2 (rdOf ByteArray.empty l2_0 0) a3 t164 _ A57.out).mono ?_); rintro e w202 ⟨rfl, hb⟩; refine ⟨_, rfl, ?_⟩; have n0_ := AZ.mk (Kd.S_below zq81 hb); have n1_ := AZ.mk (blk_below (g := gb145) (o := .cells #[.slice (some ad163) l2_0.length c2_0, .bool a2_1, .string a2_2] 38 (0, 0)) zq68 hb); have n2_ := AZ.mk (blk_below (g := gb146) (o := .cells #[.int .i64 x147000_2, .bool x147001_2, .string x147002_2, .string x147003_2, .bool x147004_2] 36 (0, 0)) zq67 hb); have n3_ := AZ.mk (blk_below (g := gb162) (o := .cells #[.int .i64 2, .bool false, .string (⟨#[]⟩ : ByteArray), .string (⟨#[]⟩ : ByteArray), .bool false] 36 (0, 0)) zq47 hb); have n4_ := AZ.mk (below_step zq20 hb); clear HO_9; clear BK145; clear BK146; clear BK162; clear HB; have HO_9 := n0_; have BK145 := n1_; have BK146 := n2_; have BK162 := n3_; have HB := n4_; clear n0_ n1_ n2_ n3_ n4_; (try clear hb); (try clear hb2); (try clear hk); (try clear hi); have hcz203_0 : w202.cell? ⟨gb162, 0, none⟩ = some (.int .i64 2) := (blk_cell BK162.out 0).trans rfl; have hcz203_1 : w202.cell? ⟨gb162, 1, none⟩ = some (.bool false) := (blk_cell BK162.out 1).trans rfl; have hcz203_2 : w202.cell? ⟨gb162, 2, none⟩ = some (.string (⟨#[]⟩ : ByteArray)) := (blk_cell BK162.out 2).trans rfl; have hcz203_3 : w202.cell? ⟨gb162, 3, none⟩ = some (.string (⟨#[]⟩ : ByteArray)) := (blk_cell BK162.out 3).trans rfl; have hcz203_4 : w202.cell? ⟨gb162, 4, none⟩ = some (.bool false) := (blk_cell BK162.out 4).trans rfl; have hfz203_0 := blk_frozen BK162.out 0; have hfz203_1 := blk_frozen BK162.out 1; have hfz203_2 := blk_frozen BK162.out 2; have hfz203_3 := blk_frozen BK162.out 3; have hfz203_4 := blk_frozen BK162.out 4; have hcz204_0 : w202.cell? ⟨gb146, 0, none⟩ = some (.int .i64 x147000_2) := (blk_cell BK146.out 0).trans rfl; have hcz204_1 : w202.cell? ⟨gb146, 1, none⟩ = some (.bool x147001_2) := (blk_cell BK146.out 1).trans rfl; have hcz204_2 : w202.cell? ⟨gb146, 2, none⟩ = some (.string x147002_2) := (blk_cell BK146.out 2).trans rfl; have hcz204_3 : w202.cell? ⟨gb146, 3, none⟩ = some (.string x147003_2) := (blk_cell BK146.out 3).trans rfl; have hcz204_4 : w202.cell? ⟨gb146, 4, none⟩ = some (.bool x147004_2) := (blk_cell BK146.out 4).trans rfl; have hfz204_0 := blk_frozen BK146.out 0; have hfz204_1 := blk_frozen BK146.out 1; have hfz204_2 := blk_frozen BK146.out 2; have hfz204_3 := blk_frozen BK146.out 3; have hfz204_4 := blk_frozen BK146.out 4))
         refine bodyPost_ret (results_cell_row rfl _ _ gb146 36 #[.int .i64 2, .bool false, .string (⟨#[]⟩ : ByteArray), .string (⟨#[]⟩ : ByteArray), .bool false] (0, 0) _ rfl (by (with_reducible repeat (first | refine blk_drewN ?_ _ | refine blk_drew ?_ | refine blk_alloc ?_ _)); refine blk_put (cs := #[.int .i64 2, .bool false, .string (⟨#[]⟩ : ByteArray), .string (⟨#[]⟩ : ByteArray), .bool x147004_2]) ?_ 4 _ rfl; (with_reducible repeat (first | refine blk_drewN ?_ _ | refine blk_drew ?_ | refine blk_alloc ?_ _)); refine blk_put (cs := #[.int .i64 2, .bool false, .string (⟨#[]⟩ : ByteArray), .string x147003_2, .bool x147004_2]) ?_ 3 _ rfl; (with_reducible repeat (first | refine blk_drewN ?_ _ | refine blk_drew ?_ | refine blk_alloc ?_ _)); refine blk_put (cs := #[.int .i64 2, .bool false, .string x147002_2, .string x147003_2, .bool x147004_2]) ?_ 2 _ rfl; (with_reducible repeat (first | refine blk_drewN ?_ _ | refine blk_drew ?_ | refine blk_alloc ?_ _)); refine blk_put (cs := #[.int .i64 2, .bool x147001_2, .string x147002_2, .string x147003_2, .bool x147004_2]) ?_ 1 _ rfl; (with_reducible repeat (first | refine blk_drewN ?_ _ | refine blk_drew ?_ | refine blk_alloc ?_ _)); refine blk_put (cs := #[.int .i64 x147000_2, .bool x147001_2, .string x147002_2, .string x147003_2, .bool x147004_2]) ?_ 0 _ rfl; (with_reducible repeat (first | refine blk_drewN ?_ _ | refine blk_drew ?_ | refine blk_alloc ?_ _)); exact BK146.out) Tryd.underlying36 rfl zq17) rfl ?_
         exact ⟨zq7, zq20⟩
       ·rw [if_neg c56] at H
        exact absurd H zq119
end Go.Proofs.YtgjipjffpodjlaaDoor.K
