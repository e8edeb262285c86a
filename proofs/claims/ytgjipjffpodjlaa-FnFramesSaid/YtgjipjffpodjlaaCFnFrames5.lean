import Derived.Test.YtgjipjffpodjlaaCFnFrames3
import Derived.Test.YtgjipjffpodjlaaCFnFrames4
namespace Go.Proofs.Ytgjipjffpodjlaa.K
open Go.RowKit Go.Proofs.YtgjipjffpodjlaaW.PrintWords Go.Proofs.YtgjipjffpodjlaaW.PrintLast Go.Proofs.YtgjipjffpodjlaaW.PrintMore
attribute [local go_sem] max2_int min2_int max_two min_two max_three min_three max_four min_four   
set_option linter.unusedVariables false
set_option linter.unusedSimpArgs false
def spec_l1Text.l0 : Nat → ByteArray → Int → List Int → Int → Option (ByteArray × Int)
 | 0, _, _, _, _ => none
 | k + 1, x3, x4, x1000, x1001 => if x4 > 0 then ((spec_l1Rd_pick.f k x1000 x1001 4).bind fun bt167 => (if 0 ≤ bt167.1 then (if bt167.1 ≤ 4 then (if 0 ≤ 1 then (if 1 ≤ (((⟨#[97, 98, 99, 100]⟩ : ByteArray).extract (bt167.1 : Int).toNat (⟨#[97, 98, 99, 100]⟩ : ByteArray).size).size : Int) then (if x3.size + (((⟨#[97, 98, 99, 100]⟩ : ByteArray).extract (bt167.1 : Int).toNat (⟨#[97, 98, 99, 100]⟩ : ByteArray).size).extract 0 1).size ≤ 9223372036854775807 then (if (x3 ++ (((⟨#[97, 98, 99, 100]⟩ : ByteArray).extract (bt167.1 : Int).toNat (⟨#[97, 98, 99, 100]⟩ : ByteArray).size).extract 0 1)).size + 1 ≤ 9223372036854775807 then (spec_l1Text.l0 k ((x3 ++ (((⟨#[97, 98, 99, 100]⟩ : ByteArray).extract (bt167.1 : Int).toNat (⟨#[97, 98, 99, 100]⟩ : ByteArray).size).extract 0 1)) ++ (⟨#[10]⟩ : ByteArray)) (wrap64 (x4 - 1)) x1000 bt167.2) else (none)) else (none)) else (none)) else (none)) else (none)) else (none))) else (some (x3, x1001))
def spec_l1Text.f (k : Nat) (s0_0 : List Int) (s0_1 : Int) : Option (ByteArray × Int) := (spec_l1Rd_pick.f k s0_0 s0_1 9).bind fun bt163 => (if bt163.1 = 0 then (some ((⟨#[]⟩ : ByteArray), bt163.2)) else (if bt163.1 = 1 then (some ((⟨#[255, 0]⟩ : ByteArray), bt163.2)) else (if bt163.1 = 2 then (some ((⟨#[110, 111, 32, 110, 101, 119, 108, 105, 110, 101]⟩ : ByteArray), bt163.2)) else ((spec_l1Rd_pick.f k s0_0 bt163.2 7).bind fun bt165 => (spec_l1Text.l0 k (⟨#[]⟩ : ByteArray) bt165.1 s0_0 bt165.2)))))
theorem spec_l1Text.mono_l : ∀ k, (∀ y0 y1 y2 y3, LeO (spec_l1Text.l0 k y0 y1 y2 y3) (spec_l1Text.l0 (k + 1) y0 y1 y2 y3))
 | 0 => fun _ _ _ _ r h => by simp [spec_l1Text.l0] at h
 | k + 1 => by
  have ih0 := spec_l1Text.mono_l k
  ·intro y0 y1 y2 y3
   unfold spec_l1Text.l0
   repeat' first
   | (with_reducible exact ih0 _ _ _ _)
   | (with_reducible exact spec_l1Rd_pick.mono _ _ _ _)
   | (with_reducible exact LeO.refl _)
   | (with_reducible exact LeO.none _)
   | (with_reducible refine LeO.ite ?_ ?_)
   | (with_reducible refine LeO.bind ?_ (fun _ => ?_))
   | exact ih0 _ _ _ _
   | exact spec_l1Rd_pick.mono _ _ _ _
   | exact LeO.none _
   | refine LeO.ite ?_ ?_
   | refine LeO.bind ?_ (fun _ => ?_)
theorem spec_l1Text.mono : ∀ a0 a1 k, LeO (spec_l1Text.f k a0 a1) (spec_l1Text.f (k + 1) a0 a1) := by
 intro a0 a1 k
 have ih0 := spec_l1Text.mono_l k
 unfold spec_l1Text.f
 repeat' first
   | (with_reducible exact ih0 _ _ _ _)
   | (with_reducible exact spec_l1Rd_pick.mono _ _ _ _)
   | (with_reducible exact LeO.refl _)
   | (with_reducible exact LeO.none _)
   | (with_reducible refine LeO.ite ?_ ?_)
   | (with_reducible refine LeO.bind ?_ (fun _ => ?_))
   | exact ih0 _ _ _ _
   | exact spec_l1Rd_pick.mono _ _ _ _
   | exact LeO.none _
   | refine LeO.ite ?_ ?_
   | refine LeO.bind ?_ (fun _ => ?_)
set_option maxHeartbeats 2000000 in
set_option maxRecDepth 100000 in
theorem spec_l1Text.calls (k : Nat) (g : Nat) (s0_0 : List Int) (s0_1 : Int) (r1 : ByteArray) (r2 : Int) (w0 w : World) (hI : IsS98 w0 w g s0_0 s0_1) (hB : Below w0.heap.size w0 w) (h : spec_l1Text.f k s0_0 s0_1 = some (r1, r2)) :
  Calls Try.prog 60 #[.pointer (some ⟨g, 0, none⟩)] w fun e w' => e = .returned (.string r1) ∧ IsS98 w0 w' g s0_0 r2 ∧ Below w0.heap.size w0 w' ∧ KeepBut w w' g none := by
 have HI0 := Aside0.mk hI
 have HK := Aside0.mk (KeepBut.refl w g none)
 have HL := Aside0.mk hB.size
 clear hI
 have HW0 := Aside0.mk hB.size
 have HB := Aside0.mk hB
 clear hB
 have H : ((spec_l1Rd_pick.f k s0_0 s0_1 9).bind fun bt163 => (if bt163.1 = 0 then (some ((⟨#[]⟩ : ByteArray), bt163.2)) else (if bt163.1 = 1 then (some ((⟨#[255, 0]⟩ : ByteArray), bt163.2)) else (if bt163.1 = 2 then (some ((⟨#[110, 111, 32, 110, 101, 119, 108, 105, 110, 101]⟩ : ByteArray), bt163.2)) else ((spec_l1Rd_pick.f k s0_0 bt163.2 7).bind fun bt165 => (spec_l1Text.l0 k (⟨#[]⟩ : ByteArray) bt165.1 s0_0 bt165.2)))))) = some (r1, r2) := h
 clear h
 replace H := Option.bind_eq_some_iff.mp H
 obtain ⟨⟨t163, t164⟩, A20, H⟩ := H
 try dsimp only at H
 have A2 := Aside0.mk A20
 clear A20
 by_cases c3 : t163 = 0
 ·rw [if_pos c3] at H
  have c3b0 : (t163 == 0) = true := beq_iff_eq.mpr c3
  have c3b1 : (t163 != 0) = false := bne_eq_false_iff_eq.mpr c3
  clear c3
  simp only [Option.some.injEq, Prod.mk.injEq] at H
  obtain ⟨rfl, rfl⟩ := H
  go_enter Try.func60, Try.ntmps60
  go_wp2_with (first | ((with_reducible refine gate_callee (f := 29) rfl ?_); refine goesL_ (some 6) rfl rfl Try.func29 zq19 rfl #[.pointer (some ⟨g, 0, none⟩), .int .i64 9] rfl zq0 ?_; (with_reducible refine (spec_l1Rd_pick.calls k g s0_0 s0_1 9 t163 t164 w0 _ ?side1 ?side2 A2.out).mono ?_); (case side1 => repeat (first | (with_reducible first | exact HI0.out | apply IsS98.alloc | apply IsS98.drewN | apply IsS98.drew | apply IsS98.set_1) | exact HI0.out)); (case side2 => repeat (first | (with_reducible first | exact HB.out | apply below_alloc | apply pw_below_drewN | apply below_drew1 | refine below_set ?_ (IsS98.ge HI0.out)) | exact HB.out)); rintro e w4 ⟨rfl, hi, hb, hk⟩; refine ⟨_, rfl, ?_⟩; have n0_ := Aside0.mk (KeepBut.trans zq3 hk (.inl rfl)); have n1_ := Aside0.mk (hb); have n2_ := Aside0.mk (hi); clear HK; clear HB; clear HI0; have HK := n0_; have HB := n1_; have HI0 := n2_; clear n0_ n1_ n2_; (try clear hb); (try clear hb2); (try clear hk); (try clear hi)))
  go_ret
  exact ⟨zq8, zq4, zq6, zq3⟩
 ·rw [if_neg c3] at H
  have c3b0 : (t163 == 0) = false := beq_eq_false_iff_ne.mpr c3
  have c3b1 : (t163 != 0) = true := bne_iff_ne.mpr c3
  by_cases c5 : t163 = 1
  ·rw [if_pos c5] at H
   have c5b0 : (t163 == 1) = true := beq_iff_eq.mpr c5
   have c5b1 : (t163 != 1) = false := bne_eq_false_iff_eq.mpr c5
   clear c5
   simp only [Option.some.injEq, Prod.mk.injEq] at H
   obtain ⟨rfl, rfl⟩ := H
   go_enter Try.func60, Try.ntmps60
   go_wp2_with (first | ((with_reducible refine gate_callee (f := 29) rfl ?_); refine goesL_ (some 6) rfl rfl Try.func29 zq19 rfl #[.pointer (some ⟨g, 0, none⟩), .int .i64 9] rfl zq0 ?_; (with_reducible refine (spec_l1Rd_pick.calls k g s0_0 s0_1 9 t163 t164 w0 _ ?side1 ?side2 A2.out).mono ?_); (case side1 => repeat (first | (with_reducible first | exact HI0.out | apply IsS98.alloc | apply IsS98.drewN | apply IsS98.drew | apply IsS98.set_1) | exact HI0.out)); (case side2 => repeat (first | (with_reducible first | exact HB.out | apply below_alloc | apply pw_below_drewN | apply below_drew1 | refine below_set ?_ (IsS98.ge HI0.out)) | exact HB.out)); rintro e w6 ⟨rfl, hi, hb, hk⟩; refine ⟨_, rfl, ?_⟩; have n0_ := Aside0.mk (KeepBut.trans zq3 hk (.inl rfl)); have n1_ := Aside0.mk (hb); have n2_ := Aside0.mk (hi); clear HK; clear HB; clear HI0; have HK := n0_; have HB := n1_; have HI0 := n2_; clear n0_ n1_ n2_; (try clear hb); (try clear hb2); (try clear hk); (try clear hi)))
   go_ret
   exact ⟨zq8, zq4, zq6, zq3⟩
  ·rw [if_neg c5] at H
   have c5b0 : (t163 == 1) = false := beq_eq_false_iff_ne.mpr c5
   have c5b1 : (t163 != 1) = true := bne_iff_ne.mpr c5
   by_cases c7 : t163 = 2
   ·rw [if_pos c7] at H
    have c7b0 : (t163 == 2) = true := beq_iff_eq.mpr c7
    have c7b1 : (t163 != 2) = false := bne_eq_false_iff_eq.mpr c7
    clear c7
    simp only [Option.some.injEq, Prod.mk.injEq] at H
    obtain ⟨rfl, rfl⟩ := H
    go_enter Try.func60, Try.ntmps60
    go_wp2_with (first | ((with_reducible refine gate_callee (f := 29) rfl ?_); refine goesL_ (some 6) rfl rfl Try.func29 zq19 rfl #[.pointer (some ⟨g, 0, none⟩), .int .i64 9] rfl zq0 ?_; (with_reducible refine (spec_l1Rd_pick.calls k g s0_0 s0_1 9 t163 t164 w0 _ ?side1 ?side2 A2.out).mono ?_); (case side1 => repeat (first | (with_reducible first | exact HI0.out | apply IsS98.alloc | apply IsS98.drewN | apply IsS98.drew | apply IsS98.set_1) | exact HI0.out)); (case side2 => repeat (first | (with_reducible first | exact HB.out | apply below_alloc | apply pw_below_drewN | apply below_drew1 | refine below_set ?_ (IsS98.ge HI0.out)) | exact HB.out)); rintro e w8 ⟨rfl, hi, hb, hk⟩; refine ⟨_, rfl, ?_⟩; have n0_ := Aside0.mk (KeepBut.trans zq3 hk (.inl rfl)); have n1_ := Aside0.mk (hb); have n2_ := Aside0.mk (hi); clear HK; clear HB; clear HI0; have HK := n0_; have HB := n1_; have HI0 := n2_; clear n0_ n1_ n2_; (try clear hb); (try clear hb2); (try clear hk); (try clear hi)))
    go_ret
    exact ⟨zq8, zq4, zq6, zq3⟩
   ·rw [if_neg c7] at H
    have c7b0 : (t163 == 2) = false := beq_eq_false_iff_ne.mpr c7
    have c7b1 : (t163 != 2) = true := bne_iff_ne.mpr c7
    replace H := Option.bind_eq_some_iff.mp H
    obtain ⟨⟨t165, t166⟩, A90, H⟩ := H
    try dsimp only at H
    have A9 := Aside0.mk A90
    clear A90
    have H' := Aside0.mk H
    clear H
    go_enter Try.func60, Try.ntmps60
    go_wp2_with (first | ((with_reducible refine gate_callee (f := 29) rfl ?_); refine goesL_ (some 6) rfl rfl Try.func29 zq19 rfl #[.pointer (some ⟨g, 0, none⟩), .int .i64 9] rfl zq0 ?_; (with_reducible refine (spec_l1Rd_pick.calls k g s0_0 s0_1 9 t163 t164 w0 _ ?side1 ?side2 A2.out).mono ?_); (case side1 => repeat (first | (with_reducible first | exact HI0.out | apply IsS98.alloc | apply IsS98.drewN | apply IsS98.drew | apply IsS98.set_1) | exact HI0.out)); (case side2 => repeat (first | (with_reducible first | exact HB.out | apply below_alloc | apply pw_below_drewN | apply below_drew1 | refine below_set ?_ (IsS98.ge HI0.out)) | exact HB.out)); rintro e w10 ⟨rfl, hi, hb, hk⟩; refine ⟨_, rfl, ?_⟩; have n0_ := Aside0.mk (KeepBut.trans zq3 hk (.inl rfl)); have n1_ := Aside0.mk (hb); have n2_ := Aside0.mk (hi); clear HK; clear HB; clear HI0; have HK := n0_; have HB := n1_; have HI0 := n2_; clear n0_ n1_ n2_; (try clear hb); (try clear hb2); (try clear hk); (try clear hi)) | ((with_reducible refine gate_callee (f := 29) rfl ?_); refine goesL_ (some 14) rfl rfl Try.func29 zq19 rfl #[.pointer (some ⟨g, 0, none⟩), .int .i64 7] rfl zq0 ?_; (with_reducible refine (spec_l1Rd_pick.calls k g s0_0 t164 7 t165 t166 w0 _ ?side1 ?side2 A9.out).mono ?_); (case side1 => repeat (first | (with_reducible first | exact HI0.out | apply IsS98.alloc | apply IsS98.drewN | apply IsS98.drew | apply IsS98.set_1) | exact HI0.out)); (case side2 => repeat (first | (with_reducible first | exact HB.out | apply below_alloc | apply pw_below_drewN | apply below_drew1 | refine below_set ?_ (IsS98.ge HI0.out)) | exact HB.out)); rintro e w11 ⟨rfl, hi, hb, hk⟩; refine ⟨_, rfl, ?_⟩; have n0_ := Aside0.mk (KeepBut.trans zq3 hk (.inl rfl)); have n1_ := Aside0.mk (hb); have n2_ := Aside0.mk (hi); clear HK; clear HB; clear HI0; have HK := n0_; have HB := n1_; have HI0 := n2_; clear n0_ n1_ n2_; (try clear hb); (try clear hb2); (try clear hk); (try clear hi)))
    go_loopg [3, 4] k (fun kq v3 v4 w' => ∃ (x3_1 : ByteArray) (x4_1 : Int) (x1001_1 : Int), v3 = .string x3_1 ∧ v4 = .int .i64 x4_1 ∧ Aside0 (spec_l1Text.l0 kq x3_1 x4_1 s0_0 x1001_1 = some (r1, r2)) ∧ Aside0 (kq ≤ k) ∧ Aside0 (IsS98 w0 w' g s0_0 x1001_1) ∧ Aside0 (KeepBut w w' g none) ∧ Aside0 (Below w0.heap.size w0 w'))
    case atStart => exact ⟨((⟨#[]⟩ : ByteArray)), (t165), (t166), zq22, zq22, H', ⟨Nat.le_refl _⟩, ⟨zq4⟩, ⟨zq3⟩, ⟨zq6⟩⟩
    case round =>
     clear H'
     try clear c2
     try clear p2
     try clear c3
     try clear c3b0
     try clear c3b1
     try clear c5
     try clear c5b0
     try clear c5b1
     try clear c6
     try clear c7
     try clear c7b0
     try clear c7b1
     obtain ⟨x3_1, x4_1, x1001_1, rfl, rfl, HA, HK1, HI0, HK, HB⟩ := hrel
     cases gk with
     | zero => exact absurd HA.out (by simp [spec_l1Text.l0])
     | succ k1 =>
      have H := HA.out
      clear HA
      simp only [spec_l1Text.l0] at H
      by_cases c12 : x4_1 > 0
      ·rw [if_pos c12] at H
       have c12b0 : decide (0 < x4_1) = true := decide_eq_true c12
       clear c12
       replace H := Option.bind_eq_some_iff.mp H
       obtain ⟨⟨t167, t168⟩, A130, H⟩ := H
       try dsimp only at H
       have A13 := Aside0.mk A130
       clear A130
       by_cases c14 : 0 ≤ t167
       ·rw [if_pos c14] at H
        have c14b0 := eq_true c14
        have c14b1 : decide (0 ≤ t167) = true := decide_eq_true c14
        clear c14
        by_cases c15 : t167 ≤ 4
        ·rw [if_pos c15] at H
         have c15b0 := eq_true c15
         have c15b1 : decide (t167 ≤ 4) = true := decide_eq_true c15
         clear c15
         by_cases c16 : 0 ≤ 1
         ·rw [if_pos c16] at H
          have c16b0 := eq_true c16
          have c16b1 : decide (0 ≤ 1) = true := decide_eq_true c16
          clear c16
          by_cases c17 : 1 ≤ (((⟨#[97, 98, 99, 100]⟩ : ByteArray).extract (t167 : Int).toNat (⟨#[97, 98, 99, 100]⟩ : ByteArray).size).size : Int)
          ·rw [if_pos c17] at H
           have c17b0 := eq_true c17
           have c17b1 : decide (1 ≤ (((⟨#[97, 98, 99, 100]⟩ : ByteArray).extract (t167 : Int).toNat (⟨#[97, 98, 99, 100]⟩ : ByteArray).size).size : Int)) = true := decide_eq_true c17
           clear c17
           by_cases c18 : x3_1.size + (((⟨#[97, 98, 99, 100]⟩ : ByteArray).extract (t167 : Int).toNat (⟨#[97, 98, 99, 100]⟩ : ByteArray).size).extract 0 1).size ≤ 9223372036854775807
           ·rw [if_pos c18] at H
            have c18b0 := eq_true c18
            have c18b1 : decide (x3_1.size + (((⟨#[97, 98, 99, 100]⟩ : ByteArray).extract (t167 : Int).toNat (⟨#[97, 98, 99, 100]⟩ : ByteArray).size).extract 0 1).size ≤ 9223372036854775807) = true := decide_eq_true c18
            try have c18b2 : (9223372036854775807 < x3_1.size + (((⟨#[97, 98, 99, 100]⟩ : ByteArray).extract (t167 : Int).toNat (⟨#[97, 98, 99, 100]⟩ : ByteArray).size).extract 0 1).size) = False := eq_false (Nat.not_lt.2 c18)
            by_cases c19 : (x3_1 ++ (((⟨#[97, 98, 99, 100]⟩ : ByteArray).extract (t167 : Int).toNat (⟨#[97, 98, 99, 100]⟩ : ByteArray).size).extract 0 1)).size + 1 ≤ 9223372036854775807
            ·rw [if_pos c19] at H
             have c19b0 := eq_true c19
             have c19b1 : decide ((x3_1 ++ (((⟨#[97, 98, 99, 100]⟩ : ByteArray).extract (t167 : Int).toNat (⟨#[97, 98, 99, 100]⟩ : ByteArray).size).extract 0 1)).size + 1 ≤ 9223372036854775807) = true := decide_eq_true c19
             try have c19b2 : (9223372036854775807 < (x3_1 ++ (((⟨#[97, 98, 99, 100]⟩ : ByteArray).extract (t167 : Int).toNat (⟨#[97, 98, 99, 100]⟩ : ByteArray).size).extract 0 1)).size + 1) = False := eq_false (Nat.not_lt.2 c19)
             have H' := Aside0.mk H
             clear H
             have f1_ : (1 ≤ ((4 - t167.toNat : Nat) : Int)) = True := eq_true (by have h_ := of_eq_true c17b0; rw [ByteArray.size_extract, show (⟨#[97, 98, 99, 100]⟩ : ByteArray).size = 4 from rfl] at h_; omega)
             have f2_ : (9223372036854775807 < x3_1.size + min 1 (4 - t167.toNat)) = False := eq_false (by have h_ := c18; rw [ByteArray.size_extract, ByteArray.size_extract, show (⟨#[97, 98, 99, 100]⟩ : ByteArray).size = 4 from rfl] at h_; omega)
             have f3_ : (9223372036854775807 < x3_1.size + min 1 (4 - t167.toNat) + 1) = False := eq_false (by have h_ := c19; rw [ByteArray.size_append, ByteArray.size_extract, ByteArray.size_extract, show (⟨#[97, 98, 99, 100]⟩ : ByteArray).size = 4 from rfl] at h_; omega)
             clear c17b0 c17b1 c18 c18b0 c18b1 c19 c19b0 c19b1
             try clear c18b2
             try clear c19b2
             go_wp2_with (first | ((with_reducible refine gate_callee (f := 29) rfl ?_); refine goesL_ (some 21) rfl rfl Try.func29 zq19 rfl #[.pointer (some ⟨g, 0, none⟩), .int .i64 4] rfl zq0 ?_; (with_reducible refine (spec_l1Rd_pick.calls k1 g s0_0 x1001_1 4 t167 t168 w0 _ ?side1 ?side2 A13.out).mono ?_); (case side1 => repeat (first | (with_reducible first | exact HI0.out | apply IsS98.alloc | apply IsS98.drewN | apply IsS98.drew | apply IsS98.set_1) | exact HI0.out)); (case side2 => repeat (first | (with_reducible first | exact HB.out | apply below_alloc | apply pw_below_drewN | apply below_drew1 | refine below_set ?_ (IsS98.ge HI0.out)) | exact HB.out)); rintro e w20 ⟨rfl, hi, hb, hk⟩; refine ⟨_, rfl, ?_⟩; have n0_ := Aside0.mk (KeepBut.trans zq3 hk (.inl rfl)); have n1_ := Aside0.mk (hb); have n2_ := Aside0.mk (hi); clear HK; clear HB; clear HI0; have HK := n0_; have HB := n1_; have HI0 := n2_; clear n0_ n1_ n2_; (try clear hb); (try clear hb2); (try clear hk); (try clear hi)))
             go_roundg k1
             case measure => have := HK1.out; omega
             case rel => exact ⟨((x3_1 ++ (((⟨#[97, 98, 99, 100]⟩ : ByteArray).extract (t167 : Int).toNat (⟨#[97, 98, 99, 100]⟩ : ByteArray).size).extract 0 1)) ++ (⟨#[10]⟩ : ByteArray)), (wrap64 (x4_1 - 1)), (t168), zq22, zq22, H', ⟨zq88⟩, ⟨zq4⟩, ⟨zq3⟩, ⟨zq6⟩⟩
            ·rw [if_neg c19] at H
             exact absurd H zq81
           ·rw [if_neg c18] at H
            exact absurd H zq81
          ·rw [if_neg c17] at H
           exact absurd H zq81
         ·rw [if_neg c16] at H
          exact absurd H zq81
        ·rw [if_neg c15] at H
         exact absurd H zq81
       ·rw [if_neg c14] at H
        exact absurd H zq81
      ·rw [if_neg c12] at H
       have c12b0 : decide (0 < x4_1) = false := decide_eq_false c12
       clear c12
       simp only [Option.some.injEq, Prod.mk.injEq] at H
       obtain ⟨rfl, rfl⟩ := H
       go_wp2
       go_ret
       exact ⟨zq8, zq4, zq6, zq3⟩
end Go.Proofs.Ytgjipjffpodjlaa.K
namespace Go.Proofs.Ytgjipjffpodjlaa.K
open Go.RowKit Go.Proofs.YtgjipjffpodjlaaW.PrintWords Go.Proofs.YtgjipjffpodjlaaW.PrintLast Go.Proofs.YtgjipjffpodjlaaW.PrintMore
attribute [local go_sem] max2_int min2_int max_two min_two max_three min_three max_four min_four   
set_option linter.unusedVariables false
set_option linter.unusedSimpArgs false
def spec_l3Payloads.l0 : Nat → List ByteArray → Int → List Int → Int → Option (List ByteArray × Int)
 | 0, _, _, _, _ => none
 | k + 1, x3, x4, x1000, x1001 => if x4 > 0 then ((spec_l1Rd_pick.f k x1000 x1001 8).bind fun bt174 => (if bt174.1 = 0 then ((some (([127, 128, 1000] : List Int) : List Int)).bind fun y176 => ((spec_l1Rd_pick.f k x1000 bt174.2 3).bind fun bt179 => (if 0 ≤ bt179.1 then (if bt179.1 < (y176.length : Int) then ((spec_l1Many.f k (⟨#[112]⟩ : ByteArray) (rd y176 bt179.1)).bind fun t182 => (if x3.length < 8796093022208 then (spec_l3Payloads.l0 k (x3 ++ [t182]) (wrap64 (x4 - 1)) x1000 bt179.2) else (none))) else (none)) else (none)))) else ((spec_l1Text.f k x1000 bt174.2).bind fun bt186 => (if 1 + bt186.1.size ≤ 9223372036854775807 then (if x3.length < 8796093022208 then (spec_l3Payloads.l0 k (x3 ++ [(⟨#[112]⟩ : ByteArray) ++ bt186.1]) (wrap64 (x4 - 1)) x1000 bt186.2) else (none)) else (none))))) else (some (x3, x1001))
def spec_l3Payloads.f (k : Nat) (s0_0 : List Int) (s0_1 : Int) : Option (List ByteArray × Int) := (spec_l1Rd_pick.f k s0_0 s0_1 6).bind fun bt172 => (spec_l3Payloads.l0 k (([] : List ByteArray)) bt172.1 s0_0 bt172.2)
theorem spec_l3Payloads.mono_l : ∀ k, (∀ y0 y1 y2 y3, LeO (spec_l3Payloads.l0 k y0 y1 y2 y3) (spec_l3Payloads.l0 (k + 1) y0 y1 y2 y3))
 | 0 => fun _ _ _ _ r h => by simp [spec_l3Payloads.l0] at h
 | k + 1 => by
  have ih0 := spec_l3Payloads.mono_l k
  ·intro y0 y1 y2 y3
   unfold spec_l3Payloads.l0
   repeat' first
   | (with_reducible exact ih0 _ _ _ _)
   | (with_reducible exact spec_l1Many.mono _ _ _)
   | (with_reducible exact spec_l1Rd_pick.mono _ _ _ _)
   | (with_reducible exact spec_l1Text.mono _ _ _)
   | (with_reducible exact LeO.refl _)
   | (with_reducible exact LeO.none _)
   | (with_reducible refine LeO.ite ?_ ?_)
   | (with_reducible refine LeO.bind ?_ (fun _ => ?_))
   | exact ih0 _ _ _ _
   | exact spec_l1Many.mono _ _ _
   | exact spec_l1Rd_pick.mono _ _ _ _
   | exact spec_l1Text.mono _ _ _
   | exact LeO.none _
   | refine LeO.ite ?_ ?_
   | refine LeO.bind ?_ (fun _ => ?_)
theorem spec_l3Payloads.mono : ∀ a0 a1 k, LeO (spec_l3Payloads.f k a0 a1) (spec_l3Payloads.f (k + 1) a0 a1) := by
 intro a0 a1 k
 have ih0 := spec_l3Payloads.mono_l k
 unfold spec_l3Payloads.f
 repeat' first
   | (with_reducible exact ih0 _ _ _ _)
   | (with_reducible exact spec_l1Many.mono _ _ _)
   | (with_reducible exact spec_l1Rd_pick.mono _ _ _ _)
   | (with_reducible exact spec_l1Text.mono _ _ _)
   | (with_reducible exact LeO.refl _)
   | (with_reducible exact LeO.none _)
   | (with_reducible refine LeO.ite ?_ ?_)
   | (with_reducible refine LeO.bind ?_ (fun _ => ?_))
   | exact ih0 _ _ _ _
   | exact spec_l1Many.mono _ _ _
   | exact spec_l1Rd_pick.mono _ _ _ _
   | exact spec_l1Text.mono _ _ _
   | exact LeO.none _
   | refine LeO.ite ?_ ?_
   | refine LeO.bind ?_ (fun _ => ?_)
set_option maxHeartbeats 2000000 in
set_option maxRecDepth 100000 in
theorem spec_l3Payloads.calls (k : Nat) (g : Nat) (s0_0 : List Int) (s0_1 : Int) (r1 : List ByteArray) (r2 : Int) (w0 w : World) (hI : IsS98 w0 w g s0_0 s0_1) (hB : Below w0.heap.size w0 w) (h : spec_l3Payloads.f k s0_0 s0_1 = some (r1, r2)) :
  Calls Try.prog 28 #[.pointer (some ⟨g, 0, none⟩)] w fun e w' => ∃ v0_ : Value, e = .returned (v0_) ∧ Kd.R Kd.string 9 w' w.heap.size (fun _ => True) v0_ r1 ∧ IsS98 w0 w' g s0_0 r2 ∧ Below w0.heap.size w0 w' ∧ KeepBut w w' g none := by
 have HI0 := Aside0.mk hI
 have HK := Aside0.mk (KeepBut.refl w g none)
 have HL := Aside0.mk hB.size
 clear hI
 have HW0 := Aside0.mk hB.size
 have HB := Aside0.mk hB
 clear hB
 have H : ((spec_l1Rd_pick.f k s0_0 s0_1 6).bind fun bt172 => (spec_l3Payloads.l0 k (([] : List ByteArray)) bt172.1 s0_0 bt172.2)) = some (r1, r2) := h
 clear h
 obtain ⟨y169, hy169⟩ : ∃ y_ : List ByteArray, y_ = (([] : List ByteArray)) := ⟨_, rfl⟩
 replace H : ((spec_l1Rd_pick.f k s0_0 s0_1 6).bind fun bt172 => (spec_l3Payloads.l0 k y169 bt172.1 s0_0 bt172.2)) = some (r1, r2) := by first | (rw [hy169]; with_reducible exact H) | (have H2_ := (Option.bind_some _ _).symm.trans H; rw [hy169]; with_reducible exact H2_) | (have H2_ := (Option.bind_some _ _).symm.trans H; with_reducible exact H2_) | with_reducible exact H | (rw [hy169]; exact H) | exact H
 have Ny169 := Aside0.mk hy169
 clear hy169
 replace H := Option.bind_eq_some_iff.mp H
 obtain ⟨⟨t172, t173⟩, A20, H⟩ := H
 try dsimp only at H
 have A2 := Aside0.mk A20
 clear A20
 have H' := Aside0.mk H
 clear H
 go_enter Try.func28, Try.ntmps28
 go_wp2_with (first | ((with_reducible refine gate_dst (N := 5) rfl ?_); refine Kd.R_lit Kd.string _ 9 ?hg (N := 5) ?hd (xs := ([] : List ByteArray)) (inner := []) (ok := fun _ => True) (okp := fun _ => True) ?hr ?hp (fun _ hk => hk) trivial (Below.refl _ _) (Nat.le_refl _) zq81 ?_; (case hd => rfl); (case hg => rfl); (case hr => first | (go_simp; done) | (go_simp; rfl)); (case hp => exact (Reps.none _ _)); intro v170 w3 ho4 hb hg_ hnew_; clear hg_ hnew_; (first | rw [← Ny169.out] at ho4 | (simp only [Int.reduceToNat] at ho4; rw [← Ny169.out] at ho4)); have n0_ := Aside0.mk (Kd.R_lower ho4 (keep_size (w := w) (g := g) (row := none) zq3)); have n1_ := Aside0.mk (IsS98.below zq4 hb); have n2_ := Aside0.mk (KeepBut.trans zq3 (KeepBut.of_below hb g none) (.inl rfl)); have n3_ := Aside0.mk (below_step zq6 hb); clear HI0; clear HK; clear HB; have HO171 := n0_; have HI0 := n1_; have HK := n2_; have HB := n3_; clear n0_ n1_ n2_ n3_; clear hb ho4) | ((with_reducible refine gate_callee (f := 29) rfl ?_); refine goesL_ (some 7) rfl rfl Try.func29 zq19 rfl #[.pointer (some ⟨g, 0, none⟩), .int .i64 6] rfl zq0 ?_; (with_reducible refine (spec_l1Rd_pick.calls k g s0_0 s0_1 6 t172 t173 w0 _ ?side1 ?side2 A2.out).mono ?_); (case side1 => repeat (first | (with_reducible first | exact HI0.out | apply IsS98.alloc | apply IsS98.drewN | apply IsS98.drew | apply IsS98.set_1) | exact HI0.out)); (case side2 => repeat (first | (with_reducible first | exact HB.out | apply below_alloc | apply pw_below_drewN | apply below_drew1 | refine below_set ?_ (IsS98.ge HI0.out)) | exact HB.out)); rintro e w5 ⟨rfl, hi, hb, hk⟩; refine ⟨_, rfl, ?_⟩; have n0_ := Aside0.mk (Kd.R_mono (Kd.R_keep (IsS98.apart (show IsS98 w0 _ g s0_0 s0_1 from zq4) (by (with_reducible repeat (first | apply Kd.R_alloc | apply Kd.R_drewN | apply Kd.R_drew)); exact HO171.out) zq60) hk (fun _ h => h.2)) (fun _ h => h.1)); have n1_ := Aside0.mk (KeepBut.trans zq3 hk (.inl rfl)); have n2_ := Aside0.mk (hb); have n3_ := Aside0.mk (hi); clear HO171; clear HK; clear HB; clear HI0; have HO171 := n0_; have HK := n1_; have HB := n2_; have HI0 := n3_; clear n0_ n1_ n2_ n3_; (try clear hb); (try clear hb2); (try clear hk); (try clear hi)))
 go_loopg [3, 4] k (fun kq v3 v4 w' => ∃ (x3_1 : List ByteArray) (x4_1 : Int) (x1001_1 : Int), v4 = .int .i64 x4_1 ∧ Aside0 (spec_l3Payloads.l0 kq x3_1 x4_1 s0_0 x1001_1 = some (r1, r2)) ∧ Aside0 (kq ≤ k) ∧ Aside0 (Kd.R Kd.string 9 w' w.heap.size (fun _ => True) v3 x3_1) ∧ Aside0 (IsS98 w0 w' g s0_0 x1001_1) ∧ Aside0 (KeepBut w w' g none) ∧ Aside0 (Below w0.heap.size w0 w'))
 case atStart => exact ⟨(y169), (t172), (t173), zq22, H', ⟨Nat.le_refl _⟩, ⟨by (with_reducible repeat (first | apply Kd.R_alloc | apply Kd.R_drewN | apply Kd.R_drew)); exact HO171.out⟩, ⟨zq4⟩, ⟨zq3⟩, ⟨zq6⟩⟩
 case round =>
  clear H'
  try clear c2
  try clear p2
  obtain ⟨x3_1, x4_1, x1001_1, rfl, HA, HK1, HO_3, HI0, HK, HB⟩ := hrel
  cases gk with
  | zero => exact absurd HA.out (by simp [spec_l3Payloads.l0])
  | succ k1 =>
   have H := HA.out
   clear HA
   simp only [spec_l3Payloads.l0] at H
   by_cases c6 : x4_1 > 0
   ·rw [if_pos c6] at H
    have c6b0 : decide (0 < x4_1) = true := decide_eq_true c6
    clear c6
    replace H := Option.bind_eq_some_iff.mp H
    obtain ⟨⟨t174, t175⟩, A70, H⟩ := H
    try dsimp only at H
    have A7 := Aside0.mk A70
    clear A70
    by_cases c8 : t174 = 0
    ·rw [if_pos c8] at H
     have c8b0 : (t174 == 0) = true := beq_iff_eq.mpr c8
     have c8b1 : (t174 != 0) = false := bne_eq_false_iff_eq.mpr c8
     clear c8
     obtain ⟨y176, hy176⟩ : ∃ y_ : List Int, y_ = (([127, 128, 1000] : List Int)) := ⟨_, rfl⟩
     replace H : ((spec_l1Rd_pick.f k1 s0_0 t175 3).bind fun bt179 => (if 0 ≤ bt179.1 then (if bt179.1 < (y176.length : Int) then ((spec_l1Many.f k1 (⟨#[112]⟩ : ByteArray) (rd y176 bt179.1)).bind fun t182 => (if x3_1.length < 8796093022208 then (spec_l3Payloads.l0 k1 (x3_1 ++ [t182]) (wrap64 (x4_1 - 1)) s0_0 bt179.2) else (none))) else (none)) else (none))) = some (r1, r2) := by first | (rw [hy176]; with_reducible exact H) | (have H2_ := (Option.bind_some _ _).symm.trans H; rw [hy176]; with_reducible exact H2_) | (have H2_ := (Option.bind_some _ _).symm.trans H; with_reducible exact H2_) | with_reducible exact H | (rw [hy176]; exact H) | exact H
     have Ny176 := Aside0.mk hy176
     clear hy176
     replace H := Option.bind_eq_some_iff.mp H
     obtain ⟨⟨t179, t180⟩, A90, H⟩ := H
     try dsimp only at H
     have A9 := Aside0.mk A90
     clear A90
     by_cases c10 : 0 ≤ t179
     ·rw [if_pos c10] at H
      have c10b0 : decide (0 ≤ t179) = true := decide_eq_true c10
      clear c10
      by_cases c11 : t179 < (y176.length : Int)
      ·rw [if_pos c11] at H
       have c11b0 : decide (t179 < (y176.length : Int)) = true := decide_eq_true c11
       clear c11
       replace H := Option.bind_eq_some_iff.mp H
       obtain ⟨t182, A120, H⟩ := H
       try dsimp only at H
       have A12 := Aside0.mk A120
       clear A120
       by_cases c13 : x3_1.length < 8796093022208
       ·rw [if_pos c13] at H
        have LMc13 := Aside0.mk c13
        clear c13
        obtain ⟨y183, hy183⟩ : ∃ y_ : List ByteArray, y_ = (x3_1 ++ [t182]) := ⟨_, rfl⟩
        replace H : (spec_l3Payloads.l0 k1 y183 (wrap64 (x4_1 - 1)) s0_0 t180) = some (r1, r2) := by first | (rw [hy183]; with_reducible exact H) | (have H2_ := (Option.bind_some _ _).symm.trans H; rw [hy183]; with_reducible exact H2_) | (have H2_ := (Option.bind_some _ _).symm.trans H; with_reducible exact H2_) | with_reducible exact H | (rw [hy183]; exact H) | exact H
        have Ny183 := Aside0.mk hy183
        clear hy183
        have H' := Aside0.mk H
        clear H
        go_wp2_with (first | ((with_reducible refine gate_callee (f := 29) rfl ?_); refine goesL_ (some 13) rfl rfl Try.func29 zq19 rfl #[.pointer (some ⟨g, 0, none⟩), .int .i64 8] rfl zq0 ?_; (with_reducible refine (spec_l1Rd_pick.calls k1 g s0_0 x1001_1 8 t174 t175 w0 _ ?side1 ?side2 A7.out).mono ?_); (case side1 => repeat (first | (with_reducible first | exact HI0.out | apply IsS98.alloc | apply IsS98.drewN | apply IsS98.drew | apply IsS98.set_1) | exact HI0.out)); (case side2 => repeat (first | (with_reducible first | exact HB.out | apply below_alloc | apply pw_below_drewN | apply below_drew1 | refine below_set ?_ (IsS98.ge HI0.out)) | exact HB.out)); rintro e w14 ⟨rfl, hi, hb, hk⟩; refine ⟨_, rfl, ?_⟩; have n0_ := Aside0.mk (Kd.R_mono (Kd.R_keep (IsS98.apart (show IsS98 w0 _ g s0_0 x1001_1 from zq4) zq57 zq60) hk (fun _ h => h.2)) (fun _ h => h.1)); have n1_ := Aside0.mk (KeepBut.trans zq3 hk (.inl rfl)); have n2_ := Aside0.mk (hb); have n3_ := Aside0.mk (hi); clear HO_3; clear HK; clear HB; clear HI0; have HO_3 := n0_; have HK := n1_; have HB := n2_; have HI0 := n3_; clear n0_ n1_ n2_ n3_; (try clear hb); (try clear hb2); (try clear hk); (try clear hi)) | ((with_reducible refine gate_dst (N := 23) rfl ?_); refine Kd.R_lit (Kd.int .i64) _ 3 ?hg (N := 23) ?hd (xs := ([127, 128, 1000] : List Int)) (inner := [.int .i64 127, .int .i64 128, .int .i64 1000]) (ok := fun _ => True) (okp := fun _ => True) ?hr ?hp (fun _ hk => hk) trivial (Below.refl _ _) (Nat.le_refl _) zq81 ?_; (case hd => rfl); (case hg => rfl); (case hr => first | (go_simp; done) | (go_simp; rfl)); (case hp => exact (Reps.one (show Kd.M (Kd.int .i64) _ _ _ 127 [.int .i64 127] from rfl) (Reps.one (show Kd.M (Kd.int .i64) _ _ _ 128 [.int .i64 128] from rfl) (Reps.one (show Kd.M (Kd.int .i64) _ _ _ 1000 [.int .i64 1000] from rfl) (Reps.none _ _))))); intro v177 w15 ho16 hb hg_ hnew_; clear hg_ hnew_; (first | rw [← Ny176.out] at ho16 | (simp only [Int.reduceToNat] at ho16; rw [← Ny176.out] at ho16)); have n0_ := Aside0.mk (Kd.R_below zq57 hb); have n1_ := Aside0.mk (Kd.R_lower ho16 (keep_size (w := w) (g := g) (row := none) zq3)); have n2_ := Aside0.mk (IsS98.below zq4 hb); have n3_ := Aside0.mk (KeepBut.trans zq3 (KeepBut.of_below hb g none) (.inl rfl)); have n4_ := Aside0.mk (below_step zq6 hb); clear HO_3; clear HI0; clear HK; clear HB; have HO_3 := n0_; have HO178 := n1_; have HI0 := n2_; have HK := n3_; have HB := n4_; clear n0_ n1_ n2_ n3_ n4_; clear hb ho16) | ((with_reducible refine gate_callee (f := 29) rfl ?_); refine goesL_ (some 25) rfl rfl Try.func29 zq19 rfl #[.pointer (some ⟨g, 0, none⟩), .int .i64 3] rfl zq0 ?_; (with_reducible refine (spec_l1Rd_pick.calls k1 g s0_0 t175 3 t179 t180 w0 _ ?side1 ?side2 A9.out).mono ?_); (case side1 => repeat (first | (with_reducible first | exact HI0.out | apply IsS98.alloc | apply IsS98.drewN | apply IsS98.drew | apply IsS98.set_1) | exact HI0.out)); (case side2 => repeat (first | (with_reducible first | exact HB.out | apply below_alloc | apply pw_below_drewN | apply below_drew1 | refine below_set ?_ (IsS98.ge HI0.out)) | exact HB.out)); rintro e w17 ⟨rfl, hi, hb, hk⟩; refine ⟨_, rfl, ?_⟩; have n0_ := Aside0.mk (Kd.R_mono (Kd.R_keep (IsS98.apart (show IsS98 w0 _ g s0_0 t175 from zq4) zq57 zq60) hk (fun _ h => h.2)) (fun _ h => h.1)); have n1_ := Aside0.mk (Kd.R_mono (Kd.R_keep (IsS98.apart (show IsS98 w0 _ g s0_0 t175 from zq4) (by (with_reducible repeat (first | apply Kd.R_alloc | apply Kd.R_drewN | apply Kd.R_drew)); exact HO178.out) zq60) hk (fun _ h => h.2)) (fun _ h => h.1)); have n2_ := Aside0.mk (KeepBut.trans zq3 hk (.inl rfl)); have n3_ := Aside0.mk (hb); have n4_ := Aside0.mk (hi); clear HO_3; clear HO178; clear HK; clear HB; clear HI0; have HO_3 := n0_; have HO178 := n1_; have HK := n2_; have HB := n3_; have HI0 := n4_; clear n0_ n1_ n2_ n3_ n4_; (try clear hb); (try clear hb2); (try clear hk); (try clear hi); obtain ⟨Ao18, co18, eo18⟩ := Kd.R_slice HO178.out; subst eo18; have p181 : 0 ≤ (t179 : Int) := of_decide_eq_true zq23; have q181 : t179 < (y176.length : Int) := of_decide_eq_true zq23; obtain ⟨ad181, e181, hx181_0⟩ := Kd.at_int (Kd.R_reads' HO178.out).2.2 t179 p181 q181; cases e181; replace p181 := eq_true p181; replace q181 := eq_true q181) | ((with_reducible refine gate_callee (f := 38) rfl ?_); refine goesL_ (some 28) rfl rfl Try.func38 zq19 rfl #[.string (⟨#[112]⟩ : ByteArray), .int .i64 (rd y176 t179)] rfl zq0 ?_; (with_reducible refine (spec_l1Many.calls k1 (⟨#[112]⟩ : ByteArray) (rd y176 t179) t182 _ A12.out).mono ?_); rintro e w' ⟨rfl, ⟨nd, rfl⟩⟩; refine ⟨_, rfl, ?_⟩) | ((with_reducible refine gate_builtin (b := .append) (xs := #[.tmp 22, .tmp 29]) rfl ?_); at_builtin; refine Kd.R_append Kd.string w.heap.size rfl (.tmp 22) (.tmp 29) 23 9 (.string ⟨#[]⟩) 16 rfl Try.underlying23 info9 rfl zq60 zq99 u3 x3_1 t182 [.string t182] (fun _ => True) (fun _ => False) rfl rfl ?aP (fun _ hk => hk.elim) ?aF ?aO (Below.refl _ _) ?aS ?aL ?_; (case aP => exact rfl); (case aF => exact (fun _ _ => trivial)); (case aO => exact zq57); (case aS => exact (keep_size (w := w) (g := g) (row := none) zq3)); (case aL => have := LMc13.out; omega); intro v184 w19 ho hb hg hat; rw [← Ny183.out] at ho; have n0_ := Aside0.mk (IsS98.grown zq4 hg (IsS98.own_ne HI0.out HO_3.out zq60)); have n1_ := Aside0.mk (Kd.R_over' (by (with_reducible repeat (first | apply Kd.R_alloc | apply Kd.R_drewN | apply Kd.R_drew)); exact HO178.out) (Kd.R_typed zq57) zq60 hg); have n2_ := Aside0.mk (below_weaken zq6 HL.out hb); have n3_ := Aside0.mk (KeepBut.trans zq3 (KeepBut.of_grown hg g) (Kd.R_base2 HO_3.out)); have n4_ := Aside0.mk (ho); clear HI0; clear HO178; clear HB; clear HK; clear HO_3; have HI0 := n0_; have HO178 := n1_; have HB := n2_; have HK := n3_; have HO185 := n4_; clear n0_ n1_ n2_ n3_ n4_; clear ho hb hg hat))
        go_roundg k1
        case measure => have := HK1.out; omega
        case rel => exact ⟨(y183), (wrap64 (x4_1 - 1)), (t180), zq22, H', ⟨zq88⟩, ⟨by (with_reducible repeat (first | apply Kd.R_alloc | apply Kd.R_drewN | apply Kd.R_drew)); exact HO185.out⟩, ⟨zq4⟩, ⟨zq3⟩, ⟨zq6⟩⟩
       ·rw [if_neg c13] at H
        exact absurd H zq81
      ·rw [if_neg c11] at H
       exact absurd H zq81
     ·rw [if_neg c10] at H
      exact absurd H zq81
    ·rw [if_neg c8] at H
     have c8b0 : (t174 == 0) = false := beq_eq_false_iff_ne.mpr c8
     have c8b1 : (t174 != 0) = true := bne_iff_ne.mpr c8
     replace H := Option.bind_eq_some_iff.mp H
     obtain ⟨⟨t186, t187⟩, A200, H⟩ := H
     try dsimp only at H
     have A20 := Aside0.mk A200
     clear A200
     by_cases c21 : 1 + t186.size ≤ 9223372036854775807
     ·rw [if_pos c21] at H
      have c21b0 := eq_true c21
      have c21b1 : decide (1 + t186.size ≤ 9223372036854775807) = true := decide_eq_true c21
      try have c21b2 : (9223372036854775807 < 1 + t186.size) = False := eq_false (Nat.not_lt.2 c21)
      by_cases c22 : x3_1.length < 8796093022208
      ·rw [if_pos c22] at H
       have LMc22 := Aside0.mk c22
       clear c22
       obtain ⟨y188, hy188⟩ : ∃ y_ : List ByteArray, y_ = (x3_1 ++ [(⟨#[112]⟩ : ByteArray) ++ t186]) := ⟨_, rfl⟩
       replace H : (spec_l3Payloads.l0 k1 y188 (wrap64 (x4_1 - 1)) s0_0 t187) = some (r1, r2) := by first | (rw [hy188]; with_reducible exact H) | (have H2_ := (Option.bind_some _ _).symm.trans H; rw [hy188]; with_reducible exact H2_) | (have H2_ := (Option.bind_some _ _).symm.trans H; with_reducible exact H2_) | with_reducible exact H | (rw [hy188]; exact H) | exact H
       have Ny188 := Aside0.mk hy188
       clear hy188
       have H' := Aside0.mk H
       clear H
       go_wp2_with (first | ((with_reducible refine gate_callee (f := 29) rfl ?_); refine goesL_ (some 13) rfl rfl Try.func29 zq19 rfl #[.pointer (some ⟨g, 0, none⟩), .int .i64 8] rfl zq0 ?_; (with_reducible refine (spec_l1Rd_pick.calls k1 g s0_0 x1001_1 8 t174 t175 w0 _ ?side1 ?side2 A7.out).mono ?_); (case side1 => repeat (first | (with_reducible first | exact HI0.out | apply IsS98.alloc | apply IsS98.drewN | apply IsS98.drew | apply IsS98.set_1) | exact HI0.out)); (case side2 => repeat (first | (with_reducible first | exact HB.out | apply below_alloc | apply pw_below_drewN | apply below_drew1 | refine below_set ?_ (IsS98.ge HI0.out)) | exact HB.out)); rintro e w23 ⟨rfl, hi, hb, hk⟩; refine ⟨_, rfl, ?_⟩; have n0_ := Aside0.mk (Kd.R_mono (Kd.R_keep (IsS98.apart (show IsS98 w0 _ g s0_0 x1001_1 from zq4) zq57 zq60) hk (fun _ h => h.2)) (fun _ h => h.1)); have n1_ := Aside0.mk (KeepBut.trans zq3 hk (.inl rfl)); have n2_ := Aside0.mk (hb); have n3_ := Aside0.mk (hi); clear HO_3; clear HK; clear HB; clear HI0; have HO_3 := n0_; have HK := n1_; have HB := n2_; have HI0 := n3_; clear n0_ n1_ n2_ n3_; (try clear hb); (try clear hb2); (try clear hk); (try clear hi)) | ((with_reducible refine gate_callee (f := 60) rfl ?_); refine goesL_ (some 16) rfl rfl Try.func60 zq19 rfl #[.pointer (some ⟨g, 0, none⟩)] rfl zq0 ?_; (with_reducible refine (spec_l1Text.calls k1 g s0_0 t175 t186 t187 w0 _ ?side1 ?side2 A20.out).mono ?_); (case side1 => repeat (first | (with_reducible first | exact HI0.out | apply IsS98.alloc | apply IsS98.drewN | apply IsS98.drew | apply IsS98.set_1) | exact HI0.out)); (case side2 => repeat (first | (with_reducible first | exact HB.out | apply below_alloc | apply pw_below_drewN | apply below_drew1 | refine below_set ?_ (IsS98.ge HI0.out)) | exact HB.out)); rintro e w24 ⟨rfl, hi, hb, hk⟩; refine ⟨_, rfl, ?_⟩; have n0_ := Aside0.mk (Kd.R_mono (Kd.R_keep (IsS98.apart (show IsS98 w0 _ g s0_0 t175 from zq4) zq57 zq60) hk (fun _ h => h.2)) (fun _ h => h.1)); have n1_ := Aside0.mk (KeepBut.trans zq3 hk (.inl rfl)); have n2_ := Aside0.mk (hb); have n3_ := Aside0.mk (hi); clear HO_3; clear HK; clear HB; clear HI0; have HO_3 := n0_; have HK := n1_; have HB := n2_; have HI0 := n3_; clear n0_ n1_ n2_ n3_; (try clear hb); (try clear hb2); (try clear hk); (try clear hi)) | ((with_reducible refine gate_builtin (b := .append) (xs := #[.tmp 14, .tmp 18]) rfl ?_); at_builtin; refine Kd.R_append Kd.string w.heap.size rfl (.tmp 14) (.tmp 18) 23 9 (.string ⟨#[]⟩) 16 rfl Try.underlying23 info9 rfl zq60 zq99 u3 x3_1 ((⟨#[112]⟩ : ByteArray) ++ t186) [.string ((⟨#[112]⟩ : ByteArray) ++ t186)] (fun _ => True) (fun _ => False) rfl rfl ?aP (fun _ hk => hk.elim) ?aF ?aO (Below.refl _ _) ?aS ?aL ?_; (case aP => exact rfl); (case aF => exact (fun _ _ => trivial)); (case aO => exact zq57); (case aS => exact (keep_size (w := w) (g := g) (row := none) zq3)); (case aL => have := LMc22.out; omega); intro v189 w25 ho hb hg hat; rw [← Ny188.out] at ho; have n0_ := Aside0.mk (IsS98.grown zq4 hg (IsS98.own_ne HI0.out HO_3.out zq60)); have n1_ := Aside0.mk (below_weaken zq6 HL.out hb); have n2_ := Aside0.mk (KeepBut.trans zq3 (KeepBut.of_grown hg g) (Kd.R_base2 HO_3.out)); have n3_ := Aside0.mk (ho); clear HI0; clear HB; clear HK; clear HO_3; have HI0 := n0_; have HB := n1_; have HK := n2_; have HO190 := n3_; clear n0_ n1_ n2_ n3_; clear ho hb hg hat))
       go_roundg k1
       case measure => have := HK1.out; omega
       case rel => exact ⟨(y188), (wrap64 (x4_1 - 1)), (t187), zq22, H', ⟨zq88⟩, ⟨by (with_reducible repeat (first | apply Kd.R_alloc | apply Kd.R_drewN | apply Kd.R_drew)); exact HO190.out⟩, ⟨zq4⟩, ⟨zq3⟩, ⟨zq6⟩⟩
      ·rw [if_neg c22] at H
       exact absurd H zq81
     ·rw [if_neg c21] at H
      exact absurd H zq81
   ·rw [if_neg c6] at H
    have c6b0 : decide (0 < x4_1) = false := decide_eq_false c6
    clear c6
    simp only [Option.some.injEq, Prod.mk.injEq] at H
    obtain ⟨rfl, rfl⟩ := H
    go_wp2
    go_ret
    exact ⟨_, zq8, zq57, zq4, zq6, zq3⟩
end Go.Proofs.Ytgjipjffpodjlaa.K
namespace Go.Proofs.Ytgjipjffpodjlaa.K
open Go.RowKit Go.Proofs.YtgjipjffpodjlaaW.PrintWords Go.Proofs.YtgjipjffpodjlaaW.PrintLast Go.Proofs.YtgjipjffpodjlaaW.PrintMore
attribute [local go_sem] max2_int min2_int max_two min_two max_three min_three max_four min_four   
set_option linter.unusedVariables false
set_option linter.unusedSimpArgs false
def spec_l1Bend.f (k : Nat) (s0_0 : List Int) (s0_1 : Int) (a1 : ByteArray) : Option (ByteArray × Int) := (spec_l1Rd_pick.f k s0_0 s0_1 256).bind fun bt191 => ((spec_l1Rd_pick.f k s0_0 bt191.2 5).bind fun bt193 => (if bt193.1 = 0 then (if 0 ≤ (wrap64 (Int.tdiv (wrap64 (bt191.1 * (wrap64 ((a1.size : Int) + 1)))) 256)) then (if (wrap64 (Int.tdiv (wrap64 (bt191.1 * (wrap64 ((a1.size : Int) + 1)))) 256)) ≤ (a1.size : Int) then (some (a1.extract 0 ((wrap64 (Int.tdiv (wrap64 (bt191.1 * (wrap64 ((a1.size : Int) + 1)))) 256)) : Int).toNat, bt193.2)) else (none)) else (none)) else (if bt193.1 = 1 then (if 0 ≤ (wrap64 (Int.tdiv (wrap64 (bt191.1 * (wrap64 ((a1.size : Int) + 1)))) 256)) then (if (wrap64 (Int.tdiv (wrap64 (bt191.1 * (wrap64 ((a1.size : Int) + 1)))) 256)) ≤ (a1.size : Int) then ((some (([(⟨#[32]⟩ : ByteArray), (⟨#[10]⟩ : ByteArray), (⟨#[34]⟩ : ByteArray), (⟨#[92]⟩ : ByteArray), (⟨#[48]⟩ : ByteArray), (⟨#[120]⟩ : ByteArray), (⟨#[47]⟩ : ByteArray), (⟨#[0]⟩ : ByteArray), (⟨#[128]⟩ : ByteArray), (⟨#[42]⟩ : ByteArray)] : List ByteArray) : List ByteArray)).bind fun y195 => ((spec_l1Rd_pick.f k s0_0 bt193.2 10).bind fun bt198 => (if 0 ≤ bt198.1 then (if bt198.1 < (y195.length : Int) then (if (a1.extract 0 ((wrap64 (Int.tdiv (wrap64 (bt191.1 * (wrap64 ((a1.size : Int) + 1)))) 256)) : Int).toNat).size + (rdOf ByteArray.empty y195 bt198.1).size ≤ 9223372036854775807 then (if ((a1.extract 0 ((wrap64 (Int.tdiv (wrap64 (bt191.1 * (wrap64 ((a1.size : Int) + 1)))) 256)) : Int).toNat) ++ (rdOf ByteArray.empty y195 bt198.1)).size + (a1.extract ((wrap64 (Int.tdiv (wrap64 (bt191.1 * (wrap64 ((a1.size : Int) + 1)))) 256)) : Int).toNat a1.size).size ≤ 9223372036854775807 then (some (((a1.extract 0 ((wrap64 (Int.tdiv (wrap64 (bt191.1 * (wrap64 ((a1.size : Int) + 1)))) 256)) : Int).toNat) ++ (rdOf ByteArray.empty y195 bt198.1)) ++ (a1.extract ((wrap64 (Int.tdiv (wrap64 (bt191.1 * (wrap64 ((a1.size : Int) + 1)))) 256)) : Int).toNat a1.size), bt198.2)) else (none)) else (none)) else (none)) else (none)))) else (none)) else (none)) else (if bt193.1 = 2 then (if (wrap64 (Int.tdiv (wrap64 (bt191.1 * (wrap64 ((a1.size : Int) + 1)))) 256)) < (a1.size : Int) then (if 0 ≤ (wrap64 (Int.tdiv (wrap64 (bt191.1 * (wrap64 ((a1.size : Int) + 1)))) 256)) then (if (wrap64 (Int.tdiv (wrap64 (bt191.1 * (wrap64 ((a1.size : Int) + 1)))) 256)) ≤ (a1.size : Int) then (if 0 ≤ (wrap64 ((wrap64 (Int.tdiv (wrap64 (bt191.1 * (wrap64 ((a1.size : Int) + 1)))) 256)) + 1)) then (if (wrap64 ((wrap64 (Int.tdiv (wrap64 (bt191.1 * (wrap64 ((a1.size : Int) + 1)))) 256)) + 1)) ≤ (a1.size : Int) then (if (a1.extract 0 ((wrap64 (Int.tdiv (wrap64 (bt191.1 * (wrap64 ((a1.size : Int) + 1)))) 256)) : Int).toNat).size + (a1.extract ((wrap64 ((wrap64 (Int.tdiv (wrap64 (bt191.1 * (wrap64 ((a1.size : Int) + 1)))) 256)) + 1)) : Int).toNat a1.size).size ≤ 9223372036854775807 then (some ((a1.extract 0 ((wrap64 (Int.tdiv (wrap64 (bt191.1 * (wrap64 ((a1.size : Int) + 1)))) 256)) : Int).toNat) ++ (a1.extract ((wrap64 ((wrap64 (Int.tdiv (wrap64 (bt191.1 * (wrap64 ((a1.size : Int) + 1)))) 256)) + 1)) : Int).toNat a1.size), bt193.2)) else (none)) else (none)) else (none)) else (none)) else (none)) else (if 0 ≤ (wrap64 (Int.tdiv (wrap64 (bt191.1 * (wrap64 ((a1.size : Int) + 1)))) 256)) then (if (wrap64 (Int.tdiv (wrap64 (bt191.1 * (wrap64 ((a1.size : Int) + 1)))) 256)) ≤ (a1.size : Int) then (if a1.size + (a1.extract ((wrap64 (Int.tdiv (wrap64 (bt191.1 * (wrap64 ((a1.size : Int) + 1)))) 256)) : Int).toNat a1.size).size ≤ 9223372036854775807 then (some (a1 ++ (a1.extract ((wrap64 (Int.tdiv (wrap64 (bt191.1 * (wrap64 ((a1.size : Int) + 1)))) 256)) : Int).toNat a1.size), bt193.2)) else (none)) else (none)) else (none))) else (if bt193.1 = 3 then (if (wrap64 (Int.tdiv (wrap64 (bt191.1 * (wrap64 ((a1.size : Int) + 1)))) 256)) < (a1.size : Int) then (if 0 ≤ (wrap64 (Int.tdiv (wrap64 (bt191.1 * (wrap64 ((a1.size : Int) + 1)))) 256)) then (if (wrap64 (Int.tdiv (wrap64 (bt191.1 * (wrap64 ((a1.size : Int) + 1)))) 256)) ≤ (a1.size : Int) then ((spec_l1Rd_pick.f k s0_0 bt193.2 8).bind fun bt201 => (if 0 ≤ (IntKind.u64.wrap (bt201.1)) then ((some (([(Go.bits .xor .i64 (wrap64 (bt a1 (wrap64 (Int.tdiv (wrap64 (bt191.1 * (wrap64 ((a1.size : Int) + 1)))) 256)))) (shl .i64 1 (IntKind.u64.wrap (bt201.1)))) % 256] : List Int) : List Int)).bind fun y203 => (if (a1.extract 0 ((wrap64 (Int.tdiv (wrap64 (bt191.1 * (wrap64 ((a1.size : Int) + 1)))) 256)) : Int).toNat).size + (strOfNums y203).size ≤ 9223372036854775807 then (if 0 ≤ (wrap64 ((wrap64 (Int.tdiv (wrap64 (bt191.1 * (wrap64 ((a1.size : Int) + 1)))) 256)) + 1)) then (if (wrap64 ((wrap64 (Int.tdiv (wrap64 (bt191.1 * (wrap64 ((a1.size : Int) + 1)))) 256)) + 1)) ≤ (a1.size : Int) then (if ((a1.extract 0 ((wrap64 (Int.tdiv (wrap64 (bt191.1 * (wrap64 ((a1.size : Int) + 1)))) 256)) : Int).toNat) ++ (strOfNums y203)).size + (a1.extract ((wrap64 ((wrap64 (Int.tdiv (wrap64 (bt191.1 * (wrap64 ((a1.size : Int) + 1)))) 256)) + 1)) : Int).toNat a1.size).size ≤ 9223372036854775807 then (some (((a1.extract 0 ((wrap64 (Int.tdiv (wrap64 (bt191.1 * (wrap64 ((a1.size : Int) + 1)))) 256)) : Int).toNat) ++ (strOfNums y203)) ++ (a1.extract ((wrap64 ((wrap64 (Int.tdiv (wrap64 (bt191.1 * (wrap64 ((a1.size : Int) + 1)))) 256)) + 1)) : Int).toNat a1.size), bt201.2)) else (none)) else (none)) else (none)) else (none))) else (none))) else (none)) else (none)) else (if 0 ≤ (wrap64 (Int.tdiv (wrap64 (bt191.1 * (wrap64 ((a1.size : Int) + 1)))) 256)) then (if (wrap64 (Int.tdiv (wrap64 (bt191.1 * (wrap64 ((a1.size : Int) + 1)))) 256)) ≤ (a1.size : Int) then (if a1.size + (a1.extract ((wrap64 (Int.tdiv (wrap64 (bt191.1 * (wrap64 ((a1.size : Int) + 1)))) 256)) : Int).toNat a1.size).size ≤ 9223372036854775807 then (some (a1 ++ (a1.extract ((wrap64 (Int.tdiv (wrap64 (bt191.1 * (wrap64 ((a1.size : Int) + 1)))) 256)) : Int).toNat a1.size), bt193.2)) else (none)) else (none)) else (none))) else (if 0 ≤ (wrap64 (Int.tdiv (wrap64 (bt191.1 * (wrap64 ((a1.size : Int) + 1)))) 256)) then (if (wrap64 (Int.tdiv (wrap64 (bt191.1 * (wrap64 ((a1.size : Int) + 1)))) 256)) ≤ (a1.size : Int) then (if a1.size + (a1.extract ((wrap64 (Int.tdiv (wrap64 (bt191.1 * (wrap64 ((a1.size : Int) + 1)))) 256)) : Int).toNat a1.size).size ≤ 9223372036854775807 then (some (a1 ++ (a1.extract ((wrap64 (Int.tdiv (wrap64 (bt191.1 * (wrap64 ((a1.size : Int) + 1)))) 256)) : Int).toNat a1.size), bt193.2)) else (none)) else (none)) else (none)))))))
theorem spec_l1Bend.mono : ∀ a0 a1 a2 k, LeO (spec_l1Bend.f k a0 a1 a2) (spec_l1Bend.f (k + 1) a0 a1 a2) := by
 intro a0 a1 a2 k
 unfold spec_l1Bend.f
 repeat' first
   | (with_reducible exact spec_l1Rd_pick.mono _ _ _ _)
   | (with_reducible exact LeO.refl _)
   | (with_reducible exact LeO.none _)
   | (with_reducible refine LeO.ite ?_ ?_)
   | (with_reducible refine LeO.bind ?_ (fun _ => ?_))
   | exact spec_l1Rd_pick.mono _ _ _ _
   | exact LeO.none _
   | refine LeO.ite ?_ ?_
   | refine LeO.bind ?_ (fun _ => ?_)
def spec_l1Bend.T6 : Bool × List (List Nat × List Nat) := (true, [([], []), ([], []), ([0, 1], [0, 1]), ([], []), ([], []), ([4], [4]), ([3, 5], [3, 5]), ([6], [6]), ([2, 7], [2, 7]), ([], []), ([], []), ([9, 10], [9, 10]), ([8, 11], [8, 11]), ([12, 5, 0, 1, 2, 3, 4, 5, 6, 7, 8, 9, 10, 11, 12], [12])])
def spec_l1Bend.B6 : List Nat := [0, 0, 3, 0, 0, 16, 56, 120, 255, 0, 0, 1536, 4095, 8191]
theorem spec_l1Bend.tab6 : rtab .any (opsOf Try.f30 6) = spec_l1Bend.T6 := by kernel_rfl
theorem spec_l1Bend.bits6 : waitsOk spec_l1Bend.T6.2 spec_l1Bend.B6 = true := by kernel_rfl
def spec_l1Bend.T9 : Bool × List (List Nat × List Nat) := (true, [([], []), ([], []), ([0, 1], [0, 1]), ([], []), ([], []), ([4], [4]), ([3, 5], [3, 5]), ([2, 6], [2, 6]), ([7, 0, 1, 2, 3, 4, 5, 6, 7], [7])])
def spec_l1Bend.B9 : List Nat := [0, 0, 3, 0, 0, 16, 56, 127, 255]
theorem spec_l1Bend.tab9 : rtab .any (opsOf Try.f30 9) = spec_l1Bend.T9 := by kernel_rfl
theorem spec_l1Bend.bits9 : waitsOk spec_l1Bend.T9.2 spec_l1Bend.B9 = true := by kernel_rfl
def spec_l1Bend.T12 : Bool × List (List Nat × List Nat) := (true, [([], []), ([], []), ([0, 1], [0, 1]), ([], []), ([], []), ([3, 4], [3, 4]), ([5], [5]), ([], []), ([7], [7]), ([8], [8]), ([9], [9]), ([6, 10], [6, 10]), ([11], [11]), ([12], [12]), ([13], [13]), ([2, 14], [2, 14]), ([], []), ([], []), ([17], [17]), ([16, 18], [16, 18]), ([15, 19], [15, 19]), ([20, 8, 0, 1, 2, 3, 4, 5, 6, 7, 8, 9, 10, 11, 12, 13, 14, 15, 16, 17, 18, 19, 20], [20])])
def spec_l1Bend.B12 : List Nat := [0, 0, 3, 0, 0, 24, 56, 0, 128, 384, 896, 2040, 4088, 8184, 16376, 32767, 0, 0, 131072, 458752, 1048575, 2097151]
theorem spec_l1Bend.tab12 : rtab .any (opsOf Try.f30 12) = spec_l1Bend.T12 := by kernel_rfl
theorem spec_l1Bend.bits12 : waitsOk spec_l1Bend.T12.2 spec_l1Bend.B12 = true := by kernel_rfl
set_option maxHeartbeats 2000000 in
set_option maxRecDepth 100000 in
theorem spec_l1Bend.calls (k : Nat) (g : Nat) (s0_0 : List Int) (s0_1 : Int) (a1 : ByteArray) (r1 : ByteArray) (r2 : Int) (w0 w : World) (hI : IsS98 w0 w g s0_0 s0_1) (hB : Below w0.heap.size w0 w) (h : spec_l1Bend.f k s0_0 s0_1 a1 = some (r1, r2)) :
  Calls Try.prog 30 #[.pointer (some ⟨g, 0, none⟩), .string a1] w fun e w' => e = .returned (.string r1) ∧ IsS98 w0 w' g s0_0 r2 ∧ Below w0.heap.size w0 w' ∧ KeepBut w w' g none := by
 have HI0 := Aside0.mk hI
 have HK := Aside0.mk (KeepBut.refl w g none)
 have HL := Aside0.mk hB.size
 clear hI
 have HW0 := Aside0.mk hB.size
 have HB := Aside0.mk hB
 clear hB
 have H : ((spec_l1Rd_pick.f k s0_0 s0_1 256).bind fun bt191 => ((spec_l1Rd_pick.f k s0_0 bt191.2 5).bind fun bt193 => (if bt193.1 = 0 then (if 0 ≤ (wrap64 (Int.tdiv (wrap64 (bt191.1 * (wrap64 ((a1.size : Int) + 1)))) 256)) then (if (wrap64 (Int.tdiv (wrap64 (bt191.1 * (wrap64 ((a1.size : Int) + 1)))) 256)) ≤ (a1.size : Int) then (some (a1.extract 0 ((wrap64 (Int.tdiv (wrap64 (bt191.1 * (wrap64 ((a1.size : Int) + 1)))) 256)) : Int).toNat, bt193.2)) else (none)) else (none)) else (if bt193.1 = 1 then (if 0 ≤ (wrap64 (Int.tdiv (wrap64 (bt191.1 * (wrap64 ((a1.size : Int) + 1)))) 256)) then (if (wrap64 (Int.tdiv (wrap64 (bt191.1 * (wrap64 ((a1.size : Int) + 1)))) 256)) ≤ (a1.size : Int) then ((some (([(⟨#[32]⟩ : ByteArray), (⟨#[10]⟩ : ByteArray), (⟨#[34]⟩ : ByteArray), (⟨#[92]⟩ : ByteArray), (⟨#[48]⟩ : ByteArray), (⟨#[120]⟩ : ByteArray), (⟨#[47]⟩ : ByteArray), (⟨#[0]⟩ : ByteArray), (⟨#[128]⟩ : ByteArray), (⟨#[42]⟩ : ByteArray)] : List ByteArray) : List ByteArray)).bind fun y195 => ((spec_l1Rd_pick.f k s0_0 bt193.2 10).bind fun bt198 => (if 0 ≤ bt198.1 then (if bt198.1 < (y195.length : Int) then (if (a1.extract 0 ((wrap64 (Int.tdiv (wrap64 (bt191.1 * (wrap64 ((a1.size : Int) + 1)))) 256)) : Int).toNat).size + (rdOf ByteArray.empty y195 bt198.1).size ≤ 9223372036854775807 then (if ((a1.extract 0 ((wrap64 (Int.tdiv (wrap64 (bt191.1 * (wrap64 ((a1.size : Int) + 1)))) 256)) : Int).toNat) ++ (rdOf ByteArray.empty y195 bt198.1)).size + (a1.extract ((wrap64 (Int.tdiv (wrap64 (bt191.1 * (wrap64 ((a1.size : Int) + 1)))) 256)) : Int).toNat a1.size).size ≤ 9223372036854775807 then (some (((a1.extract 0 ((wrap64 (Int.tdiv (wrap64 (bt191.1 * (wrap64 ((a1.size : Int) + 1)))) 256)) : Int).toNat) ++ (rdOf ByteArray.empty y195 bt198.1)) ++ (a1.extract ((wrap64 (Int.tdiv (wrap64 (bt191.1 * (wrap64 ((a1.size : Int) + 1)))) 256)) : Int).toNat a1.size), bt198.2)) else (none)) else (none)) else (none)) else (none)))) else (none)) else (none)) else (if bt193.1 = 2 then (if (wrap64 (Int.tdiv (wrap64 (bt191.1 * (wrap64 ((a1.size : Int) + 1)))) 256)) < (a1.size : Int) then (if 0 ≤ (wrap64 (Int.tdiv (wrap64 (bt191.1 * (wrap64 ((a1.size : Int) + 1)))) 256)) then (if (wrap64 (Int.tdiv (wrap64 (bt191.1 * (wrap64 ((a1.size : Int) + 1)))) 256)) ≤ (a1.size : Int) then (if 0 ≤ (wrap64 ((wrap64 (Int.tdiv (wrap64 (bt191.1 * (wrap64 ((a1.size : Int) + 1)))) 256)) + 1)) then (if (wrap64 ((wrap64 (Int.tdiv (wrap64 (bt191.1 * (wrap64 ((a1.size : Int) + 1)))) 256)) + 1)) ≤ (a1.size : Int) then (if (a1.extract 0 ((wrap64 (Int.tdiv (wrap64 (bt191.1 * (wrap64 ((a1.size : Int) + 1)))) 256)) : Int).toNat).size + (a1.extract ((wrap64 ((wrap64 (Int.tdiv (wrap64 (bt191.1 * (wrap64 ((a1.size : Int) + 1)))) 256)) + 1)) : Int).toNat a1.size).size ≤ 9223372036854775807 then (some ((a1.extract 0 ((wrap64 (Int.tdiv (wrap64 (bt191.1 * (wrap64 ((a1.size : Int) + 1)))) 256)) : Int).toNat) ++ (a1.extract ((wrap64 ((wrap64 (Int.tdiv (wrap64 (bt191.1 * (wrap64 ((a1.size : Int) + 1)))) 256)) + 1)) : Int).toNat a1.size), bt193.2)) else (none)) else (none)) else (none)) else (none)) else (none)) else (if 0 ≤ (wrap64 (Int.tdiv (wrap64 (bt191.1 * (wrap64 ((a1.size : Int) + 1)))) 256)) then (if (wrap64 (Int.tdiv (wrap64 (bt191.1 * (wrap64 ((a1.size : Int) + 1)))) 256)) ≤ (a1.size : Int) then (if a1.size + (a1.extract ((wrap64 (Int.tdiv (wrap64 (bt191.1 * (wrap64 ((a1.size : Int) + 1)))) 256)) : Int).toNat a1.size).size ≤ 9223372036854775807 then (some (a1 ++ (a1.extract ((wrap64 (Int.tdiv (wrap64 (bt191.1 * (wrap64 ((a1.size : Int) + 1)))) 256)) : Int).toNat a1.size), bt193.2)) else (none)) else (none)) else (none))) else (if bt193.1 = 3 then (if (wrap64 (Int.tdiv (wrap64 (bt191.1 * (wrap64 ((a1.size : Int) + 1)))) 256)) < (a1.size : Int) then (if 0 ≤ (wrap64 (Int.tdiv (wrap64 (bt191.1 * (wrap64 ((a1.size : Int) + 1)))) 256)) then (if (wrap64 (Int.tdiv (wrap64 (bt191.1 * (wrap64 ((a1.size : Int) + 1)))) 256)) ≤ (a1.size : Int) then ((spec_l1Rd_pick.f k s0_0 bt193.2 8).bind fun bt201 => (if 0 ≤ (IntKind.u64.wrap (bt201.1)) then ((some (([(Go.bits .xor .i64 (wrap64 (bt a1 (wrap64 (Int.tdiv (wrap64 (bt191.1 * (wrap64 ((a1.size : Int) + 1)))) 256)))) (shl .i64 1 (IntKind.u64.wrap (bt201.1)))) % 256] : List Int) : List Int)).bind fun y203 => (if (a1.extract 0 ((wrap64 (Int.tdiv (wrap64 (bt191.1 * (wrap64 ((a1.size : Int) + 1)))) 256)) : Int).toNat).size + (strOfNums y203).size ≤ 9223372036854775807 then (if 0 ≤ (wrap64 ((wrap64 (Int.tdiv (wrap64 (bt191.1 * (wrap64 ((a1.size : Int) + 1)))) 256)) + 1)) then (if (wrap64 ((wrap64 (Int.tdiv (wrap64 (bt191.1 * (wrap64 ((a1.size : Int) + 1)))) 256)) + 1)) ≤ (a1.size : Int) then (if ((a1.extract 0 ((wrap64 (Int.tdiv (wrap64 (bt191.1 * (wrap64 ((a1.size : Int) + 1)))) 256)) : Int).toNat) ++ (strOfNums y203)).size + (a1.extract ((wrap64 ((wrap64 (Int.tdiv (wrap64 (bt191.1 * (wrap64 ((a1.size : Int) + 1)))) 256)) + 1)) : Int).toNat a1.size).size ≤ 9223372036854775807 then (some (((a1.extract 0 ((wrap64 (Int.tdiv (wrap64 (bt191.1 * (wrap64 ((a1.size : Int) + 1)))) 256)) : Int).toNat) ++ (strOfNums y203)) ++ (a1.extract ((wrap64 ((wrap64 (Int.tdiv (wrap64 (bt191.1 * (wrap64 ((a1.size : Int) + 1)))) 256)) + 1)) : Int).toNat a1.size), bt201.2)) else (none)) else (none)) else (none)) else (none))) else (none))) else (none)) else (none)) else (if 0 ≤ (wrap64 (Int.tdiv (wrap64 (bt191.1 * (wrap64 ((a1.size : Int) + 1)))) 256)) then (if (wrap64 (Int.tdiv (wrap64 (bt191.1 * (wrap64 ((a1.size : Int) + 1)))) 256)) ≤ (a1.size : Int) then (if a1.size + (a1.extract ((wrap64 (Int.tdiv (wrap64 (bt191.1 * (wrap64 ((a1.size : Int) + 1)))) 256)) : Int).toNat a1.size).size ≤ 9223372036854775807 then (some (a1 ++ (a1.extract ((wrap64 (Int.tdiv (wrap64 (bt191.1 * (wrap64 ((a1.size : Int) + 1)))) 256)) : Int).toNat a1.size), bt193.2)) else (none)) else (none)) else (none))) else (if 0 ≤ (wrap64 (Int.tdiv (wrap64 (bt191.1 * (wrap64 ((a1.size : Int) + 1)))) 256)) then (if (wrap64 (Int.tdiv (wrap64 (bt191.1 * (wrap64 ((a1.size : Int) + 1)))) 256)) ≤ (a1.size : Int) then (if a1.size + (a1.extract ((wrap64 (Int.tdiv (wrap64 (bt191.1 * (wrap64 ((a1.size : Int) + 1)))) 256)) : Int).toNat a1.size).size ≤ 9223372036854775807 then (some (a1 ++ (a1.extract ((wrap64 (Int.tdiv (wrap64 (bt191.1 * (wrap64 ((a1.size : Int) + 1)))) 256)) : Int).toNat a1.size), bt193.2)) else (none)) else (none)) else (none)))))))) = some (r1, r2) := h
 clear h
 replace H := Option.bind_eq_some_iff.mp H
 obtain ⟨⟨t191, t192⟩, A30, H⟩ := H
 try dsimp only at H
 have A3 := Aside0.mk A30
 clear A30
 replace H := Option.bind_eq_some_iff.mp H
 obtain ⟨⟨t193, t194⟩, A40, H⟩ := H
 try dsimp only at H
 have A4 := Aside0.mk A40
 clear A40
 by_cases c5 : t193 = 0
 ·rw [if_pos c5] at H
  have c5b0 : (t193 == 0) = true := beq_iff_eq.mpr c5
  have c5b1 : (t193 != 0) = false := bne_eq_false_iff_eq.mpr c5
  clear c5
  obtain ⟨ji6, hji6⟩ : ∃ j_ : Int, (wrap64 (Int.tdiv (wrap64 (t191 * (wrap64 ((a1.size : Int) + 1)))) 256)) = j_ := ⟨_, rfl⟩
  replace H : (if 0 ≤ (ji6) then (if (ji6) ≤ (a1.size : Int) then (some (a1.extract 0 ((ji6) : Int).toNat, t194)) else (none)) else (none)) = some (r1, r2) := by first | (rw [hji6] at H; exact H) | (simp only [hji6] at H ⊢; exact H)
  (try rw [hji6] at A3)
  (try rw [hji6] at A4)
  have hji6w : (IntKind.i64.wrap (Int.tdiv (wrap64 (t191 * (wrap64 ((a1.size : Int) + 1)))) 256)) = ji6 := (i64_w _).trans hji6
  by_cases c7 : 0 ≤ (ji6)
  ·rw [if_pos c7] at H
   have c7b0 := eq_true c7
   have c7b1 : decide (0 ≤ (ji6)) = true := decide_eq_true c7
   clear c7
   by_cases c8 : (ji6) ≤ (a1.size : Int)
   ·rw [if_pos c8] at H
    have c8b0 := eq_true c8
    have c8b1 : decide ((ji6) ≤ (a1.size : Int)) = true := decide_eq_true c8
    clear c8
    simp only [Option.some.injEq, Prod.mk.injEq] at H
    obtain ⟨rfl, rfl⟩ := H
    go_enter Try.func30, Try.ntmps30
    go_wp2_with (first | ((with_reducible refine gate_callee (f := 29) rfl ?_); refine goesL_ (some 7) rfl rfl Try.func29 zq19 rfl #[.pointer (some ⟨g, 0, none⟩), .int .i64 256] rfl zq0 ?_; (with_reducible refine (spec_l1Rd_pick.calls k g s0_0 s0_1 256 t191 t192 w0 _ ?side1 ?side2 A3.out).mono ?_); (case side1 => repeat (first | (with_reducible first | exact HI0.out | apply IsS98.alloc | apply IsS98.drewN | apply IsS98.drew | apply IsS98.set_1) | exact HI0.out)); (case side2 => repeat (first | (with_reducible first | exact HB.out | apply below_alloc | apply pw_below_drewN | apply below_drew1 | refine below_set ?_ (IsS98.ge HI0.out)) | exact HB.out)); rintro e w9 ⟨rfl, hi, hb, hk⟩; refine ⟨_, rfl, ?_⟩; have n0_ := Aside0.mk (KeepBut.trans zq3 hk (.inl rfl)); have n1_ := Aside0.mk (hb); have n2_ := Aside0.mk (hi); clear HK; clear HB; clear HI0; have HK := n0_; have HB := n1_; have HI0 := n2_; clear n0_ n1_ n2_; (try clear hb); (try clear hb2); (try clear hk); (try clear hi)) | ((with_reducible refine gate_callee (f := 29) rfl ?_); refine goesL_ (some 14) rfl rfl Try.func29 zq19 rfl #[.pointer (some ⟨g, 0, none⟩), .int .i64 5] rfl zq0 ?_; (with_reducible refine (spec_l1Rd_pick.calls k g s0_0 t192 5 t193 t194 w0 _ ?side1 ?side2 A4.out).mono ?_); (case side1 => repeat (first | (with_reducible first | exact HI0.out | apply IsS98.alloc | apply IsS98.drewN | apply IsS98.drew | apply IsS98.set_1) | exact HI0.out)); (case side2 => repeat (first | (with_reducible first | exact HB.out | apply below_alloc | apply pw_below_drewN | apply below_drew1 | refine below_set ?_ (IsS98.ge HI0.out)) | exact HB.out)); rintro e w10 ⟨rfl, hi, hb, hk⟩; refine ⟨_, rfl, ?_⟩; have n0_ := Aside0.mk (KeepBut.trans zq3 hk (.inl rfl)); have n1_ := Aside0.mk (hb); have n2_ := Aside0.mk (hi); clear HK; clear HB; clear HI0; have HK := n0_; have HB := n1_; have HI0 := n2_; clear n0_ n1_ n2_; (try clear hb); (try clear hb2); (try clear hk); (try clear hi)))
    go_ret
    exact ⟨by first | rfl | (simp [errW_none, errW_some] <;> rfl) | (simp only [← hji6]; first | rfl | (simp [errW_none, errW_some] <;> rfl)) | (simp [*, errW_none, errW_some] <;> rfl), zq4, zq6, zq3⟩
   ·rw [if_neg c8] at H
    exact absurd H zq81
  ·rw [if_neg c7] at H
   exact absurd H zq81
 ·rw [if_neg c5] at H
  have c5b0 : (t193 == 0) = false := beq_eq_false_iff_ne.mpr c5
  have c5b1 : (t193 != 0) = true := bne_iff_ne.mpr c5
  by_cases c11 : t193 = 1
  ·rw [if_pos c11] at H
   have c11b0 : (t193 == 1) = true := beq_iff_eq.mpr c11
   have c11b1 : (t193 != 1) = false := bne_eq_false_iff_eq.mpr c11
   clear c11
   obtain ⟨ji12, hji12⟩ : ∃ j_ : Int, (wrap64 (Int.tdiv (wrap64 (t191 * (wrap64 ((a1.size : Int) + 1)))) 256)) = j_ := ⟨_, rfl⟩
   replace H : (if 0 ≤ (ji12) then (if (ji12) ≤ (a1.size : Int) then ((some (([(⟨#[32]⟩ : ByteArray), (⟨#[10]⟩ : ByteArray), (⟨#[34]⟩ : ByteArray), (⟨#[92]⟩ : ByteArray), (⟨#[48]⟩ : ByteArray), (⟨#[120]⟩ : ByteArray), (⟨#[47]⟩ : ByteArray), (⟨#[0]⟩ : ByteArray), (⟨#[128]⟩ : ByteArray), (⟨#[42]⟩ : ByteArray)] : List ByteArray) : List ByteArray)).bind fun y195 => ((spec_l1Rd_pick.f k s0_0 t194 10).bind fun bt198 => (if 0 ≤ bt198.1 then (if bt198.1 < (y195.length : Int) then (if (a1.extract 0 ((ji12) : Int).toNat).size + (rdOf ByteArray.empty y195 bt198.1).size ≤ 9223372036854775807 then (if ((a1.extract 0 ((ji12) : Int).toNat) ++ (rdOf ByteArray.empty y195 bt198.1)).size + (a1.extract ((ji12) : Int).toNat a1.size).size ≤ 9223372036854775807 then (some (((a1.extract 0 ((ji12) : Int).toNat) ++ (rdOf ByteArray.empty y195 bt198.1)) ++ (a1.extract ((ji12) : Int).toNat a1.size), bt198.2)) else (none)) else (none)) else (none)) else (none)))) else (none)) else (none)) = some (r1, r2) := by first | (rw [hji12] at H; exact H) | (simp only [hji12] at H ⊢; exact H)
   (try rw [hji12] at A3)
   (try rw [hji12] at A4)
   have hji12w : (IntKind.i64.wrap (Int.tdiv (wrap64 (t191 * (wrap64 ((a1.size : Int) + 1)))) 256)) = ji12 := (i64_w _).trans hji12
   by_cases c13 : 0 ≤ (ji12)
   ·rw [if_pos c13] at H
    have c13b0 := eq_true c13
    have c13b1 : decide (0 ≤ (ji12)) = true := decide_eq_true c13
    clear c13
    by_cases c14 : (ji12) ≤ (a1.size : Int)
    ·rw [if_pos c14] at H
     have c14b0 := eq_true c14
     have c14b1 : decide ((ji12) ≤ (a1.size : Int)) = true := decide_eq_true c14
     clear c14
     obtain ⟨y195, hy195⟩ : ∃ y_ : List ByteArray, y_ = (([(⟨#[32]⟩ : ByteArray), (⟨#[10]⟩ : ByteArray), (⟨#[34]⟩ : ByteArray), (⟨#[92]⟩ : ByteArray), (⟨#[48]⟩ : ByteArray), (⟨#[120]⟩ : ByteArray), (⟨#[47]⟩ : ByteArray), (⟨#[0]⟩ : ByteArray), (⟨#[128]⟩ : ByteArray), (⟨#[42]⟩ : ByteArray)] : List ByteArray)) := ⟨_, rfl⟩
     replace H : ((spec_l1Rd_pick.f k s0_0 t194 10).bind fun bt198 => (if 0 ≤ bt198.1 then (if bt198.1 < (y195.length : Int) then (if (a1.extract 0 ((ji12) : Int).toNat).size + (rdOf ByteArray.empty y195 bt198.1).size ≤ 9223372036854775807 then (if ((a1.extract 0 ((ji12) : Int).toNat) ++ (rdOf ByteArray.empty y195 bt198.1)).size + (a1.extract ((ji12) : Int).toNat a1.size).size ≤ 9223372036854775807 then (some (((a1.extract 0 ((ji12) : Int).toNat) ++ (rdOf ByteArray.empty y195 bt198.1)) ++ (a1.extract ((ji12) : Int).toNat a1.size), bt198.2)) else (none)) else (none)) else (none)) else (none))) = some (r1, r2) := by first | (rw [hy195]; with_reducible exact H) | (have H2_ := (Option.bind_some _ _).symm.trans H; rw [hy195]; with_reducible exact H2_) | (have H2_ := (Option.bind_some _ _).symm.trans H; with_reducible exact H2_) | with_reducible exact H | (rw [hy195]; exact H) | exact H
     have Ny195 := Aside0.mk hy195
     clear hy195
     replace H := Option.bind_eq_some_iff.mp H
     obtain ⟨⟨t198, t199⟩, A150, H⟩ := H
     try dsimp only at H
     have A15 := Aside0.mk A150
     clear A150
     by_cases c16 : 0 ≤ t198
     ·rw [if_pos c16] at H
      have c16b0 : decide (0 ≤ t198) = true := decide_eq_true c16
      clear c16
      by_cases c17 : t198 < (y195.length : Int)
      ·rw [if_pos c17] at H
       have c17b0 : decide (t198 < (y195.length : Int)) = true := decide_eq_true c17
       clear c17
       by_cases c18 : (a1.extract 0 ((ji12) : Int).toNat).size + (rdOf ByteArray.empty y195 t198).size ≤ 9223372036854775807
       ·rw [if_pos c18] at H
        have c18b0 := eq_true c18
        have c18b1 : decide ((a1.extract 0 ((ji12) : Int).toNat).size + (rdOf ByteArray.empty y195 t198).size ≤ 9223372036854775807) = true := decide_eq_true c18
        try have c18b2 : (9223372036854775807 < (a1.extract 0 ((ji12) : Int).toNat).size + (rdOf ByteArray.empty y195 t198).size) = False := eq_false (Nat.not_lt.2 c18)
        have c18n : (ji12).toNat + (rdOf ByteArray.empty y195 t198).size ≤ 9223372036854775807 := (by have h_ := c18; simp only [ByteArray.size_append, ByteArray.size_extract] at h_; (try have z0_ := of_eq_true c7b0); (try have z1_ := of_eq_true c8b0); (try have z2_ := of_eq_true c13b0); (try have z3_ := of_eq_true c14b0); (try have z4_ := of_eq_true c18b0); omega)
        try have c18m : (9223372036854775807 < (ji12).toNat + (rdOf ByteArray.empty y195 t198).size) = False := eq_false (Nat.not_lt.2 c18n)
        have c19b0 := eq_true (of_decide_eq_true zq23 : 0 ≤ (ji12))
        have c20b0 := eq_true (of_decide_eq_true zq23 : (ji12) ≤ (a1.size : Int))
        by_cases c21 : ((a1.extract 0 ((ji12) : Int).toNat) ++ (rdOf ByteArray.empty y195 t198)).size + (a1.extract ((ji12) : Int).toNat a1.size).size ≤ 9223372036854775807
        ·rw [if_pos c21] at H
         have c21b0 := eq_true c21
         have c21b1 : decide (((a1.extract 0 ((ji12) : Int).toNat) ++ (rdOf ByteArray.empty y195 t198)).size + (a1.extract ((ji12) : Int).toNat a1.size).size ≤ 9223372036854775807) = true := decide_eq_true c21
         try have c21b2 : (9223372036854775807 < ((a1.extract 0 ((ji12) : Int).toNat) ++ (rdOf ByteArray.empty y195 t198)).size + (a1.extract ((ji12) : Int).toNat a1.size).size) = False := eq_false (Nat.not_lt.2 c21)
         have c21n : ((ji12).toNat + ((rdOf ByteArray.empty y195 t198)).size) + (a1.size - (ji12).toNat) ≤ 9223372036854775807 := (by have h_ := c21; simp only [ByteArray.size_append, ByteArray.size_extract] at h_; (try have z0_ := of_eq_true c7b0); (try have z1_ := of_eq_true c8b0); (try have z2_ := of_eq_true c13b0); (try have z3_ := of_eq_true c14b0); (try have z4_ := of_eq_true c18b0); (try have z5_ := of_eq_true c21b0); omega)
         try have c21m : (9223372036854775807 < ((ji12).toNat + ((rdOf ByteArray.empty y195 t198)).size) + (a1.size - (ji12).toNat)) = False := eq_false (Nat.not_lt.2 c21n)
         simp only [Option.some.injEq, Prod.mk.injEq] at H
         obtain ⟨rfl, rfl⟩ := H
         go_enter Try.func30, Try.ntmps30
         try go_wp2_with (first | ((with_reducible refine gate_callee (f := 29) rfl ?_); refine goesL_ (some 7) rfl rfl Try.func29 zq19 rfl #[.pointer (some ⟨g, 0, none⟩), .int .i64 256] rfl zq0 ?_; (with_reducible refine (spec_l1Rd_pick.calls k g s0_0 s0_1 256 t191 t192 w0 _ ?side1 ?side2 A3.out).mono ?_); (case side1 => repeat (first | (with_reducible first | exact HI0.out | apply IsS98.alloc | apply IsS98.drewN | apply IsS98.drew | apply IsS98.set_1) | exact HI0.out)); (case side2 => repeat (first | (with_reducible first | exact HB.out | apply below_alloc | apply pw_below_drewN | apply below_drew1 | refine below_set ?_ (IsS98.ge HI0.out)) | exact HB.out)); rintro e w22 ⟨rfl, hi, hb, hk⟩; refine ⟨_, rfl, ?_⟩; have n0_ := Aside0.mk (KeepBut.trans zq3 hk (.inl rfl)); have n1_ := Aside0.mk (hb); have n2_ := Aside0.mk (hi); clear HK; clear HB; clear HI0; have HK := n0_; have HB := n1_; have HI0 := n2_; clear n0_ n1_ n2_; (try clear hb); (try clear hb2); (try clear hk); (try clear hi)) | ((with_reducible refine gate_callee (f := 29) rfl ?_); refine goesL_ (some 14) rfl rfl Try.func29 zq19 rfl #[.pointer (some ⟨g, 0, none⟩), .int .i64 5] rfl zq0 ?_; (with_reducible refine (spec_l1Rd_pick.calls k g s0_0 t192 5 t193 t194 w0 _ ?side1 ?side2 A4.out).mono ?_); (case side1 => repeat (first | (with_reducible first | exact HI0.out | apply IsS98.alloc | apply IsS98.drewN | apply IsS98.drew | apply IsS98.set_1) | exact HI0.out)); (case side2 => repeat (first | (with_reducible first | exact HB.out | apply below_alloc | apply pw_below_drewN | apply below_drew1 | refine below_set ?_ (IsS98.ge HI0.out)) | exact HB.out)); rintro e w23 ⟨rfl, hi, hb, hk⟩; refine ⟨_, rfl, ?_⟩; have n0_ := Aside0.mk (KeepBut.trans zq3 hk (.inl rfl)); have n1_ := Aside0.mk (hb); have n2_ := Aside0.mk (hi); clear HK; clear HB; clear HI0; have HK := n0_; have HB := n1_; have HI0 := n2_; clear n0_ n1_ n2_; (try clear hb); (try clear hb2); (try clear hk); (try clear hi)))
         have pi200 : (0 ≤ (t198 : Int)) = True := eq_true (of_decide_eq_true zq23)
         have qi200 : (t198 < (y195.length : Int)) = True := eq_true (of_decide_eq_true zq23)
         have n0_ := Aside0.mk (IsS98.drew HI0.out)
         have n1_ := Aside0.mk (keep_drew HK.out)
         have n2_ := Aside0.mk (below_drew1 HB.out)
         clear HI0
         clear HK
         clear HB
         have HI0 := n0_
         have HK := n1_
         have HB := n2_
         clear n0_ n1_ n2_
         refine start_ (n := 14) (S := fun w' => True) (ds := []) #[false, false, false, false, false, false, false, false, false, false, false, false, false, false] zq19 rfl rfl trivial (fun hHeld => ?_); refine with_tabW spec_l1Bend.tab6 spec_l1Bend.bits6 (fun HT_ HW_ => ?_)
         generalize w23.drew = w24 at HI0 HK HB hHeld ⊢
         refine pure_ (i := 0) (N := some 22) (v := ?_) (a' := ?_) #[true, false, false, false, false, false, false, false, false, false, false, false, false, false] rfl rfl (any_of HT_.out zq19) (fun _ _ _ h => h) (Or.inl ⟨zq90, ?_⟩) ?_ ?_
         rotate_left
         ·intro w'
          go_simp
          with_reducible rfl
         rotate_left
         ·simp only [Act.put, List.setIfInBounds_toArray, List.set_cons_zero, List.set_cons_succ, i64_w, i32_w]
          rfl
         refine pure_ (i := 1) (N := some 23) (v := ?_) (a' := ?_) #[true, true, false, false, false, false, false, false, false, false, false, false, false, false] rfl rfl (any_of HT_.out zq19) (fun _ _ _ h => h) (Or.inl ⟨zq90, ?_⟩) ?_ ?_
         rotate_left
         ·intro w'
          go_simp
          with_reducible rfl
         rotate_left
         ·simp only [Act.put, List.setIfInBounds_toArray, List.set_cons_zero, List.set_cons_succ, i64_w, i32_w]
          rfl
         refine pure_ (i := 4) (N := some 26) (v := ?_) (a' := ?_) #[true, true, false, false, true, false, false, false, false, false, false, false, false, false] rfl rfl (any_of HT_.out zq19) (fun _ _ _ h => h) (Or.inl ⟨zq90, ?_⟩) ?_ ?_
         rotate_left
         ·intro w'
          go_simp
          with_reducible rfl
         rotate_left
         ·simp only [Act.put, List.setIfInBounds_toArray, List.set_cons_zero, List.set_cons_succ, i64_w, i32_w]
          rfl
         refine pure_ (i := 9) (N := some 31) (v := ?_) (a' := ?_) #[true, true, false, false, true, false, false, false, false, true, false, false, false, false] rfl rfl (any_of HT_.out zq19) (fun _ _ _ h => h) (Or.inl ⟨zq90, ?_⟩) ?_ ?_
         rotate_left
         ·intro w'
          go_simp
          with_reducible rfl
         rotate_left
         ·simp only [Act.put, List.setIfInBounds_toArray, List.set_cons_zero, List.set_cons_succ, i64_w, i32_w]
          rfl
         refine pure_ (i := 10) (N := some 32) (v := ?_) (a' := ?_) #[true, true, false, false, true, false, false, false, false, true, true, false, false, false] rfl rfl (any_of HT_.out zq19) (fun _ _ _ h => h) (Or.inl ⟨zq90, ?_⟩) ?_ ?_
         rotate_left
         ·intro w'
          go_simp
          with_reducible rfl
         rotate_left
         ·simp only [Act.put, List.setIfInBounds_toArray, List.set_cons_zero, List.set_cons_succ, i64_w, i32_w]
          rfl
         refine inv_at [2, 3, 5, 6, 7, 8, 11, 12, 13] (fun a0_ b a w' => ∃ (v196 : Value) (adz_v196 : Addr) (m6_ : Value), a = putSel a0_ b [(2, 24, .string (a1.extract 0 ((ji12) : Int).toNat)), (3, 25, v196), (5, 27, .int .i64 t198), (6, 28, m6_), (7, 29, .string (rdOf ByteArray.empty y195 t198)), (8, 30, .string ((a1.extract 0 ((ji12) : Int).toNat) ++ (rdOf ByteArray.empty y195 t198))), (11, 33, .string (a1.extract ((ji12) : Int).toNat a1.size)), (12, 34, .string (((a1.extract 0 ((ji12) : Int).toNat) ++ (rdOf ByteArray.empty y195 t198)) ++ (a1.extract ((ji12) : Int).toNat a1.size))), (13, 4, .string (((a1.extract 0 ((ji12) : Int).toNat) ++ (rdOf ByteArray.empty y195 t198)) ++ (a1.extract ((ji12) : Int).toNat a1.size)))] ∧ (b 5 = false → IsS98 w0 w' g s0_0 t194) ∧ (KeepBut w w' g none) ∧ (Below w0.heap.size w0 w') ∧ (b 3 = true → Kd.R Kd.string 9 w' w.heap.size (fun _ => True) v196 y195) ∧ (b 3 = true → ∃ c_, (v196 : Value) = .slice (some adz_v196) y195.length c_) ∧ (b 5 = true → IsS98 w0 w' g s0_0 t199) ∧ (b 6 = true → (m6_ : Value) = .pointer (some (adz_v196.add (t198).toNat)))) HT_.out HW_.out zq19 zq19 ?_ ?_ ?_
         ·exact ⟨.bool false, ⟨0, 0, none⟩, .bool false, by simp only [putSel, Bool.false_eq_true, if_false], fun _ => HI0.out, HK.out, HB.out, fun h_ => absurd h_ zq60, fun h_ => absurd h_ zq60, fun h_ => absurd h_ zq60, fun h_ => absurd h_ zq60⟩
         ·skip
          clear HB HI0 HK
          refine steps_cons ?_ ?_
          ·rintro b a w' ⟨v196, adz_v196, m6_, ha, Q_HI0, Q_HK, Q_HB, Q_HO197, Q_HA_HO197, Q_HI0_e5, Q_X6_⟩ hb_ hon hoff
           refine ⟨_, rfl, fun K hK => ?_⟩
           have e22 : a.tmps[22]? = some (.string a1) := by rw [ha]; exact (putSel_off rfl).trans rfl
           have e23 : a.tmps[23]? = some (.int .i64 ji12) := by rw [ha]; exact (putSel_off rfl).trans rfl
           replace ha := Aside0.mk ha
           have HK := Aside0.mk Q_HK
           have HB := Aside0.mk Q_HB
           refine value_ (w1 := w') (v := .string (a1.extract 0 ((ji12) : Int).toNat)) zq90 rfl ?_ ?_
           ·go_simp
            (try simp only [i64_w])
            try rfl
           refine hK.out _ _ ⟨v196, adz_v196, m6_, (by rw [ha.out]; exact putSel_upk 0 hb_ rfl rfl rfl), Q_HI0, Q_HK, Q_HB, Q_HO197, Q_HA_HO197, Q_HI0_e5, Q_X6_⟩
          refine steps_cons ?_ ?_
          ·rintro b a w' ⟨v196, adz_v196, m6_, ha, Q_HI0, Q_HK, Q_HB, Q_HO197, Q_HA_HO197, Q_HI0_e5, Q_X6_⟩ hb_ hon hoff
           refine ⟨_, rfl, fun K hK => ?_⟩
           replace ha := Aside0.mk ha
           have HK := Aside0.mk Q_HK
           have HB := Aside0.mk Q_HB
           refine Kd.R_lit_step Kd.string _ 9 ?hg (N := 25) ?hd (xs := ([(⟨#[32]⟩ : ByteArray), (⟨#[10]⟩ : ByteArray), (⟨#[34]⟩ : ByteArray), (⟨#[92]⟩ : ByteArray), (⟨#[48]⟩ : ByteArray), (⟨#[120]⟩ : ByteArray), (⟨#[47]⟩ : ByteArray), (⟨#[0]⟩ : ByteArray), (⟨#[128]⟩ : ByteArray), (⟨#[42]⟩ : ByteArray)] : List ByteArray)) (inner := [.string (⟨#[32]⟩ : ByteArray), .string (⟨#[10]⟩ : ByteArray), .string (⟨#[34]⟩ : ByteArray), .string (⟨#[92]⟩ : ByteArray), .string (⟨#[48]⟩ : ByteArray), .string (⟨#[120]⟩ : ByteArray), .string (⟨#[47]⟩ : ByteArray), .string (⟨#[0]⟩ : ByteArray), .string (⟨#[128]⟩ : ByteArray), .string (⟨#[42]⟩ : ByteArray)]) (ok := fun _ => True) (okp := fun _ => True) ?hr ?hp (fun _ hk => hk) trivial (Below.refl _ _) (Nat.le_refl _) zq81 ?_; (case hd => rfl); (case hg => rfl); (case hr => first | (go_simp; done) | (go_simp; rfl)); (case hp => exact (Reps.one (show Kd.M Kd.string _ _ _ (⟨#[32]⟩ : ByteArray) [.string (⟨#[32]⟩ : ByteArray)] from rfl) (Reps.one (show Kd.M Kd.string _ _ _ (⟨#[10]⟩ : ByteArray) [.string (⟨#[10]⟩ : ByteArray)] from rfl) (Reps.one (show Kd.M Kd.string _ _ _ (⟨#[34]⟩ : ByteArray) [.string (⟨#[34]⟩ : ByteArray)] from rfl) (Reps.one (show Kd.M Kd.string _ _ _ (⟨#[92]⟩ : ByteArray) [.string (⟨#[92]⟩ : ByteArray)] from rfl) (Reps.one (show Kd.M Kd.string _ _ _ (⟨#[48]⟩ : ByteArray) [.string (⟨#[48]⟩ : ByteArray)] from rfl) (Reps.one (show Kd.M Kd.string _ _ _ (⟨#[120]⟩ : ByteArray) [.string (⟨#[120]⟩ : ByteArray)] from rfl) (Reps.one (show Kd.M Kd.string _ _ _ (⟨#[47]⟩ : ByteArray) [.string (⟨#[47]⟩ : ByteArray)] from rfl) (Reps.one (show Kd.M Kd.string _ _ _ (⟨#[0]⟩ : ByteArray) [.string (⟨#[0]⟩ : ByteArray)] from rfl) (Reps.one (show Kd.M Kd.string _ _ _ (⟨#[128]⟩ : ByteArray) [.string (⟨#[128]⟩ : ByteArray)] from rfl) (Reps.one (show Kd.M Kd.string _ _ _ (⟨#[42]⟩ : ByteArray) [.string (⟨#[42]⟩ : ByteArray)] from rfl) (Reps.none _ _))))))))))))
           intro v196 w25 ho26 hb hg_ hnew_
           clear hg_ hnew_
           (first | rw [← Ny195.out] at ho26 | (simp only [Int.reduceToNat] at ho26; rw [← Ny195.out] at ho26))
           have n0_ := Aside0.mk (Kd.R_lower ho26 (keep_size (w := w) (g := g) (row := none) zq3))
           have n2_ := Aside0.mk (KeepBut.trans zq3 (KeepBut.of_below hb g none) (.inl rfl))
           have n3_ := Aside0.mk (below_step zq1 hb)
           have z_HI0 := fun (h0_ : b 5 = false) => (show IsS98 w0 w25 g s0_0 t194 from by first | exact (IsS98.below (by repeat (first | (with_reducible first | exact (Q_HI0 h0_) | apply IsS98.alloc | apply IsS98.drewN | apply IsS98.drew | apply IsS98.set_1) | exact (Q_HI0 h0_))) hb))
           have z_HI0_e5 := fun (h0_ : b 5 = true) => (show IsS98 w0 w25 g s0_0 t199 from by first | exact (IsS98.below (by repeat (first | (with_reducible first | exact (Q_HI0_e5 h0_) | apply IsS98.alloc | apply IsS98.drewN | apply IsS98.drew | apply IsS98.set_1) | exact (Q_HI0_e5 h0_))) hb))
           clear HK
           clear HB
           have HO197 := n0_
           have HK := n2_
           have HB := n3_
           clear n0_ n2_ n3_
           clear hb ho26
           obtain ⟨Ao27, co27, eo27⟩ := Kd.R_slice HO197.out
           subst eo27
           obtain ⟨ado27, fo27, _⟩ := Kd.at_string (Kd.R_reads' HO197.out).2.2 0 zq60 (by rw [Ny195.out]; simp)
           cases fo27
           refine hK.out _ _ ⟨.slice (some ado27) y195.length co27, ado27, m6_, (by rw [ha.out]; exact putSel_upk 1 hb_ rfl rfl rfl), z_HI0, zq3, zq1, fun _ => (by (with_reducible repeat (first | apply Kd.R_alloc | apply Kd.R_drewN | apply Kd.R_drew)); exact HO197.out), fun _ => ⟨_, rfl⟩, z_HI0_e5, fun h0_ => absurd ((hoff 6 zq19).symm.trans h0_) zq60⟩
          refine steps_cons ?_ ?_
          ·rintro b a w' ⟨v196, adz_v196, m6_, ha, Q_HI0, Q_HK, Q_HB, Q_HO197, Q_HA_HO197, Q_HI0_e5, Q_X6_⟩ hb_ hon hoff
           refine ⟨_, rfl, fun K hK => ?_⟩
           have e26 : a.tmps[26]? = some (.pointer (some ⟨g, 0, none⟩)) := by rw [ha]; exact (putSel_off rfl).trans rfl
           replace ha := Aside0.mk ha
           have HI0 := Aside0.mk (Q_HI0 hb_)
           have HK := Aside0.mk Q_HK
           have HB := Aside0.mk Q_HB
           refine goes_ Try.func29 zq19 rfl #[.pointer (some ⟨g, 0, none⟩), .int .i64 10] zq90 rfl rfl (by first | (simp only [List.map_toArray, List.map_cons, List.map_nil, Act.eval, Array.getD_eq_getD_getElem?, Option.getD_some, e26]; done) | (simp only [List.map_toArray, List.map_cons, List.map_nil, Act.eval, Array.getD_eq_getD_getElem?, Option.getD_some, e26]; rfl)) ?_
           with_reducible refine (spec_l1Rd_pick.calls k g s0_0 t194 10 t198 t199 w0 _ ?side1 ?side2 A15.out).mono ?_
           (case side1 => repeat (first | (with_reducible first | exact HI0.out | apply IsS98.alloc | apply IsS98.drewN | apply IsS98.drew | apply IsS98.set_1) | exact HI0.out))
           (case side2 => repeat (first | (with_reducible first | exact HB.out | apply below_alloc | apply pw_below_drewN | apply below_drew1 | refine below_set ?_ (IsS98.ge HI0.out)) | exact HB.out))
           rintro e w25 ⟨rfl, hi, hb, hk⟩
           refine ⟨_, rfl, ?_⟩
           have n0_ := Aside0.mk (KeepBut.trans zq3 hk (.inl rfl))
           have n1_ := Aside0.mk (hb)
           have n2_ := Aside0.mk (hi)
           have z_HO197 := fun (h0_ : b 3 = true) => (show Kd.R Kd.string 9 w25 w.heap.size (fun _ => True) v196 y195 from by first | exact (Kd.R_mono (Kd.R_keep (IsS98.apart (show IsS98 w0 _ g s0_0 t194 from zq4) zq103 zq60) hk (fun _ h => h.2)) (fun _ h => h.1)) | exact Kd.R_mono (Kd.R_mono (Kd.R_keep (IsS98.apart (show IsS98 w0 _ g s0_0 t194 from zq4) zq103 zq60) hk (fun _ h => h.2)) (fun _ h => h.1)) (fun _ h_ => by first | trivial | exact h_ | exact h_.1))
           clear HK
           clear HB
           clear HI0
           have HK := n0_
           have HB := n1_
           have HI0 := n2_
           clear n0_ n1_ n2_
           (try clear hb)
           (try clear hb2)
           (try clear hk)
           (try clear hi)
           refine hK.out _ _ ⟨v196, adz_v196, m6_, (by rw [ha.out]; exact putSel_upk 2 hb_ rfl rfl rfl), fun h0_ => absurd ((up_self b 5).symm.trans h0_) zq60, zq3, zq6, z_HO197, Q_HA_HO197, fun _ => zq4, fun h0_ => absurd ((hoff 6 zq19).symm.trans h0_) zq60⟩
          refine steps_cons ?_ ?_
          ·rintro b a w' ⟨v196, adz_v196, m6_, ha, Q_HI0, Q_HK, Q_HB, Q_HO197, Q_HA_HO197, Q_HI0_e5, Q_X6_⟩ hb_ hon hoff
           refine ⟨_, rfl, fun K hK => ?_⟩
           have e25 : a.tmps[25]? = some (v196) := by rw [ha]; exact putSel_on (e := (3, 25, v196)) 1 rfl rfl (hon 3 zq19) rfl
           have e27 : a.tmps[27]? = some (.int .i64 t198) := by rw [ha]; exact putSel_on (e := (5, 27, .int .i64 t198)) 2 rfl rfl (hon 5 zq19) rfl
           replace ha := Aside0.mk ha
           have HK := Aside0.mk Q_HK
           have HB := Aside0.mk Q_HB
           have HO197 := Aside0.mk (Q_HO197 (hon 3 zq19))
           have HA_HO197 := Aside0.mk (Q_HA_HO197 (hon 3 zq19))
           have HI0 := Aside0.mk (Q_HI0_e5 (hon 5 zq19))
           obtain ⟨c_, hv_⟩ := HA_HO197.out
           rw [hv_] at e25
           refine value_ (w1 := w') (v := .pointer (some (adz_v196.add (t198).toNat))) zq90 rfl ?_ ?_
           ·go_simp
            (try simp only [i64_w])
            try rfl
           refine hK.out _ _ ⟨v196, adz_v196, (.pointer (some (adz_v196.add (t198).toNat))), (by rw [ha.out]; exact putSel_upk 3 hb_ rfl rfl rfl), fun h0_ => absurd ((hon 5 zq19).symm.trans h0_) zq60, Q_HK, Q_HB, Q_HO197, Q_HA_HO197, Q_HI0_e5, fun _ => rfl⟩
          refine steps_cons ?_ ?_
          ·rintro b a w' ⟨v196, adz_v196, m6_, ha, Q_HI0, Q_HK, Q_HB, Q_HO197, Q_HA_HO197, Q_HI0_e5, Q_X6_⟩ hb_ hon hoff
           refine ⟨_, rfl, fun K hK => ?_⟩
           have e28 : a.tmps[28]? = some (m6_) := by rw [ha]; exact putSel_on (e := (6, 28, m6_)) 3 rfl rfl (hon 6 zq19) rfl
           rw [Q_X6_ (hon 6 zq19)] at e28
           replace ha := Aside0.mk ha
           have HK := Aside0.mk Q_HK
           have HB := Aside0.mk Q_HB
           have HO197 := Aside0.mk (Q_HO197 (hon 3 zq19))
           have HA_HO197 := Aside0.mk (Q_HA_HO197 (hon 3 zq19))
           have HI0 := Aside0.mk (Q_HI0_e5 (hon 5 zq19))
           obtain ⟨c_, hv_⟩ := HA_HO197.out
           have hF_ := HO197.out
           rw [hv_] at hF_
           obtain ⟨ad_, ea_, hx_⟩ := Kd.at_string (Kd.R_reads' hF_).2.2 t198 (of_eq_true pi200) (of_eq_true qi200)
           cases ea_
           refine value_ (w1 := w') (v := .string (rdOf ByteArray.empty y195 t198)) zq90 rfl ?_ ?_
           ·go_simp
            (try simp only [i64_w])
            try rfl
           refine hK.out _ _ ⟨v196, adz_v196, m6_, (by rw [ha.out]; exact putSel_upk 4 hb_ rfl rfl rfl), fun h0_ => absurd ((hon 5 zq19).symm.trans h0_) zq60, Q_HK, Q_HB, Q_HO197, Q_HA_HO197, Q_HI0_e5, Q_X6_⟩
          refine steps_cons ?_ ?_
          ·rintro b a w' ⟨v196, adz_v196, m6_, ha, Q_HI0, Q_HK, Q_HB, Q_HO197, Q_HA_HO197, Q_HI0_e5, Q_X6_⟩ hb_ hon hoff
           refine ⟨_, rfl, fun K hK => ?_⟩
           have e24 : a.tmps[24]? = some (.string (a1.extract 0 ((ji12) : Int).toNat)) := by rw [ha]; exact putSel_on (e := (2, 24, .string (a1.extract 0 ((ji12) : Int).toNat))) 0 rfl rfl (hon 2 zq19) rfl
           have e29 : a.tmps[29]? = some (.string (rdOf ByteArray.empty y195 t198)) := by rw [ha]; exact putSel_on (e := (7, 29, .string (rdOf ByteArray.empty y195 t198))) 4 rfl rfl (hon 7 zq19) rfl
           replace ha := Aside0.mk ha
           have HK := Aside0.mk Q_HK
           have HB := Aside0.mk Q_HB
           have HO197 := Aside0.mk (Q_HO197 (hon 3 zq19))
           have HA_HO197 := Aside0.mk (Q_HA_HO197 (hon 3 zq19))
           have HI0 := Aside0.mk (Q_HI0_e5 (hon 5 zq19))
           refine value_ (w1 := w') (v := .string ((a1.extract 0 ((ji12) : Int).toNat) ++ (rdOf ByteArray.empty y195 t198))) zq90 rfl ?_ ?_
           ·go_simp
            (try simp only [i64_w])
            try rfl
           refine hK.out _ _ ⟨v196, adz_v196, m6_, (by rw [ha.out]; exact putSel_upk 5 hb_ rfl rfl rfl), fun h0_ => absurd ((hon 5 zq19).symm.trans h0_) zq60, Q_HK, Q_HB, Q_HO197, Q_HA_HO197, Q_HI0_e5, Q_X6_⟩
          refine steps_cons ?_ ?_
          ·rintro b a w' ⟨v196, adz_v196, m6_, ha, Q_HI0, Q_HK, Q_HB, Q_HO197, Q_HA_HO197, Q_HI0_e5, Q_X6_⟩ hb_ hon hoff
           refine ⟨_, rfl, fun K hK => ?_⟩
           have e31 : a.tmps[31]? = some (.string a1) := by rw [ha]; exact (putSel_off rfl).trans rfl
           have e32 : a.tmps[32]? = some (.int .i64 ji12) := by rw [ha]; exact (putSel_off rfl).trans rfl
           replace ha := Aside0.mk ha
           have HK := Aside0.mk Q_HK
           have HB := Aside0.mk Q_HB
           refine value_ (w1 := w') (v := .string (a1.extract ((ji12) : Int).toNat a1.size)) zq90 rfl ?_ ?_
           ·go_simp
            (try simp only [i64_w])
            try rfl
           refine hK.out _ _ ⟨v196, adz_v196, m6_, (by rw [ha.out]; exact putSel_upk 6 hb_ rfl rfl rfl), Q_HI0, Q_HK, Q_HB, Q_HO197, Q_HA_HO197, Q_HI0_e5, Q_X6_⟩
          refine steps_cons ?_ ?_
          ·rintro b a w' ⟨v196, adz_v196, m6_, ha, Q_HI0, Q_HK, Q_HB, Q_HO197, Q_HA_HO197, Q_HI0_e5, Q_X6_⟩ hb_ hon hoff
           refine ⟨_, rfl, fun K hK => ?_⟩
           have e30 : a.tmps[30]? = some (.string ((a1.extract 0 ((ji12) : Int).toNat) ++ (rdOf ByteArray.empty y195 t198))) := by rw [ha]; exact putSel_on (e := (8, 30, .string ((a1.extract 0 ((ji12) : Int).toNat) ++ (rdOf ByteArray.empty y195 t198)))) 5 rfl rfl (hon 8 zq19) rfl
           have e33 : a.tmps[33]? = some (.string (a1.extract ((ji12) : Int).toNat a1.size)) := by rw [ha]; exact putSel_on (e := (11, 33, .string (a1.extract ((ji12) : Int).toNat a1.size))) 6 rfl rfl (hon 11 zq19) rfl
           replace ha := Aside0.mk ha
           have HK := Aside0.mk Q_HK
           have HB := Aside0.mk Q_HB
           have HO197 := Aside0.mk (Q_HO197 (hon 3 zq19))
           have HA_HO197 := Aside0.mk (Q_HA_HO197 (hon 3 zq19))
           have HI0 := Aside0.mk (Q_HI0_e5 (hon 5 zq19))
           refine value_ (w1 := w') (v := .string (((a1.extract 0 ((ji12) : Int).toNat) ++ (rdOf ByteArray.empty y195 t198)) ++ (a1.extract ((ji12) : Int).toNat a1.size))) zq90 rfl ?_ ?_
           ·go_simp
            (try simp only [i64_w])
            try rfl
           refine hK.out _ _ ⟨v196, adz_v196, m6_, (by rw [ha.out]; exact putSel_upk 7 hb_ rfl rfl rfl), fun h0_ => absurd ((hon 5 zq19).symm.trans h0_) zq60, Q_HK, Q_HB, Q_HO197, Q_HA_HO197, Q_HI0_e5, Q_X6_⟩
          refine steps_cons ?_ ?_
          ·rintro b a w' ⟨v196, adz_v196, m6_, ha, Q_HI0, Q_HK, Q_HB, Q_HO197, Q_HA_HO197, Q_HI0_e5, Q_X6_⟩ hb_ hon hoff
           refine ⟨_, rfl, fun K hK => ?_⟩
           have e34 : a.tmps[34]? = some (.string (((a1.extract 0 ((ji12) : Int).toNat) ++ (rdOf ByteArray.empty y195 t198)) ++ (a1.extract ((ji12) : Int).toNat a1.size))) := by rw [ha]; exact putSel_on (e := (12, 34, .string (((a1.extract 0 ((ji12) : Int).toNat) ++ (rdOf ByteArray.empty y195 t198)) ++ (a1.extract ((ji12) : Int).toNat a1.size)))) 7 rfl rfl (hon 12 zq19) rfl
           replace ha := Aside0.mk ha
           have HK := Aside0.mk Q_HK
           have HB := Aside0.mk Q_HB
           have HO197 := Aside0.mk (Q_HO197 (hon 3 zq19))
           have HA_HO197 := Aside0.mk (Q_HA_HO197 (hon 3 zq19))
           have HI0 := Aside0.mk (Q_HI0_e5 (hon 5 zq19))
           refine value_ (w1 := w') (v := .string (((a1.extract 0 ((ji12) : Int).toNat) ++ (rdOf ByteArray.empty y195 t198)) ++ (a1.extract ((ji12) : Int).toNat a1.size))) zq90 rfl ?_ ?_
           ·go_simp
            (try simp only [i64_w])
            try rfl
           refine hK.out _ _ ⟨v196, adz_v196, m6_, (by rw [ha.out]; exact putSel_upk 8 hb_ rfl rfl rfl), fun h0_ => absurd ((hon 5 zq19).symm.trans h0_) zq60, Q_HK, Q_HB, Q_HO197, Q_HA_HO197, Q_HI0_e5, Q_X6_⟩
          exact steps_nil
         rintro b a w29 hall ⟨v196, adz_v196, m6_, ha, Q_HI0, Q_HK, Q_HB, Q_HO197, Q_HA_HO197, Q_HI0_e5, Q_X6_⟩
         clear HB HI0 HK
         have hb2_ := hall 2 zq19
         have hb3_ := hall 3 zq19
         have hb5_ := hall 5 zq19
         have hb6_ := hall 6 zq19
         have hb7_ := hall 7 zq19
         have hb8_ := hall 8 zq19
         have hb11_ := hall 11 zq19
         have hb12_ := hall 12 zq19
         have hb13_ := hall 13 zq19
         subst ha
         obtain rfl := Q_X6_ hb6_
         simp only [putSel, hb2_, hb3_, hb5_, hb6_, hb7_, hb8_, hb11_, hb12_, hb13_, if_true, Act.put, List.setIfInBounds_toArray, List.set_cons_zero, List.set_cons_succ]
         clear Q_HI0
         have HK := Aside0.mk Q_HK
         clear Q_HK
         have HB := Aside0.mk Q_HB
         clear Q_HB
         have HO197 := Aside0.mk (Q_HO197 hb3_)
         clear Q_HO197
         have HA_HO197 := Aside0.mk (Q_HA_HO197 hb3_)
         clear Q_HA_HO197
         have HI0 := Aside0.mk (Q_HI0_e5 hb5_)
         clear Q_HI0_e5
         clear hall hb2_ hb3_ hb5_ hb6_ hb7_ hb8_ hb11_ hb12_ hb13_
         obtain ⟨co30, eo30⟩ := HA_HO197.out
         clear HA_HO197
         subst eo30
         try go_wp2
         go_ret
         exact ⟨by first | rfl | (simp [errW_none, errW_some] <;> rfl) | (simp only [← hji12]; first | rfl | (simp [errW_none, errW_some] <;> rfl)) | (simp [*, errW_none, errW_some] <;> rfl), zq4, zq6, zq3⟩
        ·rw [if_neg c21] at H
         exact absurd H zq81
       ·rw [if_neg c18] at H
        exact absurd H zq81
      ·rw [if_neg c17] at H
       exact absurd H zq81
     ·rw [if_neg c16] at H
      exact absurd H zq81
    ·rw [if_neg c14] at H
     exact absurd H zq81
   ·rw [if_neg c13] at H
    exact absurd H zq81
  ·rw [if_neg c11] at H
   have c11b0 : (t193 == 1) = false := beq_eq_false_iff_ne.mpr c11
   have c11b1 : (t193 != 1) = true := bne_iff_ne.mpr c11
   by_cases c31 : t193 = 2
   ·rw [if_pos c31] at H
    have c31b0 : (t193 == 2) = true := beq_iff_eq.mpr c31
    have c31b1 : (t193 != 2) = false := bne_eq_false_iff_eq.mpr c31
    clear c31
    by_cases c32 : (wrap64 (Int.tdiv (wrap64 (t191 * (wrap64 ((a1.size : Int) + 1)))) 256)) < (a1.size : Int)
    ·rw [if_pos c32] at H
     have c32b0 : decide ((wrap64 (Int.tdiv (wrap64 (t191 * (wrap64 ((a1.size : Int) + 1)))) 256)) < (a1.size : Int)) = true := decide_eq_true c32
     clear c32
     obtain ⟨ji33, hji33⟩ : ∃ j_ : Int, (wrap64 (Int.tdiv (wrap64 (t191 * (wrap64 ((a1.size : Int) + 1)))) 256)) = j_ := ⟨_, rfl⟩
     replace H : (if 0 ≤ (ji33) then (if (ji33) ≤ (a1.size : Int) then (if 0 ≤ (wrap64 ((ji33) + 1)) then (if (wrap64 ((ji33) + 1)) ≤ (a1.size : Int) then (if (a1.extract 0 ((ji33) : Int).toNat).size + (a1.extract ((wrap64 ((ji33) + 1)) : Int).toNat a1.size).size ≤ 9223372036854775807 then (some ((a1.extract 0 ((ji33) : Int).toNat) ++ (a1.extract ((wrap64 ((ji33) + 1)) : Int).toNat a1.size), t194)) else (none)) else (none)) else (none)) else (none)) else (none)) = some (r1, r2) := by first | (rw [hji33] at H; exact H) | (simp only [hji33] at H ⊢; exact H)
     (try rw [hji33] at c32b0)
     (try rw [hji33] at A3)
     (try rw [hji33] at A4)
     have hji33w : (IntKind.i64.wrap (Int.tdiv (wrap64 (t191 * (wrap64 ((a1.size : Int) + 1)))) 256)) = ji33 := (i64_w _).trans hji33
     by_cases c34 : 0 ≤ (ji33)
     ·rw [if_pos c34] at H
      have c34b0 := eq_true c34
      have c34b1 : decide (0 ≤ (ji33)) = true := decide_eq_true c34
      clear c34
      by_cases c35 : (ji33) ≤ (a1.size : Int)
      ·rw [if_pos c35] at H
       have c35b0 := eq_true c35
       have c35b1 : decide ((ji33) ≤ (a1.size : Int)) = true := decide_eq_true c35
       clear c35
       obtain ⟨ji36, hji36⟩ : ∃ j_ : Int, (wrap64 ((ji33) + 1)) = j_ := ⟨_, rfl⟩
       replace H : (if 0 ≤ (ji36) then (if (ji36) ≤ (a1.size : Int) then (if (a1.extract 0 ((ji33) : Int).toNat).size + (a1.extract ((ji36) : Int).toNat a1.size).size ≤ 9223372036854775807 then (some ((a1.extract 0 ((ji33) : Int).toNat) ++ (a1.extract ((ji36) : Int).toNat a1.size), t194)) else (none)) else (none)) else (none)) = some (r1, r2) := by first | (rw [hji36] at H; exact H) | (simp only [hji36] at H ⊢; exact H)
       (try rw [hji36] at A3)
       (try rw [hji36] at A4)
       have hji36w : (IntKind.i64.wrap ((ji33) + 1)) = ji36 := (i64_w _).trans hji36
       by_cases c37 : 0 ≤ (ji36)
       ·rw [if_pos c37] at H
        have c37b0 := eq_true c37
        have c37b1 : decide (0 ≤ (ji36)) = true := decide_eq_true c37
        clear c37
        by_cases c38 : (ji36) ≤ (a1.size : Int)
        ·rw [if_pos c38] at H
         have c38b0 := eq_true c38
         have c38b1 : decide ((ji36) ≤ (a1.size : Int)) = true := decide_eq_true c38
         clear c38
         by_cases c39 : (a1.extract 0 ((ji33) : Int).toNat).size + (a1.extract ((ji36) : Int).toNat a1.size).size ≤ 9223372036854775807
         ·rw [if_pos c39] at H
          have c39b0 := eq_true c39
          have c39b1 : decide ((a1.extract 0 ((ji33) : Int).toNat).size + (a1.extract ((ji36) : Int).toNat a1.size).size ≤ 9223372036854775807) = true := decide_eq_true c39
          try have c39b2 : (9223372036854775807 < (a1.extract 0 ((ji33) : Int).toNat).size + (a1.extract ((ji36) : Int).toNat a1.size).size) = False := eq_false (Nat.not_lt.2 c39)
          have c39n : (ji33).toNat + (a1.size - (ji36).toNat) ≤ 9223372036854775807 := (by have h_ := c39; simp only [ByteArray.size_append, ByteArray.size_extract] at h_; (try have z0_ := of_eq_true c7b0); (try have z1_ := of_eq_true c8b0); (try have z2_ := of_eq_true c13b0); (try have z3_ := of_eq_true c14b0); (try have z4_ := of_eq_true c18b0); (try have z5_ := of_eq_true c21b0); (try have z6_ := of_eq_true c34b0); (try have z7_ := of_eq_true c35b0); (try have z8_ := of_eq_true c37b0); (try have z9_ := of_eq_true c38b0); (try have z10_ := of_eq_true c39b0); omega)
          try have c39m : (9223372036854775807 < (ji33).toNat + (a1.size - (ji36).toNat)) = False := eq_false (Nat.not_lt.2 c39n)
          simp only [Option.some.injEq, Prod.mk.injEq] at H
          obtain ⟨rfl, rfl⟩ := H
          go_enter Try.func30, Try.ntmps30
          try go_wp2_with (first | ((with_reducible refine gate_callee (f := 29) rfl ?_); refine goesL_ (some 7) rfl rfl Try.func29 zq19 rfl #[.pointer (some ⟨g, 0, none⟩), .int .i64 256] rfl zq0 ?_; (with_reducible refine (spec_l1Rd_pick.calls k g s0_0 s0_1 256 t191 t192 w0 _ ?side1 ?side2 A3.out).mono ?_); (case side1 => repeat (first | (with_reducible first | exact HI0.out | apply IsS98.alloc | apply IsS98.drewN | apply IsS98.drew | apply IsS98.set_1) | exact HI0.out)); (case side2 => repeat (first | (with_reducible first | exact HB.out | apply below_alloc | apply pw_below_drewN | apply below_drew1 | refine below_set ?_ (IsS98.ge HI0.out)) | exact HB.out)); rintro e w40 ⟨rfl, hi, hb, hk⟩; refine ⟨_, rfl, ?_⟩; have n0_ := Aside0.mk (KeepBut.trans zq3 hk (.inl rfl)); have n1_ := Aside0.mk (hb); have n2_ := Aside0.mk (hi); clear HK; clear HB; clear HI0; have HK := n0_; have HB := n1_; have HI0 := n2_; clear n0_ n1_ n2_; (try clear hb); (try clear hb2); (try clear hk); (try clear hi)) | ((with_reducible refine gate_callee (f := 29) rfl ?_); refine goesL_ (some 14) rfl rfl Try.func29 zq19 rfl #[.pointer (some ⟨g, 0, none⟩), .int .i64 5] rfl zq0 ?_; (with_reducible refine (spec_l1Rd_pick.calls k g s0_0 t192 5 t193 t194 w0 _ ?side1 ?side2 A4.out).mono ?_); (case side1 => repeat (first | (with_reducible first | exact HI0.out | apply IsS98.alloc | apply IsS98.drewN | apply IsS98.drew | apply IsS98.set_1) | exact HI0.out)); (case side2 => repeat (first | (with_reducible first | exact HB.out | apply below_alloc | apply pw_below_drewN | apply below_drew1 | refine below_set ?_ (IsS98.ge HI0.out)) | exact HB.out)); rintro e w41 ⟨rfl, hi, hb, hk⟩; refine ⟨_, rfl, ?_⟩; have n0_ := Aside0.mk (KeepBut.trans zq3 hk (.inl rfl)); have n1_ := Aside0.mk (hb); have n2_ := Aside0.mk (hi); clear HK; clear HB; clear HI0; have HK := n0_; have HB := n1_; have HI0 := n2_; clear n0_ n1_ n2_; (try clear hb); (try clear hb2); (try clear hk); (try clear hi)))
          have n0_ := Aside0.mk (IsS98.drew HI0.out)
          have n1_ := Aside0.mk (keep_drew HK.out)
          have n2_ := Aside0.mk (below_drew1 HB.out)
          clear HI0
          clear HK
          clear HB
          have HI0 := n0_
          have HK := n1_
          have HB := n2_
          clear n0_ n1_ n2_
          refine start_ (n := 9) (S := fun w' => True) (ds := []) #[false, false, false, false, false, false, false, false, false] zq19 rfl rfl trivial (fun hHeld => ?_); refine with_tabW spec_l1Bend.tab9 spec_l1Bend.bits9 (fun HT_ HW_ => ?_)
          generalize w41.drew = w42 at HI0 HK HB hHeld ⊢
          refine pure_ (i := 0) (N := some 41) (v := ?_) (a' := ?_) #[true, false, false, false, false, false, false, false, false] rfl rfl (any_of HT_.out zq19) (fun _ _ _ h => h) (Or.inl ⟨zq90, ?_⟩) ?_ ?_
          rotate_left
          ·intro w'
           go_simp
           with_reducible rfl
          rotate_left
          ·simp only [Act.put, List.setIfInBounds_toArray, List.set_cons_zero, List.set_cons_succ, i64_w, i32_w]
           rfl
          refine pure_ (i := 1) (N := some 42) (v := ?_) (a' := ?_) #[true, true, false, false, false, false, false, false, false] rfl rfl (any_of HT_.out zq19) (fun _ _ _ h => h) (Or.inl ⟨zq90, ?_⟩) ?_ ?_
          rotate_left
          ·intro w'
           go_simp
           with_reducible rfl
          rotate_left
          ·simp only [Act.put, List.setIfInBounds_toArray, List.set_cons_zero, List.set_cons_succ, i64_w, i32_w]
           rfl
          refine pure_ (i := 2) (N := some 43) (v := ?_) (a' := ?_) #[true, true, true, false, false, false, false, false, false] rfl rfl (any_of HT_.out zq19) (fun _ _ _ h => h) (Or.inl ⟨zq90, ?_⟩) ?_ ?_
          rotate_left
          ·intro w'
           go_simp
           with_reducible rfl
          rotate_left
          ·simp only [Act.put, List.setIfInBounds_toArray, List.set_cons_zero, List.set_cons_succ, i64_w, i32_w]
           rfl
          refine pure_ (i := 3) (N := some 44) (v := ?_) (a' := ?_) #[true, true, true, true, false, false, false, false, false] rfl rfl (any_of HT_.out zq19) (fun _ _ _ h => h) (Or.inl ⟨zq90, ?_⟩) ?_ ?_
          rotate_left
          ·intro w'
           go_simp
           with_reducible rfl
          rotate_left
          ·simp only [Act.put, List.setIfInBounds_toArray, List.set_cons_zero, List.set_cons_succ, i64_w, i32_w]
           rfl
          refine pure_ (i := 4) (N := some 45) (v := ?_) (a' := ?_) #[true, true, true, true, true, false, false, false, false] rfl rfl (any_of HT_.out zq19) (fun _ _ _ h => h) (Or.inl ⟨zq90, ?_⟩) ?_ ?_
          rotate_left
          ·intro w'
           go_simp
           with_reducible rfl
          rotate_left
          ·simp only [Act.put, List.setIfInBounds_toArray, List.set_cons_zero, List.set_cons_succ, i64_w, i32_w]
           rfl
          refine pure_ (i := 5) (N := some 46) (v := ?_) (a' := ?_) #[true, true, true, true, true, true, false, false, false] rfl rfl (any_of HT_.out zq19) (fun _ _ _ h => h) (Or.inl ⟨zq90, ?_⟩) ?_ ?_
          rotate_left
          ·intro w'
           go_simp
           with_reducible rfl
          rotate_left
          ·simp only [Act.put, List.setIfInBounds_toArray, List.set_cons_zero, List.set_cons_succ, i64_w, i32_w]
           rfl
          refine pure_ (i := 6) (N := some 47) (v := ?_) (a' := ?_) #[true, true, true, true, true, true, true, false, false] rfl rfl (any_of HT_.out zq19) (fun _ _ _ h => h) (Or.inl ⟨zq90, ?_⟩) ?_ ?_
          rotate_left
          ·intro w'
           go_simp
           with_reducible rfl
          rotate_left
          ·simp only [Act.put, List.setIfInBounds_toArray, List.set_cons_zero, List.set_cons_succ, i64_w, i32_w]
           rfl
          refine pure_ (i := 7) (N := some 48) (v := ?_) (a' := ?_) #[true, true, true, true, true, true, true, true, false] rfl rfl (any_of HT_.out zq19) (fun _ _ _ h => h) (Or.inl ⟨zq90, ?_⟩) ?_ ?_
          rotate_left
          ·intro w'
           go_simp
           with_reducible rfl
          rotate_left
          ·simp only [Act.put, List.setIfInBounds_toArray, List.set_cons_zero, List.set_cons_succ, i64_w, i32_w]
           rfl
          refine pure_ (i := 8) (N := some 4) (v := ?_) (a' := ?_) #[true, true, true, true, true, true, true, true, true] rfl rfl (any_of HT_.out zq19) (fun _ _ _ h => h) (Or.inl ⟨zq90, ?_⟩) ?_ ?_
          rotate_left
          ·intro w'
           go_simp
           with_reducible rfl
          rotate_left
          ·simp only [Act.put, List.setIfInBounds_toArray, List.set_cons_zero, List.set_cons_succ, i64_w, i32_w]
           rfl
          refine done_ (done_of HT_.out zq19) ?_
          try go_wp2
          go_ret
          exact ⟨by first | rfl | (simp [errW_none, errW_some] <;> rfl) | (simp only [← hji33, ← hji36]; first | rfl | (simp [errW_none, errW_some] <;> rfl)) | (simp [*, errW_none, errW_some] <;> rfl), zq4, zq6, zq3⟩
         ·rw [if_neg c39] at H
          exact absurd H zq81
        ·rw [if_neg c38] at H
         exact absurd H zq81
       ·rw [if_neg c37] at H
        exact absurd H zq81
      ·rw [if_neg c35] at H
       exact absurd H zq81
     ·rw [if_neg c34] at H
      exact absurd H zq81
    ·rw [if_neg c32] at H
     have c32b0 : decide ((wrap64 (Int.tdiv (wrap64 (t191 * (wrap64 ((a1.size : Int) + 1)))) 256)) < (a1.size : Int)) = false := decide_eq_false c32
     clear c32
     obtain ⟨ji43, hji43⟩ : ∃ j_ : Int, (wrap64 (Int.tdiv (wrap64 (t191 * (wrap64 ((a1.size : Int) + 1)))) 256)) = j_ := ⟨_, rfl⟩
     replace H : (if 0 ≤ (ji43) then (if (ji43) ≤ (a1.size : Int) then (if a1.size + (a1.extract ((ji43) : Int).toNat a1.size).size ≤ 9223372036854775807 then (some (a1 ++ (a1.extract ((ji43) : Int).toNat a1.size), t194)) else (none)) else (none)) else (none)) = some (r1, r2) := by first | (rw [hji43] at H; exact H) | (simp only [hji43] at H ⊢; exact H)
     (try rw [hji43] at c32b0)
     (try rw [hji43] at A3)
     (try rw [hji43] at A4)
     have hji43w : (IntKind.i64.wrap (Int.tdiv (wrap64 (t191 * (wrap64 ((a1.size : Int) + 1)))) 256)) = ji43 := (i64_w _).trans hji43
     by_cases c44 : 0 ≤ (ji43)
     ·rw [if_pos c44] at H
      have c44b0 := eq_true c44
      have c44b1 : decide (0 ≤ (ji43)) = true := decide_eq_true c44
      clear c44
      by_cases c45 : (ji43) ≤ (a1.size : Int)
      ·rw [if_pos c45] at H
       have c45b0 := eq_true c45
       have c45b1 : decide ((ji43) ≤ (a1.size : Int)) = true := decide_eq_true c45
       clear c45
       by_cases c46 : a1.size + (a1.extract ((ji43) : Int).toNat a1.size).size ≤ 9223372036854775807
       ·rw [if_pos c46] at H
        have c46b0 := eq_true c46
        have c46b1 : decide (a1.size + (a1.extract ((ji43) : Int).toNat a1.size).size ≤ 9223372036854775807) = true := decide_eq_true c46
        try have c46b2 : (9223372036854775807 < a1.size + (a1.extract ((ji43) : Int).toNat a1.size).size) = False := eq_false (Nat.not_lt.2 c46)
        have c46n : a1.size + (a1.size - (ji43).toNat) ≤ 9223372036854775807 := (by have h_ := c46; simp only [ByteArray.size_append, ByteArray.size_extract] at h_; (try have z0_ := of_eq_true c13b0); (try have z1_ := of_eq_true c14b0); (try have z2_ := of_eq_true c18b0); (try have z3_ := of_eq_true c21b0); (try have z4_ := of_eq_true c34b0); (try have z5_ := of_eq_true c35b0); (try have z6_ := of_eq_true c37b0); (try have z7_ := of_eq_true c38b0); (try have z8_ := of_eq_true c39b0); (try have z9_ := of_eq_true c44b0); (try have z10_ := of_eq_true c45b0); (try have z11_ := of_eq_true c46b0); omega)
        try have c46m : (9223372036854775807 < a1.size + (a1.size - (ji43).toNat)) = False := eq_false (Nat.not_lt.2 c46n)
        simp only [Option.some.injEq, Prod.mk.injEq] at H
        obtain ⟨rfl, rfl⟩ := H
        go_enter Try.func30, Try.ntmps30
        go_wp2_with (first | ((with_reducible refine gate_callee (f := 29) rfl ?_); refine goesL_ (some 7) rfl rfl Try.func29 zq19 rfl #[.pointer (some ⟨g, 0, none⟩), .int .i64 256] rfl zq0 ?_; (with_reducible refine (spec_l1Rd_pick.calls k g s0_0 s0_1 256 t191 t192 w0 _ ?side1 ?side2 A3.out).mono ?_); (case side1 => repeat (first | (with_reducible first | exact HI0.out | apply IsS98.alloc | apply IsS98.drewN | apply IsS98.drew | apply IsS98.set_1) | exact HI0.out)); (case side2 => repeat (first | (with_reducible first | exact HB.out | apply below_alloc | apply pw_below_drewN | apply below_drew1 | refine below_set ?_ (IsS98.ge HI0.out)) | exact HB.out)); rintro e w47 ⟨rfl, hi, hb, hk⟩; refine ⟨_, rfl, ?_⟩; have n0_ := Aside0.mk (KeepBut.trans zq3 hk (.inl rfl)); have n1_ := Aside0.mk (hb); have n2_ := Aside0.mk (hi); clear HK; clear HB; clear HI0; have HK := n0_; have HB := n1_; have HI0 := n2_; clear n0_ n1_ n2_; (try clear hb); (try clear hb2); (try clear hk); (try clear hi)) | ((with_reducible refine gate_callee (f := 29) rfl ?_); refine goesL_ (some 14) rfl rfl Try.func29 zq19 rfl #[.pointer (some ⟨g, 0, none⟩), .int .i64 5] rfl zq0 ?_; (with_reducible refine (spec_l1Rd_pick.calls k g s0_0 t192 5 t193 t194 w0 _ ?side1 ?side2 A4.out).mono ?_); (case side1 => repeat (first | (with_reducible first | exact HI0.out | apply IsS98.alloc | apply IsS98.drewN | apply IsS98.drew | apply IsS98.set_1) | exact HI0.out)); (case side2 => repeat (first | (with_reducible first | exact HB.out | apply below_alloc | apply pw_below_drewN | apply below_drew1 | refine below_set ?_ (IsS98.ge HI0.out)) | exact HB.out)); rintro e w48 ⟨rfl, hi, hb, hk⟩; refine ⟨_, rfl, ?_⟩; have n0_ := Aside0.mk (KeepBut.trans zq3 hk (.inl rfl)); have n1_ := Aside0.mk (hb); have n2_ := Aside0.mk (hi); clear HK; clear HB; clear HI0; have HK := n0_; have HB := n1_; have HI0 := n2_; clear n0_ n1_ n2_; (try clear hb); (try clear hb2); (try clear hk); (try clear hi)))
        go_ret
        exact ⟨by first | rfl | (simp [errW_none, errW_some] <;> rfl) | (simp only [← hji43]; first | rfl | (simp [errW_none, errW_some] <;> rfl)) | (simp [*, errW_none, errW_some] <;> rfl), zq4, zq6, zq3⟩
       ·rw [if_neg c46] at H
        exact absurd H zq81
      ·rw [if_neg c45] at H
       exact absurd H zq81
     ·rw [if_neg c44] at H
      exact absurd H zq81
   ·rw [if_neg c31] at H
    have c31b0 : (t193 == 2) = false := beq_eq_false_iff_ne.mpr c31
    have c31b1 : (t193 != 2) = true := bne_iff_ne.mpr c31
    by_cases c49 : t193 = 3
    ·rw [if_pos c49] at H
     have c49b0 : (t193 == 3) = true := beq_iff_eq.mpr c49
     have c49b1 : (t193 != 3) = false := bne_eq_false_iff_eq.mpr c49
     clear c49
     by_cases c50 : (wrap64 (Int.tdiv (wrap64 (t191 * (wrap64 ((a1.size : Int) + 1)))) 256)) < (a1.size : Int)
     ·rw [if_pos c50] at H
      have c50b0 : decide ((wrap64 (Int.tdiv (wrap64 (t191 * (wrap64 ((a1.size : Int) + 1)))) 256)) < (a1.size : Int)) = true := decide_eq_true c50
      clear c50
      obtain ⟨ji51, hji51⟩ : ∃ j_ : Int, (wrap64 (Int.tdiv (wrap64 (t191 * (wrap64 ((a1.size : Int) + 1)))) 256)) = j_ := ⟨_, rfl⟩
      replace H : (if 0 ≤ (ji51) then (if (ji51) ≤ (a1.size : Int) then ((spec_l1Rd_pick.f k s0_0 t194 8).bind fun bt201 => (if 0 ≤ (IntKind.u64.wrap (bt201.1)) then ((some (([(Go.bits .xor .i64 (wrap64 (bt a1 (ji51))) (shl .i64 1 (IntKind.u64.wrap (bt201.1)))) % 256] : List Int) : List Int)).bind fun y203 => (if (a1.extract 0 ((ji51) : Int).toNat).size + (strOfNums y203).size ≤ 9223372036854775807 then (if 0 ≤ (wrap64 ((ji51) + 1)) then (if (wrap64 ((ji51) + 1)) ≤ (a1.size : Int) then (if ((a1.extract 0 ((ji51) : Int).toNat) ++ (strOfNums y203)).size + (a1.extract ((wrap64 ((ji51) + 1)) : Int).toNat a1.size).size ≤ 9223372036854775807 then (some (((a1.extract 0 ((ji51) : Int).toNat) ++ (strOfNums y203)) ++ (a1.extract ((wrap64 ((ji51) + 1)) : Int).toNat a1.size), bt201.2)) else (none)) else (none)) else (none)) else (none))) else (none))) else (none)) else (none)) = some (r1, r2) := by first | (rw [hji51] at H; exact H) | (simp only [hji51] at H ⊢; exact H)
      (try rw [hji51] at c50b0)
      (try rw [hji51] at A3)
      (try rw [hji51] at A4)
      have hji51w : (IntKind.i64.wrap (Int.tdiv (wrap64 (t191 * (wrap64 ((a1.size : Int) + 1)))) 256)) = ji51 := (i64_w _).trans hji51
      by_cases c52 : 0 ≤ (ji51)
      ·rw [if_pos c52] at H
       have c52b0 := eq_true c52
       have c52b1 : decide (0 ≤ (ji51)) = true := decide_eq_true c52
       clear c52
       by_cases c53 : (ji51) ≤ (a1.size : Int)
       ·rw [if_pos c53] at H
        have c53b0 := eq_true c53
        have c53b1 : decide ((ji51) ≤ (a1.size : Int)) = true := decide_eq_true c53
        clear c53
        replace H := Option.bind_eq_some_iff.mp H
        obtain ⟨⟨t201, t202⟩, A550, H⟩ := H
        try dsimp only at H
        have A55 := Aside0.mk A550
        clear A550
        obtain ⟨ji56, hji56⟩ : ∃ j_ : Int, (IntKind.u64.wrap (t201)) = j_ := ⟨_, rfl⟩
        replace H : (if 0 ≤ (ji56) then ((some (([(Go.bits .xor .i64 (wrap64 (bt a1 (ji51))) (shl .i64 1 (ji56))) % 256] : List Int) : List Int)).bind fun y203 => (if (a1.extract 0 ((ji51) : Int).toNat).size + (strOfNums y203).size ≤ 9223372036854775807 then (if 0 ≤ (wrap64 ((ji51) + 1)) then (if (wrap64 ((ji51) + 1)) ≤ (a1.size : Int) then (if ((a1.extract 0 ((ji51) : Int).toNat) ++ (strOfNums y203)).size + (a1.extract ((wrap64 ((ji51) + 1)) : Int).toNat a1.size).size ≤ 9223372036854775807 then (some (((a1.extract 0 ((ji51) : Int).toNat) ++ (strOfNums y203)) ++ (a1.extract ((wrap64 ((ji51) + 1)) : Int).toNat a1.size), t202)) else (none)) else (none)) else (none)) else (none))) else (none)) = some (r1, r2) := by first | (rw [hji56] at H; exact H) | (simp only [hji56] at H ⊢; exact H)
        (try rw [hji56] at A3)
        (try rw [hji56] at A4)
        (try rw [hji56] at A55)
        by_cases c57 : 0 ≤ (ji56)
        ·rw [if_pos c57] at H
         have c57b0 := eq_true c57
         have c57b1 : decide (0 ≤ (ji56)) = true := decide_eq_true c57
         clear c57
         obtain ⟨ji58, hji58⟩ : ∃ j_ : Int, (shl .i64 1 (ji56)) = j_ := ⟨_, rfl⟩
         replace H : ((some (([(Go.bits .xor .i64 (wrap64 (bt a1 (ji51))) (ji58)) % 256] : List Int) : List Int)).bind fun y203 => (if (a1.extract 0 ((ji51) : Int).toNat).size + (strOfNums y203).size ≤ 9223372036854775807 then (if 0 ≤ (wrap64 ((ji51) + 1)) then (if (wrap64 ((ji51) + 1)) ≤ (a1.size : Int) then (if ((a1.extract 0 ((ji51) : Int).toNat) ++ (strOfNums y203)).size + (a1.extract ((wrap64 ((ji51) + 1)) : Int).toNat a1.size).size ≤ 9223372036854775807 then (some (((a1.extract 0 ((ji51) : Int).toNat) ++ (strOfNums y203)) ++ (a1.extract ((wrap64 ((ji51) + 1)) : Int).toNat a1.size), t202)) else (none)) else (none)) else (none)) else (none))) = some (r1, r2) := by first | (rw [hji58] at H; exact H) | (simp only [hji58] at H ⊢; exact H)
         (try rw [hji58] at A3)
         (try rw [hji58] at A4)
         (try rw [hji58] at A55)
         have hji58_ : (IntKind.i64.wrap (1 * 2 ^ min (ji56).toNat 64)) = ji58 := hji58
         have hji58z : (ji56) ≤ 64 → (IntKind.i64.wrap (1 * 2 ^ (ji56).toNat)) = ji58 := shl_small hji58
         have hji58u : (IntKind.i64.wrap (2 ^ min (ji56).toNat 64)) = ji58 := by have h_ := hji58_; rw [Int.one_mul] at h_; exact h_
         have hji58v : (ji56) ≤ 64 → (IntKind.i64.wrap (2 ^ (ji56).toNat)) = ji58 := fun hle_ => by have h_ := hji58z hle_; rw [Int.one_mul] at h_; exact h_
         have hji58y : (wrap64 (1 * 2 ^ min (ji56).toNat 64)) = ji58 := (i64_w _).symm.trans hji58_
         have hji58x : (ji56) ≤ 64 → (wrap64 (1 * 2 ^ (ji56).toNat)) = ji58 := fun h_ => (i64_w _).symm.trans (hji58z h_)
         obtain ⟨y203, hy203⟩ : ∃ y_ : List Int, y_ = (([(Go.bits .xor .i64 (wrap64 (bt a1 (ji51))) (ji58)) % 256] : List Int)) := ⟨_, rfl⟩
         replace H : (if (a1.extract 0 ((ji51) : Int).toNat).size + (strOfNums y203).size ≤ 9223372036854775807 then (if 0 ≤ (wrap64 ((ji51) + 1)) then (if (wrap64 ((ji51) + 1)) ≤ (a1.size : Int) then (if ((a1.extract 0 ((ji51) : Int).toNat) ++ (strOfNums y203)).size + (a1.extract ((wrap64 ((ji51) + 1)) : Int).toNat a1.size).size ≤ 9223372036854775807 then (some (((a1.extract 0 ((ji51) : Int).toNat) ++ (strOfNums y203)) ++ (a1.extract ((wrap64 ((ji51) + 1)) : Int).toNat a1.size), t202)) else (none)) else (none)) else (none)) else (none)) = some (r1, r2) := by first | (rw [hy203]; with_reducible exact H) | (have H2_ := (Option.bind_some _ _).symm.trans H; rw [hy203]; with_reducible exact H2_) | (have H2_ := (Option.bind_some _ _).symm.trans H; with_reducible exact H2_) | with_reducible exact H | (rw [hy203]; exact H) | exact H
         have Ny203 := Aside0.mk hy203
         clear hy203
         by_cases c59 : (a1.extract 0 ((ji51) : Int).toNat).size + (strOfNums y203).size ≤ 9223372036854775807
         ·rw [if_pos c59] at H
          have c59b0 := eq_true c59
          have c59b1 : decide ((a1.extract 0 ((ji51) : Int).toNat).size + (strOfNums y203).size ≤ 9223372036854775807) = true := decide_eq_true c59
          try have c59b2 : (9223372036854775807 < (a1.extract 0 ((ji51) : Int).toNat).size + (strOfNums y203).size) = False := eq_false (Nat.not_lt.2 c59)
          have c59n : (ji51).toNat + (strOfNums y203).size ≤ 9223372036854775807 := (by have h_ := c59; simp only [ByteArray.size_append, ByteArray.size_extract] at h_; (try have z0_ := of_eq_true c34b0); (try have z1_ := of_eq_true c35b0); (try have z2_ := of_eq_true c37b0); (try have z3_ := of_eq_true c38b0); (try have z4_ := of_eq_true c39b0); (try have z5_ := of_eq_true c44b0); (try have z6_ := of_eq_true c45b0); (try have z7_ := of_eq_true c46b0); (try have z8_ := of_eq_true c52b0); (try have z9_ := of_eq_true c53b0); (try have z10_ := of_eq_true c57b0); (try have z11_ := of_eq_true c59b0); omega)
          try have c59m : (9223372036854775807 < (ji51).toNat + (strOfNums y203).size) = False := eq_false (Nat.not_lt.2 c59n)
          obtain ⟨ji60, hji60⟩ : ∃ j_ : Int, (wrap64 ((ji51) + 1)) = j_ := ⟨_, rfl⟩
          replace H : (if 0 ≤ (ji60) then (if (ji60) ≤ (a1.size : Int) then (if ((a1.extract 0 ((ji51) : Int).toNat) ++ (strOfNums y203)).size + (a1.extract ((ji60) : Int).toNat a1.size).size ≤ 9223372036854775807 then (some (((a1.extract 0 ((ji51) : Int).toNat) ++ (strOfNums y203)) ++ (a1.extract ((ji60) : Int).toNat a1.size), t202)) else (none)) else (none)) else (none)) = some (r1, r2) := by first | (rw [hji60] at H; exact H) | (simp only [hji60] at H ⊢; exact H)
          (try rw [hji60] at A3)
          (try rw [hji60] at A4)
          (try rw [hji60] at A55)
          have hji60w : (IntKind.i64.wrap ((ji51) + 1)) = ji60 := (i64_w _).trans hji60
          by_cases c61 : 0 ≤ (ji60)
          ·rw [if_pos c61] at H
           have c61b0 := eq_true c61
           have c61b1 : decide (0 ≤ (ji60)) = true := decide_eq_true c61
           clear c61
           by_cases c62 : (ji60) ≤ (a1.size : Int)
           ·rw [if_pos c62] at H
            have c62b0 := eq_true c62
            have c62b1 : decide ((ji60) ≤ (a1.size : Int)) = true := decide_eq_true c62
            clear c62
            by_cases c63 : ((a1.extract 0 ((ji51) : Int).toNat) ++ (strOfNums y203)).size + (a1.extract ((ji60) : Int).toNat a1.size).size ≤ 9223372036854775807
            ·rw [if_pos c63] at H
             have c63b0 := eq_true c63
             have c63b1 : decide (((a1.extract 0 ((ji51) : Int).toNat) ++ (strOfNums y203)).size + (a1.extract ((ji60) : Int).toNat a1.size).size ≤ 9223372036854775807) = true := decide_eq_true c63
             try have c63b2 : (9223372036854775807 < ((a1.extract 0 ((ji51) : Int).toNat) ++ (strOfNums y203)).size + (a1.extract ((ji60) : Int).toNat a1.size).size) = False := eq_false (Nat.not_lt.2 c63)
             have c63n : ((ji51).toNat + ((strOfNums y203)).size) + (a1.size - (ji60).toNat) ≤ 9223372036854775807 := (by have h_ := c63; simp only [ByteArray.size_append, ByteArray.size_extract] at h_; (try have z0_ := of_eq_true c38b0); (try have z1_ := of_eq_true c39b0); (try have z2_ := of_eq_true c44b0); (try have z3_ := of_eq_true c45b0); (try have z4_ := of_eq_true c46b0); (try have z5_ := of_eq_true c52b0); (try have z6_ := of_eq_true c53b0); (try have z7_ := of_eq_true c57b0); (try have z8_ := of_eq_true c59b0); (try have z9_ := of_eq_true c61b0); (try have z10_ := of_eq_true c62b0); (try have z11_ := of_eq_true c63b0); omega)
             try have c63m : (9223372036854775807 < ((ji51).toNat + ((strOfNums y203)).size) + (a1.size - (ji60).toNat)) = False := eq_false (Nat.not_lt.2 c63n)
             simp only [Option.some.injEq, Prod.mk.injEq] at H
             obtain ⟨rfl, rfl⟩ := H
             go_enter Try.func30, Try.ntmps30
             try go_wp2_with (first | ((with_reducible refine gate_callee (f := 29) rfl ?_); refine goesL_ (some 7) rfl rfl Try.func29 zq19 rfl #[.pointer (some ⟨g, 0, none⟩), .int .i64 256] rfl zq0 ?_; (with_reducible refine (spec_l1Rd_pick.calls k g s0_0 s0_1 256 t191 t192 w0 _ ?side1 ?side2 A3.out).mono ?_); (case side1 => repeat (first | (with_reducible first | exact HI0.out | apply IsS98.alloc | apply IsS98.drewN | apply IsS98.drew | apply IsS98.set_1) | exact HI0.out)); (case side2 => repeat (first | (with_reducible first | exact HB.out | apply below_alloc | apply pw_below_drewN | apply below_drew1 | refine below_set ?_ (IsS98.ge HI0.out)) | exact HB.out)); rintro e w64 ⟨rfl, hi, hb, hk⟩; refine ⟨_, rfl, ?_⟩; have n0_ := Aside0.mk (KeepBut.trans zq3 hk (.inl rfl)); have n1_ := Aside0.mk (hb); have n2_ := Aside0.mk (hi); clear HK; clear HB; clear HI0; have HK := n0_; have HB := n1_; have HI0 := n2_; clear n0_ n1_ n2_; (try clear hb); (try clear hb2); (try clear hk); (try clear hi)) | ((with_reducible refine gate_callee (f := 29) rfl ?_); refine goesL_ (some 14) rfl rfl Try.func29 zq19 rfl #[.pointer (some ⟨g, 0, none⟩), .int .i64 5] rfl zq0 ?_; (with_reducible refine (spec_l1Rd_pick.calls k g s0_0 t192 5 t193 t194 w0 _ ?side1 ?side2 A4.out).mono ?_); (case side1 => repeat (first | (with_reducible first | exact HI0.out | apply IsS98.alloc | apply IsS98.drewN | apply IsS98.drew | apply IsS98.set_1) | exact HI0.out)); (case side2 => repeat (first | (with_reducible first | exact HB.out | apply below_alloc | apply pw_below_drewN | apply below_drew1 | refine below_set ?_ (IsS98.ge HI0.out)) | exact HB.out)); rintro e w65 ⟨rfl, hi, hb, hk⟩; refine ⟨_, rfl, ?_⟩; have n0_ := Aside0.mk (KeepBut.trans zq3 hk (.inl rfl)); have n1_ := Aside0.mk (hb); have n2_ := Aside0.mk (hi); clear HK; clear HB; clear HI0; have HK := n0_; have HB := n1_; have HI0 := n2_; clear n0_ n1_ n2_; (try clear hb); (try clear hb2); (try clear hk); (try clear hi)))
             have n0_ := Aside0.mk (IsS98.drew HI0.out)
             have n1_ := Aside0.mk (keep_drew HK.out)
             have n2_ := Aside0.mk (below_drew1 HB.out)
             clear HI0
             clear HK
             clear HB
             have HI0 := n0_
             have HK := n1_
             have HB := n2_
             clear n0_ n1_ n2_
             have p54 : 0 ≤ ((ji51) : Int) := of_decide_eq_true zq23
             have q54 : (ji51) < (a1.size : Int) := of_decide_eq_true zq23
             have hx54 := bt_at a1 (ji51)
             replace p54 := eq_true p54
             replace q54 := eq_true q54
             refine start_ (n := 22) (S := fun w' => True) (ds := []) #[false, false, false, false, false, false, false, false, false, false, false, false, false, false, false, false, false, false, false, false, false, false] zq19 rfl rfl trivial (fun hHeld => ?_); refine with_tabW spec_l1Bend.tab12 spec_l1Bend.bits12 (fun HT_ HW_ => ?_)
             generalize w65.drew = w66 at HI0 HK HB hHeld ⊢
             refine pure_ (i := 0) (N := some 55) (v := ?_) (a' := ?_) #[true, false, false, false, false, false, false, false, false, false, false, false, false, false, false, false, false, false, false, false, false, false] rfl rfl (any_of HT_.out zq19) (fun _ _ _ h => h) (Or.inl ⟨zq90, ?_⟩) ?_ ?_
             rotate_left
             ·intro w'
              go_simp
              with_reducible rfl
             rotate_left
             ·simp only [Act.put, List.setIfInBounds_toArray, List.set_cons_zero, List.set_cons_succ, i64_w, i32_w]
              rfl
             refine pure_ (i := 1) (N := some 56) (v := ?_) (a' := ?_) #[true, true, false, false, false, false, false, false, false, false, false, false, false, false, false, false, false, false, false, false, false, false] rfl rfl (any_of HT_.out zq19) (fun _ _ _ h => h) (Or.inl ⟨zq90, ?_⟩) ?_ ?_
             rotate_left
             ·intro w'
              go_simp
              with_reducible rfl
             rotate_left
             ·simp only [Act.put, List.setIfInBounds_toArray, List.set_cons_zero, List.set_cons_succ, i64_w, i32_w]
              rfl
             refine pure_ (i := 2) (N := some 57) (v := ?_) (a' := ?_) #[true, true, true, false, false, false, false, false, false, false, false, false, false, false, false, false, false, false, false, false, false, false] rfl rfl (any_of HT_.out zq19) (fun _ _ _ h => h) (Or.inl ⟨zq90, ?_⟩) ?_ ?_
             rotate_left
             ·intro w'
              go_simp
              with_reducible rfl
             rotate_left
             ·simp only [Act.put, List.setIfInBounds_toArray, List.set_cons_zero, List.set_cons_succ, i64_w, i32_w]
              rfl
             refine pure_ (i := 3) (N := some 58) (v := ?_) (a' := ?_) #[true, true, true, true, false, false, false, false, false, false, false, false, false, false, false, false, false, false, false, false, false, false] rfl rfl (any_of HT_.out zq19) (fun _ _ _ h => h) (Or.inl ⟨zq90, ?_⟩) ?_ ?_
             rotate_left
             ·intro w'
              go_simp
              with_reducible rfl
             rotate_left
             ·simp only [Act.put, List.setIfInBounds_toArray, List.set_cons_zero, List.set_cons_succ, i64_w, i32_w]
              rfl
             refine pure_ (i := 4) (N := some 59) (v := ?_) (a' := ?_) #[true, true, true, true, true, false, false, false, false, false, false, false, false, false, false, false, false, false, false, false, false, false] rfl rfl (any_of HT_.out zq19) (fun _ _ _ h => h) (Or.inl ⟨zq90, ?_⟩) ?_ ?_
             rotate_left
             ·intro w'
              go_simp
              with_reducible rfl
             rotate_left
             ·simp only [Act.put, List.setIfInBounds_toArray, List.set_cons_zero, List.set_cons_succ, i64_w, i32_w]
              rfl
             refine pure_ (i := 7) (N := some 62) (v := ?_) (a' := ?_) #[true, true, true, true, true, false, false, true, false, false, false, false, false, false, false, false, false, false, false, false, false, false] rfl rfl (any_of HT_.out zq19) (fun _ _ _ h => h) (Or.inl ⟨zq90, ?_⟩) ?_ ?_
             rotate_left
             ·intro w'
              go_simp
              with_reducible rfl
             rotate_left
             ·simp only [Act.put, List.setIfInBounds_toArray, List.set_cons_zero, List.set_cons_succ, i64_w, i32_w]
              rfl
             refine pure_ (i := 16) (N := some 71) (v := ?_) (a' := ?_) #[true, true, true, true, true, false, false, true, false, false, false, false, false, false, false, false, true, false, false, false, false, false] rfl rfl (any_of HT_.out zq19) (fun _ _ _ h => h) (Or.inl ⟨zq90, ?_⟩) ?_ ?_
             rotate_left
             ·intro w'
              go_simp
              with_reducible rfl
             rotate_left
             ·simp only [Act.put, List.setIfInBounds_toArray, List.set_cons_zero, List.set_cons_succ, i64_w, i32_w]
              rfl
             refine pure_ (i := 17) (N := some 72) (v := ?_) (a' := ?_) #[true, true, true, true, true, false, false, true, false, false, false, false, false, false, false, false, true, true, false, false, false, false] rfl rfl (any_of HT_.out zq19) (fun _ _ _ h => h) (Or.inl ⟨zq90, ?_⟩) ?_ ?_
             rotate_left
             ·intro w'
              go_simp
              with_reducible rfl
             rotate_left
             ·simp only [Act.put, List.setIfInBounds_toArray, List.set_cons_zero, List.set_cons_succ, i64_w, i32_w]
              rfl
             refine pure_ (i := 18) (N := some 73) (v := ?_) (a' := ?_) #[true, true, true, true, true, false, false, true, false, false, false, false, false, false, false, false, true, true, true, false, false, false] rfl rfl (any_of HT_.out zq19) (fun _ _ _ h => h) (Or.inl ⟨zq90, ?_⟩) ?_ ?_
             rotate_left
             ·intro w'
              go_simp
              with_reducible rfl
             rotate_left
             ·simp only [Act.put, List.setIfInBounds_toArray, List.set_cons_zero, List.set_cons_succ, i64_w, i32_w]
              rfl
             refine pure_ (i := 19) (N := some 74) (v := ?_) (a' := ?_) #[true, true, true, true, true, false, false, true, false, false, false, false, false, false, false, false, true, true, true, true, false, false] rfl rfl (any_of HT_.out zq19) (fun _ _ _ h => h) (Or.inl ⟨zq90, ?_⟩) ?_ ?_
             rotate_left
             ·intro w'
              go_simp
              with_reducible rfl
             rotate_left
             ·simp only [Act.put, List.setIfInBounds_toArray, List.set_cons_zero, List.set_cons_succ, i64_w, i32_w]
              rfl
             refine take_ (i := 5) (N := some 60) (v := ?_) (a' := ?_) #[true, true, true, true, true, true, false, true, false, false, false, false, false, false, false, false, true, true, true, true, false, false] rfl rfl (take_ofW HT_.out HW_.out zq19) (fun _ _ _ h => h) (Or.inl ⟨zq90, ?_⟩) hHeld ?_ ?_
             rotate_left
             ·intro w' _
              go_simp
              with_reducible rfl
             rotate_left
             ·simp only [Act.put, List.setIfInBounds_toArray, List.set_cons_zero, List.set_cons_succ, i64_w, i32_w]
              rfl
             refine pure_ (i := 6) (N := some 61) (v := ?_) (a' := ?_) #[true, true, true, true, true, true, true, true, false, false, false, false, false, false, false, false, true, true, true, true, false, false] rfl rfl (any_of HT_.out zq19) (fun _ _ _ h => h) (Or.inl ⟨zq90, ?_⟩) ?_ ?_
             rotate_left
             ·intro w'
              go_simp
              with_reducible rfl
             rotate_left
             ·simp only [Act.put, List.setIfInBounds_toArray, List.set_cons_zero, List.set_cons_succ, i64_w, i32_w]
              rfl
             refine one_ (i := 8) (N := some 63) #[true, true, true, true, true, true, true, true, true, false, false, false, false, false, false, false, true, true, true, true, false, false] rfl rfl (one_of HT_.out zq19) zq60 (fun K hK => ?_)
             refine goes_ Try.func29 zq19 rfl #[.pointer (some ⟨g, 0, none⟩), .int .i64 8] zq90 rfl rfl zq0 ?_
             with_reducible refine (spec_l1Rd_pick.calls k g s0_0 t194 8 t201 t202 w0 _ ?side1 ?side2 A55.out).mono ?_
             (case side1 => repeat (first | (with_reducible first | exact HI0.out | apply IsS98.alloc | apply IsS98.drewN | apply IsS98.drew | apply IsS98.set_1) | exact HI0.out))
             (case side2 => repeat (first | (with_reducible first | exact HB.out | apply below_alloc | apply pw_below_drewN | apply below_drew1 | refine below_set ?_ (IsS98.ge HI0.out)) | exact HB.out))
             rintro e w67 ⟨rfl, hi, hb, hk⟩
             refine ⟨_, rfl, ?_⟩
             have n0_ := Aside0.mk (KeepBut.trans zq3 hk (.inl rfl))
             have n1_ := Aside0.mk (hb)
             have n2_ := Aside0.mk (hi)
             clear HK
             clear HB
             clear HI0
             have HK := n0_
             have HB := n1_
             have HI0 := n2_
             clear n0_ n1_ n2_
             (try clear hb)
             (try clear hb2)
             (try clear hk)
             (try clear hi)
             refine hK.out _ _ trivial (fun hHeld => ?_)
             clear hK K
             refine norm_ (a' := ?_) ?_ ?_
             rotate_left
             ·show Act.put _ (some 63) _ = _
              simp only [Act.put, List.setIfInBounds_toArray, List.set_cons_zero, List.set_cons_succ, i64_w, i32_w]
              rfl
             refine pure_ (i := 9) (N := some 64) (v := ?_) (a' := ?_) #[true, true, true, true, true, true, true, true, true, true, false, false, false, false, false, false, true, true, true, true, false, false] rfl rfl (any_of HT_.out zq19) (fun _ _ _ h => h) (Or.inl ⟨zq90, ?_⟩) ?_ ?_
             rotate_left
             ·intro w'
              go_simp
              with_reducible rfl
             rotate_left
             ·simp only [Act.put, List.setIfInBounds_toArray, List.set_cons_zero, List.set_cons_succ, i64_w, i32_w]
              rfl
             refine pure_ (i := 10) (N := some 65) (v := ?_) (a' := ?_) #[true, true, true, true, true, true, true, true, true, true, true, false, false, false, false, false, true, true, true, true, false, false] rfl rfl (any_of HT_.out zq19) (fun _ _ _ h => h) (Or.inl ⟨zq90, ?_⟩) ?_ ?_
             rotate_left
             ·intro w'
              go_simp
              with_reducible rfl
             rotate_left
             ·simp only [Act.put, List.setIfInBounds_toArray, List.set_cons_zero, List.set_cons_succ, i64_w, i32_w]
              rfl
             refine pure_ (i := 11) (N := some 66) (v := ?_) (a' := ?_) #[true, true, true, true, true, true, true, true, true, true, true, true, false, false, false, false, true, true, true, true, false, false] rfl rfl (any_of HT_.out zq19) (fun _ _ _ h => h) (Or.inl ⟨zq90, ?_⟩) ?_ ?_
             rotate_left
             ·intro w'
              go_simp
              with_reducible rfl
             rotate_left
             ·simp only [Act.put, List.setIfInBounds_toArray, List.set_cons_zero, List.set_cons_succ, i64_w, i32_w]
              rfl
             refine pure_ (i := 12) (N := some 67) (v := ?_) (a' := ?_) #[true, true, true, true, true, true, true, true, true, true, true, true, true, false, false, false, true, true, true, true, false, false] rfl rfl (any_of HT_.out zq19) (fun _ _ _ h => h) (Or.inl ⟨zq90, ?_⟩) ?_ ?_
             rotate_left
             ·intro w'
              go_simp
              with_reducible rfl
             rotate_left
             ·simp only [Act.put, List.setIfInBounds_toArray, List.set_cons_zero, List.set_cons_succ, i64_w, i32_w]
              rfl
             refine one_ (i := 13) (N := some 68) #[true, true, true, true, true, true, true, true, true, true, true, true, true, true, false, false, true, true, true, true, false, false] rfl rfl (one_of HT_.out zq19) zq60 (fun K hK => ?_)
             refine Kd.R_lit_step (Kd.int .u8) _ 5 ?hg (N := 68) ?hd (xs := ([(Go.bits .xor .i64 (wrap64 (bt a1 (ji51))) (ji58)) % 256] : List Int)) (inner := [.int .u8 ((Go.bits .xor .i64 (wrap64 (bt a1 (ji51))) (ji58)) % 256)]) (ok := fun _ => True) (okp := fun _ => True) ?hr ?hp (fun _ hk => hk) trivial (Below.refl _ _) (Nat.le_refl _) zq81 ?_; (case hd => rfl); (case hg => rfl); (case hr => first | (go_simp; done) | (go_simp; rfl)); (case hp => exact (Reps.one (show Kd.M (Kd.int .u8) _ _ _ ((Go.bits .xor .i64 (wrap64 (bt a1 (ji51))) (ji58)) % 256) [.int .u8 ((Go.bits .xor .i64 (wrap64 (bt a1 (ji51))) (ji58)) % 256)] from rfl) (Reps.none _ _)))
             intro v204 w68 ho69 hb hg_ hnew_
             clear hg_ hnew_
             (first | rw [← Ny203.out] at ho69 | (simp only [Int.reduceToNat] at ho69; rw [← Ny203.out] at ho69))
             have n0_ := Aside0.mk (Kd.R_lower ho69 (keep_size (w := w) (g := g) (row := none) zq3))
             have n1_ := Aside0.mk (IsS98.below zq4 hb)
             have n2_ := Aside0.mk (KeepBut.trans zq3 (KeepBut.of_below hb g none) (.inl rfl))
             have n3_ := Aside0.mk (below_step zq6 hb)
             clear HI0
             clear HK
             clear HB
             have HO205 := n0_
             have HI0 := n1_
             have HK := n2_
             have HB := n3_
             clear n0_ n1_ n2_ n3_
             clear hb ho69
             refine hK.out _ _ trivial (fun hHeld => ?_)
             clear hK K
             refine norm_ (a' := ?_) ?_ ?_
             rotate_left
             ·show Act.put _ (some 68) _ = _
              simp only [Act.put, List.setIfInBounds_toArray, List.set_cons_zero, List.set_cons_succ, i64_w, i32_w]
              rfl
             refine one_ (i := 14) (N := some 69) #[true, true, true, true, true, true, true, true, true, true, true, true, true, true, true, false, true, true, true, true, false, false] rfl rfl (one_of HT_.out zq19) zq60 (fun K hK => ?_)
             have hcv70 := own_string (P := Try.prog) Try.underlying22 Try.underlying5 Try.underlying9 (Kd.own_of_R HO205.out)
             refine value_ (w1 := ?_) (v := ?_) zq90 rfl ?_ ?_
             rotate_left 2
             ·go_simp
              constructor
              ·rfl
              ·rfl
             clear hcv70
             refine hK.out _ _ trivial (fun hHeld => ?_)
             clear hK K
             refine norm_ (a' := ?_) ?_ ?_
             rotate_left
             ·show Act.put _ (some 69) _ = _
              simp only [Act.put, List.setIfInBounds_toArray, List.set_cons_zero, List.set_cons_succ, i64_w, i32_w]
              rfl
             refine pure_ (i := 15) (N := some 70) (v := ?_) (a' := ?_) #[true, true, true, true, true, true, true, true, true, true, true, true, true, true, true, true, true, true, true, true, false, false] rfl rfl (any_of HT_.out zq19) (fun _ _ _ h => h) (Or.inl ⟨zq90, ?_⟩) ?_ ?_
             rotate_left
             ·intro w'
              go_simp
              with_reducible rfl
             rotate_left
             ·simp only [Act.put, List.setIfInBounds_toArray, List.set_cons_zero, List.set_cons_succ, i64_w, i32_w]
              rfl
             refine pure_ (i := 20) (N := some 75) (v := ?_) (a' := ?_) #[true, true, true, true, true, true, true, true, true, true, true, true, true, true, true, true, true, true, true, true, true, false] rfl rfl (any_of HT_.out zq19) (fun _ _ _ h => h) (Or.inl ⟨zq90, ?_⟩) ?_ ?_
             rotate_left
             ·intro w'
              go_simp
              with_reducible rfl
             rotate_left
             ·simp only [Act.put, List.setIfInBounds_toArray, List.set_cons_zero, List.set_cons_succ, i64_w, i32_w]
              rfl
             refine pure_ (i := 21) (N := some 4) (v := ?_) (a' := ?_) #[true, true, true, true, true, true, true, true, true, true, true, true, true, true, true, true, true, true, true, true, true, true] rfl rfl (any_of HT_.out zq19) (fun _ _ _ h => h) (Or.inl ⟨zq90, ?_⟩) ?_ ?_
             rotate_left
             ·intro w'
              go_simp
              with_reducible rfl
             rotate_left
             ·simp only [Act.put, List.setIfInBounds_toArray, List.set_cons_zero, List.set_cons_succ, i64_w, i32_w]
              rfl
             refine done_ (done_of HT_.out zq19) ?_
             try go_wp2
             go_ret
             exact ⟨by first | rfl | (simp [errW_none, errW_some] <;> rfl) | (simp only [← hji51, ← hji56, ← hji58, ← hji60]; first | rfl | (simp [errW_none, errW_some] <;> rfl)) | (simp [*, errW_none, errW_some] <;> rfl), zq4, zq6, zq3⟩
            ·rw [if_neg c63] at H
             exact absurd H zq81
           ·rw [if_neg c62] at H
            exact absurd H zq81
          ·rw [if_neg c61] at H
           exact absurd H zq81
         ·rw [if_neg c59] at H
          exact absurd H zq81
        ·rw [if_neg c57] at H
         exact absurd H zq81
       ·rw [if_neg c53] at H
        exact absurd H zq81
      ·rw [if_neg c52] at H
       exact absurd H zq81
     ·rw [if_neg c50] at H
      have c50b0 : decide ((wrap64 (Int.tdiv (wrap64 (t191 * (wrap64 ((a1.size : Int) + 1)))) 256)) < (a1.size : Int)) = false := decide_eq_false c50
      clear c50
      obtain ⟨ji71, hji71⟩ : ∃ j_ : Int, (wrap64 (Int.tdiv (wrap64 (t191 * (wrap64 ((a1.size : Int) + 1)))) 256)) = j_ := ⟨_, rfl⟩
      replace H : (if 0 ≤ (ji71) then (if (ji71) ≤ (a1.size : Int) then (if a1.size + (a1.extract ((ji71) : Int).toNat a1.size).size ≤ 9223372036854775807 then (some (a1 ++ (a1.extract ((ji71) : Int).toNat a1.size), t194)) else (none)) else (none)) else (none)) = some (r1, r2) := by first | (rw [hji71] at H; exact H) | (simp only [hji71] at H ⊢; exact H)
      (try rw [hji71] at c50b0)
      (try rw [hji71] at A3)
      (try rw [hji71] at A4)
      have hji71w : (IntKind.i64.wrap (Int.tdiv (wrap64 (t191 * (wrap64 ((a1.size : Int) + 1)))) 256)) = ji71 := (i64_w _).trans hji71
      by_cases c72 : 0 ≤ (ji71)
      ·rw [if_pos c72] at H
       have c72b0 := eq_true c72
       have c72b1 : decide (0 ≤ (ji71)) = true := decide_eq_true c72
       clear c72
       by_cases c73 : (ji71) ≤ (a1.size : Int)
       ·rw [if_pos c73] at H
        have c73b0 := eq_true c73
        have c73b1 : decide ((ji71) ≤ (a1.size : Int)) = true := decide_eq_true c73
        clear c73
        by_cases c74 : a1.size + (a1.extract ((ji71) : Int).toNat a1.size).size ≤ 9223372036854775807
        ·rw [if_pos c74] at H
         have c74b0 := eq_true c74
         have c74b1 : decide (a1.size + (a1.extract ((ji71) : Int).toNat a1.size).size ≤ 9223372036854775807) = true := decide_eq_true c74
         try have c74b2 : (9223372036854775807 < a1.size + (a1.extract ((ji71) : Int).toNat a1.size).size) = False := eq_false (Nat.not_lt.2 c74)
         have c74n : a1.size + (a1.size - (ji71).toNat) ≤ 9223372036854775807 := (by have h_ := c74; simp only [ByteArray.size_append, ByteArray.size_extract] at h_; (try have z0_ := of_eq_true c45b0); (try have z1_ := of_eq_true c46b0); (try have z2_ := of_eq_true c52b0); (try have z3_ := of_eq_true c53b0); (try have z4_ := of_eq_true c57b0); (try have z5_ := of_eq_true c59b0); (try have z6_ := of_eq_true c61b0); (try have z7_ := of_eq_true c62b0); (try have z8_ := of_eq_true c63b0); (try have z9_ := of_eq_true c72b0); (try have z10_ := of_eq_true c73b0); (try have z11_ := of_eq_true c74b0); omega)
         try have c74m : (9223372036854775807 < a1.size + (a1.size - (ji71).toNat)) = False := eq_false (Nat.not_lt.2 c74n)
         simp only [Option.some.injEq, Prod.mk.injEq] at H
         obtain ⟨rfl, rfl⟩ := H
         go_enter Try.func30, Try.ntmps30
         go_wp2_with (first | ((with_reducible refine gate_callee (f := 29) rfl ?_); refine goesL_ (some 7) rfl rfl Try.func29 zq19 rfl #[.pointer (some ⟨g, 0, none⟩), .int .i64 256] rfl zq0 ?_; (with_reducible refine (spec_l1Rd_pick.calls k g s0_0 s0_1 256 t191 t192 w0 _ ?side1 ?side2 A3.out).mono ?_); (case side1 => repeat (first | (with_reducible first | exact HI0.out | apply IsS98.alloc | apply IsS98.drewN | apply IsS98.drew | apply IsS98.set_1) | exact HI0.out)); (case side2 => repeat (first | (with_reducible first | exact HB.out | apply below_alloc | apply pw_below_drewN | apply below_drew1 | refine below_set ?_ (IsS98.ge HI0.out)) | exact HB.out)); rintro e w75 ⟨rfl, hi, hb, hk⟩; refine ⟨_, rfl, ?_⟩; have n0_ := Aside0.mk (KeepBut.trans zq3 hk (.inl rfl)); have n1_ := Aside0.mk (hb); have n2_ := Aside0.mk (hi); clear HK; clear HB; clear HI0; have HK := n0_; have HB := n1_; have HI0 := n2_; clear n0_ n1_ n2_; (try clear hb); (try clear hb2); (try clear hk); (try clear hi)) | ((with_reducible refine gate_callee (f := 29) rfl ?_); refine goesL_ (some 14) rfl rfl Try.func29 zq19 rfl #[.pointer (some ⟨g, 0, none⟩), .int .i64 5] rfl zq0 ?_; (with_reducible refine (spec_l1Rd_pick.calls k g s0_0 t192 5 t193 t194 w0 _ ?side1 ?side2 A4.out).mono ?_); (case side1 => repeat (first | (with_reducible first | exact HI0.out | apply IsS98.alloc | apply IsS98.drewN | apply IsS98.drew | apply IsS98.set_1) | exact HI0.out)); (case side2 => repeat (first | (with_reducible first | exact HB.out | apply below_alloc | apply pw_below_drewN | apply below_drew1 | refine below_set ?_ (IsS98.ge HI0.out)) | exact HB.out)); rintro e w76 ⟨rfl, hi, hb, hk⟩; refine ⟨_, rfl, ?_⟩; have n0_ := Aside0.mk (KeepBut.trans zq3 hk (.inl rfl)); have n1_ := Aside0.mk (hb); have n2_ := Aside0.mk (hi); clear HK; clear HB; clear HI0; have HK := n0_; have HB := n1_; have HI0 := n2_; clear n0_ n1_ n2_; (try clear hb); (try clear hb2); (try clear hk); (try clear hi)))
         go_ret
         exact ⟨by first | rfl | (simp [errW_none, errW_some] <;> rfl) | (simp only [← hji71]; first | rfl | (simp [errW_none, errW_some] <;> rfl)) | (simp [*, errW_none, errW_some] <;> rfl), zq4, zq6, zq3⟩
        ·rw [if_neg c74] at H
         exact absurd H zq81
       ·rw [if_neg c73] at H
        exact absurd H zq81
      ·rw [if_neg c72] at H
       exact absurd H zq81
    ·rw [if_neg c49] at H
     have c49b0 : (t193 == 3) = false := beq_eq_false_iff_ne.mpr c49
     have c49b1 : (t193 != 3) = true := bne_iff_ne.mpr c49
     obtain ⟨ji77, hji77⟩ : ∃ j_ : Int, (wrap64 (Int.tdiv (wrap64 (t191 * (wrap64 ((a1.size : Int) + 1)))) 256)) = j_ := ⟨_, rfl⟩
     replace H : (if 0 ≤ (ji77) then (if (ji77) ≤ (a1.size : Int) then (if a1.size + (a1.extract ((ji77) : Int).toNat a1.size).size ≤ 9223372036854775807 then (some (a1 ++ (a1.extract ((ji77) : Int).toNat a1.size), t194)) else (none)) else (none)) else (none)) = some (r1, r2) := by first | (rw [hji77] at H; exact H) | (simp only [hji77] at H ⊢; exact H)
     (try rw [hji77] at A3)
     (try rw [hji77] at A4)
     have hji77w : (IntKind.i64.wrap (Int.tdiv (wrap64 (t191 * (wrap64 ((a1.size : Int) + 1)))) 256)) = ji77 := (i64_w _).trans hji77
     by_cases c78 : 0 ≤ (ji77)
     ·rw [if_pos c78] at H
      have c78b0 := eq_true c78
      have c78b1 : decide (0 ≤ (ji77)) = true := decide_eq_true c78
      clear c78
      by_cases c79 : (ji77) ≤ (a1.size : Int)
      ·rw [if_pos c79] at H
       have c79b0 := eq_true c79
       have c79b1 : decide ((ji77) ≤ (a1.size : Int)) = true := decide_eq_true c79
       clear c79
       by_cases c80 : a1.size + (a1.extract ((ji77) : Int).toNat a1.size).size ≤ 9223372036854775807
       ·rw [if_pos c80] at H
        have c80b0 := eq_true c80
        have c80b1 : decide (a1.size + (a1.extract ((ji77) : Int).toNat a1.size).size ≤ 9223372036854775807) = true := decide_eq_true c80
        try have c80b2 : (9223372036854775807 < a1.size + (a1.extract ((ji77) : Int).toNat a1.size).size) = False := eq_false (Nat.not_lt.2 c80)
        have c80n : a1.size + (a1.size - (ji77).toNat) ≤ 9223372036854775807 := (by have h_ := c80; simp only [ByteArray.size_append, ByteArray.size_extract] at h_; (try have z0_ := of_eq_true c53b0); (try have z1_ := of_eq_true c57b0); (try have z2_ := of_eq_true c59b0); (try have z3_ := of_eq_true c61b0); (try have z4_ := of_eq_true c62b0); (try have z5_ := of_eq_true c63b0); (try have z6_ := of_eq_true c72b0); (try have z7_ := of_eq_true c73b0); (try have z8_ := of_eq_true c74b0); (try have z9_ := of_eq_true c78b0); (try have z10_ := of_eq_true c79b0); (try have z11_ := of_eq_true c80b0); omega)
        try have c80m : (9223372036854775807 < a1.size + (a1.size - (ji77).toNat)) = False := eq_false (Nat.not_lt.2 c80n)
        simp only [Option.some.injEq, Prod.mk.injEq] at H
        obtain ⟨rfl, rfl⟩ := H
        go_enter Try.func30, Try.ntmps30
        go_wp2_with (first | ((with_reducible refine gate_callee (f := 29) rfl ?_); refine goesL_ (some 7) rfl rfl Try.func29 zq19 rfl #[.pointer (some ⟨g, 0, none⟩), .int .i64 256] rfl zq0 ?_; (with_reducible refine (spec_l1Rd_pick.calls k g s0_0 s0_1 256 t191 t192 w0 _ ?side1 ?side2 A3.out).mono ?_); (case side1 => repeat (first | (with_reducible first | exact HI0.out | apply IsS98.alloc | apply IsS98.drewN | apply IsS98.drew | apply IsS98.set_1) | exact HI0.out)); (case side2 => repeat (first | (with_reducible first | exact HB.out | apply below_alloc | apply pw_below_drewN | apply below_drew1 | refine below_set ?_ (IsS98.ge HI0.out)) | exact HB.out)); rintro e w81 ⟨rfl, hi, hb, hk⟩; refine ⟨_, rfl, ?_⟩; have n0_ := Aside0.mk (KeepBut.trans zq3 hk (.inl rfl)); have n1_ := Aside0.mk (hb); have n2_ := Aside0.mk (hi); clear HK; clear HB; clear HI0; have HK := n0_; have HB := n1_; have HI0 := n2_; clear n0_ n1_ n2_; (try clear hb); (try clear hb2); (try clear hk); (try clear hi)) | ((with_reducible refine gate_callee (f := 29) rfl ?_); refine goesL_ (some 14) rfl rfl Try.func29 zq19 rfl #[.pointer (some ⟨g, 0, none⟩), .int .i64 5] rfl zq0 ?_; (with_reducible refine (spec_l1Rd_pick.calls k g s0_0 t192 5 t193 t194 w0 _ ?side1 ?side2 A4.out).mono ?_); (case side1 => repeat (first | (with_reducible first | exact HI0.out | apply IsS98.alloc | apply IsS98.drewN | apply IsS98.drew | apply IsS98.set_1) | exact HI0.out)); (case side2 => repeat (first | (with_reducible first | exact HB.out | apply below_alloc | apply pw_below_drewN | apply below_drew1 | refine below_set ?_ (IsS98.ge HI0.out)) | exact HB.out)); rintro e w82 ⟨rfl, hi, hb, hk⟩; refine ⟨_, rfl, ?_⟩; have n0_ := Aside0.mk (KeepBut.trans zq3 hk (.inl rfl)); have n1_ := Aside0.mk (hb); have n2_ := Aside0.mk (hi); clear HK; clear HB; clear HI0; have HK := n0_; have HB := n1_; have HI0 := n2_; clear n0_ n1_ n2_; (try clear hb); (try clear hb2); (try clear hk); (try clear hi)))
        go_ret
        exact ⟨by first | rfl | (simp [errW_none, errW_some] <;> rfl) | (simp only [← hji77]; first | rfl | (simp [errW_none, errW_some] <;> rfl)) | (simp [*, errW_none, errW_some] <;> rfl), zq4, zq6, zq3⟩
       ·rw [if_neg c80] at H
        exact absurd H zq81
      ·rw [if_neg c79] at H
       exact absurd H zq81
     ·rw [if_neg c78] at H
      exact absurd H zq81
end Go.Proofs.Ytgjipjffpodjlaa.K
namespace Go.Proofs.Ytgjipjffpodjlaa.K
open Go.RowKit Go.Proofs.YtgjipjffpodjlaaW.PrintWords Go.Proofs.YtgjipjffpodjlaaW.PrintLast Go.Proofs.YtgjipjffpodjlaaW.PrintMore
attribute [local go_sem] max2_int min2_int max_two min_two max_three min_three max_four min_four   
set_option linter.unusedVariables false
set_option linter.unusedSimpArgs false
def spec_l1Width.f (k : Nat) (s0_0 : List Int) (s0_1 : Int) : Option (Int × Int) := (some (([8, 8, 4, 2, 1, 1] : List Int) : List Int)).bind fun y206 => ((spec_l1Rd_pick.f k s0_0 s0_1 6).bind fun bt209 => (if 0 ≤ bt209.1 then (if bt209.1 < (y206.length : Int) then (some (rd y206 bt209.1, bt209.2)) else (none)) else (none)))
theorem spec_l1Width.mono : ∀ a0 a1 k, LeO (spec_l1Width.f k a0 a1) (spec_l1Width.f (k + 1) a0 a1) := by
 intro a0 a1 k
 unfold spec_l1Width.f
 repeat' first
   | (with_reducible exact spec_l1Rd_pick.mono _ _ _ _)
   | (with_reducible exact LeO.refl _)
   | (with_reducible exact LeO.none _)
   | (with_reducible refine LeO.ite ?_ ?_)
   | (with_reducible refine LeO.bind ?_ (fun _ => ?_))
   | exact spec_l1Rd_pick.mono _ _ _ _
   | exact LeO.none _
   | refine LeO.ite ?_ ?_
   | refine LeO.bind ?_ (fun _ => ?_)
set_option maxHeartbeats 2000000 in
set_option maxRecDepth 100000 in
theorem spec_l1Width.calls (k : Nat) (g : Nat) (s0_0 : List Int) (s0_1 : Int) (r1 : Int) (r2 : Int) (w0 w : World) (hI : IsS98 w0 w g s0_0 s0_1) (hB : Below w0.heap.size w0 w) (h : spec_l1Width.f k s0_0 s0_1 = some (r1, r2)) :
  Calls Try.prog 39 #[.pointer (some ⟨g, 0, none⟩)] w fun e w' => e = .returned (.int .i64 r1) ∧ IsS98 w0 w' g s0_0 r2 ∧ Below w0.heap.size w0 w' ∧ KeepBut w w' g none := by
 have HI0 := Aside0.mk hI
 have HK := Aside0.mk (KeepBut.refl w g none)
 have HL := Aside0.mk hB.size
 clear hI
 have HW0 := Aside0.mk hB.size
 have HB := Aside0.mk hB
 clear hB
 have H : ((some (([8, 8, 4, 2, 1, 1] : List Int) : List Int)).bind fun y206 => ((spec_l1Rd_pick.f k s0_0 s0_1 6).bind fun bt209 => (if 0 ≤ bt209.1 then (if bt209.1 < (y206.length : Int) then (some (rd y206 bt209.1, bt209.2)) else (none)) else (none)))) = some (r1, r2) := h
 clear h
 obtain ⟨y206, hy206⟩ : ∃ y_ : List Int, y_ = (([8, 8, 4, 2, 1, 1] : List Int)) := ⟨_, rfl⟩
 replace H : ((spec_l1Rd_pick.f k s0_0 s0_1 6).bind fun bt209 => (if 0 ≤ bt209.1 then (if bt209.1 < (y206.length : Int) then (some (rd y206 bt209.1, bt209.2)) else (none)) else (none))) = some (r1, r2) := by first | (rw [hy206]; with_reducible exact H) | (have H2_ := (Option.bind_some _ _).symm.trans H; rw [hy206]; with_reducible exact H2_) | (have H2_ := (Option.bind_some _ _).symm.trans H; with_reducible exact H2_) | with_reducible exact H | (rw [hy206]; exact H) | exact H
 have Ny206 := Aside0.mk hy206
 clear hy206
 replace H := Option.bind_eq_some_iff.mp H
 obtain ⟨⟨t209, t210⟩, A20, H⟩ := H
 try dsimp only at H
 have A2 := Aside0.mk A20
 clear A20
 by_cases c3 : 0 ≤ t209
 ·rw [if_pos c3] at H
  have c3b0 : decide (0 ≤ t209) = true := decide_eq_true c3
  clear c3
  by_cases c4 : t209 < (y206.length : Int)
  ·rw [if_pos c4] at H
   have c4b0 : decide (t209 < (y206.length : Int)) = true := decide_eq_true c4
   clear c4
   simp only [Option.some.injEq, Prod.mk.injEq] at H
   obtain ⟨rfl, rfl⟩ := H
   go_enter Try.func39, Try.ntmps39
   go_wp2_with (first | ((with_reducible refine gate_dst (N := 3) rfl ?_); refine Kd.R_lit (Kd.int .i64) _ 3 ?hg (N := 3) ?hd (xs := ([8, 8, 4, 2, 1, 1] : List Int)) (inner := [.int .i64 8, .int .i64 8, .int .i64 4, .int .i64 2, .int .i64 1, .int .i64 1]) (ok := fun _ => True) (okp := fun _ => True) ?hr ?hp (fun _ hk => hk) trivial (Below.refl _ _) (Nat.le_refl _) zq81 ?_; (case hd => rfl); (case hg => rfl); (case hr => first | (go_simp; done) | (go_simp; rfl)); (case hp => exact (Reps.one (show Kd.M (Kd.int .i64) _ _ _ 8 [.int .i64 8] from rfl) (Reps.one (show Kd.M (Kd.int .i64) _ _ _ 8 [.int .i64 8] from rfl) (Reps.one (show Kd.M (Kd.int .i64) _ _ _ 4 [.int .i64 4] from rfl) (Reps.one (show Kd.M (Kd.int .i64) _ _ _ 2 [.int .i64 2] from rfl) (Reps.one (show Kd.M (Kd.int .i64) _ _ _ 1 [.int .i64 1] from rfl) (Reps.one (show Kd.M (Kd.int .i64) _ _ _ 1 [.int .i64 1] from rfl) (Reps.none _ _)))))))); intro v207 w5 ho6 hb hg_ hnew_; clear hg_ hnew_; (first | rw [← Ny206.out] at ho6 | (simp only [Int.reduceToNat] at ho6; rw [← Ny206.out] at ho6)); have n0_ := Aside0.mk (Kd.R_lower ho6 (keep_size (w := w) (g := g) (row := none) zq3)); have n1_ := Aside0.mk (IsS98.below zq4 hb); have n2_ := Aside0.mk (KeepBut.trans zq3 (KeepBut.of_below hb g none) (.inl rfl)); have n3_ := Aside0.mk (below_step zq6 hb); clear HI0; clear HK; clear HB; have HO208 := n0_; have HI0 := n1_; have HK := n2_; have HB := n3_; clear n0_ n1_ n2_ n3_; clear hb ho6) | ((with_reducible refine gate_callee (f := 29) rfl ?_); refine goesL_ (some 5) rfl rfl Try.func29 zq19 rfl #[.pointer (some ⟨g, 0, none⟩), .int .i64 6] rfl zq0 ?_; (with_reducible refine (spec_l1Rd_pick.calls k g s0_0 s0_1 6 t209 t210 w0 _ ?side1 ?side2 A2.out).mono ?_); (case side1 => repeat (first | (with_reducible first | exact HI0.out | apply IsS98.alloc | apply IsS98.drewN | apply IsS98.drew | apply IsS98.set_1) | exact HI0.out)); (case side2 => repeat (first | (with_reducible first | exact HB.out | apply below_alloc | apply pw_below_drewN | apply below_drew1 | refine below_set ?_ (IsS98.ge HI0.out)) | exact HB.out)); rintro e w7 ⟨rfl, hi, hb, hk⟩; refine ⟨_, rfl, ?_⟩; have n0_ := Aside0.mk (Kd.R_mono (Kd.R_keep (IsS98.apart (show IsS98 w0 _ g s0_0 s0_1 from zq4) (by (with_reducible repeat (first | apply Kd.R_alloc | apply Kd.R_drewN | apply Kd.R_drew)); exact HO208.out) zq60) hk (fun _ h => h.2)) (fun _ h => h.1)); have n1_ := Aside0.mk (KeepBut.trans zq3 hk (.inl rfl)); have n2_ := Aside0.mk (hb); have n3_ := Aside0.mk (hi); clear HO208; clear HK; clear HB; clear HI0; have HO208 := n0_; have HK := n1_; have HB := n2_; have HI0 := n3_; clear n0_ n1_ n2_ n3_; (try clear hb); (try clear hb2); (try clear hk); (try clear hi); obtain ⟨Ao8, co8, eo8⟩ := Kd.R_slice HO208.out; subst eo8; have p211 : 0 ≤ (t209 : Int) := of_decide_eq_true zq23; have q211 : t209 < (y206.length : Int) := of_decide_eq_true zq23; obtain ⟨ad211, e211, hx211_0⟩ := Kd.at_int (Kd.R_reads' HO208.out).2.2 t209 p211 q211; cases e211; replace p211 := eq_true p211; replace q211 := eq_true q211))
   go_ret
   exact ⟨zq8, zq4, zq6, zq3⟩
  ·rw [if_neg c4] at H
   exact absurd H zq81
 ·rw [if_neg c3] at H
  exact absurd H zq81
end Go.Proofs.Ytgjipjffpodjlaa.K
namespace Go.Proofs.Ytgjipjffpodjlaa.K
open Go.RowKit Go.Proofs.YtgjipjffpodjlaaW.PrintWords Go.Proofs.YtgjipjffpodjlaaW.PrintLast Go.Proofs.YtgjipjffpodjlaaW.PrintMore
attribute [local go_sem] max2_int min2_int max_two min_two max_three min_three max_four min_four   
set_option linter.unusedVariables false
set_option linter.unusedSimpArgs false
mutual
def spec_l3Draw.j0 : Nat → ByteArray → List Int → Int → Int → ByteArray → Bool → Option (Int × ByteArray × List ByteArray × Bool × Int)
 | 0, _, _, _, _, _, _ => none
 | k + 1, x4, x1000, x1001, x216000, x216001, x216003 => (spec_Feed.f k x216000 x216001 ([] : List ByteArray) x216003 x4).bind fun bt225 => ((spec_l1Rd_pick.f k x1000 x1001 12).bind fun bt231 => (if bt231.1 = 0 then ((spec_l1Rd_pick.f k x1000 bt231.2 2).bind fun bt233 => (spec_l3Draw.l0 k (wrap64 (500 - bt233.1)) x1000 bt233.2 bt225.1 bt225.2.1 bt225.2.2.1 bt225.2.2.2)) else (some (bt225.1, bt225.2.1, bt225.2.2.1, bt225.2.2.2, bt231.2))))
def spec_l3Draw.l0 : Nat → Int → List Int → Int → Int → ByteArray → List ByteArray → Bool → Option (Int × ByteArray × List ByteArray × Bool × Int)
 | 0, _, _, _, _, _, _, _ => none
 | k + 1, x5, x1000, x1001, x216000, x216001, x216002, x216003 => if (x216002.length : Int) < x5 then (if x216002.length < 8796093022208 then (spec_l3Draw.l0 k x5 x1000 x1001 x216000 x216001 (x216002 ++ [(⟨#[102]⟩ : ByteArray)]) x216003) else (none)) else (some (x216000, x216001, x216002, x216003, x1001))
end
def spec_l3Draw.f (k : Nat) (s0_0 : List Int) (s0_1 : Int) : Option (Int × ByteArray × List ByteArray × Bool × Int) := (spec_l1Width.f k s0_0 s0_1).bind fun bt213 => ((spec_l3Payloads.f k s0_0 bt213.2).bind fun bt216 => ((spec_Encode.f k bt216.1 bt213.1).bind fun t220 => ((spec_l1Rd_pick.f k s0_0 bt216.2 2).bind fun bt221 => (if bt221.1 = 0 then ((spec_l1Bend.f k s0_0 bt221.2 t220).bind fun bt223 => (spec_l3Draw.j0 k bt223.1 s0_0 bt223.2 bt213.1 (⟨#[]⟩ : ByteArray) false)) else (spec_l3Draw.j0 k t220 s0_0 bt221.2 bt213.1 (⟨#[]⟩ : ByteArray) false)))))
theorem spec_l3Draw.mono_l : ∀ k, (∀ y0 y1 y2 y3 y4 y5, LeO (spec_l3Draw.j0 k y0 y1 y2 y3 y4 y5) (spec_l3Draw.j0 (k + 1) y0 y1 y2 y3 y4 y5)) ∧ (∀ y0 y1 y2 y3 y4 y5 y6, LeO (spec_l3Draw.l0 k y0 y1 y2 y3 y4 y5 y6) (spec_l3Draw.l0 (k + 1) y0 y1 y2 y3 y4 y5 y6))
 | 0 => ⟨fun _ _ _ _ _ _ r h => by simp [spec_l3Draw.j0] at h, fun _ _ _ _ _ _ _ r h => by simp [spec_l3Draw.l0] at h⟩
 | k + 1 => by
  obtain ⟨ih0, ih1⟩ := spec_l3Draw.mono_l k
  refine ⟨?_, ?_⟩
  ·intro y0 y1 y2 y3 y4 y5
   unfold spec_l3Draw.j0
   repeat' first
   | (with_reducible exact ih0 _ _ _ _ _ _)
   | (with_reducible exact ih1 _ _ _ _ _ _ _)
   | (with_reducible exact spec_Encode.mono _ _ _)
   | (with_reducible exact spec_Feed.mono _ _ _ _ _ _)
   | (with_reducible exact spec_l1Bend.mono _ _ _ _)
   | (with_reducible exact spec_l1Rd_pick.mono _ _ _ _)
   | (with_reducible exact spec_l1Width.mono _ _ _)
   | (with_reducible exact spec_l3Payloads.mono _ _ _)
   | (with_reducible exact LeO.refl _)
   | (with_reducible exact LeO.none _)
   | (with_reducible refine LeO.ite ?_ ?_)
   | (with_reducible refine LeO.bind ?_ (fun _ => ?_))
   | exact ih0 _ _ _ _ _ _
   | exact ih1 _ _ _ _ _ _ _
   | exact spec_Encode.mono _ _ _
   | exact spec_Feed.mono _ _ _ _ _ _
   | exact spec_l1Bend.mono _ _ _ _
   | exact spec_l1Rd_pick.mono _ _ _ _
   | exact spec_l1Width.mono _ _ _
   | exact spec_l3Payloads.mono _ _ _
   | exact LeO.none _
   | refine LeO.ite ?_ ?_
   | refine LeO.bind ?_ (fun _ => ?_)
  ·intro y0 y1 y2 y3 y4 y5 y6
   unfold spec_l3Draw.l0
   repeat' first
   | (with_reducible exact ih0 _ _ _ _ _ _)
   | (with_reducible exact ih1 _ _ _ _ _ _ _)
   | (with_reducible exact spec_Encode.mono _ _ _)
   | (with_reducible exact spec_Feed.mono _ _ _ _ _ _)
   | (with_reducible exact spec_l1Bend.mono _ _ _ _)
   | (with_reducible exact spec_l1Rd_pick.mono _ _ _ _)
   | (with_reducible exact spec_l1Width.mono _ _ _)
   | (with_reducible exact spec_l3Payloads.mono _ _ _)
   | (with_reducible exact LeO.refl _)
   | (with_reducible exact LeO.none _)
   | (with_reducible refine LeO.ite ?_ ?_)
   | (with_reducible refine LeO.bind ?_ (fun _ => ?_))
   | exact ih0 _ _ _ _ _ _
   | exact ih1 _ _ _ _ _ _ _
   | exact spec_Encode.mono _ _ _
   | exact spec_Feed.mono _ _ _ _ _ _
   | exact spec_l1Bend.mono _ _ _ _
   | exact spec_l1Rd_pick.mono _ _ _ _
   | exact spec_l1Width.mono _ _ _
   | exact spec_l3Payloads.mono _ _ _
   | exact LeO.none _
   | refine LeO.ite ?_ ?_
   | refine LeO.bind ?_ (fun _ => ?_)
theorem spec_l3Draw.mono : ∀ a0 a1 k, LeO (spec_l3Draw.f k a0 a1) (spec_l3Draw.f (k + 1) a0 a1) := by
 intro a0 a1 k
 obtain ⟨ih0, ih1⟩ := spec_l3Draw.mono_l k
 unfold spec_l3Draw.f
 repeat' first
   | (with_reducible exact ih0 _ _ _ _ _ _)
   | (with_reducible exact ih1 _ _ _ _ _ _ _)
   | (with_reducible exact spec_Encode.mono _ _ _)
   | (with_reducible exact spec_Feed.mono _ _ _ _ _ _)
   | (with_reducible exact spec_l1Bend.mono _ _ _ _)
   | (with_reducible exact spec_l1Rd_pick.mono _ _ _ _)
   | (with_reducible exact spec_l1Width.mono _ _ _)
   | (with_reducible exact spec_l3Payloads.mono _ _ _)
   | (with_reducible exact LeO.refl _)
   | (with_reducible exact LeO.none _)
   | (with_reducible refine LeO.ite ?_ ?_)
   | (with_reducible refine LeO.bind ?_ (fun _ => ?_))
   | exact ih0 _ _ _ _ _ _
   | exact ih1 _ _ _ _ _ _ _
   | exact spec_Encode.mono _ _ _
   | exact spec_Feed.mono _ _ _ _ _ _
   | exact spec_l1Bend.mono _ _ _ _
   | exact spec_l1Rd_pick.mono _ _ _ _
   | exact spec_l1Width.mono _ _ _
   | exact spec_l3Payloads.mono _ _ _
   | exact LeO.none _
   | refine LeO.ite ?_ ?_
   | refine LeO.bind ?_ (fun _ => ?_)
set_option maxHeartbeats 2000000 in
set_option maxRecDepth 100000 in
theorem spec_l3Draw.calls (k : Nat) (g : Nat) (s0_0 : List Int) (s0_1 : Int) (r1 : Int) (r2 : ByteArray) (r3 : List ByteArray) (r4 : Bool) (r5 : Int) (w0 w : World) (hI : IsS98 w0 w g s0_0 s0_1) (hB : Below w0.heap.size w0 w) (h : spec_l3Draw.f k s0_0 s0_1 = some (r1, r2, r3, r4, r5)) :
  Calls Try.prog 27 #[.pointer (some ⟨g, 0, none⟩)] w fun e w' => ∃ v2_ : Value, e = .returned (.agg #[.int .i64 r1, .string r2, v2_, .bool r4]) ∧ Kd.R Kd.string 9 w' w.heap.size (fun _ => True) v2_ r3 ∧ IsS98 w0 w' g s0_0 r5 ∧ Below w0.heap.size w0 w' ∧ KeepBut w w' g none := by
 have hu25 := Try.underlying25
 have HI0 := Aside0.mk hI
 have HK := Aside0.mk (KeepBut.refl w g none)
 have HL := Aside0.mk hB.size
 clear hI
 have HW0 := Aside0.mk hB.size
 have HB := Aside0.mk hB
 clear hB
 have H : ((spec_l1Width.f k s0_0 s0_1).bind fun bt213 => ((spec_l3Payloads.f k s0_0 bt213.2).bind fun bt216 => ((spec_Encode.f k bt216.1 bt213.1).bind fun t220 => ((spec_l1Rd_pick.f k s0_0 bt216.2 2).bind fun bt221 => (if bt221.1 = 0 then ((spec_l1Bend.f k s0_0 bt221.2 t220).bind fun bt223 => (spec_l3Draw.j0 k bt223.1 s0_0 bt223.2 bt213.1 (⟨#[]⟩ : ByteArray) false)) else (spec_l3Draw.j0 k t220 s0_0 bt221.2 bt213.1 (⟨#[]⟩ : ByteArray) false)))))) = some (r1, r2, r3, r4, r5) := h
 clear h
 replace H := Option.bind_eq_some_iff.mp H
 obtain ⟨⟨t213, t214⟩, A20, H⟩ := H
 try dsimp only at H
 have A2 := Aside0.mk A20
 clear A20
 replace H := Option.bind_eq_some_iff.mp H
 obtain ⟨⟨t216, t219⟩, A30, H⟩ := H
 try dsimp only at H
 have A3 := Aside0.mk A30
 clear A30
 replace H := Option.bind_eq_some_iff.mp H
 obtain ⟨t220, A40, H⟩ := H
 try dsimp only at H
 have A4 := Aside0.mk A40
 clear A40
 replace H := Option.bind_eq_some_iff.mp H
 obtain ⟨⟨t221, t222⟩, A50, H⟩ := H
 try dsimp only at H
 have A5 := Aside0.mk A50
 clear A50
 have HC6 := Aside0.mk H
 clear H
 go_enter Try.func27, Try.ntmps27
 try go_wp2_with (first | ((with_reducible refine gate_dst (N := 2) rfl ?_); refine box_event ?hg (N := 2) ?hd (cs := #[.int .i64 0, .string (⟨#[]⟩ : ByteArray), .slice none 0 0, .bool false]) (t := 25) ?hr ?_; (case hd => rfl); (case hg => rfl); (case hr => first | (go_simp; done) | (go_simp; rfl)); intro gb212 hg w7 hbox hb; have n0_ := Aside0.mk (IsS98.below zq4 hb); have n1_ := Aside0.mk (KeepBut.trans zq3 (KeepBut.of_below hb g none) (.inl rfl)); have n2_ := Aside0.mk (below_step zq6 hb); have n3_ := Aside0.mk (hbox); have n4_ := Aside0.mk ((by rw [hg]; exact (keep_size (w := w) (g := g) (row := none) zq3) : w.heap.size ≤ gb212)); have n5_ := Aside0.mk ((Nat.le_trans HW0.out (by rw [hg]; exact (keep_size (w := w) (g := g) (row := none) zq3) : w.heap.size ≤ gb212) : w0.heap.size ≤ gb212)); have n6_ := Aside0.mk ((by rw [hg]; exact Nat.ne_of_lt (IsS98.lt (show IsS98 w0 _ g s0_0 s0_1 from zq4)) : g ≠ gb212)); have n7_ := Aside0.mk ((by rw [hg]; exact Nat.ne_of_gt (IsS98.lt (show IsS98 w0 _ g s0_0 s0_1 from zq4)) : gb212 ≠ g)); clear HI0; clear HK; clear HB; have HI0 := n0_; have HK := n1_; have HB := n2_; have BK212 := n3_; have GW212 := n4_; have GE212 := n5_; have NB0_212 := n6_; have NB212_0 := n7_; clear n0_ n1_ n2_ n3_ n4_ n5_ n6_ n7_; clear hb hbox hg) | ((with_reducible refine gate_callee (f := 39) rfl ?_); refine goesL_ (some 7) rfl rfl Try.func39 zq19 rfl #[.pointer (some ⟨g, 0, none⟩)] rfl zq0 ?_; (with_reducible refine (spec_l1Width.calls k g s0_0 s0_1 t213 t214 w0 _ ?side1 ?side2 A2.out).mono ?_); (case side1 => repeat (first | (with_reducible first | exact HI0.out | apply IsS98.alloc | apply IsS98.drewN | apply IsS98.drew | apply IsS98.set_1 | refine IsS98.far ?_ NB0_212.out _) | exact HI0.out)); (case side2 => repeat (first | (with_reducible first | exact HB.out | apply below_alloc | apply pw_below_drewN | apply below_drew1 | refine below_set ?_ (IsS98.ge HI0.out) | refine below_set ?_ GE212.out) | exact HB.out)); rintro e w8 ⟨rfl, hi, hb, hk⟩; refine ⟨_, rfl, ?_⟩; have n0_ := Aside0.mk (KeepBut.blk hk (g' := gb212) (o := .cells #[.int .i64 0, .string (⟨#[]⟩ : ByteArray), .slice none 0 0, .bool false] 25 (0, 0)) zq45 NB212_0.out zq81); have n1_ := Aside0.mk (KeepBut.trans zq72 hk (.inl rfl)); have n2_ := Aside0.mk (hb); have n3_ := Aside0.mk (hi); clear BK212; clear HK; clear HB; clear HI0; have BK212 := n0_; have HK := n1_; have HB := n2_; have HI0 := n3_; clear n0_ n1_ n2_ n3_; (try clear hb); (try clear hb2); (try clear hk); (try clear hi)) | ((with_reducible refine gate_dst (N := 3) rfl ?_); refine box_event ?hg (N := 3) ?hd (cs := #[.int .i64 0, .string (⟨#[]⟩ : ByteArray), .slice none 0 0, .bool false]) (t := 25) ?hr ?_; (case hd => rfl); (case hg => rfl); (case hr => first | (go_simp; done) | (go_simp; rfl)); intro gb215 hg w9 hbox hb; have n0_ := Aside0.mk (IsS98.below zq83 hb); have n1_ := Aside0.mk (blk_below (g := gb212) (o := .cells #[.int .i64 0, .string (⟨#[]⟩ : ByteArray), .slice none 0 0, .bool false] 25 (0, 0)) zq45 hb); have n2_ := Aside0.mk (KeepBut.trans zq72 (KeepBut.of_below hb g none) (.inl rfl)); have n3_ := Aside0.mk (below_step (by repeat (first | (with_reducible first | exact HB.out | apply below_alloc | apply pw_below_drewN | apply below_drew1 | refine below_set ?_ (IsS98.ge HI0.out) | refine below_set ?_ GE212.out) | exact HB.out)) hb); have n4_ := Aside0.mk (hbox); have n5_ := Aside0.mk ((by rw [hg]; exact (keep_size (w := w) (g := g) (row := none) zq72) : w.heap.size ≤ gb215)); have n6_ := Aside0.mk ((Nat.le_trans HW0.out (by rw [hg]; exact (keep_size (w := w) (g := g) (row := none) zq72) : w.heap.size ≤ gb215) : w0.heap.size ≤ gb215)); have n7_ := Aside0.mk ((by rw [hg]; exact Nat.ne_of_lt (blk_lt (g := gb212) (o := .cells #[.int .i64 0, .string (⟨#[]⟩ : ByteArray), .slice none 0 0, .bool false] 25 (0, 0)) zq45) : gb212 ≠ gb215)); have n8_ := Aside0.mk ((by rw [hg]; exact Nat.ne_of_gt (blk_lt (g := gb212) (o := .cells #[.int .i64 0, .string (⟨#[]⟩ : ByteArray), .slice none 0 0, .bool false] 25 (0, 0)) zq45) : gb215 ≠ gb212)); have n9_ := Aside0.mk ((by rw [hg]; exact Nat.ne_of_lt (IsS98.lt (show IsS98 w0 _ g s0_0 t214 from zq83)) : g ≠ gb215)); have n10_ := Aside0.mk ((by rw [hg]; exact Nat.ne_of_gt (IsS98.lt (show IsS98 w0 _ g s0_0 t214 from zq83)) : gb215 ≠ g)); clear HI0; clear BK212; clear HK; clear HB; have HI0 := n0_; have BK212 := n1_; have HK := n2_; have HB := n3_; have BK215 := n4_; have GW215 := n5_; have GE215 := n6_; have NB212_215 := n7_; have NB215_212 := n8_; have NB0_215 := n9_; have NB215_0 := n10_; clear n0_ n1_ n2_ n3_ n4_ n5_ n6_ n7_ n8_ n9_ n10_; clear hb hbox hg; have hnb10 := NB215_212.out; have hnc10 := NB212_215.out; have hnb11 := NB215_0.out; have hnc11 := NB0_215.out; have hcz12_0 : w9.cell? ⟨gb215, 0, none⟩ = some (.int .i64 0) := (blk_cell BK215.out 0).trans rfl; have hcz12_1 : w9.cell? ⟨gb215, 1, none⟩ = some (.string (⟨#[]⟩ : ByteArray)) := (blk_cell BK215.out 1).trans rfl; have hcz12_2 : w9.cell? ⟨gb215, 2, none⟩ = some (.slice none 0 0) := (blk_cell BK215.out 2).trans rfl; have hcz12_3 : w9.cell? ⟨gb215, 3, none⟩ = some (.bool false) := (blk_cell BK215.out 3).trans rfl; have hfz12_0 := blk_frozen BK215.out 0; have hfz12_1 := blk_frozen BK215.out 1; have hfz12_2 := blk_frozen BK215.out 2; have hfz12_3 := blk_frozen BK215.out 3))
 have n0_ : Aside0 (((((w9.setCell ⟨gb215, 0, none⟩ (.int .i64 t213)).setCell ⟨gb215, 1, none⟩ (.string (⟨#[]⟩ : ByteArray))).setCell ⟨gb215, 2, none⟩ (.slice none 0 0)).setCell ⟨gb215, 3, none⟩ (.bool false)).heap[gb212]? = some (.cells #[.int .i64 0, .string (⟨#[]⟩ : ByteArray), .slice none 0 0, .bool false] 25 (0, 0))) := ⟨zq51⟩
 have n1_ : Aside0 (((((w9.setCell ⟨gb215, 0, none⟩ (.int .i64 t213)).setCell ⟨gb215, 1, none⟩ (.string (⟨#[]⟩ : ByteArray))).setCell ⟨gb215, 2, none⟩ (.slice none 0 0)).setCell ⟨gb215, 3, none⟩ (.bool false)).heap[gb215]? = some (.cells #[.int .i64 t213, .string (⟨#[]⟩ : ByteArray), .slice none 0 0, .bool false] 25 (0, 0))) := ⟨by (with_reducible repeat (first | refine blk_drewN ?_ _ | refine blk_drew ?_ | refine blk_alloc ?_ _)); refine blk_put (cs := #[.int .i64 t213, .string (⟨#[]⟩ : ByteArray), .slice none 0 0, .bool false]) ?_ 3 _ rfl; (with_reducible repeat (first | refine blk_drewN ?_ _ | refine blk_drew ?_ | refine blk_alloc ?_ _)); refine blk_put (cs := #[.int .i64 t213, .string (⟨#[]⟩ : ByteArray), .slice none 0 0, .bool false]) ?_ 2 _ rfl; (with_reducible repeat (first | refine blk_drewN ?_ _ | refine blk_drew ?_ | refine blk_alloc ?_ _)); refine blk_put (cs := #[.int .i64 t213, .string (⟨#[]⟩ : ByteArray), .slice none 0 0, .bool false]) ?_ 1 _ rfl; (with_reducible repeat (first | refine blk_drewN ?_ _ | refine blk_drew ?_ | refine blk_alloc ?_ _)); refine blk_put (cs := #[.int .i64 0, .string (⟨#[]⟩ : ByteArray), .slice none 0 0, .bool false]) ?_ 0 _ rfl; (with_reducible repeat (first | refine blk_drewN ?_ _ | refine blk_drew ?_ | refine blk_alloc ?_ _)); exact BK215.out⟩
 have n2_ : Aside0 (IsS98 w0 ((((w9.setCell ⟨gb215, 0, none⟩ (.int .i64 t213)).setCell ⟨gb215, 1, none⟩ (.string (⟨#[]⟩ : ByteArray))).setCell ⟨gb215, 2, none⟩ (.slice none 0 0)).setCell ⟨gb215, 3, none⟩ (.bool false)) g s0_0 t214) := ⟨zq28⟩
 have n3_ : Aside0 (KeepBut w ((((w9.setCell ⟨gb215, 0, none⟩ (.int .i64 t213)).setCell ⟨gb215, 1, none⟩ (.string (⟨#[]⟩ : ByteArray))).setCell ⟨gb215, 2, none⟩ (.slice none 0 0)).setCell ⟨gb215, 3, none⟩ (.bool false)) g none) := ⟨zq20⟩
 have n4_ : Aside0 (Below w0.heap.size w0 ((((w9.setCell ⟨gb215, 0, none⟩ (.int .i64 t213)).setCell ⟨gb215, 1, none⟩ (.string (⟨#[]⟩ : ByteArray))).setCell ⟨gb215, 2, none⟩ (.slice none 0 0)).setCell ⟨gb215, 3, none⟩ (.bool false))) := ⟨zq33⟩
 (try clear BK212)
 (try clear BK215)
 (try clear HI0)
 (try clear HK)
 (try clear HB)
 generalize ((((w9.setCell ⟨gb215, 0, none⟩ (.int .i64 t213)).setCell ⟨gb215, 1, none⟩ (.string (⟨#[]⟩ : ByteArray))).setCell ⟨gb215, 2, none⟩ (.slice none 0 0)).setCell ⟨gb215, 3, none⟩ (.bool false)) = w13 at n0_ n1_ n2_ n3_ n4_ ⊢
 have BK212 := n0_
 have BK215 := n1_
 have HI0 := n2_
 have HK := n3_
 have HB := n4_
 clear n0_ n1_ n2_ n3_ n4_
 have n0_ := Aside0.mk (blk_drew BK212.out)
 have n1_ := Aside0.mk (blk_drew BK215.out)
 have n2_ := Aside0.mk (IsS98.drew HI0.out)
 have n3_ := Aside0.mk (keep_drew HK.out)
 have n4_ := Aside0.mk (below_drew1 HB.out)
 clear BK212
 clear BK215
 clear HI0
 clear HK
 clear HB
 have BK212 := n0_
 have BK215 := n1_
 have HI0 := n2_
 have HK := n3_
 have HB := n4_
 clear n0_ n1_ n2_ n3_ n4_
 refine start_ (n := 6) (S := fun w' => w'.cell? ⟨gb215, 0, none⟩ = some (.int .i64 t213) ∧ w'.cell? ⟨gb215, 1, none⟩ = some (.string (⟨#[]⟩ : ByteArray)) ∧ w'.cell? ⟨gb215, 2, none⟩ = some (.slice none 0 0) ∧ w'.cell? ⟨gb215, 3, none⟩ = some (.bool false)) (ds := []) #[false, false, false, false, false, false] zq19 rfl rfl ⟨(blk_cell BK215.out 0).trans rfl, (blk_cell BK215.out 1).trans rfl, (blk_cell BK215.out 2).trans rfl, (blk_cell BK215.out 3).trans rfl⟩ (fun hHeld => ?_)
 generalize w13.drew = w14 at BK212 BK215 HI0 HK HB hHeld ⊢
 refine pure_ (i := 0) (N := some 9) (v := ?_) (a' := ?_) #[true, false, false, false, false, false] rfl rfl zq19 (fun _ _ _ h => h) (Or.inl ⟨zq90, ?_⟩) ?_ ?_
 rotate_left
 ·intro w'
  go_simp
  with_reducible rfl
 rotate_left
 ·simp only [Act.put, List.setIfInBounds_toArray, List.set_cons_zero, List.set_cons_succ, i64_w, i32_w]
  rfl
 refine pure_ (i := 2) (N := some 11) (v := ?_) (a' := ?_) #[true, false, true, false, false, false] rfl rfl zq19 (fun _ _ _ h => h) (Or.inl ⟨zq90, ?_⟩) ?_ ?_
 rotate_left
 ·intro w'
  go_simp
  with_reducible rfl
 rotate_left
 ·simp only [Act.put, List.setIfInBounds_toArray, List.set_cons_zero, List.set_cons_succ, i64_w, i32_w]
  rfl
 refine take_ (i := 3) (N := some 12) (v := ?_) (a' := ?_) #[true, false, true, true, false, false] rfl rfl zq19 (fun _ _ _ h => h) (Or.inl ⟨zq90, ?_⟩) hHeld ?_ ?_
 rotate_left
 ·rintro w' ⟨s0, s1, s2, s3⟩
  go_simp
  with_reducible rfl
 rotate_left
 ·simp only [Act.put, List.setIfInBounds_toArray, List.set_cons_zero, List.set_cons_succ, i64_w, i32_w]
  rfl
 refine one_ (i := 1) (N := some 10) #[true, true, true, true, false, false] rfl rfl zq19 zq60 (fun K hK => ?_)
 refine goes_ Try.func28 zq19 rfl #[.pointer (some ⟨g, 0, none⟩)] zq90 rfl rfl zq0 ?_
 with_reducible refine (spec_l3Payloads.calls k g s0_0 t214 t216 t219 w0 _ ?side1 ?side2 A3.out).mono ?_
 (case side1 => repeat (first | (with_reducible first | exact HI0.out | apply IsS98.alloc | apply IsS98.drewN | apply IsS98.drew | apply IsS98.set_1 | refine IsS98.far ?_ NB0_212.out _ | refine IsS98.far ?_ NB0_215.out _) | exact HI0.out))
 (case side2 => repeat (first | (with_reducible first | exact HB.out | apply below_alloc | apply pw_below_drewN | apply below_drew1 | refine below_set ?_ (IsS98.ge HI0.out) | refine below_set ?_ GE212.out | refine below_set ?_ GE215.out) | exact HB.out))
 rintro e w15 ⟨v217, rfl, ho0, hi, hb, hk⟩
 refine ⟨_, rfl, ?_⟩
 have n0_ := Aside0.mk (KeepBut.blk hk (g' := gb212) (o := .cells #[.int .i64 0, .string (⟨#[]⟩ : ByteArray), .slice none 0 0, .bool false] 25 (0, 0)) zq45 NB212_0.out zq81)
 have n1_ := Aside0.mk (KeepBut.blk hk (g' := gb215) (o := .cells #[.int .i64 t213, .string (⟨#[]⟩ : ByteArray), .slice none 0 0, .bool false] 25 (0, 0)) zq58 NB215_0.out zq81)
 have n2_ := Aside0.mk (Kd.R_lower ho0 (keep_size (w := w) (g := g) (row := none) zq20))
 have n3_ := Aside0.mk (KeepBut.trans zq20 hk (.inl rfl))
 have n4_ := Aside0.mk (hb)
 have n5_ := Aside0.mk (hi)
 clear BK212
 clear BK215
 clear HK
 clear HB
 clear HI0
 have BK212 := n0_
 have BK215 := n1_
 have HO218 := n2_
 have HK := n3_
 have HB := n4_
 have HI0 := n5_
 clear n0_ n1_ n2_ n3_ n4_ n5_
 (try clear hb)
 (try clear hb2)
 (try clear hk)
 (try clear hi)
 (try clear ho0)
 obtain ⟨Ao16, co16, eo16⟩ := Kd.R_slice HO218.out
 (first | subst eo16 | (injection eo16 with f1_ f2_ f3_; have f4_ := f1_.symm; have f5_ := f3_.symm; clear f1_ f2_ f3_; subst f4_; subst f5_))
 refine hK.out _ _ ⟨(blk_cell BK215.out 0).trans rfl, (blk_cell BK215.out 1).trans rfl, (blk_cell BK215.out 2).trans rfl, (blk_cell BK215.out 3).trans rfl⟩ (fun hHeld => ?_)
 clear hK K
 refine norm_ (a' := ?_) ?_ ?_
 rotate_left
 ·show Act.put _ (some 10) _ = _
  simp only [Act.put, List.setIfInBounds_toArray, List.set_cons_zero, List.set_cons_succ, i64_w, i32_w]
  rfl
 refine one_ (i := 4) (N := some 13) #[true, true, true, true, true, false] rfl rfl zq19 zq60 (fun K hK => ?_)
 refine goes_ Try.func14 zq19 rfl #[.slice Ao16 t216.length co16, .int .i64 t213] zq90 rfl rfl zq0 ?_
 with_reducible refine (spec_Encode.calls k _ _ t216 t213 t220 _ ?side1 ?side2 A4.out).mono ?_
 (case side1 => repeat (first | exact (Kd.R_reads' HO218.out).2.2 | (with_reducible refine Kd.C_alloc ?_ _) | (with_reducible refine Kd.C_drewN ?_ _) | (with_reducible refine Kd.C_drew ?_)))
 (case side2 => exact (Kd.R_reads' HO218.out).2.1)
 rintro e w17 ⟨rfl, hb⟩
 refine ⟨_, rfl, ?_⟩
 have n0_ := Aside0.mk (Kd.R_below zq93 hb)
 have n1_ := Aside0.mk (IsS98.below zq28 hb)
 have n2_ := Aside0.mk (blk_below (g := gb212) (o := .cells #[.int .i64 0, .string (⟨#[]⟩ : ByteArray), .slice none 0 0, .bool false] 25 (0, 0)) zq45 hb)
 have n3_ := Aside0.mk (blk_below (g := gb215) (o := .cells #[.int .i64 t213, .string (⟨#[]⟩ : ByteArray), .slice none 0 0, .bool false] 25 (0, 0)) zq58 hb)
 have n4_ := Aside0.mk (KeepBut.trans zq20 (KeepBut.of_below hb g none) (.inl rfl))
 have n5_ := Aside0.mk (below_step zq33 hb)
 clear HO218
 clear HI0
 clear BK212
 clear BK215
 clear HK
 clear HB
 have HO218 := n0_
 have HI0 := n1_
 have BK212 := n2_
 have BK215 := n3_
 have HK := n4_
 have HB := n5_
 clear n0_ n1_ n2_ n3_ n4_ n5_
 (try clear hb)
 (try clear hb2)
 (try clear hk)
 (try clear hi)
 refine hK.out _ _ ⟨(blk_cell BK215.out 0).trans rfl, (blk_cell BK215.out 1).trans rfl, (blk_cell BK215.out 2).trans rfl, (blk_cell BK215.out 3).trans rfl⟩ (fun hHeld => ?_)
 clear hK K
 refine norm_ (a' := ?_) ?_ ?_
 rotate_left
 ·show Act.put _ (some 13) _ = _
  simp only [Act.put, List.setIfInBounds_toArray, List.set_cons_zero, List.set_cons_succ, i64_w, i32_w]
  rfl
 refine pure_ (i := 5) (N := some 4) (v := ?_) (a' := ?_) #[true, true, true, true, true, true] rfl rfl zq19 (fun _ _ _ h => h) (Or.inl ⟨zq90, ?_⟩) ?_ ?_
 rotate_left
 ·intro w'
  go_simp
  with_reducible rfl
 rotate_left
 ·simp only [Act.put, List.setIfInBounds_toArray, List.set_cons_zero, List.set_cons_succ, i64_w, i32_w]
  rfl
 refine done_ zq19 ?_
 go_upto_if 16 with (first | ((with_reducible refine gate_callee (f := 29) rfl ?_); refine goesL_ (some 15) rfl rfl Try.func29 zq19 rfl #[.pointer (some ⟨g, 0, none⟩), .int .i64 2] rfl zq0 ?_; (with_reducible refine (spec_l1Rd_pick.calls k g s0_0 t219 2 t221 t222 w0 _ ?side1 ?side2 A5.out).mono ?_); (case side1 => repeat (first | (with_reducible first | exact HI0.out | apply IsS98.alloc | apply IsS98.drewN | apply IsS98.drew | apply IsS98.set_1 | refine IsS98.far ?_ NB0_212.out _ | refine IsS98.far ?_ NB0_215.out _) | exact HI0.out)); (case side2 => repeat (first | (with_reducible first | exact HB.out | apply below_alloc | apply pw_below_drewN | apply below_drew1 | refine below_set ?_ (IsS98.ge HI0.out) | refine below_set ?_ GE212.out | refine below_set ?_ GE215.out) | exact HB.out)); rintro e w18 ⟨rfl, hi, hb, hk⟩; refine ⟨_, rfl, ?_⟩; have n0_ := Aside0.mk (KeepBut.blk hk (g' := gb212) (o := .cells #[.int .i64 0, .string (⟨#[]⟩ : ByteArray), .slice none 0 0, .bool false] 25 (0, 0)) zq45 NB212_0.out zq81); have n1_ := Aside0.mk (KeepBut.blk hk (g' := gb215) (o := .cells #[.int .i64 t213, .string (⟨#[]⟩ : ByteArray), .slice none 0 0, .bool false] 25 (0, 0)) zq58 NB215_0.out zq81); have n2_ := Aside0.mk (Kd.R_mono (Kd.R_keep (IsS98.apart (show IsS98 w0 _ g s0_0 t219 from zq28) zq93 zq60) hk (fun _ h => h.2)) (fun _ h => h.1)); have n3_ := Aside0.mk (KeepBut.trans zq20 hk (.inl rfl)); have n4_ := Aside0.mk (hb); have n5_ := Aside0.mk (hi); clear BK212; clear BK215; clear HO218; clear HK; clear HB; clear HI0; have BK212 := n0_; have BK215 := n1_; have HO218 := n2_; have HK := n3_; have HB := n4_; have HI0 := n5_; clear n0_ n1_ n2_ n3_ n4_ n5_; (try clear hb); (try clear hb2); (try clear hk); (try clear hi)))
 (try simp only [Act.put, List.setIfInBounds_toArray, List.set_cons_zero, List.set_cons_succ])
 go_cut [4] (fun v4 wc => ∃ (kq : Nat) (x4_5 : ByteArray) (x1001_5 : Int), v4 = .string x4_5 ∧ Aside0 (spec_l3Draw.j0 kq x4_5 s0_0 x1001_5 t213 (⟨#[]⟩ : ByteArray) false = some (r1, r2, r3, r4, r5)) ∧ Aside0 (kq ≤ k) ∧ Aside0 (wc.heap[gb212]? = some (.cells #[.int .i64 0, .string (⟨#[]⟩ : ByteArray), (.slice none 0 0), .bool false] 25 (0, 0))) ∧ Aside0 (wc.heap[gb215]? = some (.cells #[.int .i64 t213, .string (⟨#[]⟩ : ByteArray), (.slice none 0 0), .bool false] 25 (0, 0))) ∧ Aside0 (IsS98 w0 wc g s0_0 x1001_5) ∧ Aside0 (KeepBut w wc g none) ∧ Aside0 (Below w0.heap.size w0 wc))
 case first =>
  have H := HC6.out
  clear HC6
  by_cases c19 : t221 = 0
  ·rw [if_pos c19] at H
   have c19b0 : (t221 == 0) = true := beq_iff_eq.mpr c19
   have c19b1 : (t221 != 0) = false := bne_eq_false_iff_eq.mpr c19
   clear c19
   (first | rw [c19b0] | (simp only [i64_w, i32_w]; rw [c19b0]) | skip)
   replace H := Option.bind_eq_some_iff.mp H
   obtain ⟨⟨t223, t224⟩, A200, H⟩ := H
   try dsimp only at H
   have A20 := Aside0.mk A200
   clear A200
   have H' := Aside0.mk H
   clear H
   go_wp2_with (first | ((with_reducible refine gate_callee (f := 30) rfl ?_); refine goesL_ (some 19) rfl rfl Try.func30 zq19 rfl #[.pointer (some ⟨g, 0, none⟩), .string t220] rfl zq0 ?_; (with_reducible refine (spec_l1Bend.calls k g s0_0 t222 t220 t223 t224 w0 _ ?side1 ?side2 A20.out).mono ?_); (case side1 => repeat (first | (with_reducible first | exact HI0.out | apply IsS98.alloc | apply IsS98.drewN | apply IsS98.drew | apply IsS98.set_1 | refine IsS98.far ?_ NB0_212.out _ | refine IsS98.far ?_ NB0_215.out _) | exact HI0.out)); (case side2 => repeat (first | (with_reducible first | exact HB.out | apply below_alloc | apply pw_below_drewN | apply below_drew1 | refine below_set ?_ (IsS98.ge HI0.out) | refine below_set ?_ GE212.out | refine below_set ?_ GE215.out) | exact HB.out)); rintro e w21 ⟨rfl, hi, hb, hk⟩; refine ⟨_, rfl, ?_⟩; have n0_ := Aside0.mk (KeepBut.blk hk (g' := gb212) (o := .cells #[.int .i64 0, .string (⟨#[]⟩ : ByteArray), .slice none 0 0, .bool false] 25 (0, 0)) zq45 NB212_0.out zq81); have n1_ := Aside0.mk (KeepBut.blk hk (g' := gb215) (o := .cells #[.int .i64 t213, .string (⟨#[]⟩ : ByteArray), .slice none 0 0, .bool false] 25 (0, 0)) zq58 NB215_0.out zq81); have n2_ := Aside0.mk (Kd.R_mono (Kd.R_keep (IsS98.apart (show IsS98 w0 _ g s0_0 t222 from zq28) zq93 zq60) hk (fun _ h => h.2)) (fun _ h => h.1)); have n3_ := Aside0.mk (KeepBut.trans zq20 hk (.inl rfl)); have n4_ := Aside0.mk (hb); have n5_ := Aside0.mk (hi); clear BK212; clear BK215; clear HO218; clear HK; clear HB; clear HI0; have BK212 := n0_; have BK215 := n1_; have HO218 := n2_; have HK := n3_; have HB := n4_; have HI0 := n5_; clear n0_ n1_ n2_ n3_ n4_ n5_; (try clear hb); (try clear hb2); (try clear hk); (try clear hi)))
   go_meet
   case rel => exact ⟨_, (t223), (t224), zq22, H', ⟨zq74⟩, ⟨zq45⟩, ⟨zq58⟩, ⟨zq28⟩, ⟨zq20⟩, ⟨zq33⟩⟩
  ·rw [if_neg c19] at H
   have c19b0 : (t221 == 0) = false := beq_eq_false_iff_ne.mpr c19
   have c19b1 : (t221 != 0) = true := bne_iff_ne.mpr c19
   (first | rw [c19b0] | (simp only [i64_w, i32_w]; rw [c19b0]) | skip)
   have H' := Aside0.mk H
   clear H
   go_wp2
   go_meet
   case rel => exact ⟨_, (t220), (t222), zq22, H', ⟨zq74⟩, ⟨zq45⟩, ⟨zq58⟩, ⟨zq28⟩, ⟨zq20⟩, ⟨zq33⟩⟩
 case rest =>
  clear HC6
  try clear c1
  try clear c2
  try clear p2
  try clear c3
  try clear c10
  try clear c11
  try clear c14
  try clear c19
  try clear c19b0
  try clear c19b1
  try clear hcz12_0
  try clear hcz12_1
  try clear hcz12_2
  try clear hcz12_3
  try clear hfz12_0
  try clear hfz12_1
  try clear hfz12_2
  try clear hfz12_3
  obtain ⟨kq, x4_5, x1001_5, rfl, HA, HJ5, BK212, BK215, HI0, HK, HB⟩ := hcut
  cases kq with
  | zero => exact absurd HA.out (by simp [spec_l3Draw.j0])
  | succ kj5 =>
   have H := HA.out
   clear HA
   simp only [spec_l3Draw.j0] at H
   replace H := Option.bind_eq_some_iff.mp H
   obtain ⟨⟨t225, t226, t227, t230⟩, A220, H⟩ := H
   try dsimp only at H
   have A22 := Aside0.mk A220
   clear A220
   replace H := Option.bind_eq_some_iff.mp H
   obtain ⟨⟨t231, t232⟩, A230, H⟩ := H
   try dsimp only at H
   have A23 := Aside0.mk A230
   clear A230
   by_cases c24 : t231 = 0
   ·rw [if_pos c24] at H
    have c24b0 : (t231 == 0) = true := beq_iff_eq.mpr c24
    have c24b1 : (t231 != 0) = false := bne_eq_false_iff_eq.mpr c24
    clear c24
    replace H := Option.bind_eq_some_iff.mp H
    obtain ⟨⟨t233, t234⟩, A250, H⟩ := H
    try dsimp only at H
    have A25 := Aside0.mk A250
    clear A250
    have H' := Aside0.mk H
    clear H
    have hnb26 := NB215_212.out
    have hnc26 := NB212_215.out
    have hnb27 := NB215_0.out
    have hnc27 := NB0_215.out
    have hcz28_0 : wc.cell? ⟨gb215, 0, none⟩ = some (.int .i64 t213) := (blk_cell BK215.out 0).trans rfl
    have hcz28_1 : wc.cell? ⟨gb215, 1, none⟩ = some (.string (⟨#[]⟩ : ByteArray)) := (blk_cell BK215.out 1).trans rfl
    have hcz28_2 : wc.cell? ⟨gb215, 2, none⟩ = some (.slice none 0 0) := (blk_cell BK215.out 2).trans rfl
    have hcz28_3 : wc.cell? ⟨gb215, 3, none⟩ = some (.bool false) := (blk_cell BK215.out 3).trans rfl
    have hfz28_0 := blk_frozen BK215.out 0
    have hfz28_1 := blk_frozen BK215.out 1
    have hfz28_2 := blk_frozen BK215.out 2
    have hfz28_3 := blk_frozen BK215.out 3
    go_wp2_with (first | ((with_reducible refine gate_callee (f := 9) rfl ?_); refine goesL_ (some 22) rfl rfl Try.func9 zq19 rfl #[.agg #[.int .i64 t213, .string (⟨#[]⟩ : ByteArray), .slice none 0 0, .bool false], .string x4_5] rfl zq0 ?_; (refine (spec_Feed.calls kj5 t213 (⟨#[]⟩ : ByteArray) _ _ ([] : List ByteArray) false x4_5 t225 t226 t227 t230 _ ?side1 ?side2 A22.out).mono ?_); (case side1 => exact Kd.C_nil _ _); (case side2 => exact Nat.le_refl _); rintro e w29 ⟨v228, rfl, ho0, hb⟩; refine ⟨_, rfl, ?_⟩; have n0_ := Aside0.mk (Kd.R_lower ho0 (keep_size (w := w) (g := g) (row := none) zq20)); have n1_ := Aside0.mk (blk_below (g := gb212) (o := .cells #[.int .i64 0, .string (⟨#[]⟩ : ByteArray), .slice none 0 0, .bool false] 25 (0, 0)) zq45 hb); have n2_ := Aside0.mk (blk_below (g := gb215) (o := .cells #[.int .i64 t213, .string (⟨#[]⟩ : ByteArray), .slice none 0 0, .bool false] 25 (0, 0)) zq58 hb); have n3_ := Aside0.mk (IsS98.below zq28 hb); have n4_ := Aside0.mk (KeepBut.trans zq20 (KeepBut.of_below hb g none) (.inl rfl)); have n5_ := Aside0.mk (below_step zq33 hb); clear BK212; clear BK215; clear HI0; clear HK; clear HB; have HO229 := n0_; have BK212 := n1_; have BK215 := n2_; have HI0 := n3_; have HK := n4_; have HB := n5_; clear n0_ n1_ n2_ n3_ n4_ n5_; (try clear hb); (try clear hb2); (try clear hk); (try clear hi); (try clear ho0); have hcz30_0 : w29.cell? ⟨gb215, 0, none⟩ = some (.int .i64 t213) := (blk_cell BK215.out 0).trans rfl; have hcz30_1 : w29.cell? ⟨gb215, 1, none⟩ = some (.string (⟨#[]⟩ : ByteArray)) := (blk_cell BK215.out 1).trans rfl; have hcz30_2 : w29.cell? ⟨gb215, 2, none⟩ = some (.slice none 0 0) := (blk_cell BK215.out 2).trans rfl; have hcz30_3 : w29.cell? ⟨gb215, 3, none⟩ = some (.bool false) := (blk_cell BK215.out 3).trans rfl; have hfz30_0 := blk_frozen BK215.out 0; have hfz30_1 := blk_frozen BK215.out 1; have hfz30_2 := blk_frozen BK215.out 2; have hfz30_3 := blk_frozen BK215.out 3; obtain ⟨Ao31, co31, eo31⟩ := Kd.R_slice HO229.out; subst eo31) | ((with_reducible refine gate_callee (f := 29) rfl ?_); refine goesL_ (some 24) rfl rfl Try.func29 zq19 rfl #[.pointer (some ⟨g, 0, none⟩), .int .i64 12] rfl zq0 ?_; (with_reducible refine (spec_l1Rd_pick.calls kj5 g s0_0 x1001_5 12 t231 t232 w0 _ ?side1 ?side2 A23.out).mono ?_); (case side1 => repeat (first | (with_reducible first | exact HI0.out | apply IsS98.alloc | apply IsS98.drewN | apply IsS98.drew | apply IsS98.set_1 | refine IsS98.far ?_ NB0_212.out _ | refine IsS98.far ?_ NB0_215.out _) | exact HI0.out)); (case side2 => repeat (first | (with_reducible first | exact HB.out | apply below_alloc | apply pw_below_drewN | apply below_drew1 | refine below_set ?_ (IsS98.ge HI0.out) | refine below_set ?_ GE212.out | refine below_set ?_ GE215.out) | exact HB.out)); rintro e w32 ⟨rfl, hi, hb, hk⟩; refine ⟨_, rfl, ?_⟩; have n0_ := Aside0.mk (KeepBut.blk hk (g' := gb212) (o := .cells #[.int .i64 0, .string (⟨#[]⟩ : ByteArray), .slice none 0 0, .bool false] 25 (0, 0)) zq51 NB212_0.out zq81); have n1_ := Aside0.mk (KeepBut.blk hk (g' := gb215) (o := .cells #[.int .i64 t225, .string t226, .slice Ao31 t227.length co31, .bool t230] 25 (0, 0)) (by (with_reducible repeat (first | refine blk_drewN ?_ _ | refine blk_drew ?_ | refine blk_alloc ?_ _)); refine blk_put (cs := #[.int .i64 t225, .string t226, .slice Ao31 t227.length co31, .bool false]) ?_ 3 _ rfl; (with_reducible repeat (first | refine blk_drewN ?_ _ | refine blk_drew ?_ | refine blk_alloc ?_ _)); refine blk_put (cs := #[.int .i64 t225, .string t226, .slice none 0 0, .bool false]) ?_ 2 _ rfl; (with_reducible repeat (first | refine blk_drewN ?_ _ | refine blk_drew ?_ | refine blk_alloc ?_ _)); refine blk_put (cs := #[.int .i64 t225, .string (⟨#[]⟩ : ByteArray), .slice none 0 0, .bool false]) ?_ 1 _ rfl; (with_reducible repeat (first | refine blk_drewN ?_ _ | refine blk_drew ?_ | refine blk_alloc ?_ _)); refine blk_put (cs := #[.int .i64 t213, .string (⟨#[]⟩ : ByteArray), .slice none 0 0, .bool false]) ?_ 0 _ rfl; (with_reducible repeat (first | refine blk_drewN ?_ _ | refine blk_drew ?_ | refine blk_alloc ?_ _)); exact BK215.out) NB215_0.out zq81); have n2_ := Aside0.mk (Kd.R_mono (Kd.R_keep (IsS98.apart (show IsS98 w0 _ g s0_0 x1001_5 from zq28) (by (with_reducible repeat (first | apply Kd.R_alloc | apply Kd.R_drewN | apply Kd.R_drew)); exact (Kd.R_mono (Kd.R_far (p := ⟨gb215, 3, none⟩) (Kd.R_far (p := ⟨gb215, 2, none⟩) (Kd.R_far (p := ⟨gb215, 1, none⟩) (Kd.R_far (p := ⟨gb215, 0, none⟩) (Kd.R_types HO229.out BK215.out zq60) (fun _ hk => hk.2) (.int .i64 t225)) (fun _ hk => hk.2) (.string t226)) (fun _ hk => hk.2) (.slice Ao31 t227.length co31)) (fun _ hk => hk.2) (.bool t230)) (fun _ h_ => h_.1))) zq60) hk (fun _ h => h.2)) (fun _ h => h.1)); have n3_ := Aside0.mk (KeepBut.trans zq20 hk (.inl rfl)); have n4_ := Aside0.mk (hb); have n5_ := Aside0.mk (hi); clear BK212; clear BK215; clear HO229; clear HK; clear HB; clear HI0; have BK212 := n0_; have BK215 := n1_; have HO229 := n2_; have HK := n3_; have HB := n4_; have HI0 := n5_; clear n0_ n1_ n2_ n3_ n4_ n5_; (try clear hb); (try clear hb2); (try clear hk); (try clear hi)) | ((with_reducible refine gate_callee (f := 29) rfl ?_); refine goesL_ (some 27) rfl rfl Try.func29 zq19 rfl #[.pointer (some ⟨g, 0, none⟩), .int .i64 2] rfl zq0 ?_; (with_reducible refine (spec_l1Rd_pick.calls kj5 g s0_0 t232 2 t233 t234 w0 _ ?side1 ?side2 A25.out).mono ?_); (case side1 => repeat (first | (with_reducible first | exact HI0.out | apply IsS98.alloc | apply IsS98.drewN | apply IsS98.drew | apply IsS98.set_1 | refine IsS98.far ?_ NB0_212.out _ | refine IsS98.far ?_ NB0_215.out _) | exact HI0.out)); (case side2 => repeat (first | (with_reducible first | exact HB.out | apply below_alloc | apply pw_below_drewN | apply below_drew1 | refine below_set ?_ (IsS98.ge HI0.out) | refine below_set ?_ GE212.out | refine below_set ?_ GE215.out) | exact HB.out)); rintro e w33 ⟨rfl, hi, hb, hk⟩; refine ⟨_, rfl, ?_⟩; have n0_ := Aside0.mk (KeepBut.blk hk (g' := gb212) (o := .cells #[.int .i64 0, .string (⟨#[]⟩ : ByteArray), .slice none 0 0, .bool false] 25 (0, 0)) zq45 NB212_0.out zq81); have n1_ := Aside0.mk (KeepBut.blk hk (g' := gb215) (o := .cells #[.int .i64 t225, .string t226, .slice Ao31 t227.length co31, .bool t230] 25 (0, 0)) zq58 NB215_0.out zq81); have n2_ := Aside0.mk (Kd.R_mono (Kd.R_keep (IsS98.apart (show IsS98 w0 _ g s0_0 t232 from zq28) (by (with_reducible repeat (first | apply Kd.R_alloc | apply Kd.R_drewN | apply Kd.R_drew)); exact HO229.out) zq60) hk (fun _ h => h.2)) (fun _ h => h.1)); have n3_ := Aside0.mk (KeepBut.trans zq20 hk (.inl rfl)); have n4_ := Aside0.mk (hb); have n5_ := Aside0.mk (hi); clear BK212; clear BK215; clear HO229; clear HK; clear HB; clear HI0; have BK212 := n0_; have BK215 := n1_; have HO229 := n2_; have HK := n3_; have HB := n4_; have HI0 := n5_; clear n0_ n1_ n2_ n3_ n4_ n5_; (try clear hb); (try clear hb2); (try clear hk); (try clear hi)))
    go_loopg [] kj5 (fun kq w' => ∃ (x216002_2 : List ByteArray) (u216002 : Value), Aside0 (spec_l3Draw.l0 kq (wrap64 (500 - t233)) s0_0 t234 t225 t226 x216002_2 t230 = some (r1, r2, r3, r4, r5)) ∧ Aside0 (kq ≤ kj5) ∧ Aside0 (Kd.R Kd.string 9 w' w.heap.size (fun _ => True) u216002 x216002_2) ∧ Aside0 (w'.heap[gb212]? = some (.cells #[.int .i64 0, .string (⟨#[]⟩ : ByteArray), (.slice none 0 0), .bool false] 25 (0, 0))) ∧ Aside0 (w'.heap[gb215]? = some (.cells #[.int .i64 t225, .string t226, u216002, .bool t230] 25 (0, 0))) ∧ Aside0 (IsS98 w0 w' g s0_0 t234) ∧ Aside0 (KeepBut w w' g none) ∧ Aside0 (Below w0.heap.size w0 w'))
    case atStart => exact ⟨(t227), (.slice Ao31 t227.length co31), H', ⟨Nat.le_refl _⟩, ⟨by (with_reducible repeat (first | apply Kd.R_alloc | apply Kd.R_drewN | apply Kd.R_drew)); exact HO229.out⟩, ⟨zq45⟩, ⟨zq58⟩, ⟨zq28⟩, ⟨zq20⟩, ⟨zq33⟩⟩
    case round =>
     clear H'
     try clear c1
     try clear c2
     try clear p2
     try clear c3
     try clear p6
     try clear c9
     try clear c10
     try clear c11
     try clear c14
     try clear c19
     try clear c19b0
     try clear c19b1
     try clear c24
     try clear c24b0
     try clear c24b1
     try clear c26
     try clear c27
     try clear c28
     try clear c29
     try clear c30
     try clear hcz12_0
     try clear hcz12_1
     try clear hcz12_2
     try clear hcz12_3
     try clear hcz28_0
     try clear hcz28_1
     try clear hcz28_2
     try clear hcz28_3
     try clear hcz30_0
     try clear hcz30_1
     try clear hcz30_2
     try clear hcz30_3
     try clear hfz12_0
     try clear hfz12_1
     try clear hfz12_2
     try clear hfz12_3
     try clear hfz28_0
     try clear hfz28_1
     try clear hfz28_2
     try clear hfz28_3
     try clear hfz30_0
     try clear hfz30_1
     try clear hfz30_2
     try clear hfz30_3
     try clear p2
     obtain ⟨x216002_2, u216002, HA, HK2, HO_216002, BK212, BK215, HI0, HK, HB⟩ := hrel
     cases gk with
     | zero => exact absurd HA.out (by simp [spec_l3Draw.l0])
     | succ k2 =>
      have H := HA.out
      clear HA
      simp only [spec_l3Draw.l0] at H
      by_cases c34 : (x216002_2.length : Int) < (wrap64 (500 - t233))
      ·rw [if_pos c34] at H
       have c34b0 : decide ((x216002_2.length : Int) < (wrap64 (500 - t233))) = true := decide_eq_true c34
       clear c34
       by_cases c35 : x216002_2.length < 8796093022208
       ·rw [if_pos c35] at H
        have LMc35 := Aside0.mk c35
        clear c35
        obtain ⟨y235, hy235⟩ : ∃ y_ : List ByteArray, y_ = (x216002_2 ++ [(⟨#[102]⟩ : ByteArray)]) := ⟨_, rfl⟩
        replace H : (spec_l3Draw.l0 k2 (wrap64 (500 - t233)) s0_0 t234 t225 t226 y235 t230) = some (r1, r2, r3, r4, r5) := by first | (rw [hy235]; with_reducible exact H) | (have H2_ := (Option.bind_some _ _).symm.trans H; rw [hy235]; with_reducible exact H2_) | (have H2_ := (Option.bind_some _ _).symm.trans H; with_reducible exact H2_) | with_reducible exact H | (rw [hy235]; exact H) | exact H
        have Ny235 := Aside0.mk hy235
        clear hy235
        have H' := Aside0.mk H
        clear H
        have hnb36 := NB215_212.out
        have hnc36 := NB212_215.out
        have hnb37 := NB215_0.out
        have hnc37 := NB0_215.out
        have hcz38_0 : wr.cell? ⟨gb215, 0, none⟩ = some (.int .i64 t225) := (blk_cell BK215.out 0).trans rfl
        have hcz38_1 : wr.cell? ⟨gb215, 1, none⟩ = some (.string t226) := (blk_cell BK215.out 1).trans rfl
        have hcz38_2 : wr.cell? ⟨gb215, 2, none⟩ = some (u216002) := (blk_cell BK215.out 2).trans rfl
        have hcz38_3 : wr.cell? ⟨gb215, 3, none⟩ = some (.bool t230) := (blk_cell BK215.out 3).trans rfl
        have hfz38_0 := blk_frozen BK215.out 0
        have hfz38_1 := blk_frozen BK215.out 1
        have hfz38_2 := blk_frozen BK215.out 2
        have hfz38_3 := blk_frozen BK215.out 3
        obtain ⟨Ao39, co39, eo39⟩ := Kd.R_slice HO_216002.out
        subst eo39
        go_wp2_with (first | ((with_reducible refine gate_builtin (b := .append) (xs := #[.tmp 35, .tmp 36]) rfl ?_); at_builtin; refine Kd.R_append Kd.string w.heap.size rfl (.tmp 35) (.tmp 36) 23 9 (.string ⟨#[]⟩) 16 rfl Try.underlying23 info9 rfl zq60 zq99 (.slice Ao39 x216002_2.length co39) x216002_2 (⟨#[102]⟩ : ByteArray) [.string (⟨#[102]⟩ : ByteArray)] (fun _ => True) (fun _ => False) rfl rfl ?aP (fun _ hk => hk.elim) ?aF ?aO (Below.refl _ _) ?aS ?aL ?_; (case aP => exact rfl); (case aF => exact (fun _ _ => trivial)); (case aO => exact (by (with_reducible repeat (first | apply Kd.R_alloc | apply Kd.R_drewN | apply Kd.R_drew)); exact HO_216002.out)); (case aS => exact (keep_size (w := w) (g := g) (row := none) zq20)); (case aL => have := LMc35.out; omega); intro v236 w40 ho hb hg hat; rw [← Ny235.out] at ho; have n0_ := Aside0.mk (blk_grown (g := gb212) (o := .cells #[.int .i64 0, .string (⟨#[]⟩ : ByteArray), .slice none 0 0, .bool false] 25 (0, 0)) zq45 hg (Kd.R_ne HO_216002.out BK212.out zq60)); have n1_ := Aside0.mk (blk_grown (g := gb215) (o := .cells #[.int .i64 t225, .string t226, .slice Ao39 x216002_2.length co39, .bool t230] 25 (0, 0)) zq58 hg (Kd.R_ne HO_216002.out BK215.out zq60)); have n2_ := Aside0.mk (IsS98.grown zq28 hg (IsS98.own_ne HI0.out HO_216002.out zq60)); have n3_ := Aside0.mk (below_weaken zq33 HL.out hb); have n4_ := Aside0.mk (KeepBut.trans zq20 (KeepBut.of_grown hg g) (Kd.R_base2 HO_216002.out)); have n5_ := Aside0.mk (ho); clear BK212; clear BK215; clear HI0; clear HB; clear HK; clear HO_216002; have BK212 := n0_; have BK215 := n1_; have HI0 := n2_; have HB := n3_; have HK := n4_; have HO237 := n5_; clear n0_ n1_ n2_ n3_ n4_ n5_; clear ho hb hg hat; obtain ⟨Ao41, co41, eo41⟩ := Kd.R_slice HO237.out; subst eo41; have hcz42_0 : w40.cell? ⟨gb215, 0, none⟩ = some (.int .i64 t225) := (blk_cell BK215.out 0).trans rfl; have hcz42_1 : w40.cell? ⟨gb215, 1, none⟩ = some (.string t226) := (blk_cell BK215.out 1).trans rfl; have hcz42_2 : w40.cell? ⟨gb215, 2, none⟩ = some (.slice Ao39 x216002_2.length co39) := (blk_cell BK215.out 2).trans rfl; have hcz42_3 : w40.cell? ⟨gb215, 3, none⟩ = some (.bool t230) := (blk_cell BK215.out 3).trans rfl; have hfz42_0 := blk_frozen BK215.out 0; have hfz42_1 := blk_frozen BK215.out 1; have hfz42_2 := blk_frozen BK215.out 2; have hfz42_3 := blk_frozen BK215.out 3))
        go_roundg k2
        case measure => have := HJ5.out; have := HK2.out; omega
        case rel => exact ⟨(y235), (.slice Ao41 y235.length co41), H', ⟨by have := HJ5.out; have := HK2.out; omega⟩, ⟨by (with_reducible repeat (first | apply Kd.R_alloc | apply Kd.R_drewN | apply Kd.R_drew)); exact Kd.R_mono (Kd.R_far (p := ⟨gb215, 2, none⟩) (Kd.R_types HO237.out BK215.out zq60) (fun _ hk => hk.2) (.slice Ao41 y235.length co41)) (fun _ hk => trivial)⟩, ⟨by (with_reducible repeat (first | refine blk_drewN ?_ _ | refine blk_drew ?_ | refine blk_alloc ?_ _)); refine blk_far ?_ NB212_215.out _; (with_reducible repeat (first | refine blk_drewN ?_ _ | refine blk_drew ?_ | refine blk_alloc ?_ _)); exact BK212.out⟩, ⟨by (with_reducible repeat (first | refine blk_drewN ?_ _ | refine blk_drew ?_ | refine blk_alloc ?_ _)); refine blk_put (cs := #[.int .i64 t225, .string t226, .slice Ao39 x216002_2.length co39, .bool t230]) ?_ 2 _ rfl; (with_reducible repeat (first | refine blk_drewN ?_ _ | refine blk_drew ?_ | refine blk_alloc ?_ _)); exact BK215.out⟩, ⟨zq28⟩, ⟨zq20⟩, ⟨zq33⟩⟩
       ·rw [if_neg c35] at H
        exact absurd H zq81
      ·rw [if_neg c34] at H
       have c34b0 : decide ((x216002_2.length : Int) < (wrap64 (500 - t233))) = false := decide_eq_false c34
       clear c34
       simp only [Option.some.injEq, Prod.mk.injEq] at H
       obtain ⟨rfl, rfl, rfl, rfl, rfl⟩ := H
       have hnb43 := NB215_212.out
       have hnc43 := NB212_215.out
       have hnb44 := NB215_0.out
       have hnc44 := NB0_215.out
       have hcz45_0 : wr.cell? ⟨gb215, 0, none⟩ = some (.int .i64 t225) := (blk_cell BK215.out 0).trans rfl
       have hcz45_1 : wr.cell? ⟨gb215, 1, none⟩ = some (.string t226) := (blk_cell BK215.out 1).trans rfl
       have hcz45_2 : wr.cell? ⟨gb215, 2, none⟩ = some (u216002) := (blk_cell BK215.out 2).trans rfl
       have hcz45_3 : wr.cell? ⟨gb215, 3, none⟩ = some (.bool t230) := (blk_cell BK215.out 3).trans rfl
       have hfz45_0 := blk_frozen BK215.out 0
       have hfz45_1 := blk_frozen BK215.out 1
       have hfz45_2 := blk_frozen BK215.out 2
       have hfz45_3 := blk_frozen BK215.out 3
       obtain ⟨Ao46, co46, eo46⟩ := Kd.R_slice HO_216002.out
       subst eo46
       have hnb47 := NB212_0.out
       have hnc47 := NB0_212.out
       have hcz48_0 : wr.cell? ⟨gb212, 0, none⟩ = some (.int .i64 0) := (blk_cell BK212.out 0).trans rfl
       have hcz48_1 : wr.cell? ⟨gb212, 1, none⟩ = some (.string (⟨#[]⟩ : ByteArray)) := (blk_cell BK212.out 1).trans rfl
       have hcz48_2 : wr.cell? ⟨gb212, 2, none⟩ = some (.slice none 0 0) := (blk_cell BK212.out 2).trans rfl
       have hcz48_3 : wr.cell? ⟨gb212, 3, none⟩ = some (.bool false) := (blk_cell BK212.out 3).trans rfl
       have hfz48_0 := blk_frozen BK212.out 0
       have hfz48_1 := blk_frozen BK212.out 1
       have hfz48_2 := blk_frozen BK212.out 2
       have hfz48_3 := blk_frozen BK212.out 3
       go_wp2
       refine bodyPost_ret (results_cell_row rfl _ _ gb212 25 #[.int .i64 t225, .string t226, .slice Ao46 x216002_2.length co46, .bool t230] (0, 0) _ rfl (by (with_reducible repeat (first | refine blk_drewN ?_ _ | refine blk_drew ?_ | refine blk_alloc ?_ _)); refine blk_put (cs := #[.int .i64 t225, .string t226, .slice Ao46 x216002_2.length co46, .bool false]) ?_ 3 _ rfl; (with_reducible repeat (first | refine blk_drewN ?_ _ | refine blk_drew ?_ | refine blk_alloc ?_ _)); refine blk_put (cs := #[.int .i64 t225, .string t226, .slice none 0 0, .bool false]) ?_ 2 _ rfl; (with_reducible repeat (first | refine blk_drewN ?_ _ | refine blk_drew ?_ | refine blk_alloc ?_ _)); refine blk_put (cs := #[.int .i64 t225, .string (⟨#[]⟩ : ByteArray), .slice none 0 0, .bool false]) ?_ 1 _ rfl; (with_reducible repeat (first | refine blk_drewN ?_ _ | refine blk_drew ?_ | refine blk_alloc ?_ _)); refine blk_put (cs := #[.int .i64 0, .string (⟨#[]⟩ : ByteArray), .slice none 0 0, .bool false]) ?_ 0 _ rfl; (with_reducible repeat (first | refine blk_drewN ?_ _ | refine blk_drew ?_ | refine blk_alloc ?_ _)); exact BK212.out) Try.underlying25 rfl zq19) rfl ?_
       exact ⟨_, zq8, by (with_reducible repeat (first | apply Kd.R_alloc | apply Kd.R_drewN | apply Kd.R_drew)); exact Kd.R_mono (Kd.R_far (p := ⟨gb212, 3, none⟩) (Kd.R_far (p := ⟨gb212, 2, none⟩) (Kd.R_far (p := ⟨gb212, 1, none⟩) (Kd.R_far (p := ⟨gb212, 0, none⟩) (Kd.R_types HO_216002.out BK212.out zq60) (fun _ hk => hk.2) (.int .i64 t225)) (fun _ hk => hk.2) (.string t226)) (fun _ hk => hk.2) (.slice Ao46 x216002_2.length co46)) (fun _ hk => hk.2) (.bool t230)) (fun _ hk => trivial), zq28, zq33, zq20⟩
   ·rw [if_neg c24] at H
    have c24b0 : (t231 == 0) = false := beq_eq_false_iff_ne.mpr c24
    have c24b1 : (t231 != 0) = true := bne_iff_ne.mpr c24
    simp only [Option.some.injEq, Prod.mk.injEq] at H
    obtain ⟨rfl, rfl, rfl, rfl, rfl⟩ := H
    have hnb49 := NB215_212.out
    have hnc49 := NB212_215.out
    have hnb50 := NB215_0.out
    have hnc50 := NB0_215.out
    have hcz51_0 : wc.cell? ⟨gb215, 0, none⟩ = some (.int .i64 t213) := (blk_cell BK215.out 0).trans rfl
    have hcz51_1 : wc.cell? ⟨gb215, 1, none⟩ = some (.string (⟨#[]⟩ : ByteArray)) := (blk_cell BK215.out 1).trans rfl
    have hcz51_2 : wc.cell? ⟨gb215, 2, none⟩ = some (.slice none 0 0) := (blk_cell BK215.out 2).trans rfl
    have hcz51_3 : wc.cell? ⟨gb215, 3, none⟩ = some (.bool false) := (blk_cell BK215.out 3).trans rfl
    have hfz51_0 := blk_frozen BK215.out 0
    have hfz51_1 := blk_frozen BK215.out 1
    have hfz51_2 := blk_frozen BK215.out 2
    have hfz51_3 := blk_frozen BK215.out 3
    go_wp2_with (first | ((with_reducible refine gate_callee (f := 9) rfl ?_); refine goesL_ (some 22) rfl rfl Try.func9 zq19 rfl #[.agg #[.int .i64 t213, .string (⟨#[]⟩ : ByteArray), .slice none 0 0, .bool false], .string x4_5] rfl zq0 ?_; (refine (spec_Feed.calls kj5 t213 (⟨#[]⟩ : ByteArray) _ _ ([] : List ByteArray) false x4_5 t225 t226 t227 t230 _ ?side1 ?side2 A22.out).mono ?_); (case side1 => exact Kd.C_nil _ _); (case side2 => exact Nat.le_refl _); rintro e w52 ⟨v228, rfl, ho0, hb⟩; refine ⟨_, rfl, ?_⟩; have n0_ := Aside0.mk (Kd.R_lower ho0 (keep_size (w := w) (g := g) (row := none) zq20)); have n1_ := Aside0.mk (blk_below (g := gb212) (o := .cells #[.int .i64 0, .string (⟨#[]⟩ : ByteArray), .slice none 0 0, .bool false] 25 (0, 0)) zq45 hb); have n2_ := Aside0.mk (blk_below (g := gb215) (o := .cells #[.int .i64 t213, .string (⟨#[]⟩ : ByteArray), .slice none 0 0, .bool false] 25 (0, 0)) zq58 hb); have n3_ := Aside0.mk (IsS98.below zq28 hb); have n4_ := Aside0.mk (KeepBut.trans zq20 (KeepBut.of_below hb g none) (.inl rfl)); have n5_ := Aside0.mk (below_step zq33 hb); clear BK212; clear BK215; clear HI0; clear HK; clear HB; have HO229 := n0_; have BK212 := n1_; have BK215 := n2_; have HI0 := n3_; have HK := n4_; have HB := n5_; clear n0_ n1_ n2_ n3_ n4_ n5_; (try clear hb); (try clear hb2); (try clear hk); (try clear hi); (try clear ho0); have hcz53_0 : w52.cell? ⟨gb215, 0, none⟩ = some (.int .i64 t213) := (blk_cell BK215.out 0).trans rfl; have hcz53_1 : w52.cell? ⟨gb215, 1, none⟩ = some (.string (⟨#[]⟩ : ByteArray)) := (blk_cell BK215.out 1).trans rfl; have hcz53_2 : w52.cell? ⟨gb215, 2, none⟩ = some (.slice none 0 0) := (blk_cell BK215.out 2).trans rfl; have hcz53_3 : w52.cell? ⟨gb215, 3, none⟩ = some (.bool false) := (blk_cell BK215.out 3).trans rfl; have hfz53_0 := blk_frozen BK215.out 0; have hfz53_1 := blk_frozen BK215.out 1; have hfz53_2 := blk_frozen BK215.out 2; have hfz53_3 := blk_frozen BK215.out 3; obtain ⟨Ao54, co54, eo54⟩ := Kd.R_slice HO229.out; subst eo54) | ((with_reducible refine gate_callee (f := 29) rfl ?_); refine goesL_ (some 24) rfl rfl Try.func29 zq19 rfl #[.pointer (some ⟨g, 0, none⟩), .int .i64 12] rfl zq0 ?_; (with_reducible refine (spec_l1Rd_pick.calls kj5 g s0_0 x1001_5 12 t231 t232 w0 _ ?side1 ?side2 A23.out).mono ?_); (case side1 => repeat (first | (with_reducible first | exact HI0.out | apply IsS98.alloc | apply IsS98.drewN | apply IsS98.drew | apply IsS98.set_1 | refine IsS98.far ?_ NB0_212.out _ | refine IsS98.far ?_ NB0_215.out _) | exact HI0.out)); (case side2 => repeat (first | (with_reducible first | exact HB.out | apply below_alloc | apply pw_below_drewN | apply below_drew1 | refine below_set ?_ (IsS98.ge HI0.out) | refine below_set ?_ GE212.out | refine below_set ?_ GE215.out) | exact HB.out)); rintro e w55 ⟨rfl, hi, hb, hk⟩; refine ⟨_, rfl, ?_⟩; have n0_ := Aside0.mk (KeepBut.blk hk (g' := gb212) (o := .cells #[.int .i64 0, .string (⟨#[]⟩ : ByteArray), .slice none 0 0, .bool false] 25 (0, 0)) zq51 NB212_0.out zq81); have n1_ := Aside0.mk (KeepBut.blk hk (g' := gb215) (o := .cells #[.int .i64 t225, .string t226, .slice Ao54 t227.length co54, .bool t230] 25 (0, 0)) (by (with_reducible repeat (first | refine blk_drewN ?_ _ | refine blk_drew ?_ | refine blk_alloc ?_ _)); refine blk_put (cs := #[.int .i64 t225, .string t226, .slice Ao54 t227.length co54, .bool false]) ?_ 3 _ rfl; (with_reducible repeat (first | refine blk_drewN ?_ _ | refine blk_drew ?_ | refine blk_alloc ?_ _)); refine blk_put (cs := #[.int .i64 t225, .string t226, .slice none 0 0, .bool false]) ?_ 2 _ rfl; (with_reducible repeat (first | refine blk_drewN ?_ _ | refine blk_drew ?_ | refine blk_alloc ?_ _)); refine blk_put (cs := #[.int .i64 t225, .string (⟨#[]⟩ : ByteArray), .slice none 0 0, .bool false]) ?_ 1 _ rfl; (with_reducible repeat (first | refine blk_drewN ?_ _ | refine blk_drew ?_ | refine blk_alloc ?_ _)); refine blk_put (cs := #[.int .i64 t213, .string (⟨#[]⟩ : ByteArray), .slice none 0 0, .bool false]) ?_ 0 _ rfl; (with_reducible repeat (first | refine blk_drewN ?_ _ | refine blk_drew ?_ | refine blk_alloc ?_ _)); exact BK215.out) NB215_0.out zq81); have n2_ := Aside0.mk (Kd.R_mono (Kd.R_keep (IsS98.apart (show IsS98 w0 _ g s0_0 x1001_5 from zq28) (by (with_reducible repeat (first | apply Kd.R_alloc | apply Kd.R_drewN | apply Kd.R_drew)); exact (Kd.R_mono (Kd.R_far (p := ⟨gb215, 3, none⟩) (Kd.R_far (p := ⟨gb215, 2, none⟩) (Kd.R_far (p := ⟨gb215, 1, none⟩) (Kd.R_far (p := ⟨gb215, 0, none⟩) (Kd.R_types HO229.out BK215.out zq60) (fun _ hk => hk.2) (.int .i64 t225)) (fun _ hk => hk.2) (.string t226)) (fun _ hk => hk.2) (.slice Ao54 t227.length co54)) (fun _ hk => hk.2) (.bool t230)) (fun _ h_ => h_.1))) zq60) hk (fun _ h => h.2)) (fun _ h => h.1)); have n3_ := Aside0.mk (KeepBut.trans zq20 hk (.inl rfl)); have n4_ := Aside0.mk (hb); have n5_ := Aside0.mk (hi); clear BK212; clear BK215; clear HO229; clear HK; clear HB; clear HI0; have BK212 := n0_; have BK215 := n1_; have HO229 := n2_; have HK := n3_; have HB := n4_; have HI0 := n5_; clear n0_ n1_ n2_ n3_ n4_ n5_; (try clear hb); (try clear hb2); (try clear hk); (try clear hi); have hcz56_0 : w55.cell? ⟨gb215, 0, none⟩ = some (.int .i64 t225) := (blk_cell BK215.out 0).trans rfl; have hcz56_1 : w55.cell? ⟨gb215, 1, none⟩ = some (.string t226) := (blk_cell BK215.out 1).trans rfl; have hcz56_2 : w55.cell? ⟨gb215, 2, none⟩ = some (.slice Ao54 t227.length co54) := (blk_cell BK215.out 2).trans rfl; have hcz56_3 : w55.cell? ⟨gb215, 3, none⟩ = some (.bool t230) := (blk_cell BK215.out 3).trans rfl; have hfz56_0 := blk_frozen BK215.out 0; have hfz56_1 := blk_frozen BK215.out 1; have hfz56_2 := blk_frozen BK215.out 2; have hfz56_3 := blk_frozen BK215.out 3; have hnb57 := NB212_0.out; have hnc57 := NB0_212.out; have hcz58_0 : w55.cell? ⟨gb212, 0, none⟩ = some (.int .i64 0) := (blk_cell BK212.out 0).trans rfl; have hcz58_1 : w55.cell? ⟨gb212, 1, none⟩ = some (.string (⟨#[]⟩ : ByteArray)) := (blk_cell BK212.out 1).trans rfl; have hcz58_2 : w55.cell? ⟨gb212, 2, none⟩ = some (.slice none 0 0) := (blk_cell BK212.out 2).trans rfl; have hcz58_3 : w55.cell? ⟨gb212, 3, none⟩ = some (.bool false) := (blk_cell BK212.out 3).trans rfl; have hfz58_0 := blk_frozen BK212.out 0; have hfz58_1 := blk_frozen BK212.out 1; have hfz58_2 := blk_frozen BK212.out 2; have hfz58_3 := blk_frozen BK212.out 3))
    refine bodyPost_ret (results_cell_row rfl _ _ gb212 25 #[.int .i64 t225, .string t226, .slice Ao54 t227.length co54, .bool t230] (0, 0) _ rfl (by (with_reducible repeat (first | refine blk_drewN ?_ _ | refine blk_drew ?_ | refine blk_alloc ?_ _)); refine blk_put (cs := #[.int .i64 t225, .string t226, .slice Ao54 t227.length co54, .bool false]) ?_ 3 _ rfl; (with_reducible repeat (first | refine blk_drewN ?_ _ | refine blk_drew ?_ | refine blk_alloc ?_ _)); refine blk_put (cs := #[.int .i64 t225, .string t226, .slice none 0 0, .bool false]) ?_ 2 _ rfl; (with_reducible repeat (first | refine blk_drewN ?_ _ | refine blk_drew ?_ | refine blk_alloc ?_ _)); refine blk_put (cs := #[.int .i64 t225, .string (⟨#[]⟩ : ByteArray), .slice none 0 0, .bool false]) ?_ 1 _ rfl; (with_reducible repeat (first | refine blk_drewN ?_ _ | refine blk_drew ?_ | refine blk_alloc ?_ _)); refine blk_put (cs := #[.int .i64 0, .string (⟨#[]⟩ : ByteArray), .slice none 0 0, .bool false]) ?_ 0 _ rfl; (with_reducible repeat (first | refine blk_drewN ?_ _ | refine blk_drew ?_ | refine blk_alloc ?_ _)); exact BK212.out) Try.underlying25 rfl zq19) rfl ?_
    exact ⟨_, zq8, by (with_reducible repeat (first | apply Kd.R_alloc | apply Kd.R_drewN | apply Kd.R_drew)); exact Kd.R_mono (Kd.R_far (p := ⟨gb212, 3, none⟩) (Kd.R_far (p := ⟨gb212, 2, none⟩) (Kd.R_far (p := ⟨gb212, 1, none⟩) (Kd.R_far (p := ⟨gb212, 0, none⟩) (Kd.R_types HO229.out BK212.out zq60) (fun _ hk => hk.2) (.int .i64 t225)) (fun _ hk => hk.2) (.string t226)) (fun _ hk => hk.2) (.slice Ao54 t227.length co54)) (fun _ hk => hk.2) (.bool t230)) (fun _ hk => trivial), zq28, zq33, zq20⟩
end Go.Proofs.Ytgjipjffpodjlaa.K
