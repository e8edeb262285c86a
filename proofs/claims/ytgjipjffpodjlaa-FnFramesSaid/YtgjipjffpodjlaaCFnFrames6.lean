import Derived.Test.YtgjipjffpodjlaaCFnFrames3
import Derived.Test.YtgjipjffpodjlaaCFnFrames4
import Derived.Test.YtgjipjffpodjlaaCFnFrames5
namespace Go.Proofs.Ytgjipjffpodjlaa.K
open Go.RowKit Go.Proofs.YtgjipjffpodjlaaW.PrintWords Go.Proofs.YtgjipjffpodjlaaW.PrintLast Go.Proofs.YtgjipjffpodjlaaW.PrintMore
attribute [local go_sem] max2_int min2_int max_two min_two max_three min_three max_four min_four   
set_option linter.unusedVariables false
set_option linter.unusedSimpArgs false
def spec_l3Spoil.l0 : Nat → Int → List Int → Int → Int → ByteArray → List ByteArray → Bool → Option (Int × ByteArray × List ByteArray × Bool × Int)
 | 0, _, _, _, _, _, _, _ => none
 | k + 1, x5, x1000, x1001, x239000, x239001, x239002, x239003 => if (x239002.length : Int) < x5 then (if x239002.length < 8796093022208 then (spec_l3Spoil.l0 k x5 x1000 x1001 x239000 x239001 (x239002 ++ [(⟨#[102]⟩ : ByteArray)]) x239003) else (none)) else (some (x239000, x239001, x239002, x239003, x1001))
def spec_l3Spoil.f (k : Nat) (s0_0 : List Int) (s0_1 : Int) (a1_0 : Int) (a1_1 : ByteArray) (l1_2 : List ByteArray) (a1_3 : Bool) : Option (Int × ByteArray × List ByteArray × Bool × Int) := (spec_l1Rd_pick.f k s0_0 s0_1 5).bind fun bt240 => (if bt240.1 = 0 then ((spec_l1Rd_pick.f k s0_0 bt240.2 11).bind fun bt242 => (some (wrap64 (bt242.1 - 1), a1_1, l1_2, a1_3, bt242.2))) else (if bt240.1 = 1 then ((spec_Encode.f k (([(⟨#[119]⟩ : ByteArray)] : List ByteArray)) 4).bind fun t247 => ((some (([(⟨#[133, 0]⟩ : ByteArray), (⟨#[129, 0, 97]⟩ : ByteArray), (⟨#[0]⟩ : ByteArray), (⟨#[128]⟩ : ByteArray), (⟨#[128, 0]⟩ : ByteArray), (⟨#[255, 7]⟩ : ByteArray), (⟨#[232, 7]⟩ : ByteArray), (⟨#[233, 7]⟩ : ByteArray), (⟨#[1, 97]⟩ : ByteArray), t247, (⟨#[133, 133]⟩ : ByteArray)] : List ByteArray) : List ByteArray)).bind fun y248 => ((spec_l1Rd_pick.f k s0_0 bt240.2 11).bind fun bt251 => (if 0 ≤ bt251.1 then (if bt251.1 < (y248.length : Int) then (some (a1_0, rdOf ByteArray.empty y248 bt251.1, l1_2, a1_3, bt251.2)) else (none)) else (none))))) else (if bt240.1 = 2 then ((spec_l1Rd_pick.f k s0_0 bt240.2 2).bind fun bt254 => ((spec_l1Many.f k (⟨#[102]⟩ : ByteArray) (wrap64 (1000 + bt254.1))).bind fun t256 => ((some (([(⟨#[]⟩ : ByteArray), t256] : List ByteArray) : List ByteArray)).bind fun y257 => ((spec_l1Rd_pick.f k s0_0 bt254.2 2).bind fun bt260 => (if 0 ≤ bt260.1 then (if bt260.1 < (y257.length : Int) then (if l1_2.length < 8796093022208 then (some (a1_0, a1_1, (l1_2 ++ [rdOf ByteArray.empty y257 bt260.1]), a1_3, bt260.2)) else (none)) else (none)) else (none)))))) else (if bt240.1 = 3 then (some (a1_0, a1_1, l1_2, !a1_3, bt240.2)) else ((spec_l1Rd_pick.f k s0_0 bt240.2 2).bind fun bt266 => (spec_l3Spoil.l0 k (wrap64 (500 + bt266.1)) s0_0 bt266.2 a1_0 a1_1 l1_2 a1_3))))))
theorem spec_l3Spoil.mono_l : ∀ k, (∀ y0 y1 y2 y3 y4 y5 y6, LeO (spec_l3Spoil.l0 k y0 y1 y2 y3 y4 y5 y6) (spec_l3Spoil.l0 (k + 1) y0 y1 y2 y3 y4 y5 y6))
 | 0 => fun _ _ _ _ _ _ _ r h => by simp [spec_l3Spoil.l0] at h
 | k + 1 => by
  have ih0 := spec_l3Spoil.mono_l k
  ·intro y0 y1 y2 y3 y4 y5 y6
   unfold spec_l3Spoil.l0
   repeat' first
   | (with_reducible exact ih0 _ _ _ _ _ _ _)
   | (with_reducible exact spec_Encode.mono _ _ _)
   | (with_reducible exact spec_l1Many.mono _ _ _)
   | (with_reducible exact spec_l1Rd_pick.mono _ _ _ _)
   | (with_reducible exact LeO.refl _)
   | (with_reducible exact LeO.none _)
   | (with_reducible refine LeO.ite ?_ ?_)
   | (with_reducible refine LeO.bind ?_ (fun _ => ?_))
   | exact ih0 _ _ _ _ _ _ _
   | exact spec_Encode.mono _ _ _
   | exact spec_l1Many.mono _ _ _
   | exact spec_l1Rd_pick.mono _ _ _ _
   | exact LeO.none _
   | refine LeO.ite ?_ ?_
   | refine LeO.bind ?_ (fun _ => ?_)
theorem spec_l3Spoil.mono : ∀ a0 a1 a2 a3 a4 a5 k, LeO (spec_l3Spoil.f k a0 a1 a2 a3 a4 a5) (spec_l3Spoil.f (k + 1) a0 a1 a2 a3 a4 a5) := by
 intro a0 a1 a2 a3 a4 a5 k
 have ih0 := spec_l3Spoil.mono_l k
 unfold spec_l3Spoil.f
 repeat' first
   | (with_reducible exact ih0 _ _ _ _ _ _ _)
   | (with_reducible exact spec_Encode.mono _ _ _)
   | (with_reducible exact spec_l1Many.mono _ _ _)
   | (with_reducible exact spec_l1Rd_pick.mono _ _ _ _)
   | (with_reducible exact LeO.refl _)
   | (with_reducible exact LeO.none _)
   | (with_reducible refine LeO.ite ?_ ?_)
   | (with_reducible refine LeO.bind ?_ (fun _ => ?_))
   | exact ih0 _ _ _ _ _ _ _
   | exact spec_Encode.mono _ _ _
   | exact spec_l1Many.mono _ _ _
   | exact spec_l1Rd_pick.mono _ _ _ _
   | exact LeO.none _
   | refine LeO.ite ?_ ?_
   | refine LeO.bind ?_ (fun _ => ?_)
def spec_l3Spoil.T10 : Bool × List (List Nat × List Nat) := (true, [([], []), ([0], [0]), ([], []), ([2], [2]), ([3], [3]), ([4, 3], [4]), ([5], [5]), ([], []), ([7, 5], [7]), ([6, 8], [6, 8]), ([9], [9]), ([10], [10]), ([1, 11, 8], [1, 11]), ([0, 1, 2, 3, 4, 5, 6, 7, 8, 9, 10, 11, 12], []), ([13, 12, 12, 0, 1, 2, 3, 4, 5, 6, 7, 8, 9, 10, 11, 12], [12, 13])])
def spec_l3Spoil.B10 : List Nat := [0, 1, 0, 4, 12, 28, 60, 0, 188, 508, 1020, 2044, 4095, 8191, 16383]
theorem spec_l3Spoil.tab10 : rtab .any (opsOf Try.f32 10) = spec_l3Spoil.T10 := by kernel_rfl
theorem spec_l3Spoil.bits10 : waitsOk spec_l3Spoil.T10.2 spec_l3Spoil.B10 = true := by kernel_rfl
set_option maxHeartbeats 2000000 in
set_option maxRecDepth 100000 in
theorem spec_l3Spoil.calls (k : Nat) (g : Nat) (s0_0 : List Int) (s0_1 : Int) (a1_0 : Int) (a1_1 : ByteArray) (P1_2_ : Nat → Prop) (u9000_ : Value) (l1_2 : List ByteArray) (a1_3 : Bool) (r1 : Int) (r2 : ByteArray) (r3 : List ByteArray) (r4 : Bool) (r5 : Int) (w0 w : World) (hI : IsS98 w0 w g s0_0 s0_1) (hB : Below w0.heap.size w0 w) (ho1_2 : Kd.R Kd.string 9 w w0.heap.size P1_2_ u9000_ l1_2) (h : spec_l3Spoil.f k s0_0 s0_1 a1_0 a1_1 l1_2 a1_3 = some (r1, r2, r3, r4, r5)) :
  Calls Try.prog 32 #[.pointer (some ⟨g, 0, none⟩), .agg #[.int .i64 a1_0, .string a1_1, u9000_, .bool a1_3]] w fun e w' => ∃ v2_ : Value, e = .returned (.agg #[.int .i64 r1, .string r2, v2_, .bool r4]) ∧ Kd.R Kd.string 9 w' w0.heap.size (fun k_ => (P1_2_ k_ ∨ w.heap.size ≤ k_)) v2_ r3 ∧ IsS98 w0 w' g s0_0 r5 ∧ Below w0.heap.size w0 w' ∧ Kept w w' (fun k_ => (P1_2_ k_) ∨ k_ = g) := by
 have hu25 := Try.underlying25
 have HO1_2 := Aside0.mk (show Kd.R Kd.string 9 w w0.heap.size (fun k_ => (P1_2_ k_ ∨ w.heap.size ≤ k_)) u9000_ l1_2 from Kd.R_mono ho1_2 (fun k_ hk => (.inl hk)))
 have HI0 := Aside0.mk hI
 have HL := Aside0.mk hB.size
 clear hI
 have HK := Aside0.mk (Kept.refl w (fun k_ => (P1_2_ k_) ∨ k_ = g))
 have HW0 := Aside0.mk hB.size
 have HB := Aside0.mk hB
 clear hB
 have H : ((spec_l1Rd_pick.f k s0_0 s0_1 5).bind fun bt240 => (if bt240.1 = 0 then ((spec_l1Rd_pick.f k s0_0 bt240.2 11).bind fun bt242 => (some (wrap64 (bt242.1 - 1), a1_1, l1_2, a1_3, bt242.2))) else (if bt240.1 = 1 then ((spec_Encode.f k (([(⟨#[119]⟩ : ByteArray)] : List ByteArray)) 4).bind fun t247 => ((some (([(⟨#[133, 0]⟩ : ByteArray), (⟨#[129, 0, 97]⟩ : ByteArray), (⟨#[0]⟩ : ByteArray), (⟨#[128]⟩ : ByteArray), (⟨#[128, 0]⟩ : ByteArray), (⟨#[255, 7]⟩ : ByteArray), (⟨#[232, 7]⟩ : ByteArray), (⟨#[233, 7]⟩ : ByteArray), (⟨#[1, 97]⟩ : ByteArray), t247, (⟨#[133, 133]⟩ : ByteArray)] : List ByteArray) : List ByteArray)).bind fun y248 => ((spec_l1Rd_pick.f k s0_0 bt240.2 11).bind fun bt251 => (if 0 ≤ bt251.1 then (if bt251.1 < (y248.length : Int) then (some (a1_0, rdOf ByteArray.empty y248 bt251.1, l1_2, a1_3, bt251.2)) else (none)) else (none))))) else (if bt240.1 = 2 then ((spec_l1Rd_pick.f k s0_0 bt240.2 2).bind fun bt254 => ((spec_l1Many.f k (⟨#[102]⟩ : ByteArray) (wrap64 (1000 + bt254.1))).bind fun t256 => ((some (([(⟨#[]⟩ : ByteArray), t256] : List ByteArray) : List ByteArray)).bind fun y257 => ((spec_l1Rd_pick.f k s0_0 bt254.2 2).bind fun bt260 => (if 0 ≤ bt260.1 then (if bt260.1 < (y257.length : Int) then (if l1_2.length < 8796093022208 then (some (a1_0, a1_1, (l1_2 ++ [rdOf ByteArray.empty y257 bt260.1]), a1_3, bt260.2)) else (none)) else (none)) else (none)))))) else (if bt240.1 = 3 then (some (a1_0, a1_1, l1_2, !a1_3, bt240.2)) else ((spec_l1Rd_pick.f k s0_0 bt240.2 2).bind fun bt266 => (spec_l3Spoil.l0 k (wrap64 (500 + bt266.1)) s0_0 bt266.2 a1_0 a1_1 l1_2 a1_3))))))) = some (r1, r2, r3, r4, r5) := h
 clear h
 replace H := Option.bind_eq_some_iff.mp H
 obtain ⟨⟨t240, t241⟩, A30, H⟩ := H
 try dsimp only at H
 have A3 := Aside0.mk A30
 clear A30
 by_cases c4 : t240 = 0
 ·rw [if_pos c4] at H
  have c4b0 : (t240 == 0) = true := beq_iff_eq.mpr c4
  have c4b1 : (t240 != 0) = false := bne_eq_false_iff_eq.mpr c4
  clear c4
  replace H := Option.bind_eq_some_iff.mp H
  obtain ⟨⟨t242, t243⟩, A50, H⟩ := H
  try dsimp only at H
  have A5 := Aside0.mk A50
  clear A50
  simp only [Option.some.injEq, Prod.mk.injEq] at H
  obtain ⟨rfl, rfl, rfl, rfl, rfl⟩ := H
  obtain ⟨Ao6, co6, eo6⟩ := Kd.R_slice HO1_2.out
  subst eo6
  go_enter Try.func32, Try.ntmps32
  go_wp2_with (first | ((with_reducible refine gate_dst (N := 3) rfl ?_); refine box_event ?hg (N := 3) ?hd (cs := #[.int .i64 a1_0, .string a1_1, .slice Ao6 l1_2.length co6, .bool a1_3]) (t := 25) ?hr ?_; (case hd => rfl); (case hg => rfl); (case hr => first | (go_simp; done) | (go_simp; rfl)); intro gb238 hg w7 hbox hb; have n0_ := Aside0.mk (Kd.R_below zq27 hb); have n1_ := Aside0.mk (IsS98.below zq4 hb); have n2_ := Aside0.mk (Kept.below (S := (fun k_ => (P1_2_ k_) ∨ k_ = g)) zq48 hb); have n3_ := Aside0.mk (below_step zq6 hb); have n4_ := Aside0.mk (hbox); have n5_ := Aside0.mk ((by rw [hg]; exact (by first | exact HK.out.1 | exact (show Kept w _ (fun k_ => (P1_2_ k_) ∨ k_ = g) from zq48).1) : w.heap.size ≤ gb238)); have n6_ := Aside0.mk ((by rw [hg]; exact (below_size zq6) : w0.heap.size ≤ gb238)); have n7_ := Aside0.mk ((by rw [hg]; exact Nat.ne_of_lt (IsS98.lt (show IsS98 w0 _ g s0_0 s0_1 from zq4)) : g ≠ gb238)); have n8_ := Aside0.mk ((by rw [hg]; exact Nat.ne_of_gt (IsS98.lt (show IsS98 w0 _ g s0_0 s0_1 from zq4)) : gb238 ≠ g)); clear HO1_2; clear HI0; clear HK; clear HB; have HO1_2 := n0_; have HI0 := n1_; have HK := n2_; have HB := n3_; have BK238 := n4_; have GW238 := n5_; have GE238 := n6_; have NB0_238 := n7_; have NB238_0 := n8_; clear n0_ n1_ n2_ n3_ n4_ n5_ n6_ n7_ n8_; clear hb hbox hg) | ((with_reducible refine gate_dst (N := 4) rfl ?_); refine box_event ?hg (N := 4) ?hd (cs := #[.int .i64 0, .string (⟨#[]⟩ : ByteArray), .slice none 0 0, .bool false]) (t := 25) ?hr ?_; (case hd => rfl); (case hg => rfl); (case hr => first | (go_simp; done) | (go_simp; rfl)); intro gb239 hg w8 hbox hb; have n0_ := Aside0.mk (Kd.R_below zq27 hb); have n1_ := Aside0.mk (IsS98.below zq32 hb); have n2_ := Aside0.mk (blk_below (g := gb238) (o := .cells #[.int .i64 a1_0, .string a1_1, .slice Ao6 l1_2.length co6, .bool a1_3] 25 (0, 0)) zq21 hb); have n3_ := Aside0.mk (Kept.below (S := (fun k_ => (P1_2_ k_) ∨ k_ = g)) zq39 hb); have n4_ := Aside0.mk (below_step zq43 hb); have n5_ := Aside0.mk (hbox); have n6_ := Aside0.mk ((by rw [hg]; exact (by first | exact HK.out.1 | exact (show Kept w _ (fun k_ => (P1_2_ k_) ∨ k_ = g) from zq39).1) : w.heap.size ≤ gb239)); have n7_ := Aside0.mk ((by rw [hg]; exact (below_size zq43) : w0.heap.size ≤ gb239)); have n8_ := Aside0.mk ((by rw [hg]; exact Nat.ne_of_lt (blk_lt (g := gb238) (o := .cells #[.int .i64 a1_0, .string a1_1, .slice Ao6 l1_2.length co6, .bool a1_3] 25 (0, 0)) zq21) : gb238 ≠ gb239)); have n9_ := Aside0.mk ((by rw [hg]; exact Nat.ne_of_gt (blk_lt (g := gb238) (o := .cells #[.int .i64 a1_0, .string a1_1, .slice Ao6 l1_2.length co6, .bool a1_3] 25 (0, 0)) zq21) : gb239 ≠ gb238)); have n10_ := Aside0.mk ((by rw [hg]; exact Nat.ne_of_lt (IsS98.lt (show IsS98 w0 _ g s0_0 s0_1 from zq32)) : g ≠ gb239)); have n11_ := Aside0.mk ((by rw [hg]; exact Nat.ne_of_gt (IsS98.lt (show IsS98 w0 _ g s0_0 s0_1 from zq32)) : gb239 ≠ g)); clear HO1_2; clear HI0; clear BK238; clear HK; clear HB; have HO1_2 := n0_; have HI0 := n1_; have BK238 := n2_; have HK := n3_; have HB := n4_; have BK239 := n5_; have GW239 := n6_; have GE239 := n7_; have NB238_239 := n8_; have NB239_238 := n9_; have NB0_239 := n10_; have NB239_0 := n11_; clear n0_ n1_ n2_ n3_ n4_ n5_ n6_ n7_ n8_ n9_ n10_ n11_; clear hb hbox hg) | ((with_reducible refine gate_callee (f := 29) rfl ?_); refine goesL_ (some 7) rfl rfl Try.func29 zq19 rfl #[.pointer (some ⟨g, 0, none⟩), .int .i64 5] rfl zq0 ?_; (with_reducible refine (spec_l1Rd_pick.calls k g s0_0 s0_1 5 t240 t241 w0 _ ?side1 ?side2 A3.out).mono ?_); (case side1 => repeat (first | (with_reducible first | exact HI0.out | apply IsS98.alloc | apply IsS98.drewN | apply IsS98.drew | apply IsS98.set_1 | refine IsS98.far ?_ NB0_238.out _ | refine IsS98.far ?_ NB0_239.out _) | exact HI0.out)); (case side2 => repeat (first | (with_reducible first | exact HB.out | apply below_alloc | apply pw_below_drewN | apply below_drew1 | refine below_set ?_ (IsS98.ge HI0.out) | refine below_set ?_ GE238.out | refine below_set ?_ GE239.out) | exact HB.out)); rintro e w9 ⟨rfl, hi, hb, hk⟩; refine ⟨_, rfl, ?_⟩; have n0_ := Aside0.mk (Kd.R_mono (Kd.R_keep (IsS98.apart (show IsS98 w0 _ g s0_0 s0_1 from zq9) zq27 zq60) hk (fun _ h => h.2)) (fun _ h => h.1)); have n1_ := Aside0.mk (KeepBut.blk hk (g' := gb238) (o := .cells #[.int .i64 a1_0, .string a1_1, .slice Ao6 l1_2.length co6, .bool a1_3] 25 (0, 0)) zq21 NB238_0.out zq81); have n2_ := Aside0.mk (KeepBut.blk hk (g' := gb239) (o := .cells #[.int .i64 0, .string (⟨#[]⟩ : ByteArray), .slice none 0 0, .bool false] 25 (0, 0)) zq35 NB239_0.out zq81); have n3_ := Aside0.mk (Kept.of_keep (S := (fun k_ => (P1_2_ k_) ∨ k_ = g)) zq5 hk (.inl (.inr rfl))); have n4_ := Aside0.mk (hb); have n5_ := Aside0.mk (hi); clear HO1_2; clear BK238; clear BK239; clear HK; clear HB; clear HI0; have HO1_2 := n0_; have BK238 := n1_; have BK239 := n2_; have HK := n3_; have HB := n4_; have HI0 := n5_; clear n0_ n1_ n2_ n3_ n4_ n5_; (try clear hb); (try clear hb2); (try clear hk); (try clear hi)) | ((with_reducible refine gate_callee (f := 29) rfl ?_); refine goesL_ (some 24) rfl rfl Try.func29 zq19 rfl #[.pointer (some ⟨g, 0, none⟩), .int .i64 11] rfl zq0 ?_; (with_reducible refine (spec_l1Rd_pick.calls k g s0_0 t241 11 t242 t243 w0 _ ?side1 ?side2 A5.out).mono ?_); (case side1 => repeat (first | (with_reducible first | exact HI0.out | apply IsS98.alloc | apply IsS98.drewN | apply IsS98.drew | apply IsS98.set_1 | refine IsS98.far ?_ NB0_238.out _ | refine IsS98.far ?_ NB0_239.out _) | exact HI0.out)); (case side2 => repeat (first | (with_reducible first | exact HB.out | apply below_alloc | apply pw_below_drewN | apply below_drew1 | refine below_set ?_ (IsS98.ge HI0.out) | refine below_set ?_ GE238.out | refine below_set ?_ GE239.out) | exact HB.out)); rintro e w10 ⟨rfl, hi, hb, hk⟩; refine ⟨_, rfl, ?_⟩; have n0_ := Aside0.mk (Kd.R_mono (Kd.R_keep (IsS98.apart (show IsS98 w0 _ g s0_0 t241 from zq9) zq27 zq60) hk (fun _ h => h.2)) (fun _ h => h.1)); have n1_ := Aside0.mk (KeepBut.blk hk (g' := gb238) (o := .cells #[.int .i64 a1_0, .string a1_1, .slice Ao6 l1_2.length co6, .bool a1_3] 25 (0, 0)) zq21 NB238_0.out zq81); have n2_ := Aside0.mk (KeepBut.blk hk (g' := gb239) (o := .cells #[.int .i64 0, .string (⟨#[]⟩ : ByteArray), .slice none 0 0, .bool false] 25 (0, 0)) zq35 NB239_0.out zq81); have n3_ := Aside0.mk (Kept.of_keep (S := (fun k_ => (P1_2_ k_) ∨ k_ = g)) zq5 hk (.inl (.inr rfl))); have n4_ := Aside0.mk (hb); have n5_ := Aside0.mk (hi); clear HO1_2; clear BK238; clear BK239; clear HK; clear HB; clear HI0; have HO1_2 := n0_; have BK238 := n1_; have BK239 := n2_; have HK := n3_; have HB := n4_; have HI0 := n5_; clear n0_ n1_ n2_ n3_ n4_ n5_; (try clear hb); (try clear hb2); (try clear hk); (try clear hi); have hnb11 := NB238_239.out; have hnc11 := NB239_238.out; have hnb12 := NB238_0.out; have hnc12 := NB0_238.out; have hcz13_0 : w10.cell? ⟨gb238, 0, none⟩ = some (.int .i64 a1_0) := (blk_cell BK238.out 0).trans rfl; have hcz13_1 : w10.cell? ⟨gb238, 1, none⟩ = some (.string a1_1) := (blk_cell BK238.out 1).trans rfl; have hcz13_2 : w10.cell? ⟨gb238, 2, none⟩ = some (.slice Ao6 l1_2.length co6) := (blk_cell BK238.out 2).trans rfl; have hcz13_3 : w10.cell? ⟨gb238, 3, none⟩ = some (.bool a1_3) := (blk_cell BK238.out 3).trans rfl; have hfz13_0 := blk_frozen BK238.out 0; have hfz13_1 := blk_frozen BK238.out 1; have hfz13_2 := blk_frozen BK238.out 2; have hfz13_3 := blk_frozen BK238.out 3; have hnb14 := NB239_0.out; have hnc14 := NB0_239.out; have hcz15_0 : w10.cell? ⟨gb239, 0, none⟩ = some (.int .i64 0) := (blk_cell BK239.out 0).trans rfl; have hcz15_1 : w10.cell? ⟨gb239, 1, none⟩ = some (.string (⟨#[]⟩ : ByteArray)) := (blk_cell BK239.out 1).trans rfl; have hcz15_2 : w10.cell? ⟨gb239, 2, none⟩ = some (.slice none 0 0) := (blk_cell BK239.out 2).trans rfl; have hcz15_3 : w10.cell? ⟨gb239, 3, none⟩ = some (.bool false) := (blk_cell BK239.out 3).trans rfl; have hfz15_0 := blk_frozen BK239.out 0; have hfz15_1 := blk_frozen BK239.out 1; have hfz15_2 := blk_frozen BK239.out 2; have hfz15_3 := blk_frozen BK239.out 3))
  refine bodyPost_ret (results_cell_row rfl _ _ gb239 25 #[.int .i64 (wrap64 (t242 - 1)), .string a1_1, .slice Ao6 l1_2.length co6, .bool a1_3] (0, 0) _ rfl (by (with_reducible repeat (first | refine blk_drewN ?_ _ | refine blk_drew ?_ | refine blk_alloc ?_ _)); refine blk_put (cs := #[.int .i64 (wrap64 (t242 - 1)), .string a1_1, .slice Ao6 l1_2.length co6, .bool false]) ?_ 3 _ rfl; (with_reducible repeat (first | refine blk_drewN ?_ _ | refine blk_drew ?_ | refine blk_alloc ?_ _)); refine blk_put (cs := #[.int .i64 (wrap64 (t242 - 1)), .string a1_1, .slice none 0 0, .bool false]) ?_ 2 _ rfl; (with_reducible repeat (first | refine blk_drewN ?_ _ | refine blk_drew ?_ | refine blk_alloc ?_ _)); refine blk_put (cs := #[.int .i64 (wrap64 (t242 - 1)), .string (⟨#[]⟩ : ByteArray), .slice none 0 0, .bool false]) ?_ 1 _ rfl; (with_reducible repeat (first | refine blk_drewN ?_ _ | refine blk_drew ?_ | refine blk_alloc ?_ _)); refine blk_put (cs := #[.int .i64 0, .string (⟨#[]⟩ : ByteArray), .slice none 0 0, .bool false]) ?_ 0 _ rfl; (with_reducible repeat (first | refine blk_drewN ?_ _ | refine blk_drew ?_ | refine blk_alloc ?_ _)); refine blk_far ?_ NB239_238.out _; (with_reducible repeat (first | refine blk_drewN ?_ _ | refine blk_drew ?_ | refine blk_alloc ?_ _)); exact BK239.out) Try.underlying25 rfl zq19) rfl ?_
  exact ⟨_, zq8, by (with_reducible repeat (first | apply Kd.R_alloc | apply Kd.R_drewN | apply Kd.R_drew)); exact Kd.R_mono (Kd.R_far (p := ⟨gb239, 3, none⟩) (Kd.R_far (p := ⟨gb239, 2, none⟩) (Kd.R_far (p := ⟨gb239, 1, none⟩) (Kd.R_far (p := ⟨gb239, 0, none⟩) (Kd.R_far (p := ⟨gb238, 0, none⟩) (Kd.R_types (Kd.R_types HO1_2.out BK238.out zq60) BK239.out zq60) (fun _ hk => hk.1.2) (.int .i64 (wrap64 (t242 - 1)))) (fun _ hk => hk.2) (.int .i64 (wrap64 (t242 - 1)))) (fun _ hk => hk.2) (.string a1_1)) (fun _ hk => hk.2) (.slice Ao6 l1_2.length co6)) (fun _ hk => hk.2) (.bool a1_3)) (fun _ hk => hk.1.1), zq9, zq14, zq5⟩
 ·rw [if_neg c4] at H
  have c4b0 : (t240 == 0) = false := beq_eq_false_iff_ne.mpr c4
  have c4b1 : (t240 != 0) = true := bne_iff_ne.mpr c4
  by_cases c16 : t240 = 1
  ·rw [if_pos c16] at H
   have c16b0 : (t240 == 1) = true := beq_iff_eq.mpr c16
   have c16b1 : (t240 != 1) = false := bne_eq_false_iff_eq.mpr c16
   clear c16
   obtain ⟨y244, hy244⟩ : ∃ y_ : List ByteArray, y_ = (([(⟨#[119]⟩ : ByteArray)] : List ByteArray)) := ⟨_, rfl⟩
   replace H : ((spec_Encode.f k y244 4).bind fun t247 => ((some (([(⟨#[133, 0]⟩ : ByteArray), (⟨#[129, 0, 97]⟩ : ByteArray), (⟨#[0]⟩ : ByteArray), (⟨#[128]⟩ : ByteArray), (⟨#[128, 0]⟩ : ByteArray), (⟨#[255, 7]⟩ : ByteArray), (⟨#[232, 7]⟩ : ByteArray), (⟨#[233, 7]⟩ : ByteArray), (⟨#[1, 97]⟩ : ByteArray), t247, (⟨#[133, 133]⟩ : ByteArray)] : List ByteArray) : List ByteArray)).bind fun y248 => ((spec_l1Rd_pick.f k s0_0 t241 11).bind fun bt251 => (if 0 ≤ bt251.1 then (if bt251.1 < (y248.length : Int) then (some (a1_0, rdOf ByteArray.empty y248 bt251.1, l1_2, a1_3, bt251.2)) else (none)) else (none))))) = some (r1, r2, r3, r4, r5) := by first | (rw [hy244]; with_reducible exact H) | (have H2_ := (Option.bind_some _ _).symm.trans H; rw [hy244]; with_reducible exact H2_) | (have H2_ := (Option.bind_some _ _).symm.trans H; with_reducible exact H2_) | with_reducible exact H | (rw [hy244]; exact H) | exact H
   have Ny244 := Aside0.mk hy244
   clear hy244
   replace H := Option.bind_eq_some_iff.mp H
   obtain ⟨t247, A170, H⟩ := H
   try dsimp only at H
   have A17 := Aside0.mk A170
   clear A170
   obtain ⟨y248, hy248⟩ : ∃ y_ : List ByteArray, y_ = (([(⟨#[133, 0]⟩ : ByteArray), (⟨#[129, 0, 97]⟩ : ByteArray), (⟨#[0]⟩ : ByteArray), (⟨#[128]⟩ : ByteArray), (⟨#[128, 0]⟩ : ByteArray), (⟨#[255, 7]⟩ : ByteArray), (⟨#[232, 7]⟩ : ByteArray), (⟨#[233, 7]⟩ : ByteArray), (⟨#[1, 97]⟩ : ByteArray), t247, (⟨#[133, 133]⟩ : ByteArray)] : List ByteArray)) := ⟨_, rfl⟩
   replace H : ((spec_l1Rd_pick.f k s0_0 t241 11).bind fun bt251 => (if 0 ≤ bt251.1 then (if bt251.1 < (y248.length : Int) then (some (a1_0, rdOf ByteArray.empty y248 bt251.1, l1_2, a1_3, bt251.2)) else (none)) else (none))) = some (r1, r2, r3, r4, r5) := by first | (rw [hy248]; with_reducible exact H) | (have H2_ := (Option.bind_some _ _).symm.trans H; rw [hy248]; with_reducible exact H2_) | (have H2_ := (Option.bind_some _ _).symm.trans H; with_reducible exact H2_) | with_reducible exact H | (rw [hy248]; exact H) | exact H
   have Ny248 := Aside0.mk hy248
   clear hy248
   replace H := Option.bind_eq_some_iff.mp H
   obtain ⟨⟨t251, t252⟩, A180, H⟩ := H
   try dsimp only at H
   have A18 := Aside0.mk A180
   clear A180
   by_cases c19 : 0 ≤ t251
   ·rw [if_pos c19] at H
    have c19b0 : decide (0 ≤ t251) = true := decide_eq_true c19
    clear c19
    by_cases c20 : t251 < (y248.length : Int)
    ·rw [if_pos c20] at H
     have c20b0 : decide (t251 < (y248.length : Int)) = true := decide_eq_true c20
     clear c20
     simp only [Option.some.injEq, Prod.mk.injEq] at H
     obtain ⟨rfl, rfl, rfl, rfl, rfl⟩ := H
     obtain ⟨Ao21, co21, eo21⟩ := Kd.R_slice HO1_2.out
     subst eo21
     go_enter Try.func32, Try.ntmps32
     go_wp2_with (first | ((with_reducible refine gate_dst (N := 3) rfl ?_); refine box_event ?hg (N := 3) ?hd (cs := #[.int .i64 a1_0, .string a1_1, .slice Ao21 l1_2.length co21, .bool a1_3]) (t := 25) ?hr ?_; (case hd => rfl); (case hg => rfl); (case hr => first | (go_simp; done) | (go_simp; rfl)); intro gb238 hg w22 hbox hb; have n0_ := Aside0.mk (Kd.R_below zq27 hb); have n1_ := Aside0.mk (IsS98.below zq4 hb); have n2_ := Aside0.mk (Kept.below (S := (fun k_ => (P1_2_ k_) ∨ k_ = g)) zq48 hb); have n3_ := Aside0.mk (below_step zq6 hb); have n4_ := Aside0.mk (hbox); have n5_ := Aside0.mk ((by rw [hg]; exact (by first | exact HK.out.1 | exact (show Kept w _ (fun k_ => (P1_2_ k_) ∨ k_ = g) from zq48).1) : w.heap.size ≤ gb238)); have n6_ := Aside0.mk ((by rw [hg]; exact (below_size zq6) : w0.heap.size ≤ gb238)); have n7_ := Aside0.mk ((by rw [hg]; exact Nat.ne_of_lt (IsS98.lt (show IsS98 w0 _ g s0_0 s0_1 from zq4)) : g ≠ gb238)); have n8_ := Aside0.mk ((by rw [hg]; exact Nat.ne_of_gt (IsS98.lt (show IsS98 w0 _ g s0_0 s0_1 from zq4)) : gb238 ≠ g)); clear HO1_2; clear HI0; clear HK; clear HB; have HO1_2 := n0_; have HI0 := n1_; have HK := n2_; have HB := n3_; have BK238 := n4_; have GW238 := n5_; have GE238 := n6_; have NB0_238 := n7_; have NB238_0 := n8_; clear n0_ n1_ n2_ n3_ n4_ n5_ n6_ n7_ n8_; clear hb hbox hg) | ((with_reducible refine gate_dst (N := 4) rfl ?_); refine box_event ?hg (N := 4) ?hd (cs := #[.int .i64 0, .string (⟨#[]⟩ : ByteArray), .slice none 0 0, .bool false]) (t := 25) ?hr ?_; (case hd => rfl); (case hg => rfl); (case hr => first | (go_simp; done) | (go_simp; rfl)); intro gb239 hg w23 hbox hb; have n0_ := Aside0.mk (Kd.R_below zq27 hb); have n1_ := Aside0.mk (IsS98.below zq32 hb); have n2_ := Aside0.mk (blk_below (g := gb238) (o := .cells #[.int .i64 a1_0, .string a1_1, .slice Ao21 l1_2.length co21, .bool a1_3] 25 (0, 0)) zq21 hb); have n3_ := Aside0.mk (Kept.below (S := (fun k_ => (P1_2_ k_) ∨ k_ = g)) zq39 hb); have n4_ := Aside0.mk (below_step zq43 hb); have n5_ := Aside0.mk (hbox); have n6_ := Aside0.mk ((by rw [hg]; exact (by first | exact HK.out.1 | exact (show Kept w _ (fun k_ => (P1_2_ k_) ∨ k_ = g) from zq39).1) : w.heap.size ≤ gb239)); have n7_ := Aside0.mk ((by rw [hg]; exact (below_size zq43) : w0.heap.size ≤ gb239)); have n8_ := Aside0.mk ((by rw [hg]; exact Nat.ne_of_lt (blk_lt (g := gb238) (o := .cells #[.int .i64 a1_0, .string a1_1, .slice Ao21 l1_2.length co21, .bool a1_3] 25 (0, 0)) zq21) : gb238 ≠ gb239)); have n9_ := Aside0.mk ((by rw [hg]; exact Nat.ne_of_gt (blk_lt (g := gb238) (o := .cells #[.int .i64 a1_0, .string a1_1, .slice Ao21 l1_2.length co21, .bool a1_3] 25 (0, 0)) zq21) : gb239 ≠ gb238)); have n10_ := Aside0.mk ((by rw [hg]; exact Nat.ne_of_lt (IsS98.lt (show IsS98 w0 _ g s0_0 s0_1 from zq32)) : g ≠ gb239)); have n11_ := Aside0.mk ((by rw [hg]; exact Nat.ne_of_gt (IsS98.lt (show IsS98 w0 _ g s0_0 s0_1 from zq32)) : gb239 ≠ g)); clear HO1_2; clear HI0; clear BK238; clear HK; clear HB; have HO1_2 := n0_; have HI0 := n1_; have BK238 := n2_; have HK := n3_; have HB := n4_; have BK239 := n5_; have GW239 := n6_; have GE239 := n7_; have NB238_239 := n8_; have NB239_238 := n9_; have NB0_239 := n10_; have NB239_0 := n11_; clear n0_ n1_ n2_ n3_ n4_ n5_ n6_ n7_ n8_ n9_ n10_ n11_; clear hb hbox hg) | ((with_reducible refine gate_callee (f := 29) rfl ?_); refine goesL_ (some 7) rfl rfl Try.func29 zq19 rfl #[.pointer (some ⟨g, 0, none⟩), .int .i64 5] rfl zq0 ?_; (with_reducible refine (spec_l1Rd_pick.calls k g s0_0 s0_1 5 t240 t241 w0 _ ?side1 ?side2 A3.out).mono ?_); (case side1 => repeat (first | (with_reducible first | exact HI0.out | apply IsS98.alloc | apply IsS98.drewN | apply IsS98.drew | apply IsS98.set_1 | refine IsS98.far ?_ NB0_238.out _ | refine IsS98.far ?_ NB0_239.out _) | exact HI0.out)); (case side2 => repeat (first | (with_reducible first | exact HB.out | apply below_alloc | apply pw_below_drewN | apply below_drew1 | refine below_set ?_ (IsS98.ge HI0.out) | refine below_set ?_ GE238.out | refine below_set ?_ GE239.out) | exact HB.out)); rintro e w24 ⟨rfl, hi, hb, hk⟩; refine ⟨_, rfl, ?_⟩; have n0_ := Aside0.mk (Kd.R_mono (Kd.R_keep (IsS98.apart (show IsS98 w0 _ g s0_0 s0_1 from zq9) zq27 zq60) hk (fun _ h => h.2)) (fun _ h => h.1)); have n1_ := Aside0.mk (KeepBut.blk hk (g' := gb238) (o := .cells #[.int .i64 a1_0, .string a1_1, .slice Ao21 l1_2.length co21, .bool a1_3] 25 (0, 0)) zq21 NB238_0.out zq81); have n2_ := Aside0.mk (KeepBut.blk hk (g' := gb239) (o := .cells #[.int .i64 0, .string (⟨#[]⟩ : ByteArray), .slice none 0 0, .bool false] 25 (0, 0)) zq35 NB239_0.out zq81); have n3_ := Aside0.mk (Kept.of_keep (S := (fun k_ => (P1_2_ k_) ∨ k_ = g)) zq5 hk (.inl (.inr rfl))); have n4_ := Aside0.mk (hb); have n5_ := Aside0.mk (hi); clear HO1_2; clear BK238; clear BK239; clear HK; clear HB; clear HI0; have HO1_2 := n0_; have BK238 := n1_; have BK239 := n2_; have HK := n3_; have HB := n4_; have HI0 := n5_; clear n0_ n1_ n2_ n3_ n4_ n5_; (try clear hb); (try clear hb2); (try clear hk); (try clear hi)) | ((with_reducible refine gate_dst (N := 29) rfl ?_); refine Kd.R_lit Kd.string _ 9 ?hg (N := 29) ?hd (xs := ([(⟨#[119]⟩ : ByteArray)] : List ByteArray)) (inner := [.string (⟨#[119]⟩ : ByteArray)]) (ok := fun _ => True) (okp := fun _ => True) ?hr ?hp (fun _ hk => hk) trivial (Below.refl _ _) (Nat.le_refl _) zq81 ?_; (case hd => rfl); (case hg => rfl); (case hr => first | (go_simp; done) | (go_simp; rfl)); (case hp => exact (Reps.one (show Kd.M Kd.string _ _ _ (⟨#[119]⟩ : ByteArray) [.string (⟨#[119]⟩ : ByteArray)] from rfl) (Reps.none _ _))); intro v245 w25 ho26 hb hg_ hnew_; clear hg_ hnew_; (first | rw [← Ny244.out] at ho26 | (simp only [Int.reduceToNat] at ho26; rw [← Ny244.out] at ho26)); have n0_ := Aside0.mk (Kd.R_elder' zq27 (Kd.R_base ho26) hb); have n1_ := Aside0.mk (Kd.R_lower (Kd.R_new' (Kd.R_newM (M := fun k_ => (P1_2_ k_ ∨ w.heap.size ≤ k_)) ho26 (by first | exact HK.out.1 | exact (show Kept w _ (fun k_ => (P1_2_ k_) ∨ k_ = g) from zq5).1) (fun k_ h_ => .inr h_)) (Kd.R_lt zq27)) (below_size zq14)); have n2_ := Aside0.mk (IsS98.below zq9 hb); have n3_ := Aside0.mk (blk_below (g := gb238) (o := .cells #[.int .i64 a1_0, .string a1_1, .slice Ao21 l1_2.length co21, .bool a1_3] 25 (0, 0)) zq21 hb); have n4_ := Aside0.mk (blk_below (g := gb239) (o := .cells #[.int .i64 0, .string (⟨#[]⟩ : ByteArray), .slice none 0 0, .bool false] 25 (0, 0)) zq35 hb); have n5_ := Aside0.mk (Kept.below (S := (fun k_ => (P1_2_ k_) ∨ k_ = g)) zq5 hb); have n6_ := Aside0.mk (below_step zq14 hb); clear HO1_2; clear HI0; clear BK238; clear BK239; clear HK; clear HB; have HO1_2 := n0_; have HO246 := n1_; have HI0 := n2_; have BK238 := n3_; have BK239 := n4_; have HK := n5_; have HB := n6_; clear n0_ n1_ n2_ n3_ n4_ n5_ n6_; clear hb ho26; obtain ⟨Ao27, co27, eo27⟩ := Kd.R_slice HO246.out; subst eo27) | ((with_reducible refine gate_callee (f := 14) rfl ?_); refine goesL_ (some 30) rfl rfl Try.func14 zq19 rfl #[.slice Ao27 y244.length co27, .int .i64 4] rfl zq0 ?_; (with_reducible refine (spec_Encode.calls k _ _ y244 4 t247 _ ?side1 ?side2 A17.out).mono ?_); (case side1 => repeat (first | exact (Kd.R_reads' HO246.out).2.2 | (with_reducible refine Kd.C_alloc ?_ _) | (with_reducible refine Kd.C_drewN ?_ _) | (with_reducible refine Kd.C_drew ?_))); (case side2 => exact (Kd.R_reads' HO246.out).2.1); rintro e w28 ⟨rfl, hb⟩; refine ⟨_, rfl, ?_⟩; have n0_ := Aside0.mk (Kd.R_below zq27 hb); have n1_ := Aside0.mk (Kd.R_below zq87 hb); have n2_ := Aside0.mk (IsS98.below zq9 hb); have n3_ := Aside0.mk (blk_below (g := gb238) (o := .cells #[.int .i64 a1_0, .string a1_1, .slice Ao21 l1_2.length co21, .bool a1_3] 25 (0, 0)) zq21 hb); have n4_ := Aside0.mk (blk_below (g := gb239) (o := .cells #[.int .i64 0, .string (⟨#[]⟩ : ByteArray), .slice none 0 0, .bool false] 25 (0, 0)) zq35 hb); have n5_ := Aside0.mk (Kept.below (S := (fun k_ => (P1_2_ k_) ∨ k_ = g)) zq5 hb); have n6_ := Aside0.mk (below_step zq14 hb); clear HO1_2; clear HO246; clear HI0; clear BK238; clear BK239; clear HK; clear HB; have HO1_2 := n0_; have HO246 := n1_; have HI0 := n2_; have BK238 := n3_; have BK239 := n4_; have HK := n5_; have HB := n6_; clear n0_ n1_ n2_ n3_ n4_ n5_ n6_; (try clear hb); (try clear hb2); (try clear hk); (try clear hi)) | ((with_reducible refine gate_dst (N := 31) rfl ?_); refine Kd.R_lit Kd.string _ 9 ?hg (N := 31) ?hd (xs := ([(⟨#[133, 0]⟩ : ByteArray), (⟨#[129, 0, 97]⟩ : ByteArray), (⟨#[0]⟩ : ByteArray), (⟨#[128]⟩ : ByteArray), (⟨#[128, 0]⟩ : ByteArray), (⟨#[255, 7]⟩ : ByteArray), (⟨#[232, 7]⟩ : ByteArray), (⟨#[233, 7]⟩ : ByteArray), (⟨#[1, 97]⟩ : ByteArray), t247, (⟨#[133, 133]⟩ : ByteArray)] : List ByteArray)) (inner := [.string (⟨#[133, 0]⟩ : ByteArray), .string (⟨#[129, 0, 97]⟩ : ByteArray), .string (⟨#[0]⟩ : ByteArray), .string (⟨#[128]⟩ : ByteArray), .string (⟨#[128, 0]⟩ : ByteArray), .string (⟨#[255, 7]⟩ : ByteArray), .string (⟨#[232, 7]⟩ : ByteArray), .string (⟨#[233, 7]⟩ : ByteArray), .string (⟨#[1, 97]⟩ : ByteArray), .string t247, .string (⟨#[133, 133]⟩ : ByteArray)]) (ok := fun _ => True) (okp := fun _ => True) ?hr ?hp (fun _ hk => hk) trivial (Below.refl _ _) (Nat.le_refl _) zq81 ?_; (case hd => rfl); (case hg => rfl); (case hr => first | (go_simp; done) | (go_simp; rfl)); (case hp => exact (Reps.one (show Kd.M Kd.string _ _ _ (⟨#[133, 0]⟩ : ByteArray) [.string (⟨#[133, 0]⟩ : ByteArray)] from rfl) (Reps.one (show Kd.M Kd.string _ _ _ (⟨#[129, 0, 97]⟩ : ByteArray) [.string (⟨#[129, 0, 97]⟩ : ByteArray)] from rfl) (Reps.one (show Kd.M Kd.string _ _ _ (⟨#[0]⟩ : ByteArray) [.string (⟨#[0]⟩ : ByteArray)] from rfl) (Reps.one (show Kd.M Kd.string _ _ _ (⟨#[128]⟩ : ByteArray) [.string (⟨#[128]⟩ : ByteArray)] from rfl) (Reps.one (show Kd.M Kd.string _ _ _ (⟨#[128, 0]⟩ : ByteArray) [.string (⟨#[128, 0]⟩ : ByteArray)] from rfl) (Reps.one (show Kd.M Kd.string _ _ _ (⟨#[255, 7]⟩ : ByteArray) [.string (⟨#[255, 7]⟩ : ByteArray)] from rfl) (Reps.one (show Kd.M Kd.string _ _ _ (⟨#[232, 7]⟩ : ByteArray) [.string (⟨#[232, 7]⟩ : ByteArray)] from rfl) (Reps.one (show Kd.M Kd.string _ _ _ (⟨#[233, 7]⟩ : ByteArray) [.string (⟨#[233, 7]⟩ : ByteArray)] from rfl) (Reps.one (show Kd.M Kd.string _ _ _ (⟨#[1, 97]⟩ : ByteArray) [.string (⟨#[1, 97]⟩ : ByteArray)] from rfl) (Reps.one (show Kd.M Kd.string _ _ _ t247 [.string t247] from rfl) (Reps.one (show Kd.M Kd.string _ _ _ (⟨#[133, 133]⟩ : ByteArray) [.string (⟨#[133, 133]⟩ : ByteArray)] from rfl) (Reps.none _ _))))))))))))); intro v249 w29 ho30 hb hg_ hnew_; clear hg_ hnew_; (first | rw [← Ny248.out] at ho30 | (simp only [Int.reduceToNat] at ho30; rw [← Ny248.out] at ho30)); have n0_ := Aside0.mk (Kd.R_elder' zq27 (Kd.R_base ho30) hb); have n1_ := Aside0.mk (Kd.R_elder' zq87 (Kd.R_base ho30) hb); have n2_ := Aside0.mk (Kd.R_lower (Kd.R_new' (Kd.R_new' (Kd.R_newM (M := fun k_ => (P1_2_ k_ ∨ w.heap.size ≤ k_)) ho30 (by first | exact HK.out.1 | exact (show Kept w _ (fun k_ => (P1_2_ k_) ∨ k_ = g) from zq5).1) (fun k_ h_ => .inr h_)) (Kd.R_lt zq27)) (Kd.R_lt zq87)) (below_size zq14)); have n3_ := Aside0.mk (IsS98.below zq9 hb); have n4_ := Aside0.mk (blk_below (g := gb238) (o := .cells #[.int .i64 a1_0, .string a1_1, .slice Ao21 l1_2.length co21, .bool a1_3] 25 (0, 0)) zq21 hb); have n5_ := Aside0.mk (blk_below (g := gb239) (o := .cells #[.int .i64 0, .string (⟨#[]⟩ : ByteArray), .slice none 0 0, .bool false] 25 (0, 0)) zq35 hb); have n6_ := Aside0.mk (Kept.below (S := (fun k_ => (P1_2_ k_) ∨ k_ = g)) zq5 hb); have n7_ := Aside0.mk (below_step zq14 hb); clear HO1_2; clear HO246; clear HI0; clear BK238; clear BK239; clear HK; clear HB; have HO1_2 := n0_; have HO246 := n1_; have HO250 := n2_; have HI0 := n3_; have BK238 := n4_; have BK239 := n5_; have HK := n6_; have HB := n7_; clear n0_ n1_ n2_ n3_ n4_ n5_ n6_ n7_; clear hb ho30) | ((with_reducible refine gate_callee (f := 29) rfl ?_); refine goesL_ (some 33) rfl rfl Try.func29 zq19 rfl #[.pointer (some ⟨g, 0, none⟩), .int .i64 11] rfl zq0 ?_; (with_reducible refine (spec_l1Rd_pick.calls k g s0_0 t241 11 t251 t252 w0 _ ?side1 ?side2 A18.out).mono ?_); (case side1 => repeat (first | (with_reducible first | exact HI0.out | apply IsS98.alloc | apply IsS98.drewN | apply IsS98.drew | apply IsS98.set_1 | refine IsS98.far ?_ NB0_238.out _ | refine IsS98.far ?_ NB0_239.out _) | exact HI0.out)); (case side2 => repeat (first | (with_reducible first | exact HB.out | apply below_alloc | apply pw_below_drewN | apply below_drew1 | refine below_set ?_ (IsS98.ge HI0.out) | refine below_set ?_ GE238.out | refine below_set ?_ GE239.out) | exact HB.out)); rintro e w31 ⟨rfl, hi, hb, hk⟩; refine ⟨_, rfl, ?_⟩; have n0_ := Aside0.mk (Kd.R_mono (Kd.R_keep (IsS98.apart (show IsS98 w0 _ g s0_0 t241 from zq9) zq27 zq60) hk (fun _ h => h.2)) (fun _ h => h.1)); have n1_ := Aside0.mk (KeepBut.blk hk (g' := gb238) (o := .cells #[.int .i64 a1_0, .string a1_1, .slice Ao21 l1_2.length co21, .bool a1_3] 25 (0, 0)) zq21 NB238_0.out zq81); have n2_ := Aside0.mk (KeepBut.blk hk (g' := gb239) (o := .cells #[.int .i64 0, .string (⟨#[]⟩ : ByteArray), .slice none 0 0, .bool false] 25 (0, 0)) zq35 NB239_0.out zq81); have n3_ := Aside0.mk (Kd.R_mono (Kd.R_keep (IsS98.apart (show IsS98 w0 _ g s0_0 t241 from zq9) zq87 zq60) hk (fun _ h => h.2)) (fun _ h => h.1)); have n4_ := Aside0.mk (Kd.R_mono (Kd.R_keep (IsS98.apart (show IsS98 w0 _ g s0_0 t241 from zq9) (by (with_reducible repeat (first | apply Kd.R_alloc | apply Kd.R_drewN | apply Kd.R_drew)); exact HO250.out) zq60) hk (fun _ h => h.2)) (fun _ h => h.1)); have n5_ := Aside0.mk (Kept.of_keep (S := (fun k_ => (P1_2_ k_) ∨ k_ = g)) zq5 hk (.inl (.inr rfl))); have n6_ := Aside0.mk (hb); have n7_ := Aside0.mk (hi); clear HO1_2; clear BK238; clear BK239; clear HO246; clear HO250; clear HK; clear HB; clear HI0; have HO1_2 := n0_; have BK238 := n1_; have BK239 := n2_; have HO246 := n3_; have HO250 := n4_; have HK := n5_; have HB := n6_; have HI0 := n7_; clear n0_ n1_ n2_ n3_ n4_ n5_ n6_ n7_; (try clear hb); (try clear hb2); (try clear hk); (try clear hi); obtain ⟨Ao32, co32, eo32⟩ := Kd.R_slice HO250.out; subst eo32; have p253 : 0 ≤ (t251 : Int) := of_decide_eq_true zq23; have q253 : t251 < (y248.length : Int) := of_decide_eq_true zq23; obtain ⟨ad253, e253, hx253_0⟩ := Kd.at_string (Kd.R_reads' HO250.out).2.2 t251 p253 q253; cases e253; replace p253 := eq_true p253; replace q253 := eq_true q253; have hnb33 := NB238_239.out; have hnc33 := NB239_238.out; have hnb34 := NB238_0.out; have hnc34 := NB0_238.out; have hcz35_0 : w31.cell? ⟨gb238, 0, none⟩ = some (.int .i64 a1_0) := (blk_cell BK238.out 0).trans rfl; have hcz35_1 : w31.cell? ⟨gb238, 1, none⟩ = some (.string a1_1) := (blk_cell BK238.out 1).trans rfl; have hcz35_2 : w31.cell? ⟨gb238, 2, none⟩ = some (.slice Ao21 l1_2.length co21) := (blk_cell BK238.out 2).trans rfl; have hcz35_3 : w31.cell? ⟨gb238, 3, none⟩ = some (.bool a1_3) := (blk_cell BK238.out 3).trans rfl; have hfz35_0 := blk_frozen BK238.out 0; have hfz35_1 := blk_frozen BK238.out 1; have hfz35_2 := blk_frozen BK238.out 2; have hfz35_3 := blk_frozen BK238.out 3; have hnb36 := NB239_0.out; have hnc36 := NB0_239.out; have hcz37_0 : w31.cell? ⟨gb239, 0, none⟩ = some (.int .i64 0) := (blk_cell BK239.out 0).trans rfl; have hcz37_1 : w31.cell? ⟨gb239, 1, none⟩ = some (.string (⟨#[]⟩ : ByteArray)) := (blk_cell BK239.out 1).trans rfl; have hcz37_2 : w31.cell? ⟨gb239, 2, none⟩ = some (.slice none 0 0) := (blk_cell BK239.out 2).trans rfl; have hcz37_3 : w31.cell? ⟨gb239, 3, none⟩ = some (.bool false) := (blk_cell BK239.out 3).trans rfl; have hfz37_0 := blk_frozen BK239.out 0; have hfz37_1 := blk_frozen BK239.out 1; have hfz37_2 := blk_frozen BK239.out 2; have hfz37_3 := blk_frozen BK239.out 3))
     refine bodyPost_ret (results_cell_row rfl _ _ gb239 25 #[.int .i64 a1_0, .string (rdOf ByteArray.empty y248 t251), .slice Ao21 l1_2.length co21, .bool a1_3] (0, 0) _ rfl (by (with_reducible repeat (first | refine blk_drewN ?_ _ | refine blk_drew ?_ | refine blk_alloc ?_ _)); refine blk_put (cs := #[.int .i64 a1_0, .string (rdOf ByteArray.empty y248 t251), .slice Ao21 l1_2.length co21, .bool false]) ?_ 3 _ rfl; (with_reducible repeat (first | refine blk_drewN ?_ _ | refine blk_drew ?_ | refine blk_alloc ?_ _)); refine blk_put (cs := #[.int .i64 a1_0, .string (rdOf ByteArray.empty y248 t251), .slice none 0 0, .bool false]) ?_ 2 _ rfl; (with_reducible repeat (first | refine blk_drewN ?_ _ | refine blk_drew ?_ | refine blk_alloc ?_ _)); refine blk_put (cs := #[.int .i64 a1_0, .string (⟨#[]⟩ : ByteArray), .slice none 0 0, .bool false]) ?_ 1 _ rfl; (with_reducible repeat (first | refine blk_drewN ?_ _ | refine blk_drew ?_ | refine blk_alloc ?_ _)); refine blk_put (cs := #[.int .i64 0, .string (⟨#[]⟩ : ByteArray), .slice none 0 0, .bool false]) ?_ 0 _ rfl; (with_reducible repeat (first | refine blk_drewN ?_ _ | refine blk_drew ?_ | refine blk_alloc ?_ _)); refine blk_far ?_ NB239_238.out _; (with_reducible repeat (first | refine blk_drewN ?_ _ | refine blk_drew ?_ | refine blk_alloc ?_ _)); exact BK239.out) Try.underlying25 rfl zq19) rfl ?_
     exact ⟨_, zq8, by (with_reducible repeat (first | apply Kd.R_alloc | apply Kd.R_drewN | apply Kd.R_drew)); exact Kd.R_mono (Kd.R_far (p := ⟨gb239, 3, none⟩) (Kd.R_far (p := ⟨gb239, 2, none⟩) (Kd.R_far (p := ⟨gb239, 1, none⟩) (Kd.R_far (p := ⟨gb239, 0, none⟩) (Kd.R_far (p := ⟨gb238, 1, none⟩) (Kd.R_types (Kd.R_types HO1_2.out BK238.out zq60) BK239.out zq60) (fun _ hk => hk.1.2) (.string (rdOf ByteArray.empty y248 t251))) (fun _ hk => hk.2) (.int .i64 a1_0)) (fun _ hk => hk.2) (.string (rdOf ByteArray.empty y248 t251))) (fun _ hk => hk.2) (.slice Ao21 l1_2.length co21)) (fun _ hk => hk.2) (.bool a1_3)) (fun _ hk => hk.1.1.1.1), zq9, zq14, zq5⟩
    ·rw [if_neg c20] at H
     exact absurd H zq81
   ·rw [if_neg c19] at H
    exact absurd H zq81
  ·rw [if_neg c16] at H
   have c16b0 : (t240 == 1) = false := beq_eq_false_iff_ne.mpr c16
   have c16b1 : (t240 != 1) = true := bne_iff_ne.mpr c16
   by_cases c38 : t240 = 2
   ·rw [if_pos c38] at H
    have c38b0 : (t240 == 2) = true := beq_iff_eq.mpr c38
    have c38b1 : (t240 != 2) = false := bne_eq_false_iff_eq.mpr c38
    clear c38
    replace H := Option.bind_eq_some_iff.mp H
    obtain ⟨⟨t254, t255⟩, A390, H⟩ := H
    try dsimp only at H
    have A39 := Aside0.mk A390
    clear A390
    replace H := Option.bind_eq_some_iff.mp H
    obtain ⟨t256, A400, H⟩ := H
    try dsimp only at H
    have A40 := Aside0.mk A400
    clear A400
    obtain ⟨y257, hy257⟩ : ∃ y_ : List ByteArray, y_ = (([(⟨#[]⟩ : ByteArray), t256] : List ByteArray)) := ⟨_, rfl⟩
    replace H : ((spec_l1Rd_pick.f k s0_0 t255 2).bind fun bt260 => (if 0 ≤ bt260.1 then (if bt260.1 < (y257.length : Int) then (if l1_2.length < 8796093022208 then (some (a1_0, a1_1, (l1_2 ++ [rdOf ByteArray.empty y257 bt260.1]), a1_3, bt260.2)) else (none)) else (none)) else (none))) = some (r1, r2, r3, r4, r5) := by first | (rw [hy257]; with_reducible exact H) | (have H2_ := (Option.bind_some _ _).symm.trans H; rw [hy257]; with_reducible exact H2_) | (have H2_ := (Option.bind_some _ _).symm.trans H; with_reducible exact H2_) | with_reducible exact H | (rw [hy257]; exact H) | exact H
    have Ny257 := Aside0.mk hy257
    clear hy257
    replace H := Option.bind_eq_some_iff.mp H
    obtain ⟨⟨t260, t261⟩, A410, H⟩ := H
    try dsimp only at H
    have A41 := Aside0.mk A410
    clear A410
    by_cases c42 : 0 ≤ t260
    ·rw [if_pos c42] at H
     have c42b0 : decide (0 ≤ t260) = true := decide_eq_true c42
     clear c42
     by_cases c43 : t260 < (y257.length : Int)
     ·rw [if_pos c43] at H
      have c43b0 : decide (t260 < (y257.length : Int)) = true := decide_eq_true c43
      clear c43
      by_cases c44 : l1_2.length < 8796093022208
      ·rw [if_pos c44] at H
       have LMc44 := Aside0.mk c44
       clear c44
       obtain ⟨y263, hy263⟩ : ∃ y_ : List ByteArray, y_ = (l1_2 ++ [rdOf ByteArray.empty y257 t260]) := ⟨_, rfl⟩
       replace H : (some (a1_0, a1_1, y263, a1_3, t261)) = some (r1, r2, r3, r4, r5) := by first | (rw [hy263]; with_reducible exact H) | (have H2_ := (Option.bind_some _ _).symm.trans H; rw [hy263]; with_reducible exact H2_) | (have H2_ := (Option.bind_some _ _).symm.trans H; with_reducible exact H2_) | with_reducible exact H | (rw [hy263]; exact H) | exact H
       have Ny263 := Aside0.mk hy263
       clear hy263
       simp only [Option.some.injEq, Prod.mk.injEq] at H
       obtain ⟨rfl, rfl, rfl, rfl, rfl⟩ := H
       obtain ⟨Ao45, co45, eo45⟩ := Kd.R_slice HO1_2.out
       subst eo45
       go_enter Try.func32, Try.ntmps32
       try go_wp2_with (first | ((with_reducible refine gate_dst (N := 3) rfl ?_); refine box_event ?hg (N := 3) ?hd (cs := #[.int .i64 a1_0, .string a1_1, .slice Ao45 l1_2.length co45, .bool a1_3]) (t := 25) ?hr ?_; (case hd => rfl); (case hg => rfl); (case hr => first | (go_simp; done) | (go_simp; rfl)); intro gb238 hg w46 hbox hb; have n0_ := Aside0.mk (Kd.R_below zq27 hb); have n1_ := Aside0.mk (IsS98.below zq4 hb); have n2_ := Aside0.mk (Kept.below (S := (fun k_ => (P1_2_ k_) ∨ k_ = g)) zq48 hb); have n3_ := Aside0.mk (below_step zq6 hb); have n4_ := Aside0.mk (hbox); have n5_ := Aside0.mk ((by rw [hg]; exact (by first | exact HK.out.1 | exact (show Kept w _ (fun k_ => (P1_2_ k_) ∨ k_ = g) from zq48).1) : w.heap.size ≤ gb238)); have n6_ := Aside0.mk ((by rw [hg]; exact (below_size zq6) : w0.heap.size ≤ gb238)); have n7_ := Aside0.mk ((by rw [hg]; exact Nat.ne_of_lt (IsS98.lt (show IsS98 w0 _ g s0_0 s0_1 from zq4)) : g ≠ gb238)); have n8_ := Aside0.mk ((by rw [hg]; exact Nat.ne_of_gt (IsS98.lt (show IsS98 w0 _ g s0_0 s0_1 from zq4)) : gb238 ≠ g)); clear HO1_2; clear HI0; clear HK; clear HB; have HO1_2 := n0_; have HI0 := n1_; have HK := n2_; have HB := n3_; have BK238 := n4_; have GW238 := n5_; have GE238 := n6_; have NB0_238 := n7_; have NB238_0 := n8_; clear n0_ n1_ n2_ n3_ n4_ n5_ n6_ n7_ n8_; clear hb hbox hg) | ((with_reducible refine gate_dst (N := 4) rfl ?_); refine box_event ?hg (N := 4) ?hd (cs := #[.int .i64 0, .string (⟨#[]⟩ : ByteArray), .slice none 0 0, .bool false]) (t := 25) ?hr ?_; (case hd => rfl); (case hg => rfl); (case hr => first | (go_simp; done) | (go_simp; rfl)); intro gb239 hg w47 hbox hb; have n0_ := Aside0.mk (Kd.R_below zq27 hb); have n1_ := Aside0.mk (IsS98.below zq32 hb); have n2_ := Aside0.mk (blk_below (g := gb238) (o := .cells #[.int .i64 a1_0, .string a1_1, .slice Ao45 l1_2.length co45, .bool a1_3] 25 (0, 0)) zq21 hb); have n3_ := Aside0.mk (Kept.below (S := (fun k_ => (P1_2_ k_) ∨ k_ = g)) zq39 hb); have n4_ := Aside0.mk (below_step zq43 hb); have n5_ := Aside0.mk (hbox); have n6_ := Aside0.mk ((by rw [hg]; exact (by first | exact HK.out.1 | exact (show Kept w _ (fun k_ => (P1_2_ k_) ∨ k_ = g) from zq39).1) : w.heap.size ≤ gb239)); have n7_ := Aside0.mk ((by rw [hg]; exact (below_size zq43) : w0.heap.size ≤ gb239)); have n8_ := Aside0.mk ((by rw [hg]; exact Nat.ne_of_lt (blk_lt (g := gb238) (o := .cells #[.int .i64 a1_0, .string a1_1, .slice Ao45 l1_2.length co45, .bool a1_3] 25 (0, 0)) zq21) : gb238 ≠ gb239)); have n9_ := Aside0.mk ((by rw [hg]; exact Nat.ne_of_gt (blk_lt (g := gb238) (o := .cells #[.int .i64 a1_0, .string a1_1, .slice Ao45 l1_2.length co45, .bool a1_3] 25 (0, 0)) zq21) : gb239 ≠ gb238)); have n10_ := Aside0.mk ((by rw [hg]; exact Nat.ne_of_lt (IsS98.lt (show IsS98 w0 _ g s0_0 s0_1 from zq32)) : g ≠ gb239)); have n11_ := Aside0.mk ((by rw [hg]; exact Nat.ne_of_gt (IsS98.lt (show IsS98 w0 _ g s0_0 s0_1 from zq32)) : gb239 ≠ g)); clear HO1_2; clear HI0; clear BK238; clear HK; clear HB; have HO1_2 := n0_; have HI0 := n1_; have BK238 := n2_; have HK := n3_; have HB := n4_; have BK239 := n5_; have GW239 := n6_; have GE239 := n7_; have NB238_239 := n8_; have NB239_238 := n9_; have NB0_239 := n10_; have NB239_0 := n11_; clear n0_ n1_ n2_ n3_ n4_ n5_ n6_ n7_ n8_ n9_ n10_ n11_; clear hb hbox hg) | ((with_reducible refine gate_callee (f := 29) rfl ?_); refine goesL_ (some 7) rfl rfl Try.func29 zq19 rfl #[.pointer (some ⟨g, 0, none⟩), .int .i64 5] rfl zq0 ?_; (with_reducible refine (spec_l1Rd_pick.calls k g s0_0 s0_1 5 t240 t241 w0 _ ?side1 ?side2 A3.out).mono ?_); (case side1 => repeat (first | (with_reducible first | exact HI0.out | apply IsS98.alloc | apply IsS98.drewN | apply IsS98.drew | apply IsS98.set_1 | refine IsS98.far ?_ NB0_238.out _ | refine IsS98.far ?_ NB0_239.out _) | exact HI0.out)); (case side2 => repeat (first | (with_reducible first | exact HB.out | apply below_alloc | apply pw_below_drewN | apply below_drew1 | refine below_set ?_ (IsS98.ge HI0.out) | refine below_set ?_ GE238.out | refine below_set ?_ GE239.out) | exact HB.out)); rintro e w48 ⟨rfl, hi, hb, hk⟩; refine ⟨_, rfl, ?_⟩; have n0_ := Aside0.mk (Kd.R_mono (Kd.R_keep (IsS98.apart (show IsS98 w0 _ g s0_0 s0_1 from zq9) zq27 zq60) hk (fun _ h => h.2)) (fun _ h => h.1)); have n1_ := Aside0.mk (KeepBut.blk hk (g' := gb238) (o := .cells #[.int .i64 a1_0, .string a1_1, .slice Ao45 l1_2.length co45, .bool a1_3] 25 (0, 0)) zq21 NB238_0.out zq81); have n2_ := Aside0.mk (KeepBut.blk hk (g' := gb239) (o := .cells #[.int .i64 0, .string (⟨#[]⟩ : ByteArray), .slice none 0 0, .bool false] 25 (0, 0)) zq35 NB239_0.out zq81); have n3_ := Aside0.mk (Kept.of_keep (S := (fun k_ => (P1_2_ k_) ∨ k_ = g)) zq5 hk (.inl (.inr rfl))); have n4_ := Aside0.mk (hb); have n5_ := Aside0.mk (hi); clear HO1_2; clear BK238; clear BK239; clear HK; clear HB; clear HI0; have HO1_2 := n0_; have BK238 := n1_; have BK239 := n2_; have HK := n3_; have HB := n4_; have HI0 := n5_; clear n0_ n1_ n2_ n3_ n4_ n5_; (try clear hb); (try clear hb2); (try clear hk); (try clear hi)))
       have pi262 : (0 ≤ (t260 : Int)) = True := eq_true (of_decide_eq_true zq23)
       have qi262 : (t260 < (y257.length : Int)) = True := eq_true (of_decide_eq_true zq23)
       have n0_ := Aside0.mk (Kd.R_drew HO1_2.out)
       have n1_ := Aside0.mk (blk_drew BK238.out)
       have n2_ := Aside0.mk (blk_drew BK239.out)
       have n3_ := Aside0.mk (IsS98.drew HI0.out)
       have n4_ := Aside0.mk (Kept.drew HK.out)
       have n5_ := Aside0.mk (below_drew1 HB.out)
       clear HO1_2
       clear BK238
       clear BK239
       clear HI0
       clear HK
       clear HB
       have HO1_2 := n0_
       have BK238 := n1_
       have BK239 := n2_
       have HI0 := n3_
       have HK := n4_
       have HB := n5_
       clear n0_ n1_ n2_ n3_ n4_ n5_
       refine start_ (n := 15) (S := fun w' => w'.cell? ⟨gb238, 0, none⟩ = some (.int .i64 a1_0) ∧ w'.cell? ⟨gb238, 1, none⟩ = some (.string a1_1) ∧ w'.cell? ⟨gb238, 2, none⟩ = some (.slice Ao45 l1_2.length co45) ∧ w'.cell? ⟨gb238, 3, none⟩ = some (.bool a1_3)) (ds := [14]) #[false, false, false, false, false, false, false, false, false, false, false, false, false, false, false] zq19 rfl rfl ⟨(blk_cell BK238.out 0).trans rfl, (blk_cell BK238.out 1).trans rfl, (blk_cell BK238.out 2).trans rfl, (blk_cell BK238.out 3).trans rfl⟩ (fun hHeld => ?_); refine with_tabW spec_l3Spoil.tab10 spec_l3Spoil.bits10 (fun HT_ HW_ => ?_)
       generalize w48.drew = w49 at HO1_2 BK238 BK239 HI0 HK HB hHeld ⊢
       refine pure_ (i := 0) (N := some 39) (v := ?_) (a' := ?_) #[true, false, false, false, false, false, false, false, false, false, false, false, false, false, false] rfl rfl (any_of HT_.out zq19) (fun _ _ _ h => h) (Or.inl ⟨zq90, ?_⟩) ?_ ?_
       rotate_left
       ·intro w'
        go_simp
        with_reducible rfl
       rotate_left
       ·simp only [Act.put, List.setIfInBounds_toArray, List.set_cons_zero, List.set_cons_succ, i64_w, i32_w]
        rfl
       refine pure_ (i := 2) (N := some 41) (v := ?_) (a' := ?_) #[true, false, true, false, false, false, false, false, false, false, false, false, false, false, false] rfl rfl (any_of HT_.out zq19) (fun _ _ _ h => h) (Or.inl ⟨zq90, ?_⟩) ?_ ?_
       rotate_left
       ·intro w'
        go_simp
        with_reducible rfl
       rotate_left
       ·simp only [Act.put, List.setIfInBounds_toArray, List.set_cons_zero, List.set_cons_succ, i64_w, i32_w]
        rfl
       refine pure_ (i := 7) (N := some 46) (v := ?_) (a' := ?_) #[true, false, true, false, false, false, false, true, false, false, false, false, false, false, false] rfl rfl (any_of HT_.out zq19) (fun _ _ _ h => h) (Or.inl ⟨zq90, ?_⟩) ?_ ?_
       rotate_left
       ·intro w'
        go_simp
        with_reducible rfl
       rotate_left
       ·simp only [Act.put, List.setIfInBounds_toArray, List.set_cons_zero, List.set_cons_succ, i64_w, i32_w]
        rfl
       refine take_ (i := 1) (N := some 40) (v := ?_) (a' := ?_) #[true, true, true, false, false, false, false, true, false, false, false, false, false, false, false] rfl rfl (take_ofW HT_.out HW_.out zq19) (fun _ _ _ h => h) (Or.inl ⟨zq90, ?_⟩) hHeld ?_ ?_
       rotate_left
       ·rintro w' ⟨s0, s1, s2, s3⟩
        go_simp
        with_reducible rfl
       rotate_left
       ·simp only [Act.put, List.setIfInBounds_toArray, List.set_cons_zero, List.set_cons_succ, i64_w, i32_w]
        rfl
       refine one_ (i := 3) (N := some 42) #[true, true, true, true, false, false, false, true, false, false, false, false, false, false, false] rfl rfl (one_of HT_.out zq19) zq60 (fun K hK => ?_)
       refine goes_ Try.func29 zq19 rfl #[.pointer (some ⟨g, 0, none⟩), .int .i64 2] zq90 rfl rfl zq0 ?_
       with_reducible refine (spec_l1Rd_pick.calls k g s0_0 t241 2 t254 t255 w0 _ ?side1 ?side2 A39.out).mono ?_
       (case side1 => repeat (first | (with_reducible first | exact HI0.out | apply IsS98.alloc | apply IsS98.drewN | apply IsS98.drew | apply IsS98.set_1 | refine IsS98.far ?_ NB0_238.out _ | refine IsS98.far ?_ NB0_239.out _) | exact HI0.out))
       (case side2 => repeat (first | (with_reducible first | exact HB.out | apply below_alloc | apply pw_below_drewN | apply below_drew1 | refine below_set ?_ (IsS98.ge HI0.out) | refine below_set ?_ GE238.out | refine below_set ?_ GE239.out) | exact HB.out))
       rintro e w50 ⟨rfl, hi, hb, hk⟩
       refine ⟨_, rfl, ?_⟩
       have n0_ := Aside0.mk (Kd.R_mono (Kd.R_keep (IsS98.apart (show IsS98 w0 _ g s0_0 t241 from zq9) zq27 zq60) hk (fun _ h => h.2)) (fun _ h => h.1))
       have n1_ := Aside0.mk (KeepBut.blk hk (g' := gb238) (o := .cells #[.int .i64 a1_0, .string a1_1, .slice Ao45 l1_2.length co45, .bool a1_3] 25 (0, 0)) zq21 NB238_0.out zq81)
       have n2_ := Aside0.mk (KeepBut.blk hk (g' := gb239) (o := .cells #[.int .i64 0, .string (⟨#[]⟩ : ByteArray), .slice none 0 0, .bool false] 25 (0, 0)) zq35 NB239_0.out zq81)
       have n3_ := Aside0.mk (Kept.of_keep (S := (fun k_ => (P1_2_ k_) ∨ k_ = g)) zq5 hk (.inl (.inr rfl)))
       have n4_ := Aside0.mk (hb)
       have n5_ := Aside0.mk (hi)
       clear HO1_2
       clear BK238
       clear BK239
       clear HK
       clear HB
       clear HI0
       have HO1_2 := n0_
       have BK238 := n1_
       have BK239 := n2_
       have HK := n3_
       have HB := n4_
       have HI0 := n5_
       clear n0_ n1_ n2_ n3_ n4_ n5_
       (try clear hb)
       (try clear hb2)
       (try clear hk)
       (try clear hi)
       refine hK.out _ _ ⟨(blk_cell BK238.out 0).trans rfl, (blk_cell BK238.out 1).trans rfl, (blk_cell BK238.out 2).trans rfl, (blk_cell BK238.out 3).trans rfl⟩ (fun hHeld => ?_)
       clear hK K
       refine norm_ (a' := ?_) ?_ ?_
       rotate_left
       ·show Act.put _ (some 42) _ = _
        simp only [Act.put, List.setIfInBounds_toArray, List.set_cons_zero, List.set_cons_succ, i64_w, i32_w]
        rfl
       refine pure_ (i := 4) (N := some 43) (v := ?_) (a' := ?_) #[true, true, true, true, true, false, false, true, false, false, false, false, false, false, false] rfl rfl (any_of HT_.out zq19) (fun _ _ _ h => h) (Or.inl ⟨zq90, ?_⟩) ?_ ?_
       rotate_left
       ·intro w'
        go_simp
        with_reducible rfl
       rotate_left
       ·simp only [Act.put, List.setIfInBounds_toArray, List.set_cons_zero, List.set_cons_succ, i64_w, i32_w]
        rfl
       refine one_ (i := 5) (N := some 44) #[true, true, true, true, true, true, false, true, false, false, false, false, false, false, false] rfl rfl (one_of HT_.out zq19) zq60 (fun K hK => ?_)
       refine goes_ Try.func38 zq19 rfl #[.string (⟨#[102]⟩ : ByteArray), .int .i64 (wrap64 (1000 + t254))] zq90 rfl rfl zq0 ?_
       with_reducible refine (spec_l1Many.calls k (⟨#[102]⟩ : ByteArray) (wrap64 (1000 + t254)) t256 _ A40.out).mono ?_
       rintro e w' ⟨rfl, ⟨nd, rfl⟩⟩
       refine ⟨_, rfl, ?_⟩
       refine hK.out _ _ ⟨(blk_cell BK238.out 0).trans rfl, (blk_cell BK238.out 1).trans rfl, (blk_cell BK238.out 2).trans rfl, (blk_cell BK238.out 3).trans rfl⟩ (fun hHeld => ?_)
       clear hK K
       refine norm_ (a' := ?_) ?_ ?_
       rotate_left
       ·show Act.put _ (some 44) _ = _
        simp only [Act.put, List.setIfInBounds_toArray, List.set_cons_zero, List.set_cons_succ, i64_w, i32_w]
        rfl
       refine join_ (σ := Value × Addr) 6 #[true, true, true, true, true, true, true, true, true, false, false, false, false, false, false] (fun s_ => [(45, s_.1), (47, .int .i64 t260)]) (fun s_ w' => (w'.cell? ⟨gb238, 0, none⟩ = some (.int .i64 a1_0) ∧ w'.cell? ⟨gb238, 1, none⟩ = some (.string a1_1) ∧ w'.cell? ⟨gb238, 2, none⟩ = some (.slice Ao45 l1_2.length co45) ∧ w'.cell? ⟨gb238, 3, none⟩ = some (.bool a1_3)) ∧ (Kd.R Kd.string 9 w' w0.heap.size (fun k_ => (P1_2_ k_ ∨ w.heap.size ≤ k_) ∧ some k_ ≠ (s_.1 : Value).ownBlock) (.slice Ao45 l1_2.length co45) l1_2) ∧ (Kd.R Kd.string 9 w' w0.heap.size (fun k_ => (P1_2_ k_ ∨ w.heap.size ≤ k_) ∧ some k_ ≠ (.slice Ao45 l1_2.length co45 : Value).ownBlock) s_.1 y257) ∧ (∃ c_, (s_.1 : Value) = .slice (some s_.2) y257.length c_) ∧ (w'.heap[gb238]? = some (.cells #[.int .i64 a1_0, .string a1_1, .slice Ao45 l1_2.length co45, .bool a1_3] 25 (0, 0))) ∧ (w'.heap[gb239]? = some (.cells #[.int .i64 0, .string (⟨#[]⟩ : ByteArray), .slice none 0 0, .bool false] 25 (0, 0))) ∧ (IsS98 w0 w' g s0_0 t261) ∧ (Kept w w' (fun k_ => (P1_2_ k_) ∨ k_ = g)) ∧ (Below w0.heap.size w0 w')) ?_ ?_
       rotate_left
       ·intro hCont
        refine two_ (i := 6) (j := 8) (Ni := some 45) (Nj := some 47) #[true, true, true, true, true, true, true, true, false, false, false, false, false, false, false] #[true, true, true, true, true, true, false, true, true, false, false, false, false, false, false] rfl rfl rfl rfl (two_of HT_.out zq19) zq60 zq60 (fun K hK => ?_) (fun K hK => ?_)
        ·skip
         refine Kd.R_lit_step Kd.string _ 9 ?hg (N := 45) ?hd (xs := ([(⟨#[]⟩ : ByteArray), t256] : List ByteArray)) (inner := [.string (⟨#[]⟩ : ByteArray), .string t256]) (ok := fun _ => True) (okp := fun _ => True) ?hr ?hp (fun _ hk => hk) trivial (Below.refl _ _) (Nat.le_refl _) zq81 ?_; (case hd => rfl); (case hg => rfl); (case hr => first | (go_simp; done) | (go_simp; rfl)); (case hp => exact (Reps.one (show Kd.M Kd.string _ _ _ (⟨#[]⟩ : ByteArray) [.string (⟨#[]⟩ : ByteArray)] from rfl) (Reps.one (show Kd.M Kd.string _ _ _ t256 [.string t256] from rfl) (Reps.none _ _))))
         intro v258 w51 ho52 hb hg_ hnew_
         clear hg_ hnew_
         (first | rw [← Ny257.out] at ho52 | (simp only [Int.reduceToNat] at ho52; rw [← Ny257.out] at ho52))
         have n0_ := Aside0.mk (Kd.R_elder' zq27 (Kd.R_base ho52) hb)
         have n1_ := Aside0.mk (Kd.R_lower (Kd.R_new' (Kd.R_newM (M := fun k_ => (P1_2_ k_ ∨ w.heap.size ≤ k_)) ho52 (by first | exact HK.out.1 | exact (show Kept w _ (fun k_ => (P1_2_ k_) ∨ k_ = g) from zq5).1) (fun k_ h_ => .inr h_)) (Kd.R_lt zq27)) (below_size zq14))
         have n2_ := Aside0.mk (IsS98.below zq9 hb)
         have n3_ := Aside0.mk (blk_below (g := gb238) (o := .cells #[.int .i64 a1_0, .string a1_1, .slice Ao45 l1_2.length co45, .bool a1_3] 25 (0, 0)) zq21 hb)
         have n4_ := Aside0.mk (blk_below (g := gb239) (o := .cells #[.int .i64 0, .string (⟨#[]⟩ : ByteArray), .slice none 0 0, .bool false] 25 (0, 0)) zq35 hb)
         have n5_ := Aside0.mk (Kept.below (S := (fun k_ => (P1_2_ k_) ∨ k_ = g)) zq5 hb)
         have n6_ := Aside0.mk (below_step zq14 hb)
         clear HO1_2
         clear HI0
         clear BK238
         clear BK239
         clear HK
         clear HB
         have HO1_2 := n0_
         have HO259 := n1_
         have HI0 := n2_
         have BK238 := n3_
         have BK239 := n4_
         have HK := n5_
         have HB := n6_
         clear n0_ n1_ n2_ n3_ n4_ n5_ n6_
         clear hb ho52
         obtain ⟨Ao53, co53, eo53⟩ := Kd.R_slice HO259.out
         subst eo53
         obtain ⟨ado53, fo53, _⟩ := Kd.at_string (Kd.R_reads' HO259.out).2.2 0 zq60 (by rw [Ny257.out]; simp)
         cases fo53
         refine hK.out _ _ ⟨(blk_cell BK238.out 0).trans rfl, (blk_cell BK238.out 1).trans rfl, (blk_cell BK238.out 2).trans rfl, (blk_cell BK238.out 3).trans rfl⟩ (fun hHeld => ?_)
         clear hK K
         refine norm_ (a' := ?_) ?_ ?_
         rotate_left
         ·show Act.put _ (some 45) _ = _
          simp only [Act.put, List.setIfInBounds_toArray, List.set_cons_zero, List.set_cons_succ, i64_w, i32_w]
          rfl
         refine one_ (i := 8) (N := some 47) #[true, true, true, true, true, true, true, true, true, false, false, false, false, false, false] rfl rfl (one_of HT_.out zq19) zq60 (fun K hK => ?_)
         refine goes_ Try.func29 zq19 rfl #[.pointer (some ⟨g, 0, none⟩), .int .i64 2] zq90 rfl rfl zq0 ?_
         with_reducible refine (spec_l1Rd_pick.calls k g s0_0 t255 2 t260 t261 w0 _ ?side1 ?side2 A41.out).mono ?_
         (case side1 => repeat (first | (with_reducible first | exact HI0.out | apply IsS98.alloc | apply IsS98.drewN | apply IsS98.drew | apply IsS98.set_1 | refine IsS98.far ?_ NB0_238.out _ | refine IsS98.far ?_ NB0_239.out _) | exact HI0.out))
         (case side2 => repeat (first | (with_reducible first | exact HB.out | apply below_alloc | apply pw_below_drewN | apply below_drew1 | refine below_set ?_ (IsS98.ge HI0.out) | refine below_set ?_ GE238.out | refine below_set ?_ GE239.out) | exact HB.out))
         rintro e w54 ⟨rfl, hi, hb, hk⟩
         refine ⟨_, rfl, ?_⟩
         have n0_ := Aside0.mk (Kd.R_mono (Kd.R_keep (IsS98.apart (show IsS98 w0 _ g s0_0 t255 from zq9) zq27 zq60) hk (fun _ h => h.2)) (fun _ h => h.1))
         have n1_ := Aside0.mk (KeepBut.blk hk (g' := gb238) (o := .cells #[.int .i64 a1_0, .string a1_1, .slice Ao45 l1_2.length co45, .bool a1_3] 25 (0, 0)) zq21 NB238_0.out zq81)
         have n2_ := Aside0.mk (KeepBut.blk hk (g' := gb239) (o := .cells #[.int .i64 0, .string (⟨#[]⟩ : ByteArray), .slice none 0 0, .bool false] 25 (0, 0)) zq35 NB239_0.out zq81)
         have n3_ := Aside0.mk (Kd.R_mono (Kd.R_keep (IsS98.apart (show IsS98 w0 _ g s0_0 t255 from zq9) zq92 zq60) hk (fun _ h => h.2)) (fun _ h => h.1))
         have n4_ := Aside0.mk (Kept.of_keep (S := (fun k_ => (P1_2_ k_) ∨ k_ = g)) zq5 hk (.inl (.inr rfl)))
         have n5_ := Aside0.mk (hb)
         have n6_ := Aside0.mk (hi)
         clear HO1_2
         clear BK238
         clear BK239
         clear HO259
         clear HK
         clear HB
         clear HI0
         have HO1_2 := n0_
         have BK238 := n1_
         have BK239 := n2_
         have HO259 := n3_
         have HK := n4_
         have HB := n5_
         have HI0 := n6_
         clear n0_ n1_ n2_ n3_ n4_ n5_ n6_
         (try clear hb)
         (try clear hb2)
         (try clear hk)
         (try clear hi)
         refine hK.out _ _ ⟨(blk_cell BK238.out 0).trans rfl, (blk_cell BK238.out 1).trans rfl, (blk_cell BK238.out 2).trans rfl, (blk_cell BK238.out 3).trans rfl⟩ (fun hHeld => ?_)
         clear hK K
         refine norm_ (a' := ?_) ?_ ?_
         rotate_left
         ·show Act.put _ (some 47) _ = _
          simp only [Act.put, List.setIfInBounds_toArray, List.set_cons_zero, List.set_cons_succ, i64_w, i32_w]
          rfl
         exact norm_ zq67 (hCont (.slice (some ado53) y257.length co53, ado53) _ ⟨hHeld, zq27, zq98, ⟨_, rfl⟩, zq21, zq35, zq9, zq5, zq14⟩)
        ·skip
         refine goes_ Try.func29 zq19 rfl #[.pointer (some ⟨g, 0, none⟩), .int .i64 2] zq90 rfl rfl zq0 ?_
         with_reducible refine (spec_l1Rd_pick.calls k g s0_0 t255 2 t260 t261 w0 _ ?side1 ?side2 A41.out).mono ?_
         (case side1 => repeat (first | (with_reducible first | exact HI0.out | apply IsS98.alloc | apply IsS98.drewN | apply IsS98.drew | apply IsS98.set_1 | refine IsS98.far ?_ NB0_238.out _ | refine IsS98.far ?_ NB0_239.out _) | exact HI0.out))
         (case side2 => repeat (first | (with_reducible first | exact HB.out | apply below_alloc | apply pw_below_drewN | apply below_drew1 | refine below_set ?_ (IsS98.ge HI0.out) | refine below_set ?_ GE238.out | refine below_set ?_ GE239.out) | exact HB.out))
         rintro e w51 ⟨rfl, hi, hb, hk⟩
         refine ⟨_, rfl, ?_⟩
         have n0_ := Aside0.mk (Kd.R_mono (Kd.R_keep (IsS98.apart (show IsS98 w0 _ g s0_0 t255 from zq9) zq27 zq60) hk (fun _ h => h.2)) (fun _ h => h.1))
         have n1_ := Aside0.mk (KeepBut.blk hk (g' := gb238) (o := .cells #[.int .i64 a1_0, .string a1_1, .slice Ao45 l1_2.length co45, .bool a1_3] 25 (0, 0)) zq21 NB238_0.out zq81)
         have n2_ := Aside0.mk (KeepBut.blk hk (g' := gb239) (o := .cells #[.int .i64 0, .string (⟨#[]⟩ : ByteArray), .slice none 0 0, .bool false] 25 (0, 0)) zq35 NB239_0.out zq81)
         have n3_ := Aside0.mk (Kept.of_keep (S := (fun k_ => (P1_2_ k_) ∨ k_ = g)) zq5 hk (.inl (.inr rfl)))
         have n4_ := Aside0.mk (hb)
         have n5_ := Aside0.mk (hi)
         clear HO1_2
         clear BK238
         clear BK239
         clear HK
         clear HB
         clear HI0
         have HO1_2 := n0_
         have BK238 := n1_
         have BK239 := n2_
         have HK := n3_
         have HB := n4_
         have HI0 := n5_
         clear n0_ n1_ n2_ n3_ n4_ n5_
         (try clear hb)
         (try clear hb2)
         (try clear hk)
         (try clear hi)
         refine hK.out _ _ ⟨(blk_cell BK238.out 0).trans rfl, (blk_cell BK238.out 1).trans rfl, (blk_cell BK238.out 2).trans rfl, (blk_cell BK238.out 3).trans rfl⟩ (fun hHeld => ?_)
         clear hK K
         refine norm_ (a' := ?_) ?_ ?_
         rotate_left
         ·show Act.put _ (some 47) _ = _
          simp only [Act.put, List.setIfInBounds_toArray, List.set_cons_zero, List.set_cons_succ, i64_w, i32_w]
          rfl
         refine one_ (i := 6) (N := some 45) #[true, true, true, true, true, true, true, true, true, false, false, false, false, false, false] rfl rfl (one_of HT_.out zq19) zq60 (fun K hK => ?_)
         refine Kd.R_lit_step Kd.string _ 9 ?hg (N := 45) ?hd (xs := ([(⟨#[]⟩ : ByteArray), t256] : List ByteArray)) (inner := [.string (⟨#[]⟩ : ByteArray), .string t256]) (ok := fun _ => True) (okp := fun _ => True) ?hr ?hp (fun _ hk => hk) trivial (Below.refl _ _) (Nat.le_refl _) zq81 ?_; (case hd => rfl); (case hg => rfl); (case hr => first | (go_simp; done) | (go_simp; rfl)); (case hp => exact (Reps.one (show Kd.M Kd.string _ _ _ (⟨#[]⟩ : ByteArray) [.string (⟨#[]⟩ : ByteArray)] from rfl) (Reps.one (show Kd.M Kd.string _ _ _ t256 [.string t256] from rfl) (Reps.none _ _))))
         intro v258 w52 ho53 hb hg_ hnew_
         clear hg_ hnew_
         (first | rw [← Ny257.out] at ho53 | (simp only [Int.reduceToNat] at ho53; rw [← Ny257.out] at ho53))
         have n0_ := Aside0.mk (Kd.R_elder' zq27 (Kd.R_base ho53) hb)
         have n1_ := Aside0.mk (Kd.R_lower (Kd.R_new' (Kd.R_newM (M := fun k_ => (P1_2_ k_ ∨ w.heap.size ≤ k_)) ho53 (by first | exact HK.out.1 | exact (show Kept w _ (fun k_ => (P1_2_ k_) ∨ k_ = g) from zq5).1) (fun k_ h_ => .inr h_)) (Kd.R_lt zq27)) (below_size zq14))
         have n2_ := Aside0.mk (IsS98.below zq9 hb)
         have n3_ := Aside0.mk (blk_below (g := gb238) (o := .cells #[.int .i64 a1_0, .string a1_1, .slice Ao45 l1_2.length co45, .bool a1_3] 25 (0, 0)) zq21 hb)
         have n4_ := Aside0.mk (blk_below (g := gb239) (o := .cells #[.int .i64 0, .string (⟨#[]⟩ : ByteArray), .slice none 0 0, .bool false] 25 (0, 0)) zq35 hb)
         have n5_ := Aside0.mk (Kept.below (S := (fun k_ => (P1_2_ k_) ∨ k_ = g)) zq5 hb)
         have n6_ := Aside0.mk (below_step zq14 hb)
         clear HO1_2
         clear HI0
         clear BK238
         clear BK239
         clear HK
         clear HB
         have HO1_2 := n0_
         have HO259 := n1_
         have HI0 := n2_
         have BK238 := n3_
         have BK239 := n4_
         have HK := n5_
         have HB := n6_
         clear n0_ n1_ n2_ n3_ n4_ n5_ n6_
         clear hb ho53
         obtain ⟨Ao54, co54, eo54⟩ := Kd.R_slice HO259.out
         subst eo54
         obtain ⟨ado54, fo54, _⟩ := Kd.at_string (Kd.R_reads' HO259.out).2.2 0 zq60 (by rw [Ny257.out]; simp)
         cases fo54
         refine hK.out _ _ ⟨(blk_cell BK238.out 0).trans rfl, (blk_cell BK238.out 1).trans rfl, (blk_cell BK238.out 2).trans rfl, (blk_cell BK238.out 3).trans rfl⟩ (fun hHeld => ?_)
         clear hK K
         refine norm_ (a' := ?_) ?_ ?_
         rotate_left
         ·show Act.put _ (some 45) _ = _
          simp only [Act.put, List.setIfInBounds_toArray, List.set_cons_zero, List.set_cons_succ, i64_w, i32_w]
          rfl
         exact norm_ zq67 (hCont (.slice (some ado54) y257.length co54, ado54) _ ⟨hHeld, zq27, zq98, ⟨_, rfl⟩, zq21, zq35, zq9, zq5, zq14⟩)
       rintro ⟨v258, adz_v258⟩ w55 ⟨hS_, h0_, h1_, h2_, h3_, h4_, h5_, h6_, h7_⟩
       have n0_ : Aside0 (Kd.R Kd.string 9 w55 w0.heap.size (fun k_ => (P1_2_ k_ ∨ w.heap.size ≤ k_) ∧ some k_ ≠ (v258 : Value).ownBlock) (.slice Ao45 l1_2.length co45) l1_2) := ⟨h0_⟩
       have n1_ : Aside0 (Kd.R Kd.string 9 w55 w0.heap.size (fun k_ => (P1_2_ k_ ∨ w.heap.size ≤ k_) ∧ some k_ ≠ (.slice Ao45 l1_2.length co45 : Value).ownBlock) v258 y257) := ⟨h1_⟩
       have n2_ : Aside0 (∃ c_, (v258 : Value) = .slice (some adz_v258) y257.length c_) := ⟨h2_⟩
       have n3_ : Aside0 (w55.heap[gb238]? = some (.cells #[.int .i64 a1_0, .string a1_1, .slice Ao45 l1_2.length co45, .bool a1_3] 25 (0, 0))) := ⟨h3_⟩
       have n4_ : Aside0 (w55.heap[gb239]? = some (.cells #[.int .i64 0, .string (⟨#[]⟩ : ByteArray), .slice none 0 0, .bool false] 25 (0, 0))) := ⟨h4_⟩
       have n5_ : Aside0 (IsS98 w0 w55 g s0_0 t261) := ⟨h5_⟩
       have n6_ : Aside0 (Kept w w55 (fun k_ => (P1_2_ k_) ∨ k_ = g)) := ⟨h6_⟩
       have n7_ : Aside0 (Below w0.heap.size w0 w55) := ⟨h7_⟩
       clear HO1_2
       clear BK238
       clear BK239
       clear HI0
       clear HK
       clear HB
       clear h0_ h1_ h2_ h3_ h4_ h5_ h6_ h7_
       have HO1_2 := n0_
       have HO259 := n1_
       have HA_HO259 := n2_
       have BK238 := n3_
       have BK239 := n4_
       have HI0 := n5_
       have HK := n6_
       have HB := n7_
       clear n0_ n1_ n2_ n3_ n4_ n5_ n6_ n7_
       have hHeld : w55.cell? ⟨gb238, 0, none⟩ = some (.int .i64 a1_0) ∧ w55.cell? ⟨gb238, 1, none⟩ = some (.string a1_1) ∧ w55.cell? ⟨gb238, 2, none⟩ = some (.slice Ao45 l1_2.length co45) ∧ w55.cell? ⟨gb238, 3, none⟩ = some (.bool a1_3) := hS_
       obtain ⟨co56, eo56⟩ := HA_HO259.out
       clear HA_HO259
       subst eo56
       refine norm_ (a' := ?_) ?_ ?_
       rotate_left
       ·simp only [putAll, Act.put, List.setIfInBounds_toArray, List.set_cons_zero, List.set_cons_succ]
        rfl
       refine pure_ (i := 9) (N := some 48) (v := ?_) (a' := ?_) #[true, true, true, true, true, true, true, true, true, true, false, false, false, false, false] rfl rfl (any_of HT_.out zq19) (fun _ _ _ h => h) (Or.inl ⟨zq90, ?_⟩) ?_ ?_
       rotate_left
       ·intro w'
        go_simp
        with_reducible rfl
       rotate_left
       ·simp only [Act.put, List.setIfInBounds_toArray, List.set_cons_zero, List.set_cons_succ, i64_w, i32_w]
        rfl
       refine one_ (i := 10) (N := some 49) #[true, true, true, true, true, true, true, true, true, true, true, false, false, false, false] rfl rfl (one_of HT_.out zq19) zq60 (fun K hK => ?_)
       (have p262 : 0 ≤ (t260 : Int) := of_decide_eq_true zq23; have q262 : t260 < (y257.length : Int) := of_decide_eq_true zq23; obtain ⟨ad262, e262, hx262_0⟩ := Kd.at_string (Kd.R_reads' HO259.out).2.2 t260 p262 q262; obtain rfl : adz_v258 = ad262 := (by injection e262))
       refine value_ (w1 := ?_) (v := ?_) zq90 rfl ?_ ?_
       rotate_left 2
       ·go_simp
        constructor
        ·rfl
        ·rfl
       clear hx262_0
       refine hK.out _ _ ⟨(blk_cell BK238.out 0).trans rfl, (blk_cell BK238.out 1).trans rfl, (blk_cell BK238.out 2).trans rfl, (blk_cell BK238.out 3).trans rfl⟩ (fun hHeld => ?_)
       clear hK K
       refine norm_ (a' := ?_) ?_ ?_
       rotate_left
       ·show Act.put _ (some 49) _ = _
        simp only [Act.put, List.setIfInBounds_toArray, List.set_cons_zero, List.set_cons_succ, i64_w, i32_w]
        rfl
       refine one_ (i := 11) (N := some 50) #[true, true, true, true, true, true, true, true, true, true, true, true, false, false, false] rfl rfl (one_of HT_.out zq19) zq60 (fun K hK => ?_)
       refine value_ (w1 := ?_) (v := ?_) zq90 rfl ?_ ?_
       rotate_left 2
       ·go_simp
        constructor
        ·rfl
        ·rfl
       refine hK.out _ _ ⟨(blk_cell (blk_alloc BK238.out _) 0).trans rfl, (blk_cell (blk_alloc BK238.out _) 1).trans rfl, (blk_cell (blk_alloc BK238.out _) 2).trans rfl, (blk_cell (blk_alloc BK238.out _) 3).trans rfl⟩ (fun hHeld => ?_)
       clear hK K
       refine norm_ (a' := ?_) ?_ ?_
       rotate_left
       ·show Act.put _ (some 50) _ = _
        simp only [Act.put, List.setIfInBounds_toArray, List.set_cons_zero, List.set_cons_succ, i64_w, i32_w]
        rfl
       refine one_ (i := 12) (N := some 51) #[true, true, true, true, true, true, true, true, true, true, true, true, true, false, false] rfl rfl (one_of HT_.out zq19) zq60 (fun K hK => ?_)
       refine Kd.R_append_step Kd.string (w0 := w0) w0.heap.size zq90 (.tmp 40) (.tmp 50) 23 9 (.string ⟨#[]⟩) 16 rfl Try.underlying23 info9 rfl zq60 zq99 (.slice Ao45 l1_2.length co45) l1_2 (rdOf ByteArray.empty y257 t260) [.string (rdOf ByteArray.empty y257 t260)] (fun k_ => (P1_2_ k_ ∨ w.heap.size ≤ k_) ∧ some k_ ≠ (.slice (some adz_v258) y257.length co56 : Value).ownBlock) (fun _ => False) rfl rfl ?aP (fun _ hk => hk.elim) ?aF ?aO ?aB ?aS ?aL ?_
       (case aP => exact rfl)
       (case aB => exact zq14)
       (case aF => exact (fun k_ hk => ⟨(.inr (Nat.le_trans (by first | exact HK.out.1 | exact (show Kept w _ (fun k_ => (P1_2_ k_) ∨ k_ = g) from zq5).1) hk)), Kd.fresh' (Kd.R_lt zq92) k_ hk⟩))
       (case aO => exact zq27)
       (case aS => exact (below_size zq14))
       (case aL => have := LMc44.out; omega)
       intro v264 w57 ho hb hg hat
       rw [← Ny263.out] at ho
       have n0_ := Aside0.mk (IsS98.grown zq9 hg (IsS98.own_ne HI0.out HO1_2.out zq60))
       have n1_ := Aside0.mk (blk_grown (g := gb238) (o := .cells #[.int .i64 a1_0, .string a1_1, .slice Ao45 l1_2.length co45, .bool a1_3] 25 (0, 0)) zq21 hg (Kd.R_ne HO1_2.out BK238.out zq60))
       have n2_ := Aside0.mk (blk_grown (g := gb239) (o := .cells #[.int .i64 0, .string (⟨#[]⟩ : ByteArray), .slice none 0 0, .bool false] 25 (0, 0)) zq35 hg (Kd.R_ne HO1_2.out BK239.out zq60))
       have n3_ := Aside0.mk (Kd.R_after (ok := (fun k_ => (P1_2_ k_ ∨ w.heap.size ≤ k_))) zq92 hg hat)
       have n4_ := Aside0.mk (hb)
       have n5_ := Aside0.mk (Kept.of_grown (S := (fun k_ => (P1_2_ k_) ∨ k_ = g)) hg zq5 (fun k_ e_ => Or.imp_left Or.inl ((HO1_2.out.1 k_ e_).1)))
       have n6_ := Aside0.mk (ho)
       clear HI0
       clear BK238
       clear BK239
       clear HO259
       clear HB
       clear HK
       clear HO1_2
       have HI0 := n0_
       have BK238 := n1_
       have BK239 := n2_
       have HO259 := n3_
       have HB := n4_
       have HK := n5_
       have HO265 := n6_
       clear n0_ n1_ n2_ n3_ n4_ n5_ n6_
       clear ho hb hg hat
       obtain ⟨Ao58, co58, eo58⟩ := Kd.R_slice HO265.out
       (first | subst eo58 | (injection eo58 with f1_ f2_ f3_; have f4_ := f1_.symm; have f5_ := f3_.symm; clear f1_ f2_ f3_; subst f4_; subst f5_))
       refine hK.out _ _ ⟨(blk_cell BK238.out 0).trans rfl, (blk_cell BK238.out 1).trans rfl, (blk_cell BK238.out 2).trans rfl, (blk_cell BK238.out 3).trans rfl⟩ (fun hHeld => ?_)
       clear hK K
       refine norm_ (a' := ?_) ?_ ?_
       rotate_left
       ·show Act.put _ (some 51) _ = _
        simp only [Act.put, List.setIfInBounds_toArray, List.set_cons_zero, List.set_cons_succ, i64_w, i32_w]
        rfl
       refine pure_ (i := 13) (N := some 52) (v := ?_) (a' := ?_) #[true, true, true, true, true, true, true, true, true, true, true, true, true, true, false] rfl rfl (any_of HT_.out zq19) (fun _ _ _ h => h) (Or.inl ⟨zq90, ?_⟩) ?_ ?_
       rotate_left
       ·intro w'
        go_simp
        with_reducible rfl
       rotate_left
       ·simp only [Act.put, List.setIfInBounds_toArray, List.set_cons_zero, List.set_cons_succ, i64_w, i32_w]
        rfl
       refine last_ (i := 14) (N := none) #[true, true, true, true, true, true, true, true, true, true, true, true, true, true, true] rfl rfl (one_of HT_.out zq19) zq60 (fun K hK => ?_)
       have hs59 : w57.cell? ⟨gb238, 2, none⟩ = some (.slice Ao45 l1_2.length co45) := (blk_cell BK238.out 2).trans rfl
       have hfs59 := blk_frozen BK238.out 2
       have hns59_1 := NB239_238.out
       have hms59_1 := NB238_239.out
       refine skip_ (w1 := ?_) zq90 rfl ?_ ?_
       rotate_left
       ·go_simp
        rfl
       refine hK.out _ _ ?_
       clear hK K
       refine done_ (done_of HT_.out zq19) ?_
       have hnb60 := NB238_239.out
       have hnc60 := NB239_238.out
       have hnb61 := NB238_0.out
       have hnc61 := NB0_238.out
       have hcz62_0 : w57.cell? ⟨gb238, 0, none⟩ = some (.int .i64 a1_0) := (blk_cell BK238.out 0).trans rfl
       have hcz62_1 : w57.cell? ⟨gb238, 1, none⟩ = some (.string a1_1) := (blk_cell BK238.out 1).trans rfl
       have hcz62_2 : w57.cell? ⟨gb238, 2, none⟩ = some (.slice Ao45 l1_2.length co45) := (blk_cell BK238.out 2).trans rfl
       have hcz62_3 : w57.cell? ⟨gb238, 3, none⟩ = some (.bool a1_3) := (blk_cell BK238.out 3).trans rfl
       have hfz62_0 := blk_frozen BK238.out 0
       have hfz62_1 := blk_frozen BK238.out 1
       have hfz62_2 := blk_frozen BK238.out 2
       have hfz62_3 := blk_frozen BK238.out 3
       have hnb63 := NB239_0.out
       have hnc63 := NB0_239.out
       have hcz64_0 : w57.cell? ⟨gb239, 0, none⟩ = some (.int .i64 0) := (blk_cell BK239.out 0).trans rfl
       have hcz64_1 : w57.cell? ⟨gb239, 1, none⟩ = some (.string (⟨#[]⟩ : ByteArray)) := (blk_cell BK239.out 1).trans rfl
       have hcz64_2 : w57.cell? ⟨gb239, 2, none⟩ = some (.slice none 0 0) := (blk_cell BK239.out 2).trans rfl
       have hcz64_3 : w57.cell? ⟨gb239, 3, none⟩ = some (.bool false) := (blk_cell BK239.out 3).trans rfl
       have hfz64_0 := blk_frozen BK239.out 0
       have hfz64_1 := blk_frozen BK239.out 1
       have hfz64_2 := blk_frozen BK239.out 2
       have hfz64_3 := blk_frozen BK239.out 3
       try go_wp2
       refine bodyPost_ret (results_cell_row rfl _ _ gb239 25 #[.int .i64 a1_0, .string a1_1, .slice Ao58 y263.length co58, .bool a1_3] (0, 0) _ rfl (by (with_reducible repeat (first | refine blk_drewN ?_ _ | refine blk_drew ?_ | refine blk_alloc ?_ _)); refine blk_put (cs := #[.int .i64 a1_0, .string a1_1, .slice Ao58 y263.length co58, .bool false]) ?_ 3 _ rfl; (with_reducible repeat (first | refine blk_drewN ?_ _ | refine blk_drew ?_ | refine blk_alloc ?_ _)); refine blk_put (cs := #[.int .i64 a1_0, .string a1_1, .slice none 0 0, .bool false]) ?_ 2 _ rfl; (with_reducible repeat (first | refine blk_drewN ?_ _ | refine blk_drew ?_ | refine blk_alloc ?_ _)); refine blk_put (cs := #[.int .i64 a1_0, .string (⟨#[]⟩ : ByteArray), .slice none 0 0, .bool false]) ?_ 1 _ rfl; (with_reducible repeat (first | refine blk_drewN ?_ _ | refine blk_drew ?_ | refine blk_alloc ?_ _)); refine blk_put (cs := #[.int .i64 0, .string (⟨#[]⟩ : ByteArray), .slice none 0 0, .bool false]) ?_ 0 _ rfl; (with_reducible repeat (first | refine blk_drewN ?_ _ | refine blk_drew ?_ | refine blk_alloc ?_ _)); refine blk_far ?_ NB239_238.out _; (with_reducible repeat (first | refine blk_drewN ?_ _ | refine blk_drew ?_ | refine blk_alloc ?_ _)); exact BK239.out) Try.underlying25 rfl zq19) rfl ?_
       exact ⟨_, zq8, by (with_reducible repeat (first | apply Kd.R_alloc | apply Kd.R_drewN | apply Kd.R_drew)); exact Kd.R_mono (Kd.R_far (p := ⟨gb239, 3, none⟩) (Kd.R_far (p := ⟨gb239, 2, none⟩) (Kd.R_far (p := ⟨gb239, 1, none⟩) (Kd.R_far (p := ⟨gb239, 0, none⟩) (Kd.R_far (p := ⟨gb238, 2, none⟩) (Kd.R_types (Kd.R_types HO265.out BK238.out zq60) BK239.out zq60) (fun _ hk => hk.1.2) (.slice Ao58 y263.length co58)) (fun _ hk => hk.2) (.int .i64 a1_0)) (fun _ hk => hk.2) (.string a1_1)) (fun _ hk => hk.2) (.slice Ao58 y263.length co58)) (fun _ hk => hk.2) (.bool a1_3)) (fun _ hk => hk.1.1.1), zq9, zq14, zq5⟩
      ·rw [if_neg c44] at H
       exact absurd H zq81
     ·rw [if_neg c43] at H
      exact absurd H zq81
    ·rw [if_neg c42] at H
     exact absurd H zq81
   ·rw [if_neg c38] at H
    have c38b0 : (t240 == 2) = false := beq_eq_false_iff_ne.mpr c38
    have c38b1 : (t240 != 2) = true := bne_iff_ne.mpr c38
    by_cases c65 : t240 = 3
    ·rw [if_pos c65] at H
     have c65b0 : (t240 == 3) = true := beq_iff_eq.mpr c65
     have c65b1 : (t240 != 3) = false := bne_eq_false_iff_eq.mpr c65
     clear c65
     simp only [Option.some.injEq, Prod.mk.injEq] at H
     obtain ⟨rfl, rfl, rfl, rfl, rfl⟩ := H
     obtain ⟨Ao66, co66, eo66⟩ := Kd.R_slice HO1_2.out
     subst eo66
     go_enter Try.func32, Try.ntmps32
     go_wp2_with (first | ((with_reducible refine gate_dst (N := 3) rfl ?_); refine box_event ?hg (N := 3) ?hd (cs := #[.int .i64 a1_0, .string a1_1, .slice Ao66 l1_2.length co66, .bool a1_3]) (t := 25) ?hr ?_; (case hd => rfl); (case hg => rfl); (case hr => first | (go_simp; done) | (go_simp; rfl)); intro gb238 hg w67 hbox hb; have n0_ := Aside0.mk (Kd.R_below zq27 hb); have n1_ := Aside0.mk (IsS98.below zq4 hb); have n2_ := Aside0.mk (Kept.below (S := (fun k_ => (P1_2_ k_) ∨ k_ = g)) zq48 hb); have n3_ := Aside0.mk (below_step zq6 hb); have n4_ := Aside0.mk (hbox); have n5_ := Aside0.mk ((by rw [hg]; exact (by first | exact HK.out.1 | exact (show Kept w _ (fun k_ => (P1_2_ k_) ∨ k_ = g) from zq48).1) : w.heap.size ≤ gb238)); have n6_ := Aside0.mk ((by rw [hg]; exact (below_size zq6) : w0.heap.size ≤ gb238)); have n7_ := Aside0.mk ((by rw [hg]; exact Nat.ne_of_lt (IsS98.lt (show IsS98 w0 _ g s0_0 s0_1 from zq4)) : g ≠ gb238)); have n8_ := Aside0.mk ((by rw [hg]; exact Nat.ne_of_gt (IsS98.lt (show IsS98 w0 _ g s0_0 s0_1 from zq4)) : gb238 ≠ g)); clear HO1_2; clear HI0; clear HK; clear HB; have HO1_2 := n0_; have HI0 := n1_; have HK := n2_; have HB := n3_; have BK238 := n4_; have GW238 := n5_; have GE238 := n6_; have NB0_238 := n7_; have NB238_0 := n8_; clear n0_ n1_ n2_ n3_ n4_ n5_ n6_ n7_ n8_; clear hb hbox hg) | ((with_reducible refine gate_dst (N := 4) rfl ?_); refine box_event ?hg (N := 4) ?hd (cs := #[.int .i64 0, .string (⟨#[]⟩ : ByteArray), .slice none 0 0, .bool false]) (t := 25) ?hr ?_; (case hd => rfl); (case hg => rfl); (case hr => first | (go_simp; done) | (go_simp; rfl)); intro gb239 hg w68 hbox hb; have n0_ := Aside0.mk (Kd.R_below zq27 hb); have n1_ := Aside0.mk (IsS98.below zq32 hb); have n2_ := Aside0.mk (blk_below (g := gb238) (o := .cells #[.int .i64 a1_0, .string a1_1, .slice Ao66 l1_2.length co66, .bool a1_3] 25 (0, 0)) zq21 hb); have n3_ := Aside0.mk (Kept.below (S := (fun k_ => (P1_2_ k_) ∨ k_ = g)) zq39 hb); have n4_ := Aside0.mk (below_step zq43 hb); have n5_ := Aside0.mk (hbox); have n6_ := Aside0.mk ((by rw [hg]; exact (by first | exact HK.out.1 | exact (show Kept w _ (fun k_ => (P1_2_ k_) ∨ k_ = g) from zq39).1) : w.heap.size ≤ gb239)); have n7_ := Aside0.mk ((by rw [hg]; exact (below_size zq43) : w0.heap.size ≤ gb239)); have n8_ := Aside0.mk ((by rw [hg]; exact Nat.ne_of_lt (blk_lt (g := gb238) (o := .cells #[.int .i64 a1_0, .string a1_1, .slice Ao66 l1_2.length co66, .bool a1_3] 25 (0, 0)) zq21) : gb238 ≠ gb239)); have n9_ := Aside0.mk ((by rw [hg]; exact Nat.ne_of_gt (blk_lt (g := gb238) (o := .cells #[.int .i64 a1_0, .string a1_1, .slice Ao66 l1_2.length co66, .bool a1_3] 25 (0, 0)) zq21) : gb239 ≠ gb238)); have n10_ := Aside0.mk ((by rw [hg]; exact Nat.ne_of_lt (IsS98.lt (show IsS98 w0 _ g s0_0 s0_1 from zq32)) : g ≠ gb239)); have n11_ := Aside0.mk ((by rw [hg]; exact Nat.ne_of_gt (IsS98.lt (show IsS98 w0 _ g s0_0 s0_1 from zq32)) : gb239 ≠ g)); clear HO1_2; clear HI0; clear BK238; clear HK; clear HB; have HO1_2 := n0_; have HI0 := n1_; have BK238 := n2_; have HK := n3_; have HB := n4_; have BK239 := n5_; have GW239 := n6_; have GE239 := n7_; have NB238_239 := n8_; have NB239_238 := n9_; have NB0_239 := n10_; have NB239_0 := n11_; clear n0_ n1_ n2_ n3_ n4_ n5_ n6_ n7_ n8_ n9_ n10_ n11_; clear hb hbox hg) | ((with_reducible refine gate_callee (f := 29) rfl ?_); refine goesL_ (some 7) rfl rfl Try.func29 zq19 rfl #[.pointer (some ⟨g, 0, none⟩), .int .i64 5] rfl zq0 ?_; (with_reducible refine (spec_l1Rd_pick.calls k g s0_0 s0_1 5 t240 t241 w0 _ ?side1 ?side2 A3.out).mono ?_); (case side1 => repeat (first | (with_reducible first | exact HI0.out | apply IsS98.alloc | apply IsS98.drewN | apply IsS98.drew | apply IsS98.set_1 | refine IsS98.far ?_ NB0_238.out _ | refine IsS98.far ?_ NB0_239.out _) | exact HI0.out)); (case side2 => repeat (first | (with_reducible first | exact HB.out | apply below_alloc | apply pw_below_drewN | apply below_drew1 | refine below_set ?_ (IsS98.ge HI0.out) | refine below_set ?_ GE238.out | refine below_set ?_ GE239.out) | exact HB.out)); rintro e w69 ⟨rfl, hi, hb, hk⟩; refine ⟨_, rfl, ?_⟩; have n0_ := Aside0.mk (Kd.R_mono (Kd.R_keep (IsS98.apart (show IsS98 w0 _ g s0_0 s0_1 from zq9) zq27 zq60) hk (fun _ h => h.2)) (fun _ h => h.1)); have n1_ := Aside0.mk (KeepBut.blk hk (g' := gb238) (o := .cells #[.int .i64 a1_0, .string a1_1, .slice Ao66 l1_2.length co66, .bool a1_3] 25 (0, 0)) zq21 NB238_0.out zq81); have n2_ := Aside0.mk (KeepBut.blk hk (g' := gb239) (o := .cells #[.int .i64 0, .string (⟨#[]⟩ : ByteArray), .slice none 0 0, .bool false] 25 (0, 0)) zq35 NB239_0.out zq81); have n3_ := Aside0.mk (Kept.of_keep (S := (fun k_ => (P1_2_ k_) ∨ k_ = g)) zq5 hk (.inl (.inr rfl))); have n4_ := Aside0.mk (hb); have n5_ := Aside0.mk (hi); clear HO1_2; clear BK238; clear BK239; clear HK; clear HB; clear HI0; have HO1_2 := n0_; have BK238 := n1_; have BK239 := n2_; have HK := n3_; have HB := n4_; have HI0 := n5_; clear n0_ n1_ n2_ n3_ n4_ n5_; (try clear hb); (try clear hb2); (try clear hk); (try clear hi); have hnb70 := NB238_239.out; have hnc70 := NB239_238.out; have hnb71 := NB238_0.out; have hnc71 := NB0_238.out; have hcz72_0 : w69.cell? ⟨gb238, 0, none⟩ = some (.int .i64 a1_0) := (blk_cell BK238.out 0).trans rfl; have hcz72_1 : w69.cell? ⟨gb238, 1, none⟩ = some (.string a1_1) := (blk_cell BK238.out 1).trans rfl; have hcz72_2 : w69.cell? ⟨gb238, 2, none⟩ = some (.slice Ao66 l1_2.length co66) := (blk_cell BK238.out 2).trans rfl; have hcz72_3 : w69.cell? ⟨gb238, 3, none⟩ = some (.bool a1_3) := (blk_cell BK238.out 3).trans rfl; have hfz72_0 := blk_frozen BK238.out 0; have hfz72_1 := blk_frozen BK238.out 1; have hfz72_2 := blk_frozen BK238.out 2; have hfz72_3 := blk_frozen BK238.out 3; have hnb73 := NB239_0.out; have hnc73 := NB0_239.out; have hcz74_0 : w69.cell? ⟨gb239, 0, none⟩ = some (.int .i64 0) := (blk_cell BK239.out 0).trans rfl; have hcz74_1 : w69.cell? ⟨gb239, 1, none⟩ = some (.string (⟨#[]⟩ : ByteArray)) := (blk_cell BK239.out 1).trans rfl; have hcz74_2 : w69.cell? ⟨gb239, 2, none⟩ = some (.slice none 0 0) := (blk_cell BK239.out 2).trans rfl; have hcz74_3 : w69.cell? ⟨gb239, 3, none⟩ = some (.bool false) := (blk_cell BK239.out 3).trans rfl; have hfz74_0 := blk_frozen BK239.out 0; have hfz74_1 := blk_frozen BK239.out 1; have hfz74_2 := blk_frozen BK239.out 2; have hfz74_3 := blk_frozen BK239.out 3))
     refine bodyPost_ret (results_cell_row rfl _ _ gb239 25 #[.int .i64 a1_0, .string a1_1, .slice Ao66 l1_2.length co66, .bool (!a1_3)] (0, 0) _ rfl (by (with_reducible repeat (first | refine blk_drewN ?_ _ | refine blk_drew ?_ | refine blk_alloc ?_ _)); refine blk_put (cs := #[.int .i64 a1_0, .string a1_1, .slice Ao66 l1_2.length co66, .bool false]) ?_ 3 _ rfl; (with_reducible repeat (first | refine blk_drewN ?_ _ | refine blk_drew ?_ | refine blk_alloc ?_ _)); refine blk_put (cs := #[.int .i64 a1_0, .string a1_1, .slice none 0 0, .bool false]) ?_ 2 _ rfl; (with_reducible repeat (first | refine blk_drewN ?_ _ | refine blk_drew ?_ | refine blk_alloc ?_ _)); refine blk_put (cs := #[.int .i64 a1_0, .string (⟨#[]⟩ : ByteArray), .slice none 0 0, .bool false]) ?_ 1 _ rfl; (with_reducible repeat (first | refine blk_drewN ?_ _ | refine blk_drew ?_ | refine blk_alloc ?_ _)); refine blk_put (cs := #[.int .i64 0, .string (⟨#[]⟩ : ByteArray), .slice none 0 0, .bool false]) ?_ 0 _ rfl; (with_reducible repeat (first | refine blk_drewN ?_ _ | refine blk_drew ?_ | refine blk_alloc ?_ _)); refine blk_far ?_ NB239_238.out _; (with_reducible repeat (first | refine blk_drewN ?_ _ | refine blk_drew ?_ | refine blk_alloc ?_ _)); exact BK239.out) Try.underlying25 rfl zq19) rfl ?_
     exact ⟨_, zq8, by (with_reducible repeat (first | apply Kd.R_alloc | apply Kd.R_drewN | apply Kd.R_drew)); exact Kd.R_mono (Kd.R_far (p := ⟨gb239, 3, none⟩) (Kd.R_far (p := ⟨gb239, 2, none⟩) (Kd.R_far (p := ⟨gb239, 1, none⟩) (Kd.R_far (p := ⟨gb239, 0, none⟩) (Kd.R_far (p := ⟨gb238, 3, none⟩) (Kd.R_types (Kd.R_types HO1_2.out BK238.out zq60) BK239.out zq60) (fun _ hk => hk.1.2) (.bool (!a1_3))) (fun _ hk => hk.2) (.int .i64 a1_0)) (fun _ hk => hk.2) (.string a1_1)) (fun _ hk => hk.2) (.slice Ao66 l1_2.length co66)) (fun _ hk => hk.2) (.bool (!a1_3))) (fun _ hk => hk.1.1), zq9, zq14, zq5⟩
    ·rw [if_neg c65] at H
     have c65b0 : (t240 == 3) = false := beq_eq_false_iff_ne.mpr c65
     have c65b1 : (t240 != 3) = true := bne_iff_ne.mpr c65
     replace H := Option.bind_eq_some_iff.mp H
     obtain ⟨⟨t266, t267⟩, A750, H⟩ := H
     try dsimp only at H
     have A75 := Aside0.mk A750
     clear A750
     have H' := Aside0.mk H
     clear H
     obtain ⟨Ao76, co76, eo76⟩ := Kd.R_slice HO1_2.out
     subst eo76
     go_enter Try.func32, Try.ntmps32
     go_wp2_with (first | ((with_reducible refine gate_dst (N := 3) rfl ?_); refine box_event ?hg (N := 3) ?hd (cs := #[.int .i64 a1_0, .string a1_1, .slice Ao76 l1_2.length co76, .bool a1_3]) (t := 25) ?hr ?_; (case hd => rfl); (case hg => rfl); (case hr => first | (go_simp; done) | (go_simp; rfl)); intro gb238 hg w77 hbox hb; have n0_ := Aside0.mk (Kd.R_below zq27 hb); have n1_ := Aside0.mk (IsS98.below zq4 hb); have n2_ := Aside0.mk (Kept.below (S := (fun k_ => (P1_2_ k_) ∨ k_ = g)) zq48 hb); have n3_ := Aside0.mk (below_step zq6 hb); have n4_ := Aside0.mk (hbox); have n5_ := Aside0.mk ((by rw [hg]; exact (by first | exact HK.out.1 | exact (show Kept w _ (fun k_ => (P1_2_ k_) ∨ k_ = g) from zq48).1) : w.heap.size ≤ gb238)); have n6_ := Aside0.mk ((by rw [hg]; exact (below_size zq6) : w0.heap.size ≤ gb238)); have n7_ := Aside0.mk ((by rw [hg]; exact Nat.ne_of_lt (IsS98.lt (show IsS98 w0 _ g s0_0 s0_1 from zq4)) : g ≠ gb238)); have n8_ := Aside0.mk ((by rw [hg]; exact Nat.ne_of_gt (IsS98.lt (show IsS98 w0 _ g s0_0 s0_1 from zq4)) : gb238 ≠ g)); clear HO1_2; clear HI0; clear HK; clear HB; have HO1_2 := n0_; have HI0 := n1_; have HK := n2_; have HB := n3_; have BK238 := n4_; have GW238 := n5_; have GE238 := n6_; have NB0_238 := n7_; have NB238_0 := n8_; clear n0_ n1_ n2_ n3_ n4_ n5_ n6_ n7_ n8_; clear hb hbox hg) | ((with_reducible refine gate_dst (N := 4) rfl ?_); refine box_event ?hg (N := 4) ?hd (cs := #[.int .i64 0, .string (⟨#[]⟩ : ByteArray), .slice none 0 0, .bool false]) (t := 25) ?hr ?_; (case hd => rfl); (case hg => rfl); (case hr => first | (go_simp; done) | (go_simp; rfl)); intro gb239 hg w78 hbox hb; have n0_ := Aside0.mk (Kd.R_below zq27 hb); have n1_ := Aside0.mk (IsS98.below zq32 hb); have n2_ := Aside0.mk (blk_below (g := gb238) (o := .cells #[.int .i64 a1_0, .string a1_1, .slice Ao76 l1_2.length co76, .bool a1_3] 25 (0, 0)) zq21 hb); have n3_ := Aside0.mk (Kept.below (S := (fun k_ => (P1_2_ k_) ∨ k_ = g)) zq39 hb); have n4_ := Aside0.mk (below_step zq43 hb); have n5_ := Aside0.mk (hbox); have n6_ := Aside0.mk ((by rw [hg]; exact (by first | exact HK.out.1 | exact (show Kept w _ (fun k_ => (P1_2_ k_) ∨ k_ = g) from zq39).1) : w.heap.size ≤ gb239)); have n7_ := Aside0.mk ((by rw [hg]; exact (below_size zq43) : w0.heap.size ≤ gb239)); have n8_ := Aside0.mk ((by rw [hg]; exact Nat.ne_of_lt (blk_lt (g := gb238) (o := .cells #[.int .i64 a1_0, .string a1_1, .slice Ao76 l1_2.length co76, .bool a1_3] 25 (0, 0)) zq21) : gb238 ≠ gb239)); have n9_ := Aside0.mk ((by rw [hg]; exact Nat.ne_of_gt (blk_lt (g := gb238) (o := .cells #[.int .i64 a1_0, .string a1_1, .slice Ao76 l1_2.length co76, .bool a1_3] 25 (0, 0)) zq21) : gb239 ≠ gb238)); have n10_ := Aside0.mk ((by rw [hg]; exact Nat.ne_of_lt (IsS98.lt (show IsS98 w0 _ g s0_0 s0_1 from zq32)) : g ≠ gb239)); have n11_ := Aside0.mk ((by rw [hg]; exact Nat.ne_of_gt (IsS98.lt (show IsS98 w0 _ g s0_0 s0_1 from zq32)) : gb239 ≠ g)); clear HO1_2; clear HI0; clear BK238; clear HK; clear HB; have HO1_2 := n0_; have HI0 := n1_; have BK238 := n2_; have HK := n3_; have HB := n4_; have BK239 := n5_; have GW239 := n6_; have GE239 := n7_; have NB238_239 := n8_; have NB239_238 := n9_; have NB0_239 := n10_; have NB239_0 := n11_; clear n0_ n1_ n2_ n3_ n4_ n5_ n6_ n7_ n8_ n9_ n10_ n11_; clear hb hbox hg) | ((with_reducible refine gate_callee (f := 29) rfl ?_); refine goesL_ (some 7) rfl rfl Try.func29 zq19 rfl #[.pointer (some ⟨g, 0, none⟩), .int .i64 5] rfl zq0 ?_; (with_reducible refine (spec_l1Rd_pick.calls k g s0_0 s0_1 5 t240 t241 w0 _ ?side1 ?side2 A3.out).mono ?_); (case side1 => repeat (first | (with_reducible first | exact HI0.out | apply IsS98.alloc | apply IsS98.drewN | apply IsS98.drew | apply IsS98.set_1 | refine IsS98.far ?_ NB0_238.out _ | refine IsS98.far ?_ NB0_239.out _) | exact HI0.out)); (case side2 => repeat (first | (with_reducible first | exact HB.out | apply below_alloc | apply pw_below_drewN | apply below_drew1 | refine below_set ?_ (IsS98.ge HI0.out) | refine below_set ?_ GE238.out | refine below_set ?_ GE239.out) | exact HB.out)); rintro e w79 ⟨rfl, hi, hb, hk⟩; refine ⟨_, rfl, ?_⟩; have n0_ := Aside0.mk (Kd.R_mono (Kd.R_keep (IsS98.apart (show IsS98 w0 _ g s0_0 s0_1 from zq9) zq27 zq60) hk (fun _ h => h.2)) (fun _ h => h.1)); have n1_ := Aside0.mk (KeepBut.blk hk (g' := gb238) (o := .cells #[.int .i64 a1_0, .string a1_1, .slice Ao76 l1_2.length co76, .bool a1_3] 25 (0, 0)) zq21 NB238_0.out zq81); have n2_ := Aside0.mk (KeepBut.blk hk (g' := gb239) (o := .cells #[.int .i64 0, .string (⟨#[]⟩ : ByteArray), .slice none 0 0, .bool false] 25 (0, 0)) zq35 NB239_0.out zq81); have n3_ := Aside0.mk (Kept.of_keep (S := (fun k_ => (P1_2_ k_) ∨ k_ = g)) zq5 hk (.inl (.inr rfl))); have n4_ := Aside0.mk (hb); have n5_ := Aside0.mk (hi); clear HO1_2; clear BK238; clear BK239; clear HK; clear HB; clear HI0; have HO1_2 := n0_; have BK238 := n1_; have BK239 := n2_; have HK := n3_; have HB := n4_; have HI0 := n5_; clear n0_ n1_ n2_ n3_ n4_ n5_; (try clear hb); (try clear hb2); (try clear hk); (try clear hi)) | ((with_reducible refine gate_callee (f := 29) rfl ?_); refine goesL_ (some 9) rfl rfl Try.func29 zq19 rfl #[.pointer (some ⟨g, 0, none⟩), .int .i64 2] rfl zq0 ?_; (with_reducible refine (spec_l1Rd_pick.calls k g s0_0 t241 2 t266 t267 w0 _ ?side1 ?side2 A75.out).mono ?_); (case side1 => repeat (first | (with_reducible first | exact HI0.out | apply IsS98.alloc | apply IsS98.drewN | apply IsS98.drew | apply IsS98.set_1 | refine IsS98.far ?_ NB0_238.out _ | refine IsS98.far ?_ NB0_239.out _) | exact HI0.out)); (case side2 => repeat (first | (with_reducible first | exact HB.out | apply below_alloc | apply pw_below_drewN | apply below_drew1 | refine below_set ?_ (IsS98.ge HI0.out) | refine below_set ?_ GE238.out | refine below_set ?_ GE239.out) | exact HB.out)); rintro e w80 ⟨rfl, hi, hb, hk⟩; refine ⟨_, rfl, ?_⟩; have n0_ := Aside0.mk (Kd.R_mono (Kd.R_keep (IsS98.apart (show IsS98 w0 _ g s0_0 t241 from zq9) zq27 zq60) hk (fun _ h => h.2)) (fun _ h => h.1)); have n1_ := Aside0.mk (KeepBut.blk hk (g' := gb238) (o := .cells #[.int .i64 a1_0, .string a1_1, .slice Ao76 l1_2.length co76, .bool a1_3] 25 (0, 0)) zq21 NB238_0.out zq81); have n2_ := Aside0.mk (KeepBut.blk hk (g' := gb239) (o := .cells #[.int .i64 0, .string (⟨#[]⟩ : ByteArray), .slice none 0 0, .bool false] 25 (0, 0)) zq35 NB239_0.out zq81); have n3_ := Aside0.mk (Kept.of_keep (S := (fun k_ => (P1_2_ k_) ∨ k_ = g)) zq5 hk (.inl (.inr rfl))); have n4_ := Aside0.mk (hb); have n5_ := Aside0.mk (hi); clear HO1_2; clear BK238; clear BK239; clear HK; clear HB; clear HI0; have HO1_2 := n0_; have BK238 := n1_; have BK239 := n2_; have HK := n3_; have HB := n4_; have HI0 := n5_; clear n0_ n1_ n2_ n3_ n4_ n5_; (try clear hb); (try clear hb2); (try clear hk); (try clear hi)))
     go_loopg [] k (fun kq w' => ∃ (x239002_1 : List ByteArray) (u239002 : Value), Aside0 (spec_l3Spoil.l0 kq (wrap64 (500 + t266)) s0_0 t267 a1_0 a1_1 x239002_1 a1_3 = some (r1, r2, r3, r4, r5)) ∧ Aside0 (kq ≤ k) ∧ Aside0 (Kd.R Kd.string 9 w' w0.heap.size (fun k_ => (P1_2_ k_ ∨ w.heap.size ≤ k_)) u239002 x239002_1) ∧ Aside0 (w'.heap[gb238]? = some (.cells #[.int .i64 a1_0, .string a1_1, u239002, .bool a1_3] 25 (0, 0))) ∧ Aside0 (w'.heap[gb239]? = some (.cells #[.int .i64 0, .string (⟨#[]⟩ : ByteArray), (.slice none 0 0), .bool false] 25 (0, 0))) ∧ Aside0 (IsS98 w0 w' g s0_0 t267) ∧ Aside0 (Kept w w' (fun k_ => (P1_2_ k_) ∨ k_ = g)) ∧ Aside0 (Below w0.heap.size w0 w'))
     case atStart => exact ⟨(l1_2), (.slice Ao76 l1_2.length co76), H', ⟨Nat.le_refl _⟩, ⟨zq27⟩, ⟨zq21⟩, ⟨zq35⟩, ⟨zq9⟩, ⟨zq5⟩, ⟨zq14⟩⟩
     case round =>
      clear H'
      try clear c1
      try clear c2
      try clear p2
      try clear q2
      try clear hx2
      try clear qi2
      try clear c3
      try clear c4
      try clear c4b0
      try clear c4b1
      try clear c6
      try clear p6
      try clear c7
      try clear c11
      try clear c12
      try clear c14
      try clear c16
      try clear c16b0
      try clear c16b1
      try clear c19
      try clear c19b0
      try clear c20
      try clear c20b0
      try clear p25
      try clear q25
      try clear hx25
      try clear p26
      try clear q26
      try clear hx26
      try clear qi26
      try clear c29
      try clear c32
      try clear c33
      try clear c34
      try clear c36
      try clear c38
      try clear c38b0
      try clear c38b1
      try clear c42
      try clear c42b0
      try clear c43
      try clear c43b0
      try clear c44
      try clear c60
      try clear c61
      try clear c63
      try clear p64
      try clear c65
      try clear c65b0
      try clear c65b1
      try clear c70
      try clear c71
      try clear c73
      try clear hcz13_0
      try clear hcz13_1
      try clear hcz13_2
      try clear hcz13_3
      try clear hcz15_0
      try clear hcz15_1
      try clear hcz15_2
      try clear hcz15_3
      try clear hcz35_0
      try clear hcz35_1
      try clear hcz35_2
      try clear hcz35_3
      try clear hcz37_0
      try clear hcz37_1
      try clear hcz37_2
      try clear hcz37_3
      try clear hcz62_0
      try clear hcz62_1
      try clear hcz62_2
      try clear hcz62_3
      try clear hcz64_0
      try clear hcz64_1
      try clear hcz64_2
      try clear hcz64_3
      try clear hcz72_0
      try clear hcz72_1
      try clear hcz72_2
      try clear hcz72_3
      try clear hcz74_0
      try clear hcz74_1
      try clear hcz74_2
      try clear hcz74_3
      try clear hfz13_0
      try clear hfz13_1
      try clear hfz13_2
      try clear hfz13_3
      try clear hfz15_0
      try clear hfz15_1
      try clear hfz15_2
      try clear hfz15_3
      try clear hfz35_0
      try clear hfz35_1
      try clear hfz35_2
      try clear hfz35_3
      try clear hfz37_0
      try clear hfz37_1
      try clear hfz37_2
      try clear hfz37_3
      try clear hfz62_0
      try clear hfz62_1
      try clear hfz62_2
      try clear hfz62_3
      try clear hfz64_0
      try clear hfz64_1
      try clear hfz64_2
      try clear hfz64_3
      try clear hfz72_0
      try clear hfz72_1
      try clear hfz72_2
      try clear hfz72_3
      try clear hfz74_0
      try clear hfz74_1
      try clear hfz74_2
      try clear hfz74_3
      try clear hx253_0
      try clear hx262_0
      try clear p253
      try clear p262
      try clear q253
      try clear q262
      obtain ⟨x239002_1, u239002, HA, HK1, HO_239002, BK238, BK239, HI0, HK, HB⟩ := hrel
      cases gk with
      | zero => exact absurd HA.out (by simp [spec_l3Spoil.l0])
      | succ k1 =>
       have H := HA.out
       clear HA
       simp only [spec_l3Spoil.l0] at H
       by_cases c81 : (x239002_1.length : Int) < (wrap64 (500 + t266))
       ·rw [if_pos c81] at H
        have c81b0 : decide ((x239002_1.length : Int) < (wrap64 (500 + t266))) = true := decide_eq_true c81
        clear c81
        by_cases c82 : x239002_1.length < 8796093022208
        ·rw [if_pos c82] at H
         have LMc82 := Aside0.mk c82
         clear c82
         obtain ⟨y268, hy268⟩ : ∃ y_ : List ByteArray, y_ = (x239002_1 ++ [(⟨#[102]⟩ : ByteArray)]) := ⟨_, rfl⟩
         replace H : (spec_l3Spoil.l0 k1 (wrap64 (500 + t266)) s0_0 t267 a1_0 a1_1 y268 a1_3) = some (r1, r2, r3, r4, r5) := by first | (rw [hy268]; with_reducible exact H) | (have H2_ := (Option.bind_some _ _).symm.trans H; rw [hy268]; with_reducible exact H2_) | (have H2_ := (Option.bind_some _ _).symm.trans H; with_reducible exact H2_) | with_reducible exact H | (rw [hy268]; exact H) | exact H
         have Ny268 := Aside0.mk hy268
         clear hy268
         have H' := Aside0.mk H
         clear H
         have hnb83 := NB238_239.out
         have hnc83 := NB239_238.out
         have hnb84 := NB238_0.out
         have hnc84 := NB0_238.out
         have hcz85_0 : wr.cell? ⟨gb238, 0, none⟩ = some (.int .i64 a1_0) := (blk_cell BK238.out 0).trans rfl
         have hcz85_1 : wr.cell? ⟨gb238, 1, none⟩ = some (.string a1_1) := (blk_cell BK238.out 1).trans rfl
         have hcz85_2 : wr.cell? ⟨gb238, 2, none⟩ = some (u239002) := (blk_cell BK238.out 2).trans rfl
         have hcz85_3 : wr.cell? ⟨gb238, 3, none⟩ = some (.bool a1_3) := (blk_cell BK238.out 3).trans rfl
         have hfz85_0 := blk_frozen BK238.out 0
         have hfz85_1 := blk_frozen BK238.out 1
         have hfz85_2 := blk_frozen BK238.out 2
         have hfz85_3 := blk_frozen BK238.out 3
         obtain ⟨Ao86, co86, eo86⟩ := Kd.R_slice HO_239002.out
         subst eo86
         go_wp2_with (first | ((with_reducible refine gate_builtin (b := .append) (xs := #[.tmp 17, .tmp 18]) rfl ?_); at_builtin; refine Kd.R_append Kd.string (w0 := w0) w0.heap.size rfl (.tmp 17) (.tmp 18) 23 9 (.string ⟨#[]⟩) 16 rfl Try.underlying23 info9 rfl zq60 zq99 (.slice Ao86 x239002_1.length co86) x239002_1 (⟨#[102]⟩ : ByteArray) [.string (⟨#[102]⟩ : ByteArray)] (fun k_ => (P1_2_ k_ ∨ w.heap.size ≤ k_)) (fun _ => False) rfl rfl ?aP (fun _ hk => hk.elim) ?aF ?aO ?aB ?aS ?aL ?_; (case aP => exact rfl); (case aB => exact zq14); (case aF => exact (fun k_ hk => (.inr (Nat.le_trans (by first | exact HK.out.1 | exact (show Kept w _ (fun k_ => (P1_2_ k_) ∨ k_ = g) from zq5).1) hk)))); (case aO => exact (by (with_reducible repeat (first | apply Kd.R_alloc | apply Kd.R_drewN | apply Kd.R_drew)); exact HO_239002.out)); (case aS => exact (below_size zq14)); (case aL => have := LMc82.out; omega); intro v269 w87 ho hb hg hat; rw [← Ny268.out] at ho; have n0_ := Aside0.mk (blk_grown (g := gb238) (o := .cells #[.int .i64 a1_0, .string a1_1, .slice Ao86 x239002_1.length co86, .bool a1_3] 25 (0, 0)) zq21 hg (Kd.R_ne HO_239002.out BK238.out zq60)); have n1_ := Aside0.mk (blk_grown (g := gb239) (o := .cells #[.int .i64 0, .string (⟨#[]⟩ : ByteArray), .slice none 0 0, .bool false] 25 (0, 0)) zq35 hg (Kd.R_ne HO_239002.out BK239.out zq60)); have n2_ := Aside0.mk (IsS98.grown zq9 hg (IsS98.own_ne HI0.out HO_239002.out zq60)); have n3_ := Aside0.mk (hb); have n4_ := Aside0.mk (Kept.of_grown (S := (fun k_ => (P1_2_ k_) ∨ k_ = g)) hg zq5 (fun k_ e_ => Or.imp_left Or.inl ((HO_239002.out.1 k_ e_)))); have n5_ := Aside0.mk (ho); clear BK238; clear BK239; clear HI0; clear HB; clear HK; clear HO_239002; have BK238 := n0_; have BK239 := n1_; have HI0 := n2_; have HB := n3_; have HK := n4_; have HO270 := n5_; clear n0_ n1_ n2_ n3_ n4_ n5_; clear ho hb hg hat; obtain ⟨Ao88, co88, eo88⟩ := Kd.R_slice HO270.out; subst eo88; have hcz89_0 : w87.cell? ⟨gb238, 0, none⟩ = some (.int .i64 a1_0) := (blk_cell BK238.out 0).trans rfl; have hcz89_1 : w87.cell? ⟨gb238, 1, none⟩ = some (.string a1_1) := (blk_cell BK238.out 1).trans rfl; have hcz89_2 : w87.cell? ⟨gb238, 2, none⟩ = some (.slice Ao86 x239002_1.length co86) := (blk_cell BK238.out 2).trans rfl; have hcz89_3 : w87.cell? ⟨gb238, 3, none⟩ = some (.bool a1_3) := (blk_cell BK238.out 3).trans rfl; have hfz89_0 := blk_frozen BK238.out 0; have hfz89_1 := blk_frozen BK238.out 1; have hfz89_2 := blk_frozen BK238.out 2; have hfz89_3 := blk_frozen BK238.out 3))
         go_roundg k1
         case measure => have := HK1.out; omega
         case rel => exact ⟨(y268), (.slice Ao88 y268.length co88), H', ⟨zq88⟩, ⟨by (with_reducible repeat (first | apply Kd.R_alloc | apply Kd.R_drewN | apply Kd.R_drew)); exact Kd.R_mono (Kd.R_far (p := ⟨gb238, 2, none⟩) (Kd.R_types HO270.out BK238.out zq60) (fun _ hk => hk.2) (.slice Ao88 y268.length co88)) (fun _ hk => hk.1)⟩, ⟨by (with_reducible repeat (first | refine blk_drewN ?_ _ | refine blk_drew ?_ | refine blk_alloc ?_ _)); refine blk_put (cs := #[.int .i64 a1_0, .string a1_1, .slice Ao86 x239002_1.length co86, .bool a1_3]) ?_ 2 _ rfl; (with_reducible repeat (first | refine blk_drewN ?_ _ | refine blk_drew ?_ | refine blk_alloc ?_ _)); exact BK238.out⟩, ⟨by (with_reducible repeat (first | refine blk_drewN ?_ _ | refine blk_drew ?_ | refine blk_alloc ?_ _)); refine blk_far ?_ NB239_238.out _; (with_reducible repeat (first | refine blk_drewN ?_ _ | refine blk_drew ?_ | refine blk_alloc ?_ _)); exact BK239.out⟩, ⟨zq9⟩, ⟨zq5⟩, ⟨zq14⟩⟩
        ·rw [if_neg c82] at H
         exact absurd H zq81
       ·rw [if_neg c81] at H
        have c81b0 : decide ((x239002_1.length : Int) < (wrap64 (500 + t266))) = false := decide_eq_false c81
        clear c81
        simp only [Option.some.injEq, Prod.mk.injEq] at H
        obtain ⟨rfl, rfl, rfl, rfl, rfl⟩ := H
        have hnb90 := NB238_239.out
        have hnc90 := NB239_238.out
        have hnb91 := NB238_0.out
        have hnc91 := NB0_238.out
        have hcz92_0 : wr.cell? ⟨gb238, 0, none⟩ = some (.int .i64 a1_0) := (blk_cell BK238.out 0).trans rfl
        have hcz92_1 : wr.cell? ⟨gb238, 1, none⟩ = some (.string a1_1) := (blk_cell BK238.out 1).trans rfl
        have hcz92_2 : wr.cell? ⟨gb238, 2, none⟩ = some (u239002) := (blk_cell BK238.out 2).trans rfl
        have hcz92_3 : wr.cell? ⟨gb238, 3, none⟩ = some (.bool a1_3) := (blk_cell BK238.out 3).trans rfl
        have hfz92_0 := blk_frozen BK238.out 0
        have hfz92_1 := blk_frozen BK238.out 1
        have hfz92_2 := blk_frozen BK238.out 2
        have hfz92_3 := blk_frozen BK238.out 3
        obtain ⟨Ao93, co93, eo93⟩ := Kd.R_slice HO_239002.out
        subst eo93
        have hnb94 := NB239_0.out
        have hnc94 := NB0_239.out
        have hcz95_0 : wr.cell? ⟨gb239, 0, none⟩ = some (.int .i64 0) := (blk_cell BK239.out 0).trans rfl
        have hcz95_1 : wr.cell? ⟨gb239, 1, none⟩ = some (.string (⟨#[]⟩ : ByteArray)) := (blk_cell BK239.out 1).trans rfl
        have hcz95_2 : wr.cell? ⟨gb239, 2, none⟩ = some (.slice none 0 0) := (blk_cell BK239.out 2).trans rfl
        have hcz95_3 : wr.cell? ⟨gb239, 3, none⟩ = some (.bool false) := (blk_cell BK239.out 3).trans rfl
        have hfz95_0 := blk_frozen BK239.out 0
        have hfz95_1 := blk_frozen BK239.out 1
        have hfz95_2 := blk_frozen BK239.out 2
        have hfz95_3 := blk_frozen BK239.out 3
        go_wp2
        refine bodyPost_ret (results_cell_row rfl _ _ gb239 25 #[.int .i64 a1_0, .string a1_1, .slice Ao93 x239002_1.length co93, .bool a1_3] (0, 0) _ rfl (by (with_reducible repeat (first | refine blk_drewN ?_ _ | refine blk_drew ?_ | refine blk_alloc ?_ _)); refine blk_put (cs := #[.int .i64 a1_0, .string a1_1, .slice Ao93 x239002_1.length co93, .bool false]) ?_ 3 _ rfl; (with_reducible repeat (first | refine blk_drewN ?_ _ | refine blk_drew ?_ | refine blk_alloc ?_ _)); refine blk_put (cs := #[.int .i64 a1_0, .string a1_1, .slice none 0 0, .bool false]) ?_ 2 _ rfl; (with_reducible repeat (first | refine blk_drewN ?_ _ | refine blk_drew ?_ | refine blk_alloc ?_ _)); refine blk_put (cs := #[.int .i64 a1_0, .string (⟨#[]⟩ : ByteArray), .slice none 0 0, .bool false]) ?_ 1 _ rfl; (with_reducible repeat (first | refine blk_drewN ?_ _ | refine blk_drew ?_ | refine blk_alloc ?_ _)); refine blk_put (cs := #[.int .i64 0, .string (⟨#[]⟩ : ByteArray), .slice none 0 0, .bool false]) ?_ 0 _ rfl; (with_reducible repeat (first | refine blk_drewN ?_ _ | refine blk_drew ?_ | refine blk_alloc ?_ _)); exact BK239.out) Try.underlying25 rfl zq19) rfl ?_
        exact ⟨_, zq8, by (with_reducible repeat (first | apply Kd.R_alloc | apply Kd.R_drewN | apply Kd.R_drew)); exact Kd.R_mono (Kd.R_far (p := ⟨gb239, 3, none⟩) (Kd.R_far (p := ⟨gb239, 2, none⟩) (Kd.R_far (p := ⟨gb239, 1, none⟩) (Kd.R_far (p := ⟨gb239, 0, none⟩) (Kd.R_types HO_239002.out BK239.out zq60) (fun _ hk => hk.2) (.int .i64 a1_0)) (fun _ hk => hk.2) (.string a1_1)) (fun _ hk => hk.2) (.slice Ao93 x239002_1.length co93)) (fun _ hk => hk.2) (.bool a1_3)) (fun _ hk => hk.1), zq9, zq14, zq5⟩
end Go.Proofs.Ytgjipjffpodjlaa.K
namespace Go.Proofs.Ytgjipjffpodjlaa.K
open Go.RowKit Go.Proofs.YtgjipjffpodjlaaW.PrintWords Go.Proofs.YtgjipjffpodjlaaW.PrintLast Go.Proofs.YtgjipjffpodjlaaW.PrintMore
attribute [local go_sem] max2_int min2_int max_two min_two max_three min_three max_four min_four   
set_option linter.unusedVariables false
set_option linter.unusedSimpArgs false
mutual
def spec_DrawFeed.j0 : Nat → ByteArray → List Int → Int → Int → ByteArray → List ByteArray → Bool → Option (Int × ByteArray × List ByteArray × Bool × ByteArray)
 | 0, _, _, _, _, _, _, _ => none
 | k + 1, x6, x275000, x275001, x283000, x283001, x283002, x283003 => (spec_l1Rd_pick.f k x275000 x275001 10).bind fun bt304 => (if bt304.1 = 0 then ((spec_Sum.f k (⟨#[97]⟩ : ByteArray) x283000).bind fun t306 => (if 3 + t306.size ≤ 9223372036854775807 then (if ((⟨#[129, 0, 97]⟩ : ByteArray) ++ t306).size + x6.size ≤ 9223372036854775807 then (spec_DrawFeed.j1 k (((⟨#[129, 0, 97]⟩ : ByteArray) ++ t306) ++ x6) x275000 bt304.2 x283000 x283001 x283002 x283003) else (none)) else (none))) else (spec_DrawFeed.j1 k x6 x275000 bt304.2 x283000 x283001 x283002 x283003))
def spec_DrawFeed.j1 : Nat → ByteArray → List Int → Int → Int → ByteArray → List ByteArray → Bool → Option (Int × ByteArray × List ByteArray × Bool × ByteArray)
 | 0, _, _, _, _, _, _, _ => none
 | k + 1, x6, x275000, x275001, x283000, x283001, x283002, x283003 => (spec_l1Rd_pick.f k x275000 x275001 8).bind fun bt307 => (if bt307.1 = 0 then ((spec_l3Spoil.f k x275000 bt307.2 x283000 x283001 x283002 x283003).bind fun bt309 => (some (bt309.1, bt309.2.1, bt309.2.2.1, bt309.2.2.2.1, x6))) else (some (x283000, x283001, x283002, x283003, x6)))
end
def spec_DrawFeed.f (k : Nat) (l0 : List Int) : Option (Int × ByteArray × List ByteArray × Bool × ByteArray) := (spec_l1Open.f l0).bind fun bt272 => ((spec_l3Draw.f k bt272.1 bt272.2).bind fun bt275 => ((spec_l3Payloads.f k bt272.1 bt275.2.2.2.2).bind fun bt283 => ((spec_Encode.f k bt283.1 bt275.1).bind fun t287 => ((spec_l1Rd_pick.f k bt272.1 bt283.2 6).bind fun bt288 => (if bt288.1 = 0 then ((spec_l1Bend.f k bt272.1 bt288.2 t287).bind fun bt290 => (spec_DrawFeed.j0 k bt290.1 bt272.1 bt290.2 bt275.1 bt275.2.1 bt275.2.2.1 bt275.2.2.2.1)) else (if bt288.1 = 1 then ((spec_Encode.f k (([(⟨#[97, 32, 102, 114, 97, 109, 101, 32, 105, 110, 32, 116, 119, 111, 32, 112, 105, 101, 99, 101, 115]⟩ : ByteArray)] : List ByteArray)) bt275.1).bind fun t295 => ((spec_l1Rd_pick.f k bt272.1 bt288.2 (wrap64 ((t295.size : Int) + 1))).bind fun bt296 => (if 0 ≤ bt296.1 then (if bt296.1 ≤ (t295.size : Int) then ((spec_Feed.f k bt275.1 (⟨#[]⟩ : ByteArray) ([] : List ByteArray) false (t295.extract 0 (bt296.1 : Int).toNat)).bind fun bt298 => (if (t295.extract (bt296.1 : Int).toNat t295.size).size + t287.size ≤ 9223372036854775807 then (spec_DrawFeed.j0 k ((t295.extract (bt296.1 : Int).toNat t295.size) ++ t287) bt272.1 bt296.2 bt298.1 bt298.2.1 bt298.2.2.1 bt298.2.2.2) else (none))) else (none)) else (none)))) else (spec_DrawFeed.j0 k t287 bt272.1 bt288.2 bt275.1 bt275.2.1 bt275.2.2.1 bt275.2.2.2.1)))))))
theorem spec_DrawFeed.mono_l : ∀ k, (∀ y0 y1 y2 y3 y4 y5 y6, LeO (spec_DrawFeed.j0 k y0 y1 y2 y3 y4 y5 y6) (spec_DrawFeed.j0 (k + 1) y0 y1 y2 y3 y4 y5 y6)) ∧ (∀ y0 y1 y2 y3 y4 y5 y6, LeO (spec_DrawFeed.j1 k y0 y1 y2 y3 y4 y5 y6) (spec_DrawFeed.j1 (k + 1) y0 y1 y2 y3 y4 y5 y6))
 | 0 => ⟨fun _ _ _ _ _ _ _ r h => by simp [spec_DrawFeed.j0] at h, fun _ _ _ _ _ _ _ r h => by simp [spec_DrawFeed.j1] at h⟩
 | k + 1 => by
  obtain ⟨ih0, ih1⟩ := spec_DrawFeed.mono_l k
  refine ⟨?_, ?_⟩
  ·intro y0 y1 y2 y3 y4 y5 y6
   unfold spec_DrawFeed.j0
   repeat' first
   | (with_reducible exact ih0 _ _ _ _ _ _ _)
   | (with_reducible exact ih1 _ _ _ _ _ _ _)
   | (with_reducible exact spec_Encode.mono _ _ _)
   | (with_reducible exact spec_Feed.mono _ _ _ _ _ _)
   | (with_reducible exact spec_Sum.mono _ _ _)
   | (with_reducible exact spec_l1Bend.mono _ _ _ _)
   | (with_reducible exact spec_l1Rd_pick.mono _ _ _ _)
   | (with_reducible exact spec_l3Draw.mono _ _ _)
   | (with_reducible exact spec_l3Payloads.mono _ _ _)
   | (with_reducible exact spec_l3Spoil.mono _ _ _ _ _ _ _)
   | (with_reducible exact LeO.refl _)
   | (with_reducible exact LeO.none _)
   | (with_reducible refine LeO.ite ?_ ?_)
   | (with_reducible refine LeO.bind ?_ (fun _ => ?_))
   | exact ih0 _ _ _ _ _ _ _
   | exact ih1 _ _ _ _ _ _ _
   | exact spec_Encode.mono _ _ _
   | exact spec_Feed.mono _ _ _ _ _ _
   | exact spec_Sum.mono _ _ _
   | exact spec_l1Bend.mono _ _ _ _
   | exact spec_l1Rd_pick.mono _ _ _ _
   | exact spec_l3Draw.mono _ _ _
   | exact spec_l3Payloads.mono _ _ _
   | exact spec_l3Spoil.mono _ _ _ _ _ _ _
   | exact LeO.none _
   | refine LeO.ite ?_ ?_
   | refine LeO.bind ?_ (fun _ => ?_)
  ·intro y0 y1 y2 y3 y4 y5 y6
   unfold spec_DrawFeed.j1
   repeat' first
   | (with_reducible exact ih0 _ _ _ _ _ _ _)
   | (with_reducible exact ih1 _ _ _ _ _ _ _)
   | (with_reducible exact spec_Encode.mono _ _ _)
   | (with_reducible exact spec_Feed.mono _ _ _ _ _ _)
   | (with_reducible exact spec_Sum.mono _ _ _)
   | (with_reducible exact spec_l1Bend.mono _ _ _ _)
   | (with_reducible exact spec_l1Rd_pick.mono _ _ _ _)
   | (with_reducible exact spec_l3Draw.mono _ _ _)
   | (with_reducible exact spec_l3Payloads.mono _ _ _)
   | (with_reducible exact spec_l3Spoil.mono _ _ _ _ _ _ _)
   | (with_reducible exact LeO.refl _)
   | (with_reducible exact LeO.none _)
   | (with_reducible refine LeO.ite ?_ ?_)
   | (with_reducible refine LeO.bind ?_ (fun _ => ?_))
   | exact ih0 _ _ _ _ _ _ _
   | exact ih1 _ _ _ _ _ _ _
   | exact spec_Encode.mono _ _ _
   | exact spec_Feed.mono _ _ _ _ _ _
   | exact spec_Sum.mono _ _ _
   | exact spec_l1Bend.mono _ _ _ _
   | exact spec_l1Rd_pick.mono _ _ _ _
   | exact spec_l3Draw.mono _ _ _
   | exact spec_l3Payloads.mono _ _ _
   | exact spec_l3Spoil.mono _ _ _ _ _ _ _
   | exact LeO.none _
   | refine LeO.ite ?_ ?_
   | refine LeO.bind ?_ (fun _ => ?_)
theorem spec_DrawFeed.mono : ∀ a0 k, LeO (spec_DrawFeed.f k a0) (spec_DrawFeed.f (k + 1) a0) := by
 intro a0 k
 obtain ⟨ih0, ih1⟩ := spec_DrawFeed.mono_l k
 unfold spec_DrawFeed.f
 repeat' first
   | (with_reducible exact ih0 _ _ _ _ _ _ _)
   | (with_reducible exact ih1 _ _ _ _ _ _ _)
   | (with_reducible exact spec_Encode.mono _ _ _)
   | (with_reducible exact spec_Feed.mono _ _ _ _ _ _)
   | (with_reducible exact spec_Sum.mono _ _ _)
   | (with_reducible exact spec_l1Bend.mono _ _ _ _)
   | (with_reducible exact spec_l1Rd_pick.mono _ _ _ _)
   | (with_reducible exact spec_l3Draw.mono _ _ _)
   | (with_reducible exact spec_l3Payloads.mono _ _ _)
   | (with_reducible exact spec_l3Spoil.mono _ _ _ _ _ _ _)
   | (with_reducible exact LeO.refl _)
   | (with_reducible exact LeO.none _)
   | (with_reducible refine LeO.ite ?_ ?_)
   | (with_reducible refine LeO.bind ?_ (fun _ => ?_))
   | exact ih0 _ _ _ _ _ _ _
   | exact ih1 _ _ _ _ _ _ _
   | exact spec_Encode.mono _ _ _
   | exact spec_Feed.mono _ _ _ _ _ _
   | exact spec_Sum.mono _ _ _
   | exact spec_l1Bend.mono _ _ _ _
   | exact spec_l1Rd_pick.mono _ _ _ _
   | exact spec_l3Draw.mono _ _ _
   | exact spec_l3Payloads.mono _ _ _
   | exact spec_l3Spoil.mono _ _ _ _ _ _ _
   | exact LeO.none _
   | refine LeO.ite ?_ ?_
   | refine LeO.bind ?_ (fun _ => ?_)
def spec_DrawFeed.T10 : Bool × List (List Nat × List Nat) := (true, [([], []), ([0], [0]), ([1], [1]), ([], []), ([], []), ([3, 4], [3, 4]), ([2, 5], [2, 5]), ([6, 6, 0, 1, 2, 3, 4, 5, 6], [6])])
def spec_DrawFeed.B10 : List Nat := [0, 1, 3, 0, 0, 24, 63, 127]
theorem spec_DrawFeed.tab10 : rtab .any (opsOf Try.f6 10) = spec_DrawFeed.T10 := by kernel_rfl
theorem spec_DrawFeed.bits10 : waitsOk spec_DrawFeed.T10.2 spec_DrawFeed.B10 = true := by kernel_rfl
set_option maxHeartbeats 2000000 in
set_option maxRecDepth 100000 in
theorem spec_DrawFeed.calls (k : Nat) (A0 : Option Addr) (c0 : Nat) (l0 : List Int) (r1 : Int) (r2 : ByteArray) (r3 : List ByteArray) (r4 : Bool) (r5 : ByteArray) (w : World) (hr0 : Kd.C (Kd.int .u8) w A0 l0.length l0) (hc0 : l0.length ≤ c0) (h : spec_DrawFeed.f k l0 = some (r1, r2, r3, r4, r5)) :
  Calls Try.prog 6 #[.slice A0 l0.length c0] w fun e w' => ∃ v2_ : Value, e = .returned (.tuple #[.agg #[.int .i64 r1, .string r2, v2_, .bool r4], .string r5]) ∧ Kd.R Kd.string 9 w' w.heap.size (fun _ => True) v2_ r3 ∧ Below w.heap.size w w' := by
 have hu25 := Try.underlying25
 have HR0 := Aside0.mk hr0
 have HC0 := Aside0.mk hc0
 clear hr0 hc0
 have HB := Aside0.mk (Below.refl w.heap.size w)
 have H : ((spec_l1Open.f l0).bind fun bt272 => ((spec_l3Draw.f k bt272.1 bt272.2).bind fun bt275 => ((spec_l3Payloads.f k bt272.1 bt275.2.2.2.2).bind fun bt283 => ((spec_Encode.f k bt283.1 bt275.1).bind fun t287 => ((spec_l1Rd_pick.f k bt272.1 bt283.2 6).bind fun bt288 => (if bt288.1 = 0 then ((spec_l1Bend.f k bt272.1 bt288.2 t287).bind fun bt290 => (spec_DrawFeed.j0 k bt290.1 bt272.1 bt290.2 bt275.1 bt275.2.1 bt275.2.2.1 bt275.2.2.2.1)) else (if bt288.1 = 1 then ((spec_Encode.f k (([(⟨#[97, 32, 102, 114, 97, 109, 101, 32, 105, 110, 32, 116, 119, 111, 32, 112, 105, 101, 99, 101, 115]⟩ : ByteArray)] : List ByteArray)) bt275.1).bind fun t295 => ((spec_l1Rd_pick.f k bt272.1 bt288.2 (wrap64 ((t295.size : Int) + 1))).bind fun bt296 => (if 0 ≤ bt296.1 then (if bt296.1 ≤ (t295.size : Int) then ((spec_Feed.f k bt275.1 (⟨#[]⟩ : ByteArray) ([] : List ByteArray) false (t295.extract 0 (bt296.1 : Int).toNat)).bind fun bt298 => (if (t295.extract (bt296.1 : Int).toNat t295.size).size + t287.size ≤ 9223372036854775807 then (spec_DrawFeed.j0 k ((t295.extract (bt296.1 : Int).toNat t295.size) ++ t287) bt272.1 bt296.2 bt298.1 bt298.2.1 bt298.2.2.1 bt298.2.2.2) else (none))) else (none)) else (none)))) else (spec_DrawFeed.j0 k t287 bt272.1 bt288.2 bt275.1 bt275.2.1 bt275.2.2.1 bt275.2.2.2.1)))))))) = some (r1, r2, r3, r4, r5) := h
 clear h
 replace H := Option.bind_eq_some_iff.mp H
 obtain ⟨⟨t272, t273⟩, A20, H⟩ := H
 try dsimp only at H
 have A2 := Aside0.mk A20
 clear A20
 replace H := Option.bind_eq_some_iff.mp H
 obtain ⟨⟨t275, t276, t277, t280, t281⟩, A30, H⟩ := H
 try dsimp only at H
 have A3 := Aside0.mk A30
 clear A30
 replace H := Option.bind_eq_some_iff.mp H
 obtain ⟨⟨t283, t286⟩, A40, H⟩ := H
 try dsimp only at H
 have A4 := Aside0.mk A40
 clear A40
 replace H := Option.bind_eq_some_iff.mp H
 obtain ⟨t287, A50, H⟩ := H
 try dsimp only at H
 have A5 := Aside0.mk A50
 clear A50
 replace H := Option.bind_eq_some_iff.mp H
 obtain ⟨⟨t288, t289⟩, A60, H⟩ := H
 try dsimp only at H
 have A6 := Aside0.mk A60
 clear A60
 have HC7 := Aside0.mk H
 clear H
 go_enter Try.func6, Try.ntmps6
 try go_wp2_with (first | ((with_reducible refine gate_dst (N := 2) rfl ?_); refine box_event ?hg (N := 2) ?hd (cs := #[.int .i64 0, .string (⟨#[]⟩ : ByteArray), .slice none 0 0, .bool false]) (t := 25) ?hr ?_; (case hd => rfl); (case hg => rfl); (case hr => first | (go_simp; done) | (go_simp; rfl)); intro gb271 hg w8 hbox hb; have n0_ := Aside0.mk (below_step zq1 hb); have n1_ := Aside0.mk (hbox); have n2_ := Aside0.mk ((by rw [hg]; exact (below_size zq1) : w.heap.size ≤ gb271)); have n3_ := Aside0.mk ((by rw [hg]; exact (below_size zq1) : w.heap.size ≤ gb271)); clear HB; have HB := n0_; have BK271 := n1_; have GW271 := n2_; have GE271 := n3_; clear n0_ n1_ n2_ n3_; clear hb hbox hg) | ((with_reducible refine gate_callee (f := 26) rfl ?_); refine goesL_ (some 10) rfl rfl Try.func26 zq19 rfl #[.slice A0 l0.length c0] rfl zq0 ?_; (with_reducible refine (spec_l1Open.calls _ _ l0 t272 t273 w _ ?side1 ?side2 ?side3 A2.out).mono ?_); (case side1 => repeat (first | (with_reducible first | exact HB.out | apply below_alloc | apply pw_below_drewN | apply below_drew1 | refine below_set ?_ GE271.out) | exact HB.out)); (case side2 => exact HR0.out); (case side3 => exact HC0.out); rintro e w9 ⟨g274, rfl, hi, hb, hb2⟩; refine ⟨_, rfl, ?_⟩; have n0_ := Aside0.mk (blk_below (g := gb271) (o := .cells #[.int .i64 0, .string (⟨#[]⟩ : ByteArray), .slice none 0 0, .bool false] 25 (0, 0)) zq31 hb2); have n1_ := Aside0.mk (hb); have n2_ := Aside0.mk (hi); have n3_ := Aside0.mk (IsS98.ne_blk hi (blk_below (g := gb271) (o := .cells #[.int .i64 0, .string (⟨#[]⟩ : ByteArray), .slice none 0 0, .bool false] 25 (0, 0)) zq31 hb2) zq60); have n4_ := Aside0.mk (Ne.symm (IsS98.ne_blk hi (blk_below (g := gb271) (o := .cells #[.int .i64 0, .string (⟨#[]⟩ : ByteArray), .slice none 0 0, .bool false] 25 (0, 0)) zq31 hb2) zq60)); clear BK271; clear HB; have BK271 := n0_; have HB := n1_; have HI274 := n2_; have NB274_271 := n3_; have NB271_274 := n4_; clear n0_ n1_ n2_ n3_ n4_; (try clear hb); (try clear hb2); (try clear hk); (try clear hi)) | ((with_reducible refine gate_callee (f := 27) rfl ?_); refine goesL_ (some 12) rfl rfl Try.func27 zq19 rfl #[.pointer (some ⟨g274, 0, none⟩)] rfl zq0 ?_; (with_reducible refine (spec_l3Draw.calls k g274 t272 t273 t275 t276 t277 t280 t281 w _ ?side1 ?side2 A3.out).mono ?_); (case side1 => repeat (first | (with_reducible first | exact HI274.out | apply IsS98.alloc | apply IsS98.drewN | apply IsS98.drew | apply IsS98.set_1 | refine IsS98.far ?_ NB274_271.out _) | exact HI274.out)); (case side2 => repeat (first | (with_reducible first | exact HB.out | apply below_alloc | apply pw_below_drewN | apply below_drew1 | refine below_set ?_ (IsS98.ge HI274.out) | refine below_set ?_ GE271.out) | exact HB.out)); rintro e w10 ⟨v278, rfl, ho0, hi, hb, hk⟩; refine ⟨_, rfl, ?_⟩; have n0_ := Aside0.mk (KeepBut.blk hk (g' := gb271) (o := .cells #[.int .i64 0, .string (⟨#[]⟩ : ByteArray), .slice none 0 0, .bool false] 25 (0, 0)) zq31 NB271_274.out zq81); have n1_ := Aside0.mk (Kd.R_lower ho0 (below_size zq69)); have n2_ := Aside0.mk (hb); have n3_ := Aside0.mk (hi); clear BK271; clear HB; clear HI274; have BK271 := n0_; have HO279 := n1_; have HB := n2_; have HI274 := n3_; clear n0_ n1_ n2_ n3_; (try clear hb); (try clear hb2); (try clear hk); (try clear hi); (try clear ho0)) | ((with_reducible refine gate_dst (N := 5) rfl ?_); refine box_event ?hg (N := 5) ?hd (cs := #[.int .i64 0, .string (⟨#[]⟩ : ByteArray), .slice none 0 0, .bool false]) (t := 25) ?hr ?_; (case hd => rfl); (case hg => rfl); (case hr => first | (go_simp; done) | (go_simp; rfl)); intro gb282 hg w11 hbox hb; have n0_ := Aside0.mk (Kd.R_below zq59 hb); have n1_ := Aside0.mk (blk_below (g := gb271) (o := .cells #[.int .i64 0, .string (⟨#[]⟩ : ByteArray), .slice none 0 0, .bool false] 25 (0, 0)) zq31 hb); have n2_ := Aside0.mk (IsS98.below zq82 hb); have n3_ := Aside0.mk (below_step zq69 hb); have n4_ := Aside0.mk (hbox); have n5_ := Aside0.mk ((by rw [hg]; exact (below_size zq69) : w.heap.size ≤ gb282)); have n6_ := Aside0.mk ((by rw [hg]; exact (below_size zq69) : w.heap.size ≤ gb282)); have n7_ := Aside0.mk ((by rw [hg]; exact Nat.ne_of_lt (blk_lt (g := gb271) (o := .cells #[.int .i64 0, .string (⟨#[]⟩ : ByteArray), .slice none 0 0, .bool false] 25 (0, 0)) zq31) : gb271 ≠ gb282)); have n8_ := Aside0.mk ((by rw [hg]; exact Nat.ne_of_gt (blk_lt (g := gb271) (o := .cells #[.int .i64 0, .string (⟨#[]⟩ : ByteArray), .slice none 0 0, .bool false] 25 (0, 0)) zq31) : gb282 ≠ gb271)); have n9_ := Aside0.mk ((by rw [hg]; exact Nat.ne_of_lt (IsS98.lt (show IsS98 w _ g274 t272 t281 from zq82)) : g274 ≠ gb282)); have n10_ := Aside0.mk ((by rw [hg]; exact Nat.ne_of_gt (IsS98.lt (show IsS98 w _ g274 t272 t281 from zq82)) : gb282 ≠ g274)); clear HO279; clear BK271; clear HI274; clear HB; have HO279 := n0_; have BK271 := n1_; have HI274 := n2_; have HB := n3_; have BK282 := n4_; have GW282 := n5_; have GE282 := n6_; have NB271_282 := n7_; have NB282_271 := n8_; have NB274_282 := n9_; have NB282_274 := n10_; clear n0_ n1_ n2_ n3_ n4_ n5_ n6_ n7_ n8_ n9_ n10_; clear hb hbox hg; have hnb12 := NB282_271.out; have hnc12 := NB271_282.out; have hnb13 := NB282_274.out; have hnc13 := NB274_282.out; have hcz14_0 : w11.cell? ⟨gb282, 0, none⟩ = some (.int .i64 0) := (blk_cell BK282.out 0).trans rfl; have hcz14_1 : w11.cell? ⟨gb282, 1, none⟩ = some (.string (⟨#[]⟩ : ByteArray)) := (blk_cell BK282.out 1).trans rfl; have hcz14_2 : w11.cell? ⟨gb282, 2, none⟩ = some (.slice none 0 0) := (blk_cell BK282.out 2).trans rfl; have hcz14_3 : w11.cell? ⟨gb282, 3, none⟩ = some (.bool false) := (blk_cell BK282.out 3).trans rfl; have hfz14_0 := blk_frozen BK282.out 0; have hfz14_1 := blk_frozen BK282.out 1; have hfz14_2 := blk_frozen BK282.out 2; have hfz14_3 := blk_frozen BK282.out 3; obtain ⟨Ao15, co15, eo15⟩ := Kd.R_slice HO279.out; subst eo15))
 have n0_ : Aside0 (Kd.R Kd.string 9 ((((w11.setCell ⟨gb282, 0, none⟩ (.int .i64 t275)).setCell ⟨gb282, 1, none⟩ (.string t276)).setCell ⟨gb282, 2, none⟩ (.slice Ao15 t277.length co15)).setCell ⟨gb282, 3, none⟩ (.bool t280)) w.heap.size (fun _ => True) (.slice Ao15 t277.length co15) t277) := ⟨by (with_reducible repeat (first | apply Kd.R_alloc | apply Kd.R_drewN | apply Kd.R_drew)); exact Kd.R_mono (Kd.R_far (p := ⟨gb282, 3, none⟩) (Kd.R_far (p := ⟨gb282, 2, none⟩) (Kd.R_far (p := ⟨gb282, 1, none⟩) (Kd.R_far (p := ⟨gb282, 0, none⟩) (Kd.R_types HO279.out BK282.out zq60) (fun _ hk => hk.2) (.int .i64 t275)) (fun _ hk => hk.2) (.string t276)) (fun _ hk => hk.2) (.slice Ao15 t277.length co15)) (fun _ hk => hk.2) (.bool t280)) (fun _ hk => trivial)⟩
 have n1_ : Aside0 (((((w11.setCell ⟨gb282, 0, none⟩ (.int .i64 t275)).setCell ⟨gb282, 1, none⟩ (.string t276)).setCell ⟨gb282, 2, none⟩ (.slice Ao15 t277.length co15)).setCell ⟨gb282, 3, none⟩ (.bool t280)).heap[gb271]? = some (.cells #[.int .i64 0, .string (⟨#[]⟩ : ByteArray), .slice none 0 0, .bool false] 25 (0, 0))) := ⟨zq66⟩
 have n2_ : Aside0 (((((w11.setCell ⟨gb282, 0, none⟩ (.int .i64 t275)).setCell ⟨gb282, 1, none⟩ (.string t276)).setCell ⟨gb282, 2, none⟩ (.slice Ao15 t277.length co15)).setCell ⟨gb282, 3, none⟩ (.bool t280)).heap[gb282]? = some (.cells #[.int .i64 t275, .string t276, .slice Ao15 t277.length co15, .bool t280] 25 (0, 0))) := ⟨by (with_reducible repeat (first | refine blk_drewN ?_ _ | refine blk_drew ?_ | refine blk_alloc ?_ _)); refine blk_put (cs := #[.int .i64 t275, .string t276, .slice Ao15 t277.length co15, .bool false]) ?_ 3 _ rfl; (with_reducible repeat (first | refine blk_drewN ?_ _ | refine blk_drew ?_ | refine blk_alloc ?_ _)); refine blk_put (cs := #[.int .i64 t275, .string t276, .slice none 0 0, .bool false]) ?_ 2 _ rfl; (with_reducible repeat (first | refine blk_drewN ?_ _ | refine blk_drew ?_ | refine blk_alloc ?_ _)); refine blk_put (cs := #[.int .i64 t275, .string (⟨#[]⟩ : ByteArray), .slice none 0 0, .bool false]) ?_ 1 _ rfl; (with_reducible repeat (first | refine blk_drewN ?_ _ | refine blk_drew ?_ | refine blk_alloc ?_ _)); refine blk_put (cs := #[.int .i64 0, .string (⟨#[]⟩ : ByteArray), .slice none 0 0, .bool false]) ?_ 0 _ rfl; (with_reducible repeat (first | refine blk_drewN ?_ _ | refine blk_drew ?_ | refine blk_alloc ?_ _)); exact BK282.out⟩
 have n3_ : Aside0 (IsS98 w ((((w11.setCell ⟨gb282, 0, none⟩ (.int .i64 t275)).setCell ⟨gb282, 1, none⟩ (.string t276)).setCell ⟨gb282, 2, none⟩ (.slice Ao15 t277.length co15)).setCell ⟨gb282, 3, none⟩ (.bool t280)) g274 t272 t281) := ⟨zq15⟩
 have n4_ : Aside0 (Below w.heap.size w ((((w11.setCell ⟨gb282, 0, none⟩ (.int .i64 t275)).setCell ⟨gb282, 1, none⟩ (.string t276)).setCell ⟨gb282, 2, none⟩ (.slice Ao15 t277.length co15)).setCell ⟨gb282, 3, none⟩ (.bool t280))) := ⟨zq26⟩
 (try clear HO279)
 (try clear BK271)
 (try clear BK282)
 (try clear HI274)
 (try clear HB)
 generalize ((((w11.setCell ⟨gb282, 0, none⟩ (.int .i64 t275)).setCell ⟨gb282, 1, none⟩ (.string t276)).setCell ⟨gb282, 2, none⟩ (.slice Ao15 t277.length co15)).setCell ⟨gb282, 3, none⟩ (.bool t280)) = w16 at n0_ n1_ n2_ n3_ n4_ ⊢
 have HO279 := n0_
 have BK271 := n1_
 have BK282 := n2_
 have HI274 := n3_
 have HB := n4_
 clear n0_ n1_ n2_ n3_ n4_
 have n0_ := Aside0.mk (Kd.R_drew HO279.out)
 have n1_ := Aside0.mk (blk_drew BK271.out)
 have n2_ := Aside0.mk (blk_drew BK282.out)
 have n3_ := Aside0.mk (IsS98.drew HI274.out)
 have n4_ := Aside0.mk (below_drew1 HB.out)
 clear HO279
 clear BK271
 clear BK282
 clear HI274
 clear HB
 have HO279 := n0_
 have BK271 := n1_
 have BK282 := n2_
 have HI274 := n3_
 have HB := n4_
 clear n0_ n1_ n2_ n3_ n4_
 refine start_ (n := 6) (S := fun w' => w'.cell? ⟨gb282, 0, none⟩ = some (.int .i64 t275) ∧ w'.cell? ⟨gb282, 1, none⟩ = some (.string t276) ∧ w'.cell? ⟨gb282, 2, none⟩ = some (.slice Ao15 t277.length co15) ∧ w'.cell? ⟨gb282, 3, none⟩ = some (.bool t280)) (ds := []) #[false, false, false, false, false, false] zq19 rfl rfl ⟨(blk_cell BK282.out 0).trans rfl, (blk_cell BK282.out 1).trans rfl, (blk_cell BK282.out 2).trans rfl, (blk_cell BK282.out 3).trans rfl⟩ (fun hHeld => ?_)
 generalize w16.drew = w17 at HO279 BK271 BK282 HI274 HB hHeld ⊢
 refine pure_ (i := 0) (N := some 13) (v := ?_) (a' := ?_) #[true, false, false, false, false, false] rfl rfl zq19 (fun _ _ _ h => h) (Or.inl ⟨zq90, ?_⟩) ?_ ?_
 rotate_left
 ·intro w'
  go_simp
  with_reducible rfl
 rotate_left
 ·simp only [Act.put, List.setIfInBounds_toArray, List.set_cons_zero, List.set_cons_succ, i64_w, i32_w]
  rfl
 refine pure_ (i := 2) (N := some 15) (v := ?_) (a' := ?_) #[true, false, true, false, false, false] rfl rfl zq19 (fun _ _ _ h => h) (Or.inl ⟨zq90, ?_⟩) ?_ ?_
 rotate_left
 ·intro w'
  go_simp
  with_reducible rfl
 rotate_left
 ·simp only [Act.put, List.setIfInBounds_toArray, List.set_cons_zero, List.set_cons_succ, i64_w, i32_w]
  rfl
 refine take_ (i := 3) (N := some 16) (v := ?_) (a' := ?_) #[true, false, true, true, false, false] rfl rfl zq19 (fun _ _ _ h => h) (Or.inl ⟨zq90, ?_⟩) hHeld ?_ ?_
 rotate_left
 ·rintro w' ⟨s0, s1, s2, s3⟩
  go_simp
  with_reducible rfl
 rotate_left
 ·simp only [Act.put, List.setIfInBounds_toArray, List.set_cons_zero, List.set_cons_succ, i64_w, i32_w]
  rfl
 refine one_ (i := 1) (N := some 14) #[true, true, true, true, false, false] rfl rfl zq19 zq60 (fun K hK => ?_)
 refine goes_ Try.func28 zq19 rfl #[.pointer (some ⟨g274, 0, none⟩)] zq90 rfl rfl zq0 ?_
 with_reducible refine (spec_l3Payloads.calls k g274 t272 t281 t283 t286 w _ ?side1 ?side2 A4.out).mono ?_
 (case side1 => repeat (first | (with_reducible first | exact HI274.out | apply IsS98.alloc | apply IsS98.drewN | apply IsS98.drew | apply IsS98.set_1 | refine IsS98.far ?_ NB274_271.out _ | refine IsS98.far ?_ NB274_282.out _) | exact HI274.out))
 (case side2 => repeat (first | (with_reducible first | exact HB.out | apply below_alloc | apply pw_below_drewN | apply below_drew1 | refine below_set ?_ (IsS98.ge HI274.out) | refine below_set ?_ GE271.out | refine below_set ?_ GE282.out) | exact HB.out))
 rintro e w18 ⟨v284, rfl, ho0, hi, hb, hk⟩
 refine ⟨_, rfl, ?_⟩
 have n0_ := Aside0.mk (KeepBut.blk hk (g' := gb271) (o := .cells #[.int .i64 0, .string (⟨#[]⟩ : ByteArray), .slice none 0 0, .bool false] 25 (0, 0)) zq31 NB271_274.out zq81)
 have n1_ := Aside0.mk (Kd.R_mono (Kd.R_told (Kd.R_oldK (IsS98.apart (show IsS98 w _ g274 t272 t281 from zq15) zq59 zq60) hk) (Kd.R_base ho0)) (fun _ h_ => h_.1))
 have n2_ := Aside0.mk (KeepBut.blk hk (g' := gb282) (o := .cells #[.int .i64 t275, .string t276, .slice Ao15 t277.length co15, .bool t280] 25 (0, 0)) zq40 NB282_274.out zq81)
 have n3_ := Aside0.mk (Kd.R_lower (Kd.R_new' ho0 (Kd.R_lt zq59)) (below_size zq26))
 have n4_ := Aside0.mk (hb)
 have n5_ := Aside0.mk (hi)
 clear BK271
 clear HO279
 clear BK282
 clear HB
 clear HI274
 have BK271 := n0_
 have HO279 := n1_
 have BK282 := n2_
 have HO285 := n3_
 have HB := n4_
 have HI274 := n5_
 clear n0_ n1_ n2_ n3_ n4_ n5_
 (try clear hb)
 (try clear hb2)
 (try clear hk)
 (try clear hi)
 (try clear ho0)
 obtain ⟨Ao19, co19, eo19⟩ := Kd.R_slice HO285.out
 (first | subst eo19 | (injection eo19 with f1_ f2_ f3_; have f4_ := f1_.symm; have f5_ := f3_.symm; clear f1_ f2_ f3_; subst f4_; subst f5_))
 refine hK.out _ _ ⟨(blk_cell BK282.out 0).trans rfl, (blk_cell BK282.out 1).trans rfl, (blk_cell BK282.out 2).trans rfl, (blk_cell BK282.out 3).trans rfl⟩ (fun hHeld => ?_)
 clear hK K
 refine norm_ (a' := ?_) ?_ ?_
 rotate_left
 ·show Act.put _ (some 14) _ = _
  simp only [Act.put, List.setIfInBounds_toArray, List.set_cons_zero, List.set_cons_succ, i64_w, i32_w]
  rfl
 refine one_ (i := 4) (N := some 17) #[true, true, true, true, true, false] rfl rfl zq19 zq60 (fun K hK => ?_)
 refine goes_ Try.func14 zq19 rfl #[.slice Ao19 t283.length co19, .int .i64 t275] zq90 rfl rfl zq0 ?_
 with_reducible refine (spec_Encode.calls k _ _ t283 t275 t287 _ ?side1 ?side2 A5.out).mono ?_
 (case side1 => repeat (first | exact (Kd.R_reads' HO285.out).2.2 | (with_reducible refine Kd.C_alloc ?_ _) | (with_reducible refine Kd.C_drewN ?_ _) | (with_reducible refine Kd.C_drew ?_)))
 (case side2 => exact (Kd.R_reads' HO285.out).2.1)
 rintro e w20 ⟨rfl, hb⟩
 refine ⟨_, rfl, ?_⟩
 have n0_ := Aside0.mk (Kd.R_below zq59 hb)
 have n1_ := Aside0.mk (Kd.R_below zq62 hb)
 have n2_ := Aside0.mk (blk_below (g := gb271) (o := .cells #[.int .i64 0, .string (⟨#[]⟩ : ByteArray), .slice none 0 0, .bool false] 25 (0, 0)) zq31 hb)
 have n3_ := Aside0.mk (IsS98.below zq15 hb)
 have n4_ := Aside0.mk (blk_below (g := gb282) (o := .cells #[.int .i64 t275, .string t276, .slice Ao15 t277.length co15, .bool t280] 25 (0, 0)) zq40 hb)
 have n5_ := Aside0.mk (below_step zq26 hb)
 clear HO279
 clear HO285
 clear BK271
 clear HI274
 clear BK282
 clear HB
 have HO279 := n0_
 have HO285 := n1_
 have BK271 := n2_
 have HI274 := n3_
 have BK282 := n4_
 have HB := n5_
 clear n0_ n1_ n2_ n3_ n4_ n5_
 (try clear hb)
 (try clear hb2)
 (try clear hk)
 (try clear hi)
 refine hK.out _ _ ⟨(blk_cell BK282.out 0).trans rfl, (blk_cell BK282.out 1).trans rfl, (blk_cell BK282.out 2).trans rfl, (blk_cell BK282.out 3).trans rfl⟩ (fun hHeld => ?_)
 clear hK K
 refine norm_ (a' := ?_) ?_ ?_
 rotate_left
 ·show Act.put _ (some 17) _ = _
  simp only [Act.put, List.setIfInBounds_toArray, List.set_cons_zero, List.set_cons_succ, i64_w, i32_w]
  rfl
 refine pure_ (i := 5) (N := some 6) (v := ?_) (a' := ?_) #[true, true, true, true, true, true] rfl rfl zq19 (fun _ _ _ h => h) (Or.inl ⟨zq90, ?_⟩) ?_ ?_
 rotate_left
 ·intro w'
  go_simp
  with_reducible rfl
 rotate_left
 ·simp only [Act.put, List.setIfInBounds_toArray, List.set_cons_zero, List.set_cons_succ, i64_w, i32_w]
  rfl
 refine done_ zq19 ?_
 go_upto_block 0 with (first | ((with_reducible refine gate_callee (f := 29) rfl ?_); refine goesL_ (some 19) rfl rfl Try.func29 zq19 rfl #[.pointer (some ⟨g274, 0, none⟩), .int .i64 6] rfl zq0 ?_; (with_reducible refine (spec_l1Rd_pick.calls k g274 t272 t286 6 t288 t289 w _ ?side1 ?side2 A6.out).mono ?_); (case side1 => repeat (first | (with_reducible first | exact HI274.out | apply IsS98.alloc | apply IsS98.drewN | apply IsS98.drew | apply IsS98.set_1 | refine IsS98.far ?_ NB274_271.out _ | refine IsS98.far ?_ NB274_282.out _) | exact HI274.out)); (case side2 => repeat (first | (with_reducible first | exact HB.out | apply below_alloc | apply pw_below_drewN | apply below_drew1 | refine below_set ?_ (IsS98.ge HI274.out) | refine below_set ?_ GE271.out | refine below_set ?_ GE282.out) | exact HB.out)); rintro e w21 ⟨rfl, hi, hb, hk⟩; refine ⟨_, rfl, ?_⟩; have n0_ := Aside0.mk (KeepBut.blk hk (g' := gb271) (o := .cells #[.int .i64 0, .string (⟨#[]⟩ : ByteArray), .slice none 0 0, .bool false] 25 (0, 0)) zq31 NB271_274.out zq81); have n1_ := Aside0.mk (Kd.R_mono (Kd.R_keep (IsS98.apart (show IsS98 w _ g274 t272 t286 from zq15) zq59 zq60) hk (fun _ h => h.2)) (fun _ h => h.1)); have n2_ := Aside0.mk (KeepBut.blk hk (g' := gb282) (o := .cells #[.int .i64 t275, .string t276, .slice Ao15 t277.length co15, .bool t280] 25 (0, 0)) zq40 NB282_274.out zq81); have n3_ := Aside0.mk (Kd.R_mono (Kd.R_keep (IsS98.apart (show IsS98 w _ g274 t272 t286 from zq15) zq62 zq60) hk (fun _ h => h.2)) (fun _ h => h.1)); have n4_ := Aside0.mk (hb); have n5_ := Aside0.mk (hi); clear BK271; clear HO279; clear BK282; clear HO285; clear HB; clear HI274; have BK271 := n0_; have HO279 := n1_; have BK282 := n2_; have HO285 := n3_; have HB := n4_; have HI274 := n5_; clear n0_ n1_ n2_ n3_ n4_ n5_; (try clear hb); (try clear hb2); (try clear hk); (try clear hi)))
 (try simp only [Act.put, List.setIfInBounds_toArray, List.set_cons_zero, List.set_cons_succ])
 go_cut [6] (fun v6 wc => ∃ (kq : Nat) (x6_6 : ByteArray) (x275001_6 : Int) (x283000_6 : Int) (x283001_6 : ByteArray) (x283002_6 : List ByteArray) (x283003_6 : Bool) (u283002 : Value), v6 = .string x6_6 ∧ Aside0 (spec_DrawFeed.j0 kq x6_6 t272 x275001_6 x283000_6 x283001_6 x283002_6 x283003_6 = some (r1, r2, r3, r4, r5)) ∧ Aside0 (kq ≤ k) ∧ Aside0 (Kd.R Kd.string 9 wc w.heap.size (fun _ => True) u283002 x283002_6) ∧ Aside0 (wc.heap[gb271]? = some (.cells #[.int .i64 0, .string (⟨#[]⟩ : ByteArray), (.slice none 0 0), .bool false] 25 (0, 0))) ∧ Aside0 (wc.heap[gb282]? = some (.cells #[.int .i64 x283000_6, .string x283001_6, u283002, .bool x283003_6] 25 (0, 0))) ∧ Aside0 (IsS98 w wc g274 t272 x275001_6) ∧ Aside0 (Below w.heap.size w wc))
 case first =>
  have H := HC7.out
  clear HC7
  by_cases c22 : t288 = 0
  ·rw [if_pos c22] at H
   have c22b0 : (t288 == 0) = true := beq_iff_eq.mpr c22
   have c22b1 : (t288 != 0) = false := bne_eq_false_iff_eq.mpr c22
   clear c22
   (first | rw [c22b0] | (simp only [i64_w, i32_w]; rw [c22b0]) | skip)
   replace H := Option.bind_eq_some_iff.mp H
   obtain ⟨⟨t290, t291⟩, A230, H⟩ := H
   try dsimp only at H
   have A23 := Aside0.mk A230
   clear A230
   have H' := Aside0.mk H
   clear H
   go_wp2_with (first | ((with_reducible refine gate_callee (f := 30) rfl ?_); refine goesL_ (some 24) rfl rfl Try.func30 zq19 rfl #[.pointer (some ⟨g274, 0, none⟩), .string t287] rfl zq0 ?_; (with_reducible refine (spec_l1Bend.calls k g274 t272 t289 t287 t290 t291 w _ ?side1 ?side2 A23.out).mono ?_); (case side1 => repeat (first | (with_reducible first | exact HI274.out | apply IsS98.alloc | apply IsS98.drewN | apply IsS98.drew | apply IsS98.set_1 | refine IsS98.far ?_ NB274_271.out _ | refine IsS98.far ?_ NB274_282.out _) | exact HI274.out)); (case side2 => repeat (first | (with_reducible first | exact HB.out | apply below_alloc | apply pw_below_drewN | apply below_drew1 | refine below_set ?_ (IsS98.ge HI274.out) | refine below_set ?_ GE271.out | refine below_set ?_ GE282.out) | exact HB.out)); rintro e w24 ⟨rfl, hi, hb, hk⟩; refine ⟨_, rfl, ?_⟩; have n0_ := Aside0.mk (KeepBut.blk hk (g' := gb271) (o := .cells #[.int .i64 0, .string (⟨#[]⟩ : ByteArray), .slice none 0 0, .bool false] 25 (0, 0)) zq31 NB271_274.out zq81); have n1_ := Aside0.mk (Kd.R_mono (Kd.R_keep (IsS98.apart (show IsS98 w _ g274 t272 t289 from zq15) zq59 zq60) hk (fun _ h => h.2)) (fun _ h => h.1)); have n2_ := Aside0.mk (KeepBut.blk hk (g' := gb282) (o := .cells #[.int .i64 t275, .string t276, .slice Ao15 t277.length co15, .bool t280] 25 (0, 0)) zq40 NB282_274.out zq81); have n3_ := Aside0.mk (Kd.R_mono (Kd.R_keep (IsS98.apart (show IsS98 w _ g274 t272 t289 from zq15) zq62 zq60) hk (fun _ h => h.2)) (fun _ h => h.1)); have n4_ := Aside0.mk (hb); have n5_ := Aside0.mk (hi); clear BK271; clear HO279; clear BK282; clear HO285; clear HB; clear HI274; have BK271 := n0_; have HO279 := n1_; have BK282 := n2_; have HO285 := n3_; have HB := n4_; have HI274 := n5_; clear n0_ n1_ n2_ n3_ n4_ n5_; (try clear hb); (try clear hb2); (try clear hk); (try clear hi)))
   go_meet
   case rel => exact ⟨_, (t290), (t291), (t275), (t276), (t277), (t280), (.slice Ao15 t277.length co15), zq22, H', ⟨zq74⟩, ⟨zq100⟩, ⟨zq31⟩, ⟨zq40⟩, ⟨zq15⟩, ⟨zq26⟩⟩
  ·rw [if_neg c22] at H
   have c22b0 : (t288 == 0) = false := beq_eq_false_iff_ne.mpr c22
   have c22b1 : (t288 != 0) = true := bne_iff_ne.mpr c22
   (first | rw [c22b0] | (simp only [i64_w, i32_w]; rw [c22b0]) | skip)
   by_cases c25 : t288 = 1
   ·rw [if_pos c25] at H
    have c25b0 : (t288 == 1) = true := beq_iff_eq.mpr c25
    have c25b1 : (t288 != 1) = false := bne_eq_false_iff_eq.mpr c25
    clear c25
    obtain ⟨y292, hy292⟩ : ∃ y_ : List ByteArray, y_ = (([(⟨#[97, 32, 102, 114, 97, 109, 101, 32, 105, 110, 32, 116, 119, 111, 32, 112, 105, 101, 99, 101, 115]⟩ : ByteArray)] : List ByteArray)) := ⟨_, rfl⟩
    replace H : ((spec_Encode.f k y292 t275).bind fun t295 => ((spec_l1Rd_pick.f k t272 t289 (wrap64 ((t295.size : Int) + 1))).bind fun bt296 => (if 0 ≤ bt296.1 then (if bt296.1 ≤ (t295.size : Int) then ((spec_Feed.f k t275 (⟨#[]⟩ : ByteArray) ([] : List ByteArray) false (t295.extract 0 (bt296.1 : Int).toNat)).bind fun bt298 => (if (t295.extract (bt296.1 : Int).toNat t295.size).size + t287.size ≤ 9223372036854775807 then (spec_DrawFeed.j0 k ((t295.extract (bt296.1 : Int).toNat t295.size) ++ t287) t272 bt296.2 bt298.1 bt298.2.1 bt298.2.2.1 bt298.2.2.2) else (none))) else (none)) else (none)))) = some (r1, r2, r3, r4, r5) := by first | (rw [hy292]; with_reducible exact H) | (have H2_ := (Option.bind_some _ _).symm.trans H; rw [hy292]; with_reducible exact H2_) | (have H2_ := (Option.bind_some _ _).symm.trans H; with_reducible exact H2_) | with_reducible exact H | (rw [hy292]; exact H) | exact H
    have Ny292 := Aside0.mk hy292
    clear hy292
    replace H := Option.bind_eq_some_iff.mp H
    obtain ⟨t295, A260, H⟩ := H
    try dsimp only at H
    have A26 := Aside0.mk A260
    clear A260
    replace H := Option.bind_eq_some_iff.mp H
    obtain ⟨⟨t296, t297⟩, A270, H⟩ := H
    try dsimp only at H
    have A27 := Aside0.mk A270
    clear A270
    by_cases c28 : 0 ≤ t296
    ·rw [if_pos c28] at H
     have c28b0 := eq_true c28
     have c28b1 : decide (0 ≤ t296) = true := decide_eq_true c28
     clear c28
     by_cases c29 : t296 ≤ (t295.size : Int)
     ·rw [if_pos c29] at H
      have c29b0 := eq_true c29
      have c29b1 : decide (t296 ≤ (t295.size : Int)) = true := decide_eq_true c29
      clear c29
      replace H := Option.bind_eq_some_iff.mp H
      obtain ⟨⟨t298, t299, t300, t303⟩, A300, H⟩ := H
      try dsimp only at H
      have A30 := Aside0.mk A300
      clear A300
      have c31b0 := eq_true (of_decide_eq_true zq23 : 0 ≤ t296)
      have c32b0 := eq_true (of_decide_eq_true zq23 : t296 ≤ (t295.size : Int))
      by_cases c33 : (t295.extract (t296 : Int).toNat t295.size).size + t287.size ≤ 9223372036854775807
      ·rw [if_pos c33] at H
       have c33b0 := eq_true c33
       have c33b1 : decide ((t295.extract (t296 : Int).toNat t295.size).size + t287.size ≤ 9223372036854775807) = true := decide_eq_true c33
       try have c33b2 : (9223372036854775807 < (t295.extract (t296 : Int).toNat t295.size).size + t287.size) = False := eq_false (Nat.not_lt.2 c33)
       have H' := Aside0.mk H
       clear H
       try go_wp2_with (first | ((with_reducible refine gate_dst (N := 27) rfl ?_); refine Kd.R_lit Kd.string _ 9 ?hg (N := 27) ?hd (xs := ([(⟨#[97, 32, 102, 114, 97, 109, 101, 32, 105, 110, 32, 116, 119, 111, 32, 112, 105, 101, 99, 101, 115]⟩ : ByteArray)] : List ByteArray)) (inner := [.string (⟨#[97, 32, 102, 114, 97, 109, 101, 32, 105, 110, 32, 116, 119, 111, 32, 112, 105, 101, 99, 101, 115]⟩ : ByteArray)]) (ok := fun _ => True) (okp := fun _ => True) ?hr ?hp (fun _ hk => hk) trivial (Below.refl _ _) (Nat.le_refl _) zq81 ?_; (case hd => rfl); (case hg => rfl); (case hr => first | (go_simp; done) | (go_simp; rfl)); (case hp => exact (Reps.one (show Kd.M Kd.string _ _ _ (⟨#[97, 32, 102, 114, 97, 109, 101, 32, 105, 110, 32, 116, 119, 111, 32, 112, 105, 101, 99, 101, 115]⟩ : ByteArray) [.string (⟨#[97, 32, 102, 114, 97, 109, 101, 32, 105, 110, 32, 116, 119, 111, 32, 112, 105, 101, 99, 101, 115]⟩ : ByteArray)] from rfl) (Reps.none _ _))); intro v293 w34 ho35 hb hg_ hnew_; clear hg_ hnew_; (first | rw [← Ny292.out] at ho35 | (simp only [Int.reduceToNat] at ho35; rw [← Ny292.out] at ho35)); have n0_ := Aside0.mk (Kd.R_elder' zq59 (Kd.R_base ho35) hb); have n1_ := Aside0.mk (Kd.R_elder' zq62 (Kd.R_base ho35) hb); have n2_ := Aside0.mk (Kd.R_lower (Kd.R_new' (Kd.R_new' ho35 (Kd.R_lt zq59)) (Kd.R_lt zq62)) (below_size zq26)); have n3_ := Aside0.mk (blk_below (g := gb271) (o := .cells #[.int .i64 0, .string (⟨#[]⟩ : ByteArray), .slice none 0 0, .bool false] 25 (0, 0)) zq31 hb); have n4_ := Aside0.mk (IsS98.below zq15 hb); have n5_ := Aside0.mk (blk_below (g := gb282) (o := .cells #[.int .i64 t275, .string t276, .slice Ao15 t277.length co15, .bool t280] 25 (0, 0)) zq40 hb); have n6_ := Aside0.mk (below_step zq26 hb); clear HO279; clear HO285; clear BK271; clear HI274; clear BK282; clear HB; have HO279 := n0_; have HO285 := n1_; have HO294 := n2_; have BK271 := n3_; have HI274 := n4_; have BK282 := n5_; have HB := n6_; clear n0_ n1_ n2_ n3_ n4_ n5_ n6_; clear hb ho35; have hnb36 := NB282_271.out; have hnc36 := NB271_282.out; have hnb37 := NB282_274.out; have hnc37 := NB274_282.out; have hcz38_0 : w34.cell? ⟨gb282, 0, none⟩ = some (.int .i64 t275) := (blk_cell BK282.out 0).trans rfl; have hcz38_1 : w34.cell? ⟨gb282, 1, none⟩ = some (.string t276) := (blk_cell BK282.out 1).trans rfl; have hcz38_2 : w34.cell? ⟨gb282, 2, none⟩ = some (.slice Ao15 t277.length co15) := (blk_cell BK282.out 2).trans rfl; have hcz38_3 : w34.cell? ⟨gb282, 3, none⟩ = some (.bool t280) := (blk_cell BK282.out 3).trans rfl; have hfz38_0 := blk_frozen BK282.out 0; have hfz38_1 := blk_frozen BK282.out 1; have hfz38_2 := blk_frozen BK282.out 2; have hfz38_3 := blk_frozen BK282.out 3; obtain ⟨Ao39, co39, eo39⟩ := Kd.R_slice HO294.out; subst eo39) | ((with_reducible refine gate_callee (f := 14) rfl ?_); refine goesL_ (some 30) rfl rfl Try.func14 zq19 rfl #[.slice Ao39 y292.length co39, .int .i64 t275] rfl zq0 ?_; (with_reducible refine (spec_Encode.calls k _ _ y292 t275 t295 _ ?side1 ?side2 A26.out).mono ?_); (case side1 => repeat (first | exact (Kd.R_reads' HO294.out).2.2 | (with_reducible refine Kd.C_alloc ?_ _) | (with_reducible refine Kd.C_drewN ?_ _) | (with_reducible refine Kd.C_drew ?_))); (case side2 => exact (Kd.R_reads' HO294.out).2.1); rintro e w40 ⟨rfl, hb⟩; refine ⟨_, rfl, ?_⟩; have n0_ := Aside0.mk (Kd.R_below zq59 hb); have n1_ := Aside0.mk (Kd.R_below zq62 hb); have n2_ := Aside0.mk (Kd.R_below zq86 hb); have n3_ := Aside0.mk (blk_below (g := gb271) (o := .cells #[.int .i64 0, .string (⟨#[]⟩ : ByteArray), .slice none 0 0, .bool false] 25 (0, 0)) zq31 hb); have n4_ := Aside0.mk (IsS98.below zq15 hb); have n5_ := Aside0.mk (blk_below (g := gb282) (o := .cells #[.int .i64 t275, .string t276, .slice Ao15 t277.length co15, .bool t280] 25 (0, 0)) zq40 hb); have n6_ := Aside0.mk (below_step zq26 hb); clear HO279; clear HO285; clear HO294; clear BK271; clear HI274; clear BK282; clear HB; have HO279 := n0_; have HO285 := n1_; have HO294 := n2_; have BK271 := n3_; have HI274 := n4_; have BK282 := n5_; have HB := n6_; clear n0_ n1_ n2_ n3_ n4_ n5_ n6_; (try clear hb); (try clear hb2); (try clear hk); (try clear hi)) | ((with_reducible refine gate_callee (f := 29) rfl ?_); refine goesL_ (some 35) rfl rfl Try.func29 zq19 rfl #[.pointer (some ⟨g274, 0, none⟩), .int .i64 (wrap64 ((t295.size : Int) + 1))] rfl zq0 ?_; (with_reducible refine (spec_l1Rd_pick.calls k g274 t272 t289 (wrap64 ((t295.size : Int) + 1)) t296 t297 w _ ?side1 ?side2 A27.out).mono ?_); (case side1 => repeat (first | (with_reducible first | exact HI274.out | apply IsS98.alloc | apply IsS98.drewN | apply IsS98.drew | apply IsS98.set_1 | refine IsS98.far ?_ NB274_271.out _ | refine IsS98.far ?_ NB274_282.out _) | exact HI274.out)); (case side2 => repeat (first | (with_reducible first | exact HB.out | apply below_alloc | apply pw_below_drewN | apply below_drew1 | refine below_set ?_ (IsS98.ge HI274.out) | refine below_set ?_ GE271.out | refine below_set ?_ GE282.out) | exact HB.out)); rintro e w41 ⟨rfl, hi, hb, hk⟩; refine ⟨_, rfl, ?_⟩; have n0_ := Aside0.mk (KeepBut.blk hk (g' := gb271) (o := .cells #[.int .i64 0, .string (⟨#[]⟩ : ByteArray), .slice none 0 0, .bool false] 25 (0, 0)) zq31 NB271_274.out zq81); have n1_ := Aside0.mk (Kd.R_mono (Kd.R_keep (IsS98.apart (show IsS98 w _ g274 t272 t289 from zq15) zq59 zq60) hk (fun _ h => h.2)) (fun _ h => h.1)); have n2_ := Aside0.mk (KeepBut.blk hk (g' := gb282) (o := .cells #[.int .i64 t275, .string t276, .slice Ao15 t277.length co15, .bool t280] 25 (0, 0)) zq40 NB282_274.out zq81); have n3_ := Aside0.mk (Kd.R_mono (Kd.R_keep (IsS98.apart (show IsS98 w _ g274 t272 t289 from zq15) zq62 zq60) hk (fun _ h => h.2)) (fun _ h => h.1)); have n4_ := Aside0.mk (Kd.R_mono (Kd.R_keep (IsS98.apart (show IsS98 w _ g274 t272 t289 from zq15) zq86 zq60) hk (fun _ h => h.2)) (fun _ h => h.1)); have n5_ := Aside0.mk (hb); have n6_ := Aside0.mk (hi); clear BK271; clear HO279; clear BK282; clear HO285; clear HO294; clear HB; clear HI274; have BK271 := n0_; have HO279 := n1_; have BK282 := n2_; have HO285 := n3_; have HO294 := n4_; have HB := n5_; have HI274 := n6_; clear n0_ n1_ n2_ n3_ n4_ n5_ n6_; (try clear hb); (try clear hb2); (try clear hk); (try clear hi)))
       have n0_ := Aside0.mk (Kd.R_drew HO279.out)
       have n1_ := Aside0.mk (Kd.R_drew HO285.out)
       have n2_ := Aside0.mk (Kd.R_drew HO294.out)
       have n3_ := Aside0.mk (blk_drew BK271.out)
       have n4_ := Aside0.mk (blk_drew BK282.out)
       have n5_ := Aside0.mk (IsS98.drew HI274.out)
       have n6_ := Aside0.mk (below_drew1 HB.out)
       clear HO279
       clear HO285
       clear HO294
       clear BK271
       clear BK282
       clear HI274
       clear HB
       have HO279 := n0_
       have HO285 := n1_
       have HO294 := n2_
       have BK271 := n3_
       have BK282 := n4_
       have HI274 := n5_
       have HB := n6_
       clear n0_ n1_ n2_ n3_ n4_ n5_ n6_
       refine start_ (n := 8) (S := fun w' => w'.cell? ⟨gb282, 0, none⟩ = some (.int .i64 t275) ∧ w'.cell? ⟨gb282, 1, none⟩ = some (.string t276) ∧ w'.cell? ⟨gb282, 2, none⟩ = some (.slice Ao15 t277.length co15) ∧ w'.cell? ⟨gb282, 3, none⟩ = some (.bool t280)) (ds := [7]) #[false, false, false, false, false, false, false, false] zq19 rfl rfl ⟨(blk_cell BK282.out 0).trans rfl, (blk_cell BK282.out 1).trans rfl, (blk_cell BK282.out 2).trans rfl, (blk_cell BK282.out 3).trans rfl⟩ (fun hHeld => ?_); refine with_tabW spec_DrawFeed.tab10 spec_DrawFeed.bits10 (fun HT_ HW_ => ?_)
       generalize w41.drew = w42 at HO279 HO285 HO294 BK271 BK282 HI274 HB hHeld ⊢
       refine pure_ (i := 0) (N := some 36) (v := ?_) (a' := ?_) #[true, false, false, false, false, false, false, false] rfl rfl (any_of HT_.out zq19) (fun _ _ _ h => h) (Or.inl ⟨zq90, ?_⟩) ?_ ?_
       rotate_left
       ·intro w'
        go_simp
        with_reducible rfl
       rotate_left
       ·simp only [Act.put, List.setIfInBounds_toArray, List.set_cons_zero, List.set_cons_succ, i64_w, i32_w]
        rfl
       refine pure_ (i := 3) (N := some 39) (v := ?_) (a' := ?_) #[true, false, false, true, false, false, false, false] rfl rfl (any_of HT_.out zq19) (fun _ _ _ h => h) (Or.inl ⟨zq90, ?_⟩) ?_ ?_
       rotate_left
       ·intro w'
        go_simp
        with_reducible rfl
       rotate_left
       ·simp only [Act.put, List.setIfInBounds_toArray, List.set_cons_zero, List.set_cons_succ, i64_w, i32_w]
        rfl
       refine pure_ (i := 4) (N := some 40) (v := ?_) (a' := ?_) #[true, false, false, true, true, false, false, false] rfl rfl (any_of HT_.out zq19) (fun _ _ _ h => h) (Or.inl ⟨zq90, ?_⟩) ?_ ?_
       rotate_left
       ·intro w'
        go_simp
        with_reducible rfl
       rotate_left
       ·simp only [Act.put, List.setIfInBounds_toArray, List.set_cons_zero, List.set_cons_succ, i64_w, i32_w]
        rfl
       refine pure_ (i := 5) (N := some 41) (v := ?_) (a' := ?_) #[true, false, false, true, true, true, false, false] rfl rfl (any_of HT_.out zq19) (fun _ _ _ h => h) (Or.inl ⟨zq90, ?_⟩) ?_ ?_
       rotate_left
       ·intro w'
        go_simp
        with_reducible rfl
       rotate_left
       ·simp only [Act.put, List.setIfInBounds_toArray, List.set_cons_zero, List.set_cons_succ, i64_w, i32_w]
        rfl
       refine take_ (i := 1) (N := some 37) (v := ?_) (a' := ?_) #[true, true, false, true, true, true, false, false] rfl rfl (take_ofW HT_.out HW_.out zq19) (fun _ _ _ h => h) (Or.inl ⟨zq90, ?_⟩) hHeld ?_ ?_
       rotate_left
       ·rintro w' ⟨s0, s1, s2, s3⟩
        go_simp
        with_reducible rfl
       rotate_left
       ·simp only [Act.put, List.setIfInBounds_toArray, List.set_cons_zero, List.set_cons_succ, i64_w, i32_w]
        rfl
       refine pure_ (i := 2) (N := some 38) (v := ?_) (a' := ?_) #[true, true, true, true, true, true, false, false] rfl rfl (any_of HT_.out zq19) (fun _ _ _ h => h) (Or.inl ⟨zq90, ?_⟩) ?_ ?_
       rotate_left
       ·intro w'
        go_simp
        with_reducible rfl
       rotate_left
       ·simp only [Act.put, List.setIfInBounds_toArray, List.set_cons_zero, List.set_cons_succ, i64_w, i32_w]
        rfl
       refine one_ (i := 6) (N := some 42) #[true, true, true, true, true, true, true, false] rfl rfl (one_of HT_.out zq19) zq60 (fun K hK => ?_)
       refine goes_ Try.func9 zq19 rfl #[.agg #[.int .i64 t275, .string (⟨#[]⟩ : ByteArray), .slice none 0 0, .bool false], .string (t295.extract 0 (t296 : Int).toNat)] zq90 rfl rfl zq0 ?_
       refine (spec_Feed.calls k t275 (⟨#[]⟩ : ByteArray) _ _ ([] : List ByteArray) false (t295.extract 0 (t296 : Int).toNat) t298 t299 t300 t303 _ ?side1 ?side2 A30.out).mono ?_
       (case side1 => exact Kd.C_nil _ _)
       (case side2 => exact Nat.le_refl _)
       rintro e w43 ⟨v301, rfl, ho0, hb⟩
       refine ⟨_, rfl, ?_⟩
       have n0_ := Aside0.mk (Kd.R_elder' zq59 (Kd.R_base ho0) hb)
       have n1_ := Aside0.mk (Kd.R_elder' zq62 (Kd.R_base ho0) hb)
       have n2_ := Aside0.mk (Kd.R_elder' zq86 (Kd.R_base ho0) hb)
       have n3_ := Aside0.mk (Kd.R_lower (Kd.R_new' (Kd.R_new' (Kd.R_new' ho0 (Kd.R_lt zq59)) (Kd.R_lt zq62)) (Kd.R_lt zq86)) (below_size zq26))
       have n4_ := Aside0.mk (blk_below (g := gb271) (o := .cells #[.int .i64 0, .string (⟨#[]⟩ : ByteArray), .slice none 0 0, .bool false] 25 (0, 0)) zq31 hb)
       have n5_ := Aside0.mk (IsS98.below zq15 hb)
       have n6_ := Aside0.mk (blk_below (g := gb282) (o := .cells #[.int .i64 t275, .string t276, .slice Ao15 t277.length co15, .bool t280] 25 (0, 0)) zq40 hb)
       have n7_ := Aside0.mk (below_step zq26 hb)
       clear HO279
       clear HO285
       clear HO294
       clear BK271
       clear HI274
       clear BK282
       clear HB
       have HO279 := n0_
       have HO285 := n1_
       have HO294 := n2_
       have HO302 := n3_
       have BK271 := n4_
       have HI274 := n5_
       have BK282 := n6_
       have HB := n7_
       clear n0_ n1_ n2_ n3_ n4_ n5_ n6_ n7_
       (try clear hb)
       (try clear hb2)
       (try clear hk)
       (try clear hi)
       (try clear ho0)
       obtain ⟨Ao46, co46, eo46⟩ := Kd.R_slice HO302.out
       (first | subst eo46 | (injection eo46 with f1_ f2_ f3_; have f4_ := f1_.symm; have f5_ := f3_.symm; clear f1_ f2_ f3_; subst f4_; subst f5_))
       refine hK.out _ _ ⟨(blk_cell BK282.out 0).trans rfl, (blk_cell BK282.out 1).trans rfl, (blk_cell BK282.out 2).trans rfl, (blk_cell BK282.out 3).trans rfl⟩ (fun hHeld => ?_)
       clear hK K
       refine norm_ (a' := ?_) ?_ ?_
       rotate_left
       ·show Act.put _ (some 42) _ = _
        simp only [Act.put, List.setIfInBounds_toArray, List.set_cons_zero, List.set_cons_succ, i64_w, i32_w]
        rfl
       refine last_ (i := 7) (N := none) #[true, true, true, true, true, true, true, true] rfl rfl (one_of HT_.out zq19) zq60 (fun K hK => ?_)
       have hs44 : w43.cell? ⟨gb282, 0, none⟩ = some (.int .i64 t275) := (blk_cell BK282.out 0).trans rfl
       have hfs44 := blk_frozen BK282.out 0
       have hns44_0 := NB271_282.out
       have hms44_0 := NB282_271.out
       have hs45 : w43.cell? ⟨gb282, 1, none⟩ = some (.string t276) := (blk_cell BK282.out 1).trans rfl
       have hfs45 := blk_frozen BK282.out 1
       have hns45_0 := NB271_282.out
       have hms45_0 := NB282_271.out
       have hs47 : w43.cell? ⟨gb282, 2, none⟩ = some (.slice Ao15 t277.length co15) := (blk_cell BK282.out 2).trans rfl
       have hfs47 := blk_frozen BK282.out 2
       have hns47_0 := NB271_282.out
       have hms47_0 := NB282_271.out
       have hs48 : w43.cell? ⟨gb282, 3, none⟩ = some (.bool t280) := (blk_cell BK282.out 3).trans rfl
       have hfs48 := blk_frozen BK282.out 3
       have hns48_0 := NB271_282.out
       have hms48_0 := NB282_271.out
       refine skip_ (w1 := ?_) zq90 rfl ?_ ?_
       rotate_left
       ·go_simp
        rfl
       refine hK.out _ _ ?_
       clear hK K
       refine done_ (done_of HT_.out zq19) ?_
       try go_wp2
       go_meet
       case rel => exact ⟨_, ((t295.extract (t296 : Int).toNat t295.size) ++ t287), (t297), (t298), (t299), (t300), (t303), (.slice Ao46 t300.length co46), zq22, H', ⟨zq74⟩, ⟨by (with_reducible repeat (first | apply Kd.R_alloc | apply Kd.R_drewN | apply Kd.R_drew)); exact Kd.R_mono (Kd.R_far (p := ⟨gb282, 3, none⟩) (Kd.R_far (p := ⟨gb282, 2, none⟩) (Kd.R_far (p := ⟨gb282, 1, none⟩) (Kd.R_far (p := ⟨gb282, 0, none⟩) (Kd.R_types HO302.out BK282.out zq60) (fun _ hk => hk.2) (.int .i64 t298)) (fun _ hk => hk.2) (.string t299)) (fun _ hk => hk.2) (.slice Ao46 t300.length co46)) (fun _ hk => hk.2) (.bool t303)) (fun _ hk => trivial)⟩, ⟨zq66⟩, ⟨by (with_reducible repeat (first | refine blk_drewN ?_ _ | refine blk_drew ?_ | refine blk_alloc ?_ _)); refine blk_put (cs := #[.int .i64 t298, .string t299, .slice Ao46 t300.length co46, .bool t280]) ?_ 3 _ rfl; (with_reducible repeat (first | refine blk_drewN ?_ _ | refine blk_drew ?_ | refine blk_alloc ?_ _)); refine blk_put (cs := #[.int .i64 t298, .string t299, .slice Ao15 t277.length co15, .bool t280]) ?_ 2 _ rfl; (with_reducible repeat (first | refine blk_drewN ?_ _ | refine blk_drew ?_ | refine blk_alloc ?_ _)); refine blk_put (cs := #[.int .i64 t298, .string t276, .slice Ao15 t277.length co15, .bool t280]) ?_ 1 _ rfl; (with_reducible repeat (first | refine blk_drewN ?_ _ | refine blk_drew ?_ | refine blk_alloc ?_ _)); refine blk_put (cs := #[.int .i64 t275, .string t276, .slice Ao15 t277.length co15, .bool t280]) ?_ 0 _ rfl; (with_reducible repeat (first | refine blk_drewN ?_ _ | refine blk_drew ?_ | refine blk_alloc ?_ _)); exact BK282.out⟩, ⟨zq15⟩, ⟨zq26⟩⟩
      ·rw [if_neg c33] at H
       exact absurd H zq81
     ·rw [if_neg c29] at H
      exact absurd H zq81
    ·rw [if_neg c28] at H
     exact absurd H zq81
   ·rw [if_neg c25] at H
    have c25b0 : (t288 == 1) = false := beq_eq_false_iff_ne.mpr c25
    have c25b1 : (t288 != 1) = true := bne_iff_ne.mpr c25
    have H' := Aside0.mk H
    clear H
    go_wp2
    go_meet
    case rel => exact ⟨_, (t287), (t289), (t275), (t276), (t277), (t280), (.slice Ao15 t277.length co15), zq22, H', ⟨zq74⟩, ⟨zq100⟩, ⟨zq31⟩, ⟨zq40⟩, ⟨zq15⟩, ⟨zq26⟩⟩
 case rest =>
  clear HC7
  try clear c1
  try clear c2
  try clear p2
  try clear c3
  try clear c6
  try clear p6
  try clear c9
  try clear c12
  try clear c13
  try clear c14
  try clear c22
  try clear c22b0
  try clear c22b1
  try clear c25
  try clear c25b0
  try clear c25b1
  try clear c26
  try clear c27
  try clear c28
  try clear c28b0
  try clear c28b1
  try clear c29
  try clear c29b0
  try clear c29b1
  try clear c30
  try clear c31
  try clear c31b0
  try clear c32
  try clear c32b0
  try clear c33
  try clear c33b0
  try clear c33b1
  try clear c33b2
  try clear c36
  try clear c37
  try clear hcz14_0
  try clear hcz14_1
  try clear hcz14_2
  try clear hcz14_3
  try clear hcz38_0
  try clear hcz38_1
  try clear hcz38_2
  try clear hcz38_3
  try clear hfz14_0
  try clear hfz14_1
  try clear hfz14_2
  try clear hfz14_3
  try clear hfz38_0
  try clear hfz38_1
  try clear hfz38_2
  try clear hfz38_3
  obtain ⟨kq, x6_6, x275001_6, x283000_6, x283001_6, x283002_6, x283003_6, u283002, rfl, HA, HJ6, HO_283002, BK271, BK282, HI274, HB⟩ := hcut
  cases kq with
  | zero => exact absurd HA.out (by simp [spec_DrawFeed.j0])
  | succ kj6 =>
   have H := HA.out
   clear HA
   simp only [spec_DrawFeed.j0] at H
   replace H := Option.bind_eq_some_iff.mp H
   obtain ⟨⟨t304, t305⟩, A490, H⟩ := H
   try dsimp only at H
   have A49 := Aside0.mk A490
   clear A490
   have HC50 := Aside0.mk H
   clear H
   go_upto_if 50 with (first | ((with_reducible refine gate_callee (f := 29) rfl ?_); refine goesL_ (some 49) rfl rfl Try.func29 zq19 rfl #[.pointer (some ⟨g274, 0, none⟩), .int .i64 10] rfl zq0 ?_; (with_reducible refine (spec_l1Rd_pick.calls kj6 g274 t272 x275001_6 10 t304 t305 w _ ?side1 ?side2 A49.out).mono ?_); (case side1 => repeat (first | (with_reducible first | exact HI274.out | apply IsS98.alloc | apply IsS98.drewN | apply IsS98.drew | apply IsS98.set_1 | refine IsS98.far ?_ NB274_271.out _ | refine IsS98.far ?_ NB274_282.out _) | exact HI274.out)); (case side2 => repeat (first | (with_reducible first | exact HB.out | apply below_alloc | apply pw_below_drewN | apply below_drew1 | refine below_set ?_ (IsS98.ge HI274.out) | refine below_set ?_ GE271.out | refine below_set ?_ GE282.out) | exact HB.out)); rintro e w51 ⟨rfl, hi, hb, hk⟩; refine ⟨_, rfl, ?_⟩; have n0_ := Aside0.mk (Kd.R_mono (Kd.R_keep (IsS98.apart (show IsS98 w _ g274 t272 x275001_6 from zq15) zq73 zq60) hk (fun _ h => h.2)) (fun _ h => h.1)); have n1_ := Aside0.mk (KeepBut.blk hk (g' := gb271) (o := .cells #[.int .i64 0, .string (⟨#[]⟩ : ByteArray), .slice none 0 0, .bool false] 25 (0, 0)) zq31 NB271_274.out zq81); have n2_ := Aside0.mk (KeepBut.blk hk (g' := gb282) (o := .cells #[.int .i64 x283000_6, .string x283001_6, u283002, .bool x283003_6] 25 (0, 0)) zq40 NB282_274.out zq81); have n3_ := Aside0.mk (hb); have n4_ := Aside0.mk (hi); clear HO_283002; clear BK271; clear BK282; clear HB; clear HI274; have HO_283002 := n0_; have BK271 := n1_; have BK282 := n2_; have HB := n3_; have HI274 := n4_; clear n0_ n1_ n2_ n3_ n4_; (try clear hb); (try clear hb2); (try clear hk); (try clear hi)))
   (try simp only [Act.put, List.setIfInBounds_toArray, List.set_cons_zero, List.set_cons_succ])
   go_cut [6] (fun v6 wc => ∃ (kq : Nat) (x6_49 : ByteArray), v6 = .string x6_49 ∧ Aside0 (spec_DrawFeed.j1 kq x6_49 t272 t305 x283000_6 x283001_6 x283002_6 x283003_6 = some (r1, r2, r3, r4, r5)) ∧ Aside0 (kq ≤ kj6) ∧ Aside0 (Kd.R Kd.string 9 wc w.heap.size (fun _ => True) u283002 x283002_6) ∧ Aside0 (wc.heap[gb271]? = some (.cells #[.int .i64 0, .string (⟨#[]⟩ : ByteArray), (.slice none 0 0), .bool false] 25 (0, 0))) ∧ Aside0 (wc.heap[gb282]? = some (.cells #[.int .i64 x283000_6, .string x283001_6, u283002, .bool x283003_6] 25 (0, 0))) ∧ Aside0 (IsS98 w wc g274 t272 t305) ∧ Aside0 (Below w.heap.size w wc))
   case first =>
    have H := HC50.out
    clear HC50
    by_cases c52 : t304 = 0
    ·rw [if_pos c52] at H
     have c52b0 : (t304 == 0) = true := beq_iff_eq.mpr c52
     have c52b1 : (t304 != 0) = false := bne_eq_false_iff_eq.mpr c52
     clear c52
     (first | rw [c52b0] | (simp only [i64_w, i32_w]; rw [c52b0]) | skip)
     replace H := Option.bind_eq_some_iff.mp H
     obtain ⟨t306, A530, H⟩ := H
     try dsimp only at H
     have A53 := Aside0.mk A530
     clear A530
     by_cases c54 : 3 + t306.size ≤ 9223372036854775807
     ·rw [if_pos c54] at H
      have c54b0 := eq_true c54
      have c54b1 : decide (3 + t306.size ≤ 9223372036854775807) = true := decide_eq_true c54
      try have c54b2 : (9223372036854775807 < 3 + t306.size) = False := eq_false (Nat.not_lt.2 c54)
      by_cases c55 : ((⟨#[129, 0, 97]⟩ : ByteArray) ++ t306).size + x6_6.size ≤ 9223372036854775807
      ·rw [if_pos c55] at H
       have c55b0 := eq_true c55
       have c55b1 : decide (((⟨#[129, 0, 97]⟩ : ByteArray) ++ t306).size + x6_6.size ≤ 9223372036854775807) = true := decide_eq_true c55
       try have c55b2 : (9223372036854775807 < ((⟨#[129, 0, 97]⟩ : ByteArray) ++ t306).size + x6_6.size) = False := eq_false (Nat.not_lt.2 c55)
       have H' := Aside0.mk H
       clear H
       have hnb56 := NB282_271.out
       have hnc56 := NB271_282.out
       have hnb57 := NB282_274.out
       have hnc57 := NB274_282.out
       have hcz58_0 : w51.cell? ⟨gb282, 0, none⟩ = some (.int .i64 x283000_6) := (blk_cell BK282.out 0).trans rfl
       have hcz58_1 : w51.cell? ⟨gb282, 1, none⟩ = some (.string x283001_6) := (blk_cell BK282.out 1).trans rfl
       have hcz58_2 : w51.cell? ⟨gb282, 2, none⟩ = some (u283002) := (blk_cell BK282.out 2).trans rfl
       have hcz58_3 : w51.cell? ⟨gb282, 3, none⟩ = some (.bool x283003_6) := (blk_cell BK282.out 3).trans rfl
       have hfz58_0 := blk_frozen BK282.out 0
       have hfz58_1 := blk_frozen BK282.out 1
       have hfz58_2 := blk_frozen BK282.out 2
       have hfz58_3 := blk_frozen BK282.out 3
       go_wp2_with (first | ((with_reducible refine gate_callee (f := 31) rfl ?_); refine goesL_ (some 53) rfl rfl Try.func31 zq19 rfl #[.string (⟨#[97]⟩ : ByteArray), .int .i64 x283000_6] rfl zq0 ?_; (with_reducible refine (spec_Sum.calls kj6 (⟨#[97]⟩ : ByteArray) x283000_6 t306 _ A53.out).mono ?_); rintro e w59 ⟨rfl, hb⟩; refine ⟨_, rfl, ?_⟩; have n0_ := Aside0.mk (Kd.R_below zq73 hb); have n1_ := Aside0.mk (blk_below (g := gb271) (o := .cells #[.int .i64 0, .string (⟨#[]⟩ : ByteArray), .slice none 0 0, .bool false] 25 (0, 0)) zq31 hb); have n2_ := Aside0.mk (blk_below (g := gb282) (o := .cells #[.int .i64 x283000_6, .string x283001_6, u283002, .bool x283003_6] 25 (0, 0)) zq40 hb); have n3_ := Aside0.mk (IsS98.below zq15 hb); have n4_ := Aside0.mk (below_step zq26 hb); clear HO_283002; clear BK271; clear BK282; clear HI274; clear HB; have HO_283002 := n0_; have BK271 := n1_; have BK282 := n2_; have HI274 := n3_; have HB := n4_; clear n0_ n1_ n2_ n3_ n4_; (try clear hb); (try clear hb2); (try clear hk); (try clear hi)))
       go_meet
       case rel => exact ⟨_, (((⟨#[129, 0, 97]⟩ : ByteArray) ++ t306) ++ x6_6), zq22, H', ⟨by have := HJ6.out; first | omega | exact Nat.le_refl _⟩, ⟨zq73⟩, ⟨zq31⟩, ⟨zq40⟩, ⟨zq15⟩, ⟨zq26⟩⟩
      ·rw [if_neg c55] at H
       exact absurd H zq81
     ·rw [if_neg c54] at H
      exact absurd H zq81
    ·rw [if_neg c52] at H
     have c52b0 : (t304 == 0) = false := beq_eq_false_iff_ne.mpr c52
     have c52b1 : (t304 != 0) = true := bne_iff_ne.mpr c52
     (first | rw [c52b0] | (simp only [i64_w, i32_w]; rw [c52b0]) | skip)
     have H' := Aside0.mk H
     clear H
     go_wp2
     go_meet
     case rel => exact ⟨_, (x6_6), zq22, H', ⟨by have := HJ6.out; first | omega | exact Nat.le_refl _⟩, ⟨zq73⟩, ⟨zq31⟩, ⟨zq40⟩, ⟨zq15⟩, ⟨zq26⟩⟩
   case rest =>
    clear HC50
    try clear c1
    try clear c2
    try clear p2
    try clear c3
    try clear c5
    try clear c6
    try clear p6
    try clear c9
    try clear c12
    try clear c13
    try clear c14
    try clear c22
    try clear c22b0
    try clear c22b1
    try clear c25
    try clear c25b0
    try clear c25b1
    try clear c26
    try clear c27
    try clear c28
    try clear c28b0
    try clear c28b1
    try clear c29
    try clear c29b0
    try clear c29b1
    try clear c30
    try clear c31
    try clear c31b0
    try clear c32
    try clear c32b0
    try clear c33
    try clear c33b0
    try clear c33b1
    try clear c33b2
    try clear c36
    try clear c37
    try clear c52
    try clear c52b0
    try clear c52b1
    try clear c54
    try clear c54b0
    try clear c54b1
    try clear c54b2
    try clear c55
    try clear c55b0
    try clear c55b1
    try clear c55b2
    try clear c56
    try clear c57
    try clear hcz14_0
    try clear hcz14_1
    try clear hcz14_2
    try clear hcz14_3
    try clear hcz38_0
    try clear hcz38_1
    try clear hcz38_2
    try clear hcz38_3
    try clear hcz58_0
    try clear hcz58_1
    try clear hcz58_2
    try clear hcz58_3
    try clear hfz14_0
    try clear hfz14_1
    try clear hfz14_2
    try clear hfz14_3
    try clear hfz38_0
    try clear hfz38_1
    try clear hfz38_2
    try clear hfz38_3
    try clear hfz58_0
    try clear hfz58_1
    try clear hfz58_2
    try clear hfz58_3
    try clear p2
    try clear p6
    obtain ⟨kq, x6_49, rfl, HA, HJ49, HO_283002, BK271, BK282, HI274, HB⟩ := hcut
    cases kq with
    | zero => exact absurd HA.out (by simp [spec_DrawFeed.j1])
    | succ kj49 =>
     have H := HA.out
     clear HA
     simp only [spec_DrawFeed.j1] at H
     replace H := Option.bind_eq_some_iff.mp H
     obtain ⟨⟨t307, t308⟩, A600, H⟩ := H
     try dsimp only at H
     have A60 := Aside0.mk A600
     clear A600
     by_cases c61 : t307 = 0
     ·rw [if_pos c61] at H
      have c61b0 : (t307 == 0) = true := beq_iff_eq.mpr c61
      have c61b1 : (t307 != 0) = false := bne_eq_false_iff_eq.mpr c61
      clear c61
      replace H := Option.bind_eq_some_iff.mp H
      obtain ⟨⟨t309, t310, t311, t314, t315⟩, A620, H⟩ := H
      try dsimp only at H
      have A62 := Aside0.mk A620
      clear A620
      simp only [Option.some.injEq, Prod.mk.injEq] at H
      obtain ⟨rfl, rfl, rfl, rfl, rfl⟩ := H
      go_wp2_with (first | ((with_reducible refine gate_callee (f := 29) rfl ?_); refine goesL_ (some 58) rfl rfl Try.func29 zq19 rfl #[.pointer (some ⟨g274, 0, none⟩), .int .i64 8] rfl zq0 ?_; (with_reducible refine (spec_l1Rd_pick.calls kj49 g274 t272 t305 8 t307 t308 w _ ?side1 ?side2 A60.out).mono ?_); (case side1 => repeat (first | (with_reducible first | exact HI274.out | apply IsS98.alloc | apply IsS98.drewN | apply IsS98.drew | apply IsS98.set_1 | refine IsS98.far ?_ NB274_271.out _ | refine IsS98.far ?_ NB274_282.out _) | exact HI274.out)); (case side2 => repeat (first | (with_reducible first | exact HB.out | apply below_alloc | apply pw_below_drewN | apply below_drew1 | refine below_set ?_ (IsS98.ge HI274.out) | refine below_set ?_ GE271.out | refine below_set ?_ GE282.out) | exact HB.out)); rintro e w63 ⟨rfl, hi, hb, hk⟩; refine ⟨_, rfl, ?_⟩; have n0_ := Aside0.mk (Kd.R_mono (Kd.R_keep (IsS98.apart (show IsS98 w _ g274 t272 t305 from zq15) zq73 zq60) hk (fun _ h => h.2)) (fun _ h => h.1)); have n1_ := Aside0.mk (KeepBut.blk hk (g' := gb271) (o := .cells #[.int .i64 0, .string (⟨#[]⟩ : ByteArray), .slice none 0 0, .bool false] 25 (0, 0)) zq31 NB271_274.out zq81); have n2_ := Aside0.mk (KeepBut.blk hk (g' := gb282) (o := .cells #[.int .i64 x283000_6, .string x283001_6, u283002, .bool x283003_6] 25 (0, 0)) zq40 NB282_274.out zq81); have n3_ := Aside0.mk (hb); have n4_ := Aside0.mk (hi); clear HO_283002; clear BK271; clear BK282; clear HB; clear HI274; have HO_283002 := n0_; have BK271 := n1_; have BK282 := n2_; have HB := n3_; have HI274 := n4_; clear n0_ n1_ n2_ n3_ n4_; (try clear hb); (try clear hb2); (try clear hk); (try clear hi); have hnb64 := NB282_271.out; have hnc64 := NB271_282.out; have hnb65 := NB282_274.out; have hnc65 := NB274_282.out; have hcz66_0 : w63.cell? ⟨gb282, 0, none⟩ = some (.int .i64 x283000_6) := (blk_cell BK282.out 0).trans rfl; have hcz66_1 : w63.cell? ⟨gb282, 1, none⟩ = some (.string x283001_6) := (blk_cell BK282.out 1).trans rfl; have hcz66_2 : w63.cell? ⟨gb282, 2, none⟩ = some (u283002) := (blk_cell BK282.out 2).trans rfl; have hcz66_3 : w63.cell? ⟨gb282, 3, none⟩ = some (.bool x283003_6) := (blk_cell BK282.out 3).trans rfl; have hfz66_0 := blk_frozen BK282.out 0; have hfz66_1 := blk_frozen BK282.out 1; have hfz66_2 := blk_frozen BK282.out 2; have hfz66_3 := blk_frozen BK282.out 3; obtain ⟨Ao67, co67, eo67⟩ := Kd.R_slice HO_283002.out; subst eo67) | ((with_reducible refine gate_callee (f := 32) rfl ?_); refine goesL_ (some 62) rfl rfl Try.func32 zq19 rfl #[.pointer (some ⟨g274, 0, none⟩), .agg #[.int .i64 x283000_6, .string x283001_6, .slice Ao67 x283002_6.length co67, .bool x283003_6]] rfl zq0 ?_; (with_reducible refine (spec_l3Spoil.calls kj49 g274 t272 t308 x283000_6 x283001_6 (fun k_ => some k_ = (.slice Ao67 x283002_6.length co67 : Value).ownBlock) (.slice Ao67 x283002_6.length co67) x283002_6 x283003_6 t309 t310 t311 t314 t315 w _ ?side1 ?side2 ?side3 A62.out).mono ?_); (case side1 => repeat (first | (with_reducible first | exact HI274.out | apply IsS98.alloc | apply IsS98.drewN | apply IsS98.drew | apply IsS98.set_1 | refine IsS98.far ?_ NB274_271.out _ | refine IsS98.far ?_ NB274_282.out _) | exact HI274.out)); (case side2 => repeat (first | (with_reducible first | exact HB.out | apply below_alloc | apply pw_below_drewN | apply below_drew1 | refine below_set ?_ (IsS98.ge HI274.out) | refine below_set ?_ GE271.out | refine below_set ?_ GE282.out) | exact HB.out)); (case side3 => exact Kd.R_tight rfl HO_283002.out); rintro e w68 ⟨v312, rfl, ho0, hi, hb, hkp⟩; refine ⟨_, rfl, ?_⟩; have n0_ := Aside0.mk (blk_kept zq31 hkp (fun hs_ => Or.elim hs_ (fun hs_ => (fun e_ => (Kd.R_ne HO_283002.out BK271.out zq60) e_) hs_) (fun e_ => NB271_274.out e_))); have n1_ := Aside0.mk (blk_kept zq40 hkp (fun hs_ => Or.elim hs_ (fun hs_ => (fun e_ => (Kd.R_ne HO_283002.out BK282.out zq60) e_) hs_) (fun e_ => NB282_274.out e_))); have n2_ := Aside0.mk (hi); have n3_ := Aside0.mk (Kd.R_mono (ok' := fun k_ => True) ho0 (fun k_ hk_ => trivial)); have n4_ := Aside0.mk (hb); clear BK271; clear BK282; clear HI274; clear HB; clear HO_283002; have BK271 := n0_; have BK282 := n1_; have HI274 := n2_; have HO313 := n3_; have HB := n4_; clear n0_ n1_ n2_ n3_ n4_; (try clear hb); (try clear hkp); (try clear ho0); have hcz69_0 : w68.cell? ⟨gb282, 0, none⟩ = some (.int .i64 x283000_6) := (blk_cell BK282.out 0).trans rfl; have hcz69_1 : w68.cell? ⟨gb282, 1, none⟩ = some (.string x283001_6) := (blk_cell BK282.out 1).trans rfl; have hcz69_2 : w68.cell? ⟨gb282, 2, none⟩ = some (.slice Ao67 x283002_6.length co67) := (blk_cell BK282.out 2).trans rfl; have hcz69_3 : w68.cell? ⟨gb282, 3, none⟩ = some (.bool x283003_6) := (blk_cell BK282.out 3).trans rfl; have hfz69_0 := blk_frozen BK282.out 0; have hfz69_1 := blk_frozen BK282.out 1; have hfz69_2 := blk_frozen BK282.out 2; have hfz69_3 := blk_frozen BK282.out 3; obtain ⟨Ao70, co70, eo70⟩ := Kd.R_slice HO313.out; subst eo70; have hnb71 := NB271_274.out; have hnc71 := NB274_271.out; have hcz72_0 : w68.cell? ⟨gb271, 0, none⟩ = some (.int .i64 0) := (blk_cell BK271.out 0).trans rfl; have hcz72_1 : w68.cell? ⟨gb271, 1, none⟩ = some (.string (⟨#[]⟩ : ByteArray)) := (blk_cell BK271.out 1).trans rfl; have hcz72_2 : w68.cell? ⟨gb271, 2, none⟩ = some (.slice none 0 0) := (blk_cell BK271.out 2).trans rfl; have hcz72_3 : w68.cell? ⟨gb271, 3, none⟩ = some (.bool false) := (blk_cell BK271.out 3).trans rfl; have hfz72_0 := blk_frozen BK271.out 0; have hfz72_1 := blk_frozen BK271.out 1; have hfz72_2 := blk_frozen BK271.out 2; have hfz72_3 := blk_frozen BK271.out 3))
      refine bodyPost_ret (results_ct rfl _ _ gb271 25 #[.int .i64 t309, .string t310, .slice Ao70 t311.length co70, .bool t314] (0, 0) _ rfl (by (with_reducible repeat (first | refine blk_drewN ?_ _ | refine blk_drew ?_ | refine blk_alloc ?_ _)); refine blk_put (cs := #[.int .i64 t309, .string t310, .slice Ao70 t311.length co70, .bool false]) ?_ 3 _ rfl; (with_reducible repeat (first | refine blk_drewN ?_ _ | refine blk_drew ?_ | refine blk_alloc ?_ _)); refine blk_put (cs := #[.int .i64 t309, .string t310, .slice none 0 0, .bool false]) ?_ 2 _ rfl; (with_reducible repeat (first | refine blk_drewN ?_ _ | refine blk_drew ?_ | refine blk_alloc ?_ _)); refine blk_put (cs := #[.int .i64 t309, .string (⟨#[]⟩ : ByteArray), .slice none 0 0, .bool false]) ?_ 1 _ rfl; (with_reducible repeat (first | refine blk_drewN ?_ _ | refine blk_drew ?_ | refine blk_alloc ?_ _)); refine blk_put (cs := #[.int .i64 0, .string (⟨#[]⟩ : ByteArray), .slice none 0 0, .bool false]) ?_ 0 _ rfl; (with_reducible repeat (first | refine blk_drewN ?_ _ | refine blk_drew ?_ | refine blk_alloc ?_ _)); refine blk_far ?_ NB271_282.out _; (with_reducible repeat (first | refine blk_drewN ?_ _ | refine blk_drew ?_ | refine blk_alloc ?_ _)); refine blk_far ?_ NB271_282.out _; (with_reducible repeat (first | refine blk_drewN ?_ _ | refine blk_drew ?_ | refine blk_alloc ?_ _)); refine blk_far ?_ NB271_282.out _; (with_reducible repeat (first | refine blk_drewN ?_ _ | refine blk_drew ?_ | refine blk_alloc ?_ _)); refine blk_far ?_ NB271_282.out _; (with_reducible repeat (first | refine blk_drewN ?_ _ | refine blk_drew ?_ | refine blk_alloc ?_ _)); exact BK271.out) Try.underlying25 rfl zq19) rfl ?_
      exact ⟨_, zq8, by (with_reducible repeat (first | apply Kd.R_alloc | apply Kd.R_drewN | apply Kd.R_drew)); exact Kd.R_mono (Kd.R_far (p := ⟨gb271, 3, none⟩) (Kd.R_far (p := ⟨gb271, 2, none⟩) (Kd.R_far (p := ⟨gb271, 1, none⟩) (Kd.R_far (p := ⟨gb271, 0, none⟩) (Kd.R_far (p := ⟨gb282, 3, none⟩) (Kd.R_far (p := ⟨gb282, 2, none⟩) (Kd.R_far (p := ⟨gb282, 1, none⟩) (Kd.R_far (p := ⟨gb282, 0, none⟩) (Kd.R_types (Kd.R_types HO313.out BK282.out zq60) BK271.out zq60) (fun _ hk => hk.1.2) (.int .i64 t309)) (fun _ hk => hk.1.2) (.string t310)) (fun _ hk => hk.1.2) (.slice Ao70 t311.length co70)) (fun _ hk => hk.1.2) (.bool t314)) (fun _ hk => hk.2) (.int .i64 t309)) (fun _ hk => hk.2) (.string t310)) (fun _ hk => hk.2) (.slice Ao70 t311.length co70)) (fun _ hk => hk.2) (.bool t314)) (fun _ hk => trivial), zq26⟩
     ·rw [if_neg c61] at H
      have c61b0 : (t307 == 0) = false := beq_eq_false_iff_ne.mpr c61
      have c61b1 : (t307 != 0) = true := bne_iff_ne.mpr c61
      simp only [Option.some.injEq, Prod.mk.injEq] at H
      obtain ⟨rfl, rfl, rfl, rfl, rfl⟩ := H
      go_wp2_with (first | ((with_reducible refine gate_callee (f := 29) rfl ?_); refine goesL_ (some 58) rfl rfl Try.func29 zq19 rfl #[.pointer (some ⟨g274, 0, none⟩), .int .i64 8] rfl zq0 ?_; (with_reducible refine (spec_l1Rd_pick.calls kj49 g274 t272 t305 8 t307 t308 w _ ?side1 ?side2 A60.out).mono ?_); (case side1 => repeat (first | (with_reducible first | exact HI274.out | apply IsS98.alloc | apply IsS98.drewN | apply IsS98.drew | apply IsS98.set_1 | refine IsS98.far ?_ NB274_271.out _ | refine IsS98.far ?_ NB274_282.out _) | exact HI274.out)); (case side2 => repeat (first | (with_reducible first | exact HB.out | apply below_alloc | apply pw_below_drewN | apply below_drew1 | refine below_set ?_ (IsS98.ge HI274.out) | refine below_set ?_ GE271.out | refine below_set ?_ GE282.out) | exact HB.out)); rintro e w73 ⟨rfl, hi, hb, hk⟩; refine ⟨_, rfl, ?_⟩; have n0_ := Aside0.mk (Kd.R_mono (Kd.R_keep (IsS98.apart (show IsS98 w _ g274 t272 t305 from zq15) zq73 zq60) hk (fun _ h => h.2)) (fun _ h => h.1)); have n1_ := Aside0.mk (KeepBut.blk hk (g' := gb271) (o := .cells #[.int .i64 0, .string (⟨#[]⟩ : ByteArray), .slice none 0 0, .bool false] 25 (0, 0)) zq31 NB271_274.out zq81); have n2_ := Aside0.mk (KeepBut.blk hk (g' := gb282) (o := .cells #[.int .i64 x283000_6, .string x283001_6, u283002, .bool x283003_6] 25 (0, 0)) zq40 NB282_274.out zq81); have n3_ := Aside0.mk (hb); have n4_ := Aside0.mk (hi); clear HO_283002; clear BK271; clear BK282; clear HB; clear HI274; have HO_283002 := n0_; have BK271 := n1_; have BK282 := n2_; have HB := n3_; have HI274 := n4_; clear n0_ n1_ n2_ n3_ n4_; (try clear hb); (try clear hb2); (try clear hk); (try clear hi); have hnb74 := NB282_271.out; have hnc74 := NB271_282.out; have hnb75 := NB282_274.out; have hnc75 := NB274_282.out; have hcz76_0 : w73.cell? ⟨gb282, 0, none⟩ = some (.int .i64 x283000_6) := (blk_cell BK282.out 0).trans rfl; have hcz76_1 : w73.cell? ⟨gb282, 1, none⟩ = some (.string x283001_6) := (blk_cell BK282.out 1).trans rfl; have hcz76_2 : w73.cell? ⟨gb282, 2, none⟩ = some (u283002) := (blk_cell BK282.out 2).trans rfl; have hcz76_3 : w73.cell? ⟨gb282, 3, none⟩ = some (.bool x283003_6) := (blk_cell BK282.out 3).trans rfl; have hfz76_0 := blk_frozen BK282.out 0; have hfz76_1 := blk_frozen BK282.out 1; have hfz76_2 := blk_frozen BK282.out 2; have hfz76_3 := blk_frozen BK282.out 3; have hnb77 := NB271_274.out; have hnc77 := NB274_271.out; have hcz78_0 : w73.cell? ⟨gb271, 0, none⟩ = some (.int .i64 0) := (blk_cell BK271.out 0).trans rfl; have hcz78_1 : w73.cell? ⟨gb271, 1, none⟩ = some (.string (⟨#[]⟩ : ByteArray)) := (blk_cell BK271.out 1).trans rfl; have hcz78_2 : w73.cell? ⟨gb271, 2, none⟩ = some (.slice none 0 0) := (blk_cell BK271.out 2).trans rfl; have hcz78_3 : w73.cell? ⟨gb271, 3, none⟩ = some (.bool false) := (blk_cell BK271.out 3).trans rfl; have hfz78_0 := blk_frozen BK271.out 0; have hfz78_1 := blk_frozen BK271.out 1; have hfz78_2 := blk_frozen BK271.out 2; have hfz78_3 := blk_frozen BK271.out 3; obtain ⟨Ao79, co79, eo79⟩ := Kd.R_slice HO_283002.out; subst eo79))
      refine bodyPost_ret (results_ct rfl _ _ gb271 25 #[.int .i64 x283000_6, .string x283001_6, .slice Ao79 x283002_6.length co79, .bool x283003_6] (0, 0) _ rfl (by (with_reducible repeat (first | refine blk_drewN ?_ _ | refine blk_drew ?_ | refine blk_alloc ?_ _)); refine blk_put (cs := #[.int .i64 x283000_6, .string x283001_6, .slice Ao79 x283002_6.length co79, .bool false]) ?_ 3 _ rfl; (with_reducible repeat (first | refine blk_drewN ?_ _ | refine blk_drew ?_ | refine blk_alloc ?_ _)); refine blk_put (cs := #[.int .i64 x283000_6, .string x283001_6, .slice none 0 0, .bool false]) ?_ 2 _ rfl; (with_reducible repeat (first | refine blk_drewN ?_ _ | refine blk_drew ?_ | refine blk_alloc ?_ _)); refine blk_put (cs := #[.int .i64 x283000_6, .string (⟨#[]⟩ : ByteArray), .slice none 0 0, .bool false]) ?_ 1 _ rfl; (with_reducible repeat (first | refine blk_drewN ?_ _ | refine blk_drew ?_ | refine blk_alloc ?_ _)); refine blk_put (cs := #[.int .i64 0, .string (⟨#[]⟩ : ByteArray), .slice none 0 0, .bool false]) ?_ 0 _ rfl; (with_reducible repeat (first | refine blk_drewN ?_ _ | refine blk_drew ?_ | refine blk_alloc ?_ _)); exact BK271.out) Try.underlying25 rfl zq19) rfl ?_
      exact ⟨_, zq8, by (with_reducible repeat (first | apply Kd.R_alloc | apply Kd.R_drewN | apply Kd.R_drew)); exact Kd.R_mono (Kd.R_far (p := ⟨gb271, 3, none⟩) (Kd.R_far (p := ⟨gb271, 2, none⟩) (Kd.R_far (p := ⟨gb271, 1, none⟩) (Kd.R_far (p := ⟨gb271, 0, none⟩) (Kd.R_types HO_283002.out BK271.out zq60) (fun _ hk => hk.2) (.int .i64 x283000_6)) (fun _ hk => hk.2) (.string x283001_6)) (fun _ hk => hk.2) (.slice Ao79 x283002_6.length co79)) (fun _ hk => hk.2) (.bool x283003_6)) (fun _ hk => trivial), zq26⟩
end Go.Proofs.Ytgjipjffpodjlaa.K
namespace Go.Proofs.Ytgjipjffpodjlaa.K
open Go.RowKit Go.Proofs.YtgjipjffpodjlaaW.PrintWords Go.Proofs.YtgjipjffpodjlaaW.PrintLast Go.Proofs.YtgjipjffpodjlaaW.PrintMore
attribute [local go_sem] max2_int min2_int max_two min_two max_three min_three max_four min_four   
set_option linter.unusedVariables false
set_option linter.unusedSimpArgs false
def laws_wTexts.l0 : Nat → List ByteArray → List ByteArray → Int → Option (Bool)
 | 0, _, _, _ => none
 | k + 1, x0, x1, x5 => if x5 < (x0.length : Int) then (if 0 ≤ x5 then (if x5 < (x1.length : Int) then (if (rdOf ByteArray.empty x0 x5).toList = (rdOf ByteArray.empty x1 x5).toList then (laws_wTexts.l0 k x0 x1 (wrap64 (x5 + 1))) else (some false)) else (none)) else (none)) else (some true)
def laws_wTexts.f (k : Nat) (l0 : List ByteArray) (l1 : List ByteArray) : Option (Bool) := if (l0.length : Int) = (l1.length : Int) then (laws_wTexts.l0 k l0 l1 0) else (some false)
theorem laws_wTexts.mono_l : ∀ k, (∀ y0 y1 y2, LeO (laws_wTexts.l0 k y0 y1 y2) (laws_wTexts.l0 (k + 1) y0 y1 y2))
 | 0 => fun _ _ _ r h => by simp [laws_wTexts.l0] at h
 | k + 1 => by
  have ih0 := laws_wTexts.mono_l k
  ·intro y0 y1 y2
   unfold laws_wTexts.l0
   repeat' first
   | (with_reducible exact ih0 _ _ _)
   | (with_reducible exact LeO.refl _)
   | (with_reducible exact LeO.none _)
   | (with_reducible refine LeO.ite ?_ ?_)
   | (with_reducible refine LeO.bind ?_ (fun _ => ?_))
   | exact ih0 _ _ _
   | exact LeO.none _
   | refine LeO.ite ?_ ?_
   | refine LeO.bind ?_ (fun _ => ?_)
theorem laws_wTexts.mono : ∀ a0 a1 k, LeO (laws_wTexts.f k a0 a1) (laws_wTexts.f (k + 1) a0 a1) := by
 intro a0 a1 k
 have ih0 := laws_wTexts.mono_l k
 unfold laws_wTexts.f
 repeat' first
   | (with_reducible exact ih0 _ _ _)
   | (with_reducible exact LeO.refl _)
   | (with_reducible exact LeO.none _)
   | (with_reducible refine LeO.ite ?_ ?_)
   | (with_reducible refine LeO.bind ?_ (fun _ => ?_))
   | exact ih0 _ _ _
   | exact LeO.none _
   | refine LeO.ite ?_ ?_
   | refine LeO.bind ?_ (fun _ => ?_)
set_option maxHeartbeats 2000000 in
set_option maxRecDepth 100000 in
theorem laws_wTexts.calls (k : Nat) (A0 : Option Addr) (c0 : Nat) (l0 : List ByteArray) (A1 : Option Addr) (c1 : Nat) (l1 : List ByteArray) (r : Bool) (w : World) (hr0 : Kd.C Kd.string w A0 l0.length l0) (hc0 : l0.length ≤ c0) (hr1 : Kd.C Kd.string w A1 l1.length l1) (hc1 : l1.length ≤ c1) (h : laws_wTexts.f k l0 l1 = some r) :
  Calls Try.prog 15 #[.slice A0 l0.length c0, .slice A1 l1.length c1] w fun e w' => e = .returned (.bool r) ∧ Drawn0 w w' := by
 have HR0 := Aside0.mk hr0
 have HC0 := Aside0.mk hc0
 clear hr0 hc0
 have HR1 := Aside0.mk hr1
 have HC1 := Aside0.mk hc1
 clear hr1 hc1
 have H : (if (l0.length : Int) = (l1.length : Int) then (laws_wTexts.l0 k l0 l1 0) else (some false)) = some r := h
 clear h
 by_cases c3 : (l0.length : Int) = (l1.length : Int)
 ·rw [if_pos c3] at H
  have c3b0 : ((l0.length : Int) == (l1.length : Int)) = true := beq_iff_eq.mpr c3
  have c3b1 : ((l0.length : Int) != (l1.length : Int)) = false := bne_eq_false_iff_eq.mpr c3
  have c3b2 : (l0.length == l1.length) = true := by first | simpa using c3 | (simp at c3 ⊢; omega)
  clear c3
  have H' := Aside0.mk H
  clear H
  go_enter Try.func15, Try.ntmps15
  go_wp2
  repeat (go_quiet (fail); try go_wp2)
  go_loopg [5] k (fun kq v5 w' => ∃ (x5_1 : Int), v5 = .int .i64 x5_1 ∧ Aside0 (laws_wTexts.l0 kq l0 l1 x5_1 = some r) ∧ Aside0 (kq ≤ k) ∧ Drawn0 w w')
  case atStart => exact ⟨(0), zq22, H', ⟨Nat.le_refl _⟩, zq68⟩
  case round =>
   clear H'
   try clear c1
   try clear p2
   try clear c3
   try clear c3b0
   try clear c3b1
   try clear c3b2
   obtain ⟨x5_1, rfl, HA, HK1, ⟨m1, rfl⟩⟩ := hrel
   cases gk with
   | zero => exact absurd HA.out (by simp [laws_wTexts.l0])
   | succ k1 =>
    have H := HA.out
    clear HA
    simp only [laws_wTexts.l0] at H
    by_cases c4 : x5_1 < (l0.length : Int)
    ·rw [if_pos c4] at H
     have c4b0 : decide (x5_1 < (l0.length : Int)) = true := decide_eq_true c4
     clear c4
     by_cases c5 : 0 ≤ x5_1
     ·rw [if_pos c5] at H
      have c5b0 : decide (0 ≤ x5_1) = true := decide_eq_true c5
      clear c5
      by_cases c6 : x5_1 < (l1.length : Int)
      ·rw [if_pos c6] at H
       have c6b0 : decide (x5_1 < (l1.length : Int)) = true := decide_eq_true c6
       clear c6
       by_cases c7 : (rdOf ByteArray.empty l0 x5_1).toList = (rdOf ByteArray.empty l1 x5_1).toList
       ·rw [if_pos c7] at H
        have c7b0 : ((rdOf ByteArray.empty l0 x5_1).toList == (rdOf ByteArray.empty l1 x5_1).toList) = true := beq_iff_eq.mpr c7
        have c7b1 : ((rdOf ByteArray.empty l0 x5_1).toList != (rdOf ByteArray.empty l1 x5_1).toList) = false := bne_eq_false_iff_eq.mpr c7
        clear c7
        have H' := Aside0.mk H
        clear H
        have p346 : 0 ≤ (x5_1 : Int) := of_decide_eq_true zq23
        have q346 : x5_1 < (l0.length : Int) := of_decide_eq_true zq23
        obtain ⟨ad346, e346, hx346_0⟩ := Kd.at_string HR0.out x5_1 p346 q346
        cases e346
        replace p346 := eq_true p346
        replace q346 := eq_true q346
        have p347 : 0 ≤ (x5_1 : Int) := of_decide_eq_true zq23
        have q347 : x5_1 < (l1.length : Int) := of_decide_eq_true zq23
        obtain ⟨ad347, e347, hx347_0⟩ := Kd.at_string HR1.out x5_1 p347 q347
        cases e347
        replace p347 := eq_true p347
        replace q347 := eq_true q347
        go_wp2
        repeat (go_quiet (fail); try go_wp2)
        go_roundg k1
        case measure => have := HK1.out; omega
        case rel => exact ⟨(wrap64 (x5_1 + 1)), zq22, H', ⟨zq88⟩, zq68⟩
       ·rw [if_neg c7] at H
        have c7b0 : ((rdOf ByteArray.empty l0 x5_1).toList == (rdOf ByteArray.empty l1 x5_1).toList) = false := beq_eq_false_iff_ne.mpr c7
        have c7b1 : ((rdOf ByteArray.empty l0 x5_1).toList != (rdOf ByteArray.empty l1 x5_1).toList) = true := bne_iff_ne.mpr c7
        obtain rfl := Option.some.inj H
        have p346 : 0 ≤ (x5_1 : Int) := of_decide_eq_true zq23
        have q346 : x5_1 < (l0.length : Int) := of_decide_eq_true zq23
        obtain ⟨ad346, e346, hx346_0⟩ := Kd.at_string HR0.out x5_1 p346 q346
        cases e346
        replace p346 := eq_true p346
        replace q346 := eq_true q346
        have p347 : 0 ≤ (x5_1 : Int) := of_decide_eq_true zq23
        have q347 : x5_1 < (l1.length : Int) := of_decide_eq_true zq23
        obtain ⟨ad347, e347, hx347_0⟩ := Kd.at_string HR1.out x5_1 p347 q347
        cases e347
        replace p347 := eq_true p347
        replace q347 := eq_true q347
        go_wp2
        repeat (go_quiet (fail); try go_wp2)
        go_ret
        exact ⟨zq22, zq68⟩
      ·rw [if_neg c6] at H
       exact absurd H zq81
     ·rw [if_neg c5] at H
      exact absurd H zq81
    ·rw [if_neg c4] at H
     have c4b0 : decide (x5_1 < (l0.length : Int)) = false := decide_eq_false c4
     clear c4
     obtain rfl := Option.some.inj H
     go_wp2
     repeat (go_quiet (fail); try go_wp2)
     go_ret
     exact ⟨zq22, zq68⟩
 ·rw [if_neg c3] at H
  have c3b0 : ((l0.length : Int) == (l1.length : Int)) = false := beq_eq_false_iff_ne.mpr c3
  have c3b1 : ((l0.length : Int) != (l1.length : Int)) = true := bne_iff_ne.mpr c3
  have c3b2 : (l0.length == l1.length) = false := by first | simpa using c3 | (simp at c3 ⊢; omega)
  obtain rfl := Option.some.inj H
  go_enter Try.func15, Try.ntmps15
  go_wp2
  repeat (go_quiet (fail); try go_wp2)
  go_ret
  exact ⟨zq22, zq68⟩
end Go.Proofs.Ytgjipjffpodjlaa.K
namespace Go.Proofs.Ytgjipjffpodjlaa.K
open Go.RowKit Go.Proofs.YtgjipjffpodjlaaW.PrintWords Go.Proofs.YtgjipjffpodjlaaW.PrintLast Go.Proofs.YtgjipjffpodjlaaW.PrintMore
attribute [local go_sem] max2_int min2_int max_two min_two max_three min_three max_four min_four   
set_option linter.unusedVariables false
set_option linter.unusedSimpArgs false
def laws_wDecoder.f (k : Nat) (a0_0 : Int) (a0_1 : ByteArray) (l0_2 : List ByteArray) (a0_3 : Bool) (a1_0 : Int) (a1_1 : ByteArray) (l1_2 : List ByteArray) (a1_3 : Bool) : Option (Bool) := if a0_0 = a1_0 then (if a0_1.toList = a1_1.toList then (if (a0_3 == a1_3) = true then ((laws_wTexts.f k l0_2 l1_2).bind fun t350 => (some t350)) else (some false)) else (some false)) else (some false)
theorem laws_wDecoder.mono : ∀ a0 a1 a2 a3 a4 a5 a6 a7 k, LeO (laws_wDecoder.f k a0 a1 a2 a3 a4 a5 a6 a7) (laws_wDecoder.f (k + 1) a0 a1 a2 a3 a4 a5 a6 a7) := by
 intro a0 a1 a2 a3 a4 a5 a6 a7 k
 unfold laws_wDecoder.f
 repeat' first
   | (with_reducible exact laws_wTexts.mono _ _ _)
   | (with_reducible exact LeO.refl _)
   | (with_reducible exact LeO.none _)
   | (with_reducible refine LeO.ite ?_ ?_)
   | (with_reducible refine LeO.bind ?_ (fun _ => ?_))
   | exact laws_wTexts.mono _ _ _
   | exact LeO.none _
   | refine LeO.ite ?_ ?_
   | refine LeO.bind ?_ (fun _ => ?_)
set_option maxHeartbeats 2000000 in
set_option maxRecDepth 100000 in
theorem laws_wDecoder.calls (k : Nat) (a0_0 : Int) (a0_1 : ByteArray) (A0_2 : Option Addr) (c0_2 : Nat) (l0_2 : List ByteArray) (a0_3 : Bool) (a1_0 : Int) (a1_1 : ByteArray) (A1_2 : Option Addr) (c1_2 : Nat) (l1_2 : List ByteArray) (a1_3 : Bool) (r : Bool) (w : World) (hr0_2 : Kd.C Kd.string w A0_2 l0_2.length l0_2) (hc0_2 : l0_2.length ≤ c0_2) (hr1_2 : Kd.C Kd.string w A1_2 l1_2.length l1_2) (hc1_2 : l1_2.length ≤ c1_2) (h : laws_wDecoder.f k a0_0 a0_1 l0_2 a0_3 a1_0 a1_1 l1_2 a1_3 = some r) :
  Calls Try.prog 8 #[.agg #[.int .i64 a0_0, .string a0_1, .slice A0_2 l0_2.length c0_2, .bool a0_3], .agg #[.int .i64 a1_0, .string a1_1, .slice A1_2 l1_2.length c1_2, .bool a1_3]] w fun e w' => e = .returned (.bool r) ∧ Below w.heap.size w w' := by
 have hu25 := Try.underlying25
 have HR0_2 := Aside0.mk hr0_2
 have HC0_2 := Aside0.mk hc0_2
 clear hr0_2 hc0_2
 have HR1_2 := Aside0.mk hr1_2
 have HC1_2 := Aside0.mk hc1_2
 clear hr1_2 hc1_2
 have HB := Aside0.mk (Below.refl w.heap.size w)
 have H : (if a0_0 = a1_0 then (if a0_1.toList = a1_1.toList then (if (a0_3 == a1_3) = true then ((laws_wTexts.f k l0_2 l1_2).bind fun t350 => (some t350)) else (some false)) else (some false)) else (some false)) = some r := h
 clear h
 by_cases c3 : a0_0 = a1_0
 ·rw [if_pos c3] at H
  have c3b0 : (a0_0 == a1_0) = true := beq_iff_eq.mpr c3
  have c3b1 : (a0_0 != a1_0) = false := bne_eq_false_iff_eq.mpr c3
  clear c3
  by_cases c4 : a0_1.toList = a1_1.toList
  ·rw [if_pos c4] at H
   have c4b0 : (a0_1.toList == a1_1.toList) = true := beq_iff_eq.mpr c4
   have c4b1 : (a0_1.toList != a1_1.toList) = false := bne_eq_false_iff_eq.mpr c4
   clear c4
   by_cases c5 : (a0_3 == a1_3) = true
   ·rw [if_pos c5] at H
    have c5b0 : (a0_3 == a1_3) = true := c5
    (try (have c5b1 : decide (a0_3 = a1_3) = true := by simpa using c5))
    (try (have c5b2 : (a0_3 == a1_3) = true := by simpa using c5))
    clear c5
    replace H := Option.bind_eq_some_iff.mp H
    obtain ⟨t350, A60, H⟩ := H
    try dsimp only at H
    have A6 := Aside0.mk A60
    clear A60
    obtain rfl := Option.some.inj H
    go_enter Try.func8, Try.ntmps8
    go_wp2_with (first | ((with_reducible refine gate_dst (N := 2) rfl ?_); refine box_event ?hg (N := 2) ?hd (cs := #[.int .i64 a0_0, .string a0_1, .slice A0_2 l0_2.length c0_2, .bool a0_3]) (t := 25) ?hr ?_; (case hd => rfl); (case hg => rfl); (case hr => first | (go_simp; done) | (go_simp; rfl)); intro gb348 hg w7 hbox hb; have n0_ := Aside0.mk (below_step zq1 hb); have n1_ := Aside0.mk (hbox); have n2_ := Aside0.mk ((by rw [hg]; exact (below_size zq1) : w.heap.size ≤ gb348)); have n3_ := Aside0.mk ((by rw [hg]; exact (below_size zq1) : w.heap.size ≤ gb348)); clear HB; have HB := n0_; have BK348 := n1_; have GW348 := n2_; have GE348 := n3_; clear n0_ n1_ n2_ n3_; clear hb hbox hg) | ((with_reducible refine gate_dst (N := 3) rfl ?_); refine box_event ?hg (N := 3) ?hd (cs := #[.int .i64 a1_0, .string a1_1, .slice A1_2 l1_2.length c1_2, .bool a1_3]) (t := 25) ?hr ?_; (case hd => rfl); (case hg => rfl); (case hr => first | (go_simp; done) | (go_simp; rfl)); intro gb349 hg w8 hbox hb; have n0_ := Aside0.mk (blk_below (g := gb348) (o := .cells #[.int .i64 a0_0, .string a0_1, .slice A0_2 l0_2.length c0_2, .bool a0_3] 25 (0, 0)) zq56 hb); have n1_ := Aside0.mk (below_step zq44 hb); have n2_ := Aside0.mk (hbox); have n3_ := Aside0.mk ((by rw [hg]; exact (below_size zq44) : w.heap.size ≤ gb349)); have n4_ := Aside0.mk ((by rw [hg]; exact (below_size zq44) : w.heap.size ≤ gb349)); have n5_ := Aside0.mk ((by rw [hg]; exact Nat.ne_of_lt (blk_lt (g := gb348) (o := .cells #[.int .i64 a0_0, .string a0_1, .slice A0_2 l0_2.length c0_2, .bool a0_3] 25 (0, 0)) zq56) : gb348 ≠ gb349)); have n6_ := Aside0.mk ((by rw [hg]; exact Nat.ne_of_gt (blk_lt (g := gb348) (o := .cells #[.int .i64 a0_0, .string a0_1, .slice A0_2 l0_2.length c0_2, .bool a0_3] 25 (0, 0)) zq56) : gb349 ≠ gb348)); clear BK348; clear HB; have BK348 := n0_; have HB := n1_; have BK349 := n2_; have GW349 := n3_; have GE349 := n4_; have NB348_349 := n5_; have NB349_348 := n6_; clear n0_ n1_ n2_ n3_ n4_ n5_ n6_; clear hb hbox hg; have hnb9 := NB348_349.out; have hnc9 := NB349_348.out; have hcz10_0 : w8.cell? ⟨gb348, 0, none⟩ = some (.int .i64 a0_0) := (blk_cell BK348.out 0).trans rfl; have hcz10_1 : w8.cell? ⟨gb348, 1, none⟩ = some (.string a0_1) := (blk_cell BK348.out 1).trans rfl; have hcz10_2 : w8.cell? ⟨gb348, 2, none⟩ = some (.slice A0_2 l0_2.length c0_2) := (blk_cell BK348.out 2).trans rfl; have hcz10_3 : w8.cell? ⟨gb348, 3, none⟩ = some (.bool a0_3) := (blk_cell BK348.out 3).trans rfl; have hfz10_0 := blk_frozen BK348.out 0; have hfz10_1 := blk_frozen BK348.out 1; have hfz10_2 := blk_frozen BK348.out 2; have hfz10_3 := blk_frozen BK348.out 3; have hcz11_0 : w8.cell? ⟨gb349, 0, none⟩ = some (.int .i64 a1_0) := (blk_cell BK349.out 0).trans rfl; have hcz11_1 : w8.cell? ⟨gb349, 1, none⟩ = some (.string a1_1) := (blk_cell BK349.out 1).trans rfl; have hcz11_2 : w8.cell? ⟨gb349, 2, none⟩ = some (.slice A1_2 l1_2.length c1_2) := (blk_cell BK349.out 2).trans rfl; have hcz11_3 : w8.cell? ⟨gb349, 3, none⟩ = some (.bool a1_3) := (blk_cell BK349.out 3).trans rfl; have hfz11_0 := blk_frozen BK349.out 0; have hfz11_1 := blk_frozen BK349.out 1; have hfz11_2 := blk_frozen BK349.out 2; have hfz11_3 := blk_frozen BK349.out 3) | (go_at_call 15; (with_reducible refine (laws_wTexts.calls k _ _ l0_2 _ _ l1_2 t350 _ ?side1 ?side2 ?side3 ?side4 A6.out).mono ?_); (case side1 => repeat (first | exact (Kd.C_below HR0_2.out HB.out) | (with_reducible refine Kd.C_alloc ?_ _) | (with_reducible refine Kd.C_drewN ?_ _) | (with_reducible refine Kd.C_drew ?_))); (case side2 => exact HC0_2.out); (case side3 => repeat (first | exact (Kd.C_below HR1_2.out HB.out) | (with_reducible refine Kd.C_alloc ?_ _) | (with_reducible refine Kd.C_drewN ?_ _) | (with_reducible refine Kd.C_drew ?_))); (case side4 => exact HC1_2.out); rintro e w' ⟨rfl, ⟨nd, rfl⟩⟩))
    go_ret
    exact ⟨zq8, zq71⟩
   ·rw [if_neg c5] at H
    have c5b0 : (a0_3 == a1_3) = false := by simpa using c5
    (try (have c5b1 : decide (a0_3 = a1_3) = false := by simpa using c5))
    (try (have c5b2 : (a0_3 == a1_3) = false := by simpa using c5))
    (try (have c5b3 : ¬ (a0_3 = a1_3) := by simpa using c5))
    clear c5
    obtain rfl := Option.some.inj H
    go_enter Try.func8, Try.ntmps8
    go_wp2_with (first | ((with_reducible refine gate_dst (N := 2) rfl ?_); refine box_event ?hg (N := 2) ?hd (cs := #[.int .i64 a0_0, .string a0_1, .slice A0_2 l0_2.length c0_2, .bool a0_3]) (t := 25) ?hr ?_; (case hd => rfl); (case hg => rfl); (case hr => first | (go_simp; done) | (go_simp; rfl)); intro gb348 hg w12 hbox hb; have n0_ := Aside0.mk (below_step zq1 hb); have n1_ := Aside0.mk (hbox); have n2_ := Aside0.mk ((by rw [hg]; exact (below_size zq1) : w.heap.size ≤ gb348)); have n3_ := Aside0.mk ((by rw [hg]; exact (below_size zq1) : w.heap.size ≤ gb348)); clear HB; have HB := n0_; have BK348 := n1_; have GW348 := n2_; have GE348 := n3_; clear n0_ n1_ n2_ n3_; clear hb hbox hg) | ((with_reducible refine gate_dst (N := 3) rfl ?_); refine box_event ?hg (N := 3) ?hd (cs := #[.int .i64 a1_0, .string a1_1, .slice A1_2 l1_2.length c1_2, .bool a1_3]) (t := 25) ?hr ?_; (case hd => rfl); (case hg => rfl); (case hr => first | (go_simp; done) | (go_simp; rfl)); intro gb349 hg w13 hbox hb; have n0_ := Aside0.mk (blk_below (g := gb348) (o := .cells #[.int .i64 a0_0, .string a0_1, .slice A0_2 l0_2.length c0_2, .bool a0_3] 25 (0, 0)) zq56 hb); have n1_ := Aside0.mk (below_step zq44 hb); have n2_ := Aside0.mk (hbox); have n3_ := Aside0.mk ((by rw [hg]; exact (below_size zq44) : w.heap.size ≤ gb349)); have n4_ := Aside0.mk ((by rw [hg]; exact (below_size zq44) : w.heap.size ≤ gb349)); have n5_ := Aside0.mk ((by rw [hg]; exact Nat.ne_of_lt (blk_lt (g := gb348) (o := .cells #[.int .i64 a0_0, .string a0_1, .slice A0_2 l0_2.length c0_2, .bool a0_3] 25 (0, 0)) zq56) : gb348 ≠ gb349)); have n6_ := Aside0.mk ((by rw [hg]; exact Nat.ne_of_gt (blk_lt (g := gb348) (o := .cells #[.int .i64 a0_0, .string a0_1, .slice A0_2 l0_2.length c0_2, .bool a0_3] 25 (0, 0)) zq56) : gb349 ≠ gb348)); clear BK348; clear HB; have BK348 := n0_; have HB := n1_; have BK349 := n2_; have GW349 := n3_; have GE349 := n4_; have NB348_349 := n5_; have NB349_348 := n6_; clear n0_ n1_ n2_ n3_ n4_ n5_ n6_; clear hb hbox hg; have hnb14 := NB348_349.out; have hnc14 := NB349_348.out; have hcz15_0 : w13.cell? ⟨gb348, 0, none⟩ = some (.int .i64 a0_0) := (blk_cell BK348.out 0).trans rfl; have hcz15_1 : w13.cell? ⟨gb348, 1, none⟩ = some (.string a0_1) := (blk_cell BK348.out 1).trans rfl; have hcz15_2 : w13.cell? ⟨gb348, 2, none⟩ = some (.slice A0_2 l0_2.length c0_2) := (blk_cell BK348.out 2).trans rfl; have hcz15_3 : w13.cell? ⟨gb348, 3, none⟩ = some (.bool a0_3) := (blk_cell BK348.out 3).trans rfl; have hfz15_0 := blk_frozen BK348.out 0; have hfz15_1 := blk_frozen BK348.out 1; have hfz15_2 := blk_frozen BK348.out 2; have hfz15_3 := blk_frozen BK348.out 3; have hcz16_0 : w13.cell? ⟨gb349, 0, none⟩ = some (.int .i64 a1_0) := (blk_cell BK349.out 0).trans rfl; have hcz16_1 : w13.cell? ⟨gb349, 1, none⟩ = some (.string a1_1) := (blk_cell BK349.out 1).trans rfl; have hcz16_2 : w13.cell? ⟨gb349, 2, none⟩ = some (.slice A1_2 l1_2.length c1_2) := (blk_cell BK349.out 2).trans rfl; have hcz16_3 : w13.cell? ⟨gb349, 3, none⟩ = some (.bool a1_3) := (blk_cell BK349.out 3).trans rfl; have hfz16_0 := blk_frozen BK349.out 0; have hfz16_1 := blk_frozen BK349.out 1; have hfz16_2 := blk_frozen BK349.out 2; have hfz16_3 := blk_frozen BK349.out 3))
    go_ret
    exact ⟨zq8, zq71⟩
  ·rw [if_neg c4] at H
   have c4b0 : (a0_1.toList == a1_1.toList) = false := beq_eq_false_iff_ne.mpr c4
   have c4b1 : (a0_1.toList != a1_1.toList) = true := bne_iff_ne.mpr c4
   obtain rfl := Option.some.inj H
   go_enter Try.func8, Try.ntmps8
   go_wp2_with (first | ((with_reducible refine gate_dst (N := 2) rfl ?_); refine box_event ?hg (N := 2) ?hd (cs := #[.int .i64 a0_0, .string a0_1, .slice A0_2 l0_2.length c0_2, .bool a0_3]) (t := 25) ?hr ?_; (case hd => rfl); (case hg => rfl); (case hr => first | (go_simp; done) | (go_simp; rfl)); intro gb348 hg w17 hbox hb; have n0_ := Aside0.mk (below_step zq1 hb); have n1_ := Aside0.mk (hbox); have n2_ := Aside0.mk ((by rw [hg]; exact (below_size zq1) : w.heap.size ≤ gb348)); have n3_ := Aside0.mk ((by rw [hg]; exact (below_size zq1) : w.heap.size ≤ gb348)); clear HB; have HB := n0_; have BK348 := n1_; have GW348 := n2_; have GE348 := n3_; clear n0_ n1_ n2_ n3_; clear hb hbox hg) | ((with_reducible refine gate_dst (N := 3) rfl ?_); refine box_event ?hg (N := 3) ?hd (cs := #[.int .i64 a1_0, .string a1_1, .slice A1_2 l1_2.length c1_2, .bool a1_3]) (t := 25) ?hr ?_; (case hd => rfl); (case hg => rfl); (case hr => first | (go_simp; done) | (go_simp; rfl)); intro gb349 hg w18 hbox hb; have n0_ := Aside0.mk (blk_below (g := gb348) (o := .cells #[.int .i64 a0_0, .string a0_1, .slice A0_2 l0_2.length c0_2, .bool a0_3] 25 (0, 0)) zq56 hb); have n1_ := Aside0.mk (below_step zq44 hb); have n2_ := Aside0.mk (hbox); have n3_ := Aside0.mk ((by rw [hg]; exact (below_size zq44) : w.heap.size ≤ gb349)); have n4_ := Aside0.mk ((by rw [hg]; exact (below_size zq44) : w.heap.size ≤ gb349)); have n5_ := Aside0.mk ((by rw [hg]; exact Nat.ne_of_lt (blk_lt (g := gb348) (o := .cells #[.int .i64 a0_0, .string a0_1, .slice A0_2 l0_2.length c0_2, .bool a0_3] 25 (0, 0)) zq56) : gb348 ≠ gb349)); have n6_ := Aside0.mk ((by rw [hg]; exact Nat.ne_of_gt (blk_lt (g := gb348) (o := .cells #[.int .i64 a0_0, .string a0_1, .slice A0_2 l0_2.length c0_2, .bool a0_3] 25 (0, 0)) zq56) : gb349 ≠ gb348)); clear BK348; clear HB; have BK348 := n0_; have HB := n1_; have BK349 := n2_; have GW349 := n3_; have GE349 := n4_; have NB348_349 := n5_; have NB349_348 := n6_; clear n0_ n1_ n2_ n3_ n4_ n5_ n6_; clear hb hbox hg; have hnb19 := NB348_349.out; have hnc19 := NB349_348.out; have hcz20_0 : w18.cell? ⟨gb348, 0, none⟩ = some (.int .i64 a0_0) := (blk_cell BK348.out 0).trans rfl; have hcz20_1 : w18.cell? ⟨gb348, 1, none⟩ = some (.string a0_1) := (blk_cell BK348.out 1).trans rfl; have hcz20_2 : w18.cell? ⟨gb348, 2, none⟩ = some (.slice A0_2 l0_2.length c0_2) := (blk_cell BK348.out 2).trans rfl; have hcz20_3 : w18.cell? ⟨gb348, 3, none⟩ = some (.bool a0_3) := (blk_cell BK348.out 3).trans rfl; have hfz20_0 := blk_frozen BK348.out 0; have hfz20_1 := blk_frozen BK348.out 1; have hfz20_2 := blk_frozen BK348.out 2; have hfz20_3 := blk_frozen BK348.out 3; have hcz21_0 : w18.cell? ⟨gb349, 0, none⟩ = some (.int .i64 a1_0) := (blk_cell BK349.out 0).trans rfl; have hcz21_1 : w18.cell? ⟨gb349, 1, none⟩ = some (.string a1_1) := (blk_cell BK349.out 1).trans rfl; have hcz21_2 : w18.cell? ⟨gb349, 2, none⟩ = some (.slice A1_2 l1_2.length c1_2) := (blk_cell BK349.out 2).trans rfl; have hcz21_3 : w18.cell? ⟨gb349, 3, none⟩ = some (.bool a1_3) := (blk_cell BK349.out 3).trans rfl; have hfz21_0 := blk_frozen BK349.out 0; have hfz21_1 := blk_frozen BK349.out 1; have hfz21_2 := blk_frozen BK349.out 2; have hfz21_3 := blk_frozen BK349.out 3))
   go_ret
   exact ⟨zq8, zq71⟩
 ·rw [if_neg c3] at H
  have c3b0 : (a0_0 == a1_0) = false := beq_eq_false_iff_ne.mpr c3
  have c3b1 : (a0_0 != a1_0) = true := bne_iff_ne.mpr c3
  obtain rfl := Option.some.inj H
  go_enter Try.func8, Try.ntmps8
  go_wp2_with (first | ((with_reducible refine gate_dst (N := 2) rfl ?_); refine box_event ?hg (N := 2) ?hd (cs := #[.int .i64 a0_0, .string a0_1, .slice A0_2 l0_2.length c0_2, .bool a0_3]) (t := 25) ?hr ?_; (case hd => rfl); (case hg => rfl); (case hr => first | (go_simp; done) | (go_simp; rfl)); intro gb348 hg w22 hbox hb; have n0_ := Aside0.mk (below_step zq1 hb); have n1_ := Aside0.mk (hbox); have n2_ := Aside0.mk ((by rw [hg]; exact (below_size zq1) : w.heap.size ≤ gb348)); have n3_ := Aside0.mk ((by rw [hg]; exact (below_size zq1) : w.heap.size ≤ gb348)); clear HB; have HB := n0_; have BK348 := n1_; have GW348 := n2_; have GE348 := n3_; clear n0_ n1_ n2_ n3_; clear hb hbox hg) | ((with_reducible refine gate_dst (N := 3) rfl ?_); refine box_event ?hg (N := 3) ?hd (cs := #[.int .i64 a1_0, .string a1_1, .slice A1_2 l1_2.length c1_2, .bool a1_3]) (t := 25) ?hr ?_; (case hd => rfl); (case hg => rfl); (case hr => first | (go_simp; done) | (go_simp; rfl)); intro gb349 hg w23 hbox hb; have n0_ := Aside0.mk (blk_below (g := gb348) (o := .cells #[.int .i64 a0_0, .string a0_1, .slice A0_2 l0_2.length c0_2, .bool a0_3] 25 (0, 0)) zq56 hb); have n1_ := Aside0.mk (below_step zq44 hb); have n2_ := Aside0.mk (hbox); have n3_ := Aside0.mk ((by rw [hg]; exact (below_size zq44) : w.heap.size ≤ gb349)); have n4_ := Aside0.mk ((by rw [hg]; exact (below_size zq44) : w.heap.size ≤ gb349)); have n5_ := Aside0.mk ((by rw [hg]; exact Nat.ne_of_lt (blk_lt (g := gb348) (o := .cells #[.int .i64 a0_0, .string a0_1, .slice A0_2 l0_2.length c0_2, .bool a0_3] 25 (0, 0)) zq56) : gb348 ≠ gb349)); have n6_ := Aside0.mk ((by rw [hg]; exact Nat.ne_of_gt (blk_lt (g := gb348) (o := .cells #[.int .i64 a0_0, .string a0_1, .slice A0_2 l0_2.length c0_2, .bool a0_3] 25 (0, 0)) zq56) : gb349 ≠ gb348)); clear BK348; clear HB; have BK348 := n0_; have HB := n1_; have BK349 := n2_; have GW349 := n3_; have GE349 := n4_; have NB348_349 := n5_; have NB349_348 := n6_; clear n0_ n1_ n2_ n3_ n4_ n5_ n6_; clear hb hbox hg; have hnb24 := NB348_349.out; have hnc24 := NB349_348.out; have hcz25_0 : w23.cell? ⟨gb348, 0, none⟩ = some (.int .i64 a0_0) := (blk_cell BK348.out 0).trans rfl; have hcz25_1 : w23.cell? ⟨gb348, 1, none⟩ = some (.string a0_1) := (blk_cell BK348.out 1).trans rfl; have hcz25_2 : w23.cell? ⟨gb348, 2, none⟩ = some (.slice A0_2 l0_2.length c0_2) := (blk_cell BK348.out 2).trans rfl; have hcz25_3 : w23.cell? ⟨gb348, 3, none⟩ = some (.bool a0_3) := (blk_cell BK348.out 3).trans rfl; have hfz25_0 := blk_frozen BK348.out 0; have hfz25_1 := blk_frozen BK348.out 1; have hfz25_2 := blk_frozen BK348.out 2; have hfz25_3 := blk_frozen BK348.out 3; have hcz26_0 : w23.cell? ⟨gb349, 0, none⟩ = some (.int .i64 a1_0) := (blk_cell BK349.out 0).trans rfl; have hcz26_1 : w23.cell? ⟨gb349, 1, none⟩ = some (.string a1_1) := (blk_cell BK349.out 1).trans rfl; have hcz26_2 : w23.cell? ⟨gb349, 2, none⟩ = some (.slice A1_2 l1_2.length c1_2) := (blk_cell BK349.out 2).trans rfl; have hcz26_3 : w23.cell? ⟨gb349, 3, none⟩ = some (.bool a1_3) := (blk_cell BK349.out 3).trans rfl; have hfz26_0 := blk_frozen BK349.out 0; have hfz26_1 := blk_frozen BK349.out 1; have hfz26_2 := blk_frozen BK349.out 2; have hfz26_3 := blk_frozen BK349.out 3))
  go_ret
  exact ⟨zq8, zq71⟩
end Go.Proofs.Ytgjipjffpodjlaa.K
namespace Go.Proofs.Ytgjipjffpodjlaa.K
open Go.RowKit Go.Proofs.YtgjipjffpodjlaaW.PrintWords Go.Proofs.YtgjipjffpodjlaaW.PrintLast Go.Proofs.YtgjipjffpodjlaaW.PrintMore
attribute [local go_sem] max2_int min2_int max_two min_two max_three min_three max_four min_four   
set_option linter.unusedVariables false
set_option linter.unusedSimpArgs false
def spec_DrawEncode.l0 : Nat → List ByteArray → Int → List Int → Int → Option (List ByteArray × Int)
 | 0, _, _, _, _ => none
 | k + 1, x5, x6, x354000, x354001 => if (x5.length : Int) < x6 then (if x5.length < 8796093022208 then (spec_DrawEncode.l0 k (x5 ++ [(⟨#[120]⟩ : ByteArray)]) x6 x354000 x354001) else (none)) else ((spec_l1Width.f k x354000 x354001).bind fun bt377 => (some (x5, bt377.1)))
def spec_DrawEncode.f (k : Nat) (l0 : List Int) : Option (List ByteArray × Int) := (spec_l1Open.f l0).bind fun bt351 => ((spec_l3Payloads.f k bt351.1 bt351.2).bind fun bt354 => ((spec_l1Rd_pick.f k bt351.1 bt354.2 16).bind fun bt358 => (if bt358.1 = 0 then ((spec_l1Many.f k (⟨#[112]⟩ : ByteArray) 1001).bind fun t360 => ((some (([(⟨#[]⟩ : ByteArray), t360] : List ByteArray) : List ByteArray)).bind fun y361 => ((spec_l1Rd_pick.f k bt351.1 bt358.2 2).bind fun bt364 => (if 0 ≤ bt364.1 then (if bt364.1 < (y361.length : Int) then (if bt354.1.length < 8796093022208 then ((spec_l1Width.f k bt351.1 bt364.2).bind fun bt370 => (some ((bt354.1 ++ [rdOf ByteArray.empty y361 bt364.1]), bt370.1))) else (none)) else (none)) else (none))))) else (if bt358.1 = 1 then ((spec_l1Rd_pick.f k bt351.1 bt358.2 2).bind fun bt372 => (spec_DrawEncode.l0 k bt354.1 (wrap64 (500 + bt372.1)) bt351.1 bt372.2)) else (if bt358.1 = 2 then ((some (([0, 9] : List Int) : List Int)).bind fun y379 => ((spec_l1Rd_pick.f k bt351.1 bt358.2 2).bind fun bt382 => (if 0 ≤ bt382.1 then (if bt382.1 < (y379.length : Int) then (some (bt354.1, rd y379 bt382.1)) else (none)) else (none)))) else ((spec_l1Width.f k bt351.1 bt358.2).bind fun bt385 => (some (bt354.1, bt385.1))))))))
theorem spec_DrawEncode.mono_l : ∀ k, (∀ y0 y1 y2 y3, LeO (spec_DrawEncode.l0 k y0 y1 y2 y3) (spec_DrawEncode.l0 (k + 1) y0 y1 y2 y3))
 | 0 => fun _ _ _ _ r h => by simp [spec_DrawEncode.l0] at h
 | k + 1 => by
  have ih0 := spec_DrawEncode.mono_l k
  ·intro y0 y1 y2 y3
   unfold spec_DrawEncode.l0
   repeat' first
   | (with_reducible exact ih0 _ _ _ _)
   | (with_reducible exact spec_l1Many.mono _ _ _)
   | (with_reducible exact spec_l1Rd_pick.mono _ _ _ _)
   | (with_reducible exact spec_l1Width.mono _ _ _)
   | (with_reducible exact spec_l3Payloads.mono _ _ _)
   | (with_reducible exact LeO.refl _)
   | (with_reducible exact LeO.none _)
   | (with_reducible refine LeO.ite ?_ ?_)
   | (with_reducible refine LeO.bind ?_ (fun _ => ?_))
   | exact ih0 _ _ _ _
   | exact spec_l1Many.mono _ _ _
   | exact spec_l1Rd_pick.mono _ _ _ _
   | exact spec_l1Width.mono _ _ _
   | exact spec_l3Payloads.mono _ _ _
   | exact LeO.none _
   | refine LeO.ite ?_ ?_
   | refine LeO.bind ?_ (fun _ => ?_)
theorem spec_DrawEncode.mono : ∀ a0 k, LeO (spec_DrawEncode.f k a0) (spec_DrawEncode.f (k + 1) a0) := by
 intro a0 k
 have ih0 := spec_DrawEncode.mono_l k
 unfold spec_DrawEncode.f
 repeat' first
   | (with_reducible exact ih0 _ _ _ _)
   | (with_reducible exact spec_l1Many.mono _ _ _)
   | (with_reducible exact spec_l1Rd_pick.mono _ _ _ _)
   | (with_reducible exact spec_l1Width.mono _ _ _)
   | (with_reducible exact spec_l3Payloads.mono _ _ _)
   | (with_reducible exact LeO.refl _)
   | (with_reducible exact LeO.none _)
   | (with_reducible refine LeO.ite ?_ ?_)
   | (with_reducible refine LeO.bind ?_ (fun _ => ?_))
   | exact ih0 _ _ _ _
   | exact spec_l1Many.mono _ _ _
   | exact spec_l1Rd_pick.mono _ _ _ _
   | exact spec_l1Width.mono _ _ _
   | exact spec_l3Payloads.mono _ _ _
   | exact LeO.none _
   | refine LeO.ite ?_ ?_
   | refine LeO.bind ?_ (fun _ => ?_)
def spec_DrawEncode.T11 : Bool × List (List Nat × List Nat) := (true, [([], []), ([], []), ([], []), ([2], [2]), ([1, 3], [1, 3]), ([4], [4]), ([0, 3, 0], [0]), ([5, 6, 0, 1, 2, 3, 4, 5, 6], [5])])
def spec_DrawEncode.B11 : List Nat := [0, 0, 0, 4, 14, 30, 13, 127]
theorem spec_DrawEncode.tab11 : rtab .any (opsOf Try.f12 11) = spec_DrawEncode.T11 := by kernel_rfl
theorem spec_DrawEncode.bits11 : waitsOk spec_DrawEncode.T11.2 spec_DrawEncode.B11 = true := by kernel_rfl
set_option maxHeartbeats 2000000 in
set_option maxRecDepth 100000 in
theorem spec_DrawEncode.calls (k : Nat) (A0 : Option Addr) (c0 : Nat) (l0 : List Int) (r1 : List ByteArray) (r2 : Int) (w : World) (hr0 : Kd.C (Kd.int .u8) w A0 l0.length l0) (hc0 : l0.length ≤ c0) (h : spec_DrawEncode.f k l0 = some (r1, r2)) :
  Calls Try.prog 12 #[.slice A0 l0.length c0] w fun e w' => ∃ v0_ : Value, e = .returned (.tuple #[v0_, .int .i64 r2]) ∧ Kd.R Kd.string 9 w' w.heap.size (fun _ => True) v0_ r1 ∧ Below w.heap.size w w' := by
 have HR0 := Aside0.mk hr0
 have HC0 := Aside0.mk hc0
 clear hr0 hc0
 have HB := Aside0.mk (Below.refl w.heap.size w)
 have H : ((spec_l1Open.f l0).bind fun bt351 => ((spec_l3Payloads.f k bt351.1 bt351.2).bind fun bt354 => ((spec_l1Rd_pick.f k bt351.1 bt354.2 16).bind fun bt358 => (if bt358.1 = 0 then ((spec_l1Many.f k (⟨#[112]⟩ : ByteArray) 1001).bind fun t360 => ((some (([(⟨#[]⟩ : ByteArray), t360] : List ByteArray) : List ByteArray)).bind fun y361 => ((spec_l1Rd_pick.f k bt351.1 bt358.2 2).bind fun bt364 => (if 0 ≤ bt364.1 then (if bt364.1 < (y361.length : Int) then (if bt354.1.length < 8796093022208 then ((spec_l1Width.f k bt351.1 bt364.2).bind fun bt370 => (some ((bt354.1 ++ [rdOf ByteArray.empty y361 bt364.1]), bt370.1))) else (none)) else (none)) else (none))))) else (if bt358.1 = 1 then ((spec_l1Rd_pick.f k bt351.1 bt358.2 2).bind fun bt372 => (spec_DrawEncode.l0 k bt354.1 (wrap64 (500 + bt372.1)) bt351.1 bt372.2)) else (if bt358.1 = 2 then ((some (([0, 9] : List Int) : List Int)).bind fun y379 => ((spec_l1Rd_pick.f k bt351.1 bt358.2 2).bind fun bt382 => (if 0 ≤ bt382.1 then (if bt382.1 < (y379.length : Int) then (some (bt354.1, rd y379 bt382.1)) else (none)) else (none)))) else ((spec_l1Width.f k bt351.1 bt358.2).bind fun bt385 => (some (bt354.1, bt385.1))))))))) = some (r1, r2) := h
 clear h
 replace H := Option.bind_eq_some_iff.mp H
 obtain ⟨⟨t351, t352⟩, A20, H⟩ := H
 try dsimp only at H
 have A2 := Aside0.mk A20
 clear A20
 replace H := Option.bind_eq_some_iff.mp H
 obtain ⟨⟨t354, t357⟩, A30, H⟩ := H
 try dsimp only at H
 have A3 := Aside0.mk A30
 clear A30
 replace H := Option.bind_eq_some_iff.mp H
 obtain ⟨⟨t358, t359⟩, A40, H⟩ := H
 try dsimp only at H
 have A4 := Aside0.mk A40
 clear A40
 by_cases c5 : t358 = 0
 ·rw [if_pos c5] at H
  have c5b0 : (t358 == 0) = true := beq_iff_eq.mpr c5
  have c5b1 : (t358 != 0) = false := bne_eq_false_iff_eq.mpr c5
  clear c5
  replace H := Option.bind_eq_some_iff.mp H
  obtain ⟨t360, A60, H⟩ := H
  try dsimp only at H
  have A6 := Aside0.mk A60
  clear A60
  obtain ⟨y361, hy361⟩ : ∃ y_ : List ByteArray, y_ = (([(⟨#[]⟩ : ByteArray), t360] : List ByteArray)) := ⟨_, rfl⟩
  replace H : ((spec_l1Rd_pick.f k t351 t359 2).bind fun bt364 => (if 0 ≤ bt364.1 then (if bt364.1 < (y361.length : Int) then (if t354.length < 8796093022208 then ((spec_l1Width.f k t351 bt364.2).bind fun bt370 => (some ((t354 ++ [rdOf ByteArray.empty y361 bt364.1]), bt370.1))) else (none)) else (none)) else (none))) = some (r1, r2) := by first | (rw [hy361]; with_reducible exact H) | (have H2_ := (Option.bind_some _ _).symm.trans H; rw [hy361]; with_reducible exact H2_) | (have H2_ := (Option.bind_some _ _).symm.trans H; with_reducible exact H2_) | with_reducible exact H | (rw [hy361]; exact H) | exact H
  have Ny361 := Aside0.mk hy361
  clear hy361
  replace H := Option.bind_eq_some_iff.mp H
  obtain ⟨⟨t364, t365⟩, A70, H⟩ := H
  try dsimp only at H
  have A7 := Aside0.mk A70
  clear A70
  by_cases c8 : 0 ≤ t364
  ·rw [if_pos c8] at H
   have c8b0 : decide (0 ≤ t364) = true := decide_eq_true c8
   clear c8
   by_cases c9 : t364 < (y361.length : Int)
   ·rw [if_pos c9] at H
    have c9b0 : decide (t364 < (y361.length : Int)) = true := decide_eq_true c9
    clear c9
    by_cases c10 : t354.length < 8796093022208
    ·rw [if_pos c10] at H
     have LMc10 := Aside0.mk c10
     clear c10
     obtain ⟨y367, hy367⟩ : ∃ y_ : List ByteArray, y_ = (t354 ++ [rdOf ByteArray.empty y361 t364]) := ⟨_, rfl⟩
     replace H : ((spec_l1Width.f k t351 t365).bind fun bt370 => (some (y367, bt370.1))) = some (r1, r2) := by first | (rw [hy367]; with_reducible exact H) | (have H2_ := (Option.bind_some _ _).symm.trans H; rw [hy367]; with_reducible exact H2_) | (have H2_ := (Option.bind_some _ _).symm.trans H; with_reducible exact H2_) | with_reducible exact H | (rw [hy367]; exact H) | exact H
     have Ny367 := Aside0.mk hy367
     clear hy367
     replace H := Option.bind_eq_some_iff.mp H
     obtain ⟨⟨t370, t371⟩, A110, H⟩ := H
     try dsimp only at H
     have A11 := Aside0.mk A110
     clear A110
     simp only [Option.some.injEq, Prod.mk.injEq] at H
     obtain ⟨rfl, rfl⟩ := H
     go_enter Try.func12, Try.ntmps12
     go_wp2_with (first | ((with_reducible refine gate_callee (f := 26) rfl ?_); refine goesL_ (some 8) rfl rfl Try.func26 zq19 rfl #[.slice A0 l0.length c0] rfl zq0 ?_; (with_reducible refine (spec_l1Open.calls _ _ l0 t351 t352 w _ ?side1 ?side2 ?side3 A2.out).mono ?_); (case side1 => repeat (first | (with_reducible first | exact HB.out | apply below_alloc | apply pw_below_drewN | apply below_drew1) | exact HB.out)); (case side2 => exact HR0.out); (case side3 => exact HC0.out); rintro e w12 ⟨g353, rfl, hi, hb, hb2⟩; refine ⟨_, rfl, ?_⟩; have n0_ := Aside0.mk (hb); have n1_ := Aside0.mk (hi); clear HB; have HB := n0_; have HI353 := n1_; clear n0_ n1_; (try clear hb); (try clear hb2); (try clear hk); (try clear hi)) | ((with_reducible refine gate_callee (f := 28) rfl ?_); refine goesL_ (some 10) rfl rfl Try.func28 zq19 rfl #[.pointer (some ⟨g353, 0, none⟩)] rfl zq0 ?_; (with_reducible refine (spec_l3Payloads.calls k g353 t351 t352 t354 t357 w _ ?side1 ?side2 A3.out).mono ?_); (case side1 => repeat (first | (with_reducible first | exact HI353.out | apply IsS98.alloc | apply IsS98.drewN | apply IsS98.drew | apply IsS98.set_1) | exact HI353.out)); (case side2 => repeat (first | (with_reducible first | exact HB.out | apply below_alloc | apply pw_below_drewN | apply below_drew1 | refine below_set ?_ (IsS98.ge HI353.out)) | exact HB.out)); rintro e w13 ⟨v355, rfl, ho0, hi, hb, hk⟩; refine ⟨_, rfl, ?_⟩; have n0_ := Aside0.mk (Kd.R_lower ho0 (below_size zq30)); have n1_ := Aside0.mk (hb); have n2_ := Aside0.mk (hi); clear HB; clear HI353; have HO356 := n0_; have HB := n1_; have HI353 := n2_; clear n0_ n1_ n2_; (try clear hb); (try clear hb2); (try clear hk); (try clear hi); (try clear ho0)) | ((with_reducible refine gate_callee (f := 29) rfl ?_); refine goesL_ (some 12) rfl rfl Try.func29 zq19 rfl #[.pointer (some ⟨g353, 0, none⟩), .int .i64 16] rfl zq0 ?_; (with_reducible refine (spec_l1Rd_pick.calls k g353 t351 t357 16 t358 t359 w _ ?side1 ?side2 A4.out).mono ?_); (case side1 => repeat (first | (with_reducible first | exact HI353.out | apply IsS98.alloc | apply IsS98.drewN | apply IsS98.drew | apply IsS98.set_1) | exact HI353.out)); (case side2 => repeat (first | (with_reducible first | exact HB.out | apply below_alloc | apply pw_below_drewN | apply below_drew1 | refine below_set ?_ (IsS98.ge HI353.out)) | exact HB.out)); rintro e w14 ⟨rfl, hi, hb, hk⟩; refine ⟨_, rfl, ?_⟩; have n0_ := Aside0.mk (Kd.R_mono (Kd.R_keep (IsS98.apart (show IsS98 w _ g353 t351 t357 from zq29) zq47 zq60) hk (fun _ h => h.2)) (fun _ h => h.1)); have n1_ := Aside0.mk (hb); have n2_ := Aside0.mk (hi); clear HO356; clear HB; clear HI353; have HO356 := n0_; have HB := n1_; have HI353 := n2_; clear n0_ n1_ n2_; (try clear hb); (try clear hb2); (try clear hk); (try clear hi)) | ((with_reducible refine gate_callee (f := 38) rfl ?_); refine goesL_ (some 16) rfl rfl Try.func38 zq19 rfl #[.string (⟨#[112]⟩ : ByteArray), .int .i64 1001] rfl zq0 ?_; (with_reducible refine (spec_l1Many.calls k (⟨#[112]⟩ : ByteArray) 1001 t360 _ A6.out).mono ?_); rintro e w' ⟨rfl, ⟨nd, rfl⟩⟩; refine ⟨_, rfl, ?_⟩) | ((with_reducible refine gate_dst (N := 17) rfl ?_); refine Kd.R_lit Kd.string _ 9 ?hg (N := 17) ?hd (xs := ([(⟨#[]⟩ : ByteArray), t360] : List ByteArray)) (inner := [.string (⟨#[]⟩ : ByteArray), .string t360]) (ok := fun _ => True) (okp := fun _ => True) ?hr ?hp (fun _ hk => hk) trivial (Below.refl _ _) (Nat.le_refl _) zq81 ?_; (case hd => rfl); (case hg => rfl); (case hr => first | (go_simp; done) | (go_simp; rfl)); (case hp => exact (Reps.one (show Kd.M Kd.string _ _ _ (⟨#[]⟩ : ByteArray) [.string (⟨#[]⟩ : ByteArray)] from rfl) (Reps.one (show Kd.M Kd.string _ _ _ t360 [.string t360] from rfl) (Reps.none _ _)))); intro v362 w15 ho16 hb hg_ hnew_; clear hg_ hnew_; (first | rw [← Ny361.out] at ho16 | (simp only [Int.reduceToNat] at ho16; rw [← Ny361.out] at ho16)); have n0_ := Aside0.mk (Kd.R_elder' zq47 (Kd.R_base ho16) hb); have n1_ := Aside0.mk (Kd.R_lower (Kd.R_new' ho16 (Kd.R_lt zq47)) (below_size zq30)); have n2_ := Aside0.mk (IsS98.below zq29 hb); have n3_ := Aside0.mk (below_step zq30 hb); clear HO356; clear HI353; clear HB; have HO356 := n0_; have HO363 := n1_; have HI353 := n2_; have HB := n3_; clear n0_ n1_ n2_ n3_; clear hb ho16) | ((with_reducible refine gate_callee (f := 29) rfl ?_); refine goesL_ (some 19) rfl rfl Try.func29 zq19 rfl #[.pointer (some ⟨g353, 0, none⟩), .int .i64 2] rfl zq0 ?_; (with_reducible refine (spec_l1Rd_pick.calls k g353 t351 t359 2 t364 t365 w _ ?side1 ?side2 A7.out).mono ?_); (case side1 => repeat (first | (with_reducible first | exact HI353.out | apply IsS98.alloc | apply IsS98.drewN | apply IsS98.drew | apply IsS98.set_1) | exact HI353.out)); (case side2 => repeat (first | (with_reducible first | exact HB.out | apply below_alloc | apply pw_below_drewN | apply below_drew1 | refine below_set ?_ (IsS98.ge HI353.out)) | exact HB.out)); rintro e w17 ⟨rfl, hi, hb, hk⟩; refine ⟨_, rfl, ?_⟩; have n0_ := Aside0.mk (Kd.R_mono (Kd.R_keep (IsS98.apart (show IsS98 w _ g353 t351 t359 from zq29) zq47 zq60) hk (fun _ h => h.2)) (fun _ h => h.1)); have n1_ := Aside0.mk (Kd.R_mono (Kd.R_keep (IsS98.apart (show IsS98 w _ g353 t351 t359 from zq29) zq85 zq60) hk (fun _ h => h.2)) (fun _ h => h.1)); have n2_ := Aside0.mk (hb); have n3_ := Aside0.mk (hi); clear HO356; clear HO363; clear HB; clear HI353; have HO356 := n0_; have HO363 := n1_; have HB := n2_; have HI353 := n3_; clear n0_ n1_ n2_ n3_; (try clear hb); (try clear hb2); (try clear hk); (try clear hi); obtain ⟨Ao18, co18, eo18⟩ := Kd.R_slice HO363.out; subst eo18; have p366 : 0 ≤ (t364 : Int) := of_decide_eq_true zq23; have q366 : t364 < (y361.length : Int) := of_decide_eq_true zq23; obtain ⟨ad366, e366, hx366_0⟩ := Kd.at_string (Kd.R_reads' HO363.out).2.2 t364 p366 q366; cases e366; replace p366 := eq_true p366; replace q366 := eq_true q366) | ((with_reducible refine gate_builtin (b := .append) (xs := #[.tmp 15, .tmp 22]) rfl ?_); at_builtin; refine Kd.R_append Kd.string (w0 := w) w.heap.size rfl (.tmp 15) (.tmp 22) 23 9 (.string ⟨#[]⟩) 16 rfl Try.underlying23 info9 rfl zq60 zq99 v355 t354 (rdOf ByteArray.empty y361 t364) [.string (rdOf ByteArray.empty y361 t364)] (fun k_ => some k_ ≠ (.slice (some ad366) y361.length co18 : Value).ownBlock) (fun _ => False) rfl rfl ?aP (fun _ hk => hk.elim) ?aF ?aO ?aB ?aS ?aL ?_; (case aP => exact rfl); (case aB => exact zq30); (case aF => exact (fun k_ hk => Kd.fresh' (Kd.R_lt zq85) k_ hk)); (case aO => exact (by (with_reducible repeat (first | apply Kd.R_alloc | apply Kd.R_drewN | apply Kd.R_drew)); exact Kd.R_mono HO356.out (fun _ hk => hk.2))); (case aS => exact (below_size zq30)); (case aL => have := LMc10.out; omega); intro v368 w19 ho hb hg hat; rw [← Ny367.out] at ho; have n0_ := Aside0.mk (IsS98.grown zq29 hg (IsS98.own_ne HI353.out HO356.out zq60)); have n1_ := Aside0.mk (Kd.R_after (ok := (fun _ => True)) zq85 hg hat); have n2_ := Aside0.mk (hb); have n3_ := Aside0.mk (ho); clear HI353; clear HO363; clear HB; clear HO356; have HI353 := n0_; have HO363 := n1_; have HB := n2_; have HO369 := n3_; clear n0_ n1_ n2_ n3_; clear ho hb hg hat) | ((with_reducible refine gate_callee (f := 39) rfl ?_); refine goesL_ (some 46) rfl rfl Try.func39 zq19 rfl #[.pointer (some ⟨g353, 0, none⟩)] rfl zq0 ?_; (with_reducible refine (spec_l1Width.calls k g353 t351 t365 t370 t371 w _ ?side1 ?side2 A11.out).mono ?_); (case side1 => repeat (first | (with_reducible first | exact HI353.out | apply IsS98.alloc | apply IsS98.drewN | apply IsS98.drew | apply IsS98.set_1) | exact HI353.out)); (case side2 => repeat (first | (with_reducible first | exact HB.out | apply below_alloc | apply pw_below_drewN | apply below_drew1 | refine below_set ?_ (IsS98.ge HI353.out)) | exact HB.out)); rintro e w20 ⟨rfl, hi, hb, hk⟩; refine ⟨_, rfl, ?_⟩; have n0_ := Aside0.mk (Kd.R_mono (Kd.R_keep (IsS98.apart (show IsS98 w _ g353 t351 t365 from zq29) zq85 zq60) hk (fun _ h => h.2)) (fun _ h => h.1)); have n1_ := Aside0.mk (Kd.R_mono (Kd.R_keep (IsS98.apart (show IsS98 w _ g353 t351 t365 from zq29) (by (with_reducible repeat (first | apply Kd.R_alloc | apply Kd.R_drewN | apply Kd.R_drew)); exact HO369.out) zq60) hk (fun _ h => h.2)) (fun _ h => h.1)); have n2_ := Aside0.mk (hb); have n3_ := Aside0.mk (hi); clear HO363; clear HO369; clear HB; clear HI353; have HO363 := n0_; have HO369 := n1_; have HB := n2_; have HI353 := n3_; clear n0_ n1_ n2_ n3_; (try clear hb); (try clear hb2); (try clear hk); (try clear hi)))
     go_ret2
     exact ⟨_, zq8, by (with_reducible repeat (first | apply Kd.R_alloc | apply Kd.R_drewN | apply Kd.R_drew)); exact Kd.R_mono HO369.out (fun _ hk => trivial), zq30⟩
    ·rw [if_neg c10] at H
     exact absurd H zq81
   ·rw [if_neg c9] at H
    exact absurd H zq81
  ·rw [if_neg c8] at H
   exact absurd H zq81
 ·rw [if_neg c5] at H
  have c5b0 : (t358 == 0) = false := beq_eq_false_iff_ne.mpr c5
  have c5b1 : (t358 != 0) = true := bne_iff_ne.mpr c5
  by_cases c21 : t358 = 1
  ·rw [if_pos c21] at H
   have c21b0 : (t358 == 1) = true := beq_iff_eq.mpr c21
   have c21b1 : (t358 != 1) = false := bne_eq_false_iff_eq.mpr c21
   clear c21
   replace H := Option.bind_eq_some_iff.mp H
   obtain ⟨⟨t372, t373⟩, A220, H⟩ := H
   try dsimp only at H
   have A22 := Aside0.mk A220
   clear A220
   have H' := Aside0.mk H
   clear H
   go_enter Try.func12, Try.ntmps12
   go_wp2_with (first | ((with_reducible refine gate_callee (f := 26) rfl ?_); refine goesL_ (some 8) rfl rfl Try.func26 zq19 rfl #[.slice A0 l0.length c0] rfl zq0 ?_; (with_reducible refine (spec_l1Open.calls _ _ l0 t351 t352 w _ ?side1 ?side2 ?side3 A2.out).mono ?_); (case side1 => repeat (first | (with_reducible first | exact HB.out | apply below_alloc | apply pw_below_drewN | apply below_drew1) | exact HB.out)); (case side2 => exact HR0.out); (case side3 => exact HC0.out); rintro e w23 ⟨g353, rfl, hi, hb, hb2⟩; refine ⟨_, rfl, ?_⟩; have n0_ := Aside0.mk (hb); have n1_ := Aside0.mk (hi); clear HB; have HB := n0_; have HI353 := n1_; clear n0_ n1_; (try clear hb); (try clear hb2); (try clear hk); (try clear hi)) | ((with_reducible refine gate_callee (f := 28) rfl ?_); refine goesL_ (some 10) rfl rfl Try.func28 zq19 rfl #[.pointer (some ⟨g353, 0, none⟩)] rfl zq0 ?_; (with_reducible refine (spec_l3Payloads.calls k g353 t351 t352 t354 t357 w _ ?side1 ?side2 A3.out).mono ?_); (case side1 => repeat (first | (with_reducible first | exact HI353.out | apply IsS98.alloc | apply IsS98.drewN | apply IsS98.drew | apply IsS98.set_1) | exact HI353.out)); (case side2 => repeat (first | (with_reducible first | exact HB.out | apply below_alloc | apply pw_below_drewN | apply below_drew1 | refine below_set ?_ (IsS98.ge HI353.out)) | exact HB.out)); rintro e w24 ⟨v355, rfl, ho0, hi, hb, hk⟩; refine ⟨_, rfl, ?_⟩; have n0_ := Aside0.mk (Kd.R_lower ho0 (below_size zq30)); have n1_ := Aside0.mk (hb); have n2_ := Aside0.mk (hi); clear HB; clear HI353; have HO356 := n0_; have HB := n1_; have HI353 := n2_; clear n0_ n1_ n2_; (try clear hb); (try clear hb2); (try clear hk); (try clear hi); (try clear ho0)) | ((with_reducible refine gate_callee (f := 29) rfl ?_); refine goesL_ (some 12) rfl rfl Try.func29 zq19 rfl #[.pointer (some ⟨g353, 0, none⟩), .int .i64 16] rfl zq0 ?_; (with_reducible refine (spec_l1Rd_pick.calls k g353 t351 t357 16 t358 t359 w _ ?side1 ?side2 A4.out).mono ?_); (case side1 => repeat (first | (with_reducible first | exact HI353.out | apply IsS98.alloc | apply IsS98.drewN | apply IsS98.drew | apply IsS98.set_1) | exact HI353.out)); (case side2 => repeat (first | (with_reducible first | exact HB.out | apply below_alloc | apply pw_below_drewN | apply below_drew1 | refine below_set ?_ (IsS98.ge HI353.out)) | exact HB.out)); rintro e w25 ⟨rfl, hi, hb, hk⟩; refine ⟨_, rfl, ?_⟩; have n0_ := Aside0.mk (Kd.R_mono (Kd.R_keep (IsS98.apart (show IsS98 w _ g353 t351 t357 from zq29) zq47 zq60) hk (fun _ h => h.2)) (fun _ h => h.1)); have n1_ := Aside0.mk (hb); have n2_ := Aside0.mk (hi); clear HO356; clear HB; clear HI353; have HO356 := n0_; have HB := n1_; have HI353 := n2_; clear n0_ n1_ n2_; (try clear hb); (try clear hb2); (try clear hk); (try clear hi)) | ((with_reducible refine gate_callee (f := 29) rfl ?_); refine goesL_ (some 27) rfl rfl Try.func29 zq19 rfl #[.pointer (some ⟨g353, 0, none⟩), .int .i64 2] rfl zq0 ?_; (with_reducible refine (spec_l1Rd_pick.calls k g353 t351 t359 2 t372 t373 w _ ?side1 ?side2 A22.out).mono ?_); (case side1 => repeat (first | (with_reducible first | exact HI353.out | apply IsS98.alloc | apply IsS98.drewN | apply IsS98.drew | apply IsS98.set_1) | exact HI353.out)); (case side2 => repeat (first | (with_reducible first | exact HB.out | apply below_alloc | apply pw_below_drewN | apply below_drew1 | refine below_set ?_ (IsS98.ge HI353.out)) | exact HB.out)); rintro e w26 ⟨rfl, hi, hb, hk⟩; refine ⟨_, rfl, ?_⟩; have n0_ := Aside0.mk (Kd.R_mono (Kd.R_keep (IsS98.apart (show IsS98 w _ g353 t351 t359 from zq29) zq47 zq60) hk (fun _ h => h.2)) (fun _ h => h.1)); have n1_ := Aside0.mk (hb); have n2_ := Aside0.mk (hi); clear HO356; clear HB; clear HI353; have HO356 := n0_; have HB := n1_; have HI353 := n2_; clear n0_ n1_ n2_; (try clear hb); (try clear hb2); (try clear hk); (try clear hi)))
   go_loopg [5] k (fun kq v5 w' => ∃ (x5_1 : List ByteArray), Aside0 (spec_DrawEncode.l0 kq x5_1 (wrap64 (500 + t372)) t351 t373 = some (r1, r2)) ∧ Aside0 (kq ≤ k) ∧ Aside0 (Kd.R Kd.string 9 w' w.heap.size (fun _ => True) v5 x5_1) ∧ Aside0 (IsS98 w w' g353 t351 t373) ∧ Aside0 (Below w.heap.size w w'))
   case atStart => exact ⟨(t354), H', ⟨Nat.le_refl _⟩, ⟨zq47⟩, ⟨zq29⟩, ⟨zq30⟩⟩
   case round =>
    clear H'
    try clear c1
    try clear c2
    try clear p2
    try clear c3
    try clear p3
    try clear q3
    try clear hx3
    try clear c5
    try clear c5b0
    try clear c5b1
    try clear p6
    try clear c8
    try clear c8b0
    try clear c9
    try clear c9b0
    try clear c10
    try clear c12
    try clear c21
    try clear c21b0
    try clear c21b1
    try clear c26
    try clear hx366_0
    try clear p366
    try clear q366
    obtain ⟨x5_1, HA, HK1, HO_5, HI353, HB⟩ := hrel
    cases gk with
    | zero => exact absurd HA.out (by simp [spec_DrawEncode.l0])
    | succ k1 =>
     have H := HA.out
     clear HA
     simp only [spec_DrawEncode.l0] at H
     by_cases c27 : (x5_1.length : Int) < (wrap64 (500 + t372))
     ·rw [if_pos c27] at H
      have c27b0 : decide ((x5_1.length : Int) < (wrap64 (500 + t372))) = true := decide_eq_true c27
      clear c27
      by_cases c28 : x5_1.length < 8796093022208
      ·rw [if_pos c28] at H
       have LMc28 := Aside0.mk c28
       clear c28
       obtain ⟨y374, hy374⟩ : ∃ y_ : List ByteArray, y_ = (x5_1 ++ [(⟨#[120]⟩ : ByteArray)]) := ⟨_, rfl⟩
       replace H : (spec_DrawEncode.l0 k1 y374 (wrap64 (500 + t372)) t351 t373) = some (r1, r2) := by first | (rw [hy374]; with_reducible exact H) | (have H2_ := (Option.bind_some _ _).symm.trans H; rw [hy374]; with_reducible exact H2_) | (have H2_ := (Option.bind_some _ _).symm.trans H; with_reducible exact H2_) | with_reducible exact H | (rw [hy374]; exact H) | exact H
       have Ny374 := Aside0.mk hy374
       clear hy374
       have H' := Aside0.mk H
       clear H
       obtain ⟨Ao29, co29, eo29⟩ := Kd.R_slice HO_5.out
       subst eo29
       go_wp2_with (first | ((with_reducible refine gate_builtin (b := .append) (xs := #[.tmp 33, .tmp 34]) rfl ?_); at_builtin; refine Kd.R_append Kd.string (w0 := w) w.heap.size rfl (.tmp 33) (.tmp 34) 23 9 (.string ⟨#[]⟩) 16 rfl Try.underlying23 info9 rfl zq60 zq99 (.slice Ao29 x5_1.length co29) x5_1 (⟨#[120]⟩ : ByteArray) [.string (⟨#[120]⟩ : ByteArray)] (fun _ => True) (fun _ => False) rfl rfl ?aP (fun _ hk => hk.elim) ?aF ?aO ?aB ?aS ?aL ?_; (case aP => exact rfl); (case aB => exact zq30); (case aF => exact (fun _ _ => trivial)); (case aO => exact zq79); (case aS => exact (below_size zq30)); (case aL => have := LMc28.out; omega); intro v375 w30 ho hb hg hat; rw [← Ny374.out] at ho; have n0_ := Aside0.mk (IsS98.grown zq29 hg (IsS98.own_ne HI353.out HO_5.out zq60)); have n1_ := Aside0.mk (hb); have n2_ := Aside0.mk (ho); clear HI353; clear HB; clear HO_5; have HI353 := n0_; have HB := n1_; have HO376 := n2_; clear n0_ n1_ n2_; clear ho hb hg hat))
       go_roundg k1
       case measure => have := HK1.out; omega
       case rel => exact ⟨(y374), H', ⟨zq88⟩, ⟨by (with_reducible repeat (first | apply Kd.R_alloc | apply Kd.R_drewN | apply Kd.R_drew)); exact HO376.out⟩, ⟨zq29⟩, ⟨zq30⟩⟩
      ·rw [if_neg c28] at H
       exact absurd H zq81
     ·rw [if_neg c27] at H
      have c27b0 : decide ((x5_1.length : Int) < (wrap64 (500 + t372))) = false := decide_eq_false c27
      clear c27
      replace H := Option.bind_eq_some_iff.mp H
      obtain ⟨⟨t377, t378⟩, A310, H⟩ := H
      try dsimp only at H
      have A31 := Aside0.mk A310
      clear A310
      simp only [Option.some.injEq, Prod.mk.injEq] at H
      obtain ⟨rfl, rfl⟩ := H
      obtain ⟨Ao32, co32, eo32⟩ := Kd.R_slice HO_5.out
      subst eo32
      go_wp2_with (first | ((with_reducible refine gate_callee (f := 39) rfl ?_); refine goesL_ (some 46) rfl rfl Try.func39 zq19 rfl #[.pointer (some ⟨g353, 0, none⟩)] rfl zq0 ?_; (with_reducible refine (spec_l1Width.calls k1 g353 t351 t373 t377 t378 w _ ?side1 ?side2 A31.out).mono ?_); (case side1 => repeat (first | (with_reducible first | exact HI353.out | apply IsS98.alloc | apply IsS98.drewN | apply IsS98.drew | apply IsS98.set_1) | exact HI353.out)); (case side2 => repeat (first | (with_reducible first | exact HB.out | apply below_alloc | apply pw_below_drewN | apply below_drew1 | refine below_set ?_ (IsS98.ge HI353.out)) | exact HB.out)); rintro e w33 ⟨rfl, hi, hb, hk⟩; refine ⟨_, rfl, ?_⟩; have n0_ := Aside0.mk (Kd.R_mono (Kd.R_keep (IsS98.apart (show IsS98 w _ g353 t351 t373 from zq29) zq79 zq60) hk (fun _ h => h.2)) (fun _ h => h.1)); have n1_ := Aside0.mk (hb); have n2_ := Aside0.mk (hi); clear HO_5; clear HB; clear HI353; have HO_5 := n0_; have HB := n1_; have HI353 := n2_; clear n0_ n1_ n2_; (try clear hb); (try clear hb2); (try clear hk); (try clear hi)))
      go_ret2
      exact ⟨_, zq8, zq79, zq30⟩
  ·rw [if_neg c21] at H
   have c21b0 : (t358 == 1) = false := beq_eq_false_iff_ne.mpr c21
   have c21b1 : (t358 != 1) = true := bne_iff_ne.mpr c21
   by_cases c34 : t358 = 2
   ·rw [if_pos c34] at H
    have c34b0 : (t358 == 2) = true := beq_iff_eq.mpr c34
    have c34b1 : (t358 != 2) = false := bne_eq_false_iff_eq.mpr c34
    clear c34
    obtain ⟨y379, hy379⟩ : ∃ y_ : List Int, y_ = (([0, 9] : List Int)) := ⟨_, rfl⟩
    replace H : ((spec_l1Rd_pick.f k t351 t359 2).bind fun bt382 => (if 0 ≤ bt382.1 then (if bt382.1 < (y379.length : Int) then (some (t354, rd y379 bt382.1)) else (none)) else (none))) = some (r1, r2) := by first | (rw [hy379]; with_reducible exact H) | (have H2_ := (Option.bind_some _ _).symm.trans H; rw [hy379]; with_reducible exact H2_) | (have H2_ := (Option.bind_some _ _).symm.trans H; with_reducible exact H2_) | with_reducible exact H | (rw [hy379]; exact H) | exact H
    have Ny379 := Aside0.mk hy379
    clear hy379
    replace H := Option.bind_eq_some_iff.mp H
    obtain ⟨⟨t382, t383⟩, A350, H⟩ := H
    try dsimp only at H
    have A35 := Aside0.mk A350
    clear A350
    by_cases c36 : 0 ≤ t382
    ·rw [if_pos c36] at H
     have c36b0 : decide (0 ≤ t382) = true := decide_eq_true c36
     clear c36
     by_cases c37 : t382 < (y379.length : Int)
     ·rw [if_pos c37] at H
      have c37b0 : decide (t382 < (y379.length : Int)) = true := decide_eq_true c37
      clear c37
      simp only [Option.some.injEq, Prod.mk.injEq] at H
      obtain ⟨rfl, rfl⟩ := H
      go_enter Try.func12, Try.ntmps12
      try go_wp2_with (first | ((with_reducible refine gate_callee (f := 26) rfl ?_); refine goesL_ (some 8) rfl rfl Try.func26 zq19 rfl #[.slice A0 l0.length c0] rfl zq0 ?_; (with_reducible refine (spec_l1Open.calls _ _ l0 t351 t352 w _ ?side1 ?side2 ?side3 A2.out).mono ?_); (case side1 => repeat (first | (with_reducible first | exact HB.out | apply below_alloc | apply pw_below_drewN | apply below_drew1) | exact HB.out)); (case side2 => exact HR0.out); (case side3 => exact HC0.out); rintro e w38 ⟨g353, rfl, hi, hb, hb2⟩; refine ⟨_, rfl, ?_⟩; have n0_ := Aside0.mk (hb); have n1_ := Aside0.mk (hi); clear HB; have HB := n0_; have HI353 := n1_; clear n0_ n1_; (try clear hb); (try clear hb2); (try clear hk); (try clear hi)) | ((with_reducible refine gate_callee (f := 28) rfl ?_); refine goesL_ (some 10) rfl rfl Try.func28 zq19 rfl #[.pointer (some ⟨g353, 0, none⟩)] rfl zq0 ?_; (with_reducible refine (spec_l3Payloads.calls k g353 t351 t352 t354 t357 w _ ?side1 ?side2 A3.out).mono ?_); (case side1 => repeat (first | (with_reducible first | exact HI353.out | apply IsS98.alloc | apply IsS98.drewN | apply IsS98.drew | apply IsS98.set_1) | exact HI353.out)); (case side2 => repeat (first | (with_reducible first | exact HB.out | apply below_alloc | apply pw_below_drewN | apply below_drew1 | refine below_set ?_ (IsS98.ge HI353.out)) | exact HB.out)); rintro e w39 ⟨v355, rfl, ho0, hi, hb, hk⟩; refine ⟨_, rfl, ?_⟩; have n0_ := Aside0.mk (Kd.R_lower ho0 (below_size zq30)); have n1_ := Aside0.mk (hb); have n2_ := Aside0.mk (hi); clear HB; clear HI353; have HO356 := n0_; have HB := n1_; have HI353 := n2_; clear n0_ n1_ n2_; (try clear hb); (try clear hb2); (try clear hk); (try clear hi); (try clear ho0)) | ((with_reducible refine gate_callee (f := 29) rfl ?_); refine goesL_ (some 12) rfl rfl Try.func29 zq19 rfl #[.pointer (some ⟨g353, 0, none⟩), .int .i64 16] rfl zq0 ?_; (with_reducible refine (spec_l1Rd_pick.calls k g353 t351 t357 16 t358 t359 w _ ?side1 ?side2 A4.out).mono ?_); (case side1 => repeat (first | (with_reducible first | exact HI353.out | apply IsS98.alloc | apply IsS98.drewN | apply IsS98.drew | apply IsS98.set_1) | exact HI353.out)); (case side2 => repeat (first | (with_reducible first | exact HB.out | apply below_alloc | apply pw_below_drewN | apply below_drew1 | refine below_set ?_ (IsS98.ge HI353.out)) | exact HB.out)); rintro e w40 ⟨rfl, hi, hb, hk⟩; refine ⟨_, rfl, ?_⟩; have n0_ := Aside0.mk (Kd.R_mono (Kd.R_keep (IsS98.apart (show IsS98 w _ g353 t351 t357 from zq29) zq47 zq60) hk (fun _ h => h.2)) (fun _ h => h.1)); have n1_ := Aside0.mk (hb); have n2_ := Aside0.mk (hi); clear HO356; clear HB; clear HI353; have HO356 := n0_; have HB := n1_; have HI353 := n2_; clear n0_ n1_ n2_; (try clear hb); (try clear hb2); (try clear hk); (try clear hi)))
      have pi384 : (0 ≤ (t382 : Int)) = True := eq_true (of_decide_eq_true zq23)
      have qi384 : (t382 < (y379.length : Int)) = True := eq_true (of_decide_eq_true zq23)
      have n0_ := Aside0.mk (Kd.R_drew HO356.out)
      have n1_ := Aside0.mk (IsS98.drew HI353.out)
      have n2_ := Aside0.mk (below_drew1 HB.out)
      clear HO356
      clear HI353
      clear HB
      have HO356 := n0_
      have HI353 := n1_
      have HB := n2_
      clear n0_ n1_ n2_
      refine start_ (n := 8) (S := fun w' => True) (ds := []) #[false, false, false, false, false, false, false, false] zq19 rfl rfl trivial (fun hHeld => ?_); refine with_tabW spec_DrawEncode.tab11 spec_DrawEncode.bits11 (fun HT_ HW_ => ?_)
      generalize w40.drew = w41 at HO356 HI353 HB hHeld ⊢
      refine pure_ (i := 0) (N := some 38) (v := ?_) (a' := ?_) #[true, false, false, false, false, false, false, false] rfl rfl (any_of HT_.out zq19) (fun _ _ _ h => h) (Or.inl ⟨zq90, ?_⟩) ?_ ?_
      rotate_left
      ·intro w'
       go_simp
       with_reducible rfl
      rotate_left
      ·simp only [Act.put, List.setIfInBounds_toArray, List.set_cons_zero, List.set_cons_succ, i64_w, i32_w]
       rfl
      refine pure_ (i := 2) (N := some 40) (v := ?_) (a' := ?_) #[true, false, true, false, false, false, false, false] rfl rfl (any_of HT_.out zq19) (fun _ _ _ h => h) (Or.inl ⟨zq90, ?_⟩) ?_ ?_
      rotate_left
      ·intro w'
       go_simp
       with_reducible rfl
      rotate_left
      ·simp only [Act.put, List.setIfInBounds_toArray, List.set_cons_zero, List.set_cons_succ, i64_w, i32_w]
       rfl
      refine inv_at [1, 3, 4, 5, 6, 7] (fun a0_ b a w' => ∃ (v380 : Value) (adz_v380 : Addr) (m4_ : Value), a = putSel a0_ b [(1, 39, v380), (3, 41, .int .i64 t382), (4, 42, m4_), (5, 43, .int .i64 (rd y379 t382)), (6, 2, v355), (7, 3, .int .i64 (rd y379 t382))] ∧ (Kd.R Kd.string 9 w' w.heap.size (fun _ => True) v355 t354) ∧ (b 3 = false → IsS98 w w' g353 t351 t359) ∧ (Below w.heap.size w w') ∧ (b 1 = true → Kd.R (Kd.int .i64) 3 w' w.heap.size (fun _ => True) v380 y379) ∧ (b 1 = true → ∃ c_, (v380 : Value) = .slice (some adz_v380) y379.length c_) ∧ (b 3 = true → IsS98 w w' g353 t351 t383) ∧ (b 4 = true → (m4_ : Value) = .pointer (some (adz_v380.add (t382).toNat)))) HT_.out HW_.out zq19 zq19 ?_ ?_ ?_
      ·exact ⟨.bool false, ⟨0, 0, none⟩, .bool false, by simp only [putSel, Bool.false_eq_true, if_false], HO356.out, fun _ => HI353.out, HB.out, fun h_ => absurd h_ zq60, fun h_ => absurd h_ zq60, fun h_ => absurd h_ zq60, fun h_ => absurd h_ zq60⟩
      ·skip
       clear HB HI353 HO356
       refine steps_cons ?_ ?_
       ·rintro b a w' ⟨v380, adz_v380, m4_, ha, Q_HO356, Q_HI353, Q_HB, Q_HO381, Q_HA_HO381, Q_HI353_e3, Q_X4_⟩ hb_ hon hoff
        refine ⟨_, rfl, fun K hK => ?_⟩
        replace ha := Aside0.mk ha
        have HO356 := Aside0.mk Q_HO356
        have HB := Aside0.mk Q_HB
        refine Kd.R_lit_step (Kd.int .i64) _ 3 ?hg (N := 39) ?hd (xs := ([0, 9] : List Int)) (inner := [.int .i64 0, .int .i64 9]) (ok := fun _ => True) (okp := fun _ => True) ?hr ?hp (fun _ hk => hk) trivial (Below.refl _ _) (Nat.le_refl _) zq81 ?_; (case hd => rfl); (case hg => rfl); (case hr => first | (go_simp; done) | (go_simp; rfl)); (case hp => exact (Reps.one (show Kd.M (Kd.int .i64) _ _ _ 0 [.int .i64 0] from rfl) (Reps.one (show Kd.M (Kd.int .i64) _ _ _ 9 [.int .i64 9] from rfl) (Reps.none _ _))))
        intro v380 w42 ho43 hb hg_ hnew_
        clear hg_ hnew_
        (first | rw [← Ny379.out] at ho43 | (simp only [Int.reduceToNat] at ho43; rw [← Ny379.out] at ho43))
        have n0_ := Aside0.mk (Kd.R_below zq47 hb)
        have n1_ := Aside0.mk (Kd.R_lower ho43 (below_size zq1))
        have n3_ := Aside0.mk (below_step zq1 hb)
        have z_HI353 := fun (h0_ : b 3 = false) => (show IsS98 w w42 g353 t351 t359 from by first | exact (IsS98.below (by repeat (first | (with_reducible first | exact (Q_HI353 h0_) | apply IsS98.alloc | apply IsS98.drewN | apply IsS98.drew | apply IsS98.set_1) | exact (Q_HI353 h0_))) hb))
        have z_HI353_e3 := fun (h0_ : b 3 = true) => (show IsS98 w w42 g353 t351 t383 from by first | exact (IsS98.below (by repeat (first | (with_reducible first | exact (Q_HI353_e3 h0_) | apply IsS98.alloc | apply IsS98.drewN | apply IsS98.drew | apply IsS98.set_1) | exact (Q_HI353_e3 h0_))) hb))
        clear HO356
        clear HB
        have HO356 := n0_
        have HO381 := n1_
        have HB := n3_
        clear n0_ n1_ n3_
        clear hb ho43
        obtain ⟨Ao44, co44, eo44⟩ := Kd.R_slice HO381.out
        subst eo44
        obtain ⟨ado44, fo44, _⟩ := Kd.at_int (Kd.R_reads' HO381.out).2.2 0 zq60 (by rw [Ny379.out]; simp)
        cases fo44
        refine hK.out _ _ ⟨.slice (some ado44) y379.length co44, ado44, m4_, (by rw [ha.out]; exact putSel_upk 0 hb_ rfl rfl rfl), zq47, z_HI353, zq1, fun _ => (by (with_reducible repeat (first | apply Kd.R_alloc | apply Kd.R_drewN | apply Kd.R_drew)); exact HO381.out), fun _ => ⟨_, rfl⟩, z_HI353_e3, fun h0_ => absurd ((hoff 4 zq19).symm.trans h0_) zq60⟩
       refine steps_cons ?_ ?_
       ·rintro b a w' ⟨v380, adz_v380, m4_, ha, Q_HO356, Q_HI353, Q_HB, Q_HO381, Q_HA_HO381, Q_HI353_e3, Q_X4_⟩ hb_ hon hoff
        refine ⟨_, rfl, fun K hK => ?_⟩
        have e40 : a.tmps[40]? = some (.pointer (some ⟨g353, 0, none⟩)) := by rw [ha]; exact (putSel_off rfl).trans rfl
        replace ha := Aside0.mk ha
        have HO356 := Aside0.mk Q_HO356
        have HI353 := Aside0.mk (Q_HI353 hb_)
        have HB := Aside0.mk Q_HB
        refine goes_ Try.func29 zq19 rfl #[.pointer (some ⟨g353, 0, none⟩), .int .i64 2] zq90 rfl rfl (by first | (simp only [List.map_toArray, List.map_cons, List.map_nil, Act.eval, Array.getD_eq_getD_getElem?, Option.getD_some, e40]; done) | (simp only [List.map_toArray, List.map_cons, List.map_nil, Act.eval, Array.getD_eq_getD_getElem?, Option.getD_some, e40]; rfl)) ?_
        with_reducible refine (spec_l1Rd_pick.calls k g353 t351 t359 2 t382 t383 w _ ?side1 ?side2 A35.out).mono ?_
        (case side1 => repeat (first | (with_reducible first | exact HI353.out | apply IsS98.alloc | apply IsS98.drewN | apply IsS98.drew | apply IsS98.set_1) | exact HI353.out))
        (case side2 => repeat (first | (with_reducible first | exact HB.out | apply below_alloc | apply pw_below_drewN | apply below_drew1 | refine below_set ?_ (IsS98.ge HI353.out)) | exact HB.out))
        rintro e w42 ⟨rfl, hi, hb, hk⟩
        refine ⟨_, rfl, ?_⟩
        have n0_ := Aside0.mk (Kd.R_mono (Kd.R_keep (IsS98.apart (show IsS98 w _ g353 t351 t359 from zq29) zq47 zq60) hk (fun _ h => h.2)) (fun _ h => h.1))
        have n1_ := Aside0.mk (hb)
        have n2_ := Aside0.mk (hi)
        have z_HO381 := fun (h0_ : b 1 = true) => (show Kd.R (Kd.int .i64) 3 w42 w.heap.size (fun _ => True) v380 y379 from by first | exact (Kd.R_mono (Kd.R_keep (IsS98.apart (show IsS98 w _ g353 t351 t359 from zq29) zq102 zq60) hk (fun _ h => h.2)) (fun _ h => h.1)) | exact Kd.R_mono (Kd.R_mono (Kd.R_keep (IsS98.apart (show IsS98 w _ g353 t351 t359 from zq29) zq102 zq60) hk (fun _ h => h.2)) (fun _ h => h.1)) (fun _ h_ => by first | trivial | exact h_ | exact h_.1))
        clear HO356
        clear HB
        clear HI353
        have HO356 := n0_
        have HB := n1_
        have HI353 := n2_
        clear n0_ n1_ n2_
        (try clear hb)
        (try clear hb2)
        (try clear hk)
        (try clear hi)
        refine hK.out _ _ ⟨v380, adz_v380, m4_, (by rw [ha.out]; exact putSel_upk 1 hb_ rfl rfl rfl), zq47, fun h0_ => absurd ((up_self b 3).symm.trans h0_) zq60, zq30, z_HO381, Q_HA_HO381, fun _ => zq29, fun h0_ => absurd ((hoff 4 zq19).symm.trans h0_) zq60⟩
       refine steps_cons ?_ ?_
       ·rintro b a w' ⟨v380, adz_v380, m4_, ha, Q_HO356, Q_HI353, Q_HB, Q_HO381, Q_HA_HO381, Q_HI353_e3, Q_X4_⟩ hb_ hon hoff
        refine ⟨_, rfl, fun K hK => ?_⟩
        have e39 : a.tmps[39]? = some (v380) := by rw [ha]; exact putSel_on (e := (1, 39, v380)) 0 rfl rfl (hon 1 zq19) rfl
        have e41 : a.tmps[41]? = some (.int .i64 t382) := by rw [ha]; exact putSel_on (e := (3, 41, .int .i64 t382)) 1 rfl rfl (hon 3 zq19) rfl
        replace ha := Aside0.mk ha
        have HO356 := Aside0.mk Q_HO356
        have HB := Aside0.mk Q_HB
        have HO381 := Aside0.mk (Q_HO381 (hon 1 zq19))
        have HA_HO381 := Aside0.mk (Q_HA_HO381 (hon 1 zq19))
        have HI353 := Aside0.mk (Q_HI353_e3 (hon 3 zq19))
        obtain ⟨c_, hv_⟩ := HA_HO381.out
        rw [hv_] at e39
        refine value_ (w1 := w') (v := .pointer (some (adz_v380.add (t382).toNat))) zq90 rfl ?_ ?_
        ·go_simp
         (try simp only [i64_w])
         try rfl
        refine hK.out _ _ ⟨v380, adz_v380, (.pointer (some (adz_v380.add (t382).toNat))), (by rw [ha.out]; exact putSel_upk 2 hb_ rfl rfl rfl), Q_HO356, fun h0_ => absurd ((hon 3 zq19).symm.trans h0_) zq60, Q_HB, Q_HO381, Q_HA_HO381, Q_HI353_e3, fun _ => rfl⟩
       refine steps_cons ?_ ?_
       ·rintro b a w' ⟨v380, adz_v380, m4_, ha, Q_HO356, Q_HI353, Q_HB, Q_HO381, Q_HA_HO381, Q_HI353_e3, Q_X4_⟩ hb_ hon hoff
        refine ⟨_, rfl, fun K hK => ?_⟩
        have e42 : a.tmps[42]? = some (m4_) := by rw [ha]; exact putSel_on (e := (4, 42, m4_)) 2 rfl rfl (hon 4 zq19) rfl
        rw [Q_X4_ (hon 4 zq19)] at e42
        replace ha := Aside0.mk ha
        have HO356 := Aside0.mk Q_HO356
        have HB := Aside0.mk Q_HB
        have HO381 := Aside0.mk (Q_HO381 (hon 1 zq19))
        have HA_HO381 := Aside0.mk (Q_HA_HO381 (hon 1 zq19))
        have HI353 := Aside0.mk (Q_HI353_e3 (hon 3 zq19))
        obtain ⟨c_, hv_⟩ := HA_HO381.out
        have hF_ := HO381.out
        rw [hv_] at hF_
        obtain ⟨ad_, ea_, hx_⟩ := Kd.at_int (Kd.R_reads' hF_).2.2 t382 (of_eq_true pi384) (of_eq_true qi384)
        cases ea_
        refine value_ (w1 := w') (v := .int .i64 (rd y379 t382)) zq90 rfl ?_ ?_
        ·go_simp
         (try simp only [i64_w])
         try rfl
        refine hK.out _ _ ⟨v380, adz_v380, m4_, (by rw [ha.out]; exact putSel_upk 3 hb_ rfl rfl rfl), Q_HO356, fun h0_ => absurd ((hon 3 zq19).symm.trans h0_) zq60, Q_HB, Q_HO381, Q_HA_HO381, Q_HI353_e3, Q_X4_⟩
       refine steps_cons ?_ ?_
       ·rintro b a w' ⟨v380, adz_v380, m4_, ha, Q_HO356, Q_HI353, Q_HB, Q_HO381, Q_HA_HO381, Q_HI353_e3, Q_X4_⟩ hb_ hon hoff
        refine ⟨_, rfl, fun K hK => ?_⟩
        have e38 : a.tmps[38]? = some (v355) := by rw [ha]; exact (putSel_off rfl).trans rfl
        replace ha := Aside0.mk ha
        have HO356 := Aside0.mk Q_HO356
        have HB := Aside0.mk Q_HB
        have HI353 := Aside0.mk (Q_HI353_e3 (hon 3 zq19))
        refine value_ (w1 := w') (v := v355) zq90 rfl ?_ ?_
        ·go_simp
         (try simp only [i64_w])
         try rfl
        refine hK.out _ _ ⟨v380, adz_v380, m4_, (by rw [ha.out]; exact putSel_upk 4 hb_ rfl rfl rfl), Q_HO356, fun h0_ => absurd ((hon 3 zq19).symm.trans h0_) zq60, Q_HB, Q_HO381, Q_HA_HO381, Q_HI353_e3, Q_X4_⟩
       refine steps_cons ?_ ?_
       ·rintro b a w' ⟨v380, adz_v380, m4_, ha, Q_HO356, Q_HI353, Q_HB, Q_HO381, Q_HA_HO381, Q_HI353_e3, Q_X4_⟩ hb_ hon hoff
        refine ⟨_, rfl, fun K hK => ?_⟩
        have e43 : a.tmps[43]? = some (.int .i64 (rd y379 t382)) := by rw [ha]; exact putSel_on (e := (5, 43, .int .i64 (rd y379 t382))) 3 rfl rfl (hon 5 zq19) rfl
        replace ha := Aside0.mk ha
        have HO356 := Aside0.mk Q_HO356
        have HB := Aside0.mk Q_HB
        have HO381 := Aside0.mk (Q_HO381 (hon 1 zq19))
        have HA_HO381 := Aside0.mk (Q_HA_HO381 (hon 1 zq19))
        have HI353 := Aside0.mk (Q_HI353_e3 (hon 3 zq19))
        refine value_ (w1 := w') (v := .int .i64 (rd y379 t382)) zq90 rfl ?_ ?_
        ·go_simp
         (try simp only [i64_w])
         try rfl
        refine hK.out _ _ ⟨v380, adz_v380, m4_, (by rw [ha.out]; exact putSel_upk 5 hb_ rfl rfl rfl), Q_HO356, fun h0_ => absurd ((hon 3 zq19).symm.trans h0_) zq60, Q_HB, Q_HO381, Q_HA_HO381, Q_HI353_e3, Q_X4_⟩
       exact steps_nil
      rintro b a w46 hall ⟨v380, adz_v380, m4_, ha, Q_HO356, Q_HI353, Q_HB, Q_HO381, Q_HA_HO381, Q_HI353_e3, Q_X4_⟩
      clear HB HI353 HO356
      have hb1_ := hall 1 zq19
      have hb3_ := hall 3 zq19
      have hb4_ := hall 4 zq19
      have hb5_ := hall 5 zq19
      have hb6_ := hall 6 zq19
      have hb7_ := hall 7 zq19
      subst ha
      obtain rfl := Q_X4_ hb4_
      simp only [putSel, hb1_, hb3_, hb4_, hb5_, hb6_, hb7_, if_true, Act.put, List.setIfInBounds_toArray, List.set_cons_zero, List.set_cons_succ]
      have HO356 := Aside0.mk Q_HO356
      clear Q_HO356
      clear Q_HI353
      have HB := Aside0.mk Q_HB
      clear Q_HB
      have HO381 := Aside0.mk (Q_HO381 hb1_)
      clear Q_HO381
      have HA_HO381 := Aside0.mk (Q_HA_HO381 hb1_)
      clear Q_HA_HO381
      have HI353 := Aside0.mk (Q_HI353_e3 hb3_)
      clear Q_HI353_e3
      clear hall hb1_ hb3_ hb4_ hb5_ hb6_ hb7_
      obtain ⟨co47, eo47⟩ := HA_HO381.out
      clear HA_HO381
      subst eo47
      try go_wp2
      go_ret2
      exact ⟨_, zq8, zq47, zq30⟩
     ·rw [if_neg c37] at H
      exact absurd H zq81
    ·rw [if_neg c36] at H
     exact absurd H zq81
   ·rw [if_neg c34] at H
    have c34b0 : (t358 == 2) = false := beq_eq_false_iff_ne.mpr c34
    have c34b1 : (t358 != 2) = true := bne_iff_ne.mpr c34
    replace H := Option.bind_eq_some_iff.mp H
    obtain ⟨⟨t385, t386⟩, A480, H⟩ := H
    try dsimp only at H
    have A48 := Aside0.mk A480
    clear A480
    simp only [Option.some.injEq, Prod.mk.injEq] at H
    obtain ⟨rfl, rfl⟩ := H
    go_enter Try.func12, Try.ntmps12
    go_wp2_with (first | ((with_reducible refine gate_callee (f := 26) rfl ?_); refine goesL_ (some 8) rfl rfl Try.func26 zq19 rfl #[.slice A0 l0.length c0] rfl zq0 ?_; (with_reducible refine (spec_l1Open.calls _ _ l0 t351 t352 w _ ?side1 ?side2 ?side3 A2.out).mono ?_); (case side1 => repeat (first | (with_reducible first | exact HB.out | apply below_alloc | apply pw_below_drewN | apply below_drew1) | exact HB.out)); (case side2 => exact HR0.out); (case side3 => exact HC0.out); rintro e w49 ⟨g353, rfl, hi, hb, hb2⟩; refine ⟨_, rfl, ?_⟩; have n0_ := Aside0.mk (hb); have n1_ := Aside0.mk (hi); clear HB; have HB := n0_; have HI353 := n1_; clear n0_ n1_; (try clear hb); (try clear hb2); (try clear hk); (try clear hi)) | ((with_reducible refine gate_callee (f := 28) rfl ?_); refine goesL_ (some 10) rfl rfl Try.func28 zq19 rfl #[.pointer (some ⟨g353, 0, none⟩)] rfl zq0 ?_; (with_reducible refine (spec_l3Payloads.calls k g353 t351 t352 t354 t357 w _ ?side1 ?side2 A3.out).mono ?_); (case side1 => repeat (first | (with_reducible first | exact HI353.out | apply IsS98.alloc | apply IsS98.drewN | apply IsS98.drew | apply IsS98.set_1) | exact HI353.out)); (case side2 => repeat (first | (with_reducible first | exact HB.out | apply below_alloc | apply pw_below_drewN | apply below_drew1 | refine below_set ?_ (IsS98.ge HI353.out)) | exact HB.out)); rintro e w50 ⟨v355, rfl, ho0, hi, hb, hk⟩; refine ⟨_, rfl, ?_⟩; have n0_ := Aside0.mk (Kd.R_lower ho0 (below_size zq30)); have n1_ := Aside0.mk (hb); have n2_ := Aside0.mk (hi); clear HB; clear HI353; have HO356 := n0_; have HB := n1_; have HI353 := n2_; clear n0_ n1_ n2_; (try clear hb); (try clear hb2); (try clear hk); (try clear hi); (try clear ho0)) | ((with_reducible refine gate_callee (f := 29) rfl ?_); refine goesL_ (some 12) rfl rfl Try.func29 zq19 rfl #[.pointer (some ⟨g353, 0, none⟩), .int .i64 16] rfl zq0 ?_; (with_reducible refine (spec_l1Rd_pick.calls k g353 t351 t357 16 t358 t359 w _ ?side1 ?side2 A4.out).mono ?_); (case side1 => repeat (first | (with_reducible first | exact HI353.out | apply IsS98.alloc | apply IsS98.drewN | apply IsS98.drew | apply IsS98.set_1) | exact HI353.out)); (case side2 => repeat (first | (with_reducible first | exact HB.out | apply below_alloc | apply pw_below_drewN | apply below_drew1 | refine below_set ?_ (IsS98.ge HI353.out)) | exact HB.out)); rintro e w51 ⟨rfl, hi, hb, hk⟩; refine ⟨_, rfl, ?_⟩; have n0_ := Aside0.mk (Kd.R_mono (Kd.R_keep (IsS98.apart (show IsS98 w _ g353 t351 t357 from zq29) zq47 zq60) hk (fun _ h => h.2)) (fun _ h => h.1)); have n1_ := Aside0.mk (hb); have n2_ := Aside0.mk (hi); clear HO356; clear HB; clear HI353; have HO356 := n0_; have HB := n1_; have HI353 := n2_; clear n0_ n1_ n2_; (try clear hb); (try clear hb2); (try clear hk); (try clear hi)) | ((with_reducible refine gate_callee (f := 39) rfl ?_); refine goesL_ (some 46) rfl rfl Try.func39 zq19 rfl #[.pointer (some ⟨g353, 0, none⟩)] rfl zq0 ?_; (with_reducible refine (spec_l1Width.calls k g353 t351 t359 t385 t386 w _ ?side1 ?side2 A48.out).mono ?_); (case side1 => repeat (first | (with_reducible first | exact HI353.out | apply IsS98.alloc | apply IsS98.drewN | apply IsS98.drew | apply IsS98.set_1) | exact HI353.out)); (case side2 => repeat (first | (with_reducible first | exact HB.out | apply below_alloc | apply pw_below_drewN | apply below_drew1 | refine below_set ?_ (IsS98.ge HI353.out)) | exact HB.out)); rintro e w52 ⟨rfl, hi, hb, hk⟩; refine ⟨_, rfl, ?_⟩; have n0_ := Aside0.mk (Kd.R_mono (Kd.R_keep (IsS98.apart (show IsS98 w _ g353 t351 t359 from zq29) zq47 zq60) hk (fun _ h => h.2)) (fun _ h => h.1)); have n1_ := Aside0.mk (hb); have n2_ := Aside0.mk (hi); clear HO356; clear HB; clear HI353; have HO356 := n0_; have HB := n1_; have HI353 := n2_; clear n0_ n1_ n2_; (try clear hb); (try clear hb2); (try clear hk); (try clear hi)))
    go_ret2
    exact ⟨_, zq8, zq47, zq30⟩
end Go.Proofs.Ytgjipjffpodjlaa.K
